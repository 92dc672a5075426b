/- The program's pool walked: its state, next, ready, post, push. No conditions but those of each lemma. -/
import Derived.Test.YtoaimlpbliabdaaQFnExactEventsOfx0
import Derived.Test.YtoaimlpbliabdaaPlB
import Derived.Test.YtoaimlpbliabdaaPlA
import Derived.Deep.RegionLaw
namespace Go.Proofs.Ytoaimlpbliabdaa.QFnExactEventsOf
open Go.RowKit Go.Proofs.YtoaimlpbliabdaaW.PrintWords Go.Proofs.YtoaimlpbliabdaaW.PrintLast Go.Proofs.YtoaimlpbliabdaaW.PrintMore
attribute [local go_sem] max2_int min2_int max_two min_two max_three min_three max_four min_four   -- for this text's walks alone
set_option linter.unusedVariables false
set_option linter.unusedSimpArgs false


/-! ### impl_victim: function 109 -/
def impl_victim.l0 : Nat → Int → Int → List Int → List (List Int) → Int → Int → Option (Int)
  | 0, _, _, _, _, _, _ => none
  | k + 1, x1, x2, x7, x11, x12, x13 => if x13 < x12 then (if 0 ≤ x13 then (if x13 < (x11.length : Int) then (if x13 = x1 then (impl_victim.l0 k x1 x2 x7 x11 x12 (wrap64 (x13 + 1))) else (if ((rd_L1 x11 x13).length : Int) > 0 then (if x7.length < 17592186044416 then (impl_victim.l0 k x1 x2 (x7 ++ [x13]) x11 x12 (wrap64 (x13 + 1))) else (none)) else (impl_victim.l0 k x1 x2 x7 x11 x12 (wrap64 (x13 + 1))))) else (none)) else (none)) else (if (x7.length : Int) = 0 then (some (-1)) else (if 0 ≤ (Int.tmod x2 (x7.length : Int)) then (if (Int.tmod x2 (x7.length : Int)) < (x7.length : Int) then (some (rd x7 (Int.tmod x2 (x7.length : Int)))) else (none)) else (none)))
def impl_victim.f (k : Nat) (l0 : List (List Int)) (a1 : Int) (a2 : Int) : Option (Int) := impl_victim.l0 k a1 a2 (([] : List Int)) l0 (l0.length : Int) 0
theorem impl_victim.mono_l : ∀ k, (∀ y0 y1 y2 y3 y4 y5, LeO (impl_victim.l0 k y0 y1 y2 y3 y4 y5) (impl_victim.l0 (k + 1) y0 y1 y2 y3 y4 y5))
  | 0 => fun _ _ _ _ _ _ r h => by simp [impl_victim.l0] at h
  | k + 1 => by
    have ih0 := impl_victim.mono_l k
    · intro y0 y1 y2 y3 y4 y5
      unfold impl_victim.l0
      repeat' first
      | (with_reducible exact ih0 _ _ _ _ _ _)
      | (with_reducible exact LeO.refl _)
      | (with_reducible exact LeO.none _)
      | (with_reducible refine LeO.ite ?_ ?_)
      | (with_reducible refine LeO.bind ?_ (fun _ => ?_))
      | exact ih0 _ _ _ _ _ _
      | exact LeO.none _
      | refine LeO.ite ?_ ?_
      | refine LeO.bind ?_ (fun _ => ?_)
theorem impl_victim.mono : ∀ a0 a1 a2 k, LeO (impl_victim.f k a0 a1 a2) (impl_victim.f (k + 1) a0 a1 a2) := by
  intro a0 a1 a2 k
  have ih0 := impl_victim.mono_l k
  unfold impl_victim.f
  repeat' first
      | (with_reducible exact ih0 _ _ _ _ _ _)
      | (with_reducible exact LeO.refl _)
      | (with_reducible exact LeO.none _)
      | (with_reducible refine LeO.ite ?_ ?_)
      | (with_reducible refine LeO.bind ?_ (fun _ => ?_))
      | exact ih0 _ _ _ _ _ _
      | exact LeO.none _
      | refine LeO.ite ?_ ?_
      | refine LeO.bind ?_ (fun _ => ?_)
set_option maxHeartbeats 8000000 in
set_option maxRecDepth 100000 in
theorem impl_victim.calls (k : Nat) (A0 : Option Addr) (c0 : Nat) (l0 : List (List Int)) (a1 : Int) (a2 : Int) (r : Int) (w : World) (hr0 : Kd.C (Kd.slice 3 (Kd.int .i64)) w A0 l0.length l0) (hc0 : l0.length ≤ c0) (h : impl_victim.f k l0 a1 a2 = some r) :
    Calls Try.prog 109 #[.slice A0 l0.length c0, .int .i64 a1, .int .i64 a2] w fun e w' => e = .returned (.int .i64 r) ∧ Below w.heap.size w w' := by
  have HR0 := Aside0.mk hr0
  have HC0 := Aside0.mk hc0
  clear hr0 hc0
  have HB := Aside0.mk (Below.refl w.heap.size w)
  have H : (impl_victim.l0 k a1 a2 (([] : List Int)) l0 (l0.length : Int) 0) = some r := h
  clear h
  obtain ⟨y189, hy189⟩ : ∃ y_ : List Int, y_ = (([] : List Int)) := ⟨_, rfl⟩
  replace H : (impl_victim.l0 k a1 a2 y189 l0 (l0.length : Int) 0) = some r := by first | (rw [hy189]; with_reducible exact H) | (have H2_ := (Option.bind_some _ _).symm.trans H; rw [hy189]; with_reducible exact H2_) | (have H2_ := (Option.bind_some _ _).symm.trans H; with_reducible exact H2_) | with_reducible exact H | (rw [hy189]; exact H) | exact H
  have Ny189 := Aside0.mk hy189
  clear hy189
  have H' := Aside0.mk H
  clear H
  go_enter Try.func109, Try.ntmps109
  go_wp2_with (first | ((with_reducible refine gate_dst (N := 10) rfl ?_); (try (refine gate_guard (by rfl) ?_; dsimp only)); refine Kd.R_lit (Kd.int .i64) _ 3 ?hg (N := 10) ?hd (xs := ([] : List Int)) (inner := []) (ok := fun _ => True) (okp := fun _ => True) ?hr ?hp (fun _ hk => hk) trivial (Below.refl _ _) (Nat.le_refl _) (by simp) ?_; (case hd => rfl); (case hg => rfl); (case hr => first | (go_simp; done) | (go_simp; rfl)); (case hp => exact (Reps.none _ _)); intro v190 w4 ho5 hb hg_ hnew_; clear hg_ hnew_; (first | rw [← Ny189.out] at ho5 | (simp only [Int.reduceToNat] at ho5; rw [← Ny189.out] at ho5)); have n0_ := Aside0.mk (Kd.R_lower ho5 (below_size (by repeat (first | (with_reducible first | exact HB.out | apply below_alloc | apply pw_below_drewN | apply below_drew1) | exact HB.out)))); have n1_ := Aside0.mk (below_step (by repeat (first | (with_reducible first | exact HB.out | apply below_alloc | apply pw_below_drewN | apply below_drew1) | exact HB.out)) hb); clear HB; have HO191 := n0_; have HB := n1_; clear n0_ n1_; clear hb ho5))
  go_loopg [7, 13] k (fun kq v7 v13 w' => ∃ (x7_1 : List Int) (x13_1 : Int), v13 = .int .i64 x13_1 ∧ Aside0 (impl_victim.l0 kq a1 a2 x7_1 l0 (l0.length : Int) x13_1 = some r) ∧ Aside0 (kq ≤ k) ∧ Aside0 (Kd.R (Kd.int .i64) 3 w' w.heap.size (fun _ => True) v7 x7_1) ∧ Aside0 (Below w.heap.size w w'))
  case atStart => exact ⟨(y189), (0), (by first | rfl | (simp; done) | (simp [*]; done)), H', ⟨Nat.le_refl _⟩, ⟨by (with_reducible repeat (first | apply Kd.R_alloc | apply Kd.R_drewN | apply Kd.R_drew)); exact HO191.out⟩, ⟨by repeat (first | (with_reducible first | exact HB.out | apply below_alloc | apply pw_below_drewN | apply below_drew1) | exact HB.out)⟩⟩
  case round =>
    clear H'
    try clear c1
    try clear p2
    obtain ⟨x7_1, x13_1, rfl, HA, HK1, HO_7, HB⟩ := hrel
    cases gk with
    | zero => exact absurd HA.out (by simp [impl_victim.l0])
    | succ k1 =>
      have H := HA.out
      clear HA
      simp only [impl_victim.l0] at H
      by_cases c6 : x13_1 < (l0.length : Int)
      · rw [if_pos c6] at H
        have c6b0 : decide (x13_1 < (l0.length : Int)) = true := decide_eq_true c6
        clear c6
        by_cases c7 : 0 ≤ x13_1
        · rw [if_pos c7] at H
          have c7b0 : decide (0 ≤ x13_1) = true := decide_eq_true c7
          clear c7
          by_cases c8 : x13_1 < (l0.length : Int)
          · rw [if_pos c8] at H
            have c8b0 : decide (x13_1 < (l0.length : Int)) = true := decide_eq_true c8
            clear c8
            by_cases c9 : x13_1 = a1
            · rw [if_pos c9] at H
              have c9b0 : (x13_1 == a1) = true := beq_iff_eq.mpr c9
              have c9b1 : (x13_1 != a1) = false := bne_eq_false_iff_eq.mpr c9
              clear c9
              have H' := Aside0.mk H
              clear H
              have p192 : 0 ≤ (x13_1 : Int) := of_decide_eq_true (by first | (with_reducible assumption) | assumption)
              have q192 : x13_1 < (l0.length : Int) := of_decide_eq_true (by first | (with_reducible assumption) | assumption)
              obtain ⟨ad192, A192_0, c192_0, e192, hx192_0, hl192_0, hi192_0⟩ := at_L1 HR0.out x13_1 p192 q192
              cases e192
              replace hx192_0 := (HB.out.cell (World.block_lt_of_cell? w _ hx192_0)).trans hx192_0
              have HR192_0 := Aside0.mk hi192_0
              have HC192_0 := Aside0.mk hl192_0
              clear hi192_0 hl192_0
              replace p192 := eq_true p192
              replace q192 := eq_true q192
              go_wp2
              go_roundg k1
              case measure => have := HK1.out; omega
              case rel => exact ⟨(x7_1), (wrap64 (x13_1 + 1)), (by first | rfl | (simp; done) | (simp [*]; done)), H', ⟨by have := HK1.out; omega⟩, ⟨by (with_reducible repeat (first | apply Kd.R_alloc | apply Kd.R_drewN | apply Kd.R_drew)); exact HO_7.out⟩, ⟨by repeat (first | (with_reducible first | exact HB.out | apply below_alloc | apply pw_below_drewN | apply below_drew1) | exact HB.out)⟩⟩
            · rw [if_neg c9] at H
              have c9b0 : (x13_1 == a1) = false := beq_eq_false_iff_ne.mpr c9
              have c9b1 : (x13_1 != a1) = true := bne_iff_ne.mpr c9
              by_cases c10 : ((rd_L1 l0 x13_1).length : Int) > 0
              · rw [if_pos c10] at H
                have c10b0 : decide (0 < ((rd_L1 l0 x13_1).length : Int)) = true := decide_eq_true c10
                have c10b1 : decide (0 < (rd_L1 l0 x13_1).length) = true := decide_eq_true (by omega)
                clear c10
                by_cases c11 : x7_1.length < 17592186044416
                · rw [if_pos c11] at H
                  have LMc11 := Aside0.mk c11
                  clear c11
                  obtain ⟨y193, hy193⟩ : ∃ y_ : List Int, y_ = (x7_1 ++ [x13_1]) := ⟨_, rfl⟩
                  replace H : (impl_victim.l0 k1 a1 a2 y193 l0 (l0.length : Int) (wrap64 (x13_1 + 1))) = some r := by first | (rw [hy193]; with_reducible exact H) | (have H2_ := (Option.bind_some _ _).symm.trans H; rw [hy193]; with_reducible exact H2_) | (have H2_ := (Option.bind_some _ _).symm.trans H; with_reducible exact H2_) | with_reducible exact H | (rw [hy193]; exact H) | exact H
                  have Ny193 := Aside0.mk hy193
                  clear hy193
                  have H' := Aside0.mk H
                  clear H
                  have p192 : 0 ≤ (x13_1 : Int) := of_decide_eq_true (by first | (with_reducible assumption) | assumption)
                  have q192 : x13_1 < (l0.length : Int) := of_decide_eq_true (by first | (with_reducible assumption) | assumption)
                  obtain ⟨ad192, A192_0, c192_0, e192, hx192_0, hl192_0, hi192_0⟩ := at_L1 HR0.out x13_1 p192 q192
                  cases e192
                  replace hx192_0 := (HB.out.cell (World.block_lt_of_cell? w _ hx192_0)).trans hx192_0
                  have HR192_0 := Aside0.mk hi192_0
                  have HC192_0 := Aside0.mk hl192_0
                  clear hi192_0 hl192_0
                  replace p192 := eq_true p192
                  replace q192 := eq_true q192
                  go_wp2_with (first | ((with_reducible refine gate_builtin (b := .append) (xs := #[.tmp 26, .tmp 28]) rfl ?_); (try (refine gate_guard (by rfl) ?_; dsimp only)); at_builtin; refine Kd.R_append (Kd.int .i64) (w0 := w) w.heap.size rfl (.tmp 26) (.tmp 28) 32 3 (.int .i64 0) 8 rfl Try.underlying32 info3 rfl (by decide) (by omega) u7 x7_1 x13_1 [.int .i64 x13_1] (fun _ => True) (fun _ => False) rfl rfl ?aP (fun _ hk => hk.elim) ?aF ?aO ?aB ?aS ?aL ?_; (case aP => exact rfl); (case aB => exact (by repeat (first | (with_reducible first | exact HB.out | apply below_alloc | apply pw_below_drewN | apply below_drew1) | exact HB.out))); (case aF => exact (fun _ _ => trivial)); (case aO => exact (by (with_reducible repeat (first | apply Kd.R_alloc | apply Kd.R_drewN | apply Kd.R_drew)); exact HO_7.out)); (case aS => exact (below_size (by repeat (first | (with_reducible first | exact HB.out | apply below_alloc | apply pw_below_drewN | apply below_drew1) | exact HB.out)))); (case aL => have := LMc11.out; omega); intro v194 w12 ho hb hg hat; rw [← Ny193.out] at ho; have n0_ := Aside0.mk (hb); have n1_ := Aside0.mk (ho); clear HB; clear HO_7; have HB := n0_; have HO195 := n1_; clear n0_ n1_; clear ho hb hg hat))
                  go_roundg k1
                  case measure => have := HK1.out; omega
                  case rel => exact ⟨(y193), (wrap64 (x13_1 + 1)), (by first | rfl | (simp; done) | (simp [*]; done)), H', ⟨by have := HK1.out; omega⟩, ⟨by (with_reducible repeat (first | apply Kd.R_alloc | apply Kd.R_drewN | apply Kd.R_drew)); exact HO195.out⟩, ⟨by repeat (first | (with_reducible first | exact HB.out | apply below_alloc | apply pw_below_drewN | apply below_drew1) | exact HB.out)⟩⟩
                · rw [if_neg c11] at H
                  exact absurd H (by simp)
              · rw [if_neg c10] at H
                have c10b0 : decide (0 < ((rd_L1 l0 x13_1).length : Int)) = false := decide_eq_false c10
                have c10b1 : decide (0 < (rd_L1 l0 x13_1).length) = false := decide_eq_false (by omega)
                clear c10
                have H' := Aside0.mk H
                clear H
                have p192 : 0 ≤ (x13_1 : Int) := of_decide_eq_true (by first | (with_reducible assumption) | assumption)
                have q192 : x13_1 < (l0.length : Int) := of_decide_eq_true (by first | (with_reducible assumption) | assumption)
                obtain ⟨ad192, A192_0, c192_0, e192, hx192_0, hl192_0, hi192_0⟩ := at_L1 HR0.out x13_1 p192 q192
                cases e192
                replace hx192_0 := (HB.out.cell (World.block_lt_of_cell? w _ hx192_0)).trans hx192_0
                have HR192_0 := Aside0.mk hi192_0
                have HC192_0 := Aside0.mk hl192_0
                clear hi192_0 hl192_0
                replace p192 := eq_true p192
                replace q192 := eq_true q192
                go_wp2
                go_roundg k1
                case measure => have := HK1.out; omega
                case rel => exact ⟨(x7_1), (wrap64 (x13_1 + 1)), (by first | rfl | (simp; done) | (simp [*]; done)), H', ⟨by have := HK1.out; omega⟩, ⟨by (with_reducible repeat (first | apply Kd.R_alloc | apply Kd.R_drewN | apply Kd.R_drew)); exact HO_7.out⟩, ⟨by repeat (first | (with_reducible first | exact HB.out | apply below_alloc | apply pw_below_drewN | apply below_drew1) | exact HB.out)⟩⟩
          · rw [if_neg c8] at H
            exact absurd H (by simp)
        · rw [if_neg c7] at H
          exact absurd H (by simp)
      · rw [if_neg c6] at H
        have c6b0 : decide (x13_1 < (l0.length : Int)) = false := decide_eq_false c6
        clear c6
        by_cases c13 : (x7_1.length : Int) = 0
        · rw [if_pos c13] at H
          have c13b0 : ((x7_1.length : Int) == 0) = true := beq_iff_eq.mpr c13
          have c13b1 : ((x7_1.length : Int) != 0) = false := bne_eq_false_iff_eq.mpr c13
          clear c13
          obtain rfl := Option.some.inj H
          obtain ⟨Ao14, co14, eo14⟩ := Kd.R_slice HO_7.out
          subst eo14
          go_wp2
          go_ret
          exact ⟨by first | rfl | (simp [errW_none, errW_some] <;> rfl) | (simp [*, errW_none, errW_some] <;> rfl), by repeat (first | (with_reducible first | exact HB.out | apply below_alloc | apply pw_below_drewN | apply below_drew1) | exact HB.out)⟩
        · rw [if_neg c13] at H
          have c13b0 : ((x7_1.length : Int) == 0) = false := beq_eq_false_iff_ne.mpr c13
          have c13b1 : ((x7_1.length : Int) != 0) = true := bne_iff_ne.mpr c13
          have c13b2 : ¬ (x7_1 = []) := fun h_ => c13 (by rw [h_]; rfl)
          obtain ⟨ji15, hji15⟩ : ∃ j_ : Int, (Int.tmod a2 (x7_1.length : Int)) = j_ := ⟨_, rfl⟩
          replace H : (if 0 ≤ (ji15) then (if (ji15) < (x7_1.length : Int) then (some (rd x7_1 (ji15))) else (none)) else (none)) = some r := by first | (rw [hji15] at H; exact H) | (simp only [hji15] at H ⊢; exact H)
          by_cases c16 : 0 ≤ (ji15)
          · rw [if_pos c16] at H
            have c16b0 : decide (0 ≤ (ji15)) = true := decide_eq_true c16
            clear c16
            by_cases c17 : (ji15) < (x7_1.length : Int)
            · rw [if_pos c17] at H
              have c17b0 : decide ((ji15) < (x7_1.length : Int)) = true := decide_eq_true c17
              clear c17
              obtain rfl := Option.some.inj H
              obtain ⟨Ao18, co18, eo18⟩ := Kd.R_slice HO_7.out
              subst eo18
              have p196 : 0 ≤ ((ji15) : Int) := of_decide_eq_true (by first | (with_reducible assumption) | assumption)
              have q196 : (ji15) < (x7_1.length : Int) := of_decide_eq_true (by first | (with_reducible assumption) | assumption)
              obtain ⟨ad196, e196, hx196_0⟩ := Kd.at_int (Kd.R_reads' HO_7.out).2.2 (ji15) p196 q196
              cases e196
              replace p196 := eq_true p196
              replace q196 := eq_true q196
              go_wp2
              go_ret
              exact ⟨by first | rfl | (simp [errW_none, errW_some] <;> rfl) | (simp only [← hji15]; first | rfl | (simp [errW_none, errW_some] <;> rfl)) | (simp [*, errW_none, errW_some] <;> rfl), by repeat (first | (with_reducible first | exact HB.out | apply below_alloc | apply pw_below_drewN | apply below_drew1) | exact HB.out)⟩
            · rw [if_neg c17] at H
              exact absurd H (by simp)
          · rw [if_neg c16] at H
            exact absurd H (by simp)

-- NOT PRINTED: function 124 (impl_next)

-- NOT PRINTED: function 125 (impl_run_post)

-- NOT PRINTED: function 91 (impl_run_step)

end Go.Proofs.Ytoaimlpbliabdaa.QFnExactEventsOf
namespace Go.Proofs.Ytoaimlpbliabdaa.QFnExactEventsOf
open Go.RowKit Go.Proofs.YtoaimlpbliabdaaW.PrintWords Go.Proofs.YtoaimlpbliabdaaW.PrintLast Go.Proofs.YtoaimlpbliabdaaW.PrintMore PoolModel
set_option linter.unusedVariables false
set_option linter.unusedSimpArgs false

theorem ibelow_l0 (up : List Int) (t : Int) (hn : up.length ≤ 2000000) : ∀ (d i k : Nat) (acc : List Int), i ≤ up.length → up.length - i = d → d < k → acc.length ≤ i →
    impl_belowIn.l0 k t acc up (up.length : Int) (i : Int) = some (acc ++ idx (fun _ x => decide (x = t)) (up.drop i) i) := by
  intro d
  induction d with
  | zero =>
    intro i k acc hi hd hk ha
    obtain ⟨k, rfl⟩ : ∃ m, k = m + 1 := ⟨k - 1, by omega⟩
    simp only [impl_belowIn.l0]
    rw [if_neg (by omega), List.drop_eq_nil_of_le (by omega)]
    simp [idx]
  | succ d ih =>
    intro i k acc hi hd hk ha
    obtain ⟨k, rfl⟩ : ∃ m, k = m + 1 := ⟨k - 1, by omega⟩
    have hlt : i < up.length := by omega
    simp only [impl_belowIn.l0]
    rw [if_pos (by omega), if_pos (by omega), if_pos (by omega), wrap_up hlt hn, rd_at hlt, idx_drop _ _ hlt]
    by_cases e : up[i] = t
    · rw [if_pos e, if_pos (by omega), ih (i + 1) k _ (by omega) (by omega) (by omega) (by simp; omega), if_pos (by simpa using e)]
      simp
    · rw [if_neg e, ih (i + 1) k _ (by omega) (by omega) (by omega) (by omega), if_neg (by simpa using e)]
      simp
theorem ibelow_f {up : List Int} (t : Int) (hn : up.length ≤ 2000000) {k : Nat} (hk : up.length < k) : impl_belowIn.f k up t = some (belowIn up t) := by
  unfold impl_belowIn.f
  have := ibelow_l0 up t hn up.length 0 k [] (by omega) (by omega) hk (by simp)
  simpa [belowIn] using this

theorem ivictim_l0 (ds : List (List Int)) (w dr : Int) (h0 : 0 ≤ dr) (hn : ds.length ≤ 2000000) : ∀ (d i k : Nat) (acc : List Int), i ≤ ds.length → ds.length - i = d → d < k → acc.length ≤ i → ∀ R : List Int, acc ++ idx (fun i l => decide ((i : Int) ≠ w) && !l.isEmpty) (ds.drop i) i = R → 0 < R.length →
    impl_victim.l0 k w dr acc ds (ds.length : Int) (i : Int) = some (R.getD (dr % (R.length : Int)).toNat 0) := by
  intro d
  induction d with
  | zero =>
    intro i k acc hi hd hk ha R hR hp
    obtain ⟨k, rfl⟩ : ∃ m, k = m + 1 := ⟨k - 1, by omega⟩
    simp only [impl_victim.l0]
    rw [List.drop_eq_nil_of_le (by omega)] at hR
    have hR2 : acc = R := by rw [← hR]; simp [idx]
    subst hR2
    rw [if_neg (by omega), if_neg (by omega), Int.tmod_eq_emod_of_nonneg h0]
    have h1 := Int.emod_nonneg dr (b := (acc.length : Int)) (by omega)
    have h2 := Int.emod_lt_of_pos dr (b := (acc.length : Int)) (by omega)
    rw [if_pos h1, if_pos h2]
    rfl
  | succ d ih =>
    intro i k acc hi hd hk ha R hR hp
    obtain ⟨k, rfl⟩ : ∃ m, k = m + 1 := ⟨k - 1, by omega⟩
    have hlt : i < ds.length := by omega
    have hrd : rd_L1 ds (i : Int) = ds[i] := by simp [rd_L1, hlt]
    simp only [impl_victim.l0]
    rw [if_pos (by omega), if_pos (by omega), if_pos (by omega), wrap_up hlt hn, hrd]
    rw [idx_drop _ _ hlt] at hR
    by_cases e : (i : Int) = w
    · rw [if_pos e]
      rw [if_neg (by simp [e])] at hR
      exact ih (i + 1) k _ (by omega) (by omega) (by omega) (by omega) R hR hp
    · rw [if_neg e]
      by_cases e2 : ds[i] = []
      · rw [if_neg (by simp [e2])]
        rw [if_neg (by simp [e2])] at hR
        exact ih (i + 1) k _ (by omega) (by omega) (by omega) (by omega) R hR hp
      · have hp2 := List.length_pos_iff.2 e2
        rw [if_pos (by omega), if_pos (by omega)]
        rw [if_pos (by simp [e, e2])] at hR
        exact ih (i + 1) k _ (by omega) (by omega) (by omega) (by simp; omega) R (by rw [← hR]; simp) hp
theorem ivictim_f {ds : List (List Int)} (w dr : Int) (h0 : 0 ≤ dr) (hn : ds.length ≤ 2000000) {k : Nat} (hk : ds.length < k) (hp : 0 < (victims ds w).length) : impl_victim.f k ds w dr = some ((victims ds w).getD (dr % ((victims ds w).length : Int)).toNat 0) := by
  unfold impl_victim.f
  exact ivictim_l0 ds w dr h0 hn ds.length 0 k [] (by omega) (by omega) hk (by simp) (victims ds w) (by simp [victims]) hp

end Go.Proofs.Ytoaimlpbliabdaa.QFnExactEventsOf
namespace Go.Proofs.Ytoaimlpbliabdaa.QFnExactEventsOf
open Go.RowKit Go.Proofs.YtoaimlpbliabdaaW.PrintWords Go.Proofs.YtoaimlpbliabdaaW.PrintLast Go.Proofs.YtoaimlpbliabdaaW.PrintMore
set_option linter.unusedVariables false
set_option linter.unusedSimpArgs false

/-! The program's side: its state 'run'. -/
structure IS where
  decks : List (List Int)
  left : List Int
  pre : List Bool
  post : List Bool
  told : List S93
  steps : Int
  up : List Int
  picks : List Int
  draws : List Int

/-- A slice value of numbers that is read alone. -/
def ReadsV (w : World) (v : Value) (l : List Int) : Prop := ∃ A c, v = .slice A l.length c ∧ l.length ≤ c ∧ Kd.C (Kd.int .i64) w A l.length l

structure ImW (X : Nat → Prop) (w0 w : World) (g : Nat) (dv lv pv qv tv kv nv : Value) (uA : Option Addr) (uc : Nat) (s : IS) : Prop where
  blk : w.heap[g]? = some (.cells #[.slice uA s.up.length uc, dv, lv, pv, qv, tv, .int .i64 s.steps, kv, nv] 89 (0, 0))
  g0 : w0.heap.size ≤ g
  dk : Kd.S (Kd.slice 3 (Kd.int .i64)) 32 w w0.heap.size (fun k => some k ≠ lv.ownBlock ∧ ¬ X k) dv s.decks
  lf : Kd.R (Kd.int .i64) 3 w w0.heap.size (fun _ => True) lv s.left
  pr : Kd.R Kd.bool 4 w w0.heap.size (fun k => some k ≠ qv.ownBlock) pv s.pre
  po : Kd.R Kd.bool 4 w w0.heap.size (fun _ => True) qv s.post
  td : Kd.R k93 93 w w0.heap.size (fun _ => True) tv s.told
  up : Kd.C (Kd.int .i64) w0 uA s.up.length s.up
  upc : s.up.length ≤ uc
  pk : ReadsV w0 kv s.picks
  dr : ReadsV w0 nv s.draws
  bel : Below w0.heap.size w0 w

/-- Told has grown (at w1), and stands in the state. -/
theorem ImW.told_ {X : Nat → Prop} {w0 w w1 : World} {g : Nat} {dv lv pv qv tv v1 kv nv : Value} {uA : Option Addr} {uc : Nat} {s : IS} {told : List S93} (h : ImW X w0 w g dv lv pv qv tv kv nv uA uc s)
    (ho : Kd.R k93 93 w1 w0.heap.size (fun _ => True) v1 told) (hb : Below w0.heap.size w0 w1) (hg : w.grownBy w1 tv.ownBlock) (hblk : w1.heap[g]? = w.heap[g]?) :
    ImW X w0 (w1.setCell ⟨g, 5, none⟩ v1) g dv lv pv qv v1 kv nv uA uc { s with told := told } := by
  have hk := hblk.trans h.blk
  have hty := Kd.R_typed h.td
  refine ⟨?_, h.g0, ?_, ?_, ?_, ?_, ?_, h.up, h.upc, h.pk, h.dr, below_setCell hb h.g0⟩
  · rw [blk_set hk]; rfl
  · exact Kd.S_set (Kd.S_over' h.dk hty (by decide) hg) hk (by decide) _ _
  · exact Kd.R_set (Kd.R_over h.lf h.td (by decide) hg) hk (by decide) _ _
  · exact Kd.R_set (Kd.R_over h.pr h.td (by decide) hg) hk (by decide) _ _
  · exact Kd.R_set (Kd.R_over h.po h.td (by decide) hg) hk (by decide) _ _
  · exact Kd.R_set ho hk (by decide) _ _

/-- A deck's own row, lent. -/
theorem ImW.lend {X : Nat → Prop} {w0 w : World} {g : Nat} {dv lv pv qv tv kv nv : Value} {uA : Option Addr} {uc : Nat} {s : IS} (h : ImW X w0 w g dv lv pv qv tv kv nv uA uc s) (hX : ∀ k, X k → k < w.heap.size) (i : Nat) (hi : i < s.decks.length) :
    ∃ gd cap iv A c, dv = .slice (some ⟨gd, 0, none⟩) s.decks.length cap ∧ iv = .slice A (s.decks.getD i []).length c ∧ (s.decks.getD i []).length ≤ c ∧ w.cell? ⟨gd, i, none⟩ = some iv ∧ w.frozen? ⟨gd, i, none⟩ = false ∧ gd < w.heap.size ∧ gd ≠ g ∧ some gd ≠ iv.ownBlock ∧ some g ≠ iv.ownBlock ∧ (∀ k, X k → some k ≠ iv.ownBlock) ∧
      (Kd.int .i64).R 3 w w0.heap.size (fun k => k ≠ gd ∧ (some k = iv.ownBlock ∨ w.heap.size ≤ k)) iv (s.decks.getD i []) ∧
      ∀ (w1 : World) (v1 : Value) (row : List Int), (Kd.int .i64).R 3 w1 w0.heap.size (fun k => k ≠ gd ∧ (some k = iv.ownBlock ∨ w.heap.size ≤ k)) v1 row → Below w0.heap.size w0 w1 → w.grownBy w1 iv.ownBlock →
        w1.cell? ⟨gd, i, none⟩ = some iv ∧ w1.frozen? ⟨gd, i, none⟩ = false ∧ w1.heap[g]? = w.heap[g]? ∧ (∃ cells, w1.heap[gd]? = some (.cells cells 32 (0, 0))) ∧ ImW X w0 (w1.setCell ⟨gd, i, none⟩ v1) g dv lv pv qv tv kv nv uA uc { s with decks := s.decks.set i row } := by
  have hlv := Kd.R_lt h.lf
  have dk2 : Kd.S (Kd.slice 3 (Kd.int .i64)) 32 w w0.heap.size (fun k => (some k ≠ lv.ownBlock ∧ ¬ X k) ∧ ¬ (w.heap.size ≤ k)) dv s.decks := Kd.S_mono (Kd.S_bound h.dk) (fun k hk => ⟨hk.1, by have := hk.2.2.1; omega⟩)
  obtain ⟨gd, cap, rfl, hbase, hgl, cells, hcells⟩ := Kd.S_form dk2 (by omega)
  obtain ⟨oki, ce, hcl, hM, hcc, hfr, hoki, hH⟩ := Kd.S_elem dk2 [] (i : Int) (by omega) (by omega)
  obtain ⟨iv, rfl, hQ⟩ := hM
  have hQi : (Kd.int .i64).R 3 w w0.heap.size oki iv (s.decks.getD i []) := hQ
  obtain ⟨A, c, hiv, hAc⟩ : ∃ A c, iv = .slice A (s.decks.getD i []).length c ∧ (s.decks.getD i []).length ≤ c := by
    obtain ⟨A, c, e, hl, _⟩ := Kd.R_reads hQi
    exact ⟨A, c, e, hl⟩
  have hcell : w.cell? ⟨gd, i, none⟩ = some iv := by have := hcc 0 iv rfl; simpa [Kd.slice] using this
  have hgg : gd ≠ g := by
    rintro rfl
    have := hcells.symm.trans h.blk
    injection this with this
    injection this with _ h2 _
    exact absurd h2 (by decide)
  have hgi : some gd ≠ iv.ownBlock := fun e => (hoki gd (hQi.1 gd e.symm)).2 rfl
  have hgI : some g ≠ iv.ownBlock := Kd.R_ne hQi h.blk (by decide)
  refine ⟨gd, cap, iv, A, c, rfl, hiv, hAc, hcell, free_blk hcells i, hgl, hgg, hgi, hgI, fun k hx e => (hoki k (hQi.1 k e.symm)).1.1.2 hx, ⟨fun k hk => ⟨(hoki k (hQi.1 k hk)).2, .inl hk.symm⟩, hQi.2⟩, ?_⟩
  intro w1 v1 row hQ1 hb hg
  have hd1 : w1.heap[gd]? = some (.cells cells 32 (0, 0)) := (hg.block gd hgl hgi).trans hcells
  have hk1 := (hg.block g (blk_lt h.blk) hgI)
  have hty : ∀ k, iv.ownBlock = some k → ∃ cells, w.heap[k]? = some (.cells cells 3 (0, 0)) := Kd.R_typed hQi
  have hH1 := Kd.H_grown hH hg (fun k e => hQi.1 k e)
  have hS := Kd.S_seg (okg := fun k => w.heap.size ≤ k) (okp := fun k => k ≠ gd ∧ (some k = iv.ownBlock ∨ w.heap.size ≤ k)) (x' := row) (seg := [v1]) (j := 0) hH1 (by omega) (by omega) (Nat.le_refl 1) ⟨v1, rfl, hQ1⟩
    (fun k hk => hk.2.elim (fun e => .inl (hQi.1 k e.symm)) .inr) (fun k hk => ⟨⟨fun e => by have := hlv k e.symm; omega, fun hx => by have := hX k hx; omega⟩, by omega⟩)
  have hset : w1.setCells gd ((i : Int).toNat * (Kd.slice 3 (Kd.int .i64)).sz + 0) [v1] = w1.setCell ⟨gd, i, none⟩ v1 := by
    simp [World.setCells, Kd.slice]
  rw [hset] at hS
  refine ⟨(cell_blk hd1 i).trans ((cell_blk hcells i).symm.trans hcell), free_blk hd1 i, hk1, ⟨_, hd1⟩, ⟨?_, h.g0, ?_, ?_, ?_, ?_, ?_, h.up, h.upc, h.pk, h.dr, below_setCell hb hbase⟩⟩
  · rw [Below.heap_setCell w1 ⟨gd, i, none⟩ v1 g (Ne.symm hgg), hk1]; exact h.blk
  · exact hS.1
  · exact Kd.R_mono (Kd.R_set (Kd.R_grown (Kd.R_tight rfl h.lf) hg (fun k e he => (hoki k (hQi.1 k he.symm)).1.1.1 e)) hd1 (by decide) _ _) (fun _ _ => trivial)
  · exact Kd.R_set (Kd.R_over' h.pr hty (by decide) hg) hd1 (by decide) _ _
  · exact Kd.R_set (Kd.R_over' h.po hty (by decide) hg) hd1 (by decide) _ _
  · exact Kd.R_set (Kd.R_over' h.td hty (by decide) hg) hd1 (by decide) _ _

section
variable {X : Nat → Prop} {w0 w : World} {g : Nat} {dv lv pv qv tv kv nv : Value} {uA : Option Addr} {uc : Nat} {s : IS}
theorem ImW.below_ (h : ImW X w0 w g dv lv pv qv tv kv nv uA uc s) {w1 : World} (hb : Below w.heap.size w w1) : ImW X w0 w1 g dv lv pv qv tv kv nv uA uc s :=
  ⟨(hb.block g (blk_lt h.blk)).trans h.blk, h.g0, Kd.S_below h.dk hb, Kd.R_below h.lf hb, Kd.R_below h.pr hb, Kd.R_below h.po hb, Kd.R_below h.td hb, h.up, h.upc, h.pk, h.dr, below_then h.bel h.bel.size hb⟩
theorem ImW.drewN_ (h : ImW X w0 w g dv lv pv qv tv kv nv uA uc s) (n : Nat) : ImW X w0 (w.drewN n) g dv lv pv qv tv kv nv uA uc s := h.below_ (pw_below_drewN (Below.refl _ _) n)
theorem ImW.drew_ (h : ImW X w0 w g dv lv pv qv tv kv nv uA uc s) : ImW X w0 w.drew g dv lv pv qv tv kv nv uA uc s := h.below_ (below_drew (Below.refl _ _))
theorem ImW.set_ (h : ImW X w0 w g dv lv pv qv tv kv nv uA uc s) (j : Nat) (v : Value) (s' : IS) {kv' nv' : Value}
    (he : (#[.slice uA s.up.length uc, dv, lv, pv, qv, tv, .int .i64 s.steps, kv, nv] : Array Value).setIfInBounds j v = #[.slice uA s.up.length uc, dv, lv, pv, qv, tv, .int .i64 s'.steps, kv', nv'])
    (hs : s' = { s with steps := s'.steps, picks := s'.picks, draws := s'.draws }) (hp : ReadsV w0 kv' s'.picks) (hd : ReadsV w0 nv' s'.draws) : ImW X w0 (w.setCell ⟨g, j, none⟩ v) g dv lv pv qv tv kv' nv' uA uc s' := by
  have hk := h.blk
  rw [hs]
  refine ⟨?_, h.g0, Kd.S_set h.dk hk (by decide) _ _, Kd.R_set h.lf hk (by decide) _ _, Kd.R_set h.pr hk (by decide) _ _, Kd.R_set h.po hk (by decide) _ _, Kd.R_set h.td hk (by decide) _ _, h.up, h.upc, hp, hd, below_setCell h.bel h.g0⟩
  rw [blk_set hk, he]
theorem ImW.steps_ (h : ImW X w0 w g dv lv pv qv tv kv nv uA uc s) (d : Int) : ImW X w0 (w.setCell ⟨g, 6, none⟩ (.int .i64 d)) g dv lv pv qv tv kv nv uA uc { s with steps := d } := h.set_ 6 _ _ rfl rfl h.pk h.dr
theorem ImW.picks_ (h : ImW X w0 w g dv lv pv qv tv kv nv uA uc s) {v : Value} {l : List Int} (hv : ReadsV w0 v l) : ImW X w0 (w.setCell ⟨g, 7, none⟩ v) g dv lv pv qv tv v nv uA uc { s with picks := l } := h.set_ 7 _ _ rfl rfl hv h.dr
theorem ImW.draws_ (h : ImW X w0 w g dv lv pv qv tv kv nv uA uc s) {v : Value} {l : List Int} (hv : ReadsV w0 v l) : ImW X w0 (w.setCell ⟨g, 8, none⟩ v) g dv lv pv qv tv kv v uA uc { s with draws := l } := h.set_ 8 _ _ rfl rfl h.pk hv
theorem ImW.excl (h : ImW (fun _ => False) w0 w g dv lv pv qv tv kv nv uA uc s) {w1 : World} (hb : Below w.heap.size w w1) {v : Value} (hbase : ∀ k, v.ownBlock = some k → w.heap.size ≤ k) : ImW (fun k => some k = v.ownBlock) w0 w1 g dv lv pv qv tv kv nv uA uc s :=
  have h1 := h.below_ hb
  ⟨h1.blk, h1.g0, Kd.S_mono (Kd.S_elder' h.dk hbase hb) (fun _ hk => ⟨hk.1.1, hk.2⟩), h1.lf, h1.pr, h1.po, h1.td, h1.up, h1.upc, h1.pk, h1.dr, h1.bel⟩
theorem ImW.free (h : ImW X w0 w g dv lv pv qv tv kv nv uA uc s) : ImW (fun _ => False) w0 w g dv lv pv qv tv kv nv uA uc s :=
  ⟨h.blk, h.g0, Kd.S_mono h.dk (fun _ hk => ⟨hk.1, fun h => h⟩), h.lf, h.pr, h.po, h.td, h.up, h.upc, h.pk, h.dr, h.bel⟩
theorem ImW.pre_ (h : ImW X w0 w g dv lv pv qv tv kv nv uA uc s) (t : Nat) (ht : t < s.pre.length) :
    ∃ gp cap, pv = .slice (some ⟨gp, 0, none⟩) s.pre.length cap ∧ w.cell? ⟨gp, t, none⟩ = some (.bool (rdOf false s.pre (t : Int))) ∧ w.frozen? ⟨gp, t, none⟩ = false ∧ gp < w.heap.size ∧ gp ≠ g ∧
      ImW X w0 (w.setCell ⟨gp, t, none⟩ (.bool true)) g dv lv pv qv tv kv nv uA uc { s with pre := s.pre.set t true } := by
  obtain ⟨gp, cap, rfl, hb, hl, cells, hcells⟩ := Kd.R_form h.pr (by omega)
  obtain ⟨hc, hf⟩ := Kd.R_cell false h.pr (t : Int) (by omega) (by omega)
  obtain ⟨hR, hg⟩ := Kd.R_put h.pr (t : Int) true
  have hgg : gp ≠ g := by
    rintro rfl
    have := hcells.symm.trans h.blk
    injection this with this
    injection this with _ h2 _
    exact absurd h2 (by decide)
  have hty : ∀ k, (Value.slice (some ⟨gp, 0, none⟩) s.pre.length cap).ownBlock = some k → ∃ cells, w.heap[k]? = some (.cells cells 4 (0, 0)) := Kd.R_typed h.pr
  have hg2 : w.grownBy (w.setCell ⟨gp, t, none⟩ (.bool true)) (Value.slice (some ⟨gp, 0, none⟩) s.pre.length cap).ownBlock := hg
  refine ⟨gp, cap, rfl, hc, hf, hl, hgg, ⟨?_, h.g0, Kd.S_over' h.dk hty (by decide) hg2, Kd.R_over' h.lf hty (by decide) hg2, hR, ?_, Kd.R_over' h.td hty (by decide) hg2, h.up, h.upc, h.pk, h.dr, below_setCell h.bel hb⟩⟩
  · rw [Below.heap_setCell w ⟨gp, t, none⟩ _ g (Ne.symm hgg)]; exact h.blk
  · exact Kd.R_mono (Kd.R_grown (Kd.R_tight rfl h.po) hg (fun k e he => h.pr.1 gp rfl (by rw [← e, he]))) (fun _ _ => trivial)
theorem ImW.post_ (h : ImW X w0 w g dv lv pv qv tv kv nv uA uc s) (t : Nat) (ht : t < s.post.length) :
    ∃ gp cap, qv = .slice (some ⟨gp, 0, none⟩) s.post.length cap ∧ w.cell? ⟨gp, t, none⟩ = some (.bool (rdOf false s.post (t : Int))) ∧ w.frozen? ⟨gp, t, none⟩ = false ∧ gp < w.heap.size ∧ gp ≠ g ∧
      ImW X w0 (w.setCell ⟨gp, t, none⟩ (.bool true)) g dv lv pv qv tv kv nv uA uc { s with post := s.post.set t true } := by
  obtain ⟨gp, cap, rfl, hb, hl, cells, hcells⟩ := Kd.R_form h.po (by omega)
  obtain ⟨hc, hf⟩ := Kd.R_cell false h.po (t : Int) (by omega) (by omega)
  obtain ⟨hR, hg⟩ := Kd.R_put h.po (t : Int) true
  have hgg : gp ≠ g := by
    rintro rfl
    have := hcells.symm.trans h.blk
    injection this with this
    injection this with _ h2 _
    exact absurd h2 (by decide)
  have hty : ∀ k, (Value.slice (some ⟨gp, 0, none⟩) s.post.length cap).ownBlock = some k → ∃ cells, w.heap[k]? = some (.cells cells 4 (0, 0)) := Kd.R_typed h.po
  have hg2 : w.grownBy (w.setCell ⟨gp, t, none⟩ (.bool true)) (Value.slice (some ⟨gp, 0, none⟩) s.post.length cap).ownBlock := hg
  refine ⟨gp, cap, rfl, hc, hf, hl, hgg, ⟨?_, h.g0, Kd.S_over' h.dk hty (by decide) hg2, Kd.R_over' h.lf hty (by decide) hg2, ?_, hR, Kd.R_over' h.td hty (by decide) hg2, h.up, h.upc, h.pk, h.dr, below_setCell h.bel hb⟩⟩
  · rw [Below.heap_setCell w ⟨gp, t, none⟩ _ g (Ne.symm hgg)]; exact h.blk
  · exact Kd.R_grown h.pr hg (fun k hk he => hk (by rw [he]; rfl))
theorem ImW.left_ (h : ImW X w0 w g dv lv pv qv tv kv nv uA uc s) (t : Nat) (ht : t < s.left.length) :
    ∃ gp cap, lv = .slice (some ⟨gp, 0, none⟩) s.left.length cap ∧ w.cell? ⟨gp, t, none⟩ = some (.int .i64 (rdOf 0 s.left (t : Int))) ∧ w.frozen? ⟨gp, t, none⟩ = false ∧ gp < w.heap.size ∧ gp ≠ g ∧
      ∀ x : Int, ImW X w0 (w.setCell ⟨gp, t, none⟩ (.int .i64 x)) g dv lv pv qv tv kv nv uA uc { s with left := s.left.set t x } := by
  obtain ⟨gp, cap, rfl, hb, hl, cells, hcells⟩ := Kd.R_form h.lf (by omega)
  obtain ⟨hc, hf⟩ := Kd.R_cell 0 h.lf (t : Int) (by omega) (by omega)
  have hgg : gp ≠ g := by
    rintro rfl
    have := hcells.symm.trans h.blk
    injection this with this
    injection this with _ h2 _
    exact absurd h2 (by decide)
  refine ⟨gp, cap, rfl, hc, hf, hl, hgg, fun x => ?_⟩
  obtain ⟨hR, hg⟩ := Kd.R_put h.lf (t : Int) x
  have hty : ∀ k, (Value.slice (some ⟨gp, 0, none⟩) s.left.length cap).ownBlock = some k → ∃ cells, w.heap[k]? = some (.cells cells 3 (0, 0)) := Kd.R_typed h.lf
  have hg2 : w.grownBy (w.setCell ⟨gp, t, none⟩ (.int .i64 x)) (Value.slice (some ⟨gp, 0, none⟩) s.left.length cap).ownBlock := hg
  refine ⟨?_, h.g0, Kd.S_grown h.dk hg (fun k hk he => hk.1 (by rw [he]; rfl)), hR, Kd.R_over' h.pr hty (by decide) hg2, Kd.R_over' h.po hty (by decide) hg2, Kd.R_over' h.td hty (by decide) hg2, h.up, h.upc, h.pk, h.dr, below_setCell h.bel hb⟩
  rw [Below.heap_setCell w ⟨gp, t, none⟩ _ g (Ne.symm hgg)]; exact h.blk
end

open PoolModel in
def IS.of (up picks draws : List Int) (p : PSt) : IS := { decks := p.decks, left := p.left, pre := p.pre, post := p.post, told := p.told.map evS, steps := (p.steps : Int), up := up, picks := picks.drop p.steps, draws := draws.drop p.drawn }

end Go.Proofs.Ytoaimlpbliabdaa.QFnExactEventsOf
namespace Go.Proofs.Ytoaimlpbliabdaa.QFnExactEventsOf
open Go.RowKit Go.Proofs.YtoaimlpbliabdaaW.PrintWords Go.Proofs.YtoaimlpbliabdaaW.PrintLast Go.Proofs.YtoaimlpbliabdaaW.PrintMore
set_option linter.unusedVariables false
set_option linter.unusedSimpArgs false

theorem cutC {ad : Addr} {n c : Nat} {xs : List Int} (hn : n = xs.length) (h1 : 1 ≤ n) (hc : n ≤ c) :
    ∃ A, (∀ W : World, (Instr.slice 32 (.slice (some ad) n c) (some (.int .i64 1)) none none).run Try.prog W = .ok (.slice A (n - 1) (c - 1)) W) ∧ ∀ w, Kd.C (Kd.int .i64) w (some ad) xs.length xs → Kd.C (Kd.int .i64) w A (xs.drop 1).length (xs.drop 1) := by
  obtain ⟨i0, hi, _, hsz, _⟩ := info_parts info3
  exact ⟨_, fun W => cut_from (P := Try.prog) 32 3 .i64 Try.underlying32 hi 1 hsz (some ad) n c 1 (by omega) (by omega) W, fun w h => Kd.C_drop h (m := 1) (by omega) (c := c) (by omega)⟩

set_option maxRecDepth 100000 in
set_option maxHeartbeats 2000000 in
theorem next_calls {w : World} {g j : Nat} {A : Option Addr} {c : Nat} {l : List Int} (hcell : w.cell? ⟨g, j, none⟩ = some (.slice A l.length c)) (hf : w.frozen? ⟨g, j, none⟩ = false) (hl : l.length ≤ c) (hr : Kd.C (Kd.int .i64) w A l.length l) (hb : l.length < 1000) :
    Calls Try.prog 124 #[.pointer (some ⟨g, j, none⟩)] w fun e w' => e = .returned (.int .i64 (l.getD 0 0)) ∧ ((l = [] ∧ w' = w) ∨ ∃ A', w' = w.setCell ⟨g, j, none⟩ (.slice A' (l.drop 1).length (c - 1)) ∧ ∀ W, Kd.C (Kd.int .i64) W A l.length l → Kd.C (Kd.int .i64) W A' (l.drop 1).length (l.drop 1)) := by
  cases l with
  | nil =>
    clear hr
    go_enter Try.func124, Try.ntmps124
    go_wp2_with fail
    go_ret
    first | exact ⟨rfl, .inl ⟨rfl, rfl⟩⟩ | simp
  | cons x l =>
    obtain ⟨ad, hA, cl⟩ := Kd.at_int hr 0 (by omega) (by simp)
    subst hA
    have cl' : w.cell? ad = some (.int .i64 x) := cl
    obtain ⟨A', hcut, hC⟩ := cutC (ad := ad) (c := c) (xs := x :: l) rfl (by simp) hl
    have HC := Aside0.mk hC
    have hlen : ((x :: l).drop 1).length = (x :: l).length - 1 := by simp
    rw [show (x :: l).length = l.length + 1 from rfl] at *
    have HL := Aside0.mk hlen
    clear hr cl hC hlen
    generalize hN : l.length = N at *
    have HN := Aside0.mk hN
    clear hN
    have h1 : (1 : Int) ≤ ((N + 1 : Nat) : Int) := by omega
    have h2 : ((N + 1 : Nat) : Int) ≤ (c : Int) := by omega
    go_enter Try.func124, Try.ntmps124
    go_wp2_with fail
    go_ret
    trace_state
    refine ⟨rfl, .inr ⟨A', ?_, HC.out⟩⟩
    rw [HL.out]
    rfl

end Go.Proofs.Ytoaimlpbliabdaa.QFnExactEventsOf
namespace Go.Proofs.Ytoaimlpbliabdaa.QFnExactEventsOf
open Go.RowKit Go.Proofs.YtoaimlpbliabdaaW.PrintWords Go.Proofs.YtoaimlpbliabdaaW.PrintLast Go.Proofs.YtoaimlpbliabdaaW.PrintMore
set_option linter.unusedVariables false
set_option linter.unusedSimpArgs false

def upTo (n : Nat) : List Int := (List.range n).map fun (i : Nat) => (i : Int)
theorem upTo_len (n : Nat) : (upTo n).length = n := by simp [upTo]
theorem upTo_succ (n : Nat) : upTo (n + 1) = upTo n ++ [(n : Int)] := by simp [upTo, List.range_succ]
theorem upTo_rd {n i : Nat} (h : i < n) : rd (upTo n) (i : Int) = (i : Int) := by
  unfold rd upTo
  rw [List.getD_eq_getElem?_getD, Int.toNat_natCast, List.getElem?_map, List.getElem?_range h]
  rfl
/-- The workers that are ready. -/
def readyL (decks : List (List Int)) : List Int := if (decks.any fun l => !l.isEmpty) = true then upTo decks.length else []
theorem readyL_on {decks : List (List Int)} {k : Nat} (h : 0 < (decks.getD k []).length) : readyL decks = upTo decks.length := by
  unfold readyL
  rw [if_pos]
  rw [List.any_eq_true]
  by_cases hk : k < decks.length
  · refine ⟨decks[k], List.getElem_mem hk, ?_⟩
    rw [List.getD_eq_getElem?_getD, List.getElem?_eq_getElem hk] at h
    have : decks[k] ≠ [] := fun e => by rw [e] at h; simp at h
    simpa using this
  · rw [List.getD_eq_getElem?_getD, List.getElem?_eq_none (by omega)] at h
    simp at h
theorem readyL_off {decks : List (List Int)} (h : ∀ k, k < decks.length → (decks.getD k []).length = 0) : readyL decks = [] := by
  unfold readyL
  rw [if_neg]
  rw [List.any_eq_true]
  rintro ⟨l, hl, hp⟩
  obtain ⟨k, hk, rfl⟩ := List.mem_iff_getElem.1 hl
  have := h k hk
  rw [List.getD_eq_getElem?_getD, List.getElem?_eq_getElem hk] at this
  have : decks[k] = [] := List.eq_nil_of_length_eq_zero this
  rw [this] at hp
  simp at hp

set_option maxRecDepth 100000 in
set_option maxHeartbeats 2000000 in
theorem iready_calls {w0 w : World} {g : Nat} {dv lv pv qv tv kv nv : Value} {uA : Option Addr} {uc : Nat} {s : IS} (h : ImW (fun _ => False) w0 w g dv lv pv qv tv kv nv uA uc s) (n : Nat) (hn : s.decks.length = n) (hn0 : 0 < n) (hnb : n < 1000) (hdb : ∀ k, (s.decks.getD k []).length < 1000) :
    Calls Try.prog 88 #[.pointer (some ⟨g, 0, none⟩)] w fun e w' => ∃ v, e = .returned v ∧ Kd.R (Kd.int .i64) 3 w' w.heap.size (fun _ => True) v (readyL s.decks) ∧ Below w.heap.size w w' := by
  have HS := Aside0.mk h
  obtain ⟨gd, cap, _, _, _, hdv, -, -, -, -, hgl, -, -, -, -, -, -⟩ := h.lend (fun _ hx => hx.elim) 0 (by omega)
  subst hdv
  rw [hn] at HS
  have c1 : w.cell? ⟨g, 1, none⟩ = some (.slice (some ⟨gd, 0, none⟩) n cap) := by rw [← hn]; exact cell_blk h.blk 1
  have hglt := blk_lt h.blk
  have HN := Aside0.mk hn
  have HDB := Aside0.mk hdb
  clear hdb hn h
  go_enter Try.func88, Try.ntmps88
  go_wp2_with (first | ((with_reducible refine gate_dst (N := 7) rfl ?_); refine Kd.R_lit (Kd.int .i64) _ 3 ?hg (N := 7) ?hd (xs := ([] : List Int)) (inner := []) (ok := fun _ => True) (okp := fun _ => True) ?hr ?hp (fun _ hk => hk) trivial (Below.refl _ _) (Nat.le_refl _) (by simp) ?_; (case hd => rfl); (case hg => rfl); (case hr => first | (go_simp; done) | (go_simp; rfl)); (case hp => exact (Reps.none _ _)); intro v7 w3 ho4 hb hg_ hnew_; clear hg_ hnew_; have HO := Aside0.mk ho4; have HB := Aside0.mk hb; have c1' := (hb.cell (p := ⟨g, 1, none⟩) hglt).trans c1; clear hb ho4))
  go_loopg [3, 14] (n + 1) (fun kq v3 v14 w' => ∃ k : Nat, v14 = .int .i64 (k : Int) ∧ k ≤ n ∧ kq + k = n + 1 ∧ Aside0 (Kd.R (Kd.int .i64) 3 w' w.heap.size (fun _ => True) v3 []) ∧ Aside0 (Below w.heap.size w w') ∧ Aside0 (∀ j, j < k → (s.decks.getD j []).length = 0))
  case atStart => exact ⟨0, rfl, by omega, by omega, HO, HB, ⟨fun j hj => by omega⟩⟩
  case round =>
    clear HO HB c1'
    obtain ⟨k, rfl, hkn, hkq, HR, HB, HZ⟩ := hrel
    by_cases hlt : k < n
    · have q := (HS.out.below_ HB.out).lend (fun _ hx => hx.elim) k (by rw [HN.out]; exact hlt)
      rw [HN.out] at q
      obtain ⟨gd', cap', iv, A, c, hdv, hiv, hAc, hcell, -, hgl4, -, -, -, -, -, -⟩ := q
      injection hdv with ha1 ha2 ha3
      injection ha1 with ha1
      injection ha1 with ha1 _ _
      subst ha1 hiv
      have c1r : wr.cell? ⟨g, 1, none⟩ = some (.slice (some ⟨gd, 0, none⟩) n cap) := (HB.out.cell (p := ⟨g, 1, none⟩) hglt).trans c1
      have hLb : (s.decks.getD k []).length < 1000 := HDB.out k
      have hk1 : (k : Int) < (n : Int) := by omega
      have hk0 : (0 : Int) ≤ (k : Int) := by omega
      clear ha2 ha3
      generalize hL : (s.decks.getD k []).length = L at *
      have HLL := Aside0.mk hL
      clear hL
      by_cases hpos : 0 < L
      · go_wp2_with fail
        go_loopg [3, 27] (n + 1) (fun kq v3 v27 w' => ∃ j : Nat, v27 = .int .i64 (j : Int) ∧ j ≤ n ∧ kq + j = n + 1 ∧ Aside0 (Kd.R (Kd.int .i64) 3 w' w.heap.size (fun _ => True) v3 (upTo j)) ∧ Aside0 (Below w.heap.size w w'))
        case atStart => exact ⟨0, rfl, by omega, by omega, HR, HB⟩
        case round =>
          clear HR HB c1r hcell
          obtain ⟨j, rfl, hjn, hjq, HR, HB⟩ := hrel
          by_cases hlj : j < n
          · have hj1 : (j : Int) < (n : Int) := by omega
            have hul : (upTo j).length = j := upTo_len j
            have HRR := HR
            have HBB := HB
            have HUS := Aside0.mk (upTo_succ j)
            generalize hU : upTo j = U at *
            go_wp2_with ((with_reducible refine gate_builtin (b := .append) (xs := #[.tmp 30, .tmp 32]) rfl ?_); at_builtin; refine Kd.R_append (Kd.int .i64) (w0 := w) w.heap.size rfl (.tmp 30) (.tmp 32) 32 3 (.int .i64 0) 8 rfl Try.underlying32 info3 rfl (by decide) (by omega) u3 U (j : Int) [.int .i64 (j : Int)] (fun _ => True) (fun _ => False) rfl rfl rfl (fun _ hk => hk.elim) (fun _ _ => trivial) ?aO ?aB ?aS ?aL ?_; (case aO => exact HRR.out); (case aB => exact HBB.out); (case aS => exact HBB.out.size); (case aL => omega); intro v1 w1 ho hb hg hat; have HO1 := Aside0.mk ho; have HB1 := Aside0.mk hb; clear ho hb hg hat)
            go_roundg (gk - 1)
            case measure => omega
            case rel =>
              refine ⟨j + 1, by go_num, by omega, by omega, ⟨?_⟩, ⟨HB1.out⟩⟩
              have q := HO1.out
              rw [HUS.out]
              exact q
          · obtain rfl : j = n := by omega
            go_wp2_with fail
            go_ret
            refine ⟨_, rfl, ?_, HB.out⟩
            rw [readyL_on (k := k) (by rw [HLL.out]; exact hpos), HN.out]
            exact HR.out
      · obtain rfl : L = 0 := by omega
        go_wp2_with fail
        go_roundg (gk - 1)
        case measure => omega
        case rel =>
          refine ⟨k + 1, by go_num, by omega, by omega, HR, HB, ⟨fun j hj => ?_⟩⟩
          by_cases e : j = k
          · subst e; exact HLL.out
          · exact HZ.out j (by omega)
    · obtain rfl : k = n := by omega
      go_wp2_with fail
      go_ret
      refine ⟨_, rfl, ?_, HB.out⟩
      rw [readyL_off (fun j hj => HZ.out j (by rw [HN.out] at hj; exact hj))]
      exact HR.out

end Go.Proofs.Ytoaimlpbliabdaa.QFnExactEventsOf
namespace Go.Proofs.Ytoaimlpbliabdaa.QFnExactEventsOf
open Go.RowKit Go.Proofs.YtoaimlpbliabdaaW.PrintWords Go.Proofs.YtoaimlpbliabdaaW.PrintLast Go.Proofs.YtoaimlpbliabdaaW.PrintMore PoolModel
set_option linter.unusedVariables false
set_option linter.unusedSimpArgs false

theorem itold1 (up picks draws : List Int) (P : PSt) (t i : Nat) : ({ ({ IS.of up picks draws P with post := P.post.set t true } : IS) with told := (IS.of up picks draws P).told ++ [⟨2, (t : Int), (i : Int)⟩] } : IS) = IS.of up picks draws (told1 P (t : Int) (i : Int)) := by
  simp [IS.of, told1, evS]

theorem cell_other {w : World} {g j gl u : Nat} {v : Value} (h : g ≠ gl) : (w.setCell ⟨g, j, none⟩ v).cell? ⟨gl, u, none⟩ = w.cell? ⟨gl, u, none⟩ := by
  have hne : (⟨g, j, none⟩ : Addr) ≠ ⟨gl, u, none⟩ := fun e => h (by injection e)
  simp [hne, World.cell?_setCell_other]
theorem frz_set (w : World) (a b : Addr) (v : Value) : (w.setCell a v).frozen? b = w.frozen? b := by simp

set_option maxRecDepth 100000 in
set_option maxHeartbeats 2000000 in
theorem ipost_calls {w0 w : World} {g : Nat} {dv lv pv qv tv kv nv : Value} {uA : Option Addr} {uc : Nat} {up picks draws : List Int} {p : PSt} {workers : Nat} (h : ImW (fun _ => False) w0 w g dv lv pv qv tv kv nv uA uc (IS.of up picks draws p))
    (hF : Forest up) (hI : Inv up workers p) (t : Nat) (htl : t < up.length) (hA : At up p t) (i : Nat) :
    Calls Try.prog 125 #[.pointer (some ⟨g, 0, none⟩), .int .i64 (t : Int), .int .i64 (i : Int)] w fun e w' => e = .returned (.tuple #[]) ∧ ∃ tv', ImW (fun _ => False) w0 w' g dv lv pv qv tv' kv nv uA uc (IS.of up picks draws (posts up.length up p (t : Int) (i : Int))) := by
  have H5 := Aside0.mk h
  have HF := Aside0.mk hF
  have HI2 := Aside0.mk hI
  have HAt := Aside0.mk hA
  have hup := hF.1
  have hglt := blk_lt h.blk
  clear h hF hI hA
  go_enter Try.func125, Try.ntmps125
  go_wp2_with fail
  go_loopg [1] up.length (fun kq v1 w' => ∃ (t' : Nat) (p' : PSt) (tv' : Value), v1 = .int .i64 (t' : Int) ∧ t' < kq ∧ kq ≤ up.length ∧ Aside0 (ImW (fun _ => False) w0 w' g dv lv pv qv tv' kv nv uA uc (IS.of up picks draws p')) ∧ Aside0 (Inv up workers p') ∧ Aside0 (At up p' t') ∧ Aside0 (posts kq up p' (t' : Int) (i : Int) = posts up.length up p (t : Int) (i : Int)))
  case atStart => exact ⟨t, _, tv, rfl, htl, Nat.le_refl _, H5, HI2, HAt, ⟨rfl⟩⟩
  case round =>
    obtain ⟨t', p', tv', rfl, htk, hkl, HS', HI', HA', HE'⟩ := hrel
    obtain ⟨k, rfl⟩ : ∃ k, gk = k + 1 := ⟨gk - 1, by omega⟩
    clear H5 HI2 HAt
    have hpl' : t' < (IS.of up picks draws p').post.length := by show t' < p'.post.length; rw [HI'.out.hq]; exact HA'.out.lt
    have htl' := HA'.out.lt
    obtain ⟨gq, cq, rfl, hqc, hqf, hql, hqgg, hS1⟩ := HS'.out.post_ t' hpl'
    have HS1 := Aside0.mk hS1
    have c4 : wr.cell? ⟨g, 4, none⟩ = some (.slice (some ⟨gq, 0, none⟩) (IS.of up picks draws p').post.length cq) := cell_blk HS'.out.blk 4
    have c5 : (wr.setCell ⟨gq, t', none⟩ (.bool true)).cell? ⟨g, 5, none⟩ = some tv' := cell_blk hS1.blk 5
    have f5 : (wr.setCell ⟨gq, t', none⟩ (.bool true)).frozen? ⟨g, 5, none⟩ = false := free_blk hS1.blk 5
    have hn1' : (t' : Int) < ((IS.of up picks draws p').post.length : Int) := by omega
    have hn0' : (0 : Int) ≤ (t' : Int) := by omega
    have HT5 : Aside0 ((IS.of up picks draws p').told.length < 995) := ⟨by
      show (p'.told.map evS).length < 995
      rw [List.length_map]
      have h1 := HI'.out.ht
      have h2 := PoolModel.count_le (l := p'.pre)
      have h3 := PoolModel.count_le (l := p'.post)
      rw [HI'.out.hp] at h2
      rw [HI'.out.hq] at h3
      omega⟩
    have hglt2 : g < (wr.setCell ⟨gq, t', none⟩ (.bool true)).heap.size := blk_lt hS1.blk
    clear hS1
    generalize hQ : (IS.of up picks draws p').post.length = NQ at *
    have HQ := Aside0.mk hQ
    clear hQ
    obtain ⟨adU, hAU, cU0⟩ := Kd.at_int HS1.out.up (t' : Int) (by omega) (by show (t' : Int) < ((up.length : Nat) : Int); omega)
    have hut1 : (t' : Int) < (up.length : Int) := by omega
    simp only [Int.toNat_natCast] at cU0
    have hrdu : rd (IS.of up picks draws p').up (t' : Int) = up.getD t' 0 := by unfold rd; simp [IS.of]
    have hadlt : (adU.add t').block < w0.heap.size := World.block_lt_of_cell? w0 _ cU0
    have hadg : ¬ ((⟨g, 5, none⟩ : Addr) = adU.add t') := fun e => by have h1 := HS1.out.g0; rw [← e] at hadlt; have h2 : g < w0.heap.size := hadlt; omega
    subst hAU
    by_cases hu : up.getD t' 0 < 0
    · obtain ⟨x, hx, cU0⟩ : ∃ x : Int, x < 0 ∧ w0.cell? (adU.add t') = some (.int .i64 x) := ⟨_, hu, by rw [← hrdu]; exact cU0⟩
      have HU := Aside0.mk hu
      clear hu hrdu
      go_wp2_with ((with_reducible refine gate_builtin (b := .append) (xs := #[.tmp 18, .tmp 22]) rfl ?_); at_builtin; refine Kd.R_append k93 (w0 := w0) w0.heap.size rfl (.tmp 18) (.tmp 22) 41 93 (.agg #[(.int .i64 0), (.int .i64 0), (.int .i64 0)]) 24 rfl Try.underlying41 info93 rfl (by decide) (by omega) tv' (IS.of up picks draws p').told ⟨2, (t' : Int), (i : Int)⟩ [.int .i64 2, .int .i64 (t' : Int), .int .i64 (i : Int)] (fun _ => True) (fun _ => False) rfl (by rw [size_set]; rfl) (k93_mkM _ _ _ _) (fun _ hk => hk.elim) (fun _ _ => trivial) ?aO ?aB ?aS ?aL ?_; (case aO => exact HS1.out.td); (case aB => exact HS1.out.bel); (case aS => exact HS1.out.bel.size); (case aL => have := HT5.out; omega); intro v6 w6 ho hb hg hat; have e1 := hg.block g hglt2 (Kd.R_ne HS1.out.td HS1.out.blk (by decide)); obtain ⟨A6, c6, hv6⟩ := Kd.R_slice ho; generalize ((IS.of up picks draws p').told ++ ([⟨2, (t' : Int), (i : Int)⟩] : List S93)).length = TL at hv6; subst hv6; have cU6 := (hb.cell hadlt).trans cU0; have c60 := cell_blk (e1.trans HS1.out.blk) 0; have H6 : Aside0 (ImW (fun _ => False) w0 (w6.setCell ⟨g, 5, none⟩ (.slice A6 TL c6)) g dv lv pv (.slice (some ⟨gq, 0, none⟩) NQ cq) (.slice A6 TL c6) kv nv (some adU) uc (IS.of up picks draws (told1 p' (t' : Int) (i : Int)))) := ⟨by rw [← itold1]; exact HS1.out.told_ ho hb hg e1⟩; have f51 := free_blk (e1.trans HS1.out.blk) 5; have c51 := cell_blk (e1.trans HS1.out.blk) 5; clear ho hb hg hat e1)
      refine bodyPost_ret (results_none rfl _ _ _) rfl ?_
      have q := HE'.out
      rw [posts_lt HU.out] at q
      have q2 := H6.out
      rw [q, ← HQ.out] at q2
      exact ⟨rfl, _, q2⟩
    · obtain ⟨u, hu2⟩ : ∃ u : Nat, up.getD t' 0 = (u : Int) := ⟨(up.getD t' 0).toNat, by omega⟩
      rw [hrdu, hu2] at cU0
      obtain ⟨hI3, hut, hA3⟩ := posts_step (w := (i : Int)) HF.out HI'.out HA'.out hu2
      have hul : u < up.length := by omega
      have hxb := Inv.left_lt HI'.out HF.out hul
      obtain ⟨gl, cl, rfl, -, -, hll, hlgg, -⟩ := HS1.out.left_ u (by show u < p'.left.length; rw [HI'.out.hl]; exact hul)
      have hxe : rdOf 0 (IS.of up picks draws (told1 p' (t' : Int) (i : Int))).left (u : Int) = p'.left.getD u 0 := by unfold rdOf; simp [IS.of, told1]
      replace HS1 : Aside0 (ImW (fun _ => False) w0 (wr.setCell ⟨gq, t', none⟩ (.bool true)) g dv (.slice (some ⟨gl, 0, none⟩) p'.left.length cl) pv (.slice (some ⟨gq, 0, none⟩) NQ cq) tv' kv nv (some adU) uc { IS.of up picks draws p' with post := (IS.of up picks draws p').post.set t' true }) := ⟨HS1.out⟩
      clear HS'
      have hul1 : (u : Int) < ((p'.left.length : Nat) : Int) := by rw [HI'.out.hl]; omega
      have hul0 : (0 : Int) ≤ (u : Int) := by omega
      have HU2 := Aside0.mk hu2
      have HI3 := Aside0.mk hI3
      have HA3 := Aside0.mk hA3
      clear hI3 hA3 hu2 hrdu hu
      generalize hX : p'.left.getD u 0 = x at *
      generalize hNLe : p'.left.length = NL at *
      have HX3 := Aside0.mk hX
      have HNL := Aside0.mk hNLe
      clear hX hNLe
      by_cases hpos : 0 < x - 1
      · go_wp2_with ((with_reducible refine gate_builtin (b := .append) (xs := #[.tmp 18, .tmp 22]) rfl ?_); at_builtin; refine Kd.R_append k93 (w0 := w0) w0.heap.size rfl (.tmp 18) (.tmp 22) 41 93 (.agg #[(.int .i64 0), (.int .i64 0), (.int .i64 0)]) 24 rfl Try.underlying41 info93 rfl (by decide) (by omega) tv' (IS.of up picks draws p').told ⟨2, (t' : Int), (i : Int)⟩ [.int .i64 2, .int .i64 (t' : Int), .int .i64 (i : Int)] (fun _ => True) (fun _ => False) rfl (by rw [size_set]; rfl) (k93_mkM _ _ _ _) (fun _ hk => hk.elim) (fun _ _ => trivial) ?aO ?aB ?aS ?aL ?_; (case aO => exact HS1.out.td); (case aB => exact HS1.out.bel); (case aS => exact HS1.out.bel.size); (case aL => have := HT5.out; omega); intro v6 w6 ho hb hg hat; have e1 := hg.block g hglt2 (Kd.R_ne HS1.out.td HS1.out.blk (by decide)); obtain ⟨A6, c6, hv6⟩ := Kd.R_slice ho; generalize ((IS.of up picks draws p').told ++ ([⟨2, (t' : Int), (i : Int)⟩] : List S93)).length = TL at hv6; subst hv6; have cU6 := (hb.cell hadlt).trans cU0; have c60 := cell_blk (e1.trans HS1.out.blk) 0; have H6 : Aside0 (ImW (fun _ => False) w0 (w6.setCell ⟨g, 5, none⟩ (.slice A6 TL c6)) g dv (.slice (some ⟨gl, 0, none⟩) NL cl) pv (.slice (some ⟨gq, 0, none⟩) NQ cq) (.slice A6 TL c6) kv nv (some adU) uc (IS.of up picks draws (told1 p' (t' : Int) (i : Int)))) := ⟨by rw [← itold1]; exact HS1.out.told_ ho hb hg e1⟩; have f51 := free_blk (e1.trans HS1.out.blk) 5; have c51 := cell_blk (e1.trans HS1.out.blk) 5; have c62 := cell_blk (e1.trans HS1.out.blk) 2; have hgl6 := Nat.lt_of_lt_of_le hll hg.size; obtain ⟨glx, clx, hel, hlc, hlf, hllx, hlggx, hSl⟩ := H6.out.left_ u (by show u < p'.left.length; rw [HI'.out.hl]; exact hul); injection hel with hel1 _ hel2; injection hel1 with hel1; injection hel1 with hel1 _ _; subst hel1; have HSl := Aside0.mk (hSl (x - 1)); rw [hxe, cell_other (fun e => hlgg e.symm)] at hlc; rw [frz_set] at hlf; clear hSl hel2 hllx hlggx; clear ho hb hg hat e1)
        refine bodyPost_ret (results_none rfl _ _ _) rfl ?_
        have q := HE'.out
        rw [posts_stop HU2.out (by rw [HX3.out]; exact hpos), HX3.out] at q
        refine ⟨rfl, .slice A6 TL c6, ?_⟩
        rw [← q, HQ.out]
        have e := HNL.out
        subst e
        exact HSl.out
      · go_wp2_with ((with_reducible refine gate_builtin (b := .append) (xs := #[.tmp 18, .tmp 22]) rfl ?_); at_builtin; refine Kd.R_append k93 (w0 := w0) w0.heap.size rfl (.tmp 18) (.tmp 22) 41 93 (.agg #[(.int .i64 0), (.int .i64 0), (.int .i64 0)]) 24 rfl Try.underlying41 info93 rfl (by decide) (by omega) tv' (IS.of up picks draws p').told ⟨2, (t' : Int), (i : Int)⟩ [.int .i64 2, .int .i64 (t' : Int), .int .i64 (i : Int)] (fun _ => True) (fun _ => False) rfl (by rw [size_set]; rfl) (k93_mkM _ _ _ _) (fun _ hk => hk.elim) (fun _ _ => trivial) ?aO ?aB ?aS ?aL ?_; (case aO => exact HS1.out.td); (case aB => exact HS1.out.bel); (case aS => exact HS1.out.bel.size); (case aL => have := HT5.out; omega); intro v6 w6 ho hb hg hat; have e1 := hg.block g hglt2 (Kd.R_ne HS1.out.td HS1.out.blk (by decide)); obtain ⟨A6, c6, hv6⟩ := Kd.R_slice ho; generalize ((IS.of up picks draws p').told ++ ([⟨2, (t' : Int), (i : Int)⟩] : List S93)).length = TL at hv6; subst hv6; have cU6 := (hb.cell hadlt).trans cU0; have c60 := cell_blk (e1.trans HS1.out.blk) 0; have H6 : Aside0 (ImW (fun _ => False) w0 (w6.setCell ⟨g, 5, none⟩ (.slice A6 TL c6)) g dv (.slice (some ⟨gl, 0, none⟩) NL cl) pv (.slice (some ⟨gq, 0, none⟩) NQ cq) (.slice A6 TL c6) kv nv (some adU) uc (IS.of up picks draws (told1 p' (t' : Int) (i : Int)))) := ⟨by rw [← itold1]; exact HS1.out.told_ ho hb hg e1⟩; have f51 := free_blk (e1.trans HS1.out.blk) 5; have c51 := cell_blk (e1.trans HS1.out.blk) 5; have c62 := cell_blk (e1.trans HS1.out.blk) 2; have hgl6 := Nat.lt_of_lt_of_le hll hg.size; obtain ⟨glx, clx, hel, hlc, hlf, hllx, hlggx, hSl⟩ := H6.out.left_ u (by show u < p'.left.length; rw [HI'.out.hl]; exact hul); injection hel with hel1 _ hel2; injection hel1 with hel1; injection hel1 with hel1 _ _; subst hel1; have HSl := Aside0.mk (hSl (x - 1)); rw [hxe, cell_other (fun e => hlgg e.symm)] at hlc; rw [frz_set] at hlf; clear hSl hel2 hllx hlggx; clear ho hb hg hat e1)
        go_roundg k
        case measure => omega
        case rel =>
          have q := HE'.out
          have hnp : ¬ 0 < x - 1 := by omega
          rw [posts_on HU2.out (by rw [HX3.out]; exact hnp), HX3.out] at q
          have e := HNL.out
          subst e
          exact ⟨u, { told1 p' (t' : Int) (i : Int) with left := p'.left.set u (x - 1) }, .slice A6 TL c6, rfl, by omega, by omega, ⟨HSl.out⟩, HI3, ⟨HA3.out hpos⟩, ⟨q⟩⟩

end Go.Proofs.Ytoaimlpbliabdaa.QFnExactEventsOf
namespace Go.Proofs.Ytoaimlpbliabdaa.QFnExactEventsOf
open Go.RowKit Go.Proofs.YtoaimlpbliabdaaW.PrintWords Go.Proofs.YtoaimlpbliabdaaW.PrintLast Go.Proofs.YtoaimlpbliabdaaW.PrintMore
set_option linter.unusedVariables false
set_option linter.unusedSimpArgs false

def ipushed (s : IS) (i : Nat) (l : List Int) (k : Nat) : IS := { s with decks := s.decks.set i (s.decks.getD i [] ++ (l.drop k).reverse) }

theorem ipushed_getD {s : IS} {i : Nat} {l : List Int} {k : Nat} (hi : i < s.decks.length) : (ipushed s i l k).decks.getD i [] = s.decks.getD i [] ++ (l.drop k).reverse := by
  unfold ipushed
  simp [List.getD_eq_getElem?_getD, hi]
theorem ipushed_step {s : IS} {i : Nat} {l : List Int} {k : Nat} (hi : i < s.decks.length) (hk : k < l.length) : ({ ipushed s i l (k + 1) with decks := (ipushed s i l (k + 1)).decks.set i ((ipushed s i l (k + 1)).decks.getD i [] ++ [rd l k]) } : IS) = ipushed s i l k := by
  rw [ipushed_getD hi]
  unfold ipushed
  simp only [List.set_set]
  congr 2
  rw [List.drop_eq_getElem_cons hk, List.reverse_cons, List.append_assoc]
  simp [rd, hk]
theorem ipushed_len {s : IS} {i : Nat} {l : List Int} {k : Nat} (hi : i < s.decks.length) (h : (s.decks.getD i []).length + l.length < 1000) : ((ipushed s i l k).decks.getD i []).length < 1000 := by
  rw [ipushed_getD hi]
  simp
  simp at h
  omega
set_option maxRecDepth 100000 in
set_option maxHeartbeats 8000000 in
theorem ipush_calls {X : Nat → Prop} {w0 w : World} {g : Nat} {dv lv pv qv tv kv nv : Value} {uA : Option Addr} {uc : Nat} {s : IS} (h : ImW X w0 w g dv lv pv qv tv kv nv uA uc s) (hX : ∀ k, X k → k < w.heap.size)
    (i : Nat) (hi : i < s.decks.length) (A : Option Addr) (c : Nat) (l : List Int) (hl : Kd.R (Kd.int .i64) 3 w w0.heap.size X (.slice A l.length c) l) (hlen : (s.decks.getD i []).length + l.length < 1000) :
    Calls Try.prog 123 #[.pointer (some ⟨g, 0, none⟩), .int .i64 (i : Int), .slice A l.length c] w fun e w' => e = .returned (.tuple #[]) ∧ ImW X w0 w' g dv lv pv qv tv kv nv uA uc (ipushed s i l 0) := by
  have HS := Aside0.mk h
  have HX := Aside0.mk hX
  have HL := Aside0.mk hl
  have HI := Aside0.mk hi
  have hlb : l.length < 1000 := by omega
  have HN := Aside0.mk hlen
  clear h hX hl hi hlen
  go_enter Try.func123, Try.ntmps123
  go_wp2
  go_loopg [6] (l.length + 1) (fun kq v6 w' => ∃ (k : Nat) (j : Int), v6 = .int .i64 j ∧ Aside0 (j = (k : Int) - 1) ∧ kq = k + 1 ∧ k ≤ l.length ∧ Aside0 (ImW X w0 w' g dv lv pv qv tv kv nv uA uc (ipushed s i l k)) ∧ Aside0 (w.heap.size ≤ w'.heap.size) ∧ Aside0 (Kd.R (Kd.int .i64) 3 w' w0.heap.size X (.slice A l.length c) l))
  case atStart =>
    refine ⟨l.length, _, rfl, ⟨rfl⟩, rfl, Nat.le_refl _, ⟨?_⟩, ⟨Nat.le_refl _⟩, HL⟩
    have : ipushed s i l l.length = s := by
      unfold ipushed
      rw [List.drop_length, List.reverse_nil, List.append_nil]
      have : s.decks.set i (s.decks.getD i []) = s.decks := by
        have hi := HI.out
        rw [List.getD_eq_getElem?_getD, List.getElem?_eq_getElem hi]
        exact List.set_getElem_self hi
      rw [this]
    rw [this]
    exact HS.out
  case round =>
    obtain ⟨k, j, rfl, HJ, hkq, hkl, HSk, HZ, HLk⟩ := hrel
    cases k with
    | zero =>
      obtain rfl : j = -1 := by have := HJ.out; omega
      go_wp2
      go_end0
      exact ⟨rfl, HSk.out⟩
    | succ k =>
      obtain rfl : j = (k : Int) := by have := HJ.out; omega
      obtain ⟨gd, cap, iv, A1, c1, hdv, hiv, hAc, hcell, hfr, hgl, hgg, hgi, hgI, hXi, hQ, hback⟩ := HSk.out.lend (fun k hk => Nat.lt_of_lt_of_le (HX.out k hk) HZ.out) i (by simpa [ipushed] using HI.out)
      generalize hD : (ipushed s i l (k + 1)).decks.getD i [] = D at hiv hAc hQ
      have HD := Aside0.mk hD
      clear hD
      subst hdv hiv
      have c0 : wr.cell? ⟨g, 1, none⟩ = some (.slice (some ⟨gd, 0, none⟩) (ipushed s i l (k + 1)).decks.length cap) := cell_blk HSk.out.blk 1
      obtain ⟨ad, hA, cl⟩ := Kd.at_int (Kd.R_reads' HLk.out).2.2 (k : Int) (by omega) (by omega)
      subst hA
      have hi1 : (i : Int) < ((ipushed s i l (k + 1)).decks.length : Int) := by have := HI.out; simp [ipushed]; omega
      have hn0 : (0 : Int) ≤ (i : Int) := by omega
      have hk0 : (0 : Int) ≤ (k : Int) := by omega
      have hk1 : (k : Int) < (l.length : Int) := by omega
      have hbk := Aside0.mk hback
      have hQk := Aside0.mk hQ
      have hXk := Aside0.mk hXi
      have hne1 := Aside0.mk hgi
      have hne2 := Aside0.mk hgI
      clear hback hQ hXi hgi hgI
      generalize hN : (ipushed s i l (k + 1)).decks.length = N at *
      have HNN := Aside0.mk hN
      clear hN
      simp only [Int.toNat_natCast] at cl
      go_wp2
      have hglt : g < wr.heap.size := blk_lt HSk.out.blk
      have hadlt : (ad.add k).block < wr.heap.size := World.block_lt_of_cell? wr _ cl
      have HB8 : Aside0 ((D.length + 1) * 8 ≤ 140737488355328) := ⟨by have h1 := ipushed_len (k := k + 1) HI.out HN.out; rw [HD.out] at h1; omega⟩
      go_region_law (refine Kd.R_append_step (W := wr.drew) (Kd.int .i64) (w0 := w0) w0.heap.size rfl (.tmp 27) (.tmp 32) 32 3 (.int .i64 0) 8 rfl Try.underlying32 info3 rfl (by decide) (by decide) (.slice A1 D.length c1) D (rd l k) [.int .i64 (rd l k)] (fun q => q ≠ gd ∧ (some q = (Value.slice A1 D.length c1).ownBlock ∨ wr.heap.size ≤ q)) (fun _ => False) (by simp [Act.eval, Act.put]) (by simp [Act.eval, Act.put]) rfl (fun _ hk => hk.elim) (fun q hq => ⟨by have : wr.heap.size ≤ q := hq; omega, .inr hq⟩) (Kd.R_drew hQk.out) (below_drew HSk.out.bel) HSk.out.bel.size HB8.out ?_; intro v1 w1 ho hb hg hat; have hg2 : wr.grownBy w1 (Value.slice A1 D.length c1).ownBlock := ⟨hg.os, hg.tape, hg.output, hg.size, hg.block⟩; obtain ⟨cw, fw, eg, ⟨cells, hcs⟩, hF⟩ := hbk.out w1 v1 (D ++ [rd l k]) ho hb hg2; have c0' : w1.cell? ⟨g, 1, none⟩ = some (.slice (some ⟨gd, 0, none⟩) N cap) := (cell_blk (eg.trans HSk.out.blk) 1).trans (by rw [← HNN.out]; rfl); have HF := Aside0.mk hF; have HG2 := Aside0.mk hg2; have HCS := Aside0.mk hcs; obtain ⟨A2, c2, rfl⟩ := Kd.R_slice ho; clear ho hb hg hat hg2 eg hcs hF)
      all_goals
        clear hbk
        go_wp2
        go_roundg (k + 1)
        case measure => omega
        case rel =>
          refine ⟨k, (k : Int) - 1, rfl, ⟨rfl⟩, rfl, by omega, ?_, ?_, ?_⟩
          · have q := HF.out
            rw [← HD.out, ipushed_step HI.out (by omega), HD.out, List.length_append] at q
            exact ⟨q⟩
          · exact ⟨by rw [size_set]; exact Nat.le_trans HZ.out HG2.out.size⟩
          · exact ⟨Kd.R_set (Kd.R_grown HLk.out HG2.out (fun q hx => hXk.out q hx)) HCS.out (by decide) _ _⟩

end Go.Proofs.Ytoaimlpbliabdaa.QFnExactEventsOf
namespace Go.Proofs.Ytoaimlpbliabdaa.QFnExactEventsOf
open Go.RowKit Go.Proofs.YtoaimlpbliabdaaW.PrintWords Go.Proofs.YtoaimlpbliabdaaW.PrintLast Go.Proofs.YtoaimlpbliabdaaW.PrintMore PoolModel
set_option linter.unusedVariables false
set_option linter.unusedSimpArgs false

section
variable {X : Nat → Prop} {w0 w : World} {g : Nat} {dv lv pv qv tv kv nv : Value} {uA : Option Addr} {uc : Nat} {s : IS}
theorem inext_picks (h : ImW X w0 w g dv lv pv qv tv kv nv uA uc s) (hb : s.picks.length < 1000) :
    Calls Try.prog 124 #[.pointer (some ⟨g, 7, none⟩)] w fun e w' => e = .returned (.int .i64 (s.picks.getD 0 0)) ∧ (∀ k, k ≠ g → w'.heap[k]? = w.heap[k]?) ∧ ∃ kv', ImW X w0 w' g dv lv pv qv tv kv' nv uA uc { s with picks := s.picks.drop 1 } := by
  obtain ⟨A, c, hkv, hl, hC⟩ := h.pk
  have c7 : w.cell? ⟨g, 7, none⟩ = some (.slice A s.picks.length c) := by rw [← hkv]; exact cell_blk h.blk 7
  refine (next_calls c7 (free_blk h.blk 7) hl (Kd.C_below hC h.bel) hb).mono ?_
  rintro e w' ⟨rfl, ⟨hnil, rfl⟩ | ⟨A', rfl, hA'⟩⟩
  · refine ⟨rfl, fun _ _ => rfl, kv, ?_⟩
    have : ({ s with picks := s.picks.drop 1 } : IS) = s := by rw [hnil]; cases s; simp_all
    rw [this]; exact h
  · exact ⟨rfl, fun k hk => Below.heap_setCell w ⟨g, 7, none⟩ _ k hk, _, h.picks_ ⟨A', c - 1, rfl, by simp; omega, hA' w0 hC⟩⟩
theorem inext_draws (h : ImW X w0 w g dv lv pv qv tv kv nv uA uc s) (hb : s.draws.length < 1000) :
    Calls Try.prog 124 #[.pointer (some ⟨g, 8, none⟩)] w fun e w' => e = .returned (.int .i64 (s.draws.getD 0 0)) ∧ (∀ k, k ≠ g → w'.heap[k]? = w.heap[k]?) ∧ ∃ nv', ImW X w0 w' g dv lv pv qv tv kv nv' uA uc { s with draws := s.draws.drop 1 } := by
  obtain ⟨A, c, hkv, hl, hC⟩ := h.dr
  have c8 : w.cell? ⟨g, 8, none⟩ = some (.slice A s.draws.length c) := by rw [← hkv]; exact cell_blk h.blk 8
  refine (next_calls c8 (free_blk h.blk 8) hl (Kd.C_below hC h.bel) hb).mono ?_
  rintro e w' ⟨rfl, ⟨hnil, rfl⟩ | ⟨A', rfl, hA'⟩⟩
  · refine ⟨rfl, fun _ _ => rfl, nv, ?_⟩
    have : ({ s with draws := s.draws.drop 1 } : IS) = s := by rw [hnil]; cases s; simp_all
    rw [this]; exact h
  · exact ⟨rfl, fun k hk => Below.heap_setCell w ⟨g, 8, none⟩ _ k hk, _, h.draws_ ⟨A', c - 1, rfl, by simp; omega, hA' w0 hC⟩⟩
end
/-- An empty block of its own. -/
theorem R_empty {w : World} {base e b : Nat} {ok : Nat → Prop} (hb : w.heap[b]? = some (.cells #[] e (0, 0))) (hbase : base ≤ b) (hok : ok b) : (Kd.int .i64).R e w base ok (.slice (some ⟨b, 0, none⟩) 0 0) [] :=
  R_zeros (Kd.int .i64) (m := 0) (z := .int .i64 0) (z0 := 0) (by rw [show (madeCells (Value.int .i64 0).cells (0 * (Kd.int .i64).sz)) = #[] from Array.eq_empty_of_size_eq_zero (by rw [size_madeCells]; exact Nat.zero_mul _)]; exact hb) rfl (by decide) rfl hbase hok (by omega)
theorem grown_of_below {w w1 : World} {row : Option Nat} (h : Below w.heap.size w w1) : w.grownBy w1 row := ⟨h.os, h.tape, h.output, h.size, fun k hk _ => h.block k hk⟩
theorem cutN {ad : Addr} {n c m : Nat} {xs : List Int} (hn : n = xs.length) (h1 : m + 1 ≤ n) (hc : n ≤ c) :
    ∃ A, (∀ W : World, (Instr.slice 32 (.slice (some ad) n c) (some (.int .i64 ((m : Int) + 1))) none none).run Try.prog W = .ok (.slice A (n - (m + 1)) (c - (m + 1))) W) ∧ ∀ w, Kd.C (Kd.int .i64) w (some ad) xs.length xs → Kd.C (Kd.int .i64) w A (xs.drop (m + 1)).length (xs.drop (m + 1)) := by
  obtain ⟨i0, hi, _, hsz, _⟩ := info_parts info3
  have h := fun W : World => cut_from (P := Try.prog) 32 3 .i64 Try.underlying32 hi 1 hsz (some ad) n c ((m : Int) + 1) (by omega) (by omega) W
  have e : ((m : Int) + 1).toNat = m + 1 := by omega
  rw [e] at h
  exact ⟨_, h, fun w hh => Kd.C_drop hh (m := m + 1) (by omega) (c := c) (by omega)⟩

end Go.Proofs.Ytoaimlpbliabdaa.QFnExactEventsOf
