import Derived.Test.YtoaimlpbliabdaaWkI
namespace Go.Proofs.Ytoaimlpbliabdaa.QFnExactEventsOf
open Go.RowKit Go.Proofs.YtoaimlpbliabdaaW.PrintWords Go.Proofs.YtoaimlpbliabdaaW.PrintLast Go.Proofs.YtoaimlpbliabdaaW.PrintMore PoolModel
attribute [local go_sem] max2_int min2_int max_two min_two max_three min_three max_four min_four   -- for this text's walks alone
set_option linter.unusedVariables false
set_option linter.unusedSimpArgs false

/-! ### spec_WorkOfH: function 29 -/
def spec_WorkOfH.f (k : Nat) (l0 : List Int) (a1 : Int) (l2 : List Int) (l3 : List Int) : Option (List Int × Bool) :=
  if l0.length ≤ 2000000 then (spec_l13Asked.f k l0 a1 l2 l3).bind fun t => if t = true then impl_WorkOf.l0 k (List.replicate a1.toNat 0) ((run l0 a1.toNat l2 l3 1000 (PoolModel.start l0 a1.toNat)).told.map evS) (((run l0 a1.toNat l2 l3 1000 (PoolModel.start l0 a1.toNat)).told.map evS).length : Int) 0 else some ([], false) else none
theorem spec_WorkOfH.mono : ∀ a0 a1 a2 a3 k, LeO (spec_WorkOfH.f k a0 a1 a2 a3) (spec_WorkOfH.f (k + 1) a0 a1 a2 a3) := by
  intro a0 a1 a2 a3 k
  unfold spec_WorkOfH.f
  refine LeO.ite ?_ (LeO.refl _)
  exact LeO.bind (spec_l13Asked.mono _ _ _ _ _) (fun _ => LeO.ite (impl_WorkOf.mono_l _ _ _ _ _) (LeO.refl _))
set_option maxHeartbeats 8000000 in
set_option maxRecDepth 100000 in
theorem spec_WorkOfH.on (k n : Nat) (hn1 : 1 ≤ n) (hn8 : n ≤ 8) (A0 : Option Addr) (c0 : Nat) (l0 : List Int) (A2 : Option Addr) (c2 : Nat) (l2 : List Int) (A3 : Option Addr) (c3 : Nat) (l3 : List Int) (r1 : List Int) (r2 : Bool) (w : World) (kf : Nat) (hr0 : Kd.C (Kd.int .i64) w A0 l0.length l0) (hc0 : l0.length ≤ c0) (hr2 : Kd.C (Kd.int .i64) w A2 l2.length l2) (hc2 : l2.length ≤ c2) (hr3 : Kd.C (Kd.int .i64) w A3 l3.length l3) (hc3 : l3.length ≤ c3)
    (ha : spec_l13Asked.f kf l0 (n : Int) l2 l3 = some true) (hA : Asked l0 (n : Int) l2 l3) (T : List S93) (hT : T = (run l0 n l2 l3 1000 (PoolModel.start l0 n)).told.map evS) (h : impl_WorkOf.l0 k (List.replicate n 0) T (T.length : Int) 0 = some (r1, r2)) :
    Calls Try.prog 29 #[.slice A0 l0.length c0, .int .i64 (n : Int), .slice A2 l2.length c2, .slice A3 l3.length c3] w fun e w' => ∃ v0_ : Value, e = .returned (.tuple #[v0_, .bool r2]) ∧ Kd.R (Kd.int .i64) 3 w' w.heap.size (fun _ => True) v0_ r1 ∧ Below w.heap.size w w' := by
  have hu93 := Try.underlying93
  have HR0 := Aside0.mk hr0
  have HC0 := Aside0.mk hc0
  have HR2 := Aside0.mk hr2
  have HC2 := Aside0.mk hc2
  have HR3 := Aside0.mk hr3
  have HC3 := Aside0.mk hc3
  have HAs := Aside0.mk (spec_l13Asked.calls kf A0 c0 l0 (n : Int) A2 c2 l2 A3 c3 l3 true w hr0 hc0 hr2 hc2 hr3 hc3 ha)
  have HA0 := Aside0.mk hA
  have HT := Aside0.mk hT
  have H' := Aside0.mk h
  have m32 := print_make_of (P := Try.prog) 32 3 (.int .i64 0) 8 Try.underlying32 (by rw [info3]) rfl (by decide) n (by omega)
  clear hr0 hc0 hr2 hc2 hr3 hc3 ha hA hT h
  go_enter Try.func29, Try.ntmps29
  go_wp2_with fail
  refine HAs.out.mono ?_
  rintro e w1 ⟨rfl, hw1⟩
  have HB1 := Aside0.mk hw1.below
  clear hw1 HAs
  go_wp2_with fail
  have HO1 := Aside0.mk (R_zeros (Kd.int .i64) (e := 3) (base := w.heap.size) (ok := fun _ => True) (m := n) (z := .int .i64 0) (z0 := 0) (w := w1.alloc (.cells (madeCells #[.int .i64 0] n) 3)) (b := w1.heap.size) (by rw [show n * (Kd.int .i64).sz = n from Nat.mul_one _]; exact blk_new _ _) rfl (by decide) rfl HB1.out.size trivial (by omega))
  have HBa := Aside0.mk (below_alloc HB1.out (.cells (madeCells #[.int .i64 0] n) 3))
  generalize w1.alloc (.cells (madeCells #[.int .i64 0] n) 3) = wa at *
  clear m32 HB1
  refine (run_calls n 1000 (by omega) (by omega) (by omega) HA0.out.forest HA0.out.dr HA0.out.pk (by have := HA0.out.pl; omega) (Kd.C_below HR0.out HBa.out) HC0.out (Kd.C_below HR2.out HBa.out) HC2.out (Kd.C_below HR3.out HBa.out) HC3.out).mono ?_
  rintro e w2 ⟨g, dv, lv, pv, qv, tv, rfl, h2⟩
  have c4 : w2.cell? ⟨g, 4, none⟩ = some tv := cell_blk h2.blk 4
  have HO_27 : Aside0 (Kd.R k93 93 w2 w.heap.size (fun _ => True) tv T) := ⟨by rw [HT.out]; exact Kd.R_lower h2.td (below_size HBa.out)⟩
  have HB := Aside0.mk (below_then HBa.out HBa.out.size h2.bel)
  have HO_12 := Aside0.mk (Kd.R_below HO1.out h2.bel)
  obtain ⟨At, ct, rfl⟩ := Kd.R_slice HO_27.out
  clear h2 HO1 HBa HT HA0
  generalize (.slice (some ⟨w1.heap.size, 0, none⟩) n n : Value) = v250 at *
  obtain ⟨y249, hy249⟩ : ∃ y_ : List Int, y_ = (List.replicate n 0) := ⟨_, rfl⟩
  rw [← hy249] at HO_12 H'
  clear hy249
  go_wp2_with fail
  go_loopg [31] k (fun kq v31 w' => ∃ (x12_1 : List Int) (x29_1 : Int), v31 = .int .i64 x29_1 ∧ Aside0 (impl_WorkOf.l0 kq x12_1 T (T.length : Int) x29_1 = some (r1, r2)) ∧ Aside0 (kq ≤ k) ∧ Aside0 (Kd.R (Kd.int .i64) 3 w' w.heap.size (fun _ => True) v250 x12_1) ∧ Aside0 (Kd.R k93 93 w' w.heap.size (fun _ => True) (.slice At T.length ct) T) ∧ Aside0 (Below w.heap.size w w'))
  case atStart => exact ⟨(y249), (0), (by first | rfl | (simp; done) | (simp [*]; done)), H', ⟨Nat.le_refl _⟩, ⟨by (with_reducible repeat (first | apply Kd.R_alloc | apply Kd.R_drewN | apply Kd.R_drew)); exact HO_12.out⟩, ⟨by (with_reducible repeat (first | apply Kd.R_alloc | apply Kd.R_drewN | apply Kd.R_drew)); exact HO_27.out⟩, ⟨by repeat (first | (with_reducible first | exact HB.out | apply below_alloc | apply pw_below_drewN | apply below_drew1) | exact HB.out)⟩⟩
  case round =>
    clear H'
    try clear c2
    try clear p2
    try clear c3
    try clear c6
    try clear c7
    try clear c7b0
    try clear c7b1
    try clear c8
    try clear c8b0
    try clear c8b1
    obtain ⟨x12_1, x29_1, rfl, HA, HK1, HO_12, HO_27, HB⟩ := hrel
    cases gk with
    | zero => exact absurd HA.out (by simp [impl_WorkOf.l0])
    | succ k1 =>
      have H := HA.out
      clear HA
      simp only [impl_WorkOf.l0] at H
      by_cases c13 : x29_1 < (T.length : Int)
      · rw [if_pos c13] at H
        have c13b0 : decide (x29_1 < (T.length : Int)) = true := decide_eq_true c13
        clear c13
        by_cases c14 : 0 ≤ x29_1
        · rw [if_pos c14] at H
          have c14b0 : decide (0 ≤ x29_1) = true := decide_eq_true c14
          clear c14
          by_cases c15 : x29_1 < (T.length : Int)
          · rw [if_pos c15] at H
            have c15b0 : decide (x29_1 < (T.length : Int)) = true := decide_eq_true c15
            clear c15
            by_cases c16 : ((rd_T93 T x29_1).f0) = 1
            · rw [if_pos c16] at H
              have c16b0 : (((rd_T93 T x29_1).f0) == 1) = true := beq_iff_eq.mpr c16
              have c16b1 : (((rd_T93 T x29_1).f0) != 1) = false := bne_eq_false_iff_eq.mpr c16
              clear c16
              by_cases c17 : 0 ≤ ((rd_T93 T x29_1).f2)
              · rw [if_pos c17] at H
                have c17b0 : decide (0 ≤ ((rd_T93 T x29_1).f2)) = true := decide_eq_true c17
                clear c17
                by_cases c18 : ((rd_T93 T x29_1).f2) < (x12_1.length : Int)
                · rw [if_pos c18] at H
                  have c18b0 : decide (((rd_T93 T x29_1).f2) < (x12_1.length : Int)) = true := decide_eq_true c18
                  clear c18
                  obtain ⟨y255, hy255⟩ : ∃ y_ : List Int, y_ = (x12_1.set (((rd_T93 T x29_1).f2) : Int).toNat (wrap64 ((rd x12_1 ((rd_T93 T x29_1).f2)) + 1))) := ⟨_, rfl⟩
                  replace H : (impl_WorkOf.l0 k1 y255 T (T.length : Int) (wrap64 (x29_1 + 1))) = some (r1, r2) := by first | (rw [hy255]; with_reducible exact H) | (have H2_ := (Option.bind_some _ _).symm.trans H; rw [hy255]; with_reducible exact H2_) | (have H2_ := (Option.bind_some _ _).symm.trans H; with_reducible exact H2_) | with_reducible exact H | (rw [hy255]; exact H) | exact H
                  have Ny255 := Aside0.mk hy255
                  clear hy255
                  have H' := Aside0.mk H
                  clear H
                  have p252 : 0 ≤ (x29_1 : Int) := of_decide_eq_true (by first | (with_reducible assumption) | assumption)
                  have q252 : x29_1 < (T.length : Int) := of_decide_eq_true (by first | (with_reducible assumption) | assumption)
                  obtain ⟨ad252, e252, hx252_0, hx252_1, hx252_2⟩ := at_T93 (Kd.R_reads' HO_27.out).2.2 x29_1 p252 q252
                  cases e252
                  replace p252 := eq_true p252
                  replace q252 := eq_true q252
                  go_wp2_with (first | ((with_reducible refine gate_dst (N := 12) rfl ?_); refine box_event ?hg (N := 12) ?hd (cs := #[.int .i64 0, .int .i64 0, .int .i64 0]) (t := 93) ?hr ?_; (case hd => rfl); (case hg => rfl); (case hr => first | (go_simp; done) | (go_simp; rfl)); intro gb253 hg w20 hbox hb; have n0_ := Aside0.mk (Kd.R_below (by (with_reducible repeat (first | apply Kd.R_alloc | apply Kd.R_drewN | apply Kd.R_drew)); exact HO_12.out) hb); have n1_ := Aside0.mk (Kd.R_below (Kd.R_elderB (by (with_reducible repeat (first | apply Kd.R_alloc | apply Kd.R_drewN | apply Kd.R_drew)); exact HO_27.out) gb253 (Nat.le_of_eq hg.symm)) hb); have n2_ := Aside0.mk (below_step (by repeat (first | (with_reducible first | exact HB.out | apply below_alloc | apply pw_below_drewN | apply below_drew1) | exact HB.out)) hb); have n3_ := Aside0.mk (hbox); have n4_ := Aside0.mk ((by rw [hg]; exact (below_size (by repeat (first | (with_reducible first | exact HB.out | apply below_alloc | apply pw_below_drewN | apply below_drew1) | exact HB.out))) : w.heap.size ≤ gb253)); have n5_ := Aside0.mk ((by rw [hg]; exact (below_size (by repeat (first | (with_reducible first | exact HB.out | apply below_alloc | apply pw_below_drewN | apply below_drew1) | exact HB.out))) : w.heap.size ≤ gb253)); clear HO_12; clear HO_27; clear HB; have HO_12 := n0_; have HO_27 := n1_; have HB := n2_; have BK253 := n3_; have GW253 := n4_; have GE253 := n5_; clear n0_ n1_ n2_ n3_ n4_ n5_; clear hb hbox hg; have hcz21_0 : w20.cell? ⟨gb253, 0, none⟩ = some (.int .i64 0) := (blk_cell BK253.out 0).trans rfl; have hcz21_1 : w20.cell? ⟨gb253, 1, none⟩ = some (.int .i64 0) := (blk_cell BK253.out 1).trans rfl; have hcz21_2 : w20.cell? ⟨gb253, 2, none⟩ = some (.int .i64 0) := (blk_cell BK253.out 2).trans rfl; have hfz21_0 := blk_frozen BK253.out 0; have hfz21_1 := blk_frozen BK253.out 1; have hfz21_2 := blk_frozen BK253.out 2) | ((with_reducible refine gate_store (t := 93) (p := 12) rfl ?_); refine store_event (t := 93) (p := 12) (v := ?vo_w22) (w1 := (((w20.setCell ⟨gb253, 0, none⟩ (.int .i64 ((rd_T93 T x29_1).f0))).setCell ⟨gb253, 1, none⟩ (.int .i64 ((rd_T93 T x29_1).f1))).setCell ⟨gb253, 2, none⟩ (.int .i64 ((rd_T93 T x29_1).f2)))) ?hg ?ho ?hn ?hr ?_; (case ho => rfl); (case hg => rfl); (case hn => rfl); (case hr => first | (go_simp; done) | (go_simp; rfl)); intro w22 hw; have n0_ : Aside0 (Kd.R (Kd.int .i64) 3 w22 w.heap.size (fun _ => True) v250 x12_1) := ⟨(by rw [hw]; exact (by (with_reducible repeat (first | apply Kd.R_alloc | apply Kd.R_drewN | apply Kd.R_drew)); exact Kd.R_mono (Kd.R_far (p := ⟨gb253, 2, none⟩) (Kd.R_far (p := ⟨gb253, 1, none⟩) (Kd.R_far (p := ⟨gb253, 0, none⟩) (Kd.R_types HO_12.out BK253.out (by decide)) (fun _ hk => hk.2) (.int .i64 ((rd_T93 T x29_1).f0))) (fun _ hk => hk.2) (.int .i64 ((rd_T93 T x29_1).f1))) (fun _ hk => hk.2) (.int .i64 ((rd_T93 T x29_1).f2))) (fun _ hk => trivial)))⟩; have n1_ : Aside0 (Kd.R k93 93 w22 w.heap.size (fun k_ => k_ ≠ gb253) (.slice (some ad252) T.length ct) T) := ⟨(by rw [hw]; exact (by (with_reducible repeat (first | apply Kd.R_alloc | apply Kd.R_drewN | apply Kd.R_drew)); exact Kd.R_mono (Kd.R_far (p := ⟨gb253, 2, none⟩) (Kd.R_far (p := ⟨gb253, 1, none⟩) (Kd.R_far (p := ⟨gb253, 0, none⟩) (Kd.R_mono HO_27.out (fun k_ hk => (⟨hk, hk.2⟩ : _ ∧ k_ ≠ gb253))) (fun _ hk => hk.2) (.int .i64 ((rd_T93 T x29_1).f0))) (fun _ hk => hk.2) (.int .i64 ((rd_T93 T x29_1).f1))) (fun _ hk => hk.2) (.int .i64 ((rd_T93 T x29_1).f2))) (fun _ hk => hk.1.2)))⟩; have n2_ : Aside0 (w22.heap[gb253]? = some (.cells #[.int .i64 ((rd_T93 T x29_1).f0), .int .i64 ((rd_T93 T x29_1).f1), .int .i64 ((rd_T93 T x29_1).f2)] 93 (0, 0))) := ⟨(by rw [hw]; exact (by (with_reducible repeat (first | refine blk_drewN ?_ _ | refine blk_drew ?_ | refine blk_alloc ?_ _)); refine blk_put (cs := #[.int .i64 ((rd_T93 T x29_1).f0), .int .i64 ((rd_T93 T x29_1).f1), .int .i64 0]) ?_ 2 _ rfl; (with_reducible repeat (first | refine blk_drewN ?_ _ | refine blk_drew ?_ | refine blk_alloc ?_ _)); refine blk_put (cs := #[.int .i64 ((rd_T93 T x29_1).f0), .int .i64 0, .int .i64 0]) ?_ 1 _ rfl; (with_reducible repeat (first | refine blk_drewN ?_ _ | refine blk_drew ?_ | refine blk_alloc ?_ _)); refine blk_put (cs := #[.int .i64 0, .int .i64 0, .int .i64 0]) ?_ 0 _ rfl; (with_reducible repeat (first | refine blk_drewN ?_ _ | refine blk_drew ?_ | refine blk_alloc ?_ _)); exact BK253.out))⟩; have n3_ : Aside0 (Below w.heap.size w w22) := ⟨(by rw [hw]; exact (by repeat (first | (with_reducible first | exact HB.out | apply below_alloc | apply pw_below_drewN | apply below_drew1 | refine below_set ?_ GE253.out) | exact HB.out)))⟩; clear hw; clear HO_12; clear HO_27; clear BK253; clear HB; have HO_12 := n0_; have HO_27 := n1_; have BK253 := n2_; have HB := n3_; clear n0_ n1_ n2_ n3_; have hcz23_0 : w22.cell? ⟨gb253, 0, none⟩ = some (.int .i64 ((rd_T93 T x29_1).f0)) := (blk_cell BK253.out 0).trans rfl; have hcz23_1 : w22.cell? ⟨gb253, 1, none⟩ = some (.int .i64 ((rd_T93 T x29_1).f1)) := (blk_cell BK253.out 1).trans rfl; have hcz23_2 : w22.cell? ⟨gb253, 2, none⟩ = some (.int .i64 ((rd_T93 T x29_1).f2)) := (blk_cell BK253.out 2).trans rfl; have hfz23_0 := blk_frozen BK253.out 0; have hfz23_1 := blk_frozen BK253.out 1; have hfz23_2 := blk_frozen BK253.out 2; obtain ⟨Ao24, co24, eo24⟩ := Kd.R_slice HO_12.out; subst eo24; have p254 : 0 ≤ (((rd_T93 T x29_1).f2) : Int) := of_decide_eq_true (by first | (with_reducible assumption) | assumption); have q254 : ((rd_T93 T x29_1).f2) < (x12_1.length : Int) := of_decide_eq_true (by first | (with_reducible assumption) | assumption); obtain ⟨ad254, e254, hx254_0⟩ := Kd.at_int (Kd.R_reads' HO_12.out).2.2 ((rd_T93 T x29_1).f2) p254 q254; cases e254; replace p254 := eq_true p254; replace q254 := eq_true q254; have p19 : 0 ≤ (((rd_T93 T x29_1).f2) : Int) := of_decide_eq_true (by first | (with_reducible assumption) | assumption); have q19 : (((rd_T93 T x29_1).f2) : Int) < ((x12_1.length : Int) : Int) := of_decide_eq_true (by first | (with_reducible assumption) | assumption); obtain ⟨go19, co19, eo19, gb19, gl19, cl19, HG19⟩ := Kd.R_form HO_12.out (by omega); (first | cases eo19 | (injection eo19 with ea_ en_ ec_; (first | subst ea_ | (injection ea_ with ea_; subst ea_)); subst ec_; clear en_)); have GB19 := Aside0.mk gb19; have GG19 := Aside0.mk HG19; clear gb19 gl19 HG19; (first | simp only [add_plain] at hx254_0 | skip); obtain ⟨hx19_0, hf19_0⟩ := Kd.R_celln 0 HO_12.out (((rd_T93 T x29_1).f2) : Int) p19 q19; replace p19 := eq_true p19; replace q19 := eq_true q19; obtain ⟨hy25_, hz25_⟩ := Kd.R_celln 0 HO_12.out (((rd_T93 T x29_1).f2) : Int) (of_decide_eq_true (by first | (with_reducible assumption) | assumption)) (of_decide_eq_true (by first | (with_reducible assumption) | assumption)); have HP25 := Kd.R_putg HO_12.out (((rd_T93 T x29_1).f2) : Int) (wrap64 ((rd x12_1 ((rd_T93 T x29_1).f2)) + 1))) | ((with_reducible refine gate_store (t := 3) (p := 44) rfl ?_); refine store_event (t := 3) (p := 44) (v := ?vo_w26) (w1 := (w22.setCell ⟨go19, (((rd_T93 T x29_1).f2) : Int).toNat, none⟩ (.int .i64 (wrap64 ((rd x12_1 ((rd_T93 T x29_1).f2)) + 1))))) ?hg ?ho ?hn ?hr ?_; (case ho => rfl); (case hg => rfl); (case hn => rfl); (case hr => first | (go_simp; done) | (go_simp; rfl)); intro w26 hw; have hg : w22.grownBy w26 (some go19) := (by rw [hw]; exact HP25.2); have hp_ : Kd.R (Kd.int .i64) 3 w26 w.heap.size (fun _ => True) (.slice (some ⟨go19, 0, none⟩) x12_1.length co24) y255 := (by rw [hw, Ny255.out]; exact HP25.1); clear HP25; have n0_ := Aside0.mk (hp_); have n1_ := Aside0.mk (Kd.R_over' (v := (.slice (some ⟨go19, 0, none⟩) x12_1.length co24)) (by (with_reducible repeat (first | apply Kd.R_alloc | apply Kd.R_drewN | apply Kd.R_drew)); exact HO_27.out) (Kd.R_typed HO_12.out) (by decide) hg); have n2_ := Aside0.mk (blk_grown (g := gb253) (o := .cells #[.int .i64 ((rd_T93 T x29_1).f0), .int .i64 ((rd_T93 T x29_1).f1), .int .i64 ((rd_T93 T x29_1).f2)] 93 (0, 0)) (by (with_reducible repeat (first | refine blk_drewN ?_ _ | refine blk_drew ?_ | refine blk_alloc ?_ _)); exact BK253.out) hg (Kd.R_ne HO_12.out BK253.out (by decide))); have n3_ := Aside0.mk ((by rw [hw]; exact below_set (HB.out) GB19.out : Below w.heap.size w w26)); clear HO_12; clear HO_27; clear BK253; clear HB; have HO_12 := n0_; have HO_27 := n1_; have BK253 := n2_; have HB := n3_; clear n0_ n1_ n2_ n3_; clear hg hw hp_))
                  go_roundg k1
                  case measure => have := HK1.out; omega
                  case rel => exact ⟨(y255), (wrap64 (x29_1 + 1)), (by first | rfl | (simp; done) | (simp [*]; done)), H', ⟨by have := HK1.out; omega⟩, ⟨by (with_reducible repeat (first | apply Kd.R_alloc | apply Kd.R_drewN | apply Kd.R_drew)); exact HO_12.out⟩, ⟨by (with_reducible repeat (first | apply Kd.R_alloc | apply Kd.R_drewN | apply Kd.R_drew)); exact Kd.R_mono HO_27.out (fun _ hk => trivial)⟩, ⟨by repeat (first | (with_reducible first | exact HB.out | apply below_alloc | apply pw_below_drewN | apply below_drew1 | refine below_set ?_ GE253.out) | exact HB.out)⟩⟩
                · rw [if_neg c18] at H
                  exact absurd H (by simp)
              · rw [if_neg c17] at H
                exact absurd H (by simp)
            · rw [if_neg c16] at H
              have c16b0 : (((rd_T93 T x29_1).f0) == 1) = false := beq_eq_false_iff_ne.mpr c16
              have c16b1 : (((rd_T93 T x29_1).f0) != 1) = true := bne_iff_ne.mpr c16
              have H' := Aside0.mk H
              clear H
              have p252 : 0 ≤ (x29_1 : Int) := of_decide_eq_true (by first | (with_reducible assumption) | assumption)
              have q252 : x29_1 < (T.length : Int) := of_decide_eq_true (by first | (with_reducible assumption) | assumption)
              obtain ⟨ad252, e252, hx252_0, hx252_1, hx252_2⟩ := at_T93 (Kd.R_reads' HO_27.out).2.2 x29_1 p252 q252
              cases e252
              replace p252 := eq_true p252
              replace q252 := eq_true q252
              go_wp2_with (first | ((with_reducible refine gate_dst (N := 12) rfl ?_); refine box_event ?hg (N := 12) ?hd (cs := #[.int .i64 0, .int .i64 0, .int .i64 0]) (t := 93) ?hr ?_; (case hd => rfl); (case hg => rfl); (case hr => first | (go_simp; done) | (go_simp; rfl)); intro gb253 hg w27 hbox hb; have n0_ := Aside0.mk (Kd.R_below (by (with_reducible repeat (first | apply Kd.R_alloc | apply Kd.R_drewN | apply Kd.R_drew)); exact HO_12.out) hb); have n1_ := Aside0.mk (Kd.R_below (Kd.R_elderB (by (with_reducible repeat (first | apply Kd.R_alloc | apply Kd.R_drewN | apply Kd.R_drew)); exact HO_27.out) gb253 (Nat.le_of_eq hg.symm)) hb); have n2_ := Aside0.mk (below_step (by repeat (first | (with_reducible first | exact HB.out | apply below_alloc | apply pw_below_drewN | apply below_drew1) | exact HB.out)) hb); have n3_ := Aside0.mk (hbox); have n4_ := Aside0.mk ((by rw [hg]; exact (below_size (by repeat (first | (with_reducible first | exact HB.out | apply below_alloc | apply pw_below_drewN | apply below_drew1) | exact HB.out))) : w.heap.size ≤ gb253)); have n5_ := Aside0.mk ((by rw [hg]; exact (below_size (by repeat (first | (with_reducible first | exact HB.out | apply below_alloc | apply pw_below_drewN | apply below_drew1) | exact HB.out))) : w.heap.size ≤ gb253)); clear HO_12; clear HO_27; clear HB; have HO_12 := n0_; have HO_27 := n1_; have HB := n2_; have BK253 := n3_; have GW253 := n4_; have GE253 := n5_; clear n0_ n1_ n2_ n3_ n4_ n5_; clear hb hbox hg; have hcz28_0 : w27.cell? ⟨gb253, 0, none⟩ = some (.int .i64 0) := (blk_cell BK253.out 0).trans rfl; have hcz28_1 : w27.cell? ⟨gb253, 1, none⟩ = some (.int .i64 0) := (blk_cell BK253.out 1).trans rfl; have hcz28_2 : w27.cell? ⟨gb253, 2, none⟩ = some (.int .i64 0) := (blk_cell BK253.out 2).trans rfl; have hfz28_0 := blk_frozen BK253.out 0; have hfz28_1 := blk_frozen BK253.out 1; have hfz28_2 := blk_frozen BK253.out 2))
              go_roundg k1
              case measure => have := HK1.out; omega
              case rel => exact ⟨(x12_1), (wrap64 (x29_1 + 1)), (by first | rfl | (simp; done) | (simp [*]; done)), H', ⟨by have := HK1.out; omega⟩, ⟨by (with_reducible repeat (first | apply Kd.R_alloc | apply Kd.R_drewN | apply Kd.R_drew)); exact Kd.R_mono (Kd.R_far (p := ⟨gb253, 2, none⟩) (Kd.R_far (p := ⟨gb253, 1, none⟩) (Kd.R_far (p := ⟨gb253, 0, none⟩) (Kd.R_types HO_12.out BK253.out (by decide)) (fun _ hk => hk.2) (.int .i64 ((rd_T93 T x29_1).f0))) (fun _ hk => hk.2) (.int .i64 ((rd_T93 T x29_1).f1))) (fun _ hk => hk.2) (.int .i64 ((rd_T93 T x29_1).f2))) (fun _ hk => trivial)⟩, ⟨by (with_reducible repeat (first | apply Kd.R_alloc | apply Kd.R_drewN | apply Kd.R_drew)); exact Kd.R_mono (Kd.R_far (p := ⟨gb253, 2, none⟩) (Kd.R_far (p := ⟨gb253, 1, none⟩) (Kd.R_far (p := ⟨gb253, 0, none⟩) (Kd.R_mono HO_27.out (fun k_ hk => (⟨hk, hk.2⟩ : _ ∧ k_ ≠ gb253))) (fun _ hk => hk.2) (.int .i64 ((rd_T93 T x29_1).f0))) (fun _ hk => hk.2) (.int .i64 ((rd_T93 T x29_1).f1))) (fun _ hk => hk.2) (.int .i64 ((rd_T93 T x29_1).f2))) (fun _ hk => trivial)⟩, ⟨by repeat (first | (with_reducible first | exact HB.out | apply below_alloc | apply pw_below_drewN | apply below_drew1 | refine below_set ?_ GE253.out) | exact HB.out)⟩⟩
          · rw [if_neg c15] at H
            exact absurd H (by simp)
        · rw [if_neg c14] at H
          exact absurd H (by simp)
      · rw [if_neg c13] at H
        have c13b0 : decide (x29_1 < (T.length : Int)) = false := decide_eq_false c13
        clear c13
        simp only [Option.some.injEq, Prod.mk.injEq] at H
        obtain ⟨rfl, rfl⟩ := H
        go_wp2
        go_ret2
        exact ⟨_, by first | rfl | (simp [errW_none, errW_some] <;> rfl) | (simp [*, errW_none, errW_some] <;> rfl), by (with_reducible repeat (first | apply Kd.R_alloc | apply Kd.R_drewN | apply Kd.R_drew)); exact HO_12.out, by repeat (first | (with_reducible first | exact HB.out | apply below_alloc | apply pw_below_drewN | apply below_drew1) | exact HB.out)⟩
theorem spec_WorkOfH.calls (k : Nat) (A0 : Option Addr) (c0 : Nat) (l0 : List Int) (a1 : Int) (A2 : Option Addr) (c2 : Nat) (l2 : List Int) (A3 : Option Addr) (c3 : Nat) (l3 : List Int) (r1 : List Int) (r2 : Bool) (w : World) (hr0 : Kd.C (Kd.int .i64) w A0 l0.length l0) (hc0 : l0.length ≤ c0) (hr2 : Kd.C (Kd.int .i64) w A2 l2.length l2) (hc2 : l2.length ≤ c2) (hr3 : Kd.C (Kd.int .i64) w A3 l3.length l3) (hc3 : l3.length ≤ c3) (h : spec_WorkOfH.f k l0 a1 l2 l3 = some (r1, r2)) :
    Calls Try.prog 29 #[.slice A0 l0.length c0, .int .i64 a1, .slice A2 l2.length c2, .slice A3 l3.length c3] w fun e w' => ∃ v0_ : Value, e = .returned (.tuple #[v0_, .bool r2]) ∧ Kd.R (Kd.int .i64) 3 w' w.heap.size (fun _ => True) v0_ r1 ∧ Below w.heap.size w w' := by
  unfold spec_WorkOfH.f at h
  split at h
  · rename_i hl0
    obtain ⟨t, ht, h⟩ := Option.bind_eq_some_iff.1 h
    cases t with
    | false =>
      simp at h
      obtain ⟨rfl, rfl⟩ := h
      have HA := Aside0.mk (spec_l13Asked.calls k A0 c0 l0 a1 A2 c2 l2 A3 c3 l3 false w hr0 hc0 hr2 hc2 hr3 hc3 ht)
      clear hr0 hc0 hr2 hc2 hr3 hc3 ht
      go_enter Try.func29, Try.ntmps29
      go_wp2_with fail
      refine HA.out.mono ?_
      rintro e w1 ⟨rfl, hw1⟩
      have HB := Aside0.mk hw1.below
      clear hw1
      go_wp2_with fail
      go_ret2
      exact ⟨_, rfl, Kd.R_nil _ _ _ _ _, HB.out⟩
    | true =>
      have hA := asked_true hl0 ht
      obtain ⟨n, rfl⟩ : ∃ n : Nat, a1 = (n : Int) := ⟨a1.toNat, by have := hA.w1; omega⟩
      rw [if_pos rfl, Int.toNat_natCast] at h
      exact spec_WorkOfH.on k n (by have := hA.w1; omega) (by have := hA.w8; omega) A0 c0 l0 A2 c2 l2 A3 c3 l3 r1 r2 w k hr0 hc0 hr2 hc2 hr3 hc3 ht hA _ rfl h
  · cases h
end Go.Proofs.Ytoaimlpbliabdaa.QFnExactEventsOf
