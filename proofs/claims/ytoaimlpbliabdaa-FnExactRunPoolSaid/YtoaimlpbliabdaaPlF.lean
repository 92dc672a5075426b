/- The program's pool walked: newRun and RunPool. No conditions but those of each lemma. -/
import Derived.Test.YtoaimlpbliabdaaPlC
import Derived.Test.YtoaimlpbliabdaaPlE
import Derived.Deep.RegionWith
import Derived.Deep.RegionHeld3
namespace Go.Proofs.Ytoaimlpbliabdaa.QFnExactEventsOf
open Go.RowKit Go.Proofs.YtoaimlpbliabdaaW.PrintWords Go.Proofs.YtoaimlpbliabdaaW.PrintLast Go.Proofs.YtoaimlpbliabdaaW.PrintMore PoolModel
set_option linter.unusedVariables false
set_option linter.unusedSimpArgs false

theorem within_eq (a b c : Int) : impl_within.f a b c = spec_l1In.f a b c := rfl
theorem goodforest_eq : ∀ (k : Nat) (x0 x5 : List Int) (x6 x7 : Int), impl_GoodForest.l0 k x0 x5 x6 x7 = spec_l13Forest.l0 k x0 x5 x6 x7 := by
  intro k
  induction k with
  | zero => intro _ _ _ _; rfl
  | succ k ih =>
    intro x0 x5 x6 x7
    simp only [impl_GoodForest.l0, spec_l13Forest.l0, within_eq, ih]
def inB (x : Int) : Bool := decide (0 ≤ x) && decide (x ≤ 999)
theorem in999 (x : Int) : spec_l1In.f x 0 999 = some (inB x) := by
  unfold spec_l1In.f inB
  by_cases h : 0 ≤ x
  · rw [if_pos h, decide_eq_true h]; simp
  · rw [if_neg h, decide_eq_false h]; simp
/-- What areDrawn says. -/
def drawnB (l : List Int) : Bool := l.all inB && decide (l.length ≤ 300)
theorem areDrawn_l0 (l : List Int) (hn : l.length ≤ 2000000) : ∀ (d i k : Nat), i ≤ l.length → l.length - i = d → d < k → impl_areDrawn.l0 k l l (l.length : Int) (i : Int) = some ((l.drop i).all inB && decide (l.length ≤ 300)) := by
  intro d
  induction d with
  | zero =>
    intro i k hi hd hk
    obtain ⟨k, rfl⟩ : ∃ m, k = m + 1 := ⟨k - 1, by omega⟩
    simp only [impl_areDrawn.l0]
    rw [if_neg (by omega), List.drop_eq_nil_of_le (by omega)]
    simp
    omega
  | succ d ih =>
    intro i k hi hd hk
    obtain ⟨k, rfl⟩ : ∃ m, k = m + 1 := ⟨k - 1, by omega⟩
    have hlt : i < l.length := by omega
    simp only [impl_areDrawn.l0]
    rw [if_pos (by omega), if_pos (by omega), if_pos (by omega), rd_at hlt, within_eq, in999, wrap_up hlt hn, List.drop_eq_getElem_cons hlt]
    simp only [Option.bind_some, List.all_cons]
    cases hb : inB l[i] with
    | false => simp
    | true => simp only [if_true, Bool.true_and]; exact ih (i + 1) k (by omega) (by omega) (by omega)
theorem areDrawn_f {l : List Int} (hn : l.length ≤ 2000000) {k : Nat} (hk : l.length < k) : impl_areDrawn.f k l = some (drawnB l) := by
  unfold impl_areDrawn.f drawnB
  have := areDrawn_l0 l hn l.length 0 k (by omega) (by omega) hk
  simpa using this
theorem l1All_l0 (l : List Int) (hn : l.length ≤ 2000000) : ∀ (k i : Nat) (b : Bool), i ≤ l.length → spec_l1All.l0 k 0 999 l (l.length : Int) (i : Int) = some b → b = (l.drop i).all inB := by
  intro k
  induction k with
  | zero => intro i b _ h; simp [spec_l1All.l0] at h
  | succ k ih =>
    intro i b hi h
    simp only [spec_l1All.l0] at h
    by_cases hlt : i < l.length
    · rw [if_pos (by omega), if_pos (by omega), if_pos (by omega), rd_at hlt, in999, wrap_up hlt hn] at h
      simp only [Option.bind_some] at h
      rw [List.drop_eq_getElem_cons hlt, List.all_cons]
      cases hb : inB l[i] with
      | false => rw [hb] at h; simp at h; subst h; simp
      | true =>
        rw [hb] at h
        simp only [if_true] at h
        rw [Bool.true_and]
        exact ih (i + 1) b (by omega) h
    · rw [if_neg (by omega)] at h
      rw [List.drop_eq_nil_of_le (by omega)]
      simp at h
      simp [← h]
theorem asked_parts {k : Nat} {up picks draws : List Int} {workers : Int} {t : Bool} (hp : picks.length ≤ 2000000) (hd : draws.length ≤ 2000000) (h : spec_l13Asked.f k up workers picks draws = some t) :
    ∃ bF, impl_GoodForest.f k up = some bF ∧ t = (bF && (decide (1 ≤ workers) && decide (workers ≤ 8)) && drawnB picks && drawnB draws) := by
  unfold spec_l13Asked.f at h
  obtain ⟨b1, hb1, h⟩ := Option.bind_eq_some_iff.1 h
  refine ⟨b1, by unfold impl_GoodForest.f; rw [goodforest_eq]; exact hb1, ?_⟩
  cases b1 with
  | false => simp at h; simp [h]
  | true =>
    rw [if_pos rfl] at h
    obtain ⟨b2, hb2, h⟩ := Option.bind_eq_some_iff.1 h
    have hw : b2 = (decide (1 ≤ workers) && decide (workers ≤ 8)) := by
      unfold spec_l1In.f at hb2
      by_cases h1 : workers ≥ 1
      · rw [if_pos h1] at hb2
        have h1' : (1 : Int) ≤ workers := h1
        simp only [Option.some.injEq] at hb2
        rw [decide_eq_true h1', ← hb2]; simp
      · rw [if_neg h1] at hb2
        have h1' : ¬ (1 : Int) ≤ workers := h1
        simp only [Option.some.injEq] at hb2
        rw [decide_eq_false h1', ← hb2]; simp
    rw [← hw]
    cases b2 with
    | false => simp at h; simp [h]
    | true =>
      rw [if_pos rfl] at h
      unfold drawnB
      by_cases h3 : (picks.length : Int) ≤ 300
      · rw [if_pos h3] at h
        by_cases h4 : (draws.length : Int) ≤ 300
        · rw [if_pos h4] at h
          obtain ⟨b3, hb3, h⟩ := Option.bind_eq_some_iff.1 h
          have e3 := l1All_l0 picks hp k 0 b3 (Nat.zero_le _) hb3
          rw [List.drop_zero] at e3
          rw [← e3, decide_eq_true (show picks.length ≤ 300 by omega), decide_eq_true (show draws.length ≤ 300 by omega)]
          cases b3 with
          | false => simp at h; simp [h]
          | true =>
            rw [if_pos rfl] at h
            obtain ⟨b4, hb4, h⟩ := Option.bind_eq_some_iff.1 h
            have e4 := l1All_l0 draws hd k 0 b4 (Nat.zero_le _) hb4
            rw [List.drop_zero] at e4
            simp only [Option.some.injEq] at h
            rw [← e4, ← h]; simp
        · rw [if_neg h4] at h
          simp only [Option.some.injEq] at h
          rw [decide_eq_false (show ¬ draws.length ≤ 300 by omega), ← h]; simp
      · rw [if_neg h3] at h
        simp only [Option.some.injEq] at h
        rw [decide_eq_false (show ¬ picks.length ≤ 300 by omega), ← h]; simp

end Go.Proofs.Ytoaimlpbliabdaa.QFnExactEventsOf
namespace Go.Proofs.Ytoaimlpbliabdaa.QFnExactEventsOf
open Go.RowKit Go.Proofs.YtoaimlpbliabdaaW.PrintWords Go.Proofs.YtoaimlpbliabdaaW.PrintLast Go.Proofs.YtoaimlpbliabdaaW.PrintMore PoolModel
set_option linter.unusedVariables false
set_option linter.unusedSimpArgs false

theorem idx_eq_count (t : Int) : ∀ (l : List Int) (i : Nat), (idx (fun _ x => decide (x = t)) l i).length = l.count t := by
  intro l
  induction l with
  | nil => intro i; rfl
  | cons x l ih =>
    intro i
    unfold idx
    by_cases h : x = t
    · subst h; simp [ih]
    · rw [if_neg (by simpa using h), ih, List.count_cons_of_ne (by simpa using h)]
theorem below_count (up : List Int) (t : Int) : (belowIn up t).length = up.count t := idx_eq_count t up 0

def cntTo (up : List Int) (j : Nat) : List Int := (List.range up.length).map fun (k : Nat) => (((up.take j).count (k : Int) : Nat) : Int)
theorem cntTo_len (up : List Int) (j : Nat) : (cntTo up j).length = up.length := by simp [cntTo]
theorem cntTo_end (up : List Int) : cntTo up up.length = (List.range up.length).map fun (k : Nat) => ((belowIn up (k : Int)).length : Int) := by
  unfold cntTo
  rw [List.take_length]
  apply List.map_congr_left
  intro k _
  rw [below_count]
theorem cntTo_get (up : List Int) (j : Nat) {i : Nat} (h : i < up.length) : (cntTo up j).getD i 0 = (((up.take j).count (i : Int) : Nat) : Int) := by
  unfold cntTo
  rw [List.getD_eq_getElem?_getD, List.getElem?_map, List.getElem?_range h]
  rfl
theorem cntTo_le (up : List Int) (j : Nat) {i : Nat} (h : i < up.length) : 0 ≤ (cntTo up j).getD i 0 ∧ (cntTo up j).getD i 0 ≤ up.length := by
  rw [cntTo_get up j h]
  have h1 : (up.take j).count (i : Int) ≤ (up.take j).length := List.count_le_length
  have h2 : (up.take j).length ≤ up.length := by rw [List.length_take]; omega
  omega
theorem take_snoc' (up : List Int) {j : Nat} (hj : j < up.length) : up.take (j + 1) = up.take j ++ [up[j]] := by
  rw [List.take_succ_eq_append_getElem hj]
theorem cntTo_neg (up : List Int) {j : Nat} (hj : j < up.length) (h : up[j] < 0) : cntTo up (j + 1) = cntTo up j := by
  unfold cntTo
  apply List.map_congr_left
  intro k _
  rw [take_snoc' up hj, List.count_append, List.count_singleton]
  rw [if_neg (by simp; omega)]
  simp
theorem cntTo_set (up : List Int) {j a : Nat} (hj : j < up.length) (ha : a < up.length) (h : up[j] = (a : Int)) : (cntTo up j).set a ((cntTo up j).getD a 0 + 1) = cntTo up (j + 1) := by
  rw [cntTo_get up j ha]
  apply List.ext_getElem
  · simp [cntTo]
  · intro i h1 h2
    rw [List.getElem_set]
    simp only [cntTo, List.getElem_map, List.getElem_range]
    rw [take_snoc' up hj, List.count_append, List.count_singleton, h]
    by_cases e : a = i
    · subst e
      rw [if_pos rfl, if_pos (by simp)]
      omega
    · rw [if_neg e, if_neg (by simp; omega)]
      simp

def is0 (up picks draws : List Int) (workers : Nat) : IS := { decks := List.replicate workers [], left := List.replicate up.length 0, pre := List.replicate up.length false, post := List.replicate up.length false, told := [], steps := 0, up := up, picks := picks, draws := draws }
def is1 (up picks draws : List Int) (workers j : Nat) : IS := { is0 up picks draws workers with left := cntTo up j }
theorem is1_0 (up picks draws : List Int) (workers : Nat) : is1 up picks draws workers 0 = is0 up picks draws workers := by
  unfold is1 is0 cntTo
  congr 1
  simp [List.map_const']
theorem is_start (up picks draws : List Int) (workers : Nat) : ipushed (is1 up picks draws workers up.length) 0 (belowIn up (-1)) 0 = IS.of up picks draws (PoolModel.start up workers) := by
  unfold ipushed is1 is0 IS.of PoolModel.start
  simp only [cntTo_end, List.drop_zero, getD_replicate, List.nil_append, List.map_nil]
  rfl

theorem ImW.begin {w w' : World} {g b1 b2 b3 b4 workers : Nat} {uA pA nA : Option Addr} {uc pc nc : Nat} {up picks draws : List Int}
    (hg : w'.heap[g]? = some (.cells #[.slice uA up.length uc, .slice (some ⟨b1, 0, none⟩) workers workers, .slice (some ⟨b2, 0, none⟩) up.length up.length, .slice (some ⟨b3, 0, none⟩) up.length up.length, .slice (some ⟨b4, 0, none⟩) up.length up.length, .slice none 0 0, .int .i64 0, .slice pA picks.length pc, .slice nA draws.length nc] 89 (0, 0)))
    (h1 : w'.heap[b1]? = some (.cells (madeCells #[.slice none 0 0] workers) 32 (0, 0))) (h2 : w'.heap[b2]? = some (.cells (madeCells #[.int .i64 0] up.length) 3 (0, 0))) (h3 : w'.heap[b3]? = some (.cells (madeCells #[.bool false] up.length) 4 (0, 0))) (h4 : w'.heap[b4]? = some (.cells (madeCells #[.bool false] up.length) 4 (0, 0)))
    (hne : b3 ≠ b4) (g0 : w.heap.size ≤ g) (l1 : w.heap.size ≤ b1) (l2 : w.heap.size ≤ b2) (l3 : w.heap.size ≤ b3) (l4 : w.heap.size ≤ b4) (hB : Below w.heap.size w w')
    (hu : Kd.C (Kd.int .i64) w uA up.length up) (huc : up.length ≤ uc) (hp : Kd.C (Kd.int .i64) w pA picks.length picks) (hpc : picks.length ≤ pc) (hd : Kd.C (Kd.int .i64) w nA draws.length draws) (hdc : draws.length ≤ nc) (hw : workers ≤ 2000000) (hul : up.length ≤ 2000000) :
    ImW (fun _ => False) w w' g (.slice (some ⟨b1, 0, none⟩) workers workers) (.slice (some ⟨b2, 0, none⟩) up.length up.length) (.slice (some ⟨b3, 0, none⟩) up.length up.length) (.slice (some ⟨b4, 0, none⟩) up.length up.length) (.slice none 0 0) (.slice pA picks.length pc) (.slice nA draws.length nc) uA uc (is0 up picks draws workers) := by
  have h12 : b1 ≠ b2 := by
    rintro rfl
    rw [h1] at h2
    injection h2 with h2
    injection h2 with _ h2 _
    exact absurd h2 (by decide)
  refine ⟨hg, g0, ?_, ?_, ?_, ?_, Kd.R_nil _ _ _ _ _, hu, huc, ⟨pA, pc, rfl, hpc, hp⟩, ⟨nA, nc, rfl, hdc, hd⟩, hB⟩
  · refine Kd.S_bare (R_zeros (Kd.bare (Kd.slice 3 (Kd.int .i64))) (z := .slice none 0 0) (by rw [show workers * (Kd.bare (Kd.slice 3 (Kd.int .i64))).sz = workers from Nat.mul_one _]; exact h1) rfl (by decide) ?_ l1 ⟨?_, fun h => h⟩ hw)
    · exact ⟨_, rfl, Kd.R_nil _ _ _ _ _⟩
    · intro h
      injection h with h
      exact h12 h
  · exact R_zeros (Kd.int .i64) (z := .int .i64 0) (by rw [show up.length * (Kd.int .i64).sz = up.length from Nat.mul_one _]; exact h2) rfl (by decide) rfl l2 trivial hul
  · refine R_zeros Kd.bool (z := .bool false) (by rw [show up.length * Kd.bool.sz = up.length from Nat.mul_one _]; exact h3) rfl (by decide) rfl l3 ?_ hul
    intro h
    injection h with h
    exact hne h
  · exact R_zeros Kd.bool (z := .bool false) (by rw [show up.length * Kd.bool.sz = up.length from Nat.mul_one _]; exact h4) rfl (by decide) rfl l4 trivial hul

end Go.Proofs.Ytoaimlpbliabdaa.QFnExactEventsOf
namespace Go.Proofs.Ytoaimlpbliabdaa.QFnExactEventsOf
open Go.RowKit Go.Proofs.YtoaimlpbliabdaaW.PrintWords Go.Proofs.YtoaimlpbliabdaaW.PrintLast Go.Proofs.YtoaimlpbliabdaaW.PrintMore PoolModel
set_option linter.unusedVariables false
set_option linter.unusedSimpArgs false

set_option maxRecDepth 100000 in
set_option maxHeartbeats 4000000 in
theorem newrun_calls {w : World} {uA pA nA : Option Addr} {uc pc nc : Nat} {up picks draws : List Int} (workers : Nat) (kf : Nat) (hgf : impl_GoodForest.f kf up = some true) (hw0 : 0 < workers) (hw : workers ≤ 8) (hF : Forest up) (hdp : drawnB picks = true) (hdd : drawnB draws = true) (hpl : picks.length ≤ 300) (hdl : draws.length ≤ 300)
    (hu : Kd.C (Kd.int .i64) w uA up.length up) (huc : up.length ≤ uc) (hp : Kd.C (Kd.int .i64) w pA picks.length picks) (hpc : picks.length ≤ pc) (hd : Kd.C (Kd.int .i64) w nA draws.length draws) (hdc : draws.length ≤ nc) :
    Calls Try.prog 90 #[.slice uA up.length uc, .int .i64 (workers : Int), .slice pA picks.length pc, .slice nA draws.length nc] w fun e w' => ∃ g dv lv pv qv kv nv, e = .returned (.tuple #[.pointer (some ⟨g, 0, none⟩), .bool true]) ∧ ImW (fun _ => False) w w' g dv lv pv qv (.slice none 0 0) kv nv uA uc (IS.of up picks draws (PoolModel.start up workers)) := by
  have hup : up.length < 1000 := by have := hF.1; omega
  have HU := Aside0.mk hu
  have HD := Aside0.mk hd
  have HP := Aside0.mk hp
  have HUC := Aside0.mk huc
  have HPC := Aside0.mk hpc
  have HDC := Aside0.mk hdc
  have HF := Aside0.mk hF
  have hwi : impl_within.f (workers : Int) 1 8 = some true := by
    rw [within_eq]; unfold spec_l1In.f
    rw [if_pos (by omega)]; simp; omega
  have C1 := fun (W : World) h => Aside0.mk (impl_GoodForest.calls kf uA uc up true W h huc hgf)
  have C2 := fun (W : World) => Aside0.mk (impl_within.calls (workers : Int) 1 8 true W hwi)
  have C3 := fun (W : World) h => Aside0.mk (impl_areDrawn.calls 1001 pA pc picks true W h hpc (by rw [areDrawn_f (by omega) (by omega), hdp]))
  have C4 := fun (W : World) h => Aside0.mk (impl_areDrawn.calls 1001 nA nc draws true W h hdc (by rw [areDrawn_f (by omega) (by omega), hdd]))
  have D1 := C1 w hu
  have m22 := print_make_of (P := Try.prog) 22 32 (.slice none 0 0) 24 Try.underlying22 (by rw [info32]) rfl (by decide) workers (by omega)
  have m32 := print_make_of (P := Try.prog) 32 3 (.int .i64 0) 8 Try.underlying32 (by rw [info3]) rfl (by decide) up.length (by omega)
  have m46 := print_make_of (P := Try.prog) 46 4 (.bool false) 1 Try.underlying46 (by rw [info4]) rfl (by decide) up.length (by omega)
  clear hu hd hp huc hpc hdc hF hgf hwi hdp hdd C1
  have C2' := Aside0.mk C2
  have C3' := Aside0.mk C3
  have C4' := Aside0.mk C4
  clear C2 C3 C4
  go_enter Try.func90, Try.ntmps90
  go_wp2_with fail
  refine D1.out.mono ?_
  rintro e w1 ⟨rfl, hw1⟩
  have HB1 := Aside0.mk hw1.below
  clear hw1 D1
  go_wp2_with fail
  refine (C2'.out w1).out.mono ?_
  rintro e w2 ⟨rfl, hw2⟩
  have HB2 := Aside0.mk (below_then HB1.out HB1.out.size hw2.below)
  clear hw2 HB1
  go_wp2_with fail
  refine (C3'.out w2 (Kd.C_below HP.out HB2.out)).out.mono ?_
  rintro e w3 ⟨rfl, hw3⟩
  have HB3 := Aside0.mk (below_then HB2.out HB2.out.size hw3.below)
  clear hw3 HB2
  go_wp2_with fail
  refine (C4'.out w3 (Kd.C_below HD.out HB3.out)).out.mono ?_
  rintro e w4 ⟨rfl, hw4⟩
  have HB4 := Aside0.mk (below_then HB3.out HB3.out.size hw4.below)
  clear hw4 HB3 C2' C3' C4'
  go_wp2
  rename_i Q' K hK
  have hS : ∀ (w' : World) (g b1 b2 b3 b4 : Nat), ImW (fun _ => False) w w' g (.slice (some ⟨b1, 0, none⟩) workers workers) (.slice (some ⟨b2, 0, none⟩) up.length up.length) (.slice (some ⟨b3, 0, none⟩) up.length up.length) (.slice (some ⟨b4, 0, none⟩) up.length up.length) (.slice none 0 0) (.slice pA picks.length pc) (.slice nA draws.length nc) uA uc (is0 up picks draws workers) → K { tmps := #[(.slice uA up.length uc), (.int .i64 (workers : Int)), (.slice pA picks.length pc), (.slice nA draws.length nc), undef, undef, undef, undef, (.pointer none), (.bool false), (.int .i64 (up.length : Int)), (.pointer (some ⟨g, 0, none⟩)), undef, undef, (.slice uA up.length uc), (.bool true), (.bool false), (.bool false), (.int .i64 (workers : Int)), (.bool true), (.bool false), (.bool false), (.bool false), (.slice pA picks.length pc), (.bool true), (.bool false), (.bool false), (.bool false), (.slice nA draws.length nc), (.bool true), (.bool false), (.bool false), (.slice uA up.length uc), (.int .i64 (up.length : Int)), (.slice uA up.length uc), (.int .i64 (workers : Int)), (.slice (some ⟨b1, 0, none⟩) workers workers), (.int .i64 (up.length : Int)), (.slice (some ⟨b2, 0, none⟩) up.length up.length), (.int .i64 (up.length : Int)), (.slice (some ⟨b3, 0, none⟩) up.length up.length), (.int .i64 (up.length : Int)), (.slice (some ⟨b4, 0, none⟩) up.length up.length), (.agg #[(.slice (some ⟨b1, 0, none⟩) workers workers), (.slice (some ⟨b2, 0, none⟩) up.length up.length), (.slice (some ⟨b3, 0, none⟩) up.length up.length), (.slice (some ⟨b4, 0, none⟩) up.length up.length), .slice none 0 0, .int .i64 0]), (.slice pA picks.length pc), (.slice nA draws.length nc), (.agg #[(.slice uA up.length uc), (.slice (some ⟨b1, 0, none⟩) workers workers), (.slice (some ⟨b2, 0, none⟩) up.length up.length), (.slice (some ⟨b3, 0, none⟩) up.length up.length), (.slice (some ⟨b4, 0, none⟩) up.length up.length), .slice none 0 0, .int .i64 0, (.slice pA picks.length pc), (.slice nA draws.length nc)]), (.pointer (some ⟨g, 0, none⟩)), undef, undef, undef, undef, undef, undef, undef, undef, undef, undef, undef, undef, undef, undef, undef, undef, undef, undef, undef, undef, undef, undef, undef, undef], defers := [] } w' := by
    clear m22 m32 m46
    intro w' g b1 b2 b3 b4 h0
    refine hK _ _ ?_
    clear hK K
    have H0 := Aside0.mk h0
    clear h0
    go_wp2_with fail
    go_loopg [50] (up.length + 1) (fun kq v50 w' => ∃ j : Nat, v50 = .int .i64 (j : Int) ∧ j ≤ up.length ∧ kq + j = up.length + 1 ∧ Aside0 (ImW (fun _ => False) w w' g (.slice (some ⟨b1, 0, none⟩) workers workers) (.slice (some ⟨b2, 0, none⟩) up.length up.length) (.slice (some ⟨b3, 0, none⟩) up.length up.length) (.slice (some ⟨b4, 0, none⟩) up.length up.length) (.slice none 0 0) (.slice pA picks.length pc) (.slice nA draws.length nc) uA uc (is1 up picks draws workers j)))
    case atStart => exact ⟨0, rfl, by omega, by omega, ⟨by rw [is1_0]; exact H0.out⟩⟩
    case round =>
      obtain ⟨j, rfl, hjn, hjq, H1⟩ := hrel
      by_cases hlt : j < up.length
      · have c2 : wr.cell? ⟨g, 2, none⟩ = some (.slice (some ⟨b2, 0, none⟩) up.length up.length) := cell_blk H1.out.blk 2
        have hglt := blk_lt H1.out.blk
        have hj1 : (j : Int) < (up.length : Int) := by omega
        have hj0 : (0 : Int) ≤ (j : Int) := by omega
        obtain ⟨ad, hA, cl⟩ := Kd.at_int (Kd.C_below HU.out H1.out.bel) (j : Int) hj0 hj1
        rw [rd_at hlt] at cl
        simp only [Int.toNat_natCast] at cl
        have hfa := HF.out.2 j hlt
        by_cases ha : up[j] < 0
        · have hm1 : up[j] = -1 := by omega
          rw [hm1] at cl
          have HN := Aside0.mk (cntTo_neg up hlt ha)
          clear hfa ha hm1 H0
          subst hA
          go_wp2_with fail
          go_roundg (up.length - j)
          case measure => omega
          case rel =>
            refine ⟨j + 1, by go_num, by omega, by omega, ⟨?_⟩⟩
            have q := H1.out
            rw [show is1 up picks draws workers (j + 1) = is1 up picks draws workers j by unfold is1; rw [HN.out]]
            exact q
        · obtain ⟨an, hae⟩ : ∃ an : Nat, up[j] = (an : Int) := ⟨up[j].toNat, by omega⟩
          have hal : an < up.length := by omega
          rw [hae] at cl
          obtain ⟨gp, cap, he, hlc, hlf, hll, hlgg, hSl⟩ := H1.out.left_ an (by show an < (cntTo up j).length; rw [cntTo_len]; exact hal)
          injection he with he1 he2 he3
          injection he1 with he1
          injection he1 with he1 _ _
          subst he1
          have HSl := Aside0.mk hSl
          have hrd : rdOf 0 (is1 up picks draws workers j).left (an : Int) = (cntTo up j).getD an 0 := by
            unfold rdOf
            rw [Int.toNat_natCast]
            rfl
          rw [hrd] at hlc
          have hbd := cntTo_le up j hal
          have HN := Aside0.mk (cntTo_set up hlt hal hae)
          generalize (cntTo up j).getD an 0 = q at *
          have hal1 : (an : Int) < (up.length : Int) := by omega
          have hal0 : (0 : Int) ≤ (an : Int) := by omega
          obtain ⟨hq0, hq1⟩ := hbd
          clear hfa ha hae hSl he2 he3 hrd H0
          subst hA
          go_wp2_with fail
          go_roundg (up.length - j)
          case measure => omega
          case rel =>
            refine ⟨j + 1, by go_num, by omega, by omega, ⟨?_⟩⟩
            have qq := HSl.out (q + 1)
            rw [show ({ is1 up picks draws workers j with left := (is1 up picks draws workers j).left.set an (q + 1) } : IS) = is1 up picks draws workers (j + 1) by unfold is1; simp only [HN.out]] at qq
            exact qq
      · obtain rfl : j = up.length := by omega
        clear H0
        have H2 := Aside0.mk H1.out
        clear H1
        go_wp2_with fail
        refine (impl_belowIn.calls 2000001 uA uc up (-1) (belowIn up (-1)) _ (Kd.C_below HU.out H2.out.bel) HUC.out (ibelow_f (-1) (by omega) (by omega))).mono ?_
        rintro e w5 ⟨v3, rfl, hR3, hB3⟩
        obtain ⟨A3, c3, rfl⟩ := Kd.R_slice hR3
        have H3 := Aside0.mk (H2.out.excl hB3 (Kd.R_base hR3))
        have HL := Aside0.mk (Kd.R_lower (Kd.R_tight rfl hR3) H2.out.bel.size)
        have HX := Aside0.mk (Kd.R_lt hR3)
        clear hR3 hB3 H2
        go_wp2_with fail
        refine (ipush_calls H3.out (fun k hk => HX.out k hk.symm) 0 (by show 0 < (List.replicate workers ([] : List Int)).length; simpa using hw0) A3 c3 (belowIn up (-1)) HL.out (by have := below_len up (-1); show ((List.replicate workers ([] : List Int)).getD 0 []).length + _ < 1000; rw [getD_replicate]; simp; omega)).mono ?_
        rintro e w6 ⟨rfl, h4⟩
        have H4 := Aside0.mk h4.free
        rw [is_start] at H4
        clear h4 H3 HL HX
        go_wp2_with fail
        go_ret2
        exact ⟨g, _, _, _, _, _, _, rfl, H4.out⟩
  clear hK
  have hz4 := HB4.out.size
  go_region
  all_goals exact hS _ _ _ _ _ _ (ImW.begin (by refine pl_drew ?_; repeat (first | (refine pl_new ?_; (repeat (refine pl_size ?_)); exact rfl) | refine pl_old ?_)) (by refine pl_drew ?_; repeat (first | (refine pl_new ?_; (repeat (refine pl_size ?_)); exact rfl) | refine pl_old ?_)) (by refine pl_drew ?_; repeat (first | (refine pl_new ?_; (repeat (refine pl_size ?_)); exact rfl) | refine pl_old ?_)) (by refine pl_drew ?_; repeat (first | (refine pl_new ?_; (repeat (refine pl_size ?_)); exact rfl) | refine pl_old ?_)) (by refine pl_drew ?_; repeat (first | (refine pl_new ?_; (repeat (refine pl_size ?_)); exact rfl) | refine pl_old ?_)) (by omega) (by omega) (by omega) (by omega) (by omega) (by omega) (below_then HB4.out hz4 (by refine pl_belowd ?_; (repeat (refine pl_below ?_)); exact Below.refl _ _)) HU.out HUC.out HP.out HPC.out HD.out HDC.out (by omega) (by omega))
end Go.Proofs.Ytoaimlpbliabdaa.QFnExactEventsOf
namespace Go.Proofs.Ytoaimlpbliabdaa.QFnExactEventsOf
open Go.RowKit Go.Proofs.YtoaimlpbliabdaaW.PrintWords Go.Proofs.YtoaimlpbliabdaaW.PrintLast Go.Proofs.YtoaimlpbliabdaaW.PrintMore PoolModel
set_option linter.unusedVariables false
set_option linter.unusedSimpArgs false

theorem within18 (a : Int) : impl_within.f a 1 8 = some (decide (1 ≤ a) && decide (a ≤ 8)) := by
  rw [within_eq]; unfold spec_l1In.f
  by_cases h : (1 : Int) ≤ a
  · rw [if_pos h, decide_eq_true h]; simp
  · rw [if_neg h, decide_eq_false h]; simp
set_option maxRecDepth 100000 in
set_option maxHeartbeats 4000000 in
theorem newrun_no {w : World} {uA pA nA : Option Addr} {uc pc nc : Nat} {up picks draws : List Int} (workers : Int) (kf : Nat) (b1 : Bool) (hgf : impl_GoodForest.f kf up = some b1) (hpl : picks.length ≤ 2000000) (hdl : draws.length ≤ 2000000)
    (hno : (b1 && (decide (1 ≤ workers) && decide (workers ≤ 8)) && drawnB picks && drawnB draws) = false)
    (hu : Kd.C (Kd.int .i64) w uA up.length up) (huc : up.length ≤ uc) (hp : Kd.C (Kd.int .i64) w pA picks.length picks) (hpc : picks.length ≤ pc) (hd : Kd.C (Kd.int .i64) w nA draws.length draws) (hdc : draws.length ≤ nc) :
    Calls Try.prog 90 #[.slice uA up.length uc, .int .i64 workers, .slice pA picks.length pc, .slice nA draws.length nc] w fun e w' => e = .returned (.tuple #[.pointer none, .bool false]) ∧ Below w.heap.size w w' := by
  have HD := Aside0.mk hd
  have HP := Aside0.mk hp
  have D1 := Aside0.mk (impl_GoodForest.calls kf uA uc up b1 w hu huc hgf)
  have C2' := Aside0.mk (fun (W : World) => impl_within.calls workers 1 8 _ W (within18 workers))
  have C3' := Aside0.mk (fun (W : World) h => impl_areDrawn.calls 2000001 pA pc picks _ W h hpc (areDrawn_f (by omega) (by omega)))
  have C4' := Aside0.mk (fun (W : World) h => impl_areDrawn.calls 2000001 nA nc draws _ W h hdc (areDrawn_f (by omega) (by omega)))
  clear hu hd hp huc hpc hdc hgf
  generalize (decide (1 ≤ workers) && decide (workers ≤ 8)) = b2 at *
  generalize drawnB picks = b3 at *
  generalize drawnB draws = b4 at *
  cases b1 with
  | false =>
    clear hno
    go_enter Try.func90, Try.ntmps90
    go_wp2_with fail
    refine D1.out.mono ?_
    rintro e w1 ⟨rfl, hw1⟩
    have HB1 := Aside0.mk hw1.below
    clear hw1 D1 C2' C3' C4'
    go_wp2_with fail
    go_ret2
    exact ⟨rfl, HB1.out⟩
  | true =>
    cases b2 with
    | false =>
      clear hno
      go_enter Try.func90, Try.ntmps90
      go_wp2_with fail
      refine D1.out.mono ?_
      rintro e w1 ⟨rfl, hw1⟩
      have HB1 := Aside0.mk hw1.below
      clear hw1 D1 C3' C4'
      go_wp2_with fail
      refine (C2'.out w1).mono ?_
      rintro e w2 ⟨rfl, hw2⟩
      have HB2 := Aside0.mk (below_then HB1.out HB1.out.size hw2.below)
      clear hw2 HB1 C2'
      go_wp2_with fail
      go_ret2
      exact ⟨rfl, HB2.out⟩
    | true =>
      cases b3 with
      | false =>
        clear hno
        go_enter Try.func90, Try.ntmps90
        go_wp2_with fail
        refine D1.out.mono ?_
        rintro e w1 ⟨rfl, hw1⟩
        have HB1 := Aside0.mk hw1.below
        clear hw1 D1 C4'
        go_wp2_with fail
        refine (C2'.out w1).mono ?_
        rintro e w2 ⟨rfl, hw2⟩
        have HB2 := Aside0.mk (below_then HB1.out HB1.out.size hw2.below)
        clear hw2 HB1 C2'
        go_wp2_with fail
        refine (C3'.out w2 (Kd.C_below HP.out HB2.out)).mono ?_
        rintro e w3 ⟨rfl, hw3⟩
        have HB3 := Aside0.mk (below_then HB2.out HB2.out.size hw3.below)
        clear hw3 HB2 C3'
        go_wp2_with fail
        go_ret2
        exact ⟨rfl, HB3.out⟩
      | true =>
        obtain rfl : b4 = false := by simpa using hno
        clear hno
        go_enter Try.func90, Try.ntmps90
        go_wp2_with fail
        refine D1.out.mono ?_
        rintro e w1 ⟨rfl, hw1⟩
        have HB1 := Aside0.mk hw1.below
        clear hw1 D1
        go_wp2_with fail
        refine (C2'.out w1).mono ?_
        rintro e w2 ⟨rfl, hw2⟩
        have HB2 := Aside0.mk (below_then HB1.out HB1.out.size hw2.below)
        clear hw2 HB1 C2'
        go_wp2_with fail
        refine (C3'.out w2 (Kd.C_below HP.out HB2.out)).mono ?_
        rintro e w3 ⟨rfl, hw3⟩
        have HB3 := Aside0.mk (below_then HB2.out HB2.out.size hw3.below)
        clear hw3 HB2 C3'
        go_wp2_with fail
        refine (C4'.out w3 (Kd.C_below HD.out HB3.out)).mono ?_
        rintro e w4 ⟨rfl, hw4⟩
        have HB4 := Aside0.mk (below_then HB3.out HB3.out.size hw4.below)
        clear hw4 HB3 C4'
        go_wp2_with fail
        go_ret2
        exact ⟨rfl, HB4.out⟩
end Go.Proofs.Ytoaimlpbliabdaa.QFnExactEventsOf
namespace Go.Proofs.Ytoaimlpbliabdaa.QFnExactEventsOf
open Go.RowKit Go.Proofs.YtoaimlpbliabdaaW.PrintWords Go.Proofs.YtoaimlpbliabdaaW.PrintLast Go.Proofs.YtoaimlpbliabdaaW.PrintMore PoolModel
set_option linter.unusedVariables false
set_option linter.unusedSimpArgs false

/-- A pool's value as a result: what is told of its parts. -/
def PoolR (w w' : World) (v0 v1 v2 v3 v4 : Value) (r1 : List (List Int)) (r2 : List Int) (r3 r4 : List Bool) (r5 : List S93) : Prop :=
  Kd.S (Kd.slice 3 (Kd.int .i64)) 32 w' w.heap.size (fun k_ => some k_ ≠ (v1 : Value).ownBlock) v0 r1 ∧ Kd.R (Kd.int .i64) 3 w' w.heap.size (fun _ => True) v1 r2 ∧ Kd.R Kd.bool 4 w' w.heap.size (fun k_ => some k_ ≠ (v3 : Value).ownBlock) v2 r3 ∧ Kd.R Kd.bool 4 w' w.heap.size (fun k_ => some k_ ≠ (v2 : Value).ownBlock) v3 r4 ∧ Kd.R k93 93 w' w.heap.size (fun _ => True) v4 r5
theorem PoolR.put {w w' : World} {v0 v1 v2 v3 v4 : Value} {r1 : List (List Int)} {r2 : List Int} {r3 r4 : List Bool} {r5 : List S93} (h : PoolR w w' v0 v1 v2 v3 v4 r1 r2 r3 r4 r5) {gb : Nat} {cs : Array Value} (hb : w'.heap[gb]? = some (.cells cs 48 (0, 0))) (j : Nat) (u : Value) :
    PoolR w (w'.setCell ⟨gb, j, none⟩ u) v0 v1 v2 v3 v4 r1 r2 r3 r4 r5 :=
  ⟨Kd.S_set h.1 hb (by decide) _ _, Kd.R_set h.2.1 hb (by decide) _ _, Kd.R_set h.2.2.1 hb (by decide) _ _, Kd.R_set h.2.2.2.1 hb (by decide) _ _, Kd.R_set h.2.2.2.2 hb (by decide) _ _⟩
theorem PoolR.put6 {w w' : World} {v0 v1 v2 v3 v4 : Value} {r1 : List (List Int)} {r2 : List Int} {r3 r4 : List Bool} {r5 : List S93} (h : PoolR w w' v0 v1 v2 v3 v4 r1 r2 r3 r4 r5) {gb : Nat} {cs : Array Value} (hb : w'.heap[gb]? = some (.cells cs 48 (0, 0))) (u0 u1 u2 u3 u4 u5 : Value) :
    PoolR w ((((((w'.setCell ⟨gb, 0, none⟩ u0).setCell ⟨gb, 1, none⟩ u1).setCell ⟨gb, 2, none⟩ u2).setCell ⟨gb, 3, none⟩ u3).setCell ⟨gb, 4, none⟩ u4).setCell ⟨gb, 5, none⟩ u5) v0 v1 v2 v3 v4 r1 r2 r3 r4 r5 :=
  (((((h.put hb 0 u0).put (blk_set hb _ _) 1 u1).put (blk_set (blk_set hb _ _) _ _) 2 u2).put (blk_set (blk_set (blk_set hb _ _) _ _) _ _) 3 u3).put (blk_set (blk_set (blk_set (blk_set hb _ _) _ _) _ _) _ _) 4 u4).put (blk_set (blk_set (blk_set (blk_set (blk_set hb _ _) _ _) _ _) _ _) _ _) 5 u5
theorem PoolR.of {w w0 w' : World} {g : Nat} {dv lv pv qv tv kv nv : Value} {uA : Option Addr} {uc : Nat} {up picks draws : List Int} {p : PSt} (h : ImW (fun _ => False) w0 w' g dv lv pv qv tv kv nv uA uc (IS.of up picks draws p)) (hw : w.heap.size ≤ w0.heap.size) :
    PoolR w w' dv lv pv qv tv p.decks p.left p.pre p.post (p.told.map evS) :=
  ⟨Kd.S_mono (Kd.S_lower h.dk hw) (fun _ hk => hk.1), Kd.R_lower h.lf hw, Kd.R_lower h.pr hw, Kd.R_lower ⟨fun k hk he => h.pr.1 k he.symm hk.symm, h.po.2⟩ hw, Kd.R_lower h.td hw⟩
theorem below_put6 {w w' : World} (h : Below w.heap.size w w') (u0 u1 u2 u3 u4 u5 : Value) {gb : Nat} (hg : w.heap.size ≤ gb) :
    Below w.heap.size w ((((((w'.setCell ⟨gb, 0, none⟩ u0).setCell ⟨gb, 1, none⟩ u1).setCell ⟨gb, 2, none⟩ u2).setCell ⟨gb, 3, none⟩ u3).setCell ⟨gb, 4, none⟩ u4).setCell ⟨gb, 5, none⟩ u5) :=
  below_setCell (below_setCell (below_setCell (below_setCell (below_setCell (below_setCell h hg) hg) hg) hg) hg) hg
/-- What RunPool leaves. -/
def PoolPost (w : World) (p : PSt) (e : Ending) (w' : World) : Prop := ∃ v0 v1 v2 v3 v4 : Value, e = .returned (.tuple #[.agg #[v0, v1, v2, v3, v4, .int .i64 (p.steps : Int)], .bool true]) ∧ PoolR w w' v0 v1 v2 v3 v4 p.decks p.left p.pre p.post (p.told.map evS) ∧ Below w.heap.size w w'

set_option maxRecDepth 100000 in
set_option maxHeartbeats 4000000 in
theorem irun_calls {w : World} {uA pA nA : Option Addr} {uc pc nc : Nat} {up picks draws : List Int} (n : Nat) (steps : Int) (hs : 0 ≤ steps) (kf : Nat) (hgf : impl_GoodForest.f kf up = some true) (hdp : drawnB picks = true) (hdd : drawnB draws = true) (hA : Asked up (n : Int) picks draws)
    (hu : Kd.C (Kd.int .i64) w uA up.length up) (huc : up.length ≤ uc) (hp : Kd.C (Kd.int .i64) w pA picks.length picks) (hpc : picks.length ≤ pc) (hd : Kd.C (Kd.int .i64) w nA draws.length draws) (hdc : draws.length ≤ nc) :
    Calls Try.prog 37 #[.slice uA up.length uc, .int .i64 (n : Int), .slice pA picks.length pc, .slice nA draws.length nc, .int .i64 steps] w (PoolPost w (run up n picks draws steps.toNat (PoolModel.start up n))) := by
  have hn0 : 0 < n := by have := hA.w1; omega
  have hn8 : n ≤ 8 := by have := hA.w8; omega
  have hup : up.length < 1000 := by have := hA.forest.1; omega
  have hpl := hA.pl
  have hdl := hA.dl
  have HF := Aside0.mk hA.forest
  have HDR := Aside0.mk hA.dr
  have HPK := Aside0.mk hA.pk
  have HB0 := Aside0.mk (below_alloc (Below.refl w.heap.size w) (.cells #[.slice none 0 0, .slice none 0 0, .slice none 0 0, .slice none 0 0, .slice none 0 0, .int .i64 0] 48))
  have HK0 := Aside0.mk (blk_new w (.cells #[.slice none 0 0, .slice none 0 0, .slice none 0 0, .slice none 0 0, .slice none 0 0, .int .i64 0] 48))
  have HZ0 : Aside0 ((w.alloc (.cells #[.slice none 0 0, .slice none 0 0, .slice none 0 0, .slice none 0 0, .slice none 0 0, .int .i64 0] 48)).heap.size = w.heap.size + 1) := ⟨by show (w.heap.push _).size = _; rw [Array.size_push]⟩
  have HC := Aside0.mk (newrun_calls (w := w.alloc (.cells #[.slice none 0 0, .slice none 0 0, .slice none 0 0, .slice none 0 0, .slice none 0 0, .int .i64 0] 48)) n kf hgf hn0 hn8 hA.forest hdp hdd hpl hdl (Kd.C_below hu HB0.out) huc (Kd.C_below hp HB0.out) hpc (Kd.C_below hd HB0.out) hdc)
  clear hu huc hp hpc hd hdc hgf hdp hdd hA
  go_enter Try.func37, Try.ntmps37
  go_wp2_with fail
  generalize w.alloc (.cells #[.slice none 0 0, .slice none 0 0, .slice none 0 0, .slice none 0 0, .slice none 0 0, .int .i64 0] 48) = W0 at *
  refine HC.out.mono ?_
  rintro e w1 ⟨g, dv, lv, pv, qv, kv, nv, rfl, h1⟩
  have H1 := Aside0.mk h1
  clear h1 HC
  go_wp2_with fail
  go_loopg [] (up.length + 1) (fun kq w' => ∃ (p : PSt) (dv lv pv qv tv kv nv : Value), kq + p.steps = up.length + 1 ∧ Aside0 (ImW (fun _ => False) W0 w' g dv lv pv qv tv kv nv uA uc (IS.of up picks draws p)) ∧ Aside0 (PoolModel.Good up n p) ∧ Aside0 (p.drawn ≤ p.steps) ∧ Aside0 (run up n picks draws (steps.toNat - p.steps) p = run up n picks draws steps.toNat (PoolModel.start up n)))
  case atStart => exact ⟨PoolModel.start up n, _, _, _, _, _, _, _, rfl, H1, ⟨PoolModel.Good.start HF.out hn0⟩, ⟨Nat.le_refl _⟩, ⟨rfl⟩⟩
  case round =>
    clear H1
    obtain ⟨p, dv, lv, pv, qv, tv, kv, nv, hkq, H5, HG, HDS, HE⟩ := hrel
    have c6 : wr.cell? ⟨g, 6, none⟩ = some (.int .i64 (p.steps : Int)) := cell_blk H5.out.blk 6
    have hsle := HG.out.steps_le
    by_cases hlt : (p.steps : Int) < steps
    · by_cases hb : busy p = true
      · have hgl := HG.out.steps_lt hb
        have hcall := istep_on (picks := picks) H5.out HF.out HG.out hb HDR.out HPK.out (by omega) (by omega) hn0 (by omega) (by have := HDS.out; omega)
        have HC := Aside0.mk hcall
        have HB := Aside0.mk hb
        clear hcall hb
        go_wp2_with fail
        refine HC.out.mono ?_
        rintro e w7 ⟨rfl, dv7, lv7, pv7, qv7, tv7, kv7, nv7, h7⟩
        have H7 := Aside0.mk h7
        have HGS := HG.out.step (picks := picks) (draws := draws) HF.out hn0 HB.out
        have hpd := stepBy_drawn up draws p (pickAt picks n p.steps)
        clear h7 HC
        go_wp2_with fail
        go_roundg (up.length - p.steps)
        case measure => omega
        case rel =>
          refine ⟨_, dv7, lv7, pv7, qv7, tv7, kv7, nv7, ?_, H7, ⟨HGS.1⟩, ⟨?_⟩, ⟨?_⟩⟩
          · rw [HGS.2]; omega
          · rw [HGS.2]; have := HDS.out; omega
          · rw [← HE.out, HGS.2, show steps.toNat - p.steps = (steps.toNat - (p.steps + 1)) + 1 by omega]
            conv => rhs; unfold run
            rw [if_pos HB.out]
      · have hbf : busy p = false := by simpa using hb
        have hcall := istep_off H5.out HF.out HG.out hbf hn0 (by omega)
        have HC := Aside0.mk hcall
        have HR : Aside0 (p = run up n picks draws steps.toNat (PoolModel.start up n)) := ⟨by have e := HE.out; rw [run_off hbf] at e; exact e⟩
        clear hcall hb hbf HE
        go_wp2_with fail
        refine HC.out.mono ?_
        rintro e w7 ⟨rfl, h7⟩
        have H7 := Aside0.mk h7
        clear h7 HC H5
        obtain ⟨D0, k0, rfl⟩ := Kd.R_slice (Kd.S_R H7.out.dk)
        obtain ⟨D1, k1, rfl⟩ := Kd.R_slice H7.out.lf
        obtain ⟨D2, k2, rfl⟩ := Kd.R_slice H7.out.pr
        obtain ⟨D3, k3, rfl⟩ := Kd.R_slice H7.out.po
        obtain ⟨D4, k4, TL, hTL, rfl⟩ : ∃ A c m, Aside0 (m = (p.told.map evS).length) ∧ tv = .slice A m c := by obtain ⟨A, c, e⟩ := Kd.R_slice H7.out.td; exact ⟨A, c, _, ⟨rfl⟩, e⟩
        have hs0 : w7.cell? ⟨g, 1, none⟩ = some ((.slice D0 p.decks.length k0)) := cell_blk H7.out.blk 1
        have hs1 : w7.cell? ⟨g, 2, none⟩ = some ((.slice D1 p.left.length k1)) := cell_blk H7.out.blk 2
        have hs2 : w7.cell? ⟨g, 3, none⟩ = some ((.slice D2 p.pre.length k2)) := cell_blk H7.out.blk 3
        have hs3 : w7.cell? ⟨g, 4, none⟩ = some ((.slice D3 p.post.length k3)) := cell_blk H7.out.blk 4
        have hs4 : w7.cell? ⟨g, 5, none⟩ = some ((.slice D4 TL k4)) := cell_blk H7.out.blk 5
        have hs5 : w7.cell? ⟨g, 6, none⟩ = some (.int .i64 (p.steps : Int)) := cell_blk H7.out.blk 6
        have HK7 : Aside0 (w7.heap[w.heap.size]? = some (.cells #[.slice none 0 0, .slice none 0 0, .slice none 0 0, .slice none 0 0, .slice none 0 0, .int .i64 0] 48 (0, 0))) := ⟨blk_below HK0.out H7.out.bel⟩
        have ht0 : w7.cell? ⟨w.heap.size, 0, none⟩ = some (.slice none 0 0) := (blk_cell HK7.out 0).trans rfl
        have ht1 : w7.cell? ⟨w.heap.size, 1, none⟩ = some (.slice none 0 0) := (blk_cell HK7.out 1).trans rfl
        have ht2 : w7.cell? ⟨w.heap.size, 2, none⟩ = some (.slice none 0 0) := (blk_cell HK7.out 2).trans rfl
        have ht3 : w7.cell? ⟨w.heap.size, 3, none⟩ = some (.slice none 0 0) := (blk_cell HK7.out 3).trans rfl
        have ht4 : w7.cell? ⟨w.heap.size, 4, none⟩ = some (.slice none 0 0) := (blk_cell HK7.out 4).trans rfl
        have ht5 : w7.cell? ⟨w.heap.size, 5, none⟩ = some (.int .i64 0) := (blk_cell HK7.out 5).trans rfl
        have hf0 := blk_frozen HK7.out 0
        have hf1 := blk_frozen HK7.out 1
        have hf2 := blk_frozen HK7.out 2
        have hf3 := blk_frozen HK7.out 3
        have hf4 := blk_frozen HK7.out 4
        have hf5 := blk_frozen HK7.out 5
        go_wp2_with fail
        refine bodyPost_ret (results_ct rfl _ _ w.heap.size 48 #[(.slice D0 p.decks.length k0), (.slice D1 p.left.length k1), (.slice D2 p.pre.length k2), (.slice D3 p.post.length k3), (.slice D4 TL k4), .int .i64 (p.steps : Int)] (0, 0) _ rfl (by (with_reducible repeat (first | refine blk_drewN ?_ _ | refine blk_drew ?_ | refine blk_alloc ?_ _)); refine blk_put (cs := #[(.slice D0 p.decks.length k0), (.slice D1 p.left.length k1), (.slice D2 p.pre.length k2), (.slice D3 p.post.length k3), (.slice D4 TL k4), .int .i64 0]) ?_ 5 _ rfl; (with_reducible repeat (first | refine blk_drewN ?_ _ | refine blk_drew ?_ | refine blk_alloc ?_ _)); refine blk_put (cs := #[(.slice D0 p.decks.length k0), (.slice D1 p.left.length k1), (.slice D2 p.pre.length k2), (.slice D3 p.post.length k3), .slice none 0 0, .int .i64 0]) ?_ 4 _ rfl; (with_reducible repeat (first | refine blk_drewN ?_ _ | refine blk_drew ?_ | refine blk_alloc ?_ _)); refine blk_put (cs := #[(.slice D0 p.decks.length k0), (.slice D1 p.left.length k1), (.slice D2 p.pre.length k2), .slice none 0 0, .slice none 0 0, .int .i64 0]) ?_ 3 _ rfl; (with_reducible repeat (first | refine blk_drewN ?_ _ | refine blk_drew ?_ | refine blk_alloc ?_ _)); refine blk_put (cs := #[(.slice D0 p.decks.length k0), (.slice D1 p.left.length k1), .slice none 0 0, .slice none 0 0, .slice none 0 0, .int .i64 0]) ?_ 2 _ rfl; (with_reducible repeat (first | refine blk_drewN ?_ _ | refine blk_drew ?_ | refine blk_alloc ?_ _)); refine blk_put (cs := #[(.slice D0 p.decks.length k0), .slice none 0 0, .slice none 0 0, .slice none 0 0, .slice none 0 0, .int .i64 0]) ?_ 1 _ rfl; (with_reducible repeat (first | refine blk_drewN ?_ _ | refine blk_drew ?_ | refine blk_alloc ?_ _)); refine blk_put (cs := #[.slice none 0 0, .slice none 0 0, .slice none 0 0, .slice none 0 0, .slice none 0 0, .int .i64 0]) ?_ 0 _ rfl; (with_reducible repeat (first | refine blk_drewN ?_ _ | refine blk_drew ?_ | refine blk_alloc ?_ _)); exact HK7.out) Try.underlying48 rfl (by kernel_rfl)) rfl ?_
        rw [← HR.out]
        exact ⟨_, _, _, _, _, rfl, PoolR.put6 (PoolR.of H7.out (by rw [HZ0.out]; omega)) HK7.out _ _ _ _ _ _, below_put6 (below_then HB0.out HB0.out.size H7.out.bel) _ _ _ _ _ _ (Nat.le_refl _)⟩
    · have HR : Aside0 (p = run up n picks draws steps.toNat (PoolModel.start up n)) := ⟨by have e := HE.out; rw [show steps.toNat - p.steps = 0 by omega] at e; exact e⟩
      clear HE
      have H7 := H5
      clear H5
      obtain ⟨D0, k0, rfl⟩ := Kd.R_slice (Kd.S_R H7.out.dk)
      obtain ⟨D1, k1, rfl⟩ := Kd.R_slice H7.out.lf
      obtain ⟨D2, k2, rfl⟩ := Kd.R_slice H7.out.pr
      obtain ⟨D3, k3, rfl⟩ := Kd.R_slice H7.out.po
      obtain ⟨D4, k4, TL, hTL, rfl⟩ : ∃ A c m, Aside0 (m = (p.told.map evS).length) ∧ tv = .slice A m c := by obtain ⟨A, c, e⟩ := Kd.R_slice H7.out.td; exact ⟨A, c, _, ⟨rfl⟩, e⟩
      have hs0 : wr.cell? ⟨g, 1, none⟩ = some ((.slice D0 p.decks.length k0)) := cell_blk H7.out.blk 1
      have hs1 : wr.cell? ⟨g, 2, none⟩ = some ((.slice D1 p.left.length k1)) := cell_blk H7.out.blk 2
      have hs2 : wr.cell? ⟨g, 3, none⟩ = some ((.slice D2 p.pre.length k2)) := cell_blk H7.out.blk 3
      have hs3 : wr.cell? ⟨g, 4, none⟩ = some ((.slice D3 p.post.length k3)) := cell_blk H7.out.blk 4
      have hs4 : wr.cell? ⟨g, 5, none⟩ = some ((.slice D4 TL k4)) := cell_blk H7.out.blk 5
      have hs5 : wr.cell? ⟨g, 6, none⟩ = some (.int .i64 (p.steps : Int)) := cell_blk H7.out.blk 6
      have HK7 : Aside0 (wr.heap[w.heap.size]? = some (.cells #[.slice none 0 0, .slice none 0 0, .slice none 0 0, .slice none 0 0, .slice none 0 0, .int .i64 0] 48 (0, 0))) := ⟨blk_below HK0.out H7.out.bel⟩
      have ht0 : wr.cell? ⟨w.heap.size, 0, none⟩ = some (.slice none 0 0) := (blk_cell HK7.out 0).trans rfl
      have ht1 : wr.cell? ⟨w.heap.size, 1, none⟩ = some (.slice none 0 0) := (blk_cell HK7.out 1).trans rfl
      have ht2 : wr.cell? ⟨w.heap.size, 2, none⟩ = some (.slice none 0 0) := (blk_cell HK7.out 2).trans rfl
      have ht3 : wr.cell? ⟨w.heap.size, 3, none⟩ = some (.slice none 0 0) := (blk_cell HK7.out 3).trans rfl
      have ht4 : wr.cell? ⟨w.heap.size, 4, none⟩ = some (.slice none 0 0) := (blk_cell HK7.out 4).trans rfl
      have ht5 : wr.cell? ⟨w.heap.size, 5, none⟩ = some (.int .i64 0) := (blk_cell HK7.out 5).trans rfl
      have hf0 := blk_frozen HK7.out 0
      have hf1 := blk_frozen HK7.out 1
      have hf2 := blk_frozen HK7.out 2
      have hf3 := blk_frozen HK7.out 3
      have hf4 := blk_frozen HK7.out 4
      have hf5 := blk_frozen HK7.out 5
      go_wp2_with fail
      refine bodyPost_ret (results_ct rfl _ _ w.heap.size 48 #[(.slice D0 p.decks.length k0), (.slice D1 p.left.length k1), (.slice D2 p.pre.length k2), (.slice D3 p.post.length k3), (.slice D4 TL k4), .int .i64 (p.steps : Int)] (0, 0) _ rfl (by (with_reducible repeat (first | refine blk_drewN ?_ _ | refine blk_drew ?_ | refine blk_alloc ?_ _)); refine blk_put (cs := #[(.slice D0 p.decks.length k0), (.slice D1 p.left.length k1), (.slice D2 p.pre.length k2), (.slice D3 p.post.length k3), (.slice D4 TL k4), .int .i64 0]) ?_ 5 _ rfl; (with_reducible repeat (first | refine blk_drewN ?_ _ | refine blk_drew ?_ | refine blk_alloc ?_ _)); refine blk_put (cs := #[(.slice D0 p.decks.length k0), (.slice D1 p.left.length k1), (.slice D2 p.pre.length k2), (.slice D3 p.post.length k3), .slice none 0 0, .int .i64 0]) ?_ 4 _ rfl; (with_reducible repeat (first | refine blk_drewN ?_ _ | refine blk_drew ?_ | refine blk_alloc ?_ _)); refine blk_put (cs := #[(.slice D0 p.decks.length k0), (.slice D1 p.left.length k1), (.slice D2 p.pre.length k2), .slice none 0 0, .slice none 0 0, .int .i64 0]) ?_ 3 _ rfl; (with_reducible repeat (first | refine blk_drewN ?_ _ | refine blk_drew ?_ | refine blk_alloc ?_ _)); refine blk_put (cs := #[(.slice D0 p.decks.length k0), (.slice D1 p.left.length k1), .slice none 0 0, .slice none 0 0, .slice none 0 0, .int .i64 0]) ?_ 2 _ rfl; (with_reducible repeat (first | refine blk_drewN ?_ _ | refine blk_drew ?_ | refine blk_alloc ?_ _)); refine blk_put (cs := #[(.slice D0 p.decks.length k0), .slice none 0 0, .slice none 0 0, .slice none 0 0, .slice none 0 0, .int .i64 0]) ?_ 1 _ rfl; (with_reducible repeat (first | refine blk_drewN ?_ _ | refine blk_drew ?_ | refine blk_alloc ?_ _)); refine blk_put (cs := #[.slice none 0 0, .slice none 0 0, .slice none 0 0, .slice none 0 0, .slice none 0 0, .int .i64 0]) ?_ 0 _ rfl; (with_reducible repeat (first | refine blk_drewN ?_ _ | refine blk_drew ?_ | refine blk_alloc ?_ _)); exact HK7.out) Try.underlying48 rfl (by kernel_rfl)) rfl ?_
      rw [← HR.out]
      exact ⟨_, _, _, _, _, rfl, PoolR.put6 (PoolR.of H7.out (by rw [HZ0.out]; omega)) HK7.out _ _ _ _ _ _, below_put6 (below_then HB0.out HB0.out.size H7.out.bel) _ _ _ _ _ _ (Nat.le_refl _)⟩
end Go.Proofs.Ytoaimlpbliabdaa.QFnExactEventsOf
namespace Go.Proofs.Ytoaimlpbliabdaa.QFnExactEventsOf
open Go.RowKit Go.Proofs.YtoaimlpbliabdaaW.PrintWords Go.Proofs.YtoaimlpbliabdaaW.PrintLast Go.Proofs.YtoaimlpbliabdaaW.PrintMore PoolModel
set_option linter.unusedVariables false
set_option linter.unusedSimpArgs false

set_option maxRecDepth 100000 in
set_option maxHeartbeats 4000000 in
theorem irun_no {w : World} {uA pA nA : Option Addr} {uc pc nc : Nat} {up picks draws : List Int} (a1 : Int) (steps : Int) (kf : Nat) (b1 : Bool) (hgf : impl_GoodForest.f kf up = some b1) (hpl : picks.length ≤ 2000000) (hdl : draws.length ≤ 2000000)
    (hno : (b1 && (decide (1 ≤ a1) && decide (a1 ≤ 8)) && drawnB picks && drawnB draws) = false)
    (hu : Kd.C (Kd.int .i64) w uA up.length up) (huc : up.length ≤ uc) (hp : Kd.C (Kd.int .i64) w pA picks.length picks) (hpc : picks.length ≤ pc) (hd : Kd.C (Kd.int .i64) w nA draws.length draws) (hdc : draws.length ≤ nc) :
    Calls Try.prog 37 #[.slice uA up.length uc, .int .i64 a1, .slice pA picks.length pc, .slice nA draws.length nc, .int .i64 steps] w fun e w' => e = .returned (.tuple #[.agg #[.slice none 0 0, .slice none 0 0, .slice none 0 0, .slice none 0 0, .slice none 0 0, .int .i64 0], .bool false]) ∧ Below w.heap.size w w' := by
  have HB0 := Aside0.mk (below_alloc (Below.refl w.heap.size w) (.cells #[.slice none 0 0, .slice none 0 0, .slice none 0 0, .slice none 0 0, .slice none 0 0, .int .i64 0] 48))
  have HK0 := Aside0.mk (blk_new w (.cells #[.slice none 0 0, .slice none 0 0, .slice none 0 0, .slice none 0 0, .slice none 0 0, .int .i64 0] 48))
  have HZ0 : Aside0 ((w.alloc (.cells #[.slice none 0 0, .slice none 0 0, .slice none 0 0, .slice none 0 0, .slice none 0 0, .int .i64 0] 48)).heap.size = w.heap.size + 1) := ⟨by show (w.heap.push _).size = _; rw [Array.size_push]⟩
  have HC := Aside0.mk (newrun_no (w := w.alloc (.cells #[.slice none 0 0, .slice none 0 0, .slice none 0 0, .slice none 0 0, .slice none 0 0, .int .i64 0] 48)) a1 kf b1 hgf hpl hdl hno (Kd.C_below hu HB0.out) huc (Kd.C_below hp HB0.out) hpc (Kd.C_below hd HB0.out) hdc)
  clear hu huc hp hpc hd hdc hgf hno
  go_enter Try.func37, Try.ntmps37
  go_wp2_with fail
  generalize w.alloc (.cells #[.slice none 0 0, .slice none 0 0, .slice none 0 0, .slice none 0 0, .slice none 0 0, .int .i64 0] 48) = W0 at *
  refine HC.out.mono ?_
  rintro e w1 ⟨rfl, h1⟩
  have H1 := Aside0.mk h1
  clear h1 HC
  have HK7 : Aside0 (w1.heap[w.heap.size]? = some (.cells #[.slice none 0 0, .slice none 0 0, .slice none 0 0, .slice none 0 0, .slice none 0 0, .int .i64 0] 48 (0, 0))) := ⟨blk_below HK0.out H1.out⟩
  have ht0 : w1.cell? ⟨w.heap.size, 0, none⟩ = some (.slice none 0 0) := (blk_cell HK7.out 0).trans rfl
  have ht1 : w1.cell? ⟨w.heap.size, 1, none⟩ = some (.slice none 0 0) := (blk_cell HK7.out 1).trans rfl
  have ht2 : w1.cell? ⟨w.heap.size, 2, none⟩ = some (.slice none 0 0) := (blk_cell HK7.out 2).trans rfl
  have ht3 : w1.cell? ⟨w.heap.size, 3, none⟩ = some (.slice none 0 0) := (blk_cell HK7.out 3).trans rfl
  have ht4 : w1.cell? ⟨w.heap.size, 4, none⟩ = some (.slice none 0 0) := (blk_cell HK7.out 4).trans rfl
  have ht5 : w1.cell? ⟨w.heap.size, 5, none⟩ = some (.int .i64 0) := (blk_cell HK7.out 5).trans rfl
  have hf0 := blk_frozen HK7.out 0
  have hf1 := blk_frozen HK7.out 1
  have hf2 := blk_frozen HK7.out 2
  have hf3 := blk_frozen HK7.out 3
  have hf4 := blk_frozen HK7.out 4
  have hf5 := blk_frozen HK7.out 5
  go_wp2_with fail
  refine bodyPost_ret (results_ct rfl _ _ w.heap.size 48 #[.slice none 0 0, .slice none 0 0, .slice none 0 0, .slice none 0 0, .slice none 0 0, .int .i64 0] (0, 0) _ rfl (by refine blk_put (cs := #[.slice none 0 0, .slice none 0 0, .slice none 0 0, .slice none 0 0, .slice none 0 0, .int .i64 0]) ?_ 5 _ rfl; refine blk_put (cs := #[.slice none 0 0, .slice none 0 0, .slice none 0 0, .slice none 0 0, .slice none 0 0, .int .i64 0]) ?_ 4 _ rfl; refine blk_put (cs := #[.slice none 0 0, .slice none 0 0, .slice none 0 0, .slice none 0 0, .slice none 0 0, .int .i64 0]) ?_ 3 _ rfl; refine blk_put (cs := #[.slice none 0 0, .slice none 0 0, .slice none 0 0, .slice none 0 0, .slice none 0 0, .int .i64 0]) ?_ 2 _ rfl; refine blk_put (cs := #[.slice none 0 0, .slice none 0 0, .slice none 0 0, .slice none 0 0, .slice none 0 0, .int .i64 0]) ?_ 1 _ rfl; refine blk_put (cs := #[.slice none 0 0, .slice none 0 0, .slice none 0 0, .slice none 0 0, .slice none 0 0, .int .i64 0]) ?_ 0 _ rfl; exact HK7.out) Try.underlying48 rfl (by kernel_rfl)) rfl ?_
  exact ⟨rfl, below_put6 (below_then HB0.out HB0.out.size H1.out) _ _ _ _ _ _ (Nat.le_refl _)⟩
set_option maxRecDepth 100000 in
set_option maxHeartbeats 4000000 in
theorem irun_neg {w : World} {uA pA nA : Option Addr} {uc pc nc : Nat} {up picks draws : List Int} (n : Nat) (steps : Int) (hs : steps < 0) (kf : Nat) (hgf : impl_GoodForest.f kf up = some true) (hdp : drawnB picks = true) (hdd : drawnB draws = true) (hA : Asked up (n : Int) picks draws)
    (hu : Kd.C (Kd.int .i64) w uA up.length up) (huc : up.length ≤ uc) (hp : Kd.C (Kd.int .i64) w pA picks.length picks) (hpc : picks.length ≤ pc) (hd : Kd.C (Kd.int .i64) w nA draws.length draws) (hdc : draws.length ≤ nc) :
    Calls Try.prog 37 #[.slice uA up.length uc, .int .i64 (n : Int), .slice pA picks.length pc, .slice nA draws.length nc, .int .i64 steps] w fun e w' => e = .returned (.tuple #[.agg #[.slice none 0 0, .slice none 0 0, .slice none 0 0, .slice none 0 0, .slice none 0 0, .int .i64 0], .bool false]) ∧ Below w.heap.size w w' := by
  have hn0 : 0 < n := by have := hA.w1; omega
  have hn8 : n ≤ 8 := by have := hA.w8; omega
  have HB0 := Aside0.mk (below_alloc (Below.refl w.heap.size w) (.cells #[.slice none 0 0, .slice none 0 0, .slice none 0 0, .slice none 0 0, .slice none 0 0, .int .i64 0] 48))
  have HK0 := Aside0.mk (blk_new w (.cells #[.slice none 0 0, .slice none 0 0, .slice none 0 0, .slice none 0 0, .slice none 0 0, .int .i64 0] 48))
  have HZ0 : Aside0 ((w.alloc (.cells #[.slice none 0 0, .slice none 0 0, .slice none 0 0, .slice none 0 0, .slice none 0 0, .int .i64 0] 48)).heap.size = w.heap.size + 1) := ⟨by show (w.heap.push _).size = _; rw [Array.size_push]⟩
  have HC := Aside0.mk (newrun_calls (w := w.alloc (.cells #[.slice none 0 0, .slice none 0 0, .slice none 0 0, .slice none 0 0, .slice none 0 0, .int .i64 0] 48)) n kf hgf hn0 hn8 hA.forest hdp hdd hA.pl hA.dl (Kd.C_below hu HB0.out) huc (Kd.C_below hp HB0.out) hpc (Kd.C_below hd HB0.out) hdc)
  clear hu huc hp hpc hd hdc hgf hdp hdd hA hn0 hn8
  go_enter Try.func37, Try.ntmps37
  go_wp2_with fail
  generalize w.alloc (.cells #[.slice none 0 0, .slice none 0 0, .slice none 0 0, .slice none 0 0, .slice none 0 0, .int .i64 0] 48) = W0 at *
  refine HC.out.mono ?_
  rintro e w1 ⟨g, dv, lv, pv, qv, kv, nv, rfl, h1⟩
  have H1 := Aside0.mk h1.bel
  clear h1 HC
  have HK7 : Aside0 (w1.heap[w.heap.size]? = some (.cells #[.slice none 0 0, .slice none 0 0, .slice none 0 0, .slice none 0 0, .slice none 0 0, .int .i64 0] 48 (0, 0))) := ⟨blk_below HK0.out H1.out⟩
  have ht0 : w1.cell? ⟨w.heap.size, 0, none⟩ = some (.slice none 0 0) := (blk_cell HK7.out 0).trans rfl
  have ht1 : w1.cell? ⟨w.heap.size, 1, none⟩ = some (.slice none 0 0) := (blk_cell HK7.out 1).trans rfl
  have ht2 : w1.cell? ⟨w.heap.size, 2, none⟩ = some (.slice none 0 0) := (blk_cell HK7.out 2).trans rfl
  have ht3 : w1.cell? ⟨w.heap.size, 3, none⟩ = some (.slice none 0 0) := (blk_cell HK7.out 3).trans rfl
  have ht4 : w1.cell? ⟨w.heap.size, 4, none⟩ = some (.slice none 0 0) := (blk_cell HK7.out 4).trans rfl
  have ht5 : w1.cell? ⟨w.heap.size, 5, none⟩ = some (.int .i64 0) := (blk_cell HK7.out 5).trans rfl
  have hf0 := blk_frozen HK7.out 0
  have hf1 := blk_frozen HK7.out 1
  have hf2 := blk_frozen HK7.out 2
  have hf3 := blk_frozen HK7.out 3
  have hf4 := blk_frozen HK7.out 4
  have hf5 := blk_frozen HK7.out 5
  go_wp2_with fail
  refine bodyPost_ret (results_ct rfl _ _ w.heap.size 48 #[.slice none 0 0, .slice none 0 0, .slice none 0 0, .slice none 0 0, .slice none 0 0, .int .i64 0] (0, 0) _ rfl (by refine blk_put (cs := #[.slice none 0 0, .slice none 0 0, .slice none 0 0, .slice none 0 0, .slice none 0 0, .int .i64 0]) ?_ 5 _ rfl; refine blk_put (cs := #[.slice none 0 0, .slice none 0 0, .slice none 0 0, .slice none 0 0, .slice none 0 0, .int .i64 0]) ?_ 4 _ rfl; refine blk_put (cs := #[.slice none 0 0, .slice none 0 0, .slice none 0 0, .slice none 0 0, .slice none 0 0, .int .i64 0]) ?_ 3 _ rfl; refine blk_put (cs := #[.slice none 0 0, .slice none 0 0, .slice none 0 0, .slice none 0 0, .slice none 0 0, .int .i64 0]) ?_ 2 _ rfl; refine blk_put (cs := #[.slice none 0 0, .slice none 0 0, .slice none 0 0, .slice none 0 0, .slice none 0 0, .int .i64 0]) ?_ 1 _ rfl; refine blk_put (cs := #[.slice none 0 0, .slice none 0 0, .slice none 0 0, .slice none 0 0, .slice none 0 0, .int .i64 0]) ?_ 0 _ rfl; exact HK7.out) Try.underlying48 rfl (by kernel_rfl)) rfl ?_
  exact ⟨rfl, below_put6 (below_then HB0.out HB0.out.size H1.out) _ _ _ _ _ _ (Nat.le_refl _)⟩

/-! ### impl_RunPoolH: function 37 -/
def impl_RunPoolH.f (k : Nat) (l0 : List Int) (a1 : Int) (l2 : List Int) (l3 : List Int) (a4 : Int) : Option ((List (List Int)) × List Int × List Bool × List Bool × (List (S93)) × Int × Bool) :=
  if l0.length ≤ 2000000 then (if l2.length ≤ 2000000 then (if l3.length ≤ 2000000 then ((spec_l13Asked.f k l0 a1 l2 l3).bind fun t => if t = true then (if 0 ≤ a4 then some ((run l0 a1.toNat l2 l3 a4.toNat (PoolModel.start l0 a1.toNat)).decks, (run l0 a1.toNat l2 l3 a4.toNat (PoolModel.start l0 a1.toNat)).left, (run l0 a1.toNat l2 l3 a4.toNat (PoolModel.start l0 a1.toNat)).pre, (run l0 a1.toNat l2 l3 a4.toNat (PoolModel.start l0 a1.toNat)).post, (run l0 a1.toNat l2 l3 a4.toNat (PoolModel.start l0 a1.toNat)).told.map evS, ((run l0 a1.toNat l2 l3 a4.toNat (PoolModel.start l0 a1.toNat)).steps : Int), true) else some ([], [], [], [], [], 0, false)) else some ([], [], [], [], [], 0, false)) else none) else none) else none
theorem impl_RunPoolH.mono : ∀ a0 a1 a2 a3 a4 k, LeO (impl_RunPoolH.f k a0 a1 a2 a3 a4) (impl_RunPoolH.f (k + 1) a0 a1 a2 a3 a4) := by
  intro a0 a1 a2 a3 a4 k
  unfold impl_RunPoolH.f
  refine LeO.ite (LeO.ite (LeO.ite ?_ (LeO.refl _)) (LeO.refl _)) (LeO.refl _)
  exact LeO.bind (spec_l13Asked.mono _ _ _ _ _) (fun _ => LeO.refl _)
theorem impl_RunPoolH.calls (k : Nat) (A0 : Option Addr) (c0 : Nat) (l0 : List Int) (a1 : Int) (A2 : Option Addr) (c2 : Nat) (l2 : List Int) (A3 : Option Addr) (c3 : Nat) (l3 : List Int) (a4 : Int) (r1 : List (List Int)) (r2 : List Int) (r3 : List Bool) (r4 : List Bool) (r5 : List (S93)) (r6 : Int) (r7 : Bool) (w : World) (hr0 : Kd.C (Kd.int .i64) w A0 l0.length l0) (hc0 : l0.length ≤ c0) (hr2 : Kd.C (Kd.int .i64) w A2 l2.length l2) (hc2 : l2.length ≤ c2) (hr3 : Kd.C (Kd.int .i64) w A3 l3.length l3) (hc3 : l3.length ≤ c3) (h : impl_RunPoolH.f k l0 a1 l2 l3 a4 = some (r1, r2, r3, r4, r5, r6, r7)) :
    Calls Try.prog 37 #[.slice A0 l0.length c0, .int .i64 a1, .slice A2 l2.length c2, .slice A3 l3.length c3, .int .i64 a4] w fun e w' => ∃ v0_ v1_ v2_ v3_ v4_ : Value, e = .returned (.tuple #[.agg #[v0_, v1_, v2_, v3_, v4_, .int .i64 r6], .bool r7]) ∧ Kd.S (Kd.slice 3 (Kd.int .i64)) 32 w' w.heap.size (fun k_ => some k_ ≠ (v1_ : Value).ownBlock) v0_ r1 ∧ Kd.R (Kd.int .i64) 3 w' w.heap.size (fun _ => True) v1_ r2 ∧ Kd.R Kd.bool 4 w' w.heap.size (fun k_ => some k_ ≠ (v3_ : Value).ownBlock) v2_ r3 ∧ Kd.R Kd.bool 4 w' w.heap.size (fun k_ => some k_ ≠ (v2_ : Value).ownBlock) v3_ r4 ∧ Kd.R k93 93 w' w.heap.size (fun _ => True) v4_ r5 ∧ Below w.heap.size w w' := by
  unfold impl_RunPoolH.f at h
  split at h
  · rename_i hl0
    split at h
    · rename_i hl2
      split at h
      · rename_i hl3
        obtain ⟨t, ht, h⟩ := Option.bind_eq_some_iff.1 h
        obtain ⟨bF, hgf, hte⟩ := asked_parts hl2 hl3 ht
        cases t with
        | false =>
          rw [if_neg (by decide)] at h
          simp only [Option.some.injEq, Prod.mk.injEq] at h
          obtain ⟨rfl, rfl, rfl, rfl, rfl, rfl, rfl⟩ := h
          refine (irun_no a1 a4 k bF hgf hl2 hl3 hte.symm hr0 hc0 hr2 hc2 hr3 hc3).mono ?_
          rintro e w' ⟨rfl, hb⟩
          exact ⟨_, _, _, _, _, rfl, Kd.S_nil _ _ _ _ _, Kd.R_nil _ _ _ _ _, Kd.R_nil _ _ _ _ _, Kd.R_nil _ _ _ _ _, Kd.R_nil _ _ _ _ _, hb⟩
        | true =>
          have hA := asked_true hl0 ht
          rw [if_pos rfl] at h
          obtain ⟨n, rfl⟩ : ∃ n : Nat, a1 = (n : Int) := ⟨a1.toNat, by have := hA.w1; omega⟩
          have hparts := hte.symm
          simp only [Bool.and_eq_true] at hparts
          obtain ⟨⟨⟨rfl, -⟩, hdp⟩, hdd⟩ := hparts
          split at h
          · rename_i hs
            simp only [Option.some.injEq, Prod.mk.injEq, Int.toNat_natCast] at h
            obtain ⟨rfl, rfl, rfl, rfl, rfl, rfl, rfl⟩ := h
            refine (irun_calls n a4 hs k hgf hdp hdd hA hr0 hc0 hr2 hc2 hr3 hc3).mono ?_
            rintro e w' ⟨v0, v1, v2, v3, v4, rfl, hP, hb⟩
            exact ⟨v0, v1, v2, v3, v4, rfl, hP.1, hP.2.1, hP.2.2.1, hP.2.2.2.1, hP.2.2.2.2, hb⟩
          · rename_i hs
            simp only [Option.some.injEq, Prod.mk.injEq] at h
            obtain ⟨rfl, rfl, rfl, rfl, rfl, rfl, rfl⟩ := h
            refine (irun_neg n a4 (by omega) k hgf hdp hdd hA hr0 hc0 hr2 hc2 hr3 hc3).mono ?_
            rintro e w' ⟨rfl, hb⟩
            exact ⟨_, _, _, _, _, rfl, Kd.S_nil _ _ _ _ _, Kd.R_nil _ _ _ _ _, Kd.R_nil _ _ _ _ _, Kd.R_nil _ _ _ _ _, Kd.R_nil _ _ _ _ _, hb⟩
      · cases h
    · cases h
  · cases h
end Go.Proofs.Ytoaimlpbliabdaa.QFnExactEventsOf
