/- FnExactReadyIn as a statement of numbers and lists: the program's pool and the reference's are one model. No condition. -/
import Derived.Test.YtoaimlpbliabdaaRdL
import Derived.Test.YtoaimlpbliabdaaPuC
namespace Go.Proofs.Ytoaimlpbliabdaa.Pure
open Go.RowKit Go.Proofs.Ytoaimlpbliabdaa.QFnExactEventsOf Go.Proofs.YtoaimlpbliabdaaW.PrintWords Go.Proofs.YtoaimlpbliabdaaW.PrintLast
set_option linter.unusedVariables false
set_option linter.unusedSimpArgs false

theorem ready_ev {up picks draws : List Int} (workers steps : Int) (h0 : up.length ≤ 1048576) (h2 : picks.length ≤ 1048576) (h3 : draws.length ≤ 1048576) : ∃ (T : List Int) (t : Bool), T.length ≤ 1000 ∧ Ev (fun k => spec_ReadyInH.f k up workers picks draws steps) (T, t) ∧ Ev (fun k => impl_ReadyInH.f k up workers picks draws steps) (T, t) := by
  obtain ⟨t, ht, hA⟩ := asked_tot workers h0 h2 h3
  unfold spec_ReadyInH.f impl_ReadyInH.f
  simp only [if_pos (show up.length ≤ 2000000 by omega), if_pos (show picks.length ≤ 2000000 by omega), if_pos (show draws.length ≤ 2000000 by omega)]
  cases t with
  | false =>
    refine ⟨[], false, by simp, ?_, ?_⟩
    · refine Ev.bind ht ?_
      simp only [Bool.false_eq_true, if_false]
      exact Ev.now _
    · refine Ev.bind ht ?_
      simp only [Bool.false_eq_true, if_false]
      exact Ev.now _
  | true =>
    have hA := hA rfl
    by_cases hs : 0 ≤ steps
    · refine ⟨readyL (poolAt up workers picks draws steps.toNat).decks, true, ?_, ?_, ?_⟩
      · have := readyL_len (poolAt up workers picks draws steps.toNat).decks
        have h8 := hA.w8
        have := (poolAt_good hA steps.toNat).inv.hd
        omega
      · refine Ev.bind ht ?_
        simp only [if_true, if_pos hs]
        exact Ev.now _
      · refine Ev.bind ht ?_
        simp only [if_true, if_pos hs]
        exact Ev.now _
    · refine ⟨[], false, by simp, ?_, ?_⟩
      · refine Ev.bind ht ?_
        simp only [if_true, if_neg hs]
        exact Ev.now _
      · refine Ev.bind ht ?_
        simp only [if_true, if_neg hs]
        exact Ev.now _

theorem FnExactReadyIn : laws_FnExactReadyIn.Pure := by
  intro l0 a1 l2 l3 a4 _ _ _ _ _ _ _ _ _ _ _
  by_cases c0 : (l0.length : Int) > 1048576
  · exact ⟨0, by unfold laws_FnExactReadyIn.f; rw [if_pos c0]⟩
  by_cases c2 : (l2.length : Int) > 1048576
  · exact ⟨0, by unfold laws_FnExactReadyIn.f; rw [if_neg c0, if_pos c2]⟩
  by_cases c3 : (l3.length : Int) > 1048576
  · exact ⟨0, by unfold laws_FnExactReadyIn.f; rw [if_neg c0, if_neg c2, if_pos c3]⟩
  have h0 : l0.length ≤ 1048576 := by omega
  have h2 : l2.length ≤ 1048576 := by omega
  have h3 : l3.length ≤ 1048576 := by omega
  obtain ⟨T, t, hT, hS, hI⟩ := ready_ev a1 a4 h0 h2 h3
  have hM := markIntS_ev (l := T) (by omega) (a := 1) (by omega) (by omega)
  have hH := heldIntS_ev (n := T.length) (by omega) (a := 1) (by omega) (by omega)
  refine Ev.rounds (r := true) ?_
  unfold laws_FnExactReadyIn.f
  simp only [if_neg c0, if_neg c2, if_neg c3]
  refine Ev.bind (toIntS_ev h0) (Ev.bind (toIntS_ev h2) (Ev.bind (toIntS_ev h3) (Ev.bind hS (Ev.bind (toIntS_ev h0) (Ev.bind (toIntS_ev h2) (Ev.bind (toIntS_ev h3) (Ev.bind hI (Ev.bind (eqIntS_ev (by show T.length ≤ _; omega)) ?_))))))))
  simp only [if_true, bne_self_eq_false]
  refine Ev.step (fun k => rfl) ?_
  simp only [laws_FnExactReadyIn.j0, Bool.false_eq_true, if_false]
  refine Ev.bind (toIntS_ev h0) (Ev.bind (eqIntS_ev h0) ?_)
  simp only [if_true]
  refine Ev.bind (toIntS_ev h2) (Ev.bind (eqIntS_ev h2) ?_)
  simp only [if_true]
  refine Ev.bind (toIntS_ev h3) (Ev.bind (eqIntS_ev h3) ?_)
  simp only [if_true]
  refine Ev.bind (markIntS_ev (by omega) (by omega) (by omega)) (Ev.bind (markIntS_ev (by omega) (by show (0 : Int) ≤ 1 + _; omega) (by show (1 : Int) + _ ≤ _; omega)) (Ev.bind (markIntS_ev (by omega) (by show (0 : Int) ≤ 1 + _ + _; omega) (by show (1 : Int) + _ + _ ≤ _; omega)) ?_))
  simp only [if_neg (show ¬ (1 + (l0.length : Int) + (l2.length : Int) + (l3.length : Int) < 0) by omega)]
  refine Ev.bind (eqIntS_ev (by show T.length ≤ _; omega)) ?_
  simp only [if_true, bne_self_eq_false]
  refine Ev.step (fun k => rfl) ?_
  simp only [laws_FnExactReadyIn.j1, Bool.false_eq_true, if_false]
  refine Ev.bind hM (Ev.bind hH ?_)
  simp only [if_neg (show ¬ (1 + (T.length : Int) < 0) by omega), if_true]
  refine Ev.bind (toIntS_ev h0) (Ev.bind (toIntS_ev h2) (Ev.bind (toIntS_ev h3) (Ev.bind hI (Ev.bind (eqIntS_ev (by show T.length ≤ _; omega)) ?_))))
  simp only [if_true, bne_self_eq_false]
  refine Ev.step (fun k => rfl) ?_
  simp only [laws_FnExactReadyIn.j2, Bool.false_eq_true, if_false]
  refine Ev.bind hH ?_
  simp only [if_neg (show ¬ (1 + (T.length : Int) < 0) by omega), if_true]
  exact Ev.now _

end Go.Proofs.Ytoaimlpbliabdaa.Pure
