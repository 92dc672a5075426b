/- FnExactEventsOf as a statement of numbers and lists: the program's pool and the reference's are one model. No condition. -/
import Derived.Test.YtoaimlpbliabdaaQFnExactEventsOfx6
import Derived.Test.YtoaimlpbliabdaaPuB
namespace Go.Proofs.Ytoaimlpbliabdaa.Pure
open Go.RowKit Go.Proofs.Ytoaimlpbliabdaa.QFnExactEventsOf Go.Proofs.YtoaimlpbliabdaaW.PrintWords Go.Proofs.YtoaimlpbliabdaaW.PrintLast
set_option linter.unusedVariables false
set_option linter.unusedSimpArgs false

theorem FnExactEventsOf : laws_FnExactEventsOf.Pure := by
  intro l0 a1 l2 l3 _ _ _ _ _ _ _ _ _ _
  by_cases c0 : (l0.length : Int) > 1048576
  · exact ⟨0, by unfold laws_FnExactEventsOf.f; rw [if_pos c0]⟩
  by_cases c2 : (l2.length : Int) > 1048576
  · exact ⟨0, by unfold laws_FnExactEventsOf.f; rw [if_neg c0, if_pos c2]⟩
  by_cases c3 : (l3.length : Int) > 1048576
  · exact ⟨0, by unfold laws_FnExactEventsOf.f; rw [if_neg c0, if_neg c2, if_pos c3]⟩
  have h0 : l0.length ≤ 1048576 := by omega
  have h2 : l2.length ≤ 1048576 := by omega
  have h3 : l3.length ≤ 1048576 := by omega
  obtain ⟨T, t, hT, hS, hI⟩ := events_ev a1 h0 h2 h3
  have hM := markEventS_ev (l := T) (by omega) (a := 1) (by omega) (by omega)
  have hH := heldEventS_ev (n := T.length) (by omega) (a := 1) (by omega) (by omega)
  refine Ev.rounds (r := true) ?_
  unfold laws_FnExactEventsOf.f
  simp only [if_neg c0, if_neg c2, if_neg c3]
  refine Ev.bind (toIntS_ev h0) (Ev.bind (toIntS_ev h2) (Ev.bind (toIntS_ev h3) (Ev.bind hS (Ev.bind (toIntS_ev h0) (Ev.bind (toIntS_ev h2) (Ev.bind (toIntS_ev h3) (Ev.bind hI (Ev.bind (eqEventS_ev (by show T.length ≤ _; omega)) ?_))))))))
  simp only [if_true, bne_self_eq_false]
  refine Ev.step (fun k => rfl) ?_
  simp only [laws_FnExactEventsOf.j0, Bool.false_eq_true, if_false]
  refine Ev.bind (toIntS_ev h0) (Ev.bind (eqIntS_ev h0) ?_)
  simp only [if_true]
  refine Ev.bind (toIntS_ev h2) (Ev.bind (eqIntS_ev h2) ?_)
  simp only [if_true]
  refine Ev.bind (toIntS_ev h3) (Ev.bind (eqIntS_ev h3) ?_)
  simp only [if_true]
  refine Ev.bind (markIntS_ev (by omega) (by omega) (by omega)) (Ev.bind (markIntS_ev (by omega) (by show (0 : Int) ≤ 1 + _; omega) (by show (1 : Int) + _ ≤ _; omega)) (Ev.bind (markIntS_ev (by omega) (by show (0 : Int) ≤ 1 + _ + _; omega) (by show (1 : Int) + _ + _ ≤ _; omega)) ?_))
  simp only [if_neg (show ¬ (1 + (l0.length : Int) + (l2.length : Int) + (l3.length : Int) < 0) by omega)]
  refine Ev.bind (eqEventS_ev (by omega)) ?_
  simp only [if_true, bne_self_eq_false]
  refine Ev.step (fun k => rfl) ?_
  simp only [laws_FnExactEventsOf.j1, Bool.false_eq_true, if_false]
  refine Ev.bind hM (Ev.bind hH ?_)
  simp only [if_neg (show ¬ (1 + 3 * (T.length : Int) < 0) by omega), if_true]
  refine Ev.bind (toIntS_ev h0) (Ev.bind (toIntS_ev h2) (Ev.bind (toIntS_ev h3) (Ev.bind hI (Ev.bind (eqEventS_ev (by show T.length ≤ _; omega)) ?_))))
  simp only [if_true, bne_self_eq_false]
  refine Ev.step (fun k => rfl) ?_
  simp only [laws_FnExactEventsOf.j2, Bool.false_eq_true, if_false]
  refine Ev.bind hH ?_
  simp only [if_neg (show ¬ (1 + 3 * (T.length : Int) < 0) by omega), if_true]
  exact Ev.now _

end Go.Proofs.Ytoaimlpbliabdaa.Pure
