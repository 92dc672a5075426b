/- FnExactWorkOf as a statement of numbers and lists: the program's pool and the reference's are one model. No condition. -/
import Derived.Test.YtoaimlpbliabdaaWkL
import Derived.Test.YtoaimlpbliabdaaPuC
namespace Go.Proofs.Ytoaimlpbliabdaa.Pure
open Go.RowKit Go.Proofs.Ytoaimlpbliabdaa.QFnExactEventsOf Go.Proofs.YtoaimlpbliabdaaW.PrintWords Go.Proofs.YtoaimlpbliabdaaW.PrintLast
set_option linter.unusedVariables false
set_option linter.unusedSimpArgs false

theorem workOf_l0 (T : List S93) (n : Nat) (hT : ∀ e ∈ T, 0 ≤ e.f2 ∧ e.f2 < (n : Int)) (hn : T.length ≤ 2000000) : ∀ (d i k : Nat) (acc : List Int), i ≤ T.length → T.length - i = d → d < k → acc.length = n → ∃ r, r.length = n ∧ impl_WorkOf.l0 k acc T (T.length : Int) (i : Int) = some (r, true) := by
  intro d
  induction d with
  | zero =>
    intro i k acc hi hd hk ha
    obtain ⟨k, rfl⟩ : ∃ m, k = m + 1 := ⟨k - 1, by omega⟩
    simp only [impl_WorkOf.l0]
    rw [if_neg (by omega)]
    exact ⟨acc, ha, rfl⟩
  | succ d ih =>
    intro i k acc hi hd hk ha
    obtain ⟨k, rfl⟩ : ∃ m, k = m + 1 := ⟨k - 1, by omega⟩
    have hlt : i < T.length := by omega
    have he := hT T[i] (List.getElem_mem hlt)
    have hrd : rd_T93 T (i : Int) = T[i] := by
      unfold rd_T93
      first | (rw [Int.toNat_natCast, List.getD_eq_getElem?_getD, List.getElem?_eq_getElem hlt]; rfl) | simp [hlt]
    simp only [impl_WorkOf.l0]
    rw [if_pos (by omega), if_pos (by omega), if_pos (by omega), hrd, wrap_up hlt hn]
    split
    · rw [if_pos he.1, if_pos (by rw [ha]; exact he.2)]
      exact ih (i + 1) k _ (by omega) (by omega) (by omega) (by simpa using ha)
    · exact ih (i + 1) k _ (by omega) (by omega) (by omega) ha
theorem work_ev {up picks draws : List Int} (workers : Int) (h0 : up.length ≤ 1048576) (h2 : picks.length ≤ 1048576) (h3 : draws.length ≤ 1048576) : ∃ (T : List Int) (t : Bool), T.length ≤ 1000 ∧ Ev (fun k => spec_WorkOfH.f k up workers picks draws) (T, t) ∧ Ev (fun k => impl_WorkOf.f k up workers picks draws) (T, t) := by
  obtain ⟨t, ht, hA⟩ := asked_tot workers h0 h2 h3
  unfold spec_WorkOfH.f impl_WorkOf.f impl_EventsOf.f
  simp only [if_pos (show up.length ≤ 2000000 by omega)]
  cases t with
  | false =>
    refine ⟨[], false, by simp, ?_, ?_⟩
    · refine Ev.bind ht ?_
      simp only [Bool.false_eq_true, if_false]
      exact Ev.now _
    · refine Ev.bind (Ev.bind (runpool_off h0 h2 h3 ht (.inl rfl)) (Ev.now _)) ?_
      simp only [Bool.false_eq_true, if_false]
      exact Ev.now _
  | true =>
    have hA := hA rfl
    have hw1 := hA.w1
    have hw8 := hA.w8
    have hlen := (poolAt_good hA 40).told_le
    have hf := hA.forest.1
    have hr := run_told (up := up) (picks := picks) (draws := draws) (n := workers.toNat) (by omega) 40 (PoolModel.start up workers.toNat) (by intro e he; cases he)
    have e1 : PoolModel.run up workers.toNat picks draws 1000 (PoolModel.start up workers.toNat) = poolAt up workers picks draws 40 := poolAt_all hA 960
    have hr' : ∀ e ∈ (poolAt up workers picks draws 40).told.map evS, 0 ≤ e.f2 ∧ e.f2 < (workers.toNat : Int) := by
      intro e he
      obtain ⟨x, hx, rfl⟩ := List.mem_map.1 he
      exact hr x hx
    have hl' : ((poolAt up workers picks draws 40).told.map evS).length ≤ 2000000 := by rw [List.length_map]; omega
    obtain ⟨r, hrl, hre⟩ := workOf_l0 _ workers.toNat hr' hl' _ 0 (((poolAt up workers picks draws 40).told.map evS).length + 1) (List.replicate workers.toNat 0) (Nat.zero_le _) rfl (by omega) (by simp)
    have hEv := Ev.of (impl_WorkOf.mono_l · _ _ _ _) hre
    refine ⟨r, true, by omega, ?_, ?_⟩
    · refine Ev.bind ht ?_
      simp only [if_true, e1]
      exact hEv
    · refine Ev.bind (Ev.bind (runpool_on h0 h2 h3 ht (by omega)) (Ev.now _)) ?_
      simp only [if_true, if_pos (show 0 ≤ workers by omega), if_pos (show workers.toNat ≤ 35184372088832 by omega)]
      exact hEv

theorem FnExactWorkOf : laws_FnExactWorkOf.Pure := by
  intro l0 a1 l2 l3 _ _ _ _ _ _ _ _ _ _
  by_cases c0 : (l0.length : Int) > 1048576
  · exact ⟨0, by unfold laws_FnExactWorkOf.f; rw [if_pos c0]⟩
  by_cases c2 : (l2.length : Int) > 1048576
  · exact ⟨0, by unfold laws_FnExactWorkOf.f; rw [if_neg c0, if_pos c2]⟩
  by_cases c3 : (l3.length : Int) > 1048576
  · exact ⟨0, by unfold laws_FnExactWorkOf.f; rw [if_neg c0, if_neg c2, if_pos c3]⟩
  have h0 : l0.length ≤ 1048576 := by omega
  have h2 : l2.length ≤ 1048576 := by omega
  have h3 : l3.length ≤ 1048576 := by omega
  obtain ⟨T, t, hT, hS, hI⟩ := work_ev a1 h0 h2 h3
  have hM := markIntS_ev (l := T) (by omega) (a := 1) (by omega) (by omega)
  have hH := heldIntS_ev (n := T.length) (by omega) (a := 1) (by omega) (by omega)
  refine Ev.rounds (r := true) ?_
  unfold laws_FnExactWorkOf.f
  simp only [if_neg c0, if_neg c2, if_neg c3]
  refine Ev.bind (toIntS_ev h0) (Ev.bind (toIntS_ev h2) (Ev.bind (toIntS_ev h3) (Ev.bind hS (Ev.bind (toIntS_ev h0) (Ev.bind (toIntS_ev h2) (Ev.bind (toIntS_ev h3) (Ev.bind hI (Ev.bind (eqIntS_ev (by show T.length ≤ _; omega)) ?_))))))))
  simp only [if_true, bne_self_eq_false]
  refine Ev.step (fun k => rfl) ?_
  simp only [laws_FnExactWorkOf.j0, Bool.false_eq_true, if_false]
  refine Ev.bind (toIntS_ev h0) (Ev.bind (eqIntS_ev h0) ?_)
  simp only [if_true]
  refine Ev.bind (toIntS_ev h2) (Ev.bind (eqIntS_ev h2) ?_)
  simp only [if_true]
  refine Ev.bind (toIntS_ev h3) (Ev.bind (eqIntS_ev h3) ?_)
  simp only [if_true]
  refine Ev.bind (markIntS_ev (by omega) (by omega) (by omega)) (Ev.bind (markIntS_ev (by omega) (by show (0 : Int) ≤ 1 + _; omega) (by show (1 : Int) + _ ≤ _; omega)) (Ev.bind (markIntS_ev (by omega) (by show (0 : Int) ≤ 1 + _ + _; omega) (by show (1 : Int) + _ + _ ≤ _; omega)) ?_))
  simp only [if_neg (show ¬ (1 + (l0.length : Int) + (l2.length : Int) + (l3.length : Int) < 0) by omega)]
  refine Ev.bind (eqIntS_ev (by show T.length ≤ _; omega)) ?_
  simp only [if_true, bne_self_eq_false]
  refine Ev.step (fun k => rfl) ?_
  simp only [laws_FnExactWorkOf.j1, Bool.false_eq_true, if_false]
  refine Ev.bind hM (Ev.bind hH ?_)
  simp only [if_neg (show ¬ (1 + (T.length : Int) < 0) by omega), if_true]
  refine Ev.bind (toIntS_ev h0) (Ev.bind (toIntS_ev h2) (Ev.bind (toIntS_ev h3) (Ev.bind hI (Ev.bind (eqIntS_ev (by show T.length ≤ _; omega)) ?_))))
  simp only [if_true, bne_self_eq_false]
  refine Ev.step (fun k => rfl) ?_
  simp only [laws_FnExactWorkOf.j2, Bool.false_eq_true, if_false]
  refine Ev.bind hH ?_
  simp only [if_neg (show ¬ (1 + (T.length : Int) < 0) by omega), if_true]
  exact Ev.now _

end Go.Proofs.Ytoaimlpbliabdaa.Pure
