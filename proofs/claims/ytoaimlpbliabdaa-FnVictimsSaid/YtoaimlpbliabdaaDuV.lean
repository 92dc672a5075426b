/- The victims: the plain law. No conditions but those of each lemma. -/
import Derived.Test.YtoaimlpbliabdaaDkX
import Derived.Test.YtoaimlpbliabdaaDkD
namespace Go.Proofs.Ytoaimlpbliabdaa.DFnExactPushTo
open Go.RowKit Go.Proofs.YtoaimlpbliabdaaW.PrintWords Go.Proofs.YtoaimlpbliabdaaW.PrintLast Go.Proofs.YtoaimlpbliabdaaW.PrintMore
set_option linter.unusedVariables false
set_option linter.unusedSimpArgs false

/-- The decks that may be stolen from. -/
def vf (w : Int) : List (List Int) → Int → List Int
  | [], _ => []
  | r :: d, i => if i = w then vf w d (i + 1) else if 0 < r.length then i :: vf w d (i + 1) else vf w d (i + 1)
theorem vf_len (w : Int) : ∀ (d : List (List Int)) (i : Int), (vf w d i).length ≤ d.length
  | [], _ => by simp [vf]
  | r :: d, i => by
    have := vf_len w d (i + 1)
    simp only [vf]
    split
    · simp only [List.length_cons]; omega
    · split
      · simp only [List.length_cons]; omega
      · simp only [List.length_cons]; omega
theorem vf_mem (w : Int) : ∀ (d : List (List Int)) (i x : Int), x ∈ vf w d i → ∃ j : Nat, x = i + (j : Int) ∧ j < d.length ∧ x ≠ w ∧ d.getD j [] ≠ []
  | [], _, _ => by simp [vf]
  | r :: d, i, x => by
    intro h
    simp only [vf] at h
    have go : x ∈ vf w d (i + 1) → ∃ j : Nat, x = i + (j : Int) ∧ j < (r :: d).length ∧ x ≠ w ∧ (r :: d).getD j [] ≠ [] := fun h => by
      obtain ⟨j, h1, h2, h3, h4⟩ := vf_mem w d (i + 1) x h
      exact ⟨j + 1, by rw [h1]; push_cast; omega, by simp only [List.length_cons]; omega, h3, by simpa using h4⟩
    split at h
    · exact go h
    · rename_i hiw
      split at h
      · rename_i hr
        rcases List.mem_cons.1 h with rfl | h
        · exact ⟨0, by simp, by simp, hiw, by simp; intro e; rw [e] at hr; simp at hr⟩
        · exact go h
      · exact go h
theorem vf_nil (w : Int) (n : Nat) : ∀ i, vf w (List.replicate n []) i = [] := by
  induction n with
  | zero => intro i; rfl
  | succ n ih => intro i; rw [List.replicate_succ]; simp only [vf]; split <;> simp [ih]
theorem svf_l0 (w : Int) (d : List (List Int)) (hn : d.length ≤ 2000000) : ∀ (e i k : Nat) (acc : List Int), i ≤ d.length → d.length - i = e → e < k → acc.length ≤ i → spec_l12Victims.l0 k w acc d (d.length : Int) (i : Int) = some (acc ++ vf w (d.drop i) (i : Int)) := by
  intro e
  induction e with
  | zero =>
    intro i k acc hi he hk ha
    obtain ⟨k, rfl⟩ : ∃ m, k = m + 1 := ⟨k - 1, by omega⟩
    simp only [spec_l12Victims.l0]
    rw [if_neg (by omega), List.drop_of_length_le (by omega)]
    simp [vf]
  | succ e ih =>
    intro i k acc hi he hk ha
    obtain ⟨k, rfl⟩ : ∃ m, k = m + 1 := ⟨k - 1, by omega⟩
    have hlt : i < d.length := by omega
    simp only [spec_l12Victims.l0]
    rw [if_pos (by omega), if_pos (by omega), if_pos (by omega), rdL_at hlt, wrap_up hlt hn, List.drop_eq_getElem_cons hlt]
    simp only [vf]
    have e1 : ((i : Int) + 1) = ((i + 1 : Nat) : Int) := by push_cast; rfl
    by_cases h1 : (i : Int) = w
    · rw [if_pos h1, if_pos h1, ih (i + 1) k acc (by omega) (by omega) (by omega) (by omega), e1]
    · rw [if_neg h1, if_neg h1]
      by_cases h2 : 0 < d[i].length
      · rw [if_pos (by omega), if_pos h2, if_pos (by omega), ih (i + 1) k (acc ++ [(i : Int)]) (by omega) (by omega) (by omega) (by simp; omega), e1]
        simp
      · rw [if_neg (by omega), if_neg h2, ih (i + 1) k acc (by omega) (by omega) (by omega) (by omega), e1]
/-- The victim by a draw, or -1. -/
def vpick (l : List Int) (t : Int) : Int := if l = [] then -1 else rd l (Int.tmod t (l.length : Int))
theorem tmod_in {l : List Int} {t : Int} (h : l ≠ []) (ht : 0 ≤ t) : 0 ≤ Int.tmod t (l.length : Int) ∧ Int.tmod t (l.length : Int) < (l.length : Int) := by
  have := List.length_pos_iff.2 h
  exact ⟨Int.tmod_nonneg _ ht, by rw [Int.tmod_eq_emod_of_nonneg ht]; exact Int.emod_lt_of_pos _ (by omega)⟩
theorem vpick_mem {l : List Int} {t : Int} (h : l ≠ []) (ht : 0 ≤ t) : vpick l t ∈ l := by
  have h2 := tmod_in h ht
  unfold vpick
  rw [if_neg h]
  unfold rd
  rw [List.getD_eq_getElem?_getD, List.getElem?_eq_getElem (by omega)]
  exact List.getElem_mem _
theorem ivf_l0 (w t : Int) (ht : 0 ≤ t) (d : List (List Int)) (hn : d.length ≤ 2000000) : ∀ (e i k : Nat) (acc : List Int), i ≤ d.length → d.length - i = e → e < k → acc.length ≤ i → impl_victim.l0 k w t acc d (d.length : Int) (i : Int) = some (vpick (acc ++ vf w (d.drop i) (i : Int)) t) := by
  intro e
  induction e with
  | zero =>
    intro i k acc hi he hk ha
    obtain ⟨k, rfl⟩ : ∃ m, k = m + 1 := ⟨k - 1, by omega⟩
    simp only [impl_victim.l0]
    rw [if_neg (by omega), List.drop_of_length_le (by omega)]
    simp only [vf, List.append_nil]
    unfold vpick
    by_cases h : acc = []
    · rw [if_pos h, if_pos (by rw [h]; rfl)]
    · have h1 := tmod_in h ht
      have := List.length_pos_iff.2 h
      rw [if_neg h, if_neg (by omega), if_pos h1.1, if_pos h1.2]
  | succ e ih =>
    intro i k acc hi he hk ha
    obtain ⟨k, rfl⟩ : ∃ m, k = m + 1 := ⟨k - 1, by omega⟩
    have hlt : i < d.length := by omega
    simp only [impl_victim.l0]
    rw [if_pos (by omega), if_pos (by omega), if_pos (by omega), rdL_at hlt, wrap_up hlt hn, List.drop_eq_getElem_cons hlt]
    simp only [vf]
    have e1 : ((i : Int) + 1) = ((i + 1 : Nat) : Int) := by push_cast; rfl
    by_cases h1 : (i : Int) = w
    · rw [if_pos h1, if_pos h1, ih (i + 1) k acc (by omega) (by omega) (by omega) (by omega), e1]
    · rw [if_neg h1, if_neg h1]
      by_cases h2 : 0 < d[i].length
      · rw [if_pos (by omega), if_pos h2, if_pos (by omega), ih (i + 1) k (acc ++ [(i : Int)]) (by omega) (by omega) (by omega) (by simp; omega), e1]
        simp
      · rw [if_neg (by omega), if_neg h2, ih (i + 1) k acc (by omega) (by omega) (by omega) (by omega), e1]
/-- What VictimOf tells. -/
noncomputable def vOf (d : List (List Int)) (w t : Int) : Int × Bool := if workB d w = true then (if t < 0 then (0, false) else if vf w d 0 = [] then (0, false) else (vpick (vf w d 0) t, true)) else (0, false)
theorem svict_ev {d : List (List Int)} (w t : Int) (hl : d.length ≤ 1048576) (ht : tl d ≤ 1048576) : Ev (fun k => spec_VictimOf.f k d w t) (vOf d w t) := by
  have hv : Ev (fun k => spec_l12Victims.f k d w) (vf w d 0) := ⟨d.length + 1, fun k hk => by
    show spec_l12Victims.f k d w = some (vf w d 0)
    unfold spec_l12Victims.f
    have := svf_l0 w d (by omega) d.length 0 k [] (by omega) (by omega) (by omega) (by simp)
    simpa using this⟩
  have hq : Ev (fun k => spec_l12Asked.f k d w) (workB d w) := by
    unfold spec_l12Asked.f
    refine Ev.bind (sgood_ev (by omega) ht) ?_
    unfold workB
    cases goodB d with
    | false => simp only [Bool.false_eq_true, if_false, Bool.false_and]; exact Ev.now _
    | true =>
      simp only [if_true, l1In_f, Option.bind_some, Bool.true_and]
      rw [w64 (by omega) (by omega)]
      exact Ev.now _
  unfold spec_VictimOf.f
  refine Ev.bind hq ?_
  unfold vOf
  cases workB d w with
  | false => simp only [Bool.false_eq_true, if_false]; exact Ev.now _
  | true =>
    simp only [if_true]
    by_cases h1 : t < 0
    · rw [if_pos h1]; simp only [if_pos h1]; exact Ev.now _
    · rw [if_neg h1]; simp only [if_neg h1]
      refine Ev.bind hv ?_
      by_cases h2 : vf w d 0 = []
      · rw [if_pos h2]; simp only [h2]; exact Ev.now _
      · have h3 := List.length_pos_iff.2 h2
        have h4 := tmod_in h2 (by omega : 0 ≤ t)
        rw [if_neg h2]
        simp only [if_neg (show ¬ ((vf w d 0).length : Int) = 0 by omega)]
        refine Ev.bind hv ?_
        simp only [if_neg (show ¬ ((vf w d 0).length : Int) = 0 by omega), if_pos h4.1, if_pos h4.2]
        unfold vpick
        rw [if_neg h2]
        exact Ev.now _
theorem ivict_ev {d : List (List Int)} (w t : Int) (ht : 0 ≤ t) (hl : d.length ≤ 1048576) : Ev (fun k => impl_victim.f k d w t) (vpick (vf w d 0) t) := ⟨d.length + 1, fun k hk => by
    show impl_victim.f k d w t = some (vpick (vf w d 0) t)
    unfold impl_victim.f
    have := ivf_l0 w t ht d (by omega) d.length 0 k [] (by omega) (by omega) (by omega) (by simp)
    simpa using this⟩
end Go.Proofs.Ytoaimlpbliabdaa.DFnExactPushTo
