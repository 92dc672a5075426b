/- What the pool's laws on work and on who is ready need of the model: workers' numbers, the counting loop. No conditions but those of each lemma. -/
import Derived.Test.YtoaimlpbliabdaaPuA
import Derived.Test.YtoaimlpbliabdaaWkH
namespace Go.Proofs.Ytoaimlpbliabdaa.QFnExactEventsOf
open Go.RowKit Go.Proofs.YtoaimlpbliabdaaW.PrintWords Go.Proofs.YtoaimlpbliabdaaW.PrintLast Go.Proofs.YtoaimlpbliabdaaW.PrintMore PoolModel
set_option linter.unusedVariables false
set_option linter.unusedSimpArgs false

theorem heldIntS_l0 (n : Nat) (hn : n ≤ 2000000) (a : Int) (h0 : 0 ≤ a) (h1 : a ≤ 1000000000000) : ∀ (d i k : Nat), i ≤ n → n - i = d → d < k → laws_heldIntS.l0 k (marks a n) (a + (i : Int)) (i : Int) = some (a + (n : Int)) := by
  intro d
  induction d with
  | zero =>
    intro i k hi hd hk
    obtain ⟨k, rfl⟩ : ∃ m, k = m + 1 := ⟨k - 1, by omega⟩
    simp only [laws_heldIntS.l0]
    rw [if_neg (by rw [marks_len]; omega), show i = n by omega]
  | succ d ih =>
    intro i k hi hd hk
    obtain ⟨k, rfl⟩ : ∃ m, k = m + 1 := ⟨k - 1, by omega⟩
    have hlt : i < n := by omega
    have hla : i < (marks a n).length := by rw [marks_len]; exact hlt
    simp only [laws_heldIntS.l0]
    rw [rd_at hla, marks_get, if_pos (by omega), if_pos (by omega), if_pos rfl, wrap_up hlt hn, w64 (by omega) (by omega)]
    rw [show a + (i : Int) + 1 = a + ((i + 1 : Nat) : Int) by omega]
    exact ih (i + 1) k (by omega) (by omega) (by omega)
theorem heldIntS_ev {n : Nat} (h : n ≤ 2000000) {a : Int} (h0 : 0 ≤ a) (h1 : a ≤ 1000000000000) : Ev (fun k => laws_heldIntS.f k (marks a n) a) (a + (n : Int)) := by
  refine ⟨n + 1, fun k hk => ?_⟩
  show laws_heldIntS.f k (marks a n) a = some (a + (n : Int))
  unfold laws_heldIntS.f
  have := heldIntS_l0 n h a h0 h1 n 0 k (by omega) (by omega) (by omega)
  simpa using this

theorem posts_told {up : List Int} {w : Int} {P : Int → Prop} (hw : P w) : ∀ (k : Nat) (s : PSt) (t : Int), (∀ e ∈ s.told, P e.worker) → ∀ e ∈ (posts k up s t w).told, P e.worker := by
  intro k
  induction k with
  | zero => intro s t h; exact h
  | succ k ih =>
    intro s t h
    have h1 : ∀ e ∈ s.told ++ [(⟨2, t, w⟩ : PoolModel.Ev)], P e.worker := by
      intro e he
      rcases List.mem_append.1 he with he | he
      · exact h e he
      · rw [List.mem_singleton.1 he]; exact hw
    unfold posts
    simp only
    split
    · exact h1
    · split
      · exact h1
      · exact ih _ _ h1
theorem taken_told (draws : List Int) (s : PSt) (w : Int) : (taken draws s w).2.told = s.told := by
  unfold taken
  simp only
  split <;> rfl
theorem stepBy_told {up draws : List Int} {w : Int} {s : PSt} {P : Int → Prop} (hw : P w) (h : ∀ e ∈ s.told, P e.worker) : ∀ e ∈ (stepBy up draws s w).told, P e.worker := by
  have h1 : ∀ e ∈ (PoolModel.begun up (taken draws s w).2 (taken draws s w).1 w).told, P e.worker := by
    intro e he
    have he' : e ∈ (taken draws s w).2.told ++ [(⟨1, (taken draws s w).1, w⟩ : PoolModel.Ev)] := he
    rw [taken_told] at he'
    rcases List.mem_append.1 he' with he | he
    · exact h e he
    · rw [List.mem_singleton.1 he]; exact hw
  unfold stepBy
  simp only
  split
  · exact posts_told hw _ _ _ h1
  · exact h1
theorem run_told {up picks draws : List Int} {n : Nat} (hn : 0 < n) : ∀ (k : Nat) (s : PSt), (∀ e ∈ s.told, 0 ≤ e.worker ∧ e.worker < (n : Int)) → ∀ e ∈ (run up n picks draws k s).told, 0 ≤ e.worker ∧ e.worker < (n : Int) := by
  intro k
  induction k with
  | zero => intro s h; exact h
  | succ k ih =>
    intro s h
    unfold run
    split
    · obtain ⟨i, hi, hlt⟩ := pick_lt (picks := picks) hn s.steps
      exact ih _ (stepBy_told (P := fun x => 0 ≤ x ∧ x < (n : Int)) (by rw [hi]; omega) h)
    · exact h
theorem readyL_len (d : List (List Int)) : (readyL d).length ≤ d.length := by
  unfold readyL
  split
  · rw [upTo_len]; exact Nat.le_refl _
  · exact Nat.zero_le _
end Go.Proofs.Ytoaimlpbliabdaa.QFnExactEventsOf
