import Derived.Test.YtoaimlpbliabdaaPuA
import Derived.Test.YtoaimlpbliabdaaQFnExactEventsOfx5
namespace Go.Proofs.Ytoaimlpbliabdaa.QFnExactEventsOf
open Go.RowKit Go.Proofs.YtoaimlpbliabdaaW.PrintWords Go.Proofs.YtoaimlpbliabdaaW.PrintLast Go.Proofs.YtoaimlpbliabdaaW.PrintMore PoolModel
set_option linter.unusedVariables false
set_option linter.unusedSimpArgs false

theorem rd93 {l : List S93} {i : Nat} (h : i < l.length) : rd_T93 l (i : Int) = l[i] := by
  unfold rd_T93
  first | (rw [Int.toNat_natCast, List.getD_eq_getElem?_getD, List.getElem?_eq_getElem h]; rfl) | simp [h]
theorem eqEventS_l0 (l : List S93) (hn : l.length ≤ 2000000) : ∀ (d i k : Nat), i ≤ l.length → l.length - i = d → d < k → laws_eqEventS.l0 k l l (i : Int) = some true := by
  intro d
  induction d with
  | zero =>
    intro i k hi hd hk
    obtain ⟨k, rfl⟩ : ∃ m, k = m + 1 := ⟨k - 1, by omega⟩
    simp only [laws_eqEventS.l0]
    rw [if_neg (by omega)]
  | succ d ih =>
    intro i k hi hd hk
    obtain ⟨k, rfl⟩ : ∃ m, k = m + 1 := ⟨k - 1, by omega⟩
    have hlt : i < l.length := by omega
    simp only [laws_eqEventS.l0, laws_eqEvent.f, if_true, Option.bind_some]
    rw [if_pos (by omega), if_pos (by omega), if_pos (by omega), wrap_up hlt hn]
    exact ih (i + 1) k (by omega) (by omega) (by omega)
theorem eqEventS_ev {l : List S93} (h : l.length ≤ 1048576) : Ev (fun k => laws_eqEventS.f k l l) true := by
  refine ⟨l.length + 1, fun k hk => ?_⟩
  show laws_eqEventS.f k l l = some true
  unfold laws_eqEventS.f
  rw [if_pos rfl]
  exact eqEventS_l0 l (by omega) l.length 0 k (by omega) (by omega) (by omega)
def marks93 (a : Int) (n : Nat) : List S93 := (List.range n).map fun (i : Nat) => (⟨a + 3 * (i : Int), a + 3 * (i : Int) + 1, a + 3 * (i : Int) + 2⟩ : S93)
theorem marks93_len (a : Int) (n : Nat) : (marks93 a n).length = n := by simp [marks93]
theorem marks93_get (a : Int) {n i : Nat} (h : i < (marks93 a n).length) : (marks93 a n)[i] = ⟨a + 3 * (i : Int), a + 3 * (i : Int) + 1, a + 3 * (i : Int) + 2⟩ := by simp [marks93]
theorem markEventS_l0 (n : Nat) (hn : n ≤ 2000000) (a : Int) (h0 : 0 ≤ a) (h1 : a ≤ 1000000000000) : ∀ (d i k : Nat) (acc : List S93), i ≤ n → n - i = d → d < k → acc.length = n → acc.take i = (marks93 a n).take i → laws_markEventS.l0 k acc (a + 3 * (i : Int)) (i : Int) = some (a + 3 * (n : Int), marks93 a n) := by
  intro d
  induction d with
  | zero =>
    intro i k acc hi hd hk ha he
    obtain ⟨k, rfl⟩ : ∃ m, k = m + 1 := ⟨k - 1, by omega⟩
    simp only [laws_markEventS.l0]
    rw [if_neg (by omega)]
    rw [List.take_of_length_le (by omega), List.take_of_length_le (by rw [marks93_len]; omega)] at he
    rw [he, show i = n by omega]
  | succ d ih =>
    intro i k acc hi hd hk ha he
    obtain ⟨k, rfl⟩ : ∃ m, k = m + 1 := ⟨k - 1, by omega⟩
    have hlt : i < n := by omega
    have hla : i < acc.length := by omega
    simp only [laws_markEventS.l0, Option.bind_some]
    rw [if_pos (by omega), if_pos (by omega), wrap_up hlt hn, Int.toNat_natCast, w64 (x := a + 3 * (i : Int) + 1) (by omega) (by omega), w64 (x := a + 3 * (i : Int) + 1 + 1) (by omega) (by omega), w64 (x := a + 3 * (i : Int) + 1 + 1 + 1) (by omega) (by omega)]
    rw [rd93 (l := acc) hla]
    have hst : ∀ x : S93, rd_T93 (acc.set i x) (i : Int) = x := fun x => by rw [rd93 (by simpa using hla), List.getElem_set_self]
    simp only [hst, List.set_set]
    rw [show a + 3 * (i : Int) + 1 + 1 + 1 = a + 3 * ((i + 1 : Nat) : Int) by omega, show a + 3 * (i : Int) + 1 + 1 = a + 3 * (i : Int) + 2 by omega]
    refine ih (i + 1) k _ (by omega) (by omega) (by omega) (by simpa using ha) ?_
    rw [List.take_succ_eq_append_getElem (by simpa [ha] using hlt), List.take_succ_eq_append_getElem (by rw [marks93_len]; exact hlt), marks93_get, List.getElem_set_self, List.take_set_of_le (Nat.le_refl _), he]
theorem markEventS_ev {l : List S93} (h : l.length ≤ 2000000) {a : Int} (h0 : 0 ≤ a) (h1 : a ≤ 1000000000000) : Ev (fun k => laws_markEventS.f k l a) (a + 3 * (l.length : Int), marks93 a l.length) := by
  refine ⟨l.length + 1, fun k hk => ?_⟩
  show laws_markEventS.f k l a = some (a + 3 * (l.length : Int), marks93 a l.length)
  unfold laws_markEventS.f
  have := markEventS_l0 l.length h a h0 h1 l.length 0 k l (by omega) (by omega) (by omega) rfl (by simp)
  simpa using this
theorem heldEventS_l0 (n : Nat) (hn : n ≤ 2000000) (a : Int) (h0 : 0 ≤ a) (h1 : a ≤ 1000000000000) : ∀ (d i k : Nat), i ≤ n → n - i = d → d < k → laws_heldEventS.l0 k (marks93 a n) (a + 3 * (i : Int)) (i : Int) = some (a + 3 * (n : Int)) := by
  intro d
  induction d with
  | zero =>
    intro i k hi hd hk
    obtain ⟨k, rfl⟩ : ∃ m, k = m + 1 := ⟨k - 1, by omega⟩
    simp only [laws_heldEventS.l0]
    rw [if_neg (by rw [marks93_len]; omega), show i = n by omega]
  | succ d ih =>
    intro i k hi hd hk
    obtain ⟨k, rfl⟩ : ∃ m, k = m + 1 := ⟨k - 1, by omega⟩
    have hlt : i < n := by omega
    have hla : i < (marks93 a n).length := by rw [marks93_len]; exact hlt
    simp only [laws_heldEventS.l0]
    rw [rd93 hla, marks93_get]
    rw [w64 (x := a + 3 * (i : Int) + 1) (by omega) (by omega), w64 (x := a + 3 * (i : Int) + 1 + 1) (by omega) (by omega), w64 (x := a + 3 * (i : Int) + 1 + 1 + 1) (by omega) (by omega)]
    rw [if_pos (by omega), if_pos (by omega), if_pos rfl, if_pos rfl, if_pos (by show a + 3 * (i : Int) + 2 = _; omega), wrap_up hlt hn]
    rw [show a + 3 * (i : Int) + 1 + 1 + 1 = a + 3 * ((i + 1 : Nat) : Int) by omega]
    exact ih (i + 1) k (by omega) (by omega) (by omega)
theorem heldEventS_ev {n : Nat} (h : n ≤ 2000000) {a : Int} (h0 : 0 ≤ a) (h1 : a ≤ 1000000000000) : Ev (fun k => laws_heldEventS.f k (marks93 a n) a) (a + 3 * (n : Int)) := by
  refine ⟨n + 1, fun k hk => ?_⟩
  show laws_heldEventS.f k (marks93 a n) a = some (a + 3 * (n : Int))
  unfold laws_heldEventS.f
  have := heldEventS_l0 n h a h0 h1 n 0 k (by omega) (by omega) (by omega)
  simpa using this

/-- Both sides tell the same. -/
theorem events_ev {up picks draws : List Int} (workers : Int) (h0 : up.length ≤ 1048576) (h2 : picks.length ≤ 1048576) (h3 : draws.length ≤ 1048576) : ∃ (T : List S93) (t : Bool), T.length ≤ 1000 ∧ Ev (fun k => spec_EventsOfH.f k up workers picks draws) (T, t) ∧ Ev (fun k => impl_EventsOf.f k up workers picks draws) (T, t) := by
  obtain ⟨t, ht, hA⟩ := asked_tot workers h0 h2 h3
  cases t with
  | false =>
    refine ⟨[], false, by simp, ?_, ?_⟩
    · unfold spec_EventsOfH.f
      simp only [if_pos (show up.length ≤ 2000000 by omega)]
      refine Ev.bind ht ?_
      simp only [Bool.false_eq_true, if_false]
      exact Ev.now _
    · unfold impl_EventsOf.f
      refine Ev.bind (runpool_off h0 h2 h3 ht (.inl rfl)) ?_
      exact Ev.now _
  | true =>
    have hA := hA rfl
    refine ⟨(poolAt up workers picks draws 40).told.map evS, true, ?_, ?_, ?_⟩
    · rw [List.length_map]
      have := (poolAt_good hA 40).told_le
      have := hA.forest.1
      omega
    · unfold spec_EventsOfH.f
      simp only [if_pos (show up.length ≤ 2000000 by omega)]
      refine Ev.bind ht ?_
      simp only [if_true]
      have e := poolAt_all hA 960
      unfold poolAt at e ⊢
      rw [e]
      exact Ev.now _
    · unfold impl_EventsOf.f
      refine Ev.bind (runpool_on h0 h2 h3 ht (by omega)) ?_
      exact Ev.now _
end Go.Proofs.Ytoaimlpbliabdaa.QFnExactEventsOf
