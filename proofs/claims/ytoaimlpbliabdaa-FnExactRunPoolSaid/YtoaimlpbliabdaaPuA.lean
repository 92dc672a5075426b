import Derived.Test.YtoaimlpbliabdaaPlF
namespace Go.Proofs.Ytoaimlpbliabdaa.QFnExactEventsOf
open Go.RowKit Go.Proofs.YtoaimlpbliabdaaW.PrintWords Go.Proofs.YtoaimlpbliabdaaW.PrintLast Go.Proofs.YtoaimlpbliabdaaW.PrintMore PoolModel
set_option linter.unusedVariables false
set_option linter.unusedSimpArgs false

theorem w64 {x : Int} (h1 : -4000000000000 ≤ x) (h2 : x ≤ 4000000000000) : wrap64 x = x := by unfold wrap64; omega
theorem toIntS_l0 (l : List Int) (hn : l.length ≤ 2000000) : ∀ (d i k : Nat) (acc : List Int), i ≤ l.length → l.length - i = d → d < k → acc.length = l.length → acc.take i = l.take i → laws_toIntS.l0 k l acc (i : Int) = some l := by
  intro d
  induction d with
  | zero =>
    intro i k acc hi hd hk ha he
    obtain ⟨k, rfl⟩ : ∃ m, k = m + 1 := ⟨k - 1, by omega⟩
    simp only [laws_toIntS.l0]
    rw [if_neg (by omega)]
    rw [List.take_of_length_le (by omega), List.take_of_length_le (by omega)] at he
    rw [he]
  | succ d ih =>
    intro i k acc hi hd hk ha he
    obtain ⟨k, rfl⟩ : ∃ m, k = m + 1 := ⟨k - 1, by omega⟩
    have hlt : i < l.length := by omega
    simp only [laws_toIntS.l0]
    rw [if_pos (by omega), if_pos (by omega), if_pos (by omega), rd_at hlt, wrap_up hlt hn, Int.toNat_natCast]
    refine ih (i + 1) k _ (by omega) (by omega) (by omega) (by simpa using ha) ?_
    rw [List.take_succ_eq_append_getElem (by simpa [ha] using hlt), List.take_succ_eq_append_getElem hlt, List.getElem_set_self, List.take_set_of_le (Nat.le_refl _), he]
theorem toIntS_ev {l : List Int} (h : l.length ≤ 1048576) : Ev (fun k => laws_toIntS.f k l) l := by
  refine ⟨l.length + 1, fun k hk => ?_⟩
  show laws_toIntS.f k l = some l
  unfold laws_toIntS.f
  rw [if_pos (by omega), if_pos (by omega)]
  exact toIntS_l0 l (by omega) l.length 0 k _ (by omega) (by omega) (by omega) (by simp) (by simp)
theorem eqIntS_l0 (l : List Int) (hn : l.length ≤ 2000000) : ∀ (d i k : Nat), i ≤ l.length → l.length - i = d → d < k → laws_eqIntS.l0 k l l (i : Int) = some true := by
  intro d
  induction d with
  | zero =>
    intro i k hi hd hk
    obtain ⟨k, rfl⟩ : ∃ m, k = m + 1 := ⟨k - 1, by omega⟩
    simp only [laws_eqIntS.l0]
    rw [if_neg (by omega)]
  | succ d ih =>
    intro i k hi hd hk
    obtain ⟨k, rfl⟩ : ∃ m, k = m + 1 := ⟨k - 1, by omega⟩
    have hlt : i < l.length := by omega
    simp only [laws_eqIntS.l0]
    rw [if_pos (by omega), if_pos (by omega), if_pos (by omega), if_pos trivial, wrap_up hlt hn]
    exact ih (i + 1) k (by omega) (by omega) (by omega)
theorem eqIntS_ev {l : List Int} (h : l.length ≤ 1048576) : Ev (fun k => laws_eqIntS.f k l l) true := by
  refine ⟨l.length + 1, fun k hk => ?_⟩
  show laws_eqIntS.f k l l = some true
  unfold laws_eqIntS.f
  rw [if_pos rfl]
  exact eqIntS_l0 l (by omega) l.length 0 k (by omega) (by omega) (by omega)
/-- The numbers from a on. -/
def marks (a : Int) (n : Nat) : List Int := (List.range n).map fun (i : Nat) => a + (i : Int)
theorem marks_len (a : Int) (n : Nat) : (marks a n).length = n := by simp [marks]
theorem marks_get (a : Int) {n i : Nat} (h : i < (marks a n).length) : (marks a n)[i] = a + (i : Int) := by simp [marks]
theorem marks_take (a : Int) {n i : Nat} (h : i < n) : (marks a n).take (i + 1) = (marks a n).take i ++ [a + (i : Int)] := by
  rw [List.take_succ_eq_append_getElem (by rw [marks_len]; exact h), marks_get]
theorem markIntS_l0 (n : Nat) (hn : n ≤ 2000000) (a : Int) (h0 : 0 ≤ a) (h1 : a ≤ 1000000000000) : ∀ (d i k : Nat) (acc : List Int), i ≤ n → n - i = d → d < k → acc.length = n → acc.take i = (marks a n).take i → laws_markIntS.l0 k acc (a + (i : Int)) (i : Int) = some (a + (n : Int), marks a n) := by
  intro d
  induction d with
  | zero =>
    intro i k acc hi hd hk ha he
    obtain ⟨k, rfl⟩ : ∃ m, k = m + 1 := ⟨k - 1, by omega⟩
    simp only [laws_markIntS.l0]
    rw [if_neg (by omega)]
    rw [List.take_of_length_le (by omega), List.take_of_length_le (by rw [marks_len]; omega)] at he
    rw [he, show i = n by omega]
  | succ d ih =>
    intro i k acc hi hd hk ha he
    obtain ⟨k, rfl⟩ : ∃ m, k = m + 1 := ⟨k - 1, by omega⟩
    have hlt : i < n := by omega
    simp only [laws_markIntS.l0]
    rw [if_pos (by omega), if_pos (by omega), wrap_up hlt hn, Int.toNat_natCast, w64 (by omega) (by omega)]
    rw [show a + (i : Int) + 1 = a + ((i + 1 : Nat) : Int) by omega]
    refine ih (i + 1) k _ (by omega) (by omega) (by omega) (by simpa using ha) ?_
    rw [List.take_succ_eq_append_getElem (by simpa [ha] using hlt), marks_take a hlt, List.getElem_set_self, List.take_set_of_le (Nat.le_refl _), he]
theorem markIntS_ev {l : List Int} (h : l.length ≤ 2000000) {a : Int} (h0 : 0 ≤ a) (h1 : a ≤ 1000000000000) : Ev (fun k => laws_markIntS.f k l a) (a + (l.length : Int), marks a l.length) := by
  refine ⟨l.length + 1, fun k hk => ?_⟩
  show laws_markIntS.f k l a = some (a + (l.length : Int), marks a l.length)
  unfold laws_markIntS.f
  have := markIntS_l0 l.length h a h0 h1 l.length 0 k l (by omega) (by omega) (by omega) rfl (by simp)
  simpa using this

theorem l1In_tot (a b c : Int) : ∃ t, spec_l1In.f a b c = some t := by
  unfold spec_l1In.f
  split <;> exact ⟨_, rfl⟩
theorem forest_tot (l : List Int) (hn : l.length ≤ 2000000) : ∀ (d i k : Nat), i ≤ l.length → l.length - i = d → d < k → ∃ t, spec_l13Forest.l0 k l l (l.length : Int) (i : Int) = some t := by
  intro d
  induction d with
  | zero =>
    intro i k hi hd hk
    obtain ⟨k, rfl⟩ : ∃ m, k = m + 1 := ⟨k - 1, by omega⟩
    simp only [spec_l13Forest.l0]
    rw [if_neg (by omega)]
    exact ⟨_, rfl⟩
  | succ d ih =>
    intro i k hi hd hk
    obtain ⟨k, rfl⟩ : ∃ m, k = m + 1 := ⟨k - 1, by omega⟩
    have hlt : i < l.length := by omega
    simp only [spec_l13Forest.l0]
    rw [if_pos (by omega), if_pos (by omega), if_pos (by omega), wrap_up hlt hn]
    obtain ⟨b, hb⟩ := l1In_tot (rd l (i : Int)) (-1) (wrap64 ((i : Int) - 1))
    rw [hb]
    cases b with
    | false => exact ⟨_, rfl⟩
    | true => exact ih (i + 1) k (by omega) (by omega) (by omega)
theorem all_tot (l : List Int) (hn : l.length ≤ 2000000) : ∀ (d i k : Nat), i ≤ l.length → l.length - i = d → d < k → ∃ t, spec_l1All.l0 k 0 999 l (l.length : Int) (i : Int) = some t := by
  intro d
  induction d with
  | zero =>
    intro i k hi hd hk
    obtain ⟨k, rfl⟩ : ∃ m, k = m + 1 := ⟨k - 1, by omega⟩
    simp only [spec_l1All.l0]
    rw [if_neg (by omega)]
    exact ⟨_, rfl⟩
  | succ d ih =>
    intro i k hi hd hk
    obtain ⟨k, rfl⟩ : ∃ m, k = m + 1 := ⟨k - 1, by omega⟩
    have hlt : i < l.length := by omega
    simp only [spec_l1All.l0]
    rw [if_pos (by omega), if_pos (by omega), if_pos (by omega), wrap_up hlt hn]
    obtain ⟨b, hb⟩ := l1In_tot (rd l (i : Int)) 0 999
    rw [hb]
    cases b with
    | false => exact ⟨_, rfl⟩
    | true => exact ih (i + 1) k (by omega) (by omega) (by omega)
theorem asked_tot {up picks draws : List Int} (workers : Int) (h0 : up.length ≤ 1048576) (h2 : picks.length ≤ 1048576) (h3 : draws.length ≤ 1048576) : ∃ t, Ev (fun k => spec_l13Asked.f k up workers picks draws) t ∧ (t = true → Asked up workers picks draws) := by
  have key : ∃ t k, spec_l13Asked.f k up workers picks draws = some t := by
    have : ∃ t, spec_l13Asked.f (up.length + picks.length + draws.length + 1) up workers picks draws = some t := by
      unfold spec_l13Asked.f
      obtain ⟨b1, e1⟩ := forest_tot up (by omega) up.length 0 (up.length + picks.length + draws.length + 1) (by omega) (by omega) (by omega)
      have e1' : spec_l13Forest.f (up.length + picks.length + draws.length + 1) up = some b1 := e1
      rw [e1', Option.bind_some]
      cases b1 with
      | false => exact ⟨_, rfl⟩
      | true =>
        rw [if_pos rfl]
        obtain ⟨b2, e2⟩ := l1In_tot workers 1 8
        rw [e2, Option.bind_some]
        cases b2 with
        | false => exact ⟨_, rfl⟩
        | true =>
          rw [if_pos rfl]
          split
          · split
            · obtain ⟨b3, e3⟩ := all_tot picks (by omega) picks.length 0 (up.length + picks.length + draws.length + 1) (by omega) (by omega) (by omega)
              have e3' : spec_l1All.f (up.length + picks.length + draws.length + 1) picks 0 999 = some b3 := e3
              rw [e3', Option.bind_some]
              cases b3 with
              | false => exact ⟨_, rfl⟩
              | true =>
                rw [if_pos rfl]
                obtain ⟨b4, e4⟩ := all_tot draws (by omega) draws.length 0 (up.length + picks.length + draws.length + 1) (by omega) (by omega) (by omega)
                have e4' : spec_l1All.f (up.length + picks.length + draws.length + 1) draws 0 999 = some b4 := e4
                rw [e4', Option.bind_some]
                exact ⟨_, rfl⟩
            · exact ⟨_, rfl⟩
          · exact ⟨_, rfl⟩
    obtain ⟨t, e⟩ := this
    exact ⟨t, _, e⟩
  obtain ⟨t, k, e⟩ := key
  exact ⟨t, Ev.of (spec_l13Asked.mono _ _ _ _) e, fun ht => asked_true (by omega) (ht ▸ e)⟩

/-- The pool behind some steps, for arguments that are asked. -/
def poolAt (up : List Int) (workers : Int) (picks draws : List Int) (steps : Nat) : PSt := run up workers.toNat picks draws steps (PoolModel.start up workers.toNat)
theorem poolAt_good {up picks draws : List Int} {workers : Int} (h : Asked up workers picks draws) (steps : Nat) : PoolModel.Good up workers.toNat (poolAt up workers picks draws steps) :=
  run_good h.forest (by have := h.w1; omega) _ (PoolModel.Good.start h.forest (by have := h.w1; omega))
theorem poolAt_all {up picks draws : List Int} {workers : Int} (h : Asked up workers picks draws) (m : Nat) : poolAt up workers picks draws (40 + m) = poolAt up workers picks draws 40 :=
  run_more h.forest (by have := h.w1; omega) (PoolModel.Good.start h.forest (by have := h.w1; omega)) (by have := h.forest.1; omega) m
theorem runpool_on {up picks draws : List Int} {workers steps : Int} (h0 : up.length ≤ 1048576) (h2 : picks.length ≤ 1048576) (h3 : draws.length ≤ 1048576) (ht : Ev (fun k => spec_l13Asked.f k up workers picks draws) true) (hs : 0 ≤ steps) :
    Ev (fun k => impl_RunPoolH.f k up workers picks draws steps) ((poolAt up workers picks draws steps.toNat).decks, (poolAt up workers picks draws steps.toNat).left, (poolAt up workers picks draws steps.toNat).pre, (poolAt up workers picks draws steps.toNat).post, (poolAt up workers picks draws steps.toNat).told.map evS, ((poolAt up workers picks draws steps.toNat).steps : Int), true) := by
  unfold impl_RunPoolH.f
  simp only [if_pos (show up.length ≤ 2000000 by omega), if_pos (show picks.length ≤ 2000000 by omega), if_pos (show draws.length ≤ 2000000 by omega)]
  refine Ev.bind ht ?_
  simp only [if_true, if_pos hs]
  exact Ev.now _
theorem runpool_off {up picks draws : List Int} {workers steps : Int} (h0 : up.length ≤ 1048576) (h2 : picks.length ≤ 1048576) (h3 : draws.length ≤ 1048576) {t : Bool} (ht : Ev (fun k => spec_l13Asked.f k up workers picks draws) t) (hs : t = false ∨ steps < 0) :
    Ev (fun k => impl_RunPoolH.f k up workers picks draws steps) ([], [], [], [], [], 0, false) := by
  unfold impl_RunPoolH.f
  simp only [if_pos (show up.length ≤ 2000000 by omega), if_pos (show picks.length ≤ 2000000 by omega), if_pos (show draws.length ≤ 2000000 by omega)]
  refine Ev.bind ht ?_
  cases t with
  | false => simp only [Bool.false_eq_true, if_false]; exact Ev.now _
  | true =>
    have : ¬ (0 ≤ steps) := by rcases hs with h | h; exact absurd h (by decide); omega
    simp only [if_true, if_neg this]
    exact Ev.now _
end Go.Proofs.Ytoaimlpbliabdaa.QFnExactEventsOf
