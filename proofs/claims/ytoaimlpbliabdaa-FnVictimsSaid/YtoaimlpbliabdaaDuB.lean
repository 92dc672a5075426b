/- The decks as lists: whether decks are good, all their tasks, on both sides. No conditions but those of each lemma. -/
import Derived.Test.YtoaimlpbliabdaaDuA
namespace Go.Proofs.Ytoaimlpbliabdaa.DFnExactPushTo
open Go.RowKit Go.Proofs.YtoaimlpbliabdaaW.PrintWords Go.Proofs.YtoaimlpbliabdaaW.PrintLast Go.Proofs.YtoaimlpbliabdaaW.PrintMore
set_option linter.unusedVariables false
set_option linter.unusedSimpArgs false

/-! ### the law's helpers -/
theorem szIntSS_l0 (l : List (List Int)) (hn : l.length ≤ 1048576) (hr : ∀ r ∈ l, r.length ≤ 9223372036854775807) : ∀ (d i k : Nat) (a : Int), i ≤ l.length → l.length - i = d → d < k → 0 ≤ a → a ≤ 1048576 →
    laws_szIntSS.l0 k l a (i : Int) = some (if a < (tl (l.drop i) : Int) then -1 else a - (tl (l.drop i) : Int)) := by
  intro d
  induction d with
  | zero =>
    intro i k a hi hd hk h0 h1
    obtain ⟨k, rfl⟩ : ∃ m, k = m + 1 := ⟨k - 1, by omega⟩
    simp only [laws_szIntSS.l0]
    rw [if_neg (by omega), List.drop_eq_nil_of_le (by omega)]
    simp [tl]
    omega
  | succ d ih =>
    intro i k a hi hd hk h0 h1
    obtain ⟨k, rfl⟩ : ∃ m, k = m + 1 := ⟨k - 1, by omega⟩
    have hlt : i < l.length := by omega
    have hle := hr _ (List.getElem_mem hlt)
    have hww : wrap64 (a - (l[i].length : Int)) = a - (l[i].length : Int) := by unfold wrap64; omega
    simp only [laws_szIntSS.l0, laws_szIntS.f]
    rw [if_pos (by omega), if_pos (by omega), rdL_at hlt, wrap_up hlt (by omega), List.drop_eq_getElem_cons hlt, tl_cons, hww]
    by_cases hw : a - (l[i].length : Int) < 0
    · rw [if_pos hw, Option.bind_some, if_pos (by omega), if_pos (by omega)]
    · rw [if_neg hw, Option.bind_some, if_neg hw, ih (i + 1) k _ (by omega) (by omega) (by omega) (by omega) (by omega)]
      by_cases hc : a - (l[i].length : Int) < (tl (l.drop (i + 1)) : Int)
      · rw [if_pos hc, if_pos (by omega)]
      · rw [if_neg hc, if_neg (by omega)]; congr 1; omega
/-- What szIntSS says: whether rows hold together so many. -/
theorem szIntSS_ev (l : List (List Int)) (hn : l.length ≤ 9223372036854775807) (hr : ∀ r ∈ l, r.length ≤ 9223372036854775807) : Ev (fun k => laws_szIntSS.f k l 1048576) (if 1048576 < ((l.length + tl l : Nat) : Int) then -1 else 1048576 - ((l.length + tl l : Nat) : Int)) := by
  refine ⟨l.length + 1, fun k hk => ?_⟩
  show laws_szIntSS.f k l 1048576 = some _
  unfold laws_szIntSS.f
  have hww : wrap64 (1048576 - (l.length : Int)) = 1048576 - (l.length : Int) := by unfold wrap64; omega
  rw [hww]
  by_cases h : 1048576 - (l.length : Int) < 0
  · rw [if_pos h, if_pos (by omega)]
  · rw [if_neg h]
    have := szIntSS_l0 l (by omega) hr l.length 0 k (1048576 - (l.length : Int)) (by omega) (by omega) (by omega) (by omega) (by omega)
    rw [List.drop_zero] at this
    have e0 : ((0 : Nat) : Int) = 0 := rfl
    rw [e0] at this
    rw [this]
    by_cases hc : 1048576 - (l.length : Int) < (tl l : Int)
    · rw [if_pos hc, if_pos (by omega)]
    · rw [if_neg hc, if_neg (by omega)]; congr 1; omega
theorem toIntSS_l0 (l : List (List Int)) (hn : l.length ≤ 2000000) (ht : tl l ≤ 1048576) : ∀ (d i k : Nat) (acc : List (List Int)), i ≤ l.length → l.length - i = d → d + tl l + 1 < k → acc.length = l.length → acc.take i = l.take i → laws_toIntSS.l0 k l acc (i : Int) = some l := by
  intro d
  induction d with
  | zero =>
    intro i k acc hi hd hk ha he
    obtain ⟨k, rfl⟩ : ∃ m, k = m + 1 := ⟨k - 1, by omega⟩
    simp only [laws_toIntSS.l0]
    rw [if_neg (by omega)]
    rw [List.take_of_length_le (by omega), List.take_of_length_le (by omega)] at he
    rw [he]
  | succ d ih =>
    intro i k acc hi hd hk ha he
    obtain ⟨k, rfl⟩ : ∃ m, k = m + 1 := ⟨k - 1, by omega⟩
    have hlt : i < l.length := by omega
    have hrl := len_le_tl (List.getElem_mem hlt)
    have hti : laws_toIntS.f k l[i] = some l[i] := by
      unfold laws_toIntS.f
      rw [if_pos (by omega), if_pos (by omega)]
      exact toIntS_l0 l[i] (by omega) l[i].length 0 k _ (by omega) (by omega) (by omega) (by simp) (by simp)
    simp only [laws_toIntSS.l0]
    rw [if_pos (by omega), if_pos (by omega), rdL_at hlt, hti, Option.bind_some, if_pos (by omega), wrap_up hlt hn, Int.toNat_natCast]
    refine ih (i + 1) k _ (by omega) (by omega) (by omega) (by simpa using ha) ?_
    rw [List.take_succ_eq_append_getElem (by simpa [ha] using hlt), List.take_succ_eq_append_getElem hlt, List.getElem_set_self, List.take_set_of_le (Nat.le_refl _), he]
theorem toIntSS_ev {l : List (List Int)} (h : l.length ≤ 1048576) (ht : tl l ≤ 1048576) : Ev (fun k => laws_toIntSS.f k l) l := by
  refine ⟨l.length + tl l + 2, fun k hk => ?_⟩
  show laws_toIntSS.f k l = some l
  unfold laws_toIntSS.f
  rw [if_pos (by omega), if_pos (by omega)]
  exact toIntSS_l0 l (by omega) ht l.length 0 k _ (by omega) (by omega) (by omega) (by simp) (by simp)

/-! ### the program's look at decks -/
theorem concat_l1 (l : List (List Int)) (hn : l.length ≤ 2000000) (ht : tl l ≤ 2000000) : ∀ (d i k : Nat) (acc : List Int), i ≤ l.length → l.length - i = d → d < k → acc = (l.take i).flatten → slices_Concat_int_int.l1 k acc l (l.length : Int) (i : Int) = some l.flatten := by
  intro d
  induction d with
  | zero =>
    intro i k acc hi hd hk ha
    obtain ⟨k, rfl⟩ : ∃ m, k = m + 1 := ⟨k - 1, by omega⟩
    simp only [slices_Concat_int_int.l1]
    rw [if_neg (by omega), ha, List.take_of_length_le (by omega)]
  | succ d ih =>
    intro i k acc hi hd hk ha
    obtain ⟨k, rfl⟩ : ∃ m, k = m + 1 := ⟨k - 1, by omega⟩
    have hlt : i < l.length := by omega
    have hrl := len_le_tl (List.getElem_mem hlt)
    have hal : acc.length ≤ tl l := by rw [ha, ← tl_flatten]; exact tl_take_le l i
    simp only [slices_Concat_int_int.l1]
    rw [if_pos (by omega), if_pos (by omega), if_pos (by omega), rdL_at hlt, if_pos (by omega), wrap_up hlt hn]
    refine ih (i + 1) k _ (by omega) (by omega) (by omega) ?_
    rw [List.take_succ_eq_append_getElem hlt, List.flatten_append, ← ha]
    simp
theorem concat_l0 (l : List (List Int)) (hn : l.length ≤ 2000000) (ht : tl l ≤ 2000000) : ∀ (d i k : Nat), i ≤ l.length → l.length - i = d → d + l.length + 2 < k → slices_Concat_int_int.l0 k l (tl (l.take i) : Int) l (l.length : Int) (i : Int) = some l.flatten := by
  intro d
  induction d with
  | zero =>
    intro i k hi hd hk
    obtain ⟨k, rfl⟩ : ∃ m, k = m + 1 := ⟨k - 1, by omega⟩
    have hle := tl_take_le l i
    simp only [slices_Concat_int_int.l0, slices_Grow_int_int.f]
    rw [if_neg (by omega), if_pos trivial, if_pos (by omega), if_pos (by omega), Option.bind_some]
    exact concat_l1 l hn ht l.length 0 k [] (by omega) (by omega) (by omega) (by simp)
  | succ d ih =>
    intro i k hi hd hk
    obtain ⟨k, rfl⟩ : ∃ m, k = m + 1 := ⟨k - 1, by omega⟩
    have hlt : i < l.length := by omega
    have h1 := tl_take_le l (i + 1)
    have h2 := tl_take l hlt
    have hw : wrap64 ((tl (l.take i) : Int) + (l[i].length : Int)) = (tl (l.take (i + 1)) : Int) := by rw [w64 (by omega) (by omega), h2]; omega
    simp only [slices_Concat_int_int.l0]
    rw [if_pos (by omega), if_pos (by omega), if_pos (by omega), rdL_at hlt, hw, if_neg (by omega), wrap_up hlt hn]
    exact ih (i + 1) k (by omega) (by omega) (by omega)
theorem concat_ev {l : List (List Int)} (hn : l.length ≤ 2000000) (ht : tl l ≤ 2000000) : Ev (fun k => slices_Concat_int_int.f k l) l.flatten := by
  refine ⟨2 * l.length + 3, fun k hk => ?_⟩
  show slices_Concat_int_int.f k l = some l.flatten
  unfold slices_Concat_int_int.f
  have := concat_l0 l hn ht l.length 0 k (by omega) (by omega) (by omega)
  simpa [tl] using this
theorem index_l0 (l : List Int) (hn : l.length ≤ 2000000) (x : Int) : ∀ (d i k : Nat), i ≤ l.length → l.length - i = d → d < k → ∃ r, slices_Index_int_int.l0 k l x (l.length : Int) (i : Int) = some r ∧ (0 ≤ r ↔ x ∈ l.drop i) := by
  intro d
  induction d with
  | zero =>
    intro i k hi hd hk
    obtain ⟨k, rfl⟩ : ∃ m, k = m + 1 := ⟨k - 1, by omega⟩
    simp only [slices_Index_int_int.l0]
    rw [if_neg (by omega), List.drop_eq_nil_of_le (by omega)]
    exact ⟨-1, rfl, by simp⟩
  | succ d ih =>
    intro i k hi hd hk
    obtain ⟨k, rfl⟩ : ∃ m, k = m + 1 := ⟨k - 1, by omega⟩
    have hlt : i < l.length := by omega
    simp only [slices_Index_int_int.l0]
    rw [if_pos (by omega), if_pos (by omega), if_pos (by omega), rd_at hlt, wrap_up hlt hn, List.drop_eq_getElem_cons hlt]
    by_cases e : x = l[i]
    · rw [if_pos e]
      exact ⟨_, rfl, by rw [e]; exact ⟨fun _ => List.mem_cons_self, fun _ => by omega⟩⟩
    · rw [if_neg e]
      obtain ⟨r, hr, hm⟩ := ih (i + 1) k (by omega) (by omega) (by omega)
      exact ⟨r, hr, by rw [hm, List.mem_cons]; exact ⟨Or.inr, fun h => h.resolve_left e⟩⟩
theorem contains_f (l : List Int) (hn : l.length ≤ 2000000) (x : Int) {k : Nat} (hk : l.length < k) : slices_Contains_int_int.f k l x = some (decide (x ∈ l)) := by
  obtain ⟨r, hr, hm⟩ := index_l0 l hn x l.length 0 k (by omega) (by omega) hk
  have hr' : slices_Index_int_int.f k l x = some r := hr
  unfold slices_Contains_int_int.f
  rw [hr', Option.bind_some]
  rw [List.drop_zero] at hm
  by_cases h : x ∈ l
  · rw [decide_eq_true (show r ≥ 0 from hm.2 h), decide_eq_true h]
  · rw [decide_eq_false (show ¬ r ≥ 0 from fun hh => h (hm.1 hh)), decide_eq_false h]
def inT (x : Int) : Bool := decide (0 ≤ x) && decide (x ≤ 999)
theorem isTask_f (x : Int) : impl_isTask.f x = some (inT x) := by
  unfold impl_isTask.f impl_within.f inT
  by_cases h : (0 : Int) ≤ x
  · rw [if_pos (show x ≥ 0 from h), decide_eq_true h]; simp
  · rw [if_neg (show ¬ x ≥ 0 from h), decide_eq_false h]; simp
/-- From the i-th on: tasks, none of which stood there before. -/
def freshFrom (l : List Int) : Nat → List Int → Bool
  | _, [] => true
  | i, x :: r => inT x && !decide (x ∈ l.take i) && freshFrom l (i + 1) r
theorem good_l0 (l : List Int) (hn : l.length ≤ 60) : ∀ (d i k : Nat), i ≤ l.length → l.length - i = d → d + 100 < k → impl_GoodDecks.l0 k l l (l.length : Int) (i : Int) = some (freshFrom l i (l.drop i)) := by
  intro d
  induction d with
  | zero =>
    intro i k hi hd hk
    obtain ⟨k, rfl⟩ : ∃ m, k = m + 1 := ⟨k - 1, by omega⟩
    simp only [impl_GoodDecks.l0]
    rw [if_neg (by omega), List.drop_eq_nil_of_le (by omega)]
    rfl
  | succ d ih =>
    intro i k hi hd hk
    obtain ⟨k, rfl⟩ : ∃ m, k = m + 1 := ⟨k - 1, by omega⟩
    have hlt : i < l.length := by omega
    simp only [impl_GoodDecks.l0]
    rw [if_pos (by omega), if_pos (by omega), if_pos (by omega), rd_at hlt, isTask_f, Option.bind_some, wrap_up hlt (by omega), List.drop_eq_getElem_cons hlt]
    unfold freshFrom
    cases hb : inT l[i] with
    | false => simp
    | true =>
      rw [if_pos rfl, if_pos (by omega), Int.toNat_natCast, contains_f _ (by rw [List.length_take]; omega) _ (by rw [List.length_take]; omega), Option.bind_some]
      by_cases hm : l[i] ∈ l.take i
      · rw [decide_eq_true hm]; simp
      · rw [decide_eq_false hm]
        simp only [Bool.false_eq_true, if_false, Bool.true_and, Bool.not_false]
        exact ih (i + 1) k (by omega) (by omega) (by omega)
theorem freshFrom_iff (l : List Int) : ∀ (r : List Int) (i : Nat), l.drop i = r → i ≤ l.length → (l.take i).Nodup → (freshFrom l i r = true ↔ (∀ x ∈ r, 0 ≤ x ∧ x ≤ 999) ∧ l.Nodup) := by
  intro r
  induction r with
  | nil =>
    intro i hd hi hN
    have : l.take i = l := by rw [List.take_of_length_le]; have := congrArg List.length hd; simp at this; omega
    rw [this] at hN
    simp [freshFrom, hN]
  | cons x r ih =>
    intro i hd hi hN
    have hlt : i < l.length := by have := congrArg List.length hd; simp at this; omega
    have hx : l[i] = x := by
      have := List.drop_eq_getElem_cons hlt
      rw [hd] at this
      injection this with h1 _
      exact h1.symm
    have hr : l.drop (i + 1) = r := by
      have := List.drop_eq_getElem_cons hlt
      rw [hd] at this
      injection this with _ h2
      exact h2.symm
    have htk : l.take (i + 1) = l.take i ++ [x] := by rw [List.take_succ_eq_append_getElem hlt, hx]
    unfold freshFrom
    by_cases hm : x ∈ l.take i
    · rw [decide_eq_true hm]
      simp only [Bool.not_true, Bool.and_false, Bool.false_and, Bool.false_eq_true, false_iff]
      rintro ⟨_, hND⟩
      have h2 : (l.take i ++ l.drop i).Nodup := by rw [List.take_append_drop]; exact hND
      rw [hd] at h2
      exact (List.nodup_append.1 h2).2.2 x hm x (List.mem_cons_self) rfl
    · have hN1 : (l.take (i + 1)).Nodup := by
        rw [htk, List.nodup_append]
        exact ⟨hN, by simp, fun a ha b hb => by rw [List.mem_singleton.1 hb]; rintro rfl; exact hm ha⟩
      have := ih (i + 1) hr (by omega) hN1
      rw [decide_eq_false hm, Bool.not_false, Bool.and_true, Bool.and_eq_true, this]
      unfold inT
      simp only [Bool.and_eq_true, decide_eq_true_eq, List.mem_cons, forall_eq_or_imp]
      constructor
      · rintro ⟨h1, h2, h3⟩; exact ⟨⟨h1, h2⟩, h3⟩
      · rintro ⟨⟨h1, h2⟩, h3⟩; exact ⟨h1, h2, h3⟩
/-- What good decks are. -/
def GoodD (d : List (List Int)) : Prop := 1 ≤ d.length ∧ d.length ≤ 8 ∧ d.flatten.length ≤ 60 ∧ (∀ x ∈ d.flatten, 0 ≤ x ∧ x ≤ 999) ∧ d.flatten.Nodup
open Classical in
noncomputable def goodB (d : List (List Int)) : Bool := decide (GoodD d)
theorem goodB_iff {d : List (List Int)} : goodB d = true ↔ GoodD d := by unfold goodB; simp
theorem good_ev {d : List (List Int)} (hn : d.length ≤ 2000000) (ht : tl d ≤ 2000000) : Ev (fun k => impl_GoodDecks.f k d) (goodB d) := by
  unfold impl_GoodDecks.f
  refine Ev.bind (concat_ev hn ht) ?_
  have hwi : impl_within.f (d.length : Int) 1 8 = some (decide (1 ≤ d.length) && decide (d.length ≤ 8)) := by
    unfold impl_within.f
    by_cases h : 1 ≤ d.length
    · rw [if_pos (by omega), decide_eq_true h]
      simp
      omega
    · rw [if_neg (by omega), decide_eq_false h]; simp
  simp only [hwi, Option.bind_some]
  by_cases h1 : 1 ≤ d.length ∧ d.length ≤ 8
  · rw [decide_eq_true h1.1, decide_eq_true h1.2]
    simp only [Bool.and_self, if_true]
    refine Ev.step (fun k => rfl) ?_
    simp only [impl_GoodDecks.j0]
    by_cases h2 : d.flatten.length ≤ 60
    · rw [decide_eq_false (show ¬ ((d.flatten.length : Int) > 60) by omega)]
      simp only [Bool.false_eq_true, if_false]
      have e : goodB d = freshFrom d.flatten 0 (d.flatten.drop 0) := by
        rw [Bool.eq_iff_iff, goodB_iff, freshFrom_iff d.flatten _ 0 rfl (Nat.zero_le _) (by simp)]
        unfold GoodD
        rw [List.drop_zero]
        exact ⟨fun h => h.2.2.2, fun h => ⟨h1.1, h1.2, h2, h⟩⟩
      rw [e]
      exact ⟨d.flatten.length + 101, fun k hk => good_l0 d.flatten h2 d.flatten.length 0 k (by omega) (by omega) (by omega)⟩
    · rw [decide_eq_true (show ((d.flatten.length : Int) > 60) by omega)]
      simp only [if_true]
      have e : goodB d = false := by rw [Bool.eq_false_iff, Ne, goodB_iff]; exact fun h => h2 h.2.2.1
      rw [e]
      exact Ev.now _
  · have e : (decide (1 ≤ d.length) && decide (d.length ≤ 8)) = false := by
      rw [Bool.eq_false_iff]; intro h; simp at h; exact h1 h
    rw [e]
    simp only [Bool.false_eq_true, if_false]
    refine Ev.step (fun k => rfl) ?_
    simp only [impl_GoodDecks.j0, if_true]
    have e : goodB d = false := by rw [Bool.eq_false_iff, Ne, goodB_iff]; exact fun h => h1 ⟨h.1, h.2.1⟩
    rw [e]
    exact Ev.now _
end Go.Proofs.Ytoaimlpbliabdaa.DFnExactPushTo
