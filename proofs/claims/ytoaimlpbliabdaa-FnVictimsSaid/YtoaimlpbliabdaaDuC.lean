/- The decks as lists: the reference's look at decks, its list of all tasks; what PushTo leaves. No conditions but those of each lemma. -/
import Derived.Test.YtoaimlpbliabdaaDuB
namespace Go.Proofs.Ytoaimlpbliabdaa.DFnExactPushTo
open Go.RowKit Go.Proofs.YtoaimlpbliabdaaW.PrintWords Go.Proofs.YtoaimlpbliabdaaW.PrintLast Go.Proofs.YtoaimlpbliabdaaW.PrintMore
set_option linter.unusedVariables false
set_option linter.unusedSimpArgs false

/-- A number put to its place, once. -/
def putL : List Int → Int → List Int
  | [], n => [n]
  | x :: l, n => if x < n then x :: putL l n else if x = n then x :: l else n :: x :: l
theorem putL_mem (n y : Int) : ∀ (l : List Int), y ∈ putL l n ↔ y = n ∨ y ∈ l := by
  intro l
  induction l with
  | nil => simp [putL]
  | cons x l ih =>
    unfold putL
    by_cases h1 : x < n
    · rw [if_pos h1, List.mem_cons, ih, List.mem_cons]
      constructor
      · rintro (h | h | h); exact .inr (.inl h); exact .inl h; exact .inr (.inr h)
      · rintro (h | h | h); exact .inr (.inl h); exact .inl h; exact .inr (.inr h)
    · rw [if_neg h1]
      by_cases h2 : x = n
      · rw [if_pos h2, h2]; simp
      · rw [if_neg h2, List.mem_cons]
theorem putL_sorted (n : Int) : ∀ (l : List Int), l.Pairwise (· < ·) → (putL l n).Pairwise (· < ·) := by
  intro l
  induction l with
  | nil => intro _; simp [putL]
  | cons x l ih =>
    intro h
    obtain ⟨hx, hl⟩ := List.pairwise_cons.1 h
    unfold putL
    by_cases h1 : x < n
    · rw [if_pos h1]
      refine List.pairwise_cons.2 ⟨fun y hy => ?_, ih hl⟩
      rcases (putL_mem n y l).1 hy with rfl | hy
      · exact h1
      · exact hx y hy
    · rw [if_neg h1]
      by_cases h2 : x = n
      · rw [if_pos h2]; exact h
      · rw [if_neg h2]
        refine List.pairwise_cons.2 ⟨fun y hy => ?_, h⟩
        rcases List.mem_cons.1 hy with rfl | hy
        · omega
        · have := hx y hy; omega
theorem putL_len (n : Int) : ∀ (l : List Int), l.Pairwise (· < ·) → (putL l n).length = if n ∈ l then l.length else l.length + 1 := by
  intro l
  induction l with
  | nil => intro _; simp [putL]
  | cons x l ih =>
    intro h
    obtain ⟨hx, hl⟩ := List.pairwise_cons.1 h
    unfold putL
    by_cases h1 : x < n
    · rw [if_pos h1, List.length_cons, ih hl]
      have hne : n ≠ x := by omega
      by_cases hm : n ∈ l
      · rw [if_pos hm, if_pos (List.mem_cons_of_mem _ hm)]; rfl
      · rw [if_neg hm, if_neg (fun hh => (List.mem_cons.1 hh).elim hne hm)]; rfl
    · rw [if_neg h1]
      by_cases h2 : x = n
      · rw [if_pos h2, if_pos (by rw [h2]; exact List.mem_cons_self)]
      · rw [if_neg h2, if_neg (fun hh => ?_)]; rfl
        rcases List.mem_cons.1 hh with rfl | hm
        · exact h2 rfl
        · have := hx n hm; omega
theorem putL_le (n : Int) (l : List Int) : (putL l n).length ≤ l.length + 1 := by
  induction l with
  | nil => simp [putL]
  | cons x l ih =>
    unfold putL
    split
    · simp; omega
    · split <;> simp
theorem putL_at (n : Int) : ∀ (i : Nat) (l : List Int), (∀ j (h : j < l.length), j < i → l[j] < n) → i ≤ l.length → (∀ h : i < l.length, ¬ l[i] < n) →
    putL l n = if ∃ h : i < l.length, l[i] = n then l else l.take i ++ [n] ++ l.drop i := by
  intro i
  induction i with
  | zero =>
    intro l _ _ hi
    cases l with
    | nil => simp [putL]
    | cons x l =>
      have h1 := hi (by simp)
      simp only [List.getElem_cons_zero] at h1
      unfold putL
      rw [if_neg h1]
      by_cases h2 : x = n
      · rw [if_pos h2, if_pos ⟨by simp, by simpa using h2⟩]
      · rw [if_neg h2, if_neg (by rintro ⟨_, h⟩; exact h2 (by simpa using h))]; simp
  | succ i ih =>
    intro l hb hle hi
    cases l with
    | nil => simp at hle
    | cons x l =>
      have hx := hb 0 (by simp) (by omega)
      simp only [List.getElem_cons_zero] at hx
      have := ih l (fun j h hj => by have := hb (j + 1) (by simpa using h) (by omega); simpa using this) (by simpa using hle) (fun h => by have := hi (by simpa using h); simpa using this)
      unfold putL
      rw [if_pos hx, this]
      by_cases hc : ∃ h : i < l.length, l[i] = n
      · rw [if_pos hc, if_pos (by obtain ⟨h, e⟩ := hc; exact ⟨by simpa using h, by simpa using e⟩)]
      · rw [if_neg hc, if_neg (by rintro ⟨h, e⟩; exact hc ⟨by simpa using h, by simpa using e⟩)]; simp
theorem put_l0 (l : List Int) (n : Int) (hn : l.length ≤ 2000000) : ∀ (d i k : Nat), i ≤ l.length → l.length - i = d → d < k → (∀ j (h : j < l.length), j < i → l[j] < n) → spec_l1Put.l0 k l n (i : Int) = some (putL l n) := by
  intro d
  induction d with
  | zero =>
    intro i k hi hd hk hb
    obtain ⟨k, rfl⟩ : ∃ m, k = m + 1 := ⟨k - 1, by omega⟩
    simp only [spec_l1Put.l0, Option.bind_some]
    rw [if_neg (by omega), if_pos (by omega), if_pos (by omega), Int.toNat_natCast, if_pos (by simp; omega), if_pos (by simp; omega), if_pos (by simp; omega)]
    rw [putL_at n i l hb hi (fun h => by omega), if_neg (by rintro ⟨h, _⟩; omega)]
    simp
  | succ d ih =>
    intro i k hi hd hk hb
    obtain ⟨k, rfl⟩ : ∃ m, k = m + 1 := ⟨k - 1, by omega⟩
    have hlt : i < l.length := by omega
    simp only [spec_l1Put.l0, Option.bind_some]
    rw [if_pos (by omega), if_pos (by omega), rd_at hlt]
    by_cases h1 : l[i] < n
    · rw [if_pos h1, wrap_up hlt hn]
      refine ih (i + 1) k (by omega) (by omega) (by omega) (fun j h hj => ?_)
      by_cases e : j = i
      · subst e; exact h1
      · exact hb j h (by omega)
    · rw [if_neg h1]
      by_cases h2 : l[i] = n
      · rw [if_pos h2, putL_at n i l hb hi (fun _ => h1), if_pos ⟨hlt, h2⟩]
      · rw [if_neg h2, if_pos (by omega), Int.toNat_natCast, if_pos (by simp; omega), if_pos (by simp; omega), if_pos (by simp; omega)]
        rw [putL_at n i l hb hi (fun _ => h1), if_neg (by rintro ⟨_, h⟩; exact h2 h)]
        simp
theorem put_f (l : List Int) (n : Int) (hn : l.length ≤ 2000000) {k : Nat} (hk : l.length < k) : spec_l1Put.f k l n = some (putL l n) := put_l0 l n hn l.length 0 k (by omega) (by omega) hk (fun _ _ h => by omega)
/-- All of a row put to their places. -/
def putsL (m : List Int) (l : List Int) : List Int := l.foldl putL m
theorem putsL_append (m a b : List Int) : putsL m (a ++ b) = putsL (putsL m a) b := List.foldl_append
theorem putsL_le : ∀ (l m : List Int), (putsL m l).length ≤ m.length + l.length := by
  intro l
  induction l with
  | nil => intro m; simp [putsL]
  | cons x l ih =>
    intro m
    have h1 := ih (putL m x)
    have h2 := putL_le x m
    show (putsL (putL m x) l).length ≤ _
    simp only [List.length_cons]
    omega
theorem putsL_mem (y : Int) : ∀ (l m : List Int), y ∈ putsL m l ↔ y ∈ m ∨ y ∈ l := by
  intro l
  induction l with
  | nil => intro m; simp [putsL]
  | cons x l ih =>
    intro m
    show y ∈ putsL (putL m x) l ↔ _
    rw [ih, putL_mem, List.mem_cons]
    constructor
    · rintro ((h | h) | h); exact .inr (.inl h); exact .inl h; exact .inr (.inr h)
    · rintro (h | h | h); exact .inl (.inr h); exact .inl (.inl h); exact .inr h
theorem putsL_sorted : ∀ (l m : List Int), m.Pairwise (· < ·) → (putsL m l).Pairwise (· < ·) := by
  intro l
  induction l with
  | nil => intro m h; exact h
  | cons x l ih => intro m h; exact ih (putL m x) (putL_sorted x m h)
theorem putsL_full : ∀ (l m : List Int), m.Pairwise (· < ·) → ((putsL m l).length = m.length + l.length ↔ l.Nodup ∧ ∀ x ∈ l, x ∉ m) := by
  intro l
  induction l with
  | nil => intro m _; simp [putsL]
  | cons x l ih =>
    intro m h
    have hs := putL_sorted x m h
    have hl := putL_len x m h
    have hle := putsL_le l (putL m x)
    have hx := ih (putL m x) hs
    show (putsL (putL m x) l).length = _ ↔ _
    rw [List.nodup_cons]
    by_cases hm : x ∈ m
    · rw [if_pos hm] at hl
      constructor
      · intro e; simp only [List.length_cons] at e; omega
      · rintro ⟨_, h2⟩; exact absurd hm (h2 x List.mem_cons_self)
    · rw [if_neg hm] at hl
      constructor
      · intro e
        simp only [List.length_cons] at e
        obtain ⟨h1, h2⟩ := hx.1 (by omega)
        refine ⟨⟨fun hxl => h2 x hxl ((putL_mem x x m).2 (.inl rfl)), h1⟩, fun y hy => ?_⟩
        rcases List.mem_cons.1 hy with rfl | hy
        · exact hm
        · exact fun hym => h2 y hy ((putL_mem x y m).2 (.inr hym))
      · rintro ⟨⟨h1, h2⟩, h3⟩
        have := hx.2 ⟨h2, fun y hy hym => ((putL_mem x y m).1 hym).elim (fun e => h1 (e ▸ hy)) (h3 y (List.mem_cons_of_mem _ hy))⟩
        simp only [List.length_cons]
        omega
/-- All tasks, in order. -/
def allL (d : List (List Int)) : List Int := putsL [] d.flatten
theorem allL_mem {d : List (List Int)} {y : Int} : y ∈ allL d ↔ y ∈ d.flatten := by unfold allL; rw [putsL_mem]; simp
theorem allL_len {d : List (List Int)} (h : d.flatten.Nodup) : (allL d).length = d.flatten.length := by
  have := (putsL_full d.flatten [] (by simp)).2 ⟨h, by simp⟩
  unfold allL
  simpa using this
theorem allL_le (d : List (List Int)) : (allL d).length ≤ d.flatten.length := by
  have := putsL_le d.flatten []
  unfold allL
  simpa using this

theorem take_flat {d : List (List Int)} {i : Nat} (h : i < d.length) : (d.take (i + 1)).flatten = (d.take i).flatten ++ d[i] := by
  rw [List.take_succ_eq_append_getElem h, List.flatten_append]
  simp
/-- The reference's list of all tasks: the inner loop. -/
theorem all_l1 (d : List (List Int)) (hn : d.length ≤ 2000000) (ht : tl d ≤ 1048576) {i : Nat} (hi : i < d.length) (K : Nat) (hK : tl d ≤ K) (next : ∀ k, K < k → spec_l12All.l0 k (putsL [] (d.take (i + 1)).flatten) d (d.length : Int) ((i + 1 : Nat) : Int) = some (allL d)) :
    ∀ (e j k : Nat), j ≤ d[i].length → d[i].length - j = e → e + K + 1 < k → spec_l12All.l1 k (putsL [] ((d.take i).flatten ++ d[i].take j)) d (d.length : Int) (i : Int) d[i] (d[i].length : Int) (j : Int) = some (allL d) := by
  intro e
  induction e with
  | zero =>
    intro j k hj he hk
    obtain ⟨k, rfl⟩ : ∃ m, k = m + 1 := ⟨k - 1, by omega⟩
    simp only [spec_l12All.l1]
    rw [if_neg (by omega), wrap_up hi hn, show d[i].take j = d[i] from List.take_of_length_le (by omega), ← take_flat hi]
    exact next k (by omega)
  | succ e ih =>
    intro j k hj he hk
    obtain ⟨k, rfl⟩ : ∃ m, k = m + 1 := ⟨k - 1, by omega⟩
    have hlt : j < d[i].length := by omega
    have hrl := len_le_tl (List.getElem_mem hi)
    have hL : ((d.take i).flatten ++ d[i].take j).length ≤ tl d := by
      have h1 := tl_take_le d (i + 1)
      rw [tl_take d hi, tl_flatten (d.take i)] at h1
      rw [List.length_append, List.length_take]
      omega
    have hle := putsL_le ((d.take i).flatten ++ d[i].take j) []
    simp only [List.length_nil, Nat.zero_add] at hle
    simp only [spec_l12All.l1]
    rw [if_pos (by omega), if_pos (by omega), if_pos (by omega), rd_at hlt, put_f _ _ (by omega) (by omega), Option.bind_some, wrap_up hlt (by omega)]
    have e2 : putL (putsL [] ((d.take i).flatten ++ d[i].take j)) d[i][j] = putsL [] ((d.take i).flatten ++ d[i].take (j + 1)) := by
      rw [List.take_succ_eq_append_getElem hlt, ← List.append_assoc, putsL_append _ _ [d[i][j]]]
      rfl
    rw [e2]
    exact ih (j + 1) k (by omega) (by omega) (by omega)
theorem all_l0 (d : List (List Int)) (hn : d.length ≤ 2000000) (ht : tl d ≤ 1048576) : ∀ (m i : Nat), i ≤ d.length → d.length - i = m → ∀ k, m * (tl d + 3) + tl d < k → spec_l12All.l0 k (putsL [] (d.take i).flatten) d (d.length : Int) (i : Int) = some (allL d) := by
  intro m
  induction m with
  | zero =>
    intro i hi hm k hk
    obtain ⟨k, rfl⟩ : ∃ m, k = m + 1 := ⟨k - 1, by omega⟩
    simp only [spec_l12All.l0]
    rw [if_neg (by omega), List.take_of_length_le (by omega)]
    rfl
  | succ m ih =>
    intro i hi hm k hk
    obtain ⟨k, rfl⟩ : ∃ m, k = m + 1 := ⟨k - 1, by omega⟩
    have hlt : i < d.length := by omega
    have hrl := len_le_tl (List.getElem_mem hlt)
    simp only [spec_l12All.l0]
    rw [if_pos (by omega), if_pos (by omega), if_pos (by omega), rdL_at hlt]
    have := all_l1 d hn ht hlt (m * (tl d + 3) + tl d) (by omega) (fun k hk => ih (i + 1) (by omega) (by omega) k hk) d[i].length 0 k (by omega) (by omega) (by rw [Nat.succ_mul] at hk; omega)
    rw [List.take_zero, List.append_nil] at this
    exact this
theorem all_ev {d : List (List Int)} (hn : d.length ≤ 2000000) (ht : tl d ≤ 1048576) : Ev (fun k => spec_l12All.f k d) (allL d) := by
  refine ⟨d.length * (tl d + 3) + tl d + 1, fun k hk => ?_⟩
  exact all_l0 d hn ht d.length 0 (by omega) (by omega) k (by omega)
theorem has_l0 (l : List Int) (hn : l.length ≤ 2000000) (x : Int) : ∀ (d i k : Nat), i ≤ l.length → l.length - i = d → d < k → spec_l1Has.l0 k x l (l.length : Int) (i : Int) = some (decide (x ∈ l.drop i)) := by
  intro d
  induction d with
  | zero =>
    intro i k hi hd hk
    obtain ⟨k, rfl⟩ : ∃ m, k = m + 1 := ⟨k - 1, by omega⟩
    simp only [spec_l1Has.l0]
    rw [if_neg (by omega), List.drop_eq_nil_of_le (by omega)]
    simp
  | succ d ih =>
    intro i k hi hd hk
    obtain ⟨k, rfl⟩ : ∃ m, k = m + 1 := ⟨k - 1, by omega⟩
    have hlt : i < l.length := by omega
    simp only [spec_l1Has.l0]
    rw [if_pos (by omega), if_pos (by omega), if_pos (by omega), rd_at hlt, wrap_up hlt hn, List.drop_eq_getElem_cons hlt]
    by_cases e : l[i] = x
    · rw [if_pos e, decide_eq_true (by rw [← e]; exact List.mem_cons_self)]
    · rw [if_neg e, ih (i + 1) k (by omega) (by omega) (by omega)]
      congr 1
      rw [Bool.eq_iff_iff, decide_eq_true_eq, decide_eq_true_eq, List.mem_cons]
      exact ⟨Or.inr, fun h => h.resolve_left (fun h2 => e h2.symm)⟩
theorem has_ev {l : List Int} (hn : l.length ≤ 2000000) (x : Int) : Ev (fun k => spec_l1Has.f k l x) (decide (x ∈ l)) := by
  refine ⟨l.length + 1, fun k hk => ?_⟩
  have := has_l0 l hn x l.length 0 k (by omega) (by omega) (by omega)
  rw [List.drop_zero] at this
  exact this
theorem l1In_f (a lo hi : Int) : spec_l1In.f a lo hi = some (decide (lo ≤ a) && decide (a ≤ hi)) := by
  unfold spec_l1In.f
  by_cases h : lo ≤ a
  · rw [if_pos (show a ≥ lo from h), decide_eq_true h]; simp
  · rw [if_neg (show ¬ a ≥ lo from h), decide_eq_false h]; simp
theorem within_f (a lo hi : Int) : impl_within.f a lo hi = some (decide (lo ≤ a) && decide (a ≤ hi)) := l1In_f a lo hi
theorem l1All_l0' (l : List Int) (hn : l.length ≤ 2000000) : ∀ (d i k : Nat), i ≤ l.length → l.length - i = d → d < k → spec_l1All.l0 k 0 999 l (l.length : Int) (i : Int) = some ((l.drop i).all inT) := by
  intro d
  induction d with
  | zero =>
    intro i k hi hd hk
    obtain ⟨k, rfl⟩ : ∃ m, k = m + 1 := ⟨k - 1, by omega⟩
    simp only [spec_l1All.l0]
    rw [if_neg (by omega), List.drop_eq_nil_of_le (by omega)]
    simp
  | succ d ih =>
    intro i k hi hd hk
    obtain ⟨k, rfl⟩ : ∃ m, k = m + 1 := ⟨k - 1, by omega⟩
    have hlt : i < l.length := by omega
    simp only [spec_l1All.l0]
    rw [if_pos (by omega), if_pos (by omega), if_pos (by omega), rd_at hlt, l1In_f, wrap_up hlt hn, List.drop_eq_getElem_cons hlt, List.all_cons, Option.bind_some]
    show (if inT l[i] = true then _ else _) = _
    cases hb : inT l[i] with
    | false => simp
    | true => simp only [if_true, Bool.true_and]; exact ih (i + 1) k (by omega) (by omega) (by omega)
theorem own_l0 (d : List (List Int)) (hn : d.length ≤ 2000000) (ht : tl d ≤ 2000000) : ∀ (m i k : Nat) (acc : List (List Int)), i ≤ d.length → d.length - i = m → m < k → acc = d.take i → impl_ownDecks.l0 k acc d (d.length : Int) (i : Int) = some d := by
  intro m
  induction m with
  | zero =>
    intro i k acc hi hd hk ha
    obtain ⟨k, rfl⟩ : ∃ m, k = m + 1 := ⟨k - 1, by omega⟩
    simp only [impl_ownDecks.l0]
    rw [if_neg (by omega), ha, List.take_of_length_le (by omega)]
  | succ m ih =>
    intro i k acc hi hd hk ha
    obtain ⟨k, rfl⟩ : ∃ m, k = m + 1 := ⟨k - 1, by omega⟩
    have hlt : i < d.length := by omega
    have hrl := len_le_tl (List.getElem_mem hlt)
    have hal : acc.length = i := by rw [ha, List.length_take]; omega
    simp only [impl_ownDecks.l0, slices_Clone_int_int.f]
    rw [if_pos (by omega), if_pos (by omega), if_pos (by omega), rdL_at hlt, if_pos (by omega), Option.bind_some, if_pos (by omega), wrap_up hlt hn]
    refine ih (i + 1) k _ (by omega) (by omega) (by omega) ?_
    rw [List.take_succ_eq_append_getElem hlt, ha]
theorem own_ev {d : List (List Int)} (hn : d.length ≤ 2000000) (ht : tl d ≤ 2000000) : Ev (fun k => impl_ownDecks.f k d) d :=
  ⟨d.length + 1, fun k hk => own_l0 d hn ht d.length 0 k [] (by omega) (by omega) (by omega) (by simp)⟩
theorem sown_l0 (d : List (List Int)) (hn : d.length ≤ 2000000) (ht : tl d ≤ 2000000) : ∀ (m i k : Nat) (acc : List (List Int)), i ≤ d.length → d.length - i = m → m < k → acc = d.take i → spec_l12Own.l0 k acc d (d.length : Int) (i : Int) = some d := by
  intro m
  induction m with
  | zero =>
    intro i k acc hi hd hk ha
    obtain ⟨k, rfl⟩ : ∃ m, k = m + 1 := ⟨k - 1, by omega⟩
    simp only [spec_l12Own.l0]
    rw [if_neg (by omega), ha, List.take_of_length_le (by omega)]
  | succ m ih =>
    intro i k acc hi hd hk ha
    obtain ⟨k, rfl⟩ : ∃ m, k = m + 1 := ⟨k - 1, by omega⟩
    have hlt : i < d.length := by omega
    have hrl := len_le_tl (List.getElem_mem hlt)
    have hal : acc.length = i := by rw [ha, List.length_take]; omega
    simp only [spec_l12Own.l0, spec_l1Own.f, Option.bind_some]
    rw [if_pos (by omega), if_pos (by omega), if_pos (by omega), rdL_at hlt, if_pos (by simp; omega), Option.bind_some, if_pos (by omega), wrap_up hlt hn]
    refine ih (i + 1) k _ (by omega) (by omega) (by omega) ?_
    rw [List.take_succ_eq_append_getElem hlt, ha]
    simp
theorem sown_ev {d : List (List Int)} (hn : d.length ≤ 2000000) (ht : tl d ≤ 2000000) : Ev (fun k => spec_l12Own.f k d) d :=
  ⟨d.length + 1, fun k hk => sown_l0 d hn ht d.length 0 k [] (by omega) (by omega) (by omega) (by simp)⟩
/-! ### the reference's look at decks -/
/-- What l12Good says at its end. -/
def endG (d : List (List Int)) (met : List Int) (n : Nat) : Option Bool := (spec_l1In.f (d.length : Int) 1 8).bind fun t => (if t = true then (if (n : Int) ≤ 60 then (some ((met.length : Int) == (n : Int))) else (some false)) else (some false))
theorem sgood_l1 (d : List (List Int)) (hn : d.length ≤ 2000000) (ht : tl d ≤ 1048576) {i : Nat} (hi : i < d.length) (K : Nat) (hK : tl d ≤ K) (R : Option Bool) (next : ∀ k, K < k → spec_l12Good.l0 k d (putsL [] (d.take (i + 1)).flatten) (tl (d.take (i + 1)) : Int) d (d.length : Int) ((i + 1 : Nat) : Int) = R) :
    ∀ (e j k : Nat), j ≤ d[i].length → d[i].length - j = e → e + K + 1 < k → spec_l12Good.l1 k d (putsL [] ((d.take i).flatten ++ d[i].take j)) ((tl (d.take i) + j : Nat) : Int) d (d.length : Int) (i : Int) d[i] (d[i].length : Int) (j : Int) = R := by
  intro e
  induction e with
  | zero =>
    intro j k hj he hk
    obtain ⟨k, rfl⟩ : ∃ m, k = m + 1 := ⟨k - 1, by omega⟩
    simp only [spec_l12Good.l1]
    rw [if_neg (by omega), wrap_up hi hn, show d[i].take j = d[i] from List.take_of_length_le (by omega), ← take_flat hi]
    have := next k (by omega)
    rw [tl_take d hi] at this
    rw [show j = d[i].length by omega]
    exact this
  | succ e ih =>
    intro j k hj he hk
    obtain ⟨k, rfl⟩ : ∃ m, k = m + 1 := ⟨k - 1, by omega⟩
    have hlt : j < d[i].length := by omega
    have hrl := len_le_tl (List.getElem_mem hi)
    have h1 := tl_take_le d (i + 1)
    have h2 := tl_take d hi
    have hL : ((d.take i).flatten ++ d[i].take j).length ≤ tl d := by
      rw [h2, tl_flatten (d.take i)] at h1
      rw [List.length_append, List.length_take]
      omega
    have hle := putsL_le ((d.take i).flatten ++ d[i].take j) []
    simp only [List.length_nil, Nat.zero_add] at hle
    simp only [spec_l12Good.l1]
    rw [if_pos (by omega), if_pos (by omega), if_pos (by omega), rd_at hlt, put_f _ _ (by omega) (by omega), Option.bind_some, wrap_up hlt (by omega), w64 (by omega) (by omega)]
    have e2 : putL (putsL [] ((d.take i).flatten ++ d[i].take j)) d[i][j] = putsL [] ((d.take i).flatten ++ d[i].take (j + 1)) := by
      rw [List.take_succ_eq_append_getElem hlt, ← List.append_assoc, putsL_append _ _ [d[i][j]]]
      rfl
    rw [e2, show ((tl (d.take i) + j : Nat) : Int) + 1 = ((tl (d.take i) + (j + 1) : Nat) : Int) by omega]
    exact ih (j + 1) k (by omega) (by omega) (by omega)
theorem sgood_l0 (d : List (List Int)) (hn : d.length ≤ 2000000) (ht : tl d ≤ 1048576) : ∀ (m i : Nat), i ≤ d.length → d.length - i = m → ∀ k, m * (tl d + 3) + tl d + 1 < k →
    spec_l12Good.l0 k d (putsL [] (d.take i).flatten) (tl (d.take i) : Int) d (d.length : Int) (i : Int) = if (d.drop i).all (fun r => r.all inT) then endG d (allL d) (tl d) else some false := by
  intro m
  induction m with
  | zero =>
    intro i hi hm k hk
    obtain ⟨k, rfl⟩ : ∃ m, k = m + 1 := ⟨k - 1, by omega⟩
    simp only [spec_l12Good.l0]
    rw [if_neg (by omega), List.take_of_length_le (by omega), List.drop_eq_nil_of_le (by omega)]
    rfl
  | succ m ih =>
    intro i hi hm k hk
    obtain ⟨k, rfl⟩ : ∃ m, k = m + 1 := ⟨k - 1, by omega⟩
    have hlt : i < d.length := by omega
    have hrl := len_le_tl (List.getElem_mem hlt)
    have hall : spec_l1All.f k d[i] 0 999 = some (d[i].all inT) := by
      have := l1All_l0' d[i] (by omega) d[i].length 0 k (by omega) (by omega) (by rw [Nat.succ_mul] at hk; omega)
      rw [List.drop_zero] at this
      exact this
    simp only [spec_l12Good.l0]
    rw [if_pos (by omega), if_pos (by omega), if_pos (by omega), rdL_at hlt, hall, Option.bind_some, List.drop_eq_getElem_cons hlt, List.all_cons]
    cases hb : d[i].all inT with
    | false => simp
    | true =>
      simp only [if_true, Bool.true_and]
      have := sgood_l1 d hn ht hlt (m * (tl d + 3) + tl d + 1) (by omega) _ (fun k hk => ih (i + 1) (by omega) (by omega) k hk) d[i].length 0 k (by omega) (by omega) (by rw [Nat.succ_mul] at hk; omega)
      rw [List.take_zero, List.append_nil] at this
      exact this
theorem all_inT {d : List (List Int)} : (d.all (fun r => r.all inT)) = true ↔ ∀ x ∈ d.flatten, 0 ≤ x ∧ x ≤ 999 := by
  simp only [List.all_eq_true, inT, Bool.and_eq_true, decide_eq_true_eq, List.mem_flatten]
  constructor
  · rintro h x ⟨r, hr, hx⟩; exact h r hr x hx
  · intro h r hr x hx; exact h x ⟨r, hr, hx⟩
theorem sgood_ev {d : List (List Int)} (hn : d.length ≤ 2000000) (ht : tl d ≤ 1048576) : Ev (fun k => spec_l12Good.f k d) (goodB d) := by
  have key : (if d.all (fun r => r.all inT) then endG d (allL d) (tl d) else some false) = some (goodB d) := by
    by_cases ha : d.all (fun r => r.all inT) = true
    · rw [if_pos ha]
      unfold endG
      rw [l1In_f, Option.bind_some]
      have hA := all_inT.1 ha
      by_cases h1 : 1 ≤ d.length ∧ d.length ≤ 8
      · rw [decide_eq_true (show (1 : Int) ≤ (d.length : Int) by omega), decide_eq_true (show (d.length : Int) ≤ 8 by omega)]
        simp only [Bool.and_self, if_true]
        by_cases h2 : tl d ≤ 60
        · rw [if_pos (by omega)]
          congr 1
          rw [Bool.eq_iff_iff, goodB_iff, beq_iff_eq]
          have hf := putsL_full d.flatten [] (by simp)
          unfold GoodD allL
          rw [← tl_flatten] at hf ⊢
          simp only [List.length_nil, Nat.zero_add, List.not_mem_nil, not_false_eq_true, implies_true, and_true] at hf
          constructor
          · intro e; exact ⟨h1.1, h1.2, h2, hA, hf.1 (by omega)⟩
          · rintro ⟨_, _, _, _, hN⟩; have := hf.2 hN; omega
        · rw [if_neg (by omega)]
          congr 1
          symm
          rw [Bool.eq_false_iff, Ne, goodB_iff]
          intro h
          have := h.2.2.1
          rw [← tl_flatten] at this
          omega
      · have e : (decide ((1 : Int) ≤ (d.length : Int)) && decide ((d.length : Int) ≤ 8)) = false := by
          rw [Bool.eq_false_iff]; intro h; simp only [Bool.and_eq_true, decide_eq_true_eq] at h; exact h1 ⟨by omega, by omega⟩
        rw [e]
        simp only [Bool.false_eq_true, if_false]
        congr 1
        symm
        rw [Bool.eq_false_iff, Ne, goodB_iff]
        exact fun h => h1 ⟨h.1, h.2.1⟩
    · rw [if_neg ha]
      congr 1
      symm
      rw [Bool.eq_false_iff, Ne, goodB_iff]
      exact fun h => ha (all_inT.2 h.2.2.2.1)
  refine ⟨d.length * (tl d + 3) + tl d + 2, fun k hk => ?_⟩
  have := sgood_l0 d hn ht d.length 0 (by omega) (by omega) k (by omega)
  rw [List.drop_zero, key] at this
  exact this

/-! ### what PushTo and PopFrom leave -/
open Classical in
noncomputable def PushRes (d : List (List Int)) (i t : Int) : List (List Int) × Bool :=
  if goodB d = true ∧ 0 ≤ i ∧ i < (d.length : Int) ∧ 0 ≤ t ∧ t ≤ 999 ∧ t ∉ d.flatten ∧ d.flatten.length < 60 then (d.set i.toNat (d.getD i.toNat [] ++ [t]), true) else ([], false)
theorem flat_set (d : List (List Int)) (i : Nat) (h : i < d.length) (r : List Int) : (d.set i (d.getD i [] ++ r)).flatten.Perm (r ++ d.flatten) := by
  induction d generalizing i with
  | nil => simp at h
  | cons x d ih =>
    cases i with
    | zero =>
      simp only [List.set_cons_zero, List.getD_cons_zero, List.flatten_cons]
      exact (List.perm_append_comm.append_right d.flatten).trans (by rw [List.append_assoc])
    | succ i =>
      simp only [List.set_cons_succ, List.getD_cons_succ, List.flatten_cons]
      refine ((ih i (by simpa using h)).append_left x).trans ?_
      rw [← List.append_assoc, ← List.append_assoc]
      exact List.perm_append_comm.append_right _
theorem good_push {d : List (List Int)} {i : Nat} {t : Int} (hd : goodB d = true) (hi : i < d.length) (h0 : 0 ≤ t) (h1 : t ≤ 999) : goodB (d.set i (d.getD i [] ++ [t])) = true ↔ t ∉ d.flatten ∧ d.flatten.length < 60 := by
  rw [goodB_iff] at hd ⊢
  have hp := flat_set d i hi [t]
  unfold GoodD
  rw [List.length_set, hp.length_eq, hp.nodup_iff]
  simp only [List.singleton_append, List.length_cons, List.nodup_cons]
  constructor
  · rintro ⟨_, _, hl, _, hN, _⟩; exact ⟨hN, by omega⟩
  · rintro ⟨hN, hl⟩
    refine ⟨hd.1, hd.2.1, by omega, fun x hx => ?_, hN, hd.2.2.2.2⟩
    have := hp.mem_iff.1 hx
    simp only [List.singleton_append, List.mem_cons] at this
    rcases this with rfl | h
    · exact ⟨h0, h1⟩
    · exact hd.2.2.2.1 x h
end Go.Proofs.Ytoaimlpbliabdaa.DFnExactPushTo
