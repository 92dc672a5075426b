/- The decks as lists: what the helpers and both sides' looks at decks come to. No program in sight but the printed functions; no conditions but those of each lemma. -/
import Derived.Test.YtoaimlpbliabdaaDFnExactPushTox1
import Derived.Test.YtoaimlpbliabdaaDFnExactPushTox2
import Derived.Test.YtoaimlpbliabdaaDFnExactPushTox3
import Derived.Test.YtoaimlpbliabdaaDFnExactPushTox5
namespace Go.Proofs.Ytoaimlpbliabdaa.DFnExactPushTo
open Go.RowKit Go.Proofs.YtoaimlpbliabdaaW.PrintWords Go.Proofs.YtoaimlpbliabdaaW.PrintLast Go.Proofs.YtoaimlpbliabdaaW.PrintMore
set_option linter.unusedVariables false
set_option linter.unusedSimpArgs false

theorem wrap_up {i : Nat} {n : Nat} (h : i < n) (hn : n ≤ 2000000) : wrap64 ((i : Int) + 1) = ((i + 1 : Nat) : Int) := by
  unfold wrap64
  omega
theorem rd_at {l : List Int} {i : Nat} (h : i < l.length) : rd l (i : Int) = l[i] := by
  simp [rd, h]
theorem w64 {x : Int} (h1 : -4000000000000 ≤ x) (h2 : x ≤ 4000000000000) : wrap64 x = x := by unfold wrap64; omega
theorem toIntS_l0 (l : List Int) (hn : l.length ≤ 2000000) : ∀ (d i k : Nat) (acc : List Int), i ≤ l.length → l.length - i = d → d < k → acc.length = l.length → acc.take i = l.take i → laws_toIntS.l0 k l acc (i : Int) = some l := by
  intro d
  induction d with
  | zero =>
    intro i k acc hi hd hk ha he
    obtain ⟨k, rfl⟩ : ∃ m, k = m + 1 := ⟨k - 1, by omega⟩
    simp only [laws_toIntS.l0]
    rw [if_neg (by omega)]
    rw [List.take_of_length_le (by omega), List.take_of_length_le (by omega)] at he
    rw [he]
  | succ d ih =>
    intro i k acc hi hd hk ha he
    obtain ⟨k, rfl⟩ : ∃ m, k = m + 1 := ⟨k - 1, by omega⟩
    have hlt : i < l.length := by omega
    simp only [laws_toIntS.l0]
    rw [if_pos (by omega), if_pos (by omega), if_pos (by omega), rd_at hlt, wrap_up hlt hn, Int.toNat_natCast]
    refine ih (i + 1) k _ (by omega) (by omega) (by omega) (by simpa using ha) ?_
    rw [List.take_succ_eq_append_getElem (by simpa [ha] using hlt), List.take_succ_eq_append_getElem hlt, List.getElem_set_self, List.take_set_of_le (Nat.le_refl _), he]
theorem toIntS_ev {l : List Int} (h : l.length ≤ 1048576) : Ev (fun k => laws_toIntS.f k l) l := by
  refine ⟨l.length + 1, fun k hk => ?_⟩
  show laws_toIntS.f k l = some l
  unfold laws_toIntS.f
  rw [if_pos (by omega), if_pos (by omega)]
  exact toIntS_l0 l (by omega) l.length 0 k _ (by omega) (by omega) (by omega) (by simp) (by simp)
theorem eqIntS_l0 (l : List Int) (hn : l.length ≤ 2000000) : ∀ (d i k : Nat), i ≤ l.length → l.length - i = d → d < k → laws_eqIntS.l0 k l l (i : Int) = some true := by
  intro d
  induction d with
  | zero =>
    intro i k hi hd hk
    obtain ⟨k, rfl⟩ : ∃ m, k = m + 1 := ⟨k - 1, by omega⟩
    simp only [laws_eqIntS.l0]
    rw [if_neg (by omega)]
  | succ d ih =>
    intro i k hi hd hk
    obtain ⟨k, rfl⟩ : ∃ m, k = m + 1 := ⟨k - 1, by omega⟩
    have hlt : i < l.length := by omega
    simp only [laws_eqIntS.l0]
    rw [if_pos (by omega), if_pos (by omega), if_pos (by omega), if_pos trivial, wrap_up hlt hn]
    exact ih (i + 1) k (by omega) (by omega) (by omega)
theorem eqIntS_ev {l : List Int} (h : l.length ≤ 1048576) : Ev (fun k => laws_eqIntS.f k l l) true := by
  refine ⟨l.length + 1, fun k hk => ?_⟩
  show laws_eqIntS.f k l l = some true
  unfold laws_eqIntS.f
  rw [if_pos rfl]
  exact eqIntS_l0 l (by omega) l.length 0 k (by omega) (by omega) (by omega)
/-- The numbers from a on. -/
def marks (a : Int) (n : Nat) : List Int := (List.range n).map fun (i : Nat) => a + (i : Int)
theorem marks_len (a : Int) (n : Nat) : (marks a n).length = n := by simp [marks]
theorem marks_get (a : Int) {n i : Nat} (h : i < (marks a n).length) : (marks a n)[i] = a + (i : Int) := by simp [marks]
theorem marks_take (a : Int) {n i : Nat} (h : i < n) : (marks a n).take (i + 1) = (marks a n).take i ++ [a + (i : Int)] := by
  rw [List.take_succ_eq_append_getElem (by rw [marks_len]; exact h), marks_get]
theorem markIntS_l0 (n : Nat) (hn : n ≤ 2000000) (a : Int) (h0 : 0 ≤ a) (h1 : a ≤ 1000000000000) : ∀ (d i k : Nat) (acc : List Int), i ≤ n → n - i = d → d < k → acc.length = n → acc.take i = (marks a n).take i → laws_markIntS.l0 k acc (a + (i : Int)) (i : Int) = some (a + (n : Int), marks a n) := by
  intro d
  induction d with
  | zero =>
    intro i k acc hi hd hk ha he
    obtain ⟨k, rfl⟩ : ∃ m, k = m + 1 := ⟨k - 1, by omega⟩
    simp only [laws_markIntS.l0]
    rw [if_neg (by omega)]
    rw [List.take_of_length_le (by omega), List.take_of_length_le (by rw [marks_len]; omega)] at he
    rw [he, show i = n by omega]
  | succ d ih =>
    intro i k acc hi hd hk ha he
    obtain ⟨k, rfl⟩ : ∃ m, k = m + 1 := ⟨k - 1, by omega⟩
    have hlt : i < n := by omega
    simp only [laws_markIntS.l0]
    rw [if_pos (by omega), if_pos (by omega), wrap_up hlt hn, Int.toNat_natCast, w64 (by omega) (by omega)]
    rw [show a + (i : Int) + 1 = a + ((i + 1 : Nat) : Int) by omega]
    refine ih (i + 1) k _ (by omega) (by omega) (by omega) (by simpa using ha) ?_
    rw [List.take_succ_eq_append_getElem (by simpa [ha] using hlt), marks_take a hlt, List.getElem_set_self, List.take_set_of_le (Nat.le_refl _), he]
theorem markIntS_ev {l : List Int} (h : l.length ≤ 2000000) {a : Int} (h0 : 0 ≤ a) (h1 : a ≤ 1000000000000) : Ev (fun k => laws_markIntS.f k l a) (a + (l.length : Int), marks a l.length) := by
  refine ⟨l.length + 1, fun k hk => ?_⟩
  show laws_markIntS.f k l a = some (a + (l.length : Int), marks a l.length)
  unfold laws_markIntS.f
  have := markIntS_l0 l.length h a h0 h1 l.length 0 k l (by omega) (by omega) (by omega) rfl (by simp)
  simpa using this
theorem heldIntS_l0 (n : Nat) (hn : n ≤ 2000000) (a : Int) (h0 : 0 ≤ a) (h1 : a ≤ 1000000000000) : ∀ (d i k : Nat), i ≤ n → n - i = d → d < k → laws_heldIntS.l0 k (marks a n) (a + (i : Int)) (i : Int) = some (a + (n : Int)) := by
  intro d
  induction d with
  | zero =>
    intro i k hi hd hk
    obtain ⟨k, rfl⟩ : ∃ m, k = m + 1 := ⟨k - 1, by omega⟩
    simp only [laws_heldIntS.l0]
    rw [if_neg (by rw [marks_len]; omega), show i = n by omega]
  | succ d ih =>
    intro i k hi hd hk
    obtain ⟨k, rfl⟩ : ∃ m, k = m + 1 := ⟨k - 1, by omega⟩
    have hlt : i < n := by omega
    have hla : i < (marks a n).length := by rw [marks_len]; exact hlt
    simp only [laws_heldIntS.l0]
    rw [rd_at hla, marks_get, if_pos (by omega), if_pos (by omega), if_pos rfl, wrap_up hlt hn, w64 (by omega) (by omega)]
    rw [show a + (i : Int) + 1 = a + ((i + 1 : Nat) : Int) by omega]
    exact ih (i + 1) k (by omega) (by omega) (by omega)
theorem heldIntS_ev {n : Nat} (h : n ≤ 2000000) {a : Int} (h0 : 0 ≤ a) (h1 : a ≤ 1000000000000) : Ev (fun k => laws_heldIntS.f k (marks a n) a) (a + (n : Int)) := by
  refine ⟨n + 1, fun k hk => ?_⟩
  show laws_heldIntS.f k (marks a n) a = some (a + (n : Int))
  unfold laws_heldIntS.f
  have := heldIntS_l0 n h a h0 h1 n 0 k (by omega) (by omega) (by omega)
  simpa using this
/-- How many numbers lie in rows. -/
def tl (l : List (List Int)) : Nat := (l.map List.length).sum
def marksSS (a : Int) : List (List Int) → List (List Int)
  | [] => []
  | r :: l => marks a r.length :: marksSS (a + (r.length : Int)) l
theorem tl_cons (r : List Int) (l : List (List Int)) : tl (r :: l) = r.length + tl l := by simp [tl]
theorem tl_append (l m : List (List Int)) : tl (l ++ m) = tl l + tl m := by simp [tl]
theorem tl_take_le (l : List (List Int)) (i : Nat) : tl (l.take i) ≤ tl l := by
  have := tl_append (l.take i) (l.drop i)
  rw [List.take_append_drop] at this
  omega
theorem tl_take (l : List (List Int)) {i : Nat} (h : i < l.length) : tl (l.take (i + 1)) = tl (l.take i) + l[i].length := by
  rw [List.take_succ_eq_append_getElem h, tl_append, tl_cons]
  simp [tl]
theorem len_le_tl {l : List (List Int)} {r : List Int} (h : r ∈ l) : r.length ≤ tl l := by
  induction l with
  | nil => cases h
  | cons x l ih =>
    rw [tl_cons]
    rcases List.mem_cons.1 h with rfl | h
    · omega
    · have := ih h; omega
theorem marksSS_len : ∀ (l : List (List Int)) (a : Int), (marksSS a l).length = l.length := by
  intro l
  induction l with
  | nil => intro a; rfl
  | cons r l ih => intro a; simp [marksSS, ih]
theorem marksSS_append : ∀ (l m : List (List Int)) (a : Int), marksSS a (l ++ m) = marksSS a l ++ marksSS (a + (tl l : Int)) m := by
  intro l
  induction l with
  | nil => intro m a; simp [marksSS, tl]
  | cons r l ih =>
    intro m a
    simp only [List.cons_append, marksSS, ih, tl_cons]
    rw [show a + (r.length : Int) + (tl l : Int) = a + ((r.length + tl l : Nat) : Int) by omega]
theorem marksSS_tl : ∀ (l : List (List Int)) (a : Int), tl (marksSS a l) = tl l := by
  intro l
  induction l with
  | nil => intro a; rfl
  | cons r l ih => intro a; simp only [marksSS, tl_cons, ih, marks_len]
def midSS (a : Int) (l : List (List Int)) (i : Nat) : List (List Int) := marksSS a (l.take i) ++ l.drop i
theorem midSS_len (a : Int) (l : List (List Int)) {i : Nat} (h : i ≤ l.length) : (midSS a l i).length = l.length := by
  unfold midSS
  rw [List.length_append, marksSS_len, List.length_take, List.length_drop]; omega
theorem midSS_get (a : Int) (l : List (List Int)) {i : Nat} (h : i < l.length) : (midSS a l i).getD i [] = l[i] := by
  unfold midSS
  rw [List.getD_eq_getElem?_getD, List.getElem?_append_right (by rw [marksSS_len, List.length_take]; omega), marksSS_len, List.length_take, List.getElem?_drop, List.getElem?_eq_getElem (by omega)]
  simp only [Option.getD_some]
  congr 1
  omega
theorem midSS_set (a : Int) (l : List (List Int)) {i : Nat} (h : i < l.length) : (midSS a l i).set i (marks (a + (tl (l.take i) : Int)) l[i].length) = midSS a l (i + 1) := by
  unfold midSS
  rw [List.take_succ_eq_append_getElem h, marksSS_append, List.drop_eq_getElem_cons h]
  rw [List.set_append_right _ _ (by rw [marksSS_len, List.length_take]; omega), marksSS_len, List.length_take, show i - min i l.length = 0 by omega, List.set_cons_zero]
  simp [marksSS]
theorem rdL_at {l : List (List Int)} {i : Nat} (h : i < l.length) : rd_L1 l (i : Int) = l[i] := by
  unfold rd_L1
  rw [Int.toNat_natCast, List.getD_eq_getElem?_getD, List.getElem?_eq_getElem h]; rfl
theorem eqIntSS_l0 (l : List (List Int)) (hn : l.length ≤ 2000000) (ht : tl l ≤ 1048576) : ∀ (d i k : Nat), i ≤ l.length → l.length - i = d → d + tl l + 1 < k → laws_eqIntSS.l0 k l l (i : Int) = some true := by
  intro d
  induction d with
  | zero =>
    intro i k hi hd hk
    obtain ⟨k, rfl⟩ : ∃ m, k = m + 1 := ⟨k - 1, by omega⟩
    simp only [laws_eqIntSS.l0]
    rw [if_neg (by omega)]
  | succ d ih =>
    intro i k hi hd hk
    obtain ⟨k, rfl⟩ : ∃ m, k = m + 1 := ⟨k - 1, by omega⟩
    have hlt : i < l.length := by omega
    have hr := len_le_tl (List.getElem_mem hlt)
    have he : laws_eqIntS.f k l[i] l[i] = some true := by
      unfold laws_eqIntS.f
      rw [if_pos rfl]
      exact eqIntS_l0 l[i] (by omega) l[i].length 0 k (by omega) (by omega) (by omega)
    simp only [laws_eqIntSS.l0]
    rw [if_pos (by omega), if_pos (by omega), if_pos (by omega), rdL_at hlt, he, wrap_up hlt hn]
    simp only [Option.bind_some, if_true]
    exact ih (i + 1) k (by omega) (by omega) (by omega)
theorem eqIntSS_ev {l : List (List Int)} (h : l.length ≤ 1048576) (ht : tl l ≤ 1048576) : Ev (fun k => laws_eqIntSS.f k l l) true := by
  refine ⟨l.length + tl l + 3, fun k hk => ?_⟩
  show laws_eqIntSS.f k l l = some true
  unfold laws_eqIntSS.f
  rw [if_pos rfl]
  exact eqIntSS_l0 l (by omega) ht l.length 0 k (by omega) (by omega) (by omega)
theorem heldIntSS_tail : ∀ (l pre : List (List Int)) (a : Int) (k : Nat), 0 ≤ a → a + (tl l : Int) ≤ 200000000000 → pre.length + l.length ≤ 2000000 → tl l ≤ 2000000 → l.length + tl l + 1 < k → laws_heldIntSS.l0 k (pre ++ marksSS a l) a (pre.length : Int) = some (a + (tl l : Int)) := by
  intro l
  induction l with
  | nil =>
    intro pre a k h0 h1 hn ht hk
    obtain ⟨k, rfl⟩ : ∃ m, k = m + 1 := ⟨k - 1, by omega⟩
    simp only [laws_heldIntSS.l0, marksSS, List.append_nil]
    rw [if_neg (by omega)]
    simp [tl]
  | cons r l ih =>
    intro pre a k h0 h1 hn ht hk
    obtain ⟨k, rfl⟩ : ∃ m, k = m + 1 := ⟨k - 1, by omega⟩
    rw [tl_cons] at h1 ht hk ⊢
    simp only [List.length_cons] at hn hk
    have hlen : (pre ++ marksSS a (r :: l)).length = pre.length + (l.length + 1) := by rw [List.length_append, marksSS_len]; simp
    have hlt : pre.length < (pre ++ marksSS a (r :: l)).length := by omega
    have hrd : rd_L1 (pre ++ marksSS a (r :: l)) (pre.length : Int) = marks a r.length := by
      rw [rdL_at hlt, List.getElem_append_right (Nat.le_refl _)]
      simp [marksSS]
    have hh : laws_heldIntS.f k (marks a r.length) a = some (a + (r.length : Int)) := by
      unfold laws_heldIntS.f
      have := heldIntS_l0 r.length (by omega) a h0 (by omega) r.length 0 k (by omega) (by omega) (by omega)
      simpa using this
    simp only [laws_heldIntSS.l0]
    rw [if_pos (by omega), if_pos (by omega), hrd, hh, wrap_up hlt (by omega)]
    simp only [Option.bind_some]
    rw [if_neg (by omega)]
    have := ih (pre ++ [marks a r.length]) (a + (r.length : Int)) k (by omega) (by omega) (by simp; omega) (by omega) (by omega)
    simp only [marksSS]
    rw [List.append_assoc, List.length_append] at this
    simp only [List.singleton_append, List.length_singleton] at this
    rw [this]
    congr 1
    omega
theorem heldIntSS_ev {l : List (List Int)} (h : l.length ≤ 2000000) (ht : tl l ≤ 2000000) {a : Int} (h0 : 0 ≤ a) (h1 : a ≤ 100000000000) : Ev (fun k => laws_heldIntSS.f k (marksSS a l) a) (a + (tl l : Int)) := by
  refine ⟨l.length + tl l + 2, fun k hk => ?_⟩
  show laws_heldIntSS.f k (marksSS a l) a = some (a + (tl l : Int))
  unfold laws_heldIntSS.f
  exact heldIntSS_tail l [] a k h0 (by omega) (by simpa using h) ht (by omega)
theorem tl_flatten (l : List (List Int)) : tl l = l.flatten.length := by
  unfold tl
  rw [List.length_flatten]
end Go.Proofs.Ytoaimlpbliabdaa.DFnExactPushTo
