/- The draws' cursor in one form, and the drawn decks. No conditions but those of each lemma. -/
import Derived.Test.YtoaimlpbliabdaaDkP
import Derived.Test.YtoaimlpbliabdaaDkD
import Derived.Test.YtoaimlpbliabdaaDkE
import Derived.WalkSmall
namespace Go.Proofs.Ytoaimlpbliabdaa.DFnExactPushTo
open Go.RowKit Go.Proofs.YtoaimlpbliabdaaW.PrintWords Go.Proofs.YtoaimlpbliabdaaW.PrintLast Go.Proofs.YtoaimlpbliabdaaW.PrintMore
set_option linter.unusedVariables false
set_option linter.unusedSimpArgs false

theorem and255 (E : Int) (h0 : 0 ≤ E) (h1 : E ≤ 18446744073709551615) : 0 ≤ Go.bits .and .u64 E 255 ∧ Go.bits .and .u64 E 255 ≤ 255 := by
  have h := bits_and_u64_nat E.toNat 255 (by omega) (by omega)
  rw [Int.toNat_of_nonneg h0] at h
  have h2 : Go.bits .and .u64 E 255 = ((E.toNat &&& 255 : Nat) : Int) := h
  rw [h2]
  have := Nat.and_le_right (n := E.toNat) (m := 255)
  omega
theorem u64w (x : Int) : 0 ≤ IntKind.u64.wrap x ∧ IntKind.u64.wrap x ≤ 18446744073709551615 := by
  rw [IntKind.wrap_u64]; omega
theorem next_tot (l : List Int) (hl : ∀ x ∈ l, 0 ≤ x ∧ x ≤ 255) (a s : Int) (h0 : 0 ≤ a) (h1 : a ≤ 1000000000000) : ∃ r s', spec_l1Cur_next.f l a s = some (r, a + 1, s') ∧ 0 ≤ r ∧ r ≤ 255 := by
  have hw : wrap64 (a + 1) = a + 1 := w64 (by omega) (by omega)
  have hb : ∀ X : Int, 0 ≤ wrap64 (Go.bits .and .u64 ((IntKind.u64.wrap X) / 1099511627776) 255) ∧ wrap64 (Go.bits .and .u64 ((IntKind.u64.wrap X) / 1099511627776) 255) ≤ 255 := by
    intro X
    have h := u64w X
    have h3 := and255 ((IntKind.u64.wrap X) / 1099511627776) (by omega) (by omega)
    rw [w64 (by omega) (by omega)]
    exact h3
  unfold spec_l1Cur_next.f
  rw [hw]
  by_cases c1 : a < (l.length : Int)
  · rw [if_pos c1, if_pos h0]
    have hi : a.toNat < l.length := by omega
    have hx : 0 ≤ rd l a ∧ rd l a ≤ 255 := by
      unfold rd
      rw [List.getD_eq_getElem?_getD, List.getElem?_eq_getElem hi]
      exact hl _ (List.getElem_mem hi)
    have hwx : wrap64 (rd l a) = rd l a := w64 (by omega) (by omega)
    by_cases c2 : a + 1 ≤ (l.length : Int)
    · rw [if_pos c2, hwx]; exact ⟨_, _, rfl, hx⟩
    · rw [if_neg c2]; exact ⟨_, _, rfl, hb _⟩
  · rw [if_neg c1]
    by_cases c2 : a + 1 ≤ (l.length : Int)
    · rw [if_pos c2]; exact ⟨_, _, rfl, by omega, by omega⟩
    · rw [if_neg c2]; exact ⟨_, _, rfl, hb _⟩
/-- The cursor stands at block g, no further than K. -/
def CurAt (w0 w : World) (g : Nat) (l : List Int) (K : Int) : Prop := ∃ a s, IsS103 w0 w g l a s ∧ 0 ≤ a ∧ a ≤ K
theorem CurAt.mono {w0 w : World} {g : Nat} {l : List Int} {K K' : Int} (h : CurAt w0 w g l K) (hk : K ≤ K') : CurAt w0 w g l K' := by obtain ⟨a, s, h1, h2, h3⟩ := h; exact ⟨a, s, h1, h2, by omega⟩
theorem CurAt.below {w0 w w1 : World} {g : Nat} {l : List Int} {K : Int} (h : CurAt w0 w g l K) (hb : Below w.heap.size w w1) : CurAt w0 w1 g l K := by obtain ⟨a, s, h1, h2, h3⟩ := h; exact ⟨a, s, h1.below hb, h2, h3⟩
theorem CurAt.grown {w0 w w1 : World} {g : Nat} {l : List Int} {K : Int} {row : Option Nat} (h : CurAt w0 w g l K) (hb : w.grownBy w1 row) (hn : some g ≠ row) : CurAt w0 w1 g l K := by obtain ⟨a, s, h1, h2, h3⟩ := h; exact ⟨a, s, h1.grown hb hn, h2, h3⟩
theorem CurAt.far {w0 w : World} {g : Nat} {l : List Int} {K : Int} {p : Addr} (h : CurAt w0 w g l K) (hn : g ≠ p.block) (u : Value) : CurAt w0 (w.setCell p u) g l K := by obtain ⟨a, s, h1, h2, h3⟩ := h; exact ⟨a, s, h1.far hn u, h2, h3⟩
theorem CurAt.lt {w0 w : World} {g : Nat} {l : List Int} {K : Int} (h : CurAt w0 w g l K) : g < w.heap.size := by obtain ⟨a, s, h1, h2, h3⟩ := h; exact h1.lt
theorem CurAt.ge {w0 w : World} {g : Nat} {l : List Int} {K : Int} (h : CurAt w0 w g l K) : w0.heap.size ≤ g := by obtain ⟨a, s, h1, h2, h3⟩ := h; exact h1.ge
theorem CurAt.apartS {w0 w : World} {g : Nat} {l : List Int} {K : Int} {base : Nat} {ok : Nat → Prop} {v : Value} {xs : List (List Int)} (h : CurAt w0 w g l K) (ho : Kd.S (Kd.slice 3 (Kd.int .i64)) 32 w base ok v xs) : Kd.S (Kd.slice 3 (Kd.int .i64)) 32 w base (fun k => ok k ∧ k ≠ g) v xs := by
  obtain ⟨a, s, h1, h2, h3⟩ := h
  exact h1.apartS ho (by decide)
/-- A pick: what comes is less than the bound. -/
def PickOut (w0 w : World) (g : Nat) (l : List Int) (K n : Int) (e : Ending) (w' : World) : Prop := ∃ r : Int, e = .returned (.int .i64 r) ∧ 0 ≤ r ∧ r < n ∧ CurAt w0 w' g l K ∧ Below w0.heap.size w0 w' ∧ KeepBut w w' g none
theorem pick_c {w0 w : World} {g : Nat} {l : List Int} {K : Int} (hI : CurAt w0 w g l K) (hB : Below w0.heap.size w0 w) (hl : ∀ x ∈ l, 0 ≤ x ∧ x ≤ 255) (hK : K ≤ 100000000000) (n : Int) (h1 : 1 ≤ n) (h2 : n ≤ 200) :
    Calls Try.prog 100 #[.pointer (some ⟨g, 0, none⟩), .int .i64 n] w (PickOut w0 w g l (K + 1) n) := by
  obtain ⟨a, s, hS, ha, hk⟩ := hI
  by_cases hn : n ≤ 1
  · have hf : spec_l1Cur_pick.f l a s n = some (0, a, s) := by unfold spec_l1Cur_pick.f; rw [if_pos hn]
    refine (spec_l1Cur_pick.calls g l a s n _ _ _ w0 w hS hB hf).mono ?_
    rintro e w' ⟨rfl, hI, hb, hkk⟩
    exact ⟨0, rfl, by omega, by omega, ⟨a, s, hI, ha, by omega⟩, hb, hkk⟩
  · obtain ⟨r, s', hf1, hr0, hr1⟩ := next_tot l hl a s ha (by omega)
    have hf : spec_l1Cur_pick.f l a s n = some (Int.tmod r n, a + 1, s') := by
      unfold spec_l1Cur_pick.f
      rw [if_neg hn, hf1]
      simp only [Option.bind_some]
      rw [if_neg (by omega), if_neg (by omega)]
    refine (spec_l1Cur_pick.calls g l a s n _ _ _ w0 w hS hB hf).mono ?_
    rintro e w' ⟨rfl, hI, hb, hkk⟩
    exact ⟨_, rfl, Int.tmod_nonneg _ hr0, by rw [Int.tmod_eq_emod_of_nonneg hr0]; exact Int.emod_lt_of_pos _ (by omega), ⟨a + 1, s', hI, by omega, by omega⟩, hb, hkk⟩
end Go.Proofs.Ytoaimlpbliabdaa.DFnExactPushTo
