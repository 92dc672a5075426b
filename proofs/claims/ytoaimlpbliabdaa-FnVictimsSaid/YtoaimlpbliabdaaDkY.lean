/- The victims' functions in one form. No conditions but those of each lemma. -/
import Derived.Test.YtoaimlpbliabdaaDuV
import Derived.Test.YtoaimlpbliabdaaDkG
import Derived.Test.YtoaimlpbliabdaaDkT
namespace Go.Proofs.Ytoaimlpbliabdaa.DFnExactPushTo
open Go.RowKit Go.Proofs.YtoaimlpbliabdaaW.PrintWords Go.Proofs.YtoaimlpbliabdaaW.PrintLast Go.Proofs.YtoaimlpbliabdaaW.PrintMore
attribute [local go_sem] max2_int min2_int max_two min_two max_three min_three max_four min_four   -- for this text's walks alone
set_option linter.unusedVariables false
set_option linter.unusedSimpArgs false

/-- A number and a flag. -/
def NumOut (w : World) (p : Int × Bool) (e : Ending) (w' : World) : Prop := e = .returned (.tuple #[.int .i64 p.1, .bool p.2]) ∧ Below w.heap.size w w'
theorem svict_c {w : World} {A : Option Addr} {c : Nat} {d : List (List Int)} (i t : Int) (hr : Kd.C (Kd.slice 3 (Kd.int .i64)) w A d.length d) (hc : d.length ≤ c) (hl : d.length ≤ 1048576) (ht : tl d ≤ 1048576) :
    Calls Try.prog 59 #[.slice A d.length c, .int .i64 i, .int .i64 t] w (NumOut w (vOf d i t)) := by
  obtain ⟨k, hk⟩ := Ev.rounds (svict_ev i t hl ht)
  exact spec_VictimOf.calls k A c d i t _ _ w hr hc hk
set_option maxRecDepth 100000 in
set_option maxHeartbeats 4000000 in
theorem ivict_c {w : World} {A : Option Addr} {c : Nat} {d : List (List Int)} (i t : Int) (hr : Kd.C (Kd.slice 3 (Kd.int .i64)) w A d.length d) (hc : d.length ≤ c) (hl : d.length ≤ 1048576) (ht : tl d ≤ 1048576) :
    Calls Try.prog 58 #[.slice A d.length c, .int .i64 i, .int .i64 t] w (NumOut w (vOf d i t)) := by
  have HCW := Aside0.mk (worker_c i hr hc hl ht)
  have HV := Aside0.mk (fun (W : World) (hb : Below w.heap.size w W) (h0 : 0 ≤ t) => (by
    obtain ⟨k, hk⟩ := Ev.rounds (ivict_ev i t h0 hl)
    exact impl_victim.calls k A c d i t _ W (Kd.C_below hr hb) hc hk : Calls Try.prog 109 #[.slice A d.length c, .int .i64 i, .int .i64 t] W fun e w' => e = .returned (.int .i64 (vpick (vf i d 0) t)) ∧ Below W.heap.size W w'))
  have hmem : vf i d 0 ≠ [] → 0 ≤ t → 0 ≤ vpick (vf i d 0) t := fun h h0 => by
    obtain ⟨j, h1, _⟩ := vf_mem i d 0 _ (vpick_mem h h0)
    omega
  unfold vOf
  generalize workB d i = b at *
  generalize d.length = n at *
  generalize hvf : vf i d 0 = l at *
  clear hr hc hl ht hvf
  cases b with
  | false =>
    clear HV hmem
    show Calls Try.prog 58 _ w (NumOut w (0, false))
    go_enter Try.func58, Try.ntmps58
    go_wp2_with fail
    refine HCW.out.mono ?_
    rintro e w1 ⟨rfl, hb⟩
    have HB := Aside0.mk hb
    clear hb HCW
    go_wp2_with fail
    go_ret2
    exact ⟨rfl, HB.out⟩
  | true =>
    by_cases h0 : t < 0
    · rw [if_pos rfl, if_pos h0]
      clear HV hmem
      go_enter Try.func58, Try.ntmps58
      go_wp2_with fail
      refine HCW.out.mono ?_
      rintro e w1 ⟨rfl, hb⟩
      have HB := Aside0.mk hb
      clear hb HCW
      go_wp2_with fail
      go_ret2
      exact ⟨rfl, HB.out⟩
    · rw [if_pos rfl, if_neg h0]
      have h0' : 0 ≤ t := by omega
      by_cases hl : l = []
      · rw [if_pos hl]
        have hp : vpick l t = -1 := by unfold vpick; rw [if_pos hl]
        rw [hp] at HV
        clear hmem hp hl
        go_enter Try.func58, Try.ntmps58
        go_wp2_with fail
        refine HCW.out.mono ?_
        rintro e w1 ⟨rfl, hb⟩
        have HB := Aside0.mk hb
        clear hb HCW
        go_wp2_with fail
        refine (HV.out w1 HB.out h0').mono ?_
        rintro e w2 ⟨rfl, hb⟩
        have HB2 := Aside0.mk (below_then HB.out HB.out.size hb)
        clear hb HV HB
        go_wp2_with fail
        go_ret2
        exact ⟨rfl, HB2.out⟩
      · rw [if_neg hl]
        have hv0 := hmem hl h0'
        generalize vpick l t = v at *
        have hmx : (if (0 : Int) < v then v else 0) = v := by split <;> omega
        clear hmem hl
        go_enter Try.func58, Try.ntmps58
        go_wp2_with fail
        refine HCW.out.mono ?_
        rintro e w1 ⟨rfl, hb⟩
        have HB := Aside0.mk hb
        clear hb HCW
        go_wp2_with fail
        refine (HV.out w1 HB.out h0').mono ?_
        rintro e w2 ⟨rfl, hb⟩
        have HB2 := Aside0.mk (below_then HB.out HB.out.size hb)
        clear hb HV HB
        go_wp2_with fail
        go_ret2
        exact ⟨rfl, HB2.out⟩
set_option maxRecDepth 100000 in
theorem isteal_of {w : World} {A : Option Addr} {n c : Nat} {i : Int} {r1 : List (List Int)} {r2 : Int} {r3 : Bool} (h : Calls Try.prog 78 #[.slice A n c, .int .i64 i, .bool false] w (TakeOut w r1 r2 r3)) :
    Calls Try.prog 60 #[.slice A n c, .int .i64 i] w (TakeOut w r1 r2 r3) := by
  have H := Aside0.mk h
  clear h
  go_enter Try.func60, Try.ntmps60
  go_wp2_with fail
  refine H.out.mono ?_
  rintro e w1 ⟨v, rfl, hS, hb⟩
  have HS := Aside0.mk (And.intro hS hb)
  clear hS hb H
  go_wp2_with fail
  go_ret3
  exact ⟨v, rfl, HS.out.1, HS.out.2⟩
/-- New decks. -/
def newD (n : Int) : List (List Int) := if 1 ≤ n ∧ n ≤ 8 then List.replicate n.toNat [] else []
def newB (n : Int) : Bool := decide (1 ≤ n) && decide (n ≤ 8)
theorem inew_c (w : World) (n : Int) : Calls Try.prog 62 #[.int .i64 n] w (DeckOut w (newD n) (newB n)) := by
  refine impl_NewDecks.calls n _ _ w ?_
  unfold impl_NewDecks.f newD newB
  rw [within_f]
  simp only [Option.bind_some]
  by_cases h : 1 ≤ n ∧ n ≤ 8
  · rw [if_pos h, decide_eq_true h.1, decide_eq_true h.2]
    simp only [Bool.and_self, if_true]
    rw [if_pos (by omega), if_pos (by omega)]
  · rw [if_neg h]
    have : (decide (1 ≤ n) && decide (n ≤ 8)) = false := by rw [Bool.eq_false_iff]; intro e; simp only [Bool.and_eq_true, decide_eq_true_eq] at e; exact h e
    rw [this]; simp
theorem snew_c (w : World) (n : Int) : Calls Try.prog 63 #[.int .i64 n] w (DeckOut w (newD n) (newB n)) := by
  refine spec_NewDecks.calls n _ _ w ?_
  unfold spec_NewDecks.f newD newB
  rw [l1In_f]
  simp only [Option.bind_some]
  by_cases h : 1 ≤ n ∧ n ≤ 8
  · rw [if_pos h, decide_eq_true h.1, decide_eq_true h.2]
    simp only [Bool.and_self, if_true]
    rw [if_pos (by omega), if_pos (by omega)]
  · rw [if_neg h]
    have : (decide (1 ≤ n) && decide (n ≤ 8)) = false := by rw [Bool.eq_false_iff]; intro e; simp only [Bool.and_eq_true, decide_eq_true_eq] at e; exact h e
    rw [this]; simp
theorem sameI_l0 (l : List Int) (hn : l.length ≤ 2000000) : ∀ (e i k : Nat), i ≤ l.length → l.length - i = e → e < k → laws_sameInts.l0 k l l (l.length : Int) (i : Int) = some true := by
  intro e
  induction e with
  | zero =>
    intro i k hi he hk
    obtain ⟨k, rfl⟩ : ∃ m, k = m + 1 := ⟨k - 1, by omega⟩
    simp only [laws_sameInts.l0]
    rw [if_neg (by omega)]
  | succ e ih =>
    intro i k hi he hk
    obtain ⟨k, rfl⟩ : ∃ m, k = m + 1 := ⟨k - 1, by omega⟩
    simp only [laws_sameInts.l0]
    rw [if_pos (by omega), if_pos (by omega), if_pos (by omega), if_pos (by omega), if_pos trivial, wrap_up (by omega) hn]
    exact ih (i + 1) k (by omega) (by omega) (by omega)
theorem sameL_l0 (l : List (List Int)) (hn : l.length ≤ 2000000) (ht : tl l ≤ 2000000) : ∀ (e i k : Nat), i ≤ l.length → l.length - i = e → e + tl l + 1 < k → laws_sameLists.l0 k l l (l.length : Int) (i : Int) = some true := by
  intro e
  induction e with
  | zero =>
    intro i k hi he hk
    obtain ⟨k, rfl⟩ : ∃ m, k = m + 1 := ⟨k - 1, by omega⟩
    simp only [laws_sameLists.l0]
    rw [if_neg (by omega)]
  | succ e ih =>
    intro i k hi he hk
    obtain ⟨k, rfl⟩ : ∃ m, k = m + 1 := ⟨k - 1, by omega⟩
    have hlt : i < l.length := by omega
    have hr := len_le_tl (List.getElem_mem hlt)
    have he2 : laws_sameInts.f k l[i] l[i] = some true := by
      unfold laws_sameInts.f
      rw [if_pos rfl]
      exact sameI_l0 l[i] (by omega) l[i].length 0 k (by omega) (by omega) (by omega)
    simp only [laws_sameLists.l0]
    rw [if_pos (by omega), if_pos (by omega), if_pos (by omega), if_pos (by omega), rdL_at hlt, he2, wrap_up hlt hn]
    simp only [Option.bind_some, if_true]
    exact ih (i + 1) k (by omega) (by omega) (by omega)
theorem sameL_c {w : World} {A B : Option Addr} {n n' c c' : Nat} {l : List (List Int)} {lo hi base lo' hi' base' : Nat} (h : SX lo hi base w (.slice A n c) l) (h' : SX lo' hi' base' w (.slice B n' c') l) (hl : l.length ≤ 1048576) (ht : tl l ≤ 1048577) :
    Calls Try.prog 64 #[.slice A n c, .slice B n' c'] w fun e w' => e = .returned (.bool true) ∧ Below w.heap.size w w' := by
  obtain ⟨rfl, h1, C1⟩ := Kd.S_reads' h
  obtain ⟨rfl, h2, C2⟩ := Kd.S_reads' h'
  have hf : laws_sameLists.f (l.length + tl l + 2) l l = some true := by
    unfold laws_sameLists.f
    rw [if_pos rfl]
    exact sameL_l0 l (by omega) (by omega) l.length 0 _ (by omega) (by omega) (by omega)
  refine (laws_sameLists.calls _ A c l B c' l _ w C1 h1 C2 h2 hf).mono ?_
  rintro e w' ⟨rfl, hb⟩
  exact ⟨rfl, hb.below⟩
/-- 'big' of two rows of bytes. -/
theorem big_c {w : World} {A B : Option Addr} {c c' : Nat} {l m : List Int} (h1 : Kd.C (Kd.int .u8) w A l.length l) (hc : l.length ≤ c) (h2 : Kd.C (Kd.int .u8) w B m.length m) (hc' : m.length ≤ c') :
    ∃ b, Calls Try.prog 41 #[.slice A l.length c, .slice B m.length c'] w fun e w' => e = .returned (.bool b) ∧ Below w.heap.size w w' := by
  obtain ⟨b, hb⟩ : ∃ b, laws_big.f l m = some b := by unfold laws_big.f; split <;> exact ⟨_, rfl⟩
  refine ⟨b, (laws_big.calls A c l B c' m _ w h1 hc h2 hc' hb).mono ?_⟩
  rintro e w' ⟨rfl, hb⟩
  exact ⟨rfl, hb.below⟩
end Go.Proofs.Ytoaimlpbliabdaa.DFnExactPushTo
