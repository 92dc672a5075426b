/- FnExactRunPool: what both sides come to, and the law's call over any arguments. No conditions but those of each lemma. -/
import Derived.Test.YtoaimlpbliabdaaRpL
namespace Go.Proofs.Ytoaimlpbliabdaa.QFnExactEventsOf
open Go.RowKit Go.Proofs.YtoaimlpbliabdaaW.PrintWords Go.Proofs.YtoaimlpbliabdaaW.PrintLast Go.Proofs.YtoaimlpbliabdaaW.PrintMore
set_option linter.unusedVariables false
set_option linter.unusedSimpArgs false

theorem tl_flatten (l : List (List Int)) : tl l = l.flatten.length := by
  unfold tl
  rw [List.length_flatten]
theorem run_same {up picks draws : List Int} (workers steps : Int) (h0 : up.length ≤ 1048576) (h2 : picks.length ≤ 1048576) (h3 : draws.length ≤ 1048576) : ∃ k r1 r2 r3 r4 r5 r6 r7, RunSame k up workers picks draws steps r1 r2 r3 r4 r5 r6 r7 ∧ Small r1 r2 r3 r4 r5 := by
  obtain ⟨t, ht, hA⟩ := asked_tot workers h0 h2 h3
  have off : (t = false ∨ steps < 0) → ∃ k r1 r2 r3 r4 r5 r6 r7, RunSame k up workers picks draws steps r1 r2 r3 r4 r5 r6 r7 ∧ Small r1 r2 r3 r4 r5 := by
    intro hs
    obtain ⟨k, hk⟩ := Ev.rounds (runpool_off h0 h2 h3 ht hs)
    exact ⟨k, _, _, _, _, _, _, _, hk, ⟨by simp [tl], by simp, by simp, by simp, by simp, by simp⟩⟩
  cases t with
  | false => exact off (.inl rfl)
  | true =>
    by_cases hs : 0 ≤ steps
    · have hA := hA rfl
      obtain ⟨k, hk⟩ := Ev.rounds (runpool_on h0 h2 h3 ht hs)
      have hG := poolAt_good hA steps.toNat
      have hF := hA.forest.1
      have h8 := hA.w8
      refine ⟨k, _, _, _, _, _, _, _, hk, ⟨?_, ?_, ?_, ?_, ?_, ?_⟩⟩
      · rw [tl_flatten]; have := hG.inv.decks_le; omega
      · rw [hG.inv.hd]; omega
      · rw [hG.inv.hl]; omega
      · rw [hG.inv.hp]; omega
      · rw [hG.inv.hq]; omega
      · rw [List.length_map]; have := hG.told_le; omega
    · exact off (.inr (by omega))
set_option maxRecDepth 100000 in
set_option maxHeartbeats 1000000 in
theorem law_runpool_all (A0 : Option Addr) (c0 : Nat) (l0 : List Int) (a1 : Int) (A2 : Option Addr) (c2 : Nat) (l2 : List Int) (A3 : Option Addr) (c3 : Nat) (l3 : List Int) (a4 : Int) (w : World) (hr0 : Kd.C (Kd.int .i64) w A0 l0.length l0) (hc0 : l0.length ≤ c0) (hr2 : Kd.C (Kd.int .i64) w A2 l2.length l2) (hc2 : l2.length ≤ c2) (hr3 : Kd.C (Kd.int .i64) w A3 l3.length l3) (hc3 : l3.length ≤ c3)
    (hm0 : l0.length ≤ maxLen) (hm2 : l2.length ≤ maxLen) (hm3 : l3.length ≤ maxLen) :
    Calls Try.prog 8 #[.slice A0 l0.length c0, .int .i64 a1, .slice A2 l2.length c2, .slice A3 l3.length c3, .int .i64 a4] w fun e w' => e = .returned (.bool true) ∧ Below w.heap.size w w' := by
  by_cases h0 : l0.length ≤ 1048576
  · by_cases h2 : l2.length ≤ 1048576
    · by_cases h3 : l3.length ≤ 1048576
      · obtain ⟨k, r1, r2, r3, r4, r5, r6, r7, hrs, hsm⟩ := run_same a1 a4 h0 h2 h3
        exact law_runpool k A0 c0 l0 a1 A2 c2 l2 A3 c3 l3 a4 w hr0 hc0 hr2 hc2 hr3 hc3 h0 h2 h3 r1 r2 r3 r4 r5 r6 r7 hrs hsm
      · unfold maxLen at hm0 hm2 hm3
        generalize l0.length = n0 at *
        generalize l2.length = n2 at *
        generalize l3.length = n3 at *
        have h3' : 1048576 < n3 := by omega
        clear hr0 hr2 hr3 hc0 hc2 hc3 h3
        go_enter Try.func8, Try.ntmps8
        go_wp2_with fail
        go_ret
        exact ⟨rfl, Below.refl _ _⟩
    · unfold maxLen at hm0 hm2 hm3
      generalize l0.length = n0 at *
      generalize l2.length = n2 at *
      generalize l3.length = n3 at *
      have h2' : 1048576 < n2 := by omega
      clear hr0 hr2 hr3 hc0 hc2 hc3 h2
      go_enter Try.func8, Try.ntmps8
      go_wp2_with fail
      go_ret
      exact ⟨rfl, Below.refl _ _⟩
  · unfold maxLen at hm0 hm2 hm3
    generalize l0.length = n0 at *
    generalize l2.length = n2 at *
    generalize l3.length = n3 at *
    have h0' : 1048576 < n0 := by omega
    clear hr0 hr2 hr3 hc0 hc2 hc3 h0
    go_enter Try.func8, Try.ntmps8
    go_wp2_with fail
    go_ret
    exact ⟨rfl, Below.refl _ _⟩
theorem law_runpool_walk (a0 : Option Addr) (len0 cap0 : Nat) (z0 : List Int) (a1 : Int) (a2 : Option Addr) (len2 cap2 : Nat) (z2 : List Int) (a3 : Option Addr) (len3 cap3 : Nat) (z3 : List Int) (a4 : Int) (w : World) (w0 : (a0 = none ∧ len0 = 0 ∧ cap0 = 0 ∧ z0 = []) ∨ ∃ x, a0 = some x ∧ len0 ≤ cap0 ∧ cap0 ≤ maxLen ∧ z0.length = cap0 ∧ (∀ i, i < z0.length → w.cell? (x.add i) = some (.int .i64 (z0.getD i 0))) ∧ ∀ n ∈ z0, (Lit.int .i64 n).wf = true) (y0 : len0 * 8 ≤ 140737488351232) (w1 : (Lit.int .i64 a1).wf = true) (w2 : (a2 = none ∧ len2 = 0 ∧ cap2 = 0 ∧ z2 = []) ∨ ∃ x, a2 = some x ∧ len2 ≤ cap2 ∧ cap2 ≤ maxLen ∧ z2.length = cap2 ∧ (∀ i, i < z2.length → w.cell? (x.add i) = some (.int .i64 (z2.getD i 0))) ∧ ∀ n ∈ z2, (Lit.int .i64 n).wf = true) (y2 : len2 * 8 ≤ 140737488351232) (w3 : (a3 = none ∧ len3 = 0 ∧ cap3 = 0 ∧ z3 = []) ∨ ∃ x, a3 = some x ∧ len3 ≤ cap3 ∧ cap3 ≤ maxLen ∧ z3.length = cap3 ∧ (∀ i, i < z3.length → w.cell? (x.add i) = some (.int .i64 (z3.getD i 0))) ∧ ∀ n ∈ z3, (Lit.int .i64 n).wf = true) (y3 : len3 * 8 ≤ 140737488351232) (w4 : (Lit.int .i64 a4).wf = true) :
    Calls Try.prog 8 #[.slice a0 len0 cap0, .int .i64 a1, .slice a2 len2 cap2, .slice a3 len3 cap3, .int .i64 a4] w fun e w' => e = .returned (.bool true) ∧ Below w.heap.size w w' := by
  obtain ⟨l0, rfl, hr0, hm0, hw0, hc0⟩ := ReadsInt.ofRowC w0
  obtain ⟨l2, rfl, hr2, hm2, hw2, hc2⟩ := ReadsInt.ofRowC w2
  obtain ⟨l3, rfl, hr3, hm3, hw3, hc3⟩ := ReadsInt.ofRowC w3
  exact law_runpool_all _ _ l0 a1 _ _ l2 _ _ l3 a4 w (Kd.C_of_reads (d := (0 : Int)) (h1 := fun _ => rfl) hr0) hc0 (Kd.C_of_reads (d := (0 : Int)) (h1 := fun _ => rfl) hr2) hc2 (Kd.C_of_reads (d := (0 : Int)) (h1 := fun _ => rfl) hr3) hc3 hm0 hm2 hm3
end Go.Proofs.Ytoaimlpbliabdaa.QFnExactEventsOf
