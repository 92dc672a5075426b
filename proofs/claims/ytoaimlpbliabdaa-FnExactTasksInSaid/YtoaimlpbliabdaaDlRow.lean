/- Rows of rows that came in, read. No conditions but those of each lemma. -/
import Derived.Test.YtoaimlpbliabdaaDkE
namespace Go.Proofs.Ytoaimlpbliabdaa.DFnExactPushTo
open Go.RowKit Go.Proofs.YtoaimlpbliabdaaW.PrintWords Go.Proofs.YtoaimlpbliabdaaW.PrintLast Go.Proofs.YtoaimlpbliabdaaW.PrintMore
set_option linter.unusedVariables false
set_option linter.unusedSimpArgs false

/-- How rows of rows lie that came in. -/
def IsRows (w : World) (a : Option Addr) (len cap : Nat) (d : List (List Int)) : Prop :=
  (a = none ∧ len = 0 ∧ cap = 0 ∧ d = []) ∨
  ∃ (x : Addr) (A : Nat → Option Addr) (L C : Nat → Nat) (Z : Nat → List Int), a = some x ∧ len ≤ cap ∧ cap ≤ maxLen ∧ d = ((List.range len).map fun r => (Z r).take (L r)) ∧
    ∀ r, r < cap → w.cell? (x.add r) = some (.slice (A r) (L r) (C r)) ∧ L r ≤ C r ∧ C r ≤ maxLen ∧ (Z r).length = C r ∧ (∀ n ∈ Z r, (Lit.int .i64 n).wf = true) ∧ (A r = none → C r = 0) ∧
        ∀ a', A r = some a' → ∀ c, c < C r → w.cell? (a'.add c) = some (.int .i64 ((Z r).getD c 0))
theorem rows_read {w : World} {a : Option Addr} {len cap : Nat} {d : List (List Int)} (h : IsRows w a len cap d) : len = d.length ∧ len ≤ cap ∧ len ≤ 9223372036854775807 ∧ (∀ r ∈ d, r.length ≤ 9223372036854775807) ∧ Kd.C (Kd.slice 3 (Kd.int .i64)) w a d.length d := by
  rcases h with ⟨rfl, rfl, rfl, rfl⟩ | ⟨x, A, L, C, Z, rfl, hl, hm, rfl, hrows⟩
  · exact ⟨rfl, Nat.le_refl _, by omega, by simp, Kd.C_nil _ _⟩
  · unfold maxLen at hm
    have hlen : ((List.range len).map fun r => (Z r).take (L r)).length = len := by simp
    refine ⟨hlen.symm, hl, by omega, fun r hr => ?_, hlen.symm ▸ ⟨hlen, by omega, fun hn => ⟨x, rfl, fun j p hj => ?_⟩⟩⟩
    · obtain ⟨j, hj, rfl⟩ := List.mem_map.1 hr
      obtain ⟨_, h1, h2, h3, _⟩ := hrows j (by have := List.mem_range.1 hj; omega)
      unfold maxLen at h2
      rw [List.length_take]
      omega
    · have hjl : j < len := by have := (List.getElem?_eq_some_iff.1 hj).1; rw [hlen] at this; exact this
      have hp : p = (Z j).take (L j) := by
        rw [List.getElem?_map, List.getElem?_range hjl] at hj
        simpa using hj.symm
      obtain ⟨hc, h1, h2, h3, h4, h5, h6⟩ := hrows j (by omega)
      unfold maxLen at h2
      have hpl : p.length = L j := by rw [hp, List.length_take]; omega
      refine ⟨[.slice (A j) (L j) (C j)], rfl, ⟨A j, C j, by rw [hpl], by omega, ?_⟩, fun i u hu => ?_⟩
      · refine Kd.C_of_reads (enc := Value.int .i64) (d := (0 : Int)) (h1 := fun _ => rfl) ⟨rfl, by omega, fun hn0 => ?_⟩
        cases hA : A j with
        | none => have := h5 hA; omega
        | some a' =>
          refine ⟨a', rfl, fun i hi => ?_⟩
          have := h6 a' hA i (by omega)
          rw [this, hp]
          congr 2
          rw [List.getD_eq_getElem?_getD, List.getD_eq_getElem?_getD, List.getElem?_take, if_pos (by omega)]
      · cases i with
        | zero =>
          have hu' : Value.slice (A j) (L j) (C j) = u := by simpa using hu
          subst hu'
          have e : j * (Kd.slice 3 (Kd.int .i64)).sz + 0 = j := by simp [Kd.slice]
          rw [e]
          exact hc
        | succ i => simp at hu
set_option maxRecDepth 100000 in
set_option maxHeartbeats 2000000 in
theorem law_PushTo_big (A : Option Addr) (c : Nat) (d : List (List Int)) (i t : Int) (w : World) (hr : Kd.C (Kd.slice 3 (Kd.int .i64)) w A d.length d) (hc : d.length ≤ c) (hl : d.length ≤ 9223372036854775807) (hrl : ∀ r ∈ d, r.length ≤ 9223372036854775807) (hbig : ¬ d.length + tl d ≤ 1048576) :
    Calls Try.prog 4 #[.slice A d.length c, .int .i64 i, .int .i64 t] w fun e w' => e = .returned (.bool true) ∧ Below w.heap.size w w' := by
  have HSZ := Aside0.mk (sz_c hr hc hl hrl (-1) (by rw [if_pos (by omega)]))
  generalize d.length = n at *
  clear hr hc hl hrl hbig
  go_enter Try.func4, Try.ntmps4
  go_wp2_with fail
  refine HSZ.out.mono ?_
  rintro e w1 ⟨rfl, hb⟩
  have HB := Aside0.mk hb
  clear hb HSZ
  go_wp2_with fail
  go_ret
  exact ⟨rfl, HB.out⟩
set_option maxRecDepth 100000 in
set_option maxHeartbeats 2000000 in
theorem law_PopFrom_big (A : Option Addr) (c : Nat) (d : List (List Int)) (i : Int) (w : World) (hr : Kd.C (Kd.slice 3 (Kd.int .i64)) w A d.length d) (hc : d.length ≤ c) (hl : d.length ≤ 9223372036854775807) (hrl : ∀ r ∈ d, r.length ≤ 9223372036854775807) (hbig : ¬ d.length + tl d ≤ 1048576) :
    Calls Try.prog 3 #[.slice A d.length c, .int .i64 i] w fun e w' => e = .returned (.bool true) ∧ Below w.heap.size w w' := by
  have HSZ := Aside0.mk (sz_c hr hc hl hrl (-1) (by rw [if_pos (by omega)]))
  generalize d.length = n at *
  clear hr hc hl hrl hbig
  go_enter Try.func3, Try.ntmps3
  go_wp2_with fail
  refine HSZ.out.mono ?_
  rintro e w1 ⟨rfl, hb⟩
  have HB := Aside0.mk hb
  clear hb HSZ
  go_wp2_with fail
  go_ret
  exact ⟨rfl, HB.out⟩
end Go.Proofs.Ytoaimlpbliabdaa.DFnExactPushTo
