/- FnExactTasksIn: the law's call over any arguments. No conditions but those of each lemma. -/
import Derived.Test.YtoaimlpbliabdaaDlRow
import Derived.Test.YtoaimlpbliabdaaDlTasksIn
namespace Go.Proofs.Ytoaimlpbliabdaa.DFnExactPushTo
open Go.RowKit Go.Proofs.YtoaimlpbliabdaaW.PrintWords Go.Proofs.YtoaimlpbliabdaaW.PrintLast Go.Proofs.YtoaimlpbliabdaaW.PrintMore
set_option linter.unusedVariables false
set_option linter.unusedSimpArgs false
set_option maxRecDepth 100000 in
set_option maxHeartbeats 2000000 in
theorem law_TasksIn_big (A : Option Addr) (c : Nat) (d : List (List Int)) (w : World) (hr : Kd.C (Kd.slice 3 (Kd.int .i64)) w A d.length d) (hc : d.length ≤ c) (hl : d.length ≤ 9223372036854775807) (hrl : ∀ r ∈ d, r.length ≤ 9223372036854775807) (hbig : ¬ d.length + tl d ≤ 1048576) :
    Calls Try.prog 10 #[.slice A d.length c] w fun e w' => e = .returned (.bool true) ∧ Below w.heap.size w w' := by
  have HSZ := Aside0.mk (sz_c hr hc hl hrl (-1) (by rw [if_pos (by omega)]))
  generalize d.length = n at *
  clear hr hc hl hrl hbig
  go_enter Try.func10, Try.ntmps10
  go_wp2_with fail
  refine HSZ.out.mono ?_
  rintro e w1 ⟨rfl, hb⟩
  have HB := Aside0.mk hb
  clear hb HSZ
  go_wp2_with fail
  go_ret
  exact ⟨rfl, HB.out⟩
theorem law_TasksIn_all (a : Option Addr) (len cap : Nat) (d : List (List Int)) (w : World) (h : IsRows w a len cap d) :
    Calls Try.prog 10 #[.slice a len cap] w fun e w' => e = .returned (.bool true) ∧ Below w.heap.size w w' := by
  obtain ⟨rfl, hc, hl, hrl, hr⟩ := rows_read h
  by_cases hb : d.length + tl d ≤ 1048576
  · refine law_TasksIn a cap d w hr hc hb _ _ (fun w A c hr hc => stask_c hr hc (by omega) (by omega)) (fun w A c hr hc => itask_c hr hc (by omega) (by omega)) ?_
    have := allL_le d
    rw [← tl_flatten] at this
    split
    · omega
    · simp
  · exact law_TasksIn_big a cap d w hr hc hl hrl hb
end Go.Proofs.Ytoaimlpbliabdaa.DFnExactPushTo
