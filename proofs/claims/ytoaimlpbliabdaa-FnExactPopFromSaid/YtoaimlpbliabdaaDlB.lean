/- FnExactPopFrom: the law's call over any arguments. No conditions but those of each lemma. -/
import Derived.Test.YtoaimlpbliabdaaDlRow
import Derived.Test.YtoaimlpbliabdaaDlPopFrom
namespace Go.Proofs.Ytoaimlpbliabdaa.DFnExactPushTo
open Go.RowKit Go.Proofs.YtoaimlpbliabdaaW.PrintWords Go.Proofs.YtoaimlpbliabdaaW.PrintLast Go.Proofs.YtoaimlpbliabdaaW.PrintMore
set_option linter.unusedVariables false
theorem law_PopFrom_all (a : Option Addr) (len cap : Nat) (d : List (List Int)) (i : Int) (w : World) (h : IsRows w a len cap d) :
    Calls Try.prog 3 #[.slice a len cap, .int .i64 i] w fun e w' => e = .returned (.bool true) ∧ Below w.heap.size w w' := by
  obtain ⟨rfl, hc, hl, hrl, hr⟩ := rows_read h
  by_cases hb : d.length + tl d ≤ 1048576
  · obtain ⟨r1, r2, r3, h1, h2, hS, hI⟩ := pop_both i (by omega : d.length ≤ 1048576) (by omega : tl d ≤ 1048576)
    exact law_PopFrom a cap d i w hr hc hb r1 r2 r3 hS hI h1 h2
  · exact law_PopFrom_big a cap d i w hr hc hl hrl hb
end Go.Proofs.Ytoaimlpbliabdaa.DFnExactPushTo
