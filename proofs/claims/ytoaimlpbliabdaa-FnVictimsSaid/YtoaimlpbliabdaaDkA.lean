/- slices.Clone and slices.Grow at []int walked. No conditions but those of each lemma. -/
import Derived.Test.YtoaimlpbliabdaaDFnExactPushTox0
import Derived.Lib.SliceRun
namespace Go.Proofs.Ytoaimlpbliabdaa.DFnExactPushTo
open Go.RowKit Go.Proofs.YtoaimlpbliabdaaW.PrintWords Go.Proofs.YtoaimlpbliabdaaW.PrintLast Go.Proofs.YtoaimlpbliabdaaW.PrintMore
set_option linter.unusedVariables false
set_option linter.unusedSimpArgs false

theorem C_none {w : World} {l : List Int} (h : Kd.C (Kd.int .i64) w none l.length l) : l = [] := by
  cases l with
  | nil => rfl
  | cons x l =>
    obtain ⟨ad, he, _⟩ := Kd.at_int h 0 (by omega) (by simp)
    cases he

/-! ### slices_Clone_int_int: function 118 -/
def slices_Clone_int_int.f (l0 : List Int) : Option (List Int) := if l0.length < 17592186044416 then some l0 else none
set_option maxHeartbeats 8000000 in
set_option maxRecDepth 100000 in
theorem slices_Clone_int_int.calls (A0 : Option Addr) (c0 : Nat) (l0 : List Int) (r : List Int) (w : World) (hr0 : Kd.C (Kd.int .i64) w A0 l0.length l0) (hc0 : l0.length ≤ c0) (h : slices_Clone_int_int.f l0 = some r) :
    Calls Try.prog 118 #[.slice A0 l0.length c0] w fun e w' => ∃ v0_ : Value, e = .returned (v0_) ∧ Kd.R (Kd.int .i64) 3 w' w.heap.size (fun _ => True) v0_ r ∧ Below w.heap.size w w' := by
  unfold slices_Clone_int_int.f at h
  split at h
  · rename_i hl
    obtain rfl := Option.some.inj h
    have he := fun W : World => Lib.run_eql_slice_nil (P := Try.prog) W 32 3 A0 l0.length c0 0 0 Try.underlying32
    cases A0 with
    | none =>
      obtain rfl := C_none hr0
      clear hr0 hc0 h hl he
      have he := fun W : World => Lib.run_eql_slice_nil (P := Try.prog) W 32 3 none 0 c0 0 0 Try.underlying32
      show Calls Try.prog 118 #[.slice none 0 c0] w _
      go_enter Try.func118, Try.ntmps118
      go_wp2_with fail
      go_ret
      exact ⟨_, rfl, Kd.R_nil _ _ _ _ _, Below.refl _ _⟩
    | some ad =>
      have HR0 := Aside0.mk hr0
      have HC0 := Aside0.mk hc0
      have HL := Aside0.mk hl
      clear hr0 hc0 h hl
      generalize hn : l0.length = n at *
      have HN := Aside0.mk hn
      clear hn
      go_enter Try.func118, Try.ntmps118
      go_wp2_with (first | ((with_reducible refine gate_dst (N := 5) rfl ?_); refine Kd.R_lit (Kd.int .i64) _ 3 ?hg (N := 5) ?hd (xs := ([] : List Int)) (inner := []) (ok := fun _ => True) (okp := fun _ => True) ?hr ?hp (fun _ hk => hk) trivial (Below.refl _ _) (Nat.le_refl _) (by simp) ?_; (case hd => rfl); (case hg => rfl); (case hr => first | (go_simp; done) | (go_simp; rfl)); (case hp => exact (Reps.none _ _)); intro v3 w3 ho4 hb hg_ hnew_; have HO := Aside0.mk ho4; have HB := Aside0.mk hb; clear ho4 hb hg_ hnew_) | ((with_reducible refine gate_builtin (b := .append) (xs := #[.tmp 5, .tmp 6]) rfl ?_); at_builtin; refine Kd.R_append_rows (Kd.int .i64) (w0 := w) w.heap.size rfl (.tmp 5) (.tmp 6) 32 3 (.int .i64 0) 8 rfl Try.underlying32 info3 rfl (by decide) (by omega) v3 [] l0 (some ad) n c0 (fun _ => True) (fun _ => False) rfl rfl HO.out ?aR (fun _ _ h => h) (fun _ h => h.elim) (fun _ _ => trivial) HB.out HB.out.size ?aL ?_; (case aR => have q := Kd.C_below HR0.out HB.out; exact q); (case aL => have := HL.out; have := HN.out; simp; omega); intro v5 w5 ho hb hg hat; have HO5 := Aside0.mk ho; have HB5 := Aside0.mk hb; clear ho hb hg hat))
      go_ret
      exact ⟨_, rfl, by have q := HO5.out; rw [List.nil_append] at q; exact q, HB5.out⟩
  · cases h

/-! ### slices_Grow_int_int: function 131 -/
def slices_Grow_int_int.f (l0 : List Int) (a1 : Int) : Option (List Int) := if l0 = [] then (if 0 ≤ a1 then (if a1 ≤ 17592186044416 then some [] else none) else none) else none
set_option maxHeartbeats 8000000 in
set_option maxRecDepth 100000 in
theorem slices_Grow_int_int.nil (a1 : Int) (r : List Int) (w : World) (h : slices_Grow_int_int.f [] a1 = some r) :
    Calls Try.prog 131 #[.slice none 0 0, .int .i64 a1] w fun e w' => ∃ v0_ : Value, e = .returned (v0_) ∧ Kd.R (Kd.int .i64) 3 w' w.heap.size (fun _ => True) v0_ r ∧ Below w.heap.size w w' := by
  unfold slices_Grow_int_int.f at h
  rw [if_pos rfl] at h
  split at h
  · rename_i h0
    split at h
    · rename_i h1
      obtain rfl := Option.some.inj h
      clear h
      by_cases hz : a1 = 0
      · subst hz
        clear h0 h1
        go_enter Try.func131, Try.ntmps131
        go_wp2_with fail
        go_ret
        exact ⟨_, rfl, Kd.R_nil _ _ _ _ _, Below.refl _ _⟩
      · have hp : 0 < a1 := by omega
        clear hz h0
        go_enter Try.func131, Try.ntmps131
        have H0 : Aside0 (0 ≤ a1) := ⟨by omega⟩
        go_wp2_with ((with_reducible refine gate_builtin (b := .append) (xs := #[.tmp 20, .tmp 21]) rfl ?_); refine Kd.R_append_zeros (Kd.int .i64) (w0 := w) w.heap.size rfl (.tmp 20) (.tmp 21) 32 3 3 (.int .i64 0) 8 rfl Try.underlying32 Try.underlying3 info3 rfl (by decide) (by decide) (.slice none 0 0) [] 0 a1 (fun _ => True) rfl rfl rfl (fun _ _ => trivial) (Kd.R_nil _ _ _ _ _) H0.out (Below.refl _ _) (Nat.le_refl _) (by simp; omega) ?_; intro v1 w1 hR hb hg hat; obtain ⟨g, cap, rfl, -, -, -⟩ := Kd.R_form hR (by simp; omega); have HR := Aside0.mk (Kd.R_take (m := 0) hR (Nat.zero_le _)); have HB := Aside0.mk hb; clear hR hb hg hat; simp only [List.nil_append, List.length_replicate] at *)
        go_ret
        exact ⟨_, rfl, by have q := HR.out; rw [List.take_zero] at q; exact q, HB.out⟩
    · cases h
  · cases h
end Go.Proofs.Ytoaimlpbliabdaa.DFnExactPushTo
