/- slices.Delete at []int, one element: walked. No conditions but those of each lemma. -/
import Derived.Test.YtoaimlpbliabdaaDkE
import Derived.Lib.SliceRun
import Derived.Deep.RegionLaw
namespace Go.Proofs.Ytoaimlpbliabdaa.DFnExactPushTo
open Go.RowKit Go.Proofs.YtoaimlpbliabdaaW.PrintWords Go.Proofs.YtoaimlpbliabdaaW.PrintLast Go.Proofs.YtoaimlpbliabdaaW.PrintMore
set_option linter.unusedVariables false
set_option linter.unusedSimpArgs false

theorem zero3 (w : World) : (zeroValue 3).run Try.prog w = .ok (.int .i64 0) w := by kernel_rfl
/-- The cells behind a row's end made zero. -/
theorem R_tail {w : World} {base g m c k : Nat} {ok : Nat → Prop} {xs : List Int} (HO : (Kd.int .i64).R 3 w base ok (.slice (some ⟨g, 0, none⟩) m c) xs) (hk : m + k ≤ c) :
    (Kd.int .i64).R 3 (w.setCells g m (List.replicate k (.int .i64 0))) base ok (.slice (some ⟨g, 0, none⟩) m c) xs ∧ w.grownBy (w.setCells g m (List.replicate k (.int .i64 0))) (some g) ∧
      (∀ t, t < k → (w.cell? ⟨g, m + t, none⟩).isSome = true) ∧ (∀ t, t < k → w.frozen? ⟨g, m + t, none⟩ = false) ∧ c ≤ 9223372036854775807 := by
  obtain ⟨hn, hnc, _⟩ := Kd.R_reads' HO
  obtain ⟨hok, inner, hown, hr⟩ := HO
  rcases hown.2 with ⟨hv, _⟩ | ⟨g', cap', cur, hv, hb, hh, hlc, hcm, hcs, htake⟩
  · cases hv
  injection hv with ha _ hc
  injection ha with ha
  injection ha with hg
  subst hg; subst hc
  have hcs' : cur.size = c := by rw [hcs]; exact Nat.mul_one _
  have hin : inner.length = m := by rw [hr.1, ← hn]; exact Nat.mul_one _
  obtain ⟨cur', h3, h4, h5⟩ := setCells_row (List.replicate k (.int .i64 0)) m w cur hh (by rw [List.length_replicate]; omega)
  obtain ⟨s1, s2, s3, s4⟩ := setCells_same g (List.replicate k (Value.int .i64 0)) m w
  have hfar : ∀ k', k' ≠ g → (w.setCells g m (List.replicate k (.int .i64 0))).heap[k']? = w.heap[k']? := fun k' hk' => setCells_far _ _ k' hk'
  refine ⟨⟨hok, inner, ⟨hown.1, .inr ⟨g, c, cur', by rw [hn], hb, h3, hlc, hcm, by rw [h4, hcs], ?_⟩⟩, ?_⟩, ⟨s1, s2, s3, by rw [s4]; exact Nat.le_refl _, fun k' _ hk' => hfar k' (fun he => hk' (by rw [he]))⟩, ?_, ?_, ?_⟩
  · have e : xs.length * (Kd.int .i64).sz = m := by rw [← hn]; exact Nat.mul_one _
    rw [e] at htake ⊢
    rw [h5, List.append_assoc, List.take_append_of_le_length (by rw [List.length_take, Array.length_toList]; omega), List.take_take, Nat.min_self]
    exact htake
  · exact hr.imp_ fun p q hp => (Kd.int .i64).M_move (fun k' hk' => hfar k' (fun he => hk'.2 (by rw [he]; simp [Value.ownBlock]))) hp
  · intro t ht
    rw [cell_of_row w g _ cur 3 (0, 0) hh]; simp; omega
  · intro t ht
    exact blk_frozen hh _
  · unfold maxLen at hcm; omega
theorem grown_trans {w w1 w2 : World} {r : Option Nat} (h1 : w.grownBy w1 r) (h2 : w1.grownBy w2 r) : w.grownBy w2 r := ⟨h2.os.trans h1.os, h2.tape.trans h1.tape, h2.output.trans h1.output, Nat.le_trans h1.size h2.size, fun k hk hne => (h2.block k (Nat.lt_of_lt_of_le hk h1.size) hne).trans (h1.block k hk hne)⟩
theorem grown_drew {w w1 : World} {r : Option Nat} (h1 : w.drew.grownBy w1 r) : w.grownBy w1 r := ⟨h1.os, h1.tape, h1.output, h1.size, h1.block⟩
set_option maxRecDepth 100000 in
set_option maxHeartbeats 4000000 in
/-- slices.Delete of one element of a row of one's own. -/
theorem delete_c {w0 w : World} {base g i m c : Nat} {ok : Nat → Prop} {xs : List Int} (HO : (Kd.int .i64).R 3 w base ok (.slice (some ⟨g, 0, none⟩) (m + 1) c) xs) (hi : i < m + 1) (HB : Below base w0 w) (hbase : base ≤ w.heap.size) (hm : m ≤ 2000000) :
    Calls Try.prog 116 #[.slice (some ⟨g, 0, none⟩) (m + 1) c, .int .i64 (i : Int), .int .i64 ((i : Int) + 1)] w fun e w' => e = .returned (.slice (some ⟨g, 0, none⟩) m c) ∧ (Kd.int .i64).R 3 w' base ok (.slice (some ⟨g, 0, none⟩) m c) (xs.eraseIdx i) ∧ Below base w0 w' ∧ w.grownBy w' (some g) := by
  have hmc : m + 1 ≤ c := (Kd.R_reads' HO).2.1
  have HR := Aside0.mk HO
  have HBB := Aside0.mk HB
  obtain ⟨A, hA⟩ : ∃ A : Addr, (if c = i + 1 then (some ⟨g, 0, none⟩ : Option Addr) else some ⟨g, i + 1, none⟩) = some A := by split <;> exact ⟨_, rfl⟩
  have hbg : base ≤ g := by obtain ⟨g', c', e, h, _⟩ := Kd.R_form HO (by rw [← (Kd.R_reads' HO).1]; omega); injection e with e1 _ _; injection e1 with e1; injection e1 with e1 _ _; subst e1; exact h
  have hbD : base ≤ w.drew.heap.size := hbase
  clear HO HB
  go_enter Try.func116, Try.ntmps116
  have hm' : m + 1 - (i + 1) = m - i := by omega
  have HA : Aside0 ((some A : Option Addr) = if c = i + 1 then some ⟨g, 0, none⟩ else (some (⟨g, 0, none⟩ : Addr)).map (·.add ((i + 1) * (Kd.int .i64).sz))) := ⟨by rw [← hA, show (i + 1) * (Kd.int .i64).sz = i + 1 from Nat.mul_one _]; simp [Addr.add]⟩
  have HINF : Aside0 ((Try.prog.info? 3).map (·.size) = some (Kd.int .i64).sz) := ⟨by kernel_rfl⟩
  have hic : i ≤ c := by omega
  have him : i ≤ m := by omega
  have hi1 : (0 : Int) ≤ (i : Int) + 1 := by omega
  have hjc : i + 1 ≤ c := by omega
  have HRD := Aside0.mk (Kd.R_drew HR.out)
  have HBD := Aside0.mk (below_drew1 HBB.out)
  go_wp2_with fail
  go_region_law (refine Kd.R_delete_step (Kd.int .i64) (w0 := w0) base rfl (.tmp 22) (.tmp 25) 32 3 rfl Try.underlying32 HINF.out (g := g) (c := c) (n := m + 1) (k := i) (m := m - i) (A := some A) rfl rfl HA.out hm'.symm HRD.out hi HBD.out hbase ?_; intro w1 hR hb hg)
  rw [Nat.add_sub_cancel] at hR
  obtain ⟨hR2, hg2, hsome, hfroz, hcc⟩ := R_tail (k := 1) hR hmc
  have hcl : ∀ ty, (Builtin.clear_ #[32] ty #[.slice (some ⟨g, m, none⟩) 1 (c - m)]).run Try.prog w1 = .ok (.tuple #[]) (w1.setCells g m (List.replicate 1 (.int .i64 0))) := fun ty => by
    have := Lib.run_clear_slice w1 _ _ ty (.int .i64 0) Try.underlying32 zero3 rfl rfl g m 1 (c - m) (by omega) hsome hfroz
    exact this
  have HR2 := Aside0.mk hR2
  have HG := Aside0.mk (And.intro hg hg2)
  have HBF := Aside0.mk (Below.grown (Below.grown HBD.out hg hbD (fun k hk => by injection hk with hk; subst hk; exact hbg)) hg2 (Nat.le_trans hbD hg.size) (fun k hk => by injection hk with hk; subst hk; exact hbg))
  clear hR hR2 hg hg2 hsome hfroz HA hb
  go_wp2_with fail
  go_ret
  exact ⟨rfl, HR2.out, HBF.out, grown_trans (grown_drew HG.out.1) HG.out.2⟩
end Go.Proofs.Ytoaimlpbliabdaa.DFnExactPushTo
