/- FnExactRunPool walked: the law's call returns true. No conditions but those of each lemma. -/
import Derived.Test.YtoaimlpbliabdaaRpF
import Derived.Deep.DeepCutAuto
namespace Go.Proofs.Ytoaimlpbliabdaa.QFnExactEventsOf
open Go.RowKit Go.Proofs.YtoaimlpbliabdaaW.PrintWords Go.Proofs.YtoaimlpbliabdaaW.PrintLast Go.Proofs.YtoaimlpbliabdaaW.PrintMore
set_option linter.unusedVariables false
set_option linter.unusedSimpArgs false

set_option maxRecDepth 100000 in
set_option maxHeartbeats 8000000 in
theorem law_runpool (k : Nat) (A0 : Option Addr) (c0 : Nat) (l0 : List Int) (a1 : Int) (A2 : Option Addr) (c2 : Nat) (l2 : List Int) (A3 : Option Addr) (c3 : Nat) (l3 : List Int) (a4 : Int) (w : World) (hr0 : Kd.C (Kd.int .i64) w A0 l0.length l0) (hc0 : l0.length ≤ c0) (hr2 : Kd.C (Kd.int .i64) w A2 l2.length l2) (hc2 : l2.length ≤ c2) (hr3 : Kd.C (Kd.int .i64) w A3 l3.length l3) (hc3 : l3.length ≤ c3)
    (h0 : l0.length ≤ 1048576) (h2 : l2.length ≤ 1048576) (h3 : l3.length ≤ 1048576) (r1 : List (List Int)) (r2 : List Int) (r3 r4 : List Bool) (r5 : List S93) (r6 : Int) (r7 : Bool) (hrs : RunSame k l0 a1 l2 l3 a4 r1 r2 r3 r4 r5 r6 r7) (hsm : Small r1 r2 r3 r4 r5) :
    Calls Try.prog 8 #[.slice A0 l0.length c0, .int .i64 a1, .slice A2 l2.length c2, .slice A3 l3.length c3, .int .i64 a4] w fun e w' => e = .returned (.bool true) ∧ Below w.heap.size w w' := by
  have HR0 := Aside0.mk hr0
  have HR2 := Aside0.mk hr2
  have HR3 := Aside0.mk hr3
  have HC0 := Aside0.mk hc0
  have HC2 := Aside0.mk hc2
  have HC3 := Aside0.mk hc3
  have HRS := Aside0.mk hrs
  have HSM := Aside0.mk hsm
  obtain ⟨M, hME⟩ : ∃ M : Int, poolM r1 r2 r3 r4 r5 = M := ⟨_, rfl⟩
  have hM0 : 0 ≤ M := by rw [← hME]; unfold poolM; omega
  have HME := Aside0.mk hME
  clear hME
  have bb1 : (r7 == r7) = true := by simp
  have bb2 : (r7 != r7) = false := by simp
  clear hr0 hc0 hr2 hc2 hr3 hc3 hrs hsm
  generalize hn0 : l0.length = n0 at *
  generalize hn2 : l2.length = n2 at *
  generalize hn3 : l3.length = n3 at *
  have N0 := Aside0.mk hn0
  have N2 := Aside0.mk hn2
  have N3 := Aside0.mk hn3
  clear hn0 hn2 hn3
  have i0 : decide ((n0 : Int) > 1048576) = false := by simp; omega
  have t0 := Aside0.mk (fun (W : World) (hb : Below w.heap.size w W) => toInt_new (Kd.C_below (by rw [N0.out]; exact HR0.out) hb) (by rw [N0.out]; exact HC0.out) (by rw [N0.out]; exact h0))
  have t2 := Aside0.mk (fun (W : World) (hb : Below w.heap.size w W) => toInt_new (Kd.C_below (by rw [N2.out]; exact HR2.out) hb) (by rw [N2.out]; exact HC2.out) (by rw [N2.out]; exact h2))
  have t3 := Aside0.mk (fun (W : World) (hb : Below w.heap.size w W) => toInt_new (Kd.C_below (by rw [N3.out]; exact HR3.out) hb) (by rw [N3.out]; exact HC3.out) (by rw [N3.out]; exact h3))
  rw [N0.out] at t0
  rw [N2.out] at t2
  rw [N3.out] at t3
  go_enter Try.func8, Try.ntmps8
  go_wp2_with fail
  refine (t0.out w (Below.refl _ _)).mono ?_
  rintro e w1 ⟨P0, e0, rfl, hP0, hP0c, hP0b⟩
  have B1 := Aside0.mk hP0b
  have HP0 := Aside0.mk (Kd.R_reads' hP0).2.2
  have HP0c := Aside0.mk hP0c
  clear hP0 hP0b hP0c
  go_wp2_with fail
  refine (t2.out w1 B1.out).mono ?_
  rintro e w2 ⟨P2, e2, rfl, hP2, hP2c, hP2b⟩
  have B2 := Aside0.mk (below_then B1.out B1.out.size hP2b)
  have HP2 := Aside0.mk (Kd.R_reads' hP2).2.2
  have HP2c := Aside0.mk hP2c
  have HP0 := Aside0.mk (Kd.C_below HP0.out hP2b)
  clear hP2 hP2b hP2c
  go_wp2_with fail
  refine (t3.out w2 B2.out).mono ?_
  rintro e w3 ⟨P3, e3, rfl, hP3, hP3c, hP3b⟩
  have B3 := Aside0.mk (below_then B2.out B2.out.size hP3b)
  have HP3 := Aside0.mk (Kd.R_reads' hP3).2.2
  have HP3c := Aside0.mk hP3c
  have HP2 := Aside0.mk (Kd.C_below HP2.out hP3b)
  have HP0 := Aside0.mk (Kd.C_below HP0.out hP3b)
  clear hP3 hP3b hP3c B1 B2
  go_wp2_with fail
  have hsp := HRS.out.spec (uA := P0) (uc := e0) (pA := P2) (pc := e2) (nA := P3) (nc := e3) HP0.out (by rw [N0.out]; exact HP0c.out) HP2.out (by rw [N2.out]; exact HP2c.out) HP3.out (by rw [N3.out]; exact HP3c.out)
  rw [N0.out, N2.out, N3.out] at hsp
  refine hsp.mono ?_
  rintro e w4 ⟨s0, s1, s2, s3, s4, rfl, hX, hb⟩
  obtain ⟨S0, d0, S1, d1, S2, d2, S3, d3, S4, d4, rfl, rfl, rfl, rfl, rfl, -, -, -, -, -⟩ := hX.reads
  have B4 := Aside0.mk (below_then B3.out B3.out.size hb)
  have SP := Aside0.mk (hX.lower B3.out.size)
  clear hX hb hsp HP0 HP2 HP3 HP0c HP2c HP3c B3
  go_wp2_with fail
  have KK := Aside0.mk (blk_new w4 (.cells #[(.slice S0 r1.length d0), (.slice S1 r2.length d1), (.slice S2 r3.length d2), (.slice S3 r4.length d3), (.slice S4 r5.length d4), .int .i64 r6] 48))
  have hb5 := below_alloc (Below.refl w4.heap.size w4) (.cells #[(.slice S0 r1.length d0), (.slice S1 r2.length d1), (.slice S2 r3.length d2), (.slice S3 r4.length d3), (.slice S4 r5.length d4), .int .i64 r6] 48)
  have hz5 : (w4.alloc (.cells #[(.slice S0 r1.length d0), (.slice S1 r2.length d1), (.slice S2 r3.length d2), (.slice S3 r4.length d3), (.slice S4 r5.length d4), .int .i64 r6] 48)).heap.size = w4.heap.size + 1 := by show (w4.heap.push _).size = _; rw [Array.size_push]
  have B5 := Aside0.mk (below_then B4.out B4.out.size hb5)
  have SP5 := Aside0.mk (SP.out.below hb5 (Nat.le_refl _))
  generalize w4.alloc (.cells #[(.slice S0 r1.length d0), (.slice S1 r2.length d1), (.slice S2 r3.length d2), (.slice S3 r4.length d3), (.slice S4 r5.length d4), .int .i64 r6] 48) = w5 at *
  generalize w4.heap.size = b1 at *
  have Z5 := Aside0.mk hz5
  clear hz5 hb5 SP B4
  refine (t0.out w5 B5.out).mono ?_
  rintro e w6 ⟨X0, x0, rfl, hx, hxc, hxb⟩
  have B6 := Aside0.mk (below_then B5.out B5.out.size hxb)
  have HX0 := Aside0.mk (Kd.R_lower hx B5.out.size)
  have HX0c := Aside0.mk hxc
  have SP5 := Aside0.mk (SP5.out.below hxb (by have := Z5.out; skip; omega))
  have KK := Aside0.mk (blk_below KK.out hxb)
  have Z6 := Aside0.mk hxb.size
  clear hx hxb hxc
  go_wp2_with fail
  refine (t2.out w6 B6.out).mono ?_
  rintro e w7 ⟨X2, x2, rfl, hx, hxc, hxb⟩
  have B7 := Aside0.mk (below_then B6.out B6.out.size hxb)
  have HX2 := Aside0.mk (Kd.R_lower hx B6.out.size)
  have HX2c := Aside0.mk hxc
  have SP5 := Aside0.mk (SP5.out.below hxb (by have := Z5.out; have := Z6.out; omega))
  have KK := Aside0.mk (blk_below KK.out hxb)
  have HX0 := Aside0.mk (Kd.R_below HX0.out hxb)
  have Z7 := Aside0.mk hxb.size
  clear hx hxb hxc
  go_wp2_with fail
  refine (t3.out w7 B7.out).mono ?_
  rintro e w8 ⟨X3, x3, rfl, hx, hxc, hxb⟩
  have B8 := Aside0.mk (below_then B7.out B7.out.size hxb)
  have HX3 := Aside0.mk (Kd.R_lower hx B7.out.size)
  have HX3c := Aside0.mk hxc
  have SP5 := Aside0.mk (SP5.out.below hxb (by have := Z5.out; have := Z6.out; have := Z7.out; omega))
  have KK := Aside0.mk (blk_below KK.out hxb)
  have HX0 := Aside0.mk (Kd.R_below HX0.out hxb)
  have HX2 := Aside0.mk (Kd.R_below HX2.out hxb)
  have Z8 := Aside0.mk hxb.size
  clear hx hxb hxc
  go_wp2_with fail
  have him := HRS.out.impl (uA := X0) (uc := x0) (pA := X2) (pc := x2) (nA := X3) (nc := x3) (Kd.R_reads' HX0.out).2.2 (by rw [N0.out]; exact HX0c.out) (Kd.R_reads' HX2.out).2.2 (by rw [N2.out]; exact HX2c.out) (Kd.R_reads' HX3.out).2.2 (by rw [N3.out]; exact HX3c.out)
  rw [N0.out, N2.out, N3.out] at him
  refine him.mono ?_
  rintro e w9 ⟨g0, g1, g2, g3, g4, rfl, hX, hb⟩
  obtain ⟨G0, f0, G1, f1, G2, f2, G3, f3, G4, f4, rfl, rfl, rfl, rfl, rfl, -, -, -, -, -⟩ := hX.reads
  have GP := Aside0.mk (hX.lower B8.out.size)
  have SP5 := Aside0.mk (SP5.out.below hb (by have := Z5.out; have := Z6.out; have := Z7.out; have := Z8.out; omega))
  have KK := Aside0.mk (blk_below KK.out hb)
  have HX0 := Aside0.mk (Kd.R_below HX0.out hb)
  have HX2 := Aside0.mk (Kd.R_below HX2.out hb)
  have HX3 := Aside0.mk (Kd.R_below HX3.out hb)
  have Z9 := Aside0.mk hb.size
  have B9 := Aside0.mk (below_then B8.out B8.out.size hb)
  clear hX hb him B5 B6 B7 B8
  go_upto_region 12 with (fail)
  have LG0 : Aside0 (LG w (w9.alloc (.cells #[(.slice G0 r1.length f0), (.slice G1 r2.length f1), (.slice G2 r3.length f2), (.slice G3 r4.length f3), (.slice G4 r5.length f4), .int .i64 r6] 48)) w3.heap.size b1 b1 w8.heap.size w9.heap.size w9.heap.size (.slice S0 r1.length d0) (.slice S1 r2.length d1) (.slice S2 r3.length d2) (.slice S3 r4.length d3) (.slice S4 r5.length d4) (.slice G0 r1.length f0) (.slice G1 r2.length f1) (.slice G2 r3.length f2) (.slice G3 r4.length f3) (.slice G4 r5.length f4) r1 r2 r3 r4 r5 r6 r1 r2 r3 r4 r5) := ⟨by
    have hb := below_alloc (Below.refl w9.heap.size w9) (.cells #[(.slice G0 r1.length f0), (.slice G1 r2.length f1), (.slice G2 r3.length f2), (.slice G3 r4.length f3), (.slice G4 r5.length f4), .int .i64 r6] 48)
    have h5 := Z5.out
    have h6 := Z6.out
    have h7 := Z7.out
    have h8 := Z8.out
    have h9 := Z9.out
    exact ⟨below_then B9.out B9.out.size hb, SP5.out.below hb (by omega), blk_below KK.out hb, GP.out.below hb (Nat.le_refl _), blk_new _ _, Nat.le_refl _, by omega, by omega, Nat.le_refl _⟩⟩
  have HX0 := Aside0.mk (Kd.R_alloc HX0.out (.cells #[(.slice G0 r1.length f0), (.slice G1 r2.length f1), (.slice G2 r3.length f2), (.slice G3 r4.length f3), (.slice G4 r5.length f4), .int .i64 r6] 48))
  have HX2 := Aside0.mk (Kd.R_alloc HX2.out (.cells #[(.slice G0 r1.length f0), (.slice G1 r2.length f1), (.slice G2 r3.length f2), (.slice G3 r4.length f3), (.slice G4 r5.length f4), .int .i64 r6] 48))
  have HX3 := Aside0.mk (Kd.R_alloc HX3.out (.cells #[(.slice G0 r1.length f0), (.slice G1 r2.length f1), (.slice G2 r3.length f2), (.slice G3 r4.length f3), (.slice G4 r5.length f4), .int .i64 r6] 48))
  generalize w9.alloc (.cells #[(.slice G0 r1.length f0), (.slice G1 r2.length f1), (.slice G2 r3.length f2), (.slice G3 r4.length f3), (.slice G4 r5.length f4), .int .i64 r6] 48) = w10 at *
  generalize w9.heap.size = b2 at *
  clear SP5 KK GP B9
  have cs0 : w10.cell? ⟨b1, 0, none⟩ = some (.slice S0 r1.length d0) := cell_blk LG0.out.k1 0
  have cs1 : w10.cell? ⟨b1, 1, none⟩ = some (.slice S1 r2.length d1) := cell_blk LG0.out.k1 1
  have cs2 : w10.cell? ⟨b1, 2, none⟩ = some (.slice S2 r3.length d2) := cell_blk LG0.out.k1 2
  have cs3 : w10.cell? ⟨b1, 3, none⟩ = some (.slice S3 r4.length d3) := cell_blk LG0.out.k1 3
  have cs4 : w10.cell? ⟨b1, 4, none⟩ = some (.slice S4 r5.length d4) := cell_blk LG0.out.k1 4
  have cs5 : w10.cell? ⟨b1, 5, none⟩ = some (.int .i64 r6) := cell_blk LG0.out.k1 5
  have cg0 : w10.cell? ⟨b2, 0, none⟩ = some (.slice G0 r1.length f0) := cell_blk LG0.out.k2 0
  have cg1 : w10.cell? ⟨b2, 1, none⟩ = some (.slice G1 r2.length f1) := cell_blk LG0.out.k2 1
  have cg2 : w10.cell? ⟨b2, 2, none⟩ = some (.slice G2 r3.length f2) := cell_blk LG0.out.k2 2
  have cg3 : w10.cell? ⟨b2, 3, none⟩ = some (.slice G3 r4.length f3) := cell_blk LG0.out.k2 3
  have cg4 : w10.cell? ⟨b2, 4, none⟩ = some (.slice G4 r5.length f4) := cell_blk LG0.out.k2 4
  have cg5 : w10.cell? ⟨b2, 5, none⟩ = some (.int .i64 r6) := cell_blk LG0.out.k2 5
  go_wp2_with fail
  refine (eqPool_same (fun _ _ _ _ h => h) sliceQ_C LG0.out.gp LG0.out.sp HSM.out).mono ?_
  rintro e w11 ⟨rfl, hb⟩
  have LG0 := Aside0.mk (LG0.out.below hb)
  have HX0 := Aside0.mk (Kd.R_below HX0.out hb)
  have HX2 := Aside0.mk (Kd.R_below HX2.out hb)
  have HX3 := Aside0.mk (Kd.R_below HX3.out hb)
  clear hb
  clear cs0 cs1 cs2 cs3 cs4 cs5 cg0 cg1 cg2 cg3 cg4 cg5
  go_wp2_with fail
  refine (t0.out w11 LG0.out.bel).mono ?_
  rintro e w12 ⟨Y, y, rfl, hy, hyc, hyb⟩
  have LG0 := Aside0.mk (LG0.out.below hyb)
  have HX0 := Aside0.mk (Kd.R_below HX0.out hyb)
  have HX2 := Aside0.mk (Kd.R_below HX2.out hyb)
  have HX3 := Aside0.mk (Kd.R_below HX3.out hyb)
  have HY := Aside0.mk (Kd.R_reads' hy).2.2
  have HYc := Aside0.mk hyc
  clear hy hyb hyc
  go_wp2_with fail
  have heq := eqInt_same (Kd.R_reads' HX0.out).2.2 (by rw [N0.out]; exact HX0c.out) HY.out (by rw [N0.out]; exact HYc.out) (by rw [N0.out]; exact h0)
  rw [N0.out] at heq
  refine heq.mono ?_
  rintro e w13 ⟨rfl, hb⟩
  have LG0 := Aside0.mk (LG0.out.below hb)
  have HX0 := Aside0.mk (Kd.R_below HX0.out hb)
  have HX2 := Aside0.mk (Kd.R_below HX2.out hb)
  have HX3 := Aside0.mk (Kd.R_below HX3.out hb)
  clear hb heq HY HYc
  go_wp2_with fail
  refine (t2.out w13 LG0.out.bel).mono ?_
  rintro e w14 ⟨Y, y, rfl, hy, hyc, hyb⟩
  have LG0 := Aside0.mk (LG0.out.below hyb)
  have HX0 := Aside0.mk (Kd.R_below HX0.out hyb)
  have HX2 := Aside0.mk (Kd.R_below HX2.out hyb)
  have HX3 := Aside0.mk (Kd.R_below HX3.out hyb)
  have HY := Aside0.mk (Kd.R_reads' hy).2.2
  have HYc := Aside0.mk hyc
  clear hy hyb hyc
  go_wp2_with fail
  have heq := eqInt_same (Kd.R_reads' HX2.out).2.2 (by rw [N2.out]; exact HX2c.out) HY.out (by rw [N2.out]; exact HYc.out) (by rw [N2.out]; exact h2)
  rw [N2.out] at heq
  refine heq.mono ?_
  rintro e w15 ⟨rfl, hb⟩
  have LG0 := Aside0.mk (LG0.out.below hb)
  have HX0 := Aside0.mk (Kd.R_below HX0.out hb)
  have HX2 := Aside0.mk (Kd.R_below HX2.out hb)
  have HX3 := Aside0.mk (Kd.R_below HX3.out hb)
  clear hb heq HY HYc
  go_wp2_with fail
  refine (t3.out w15 LG0.out.bel).mono ?_
  rintro e w16 ⟨Y, y, rfl, hy, hyc, hyb⟩
  have LG0 := Aside0.mk (LG0.out.below hyb)
  have HX0 := Aside0.mk (Kd.R_below HX0.out hyb)
  have HX2 := Aside0.mk (Kd.R_below HX2.out hyb)
  have HX3 := Aside0.mk (Kd.R_below HX3.out hyb)
  have HY := Aside0.mk (Kd.R_reads' hy).2.2
  have HYc := Aside0.mk hyc
  clear hy hyb hyc
  go_wp2_with fail
  have heq := eqInt_same (Kd.R_reads' HX3.out).2.2 (by rw [N3.out]; exact HX3c.out) HY.out (by rw [N3.out]; exact HYc.out) (by rw [N3.out]; exact h3)
  rw [N3.out] at heq
  refine heq.mono ?_
  rintro e w17 ⟨rfl, hb⟩
  have LG0 := Aside0.mk (LG0.out.below hb)
  have HX0 := Aside0.mk (Kd.R_below HX0.out hb)
  have HX2 := Aside0.mk (Kd.R_below HX2.out hb)
  have HX3 := Aside0.mk (Kd.R_below HX3.out hb)
  clear hb heq HY HYc
  go_wp2_with fail
  obtain ⟨m0, hm0⟩ : ∃ m : Int, m = 1 + (l0.length : Int) := ⟨_, rfl⟩
  have bm0 : 0 ≤ m0 ∧ m0 ≤ 10000000 := by have := N0.out; omega
  have M0 := Aside0.mk hm0
  clear hm0
  refine (markInt_own M0.out LG0.out.bel HX0.out (by rw [N0.out]; omega) (by omega) (by omega)).mono ?_
  rintro e w18 ⟨rfl, -, hb, hk⟩
  have LG0 := Aside0.mk (LG0.out.between hk hb (fun k hh => by have h1 := HX0.out.1 k hh.symm; have h5 := Z5.out; have h6 := Z6.out; have h7 := Z7.out; have h8 := Z8.out; omega))
  have HX2 := Aside0.mk (Kd.R_kept HX2.out hk (fun k hh he => by have h1 := HX0.out.1 k he.symm; have h6 := Z6.out; have h7 := Z7.out; omega))
  have HX3 := Aside0.mk (Kd.R_kept HX3.out hk (fun k hh he => by have h1 := HX0.out.1 k he.symm; have h6 := Z6.out; have h7 := Z7.out; omega))
  clear hb hk HX0
  go_wp2_with fail
  obtain ⟨m1, hm1⟩ : ∃ m : Int, m = m0 + (l2.length : Int) := ⟨_, rfl⟩
  have bm1 : 0 ≤ m1 ∧ m1 ≤ 20000000 := by have := N2.out; omega
  have M1 := Aside0.mk hm1
  clear hm1
  refine (markInt_own M1.out LG0.out.bel HX2.out (by rw [N2.out]; omega) (by omega) (by omega)).mono ?_
  rintro e w19 ⟨rfl, -, hb, hk⟩
  have LG0 := Aside0.mk (LG0.out.between hk hb (fun k hh => by have h1 := HX2.out.1 k hh.symm; have h5 := Z5.out; have h6 := Z6.out; have h7 := Z7.out; have h8 := Z8.out; omega))
  have HX3 := Aside0.mk (Kd.R_kept HX3.out hk (fun k hh he => by have h1 := HX2.out.1 k he.symm; have h6 := Z6.out; have h7 := Z7.out; omega))
  clear hb hk HX2
  go_wp2_with fail
  obtain ⟨m2, hm2⟩ : ∃ m : Int, m = m1 + (l3.length : Int) := ⟨_, rfl⟩
  have bm2 : 0 ≤ m2 ∧ m2 ≤ 30000000 := by have := N3.out; omega
  have M2 := Aside0.mk hm2
  clear hm2
  refine (markInt_own M2.out LG0.out.bel HX3.out (by rw [N3.out]; omega) (by omega) (by omega)).mono ?_
  rintro e w20 ⟨rfl, -, hb, hk⟩
  have LG0 := Aside0.mk (LG0.out.between hk hb (fun k hh => by have h1 := HX3.out.1 k hh.symm; have h5 := Z5.out; have h6 := Z6.out; have h7 := Z7.out; have h8 := Z8.out; omega))
  clear hb hk HX3
  clear M0 M1 M2
  have cs0 : w20.cell? ⟨b1, 0, none⟩ = some (.slice S0 r1.length d0) := cell_blk LG0.out.k1 0
  have cs1 : w20.cell? ⟨b1, 1, none⟩ = some (.slice S1 r2.length d1) := cell_blk LG0.out.k1 1
  have cs2 : w20.cell? ⟨b1, 2, none⟩ = some (.slice S2 r3.length d2) := cell_blk LG0.out.k1 2
  have cs3 : w20.cell? ⟨b1, 3, none⟩ = some (.slice S3 r4.length d3) := cell_blk LG0.out.k1 3
  have cs4 : w20.cell? ⟨b1, 4, none⟩ = some (.slice S4 r5.length d4) := cell_blk LG0.out.k1 4
  have cs5 : w20.cell? ⟨b1, 5, none⟩ = some (.int .i64 r6) := cell_blk LG0.out.k1 5
  have cg0 : w20.cell? ⟨b2, 0, none⟩ = some (.slice G0 r1.length f0) := cell_blk LG0.out.k2 0
  have cg1 : w20.cell? ⟨b2, 1, none⟩ = some (.slice G1 r2.length f1) := cell_blk LG0.out.k2 1
  have cg2 : w20.cell? ⟨b2, 2, none⟩ = some (.slice G2 r3.length f2) := cell_blk LG0.out.k2 2
  have cg3 : w20.cell? ⟨b2, 3, none⟩ = some (.slice G3 r4.length f3) := cell_blk LG0.out.k2 3
  have cg4 : w20.cell? ⟨b2, 4, none⟩ = some (.slice G4 r5.length f4) := cell_blk LG0.out.k2 4
  have cg5 : w20.cell? ⟨b2, 5, none⟩ = some (.int .i64 r6) := cell_blk LG0.out.k2 5
  go_wp2_with fail
  refine (eqPool_same (fun _ _ _ _ h => h) sliceQ_C LG0.out.gp LG0.out.sp HSM.out).mono ?_
  rintro e w21 ⟨rfl, hb⟩
  have LG0 := Aside0.mk (LG0.out.below hb)
  clear hb
  clear cs0 cs1 cs2 cs3 cs4 cs5 cg0 cg1 cg2 cg3 cg4 cg5
  have cg0 : w21.cell? ⟨b2, 0, none⟩ = some (.slice G0 r1.length f0) := cell_blk LG0.out.k2 0
  have cg1 : w21.cell? ⟨b2, 1, none⟩ = some (.slice G1 r2.length f1) := cell_blk LG0.out.k2 1
  have cg2 : w21.cell? ⟨b2, 2, none⟩ = some (.slice G2 r3.length f2) := cell_blk LG0.out.k2 2
  have cg3 : w21.cell? ⟨b2, 3, none⟩ = some (.slice G3 r4.length f3) := cell_blk LG0.out.k2 3
  have cg4 : w21.cell? ⟨b2, 4, none⟩ = some (.slice G4 r5.length f4) := cell_blk LG0.out.k2 4
  have cg5 : w21.cell? ⟨b2, 5, none⟩ = some (.int .i64 r6) := cell_blk LG0.out.k2 5
  go_wp2_with fail
  have hmk := markPool_calls r6 LG0.out.bel LG0.out.gp (by have := LG0.out.o4; have := LG0.out.lt2; omega) HSM.out
  rw [HME.out] at hmk
  refine hmk.mono ?_
  rintro e w22 ⟨rfl, ⟨q1, q2, q3, q4, q5, hX, hEv, -, -, -, -, -⟩, hb, hk⟩
  have LG1 := Aside0.mk (LG0.out.marked hk hb hX)
  have HEV := Aside0.mk hEv
  clear hb hk hX hEv hmk LG0
  clear cg0 cg1 cg2 cg3 cg4 cg5
  have cg0 : w22.cell? ⟨b2, 0, none⟩ = some (.slice G0 r1.length f0) := cell_blk LG1.out.k2 0
  have cg1 : w22.cell? ⟨b2, 1, none⟩ = some (.slice G1 r2.length f1) := cell_blk LG1.out.k2 1
  have cg2 : w22.cell? ⟨b2, 2, none⟩ = some (.slice G2 r3.length f2) := cell_blk LG1.out.k2 2
  have cg3 : w22.cell? ⟨b2, 3, none⟩ = some (.slice G3 r4.length f3) := cell_blk LG1.out.k2 3
  have cg4 : w22.cell? ⟨b2, 4, none⟩ = some (.slice G4 r5.length f4) := cell_blk LG1.out.k2 4
  have cg5 : w22.cell? ⟨b2, 5, none⟩ = some (.int .i64 r6) := cell_blk LG1.out.k2 5
  go_wp2_with fail
  refine (heldPool_same LG1.out.gp HEV.out).mono ?_
  rintro e w23 ⟨rfl, hb⟩
  have LG1 := Aside0.mk (LG1.out.below hb)
  clear hb
  clear cg0 cg1 cg2 cg3 cg4 cg5
  go_wp2_with fail
  refine (t0.out w23 LG1.out.bel).mono ?_
  rintro e w24 ⟨T0, t0_, rfl, hy, hyc, hyb⟩
  have LG1 := Aside0.mk (LG1.out.below hyb)
  have HT0 := Aside0.mk (Kd.R_reads' hy).2.2
  have HT0c := Aside0.mk hyc
  clear hy hyb hyc
  go_wp2_with fail
  refine (t2.out w24 LG1.out.bel).mono ?_
  rintro e w25 ⟨T2, t2_, rfl, hy, hyc, hyb⟩
  have LG1 := Aside0.mk (LG1.out.below hyb)
  have HT0 := Aside0.mk (Kd.C_below HT0.out hyb)
  have HT2 := Aside0.mk (Kd.R_reads' hy).2.2
  have HT2c := Aside0.mk hyc
  clear hy hyb hyc
  go_wp2_with fail
  refine (t3.out w25 LG1.out.bel).mono ?_
  rintro e w26 ⟨T3, t3_, rfl, hy, hyc, hyb⟩
  have LG1 := Aside0.mk (LG1.out.below hyb)
  have HT0 := Aside0.mk (Kd.C_below HT0.out hyb)
  have HT2 := Aside0.mk (Kd.C_below HT2.out hyb)
  have HT3 := Aside0.mk (Kd.R_reads' hy).2.2
  have HT3c := Aside0.mk hyc
  clear hy hyb hyc
  go_wp2_with fail
  have him := HRS.out.impl (uA := T0) (uc := t0_) (pA := T2) (pc := t2_) (nA := T3) (nc := t3_) HT0.out (by rw [N0.out]; exact HT0c.out) HT2.out (by rw [N2.out]; exact HT2c.out) HT3.out (by rw [N3.out]; exact HT3c.out)
  rw [N0.out, N2.out, N3.out] at him
  refine him.mono ?_
  rintro e w27 ⟨g0, g1, g2, g3, g4, rfl, hX, hb⟩
  obtain ⟨H0, j0, H1, j1, H2, j2, H3, j3, H4, j4, rfl, rfl, rfl, rfl, rfl, -, -, -, -, -⟩ := hX.reads
  have LG1 := Aside0.mk (LG1.out.below hb)
  have HP := Aside0.mk hX
  clear hX hb him HT0 HT2 HT3 HT0c HT2c HT3c
  go_upto_region 35 with (fail)
  have hba := below_alloc (Below.refl w27.heap.size w27) (.cells #[(.slice H0 r1.length j0), (.slice H1 r2.length j1), (.slice H2 r3.length j2), (.slice H3 r4.length j3), (.slice H4 r5.length j4), .int .i64 r6] 48)
  have KH := Aside0.mk (blk_new w27 (.cells #[(.slice H0 r1.length j0), (.slice H1 r2.length j1), (.slice H2 r3.length j2), (.slice H3 r4.length j3), (.slice H4 r5.length j4), .int .i64 r6] 48))
  have HP := Aside0.mk (HP.out.below hba (Nat.le_refl _))
  have LG1 := Aside0.mk (LG1.out.below hba)
  generalize w27.alloc (.cells #[(.slice H0 r1.length j0), (.slice H1 r2.length j1), (.slice H2 r3.length j2), (.slice H3 r4.length j3), (.slice H4 r5.length j4), .int .i64 r6] 48) = wz at *
  generalize w27.heap.size = b3 at *
  clear hba
  have ch0 : wz.cell? ⟨b3, 0, none⟩ = some (.slice H0 r1.length j0) := cell_blk KH.out 0
  have ch1 : wz.cell? ⟨b3, 1, none⟩ = some (.slice H1 r2.length j1) := cell_blk KH.out 1
  have ch2 : wz.cell? ⟨b3, 2, none⟩ = some (.slice H2 r3.length j2) := cell_blk KH.out 2
  have ch3 : wz.cell? ⟨b3, 3, none⟩ = some (.slice H3 r4.length j3) := cell_blk KH.out 3
  have ch4 : wz.cell? ⟨b3, 4, none⟩ = some (.slice H4 r5.length j4) := cell_blk KH.out 4
  have ch5 : wz.cell? ⟨b3, 5, none⟩ = some (.int .i64 r6) := cell_blk KH.out 5
  have cs0 : wz.cell? ⟨b1, 0, none⟩ = some (.slice S0 r1.length d0) := cell_blk LG1.out.k1 0
  have cs1 : wz.cell? ⟨b1, 1, none⟩ = some (.slice S1 r2.length d1) := cell_blk LG1.out.k1 1
  have cs2 : wz.cell? ⟨b1, 2, none⟩ = some (.slice S2 r3.length d2) := cell_blk LG1.out.k1 2
  have cs3 : wz.cell? ⟨b1, 3, none⟩ = some (.slice S3 r4.length d3) := cell_blk LG1.out.k1 3
  have cs4 : wz.cell? ⟨b1, 4, none⟩ = some (.slice S4 r5.length d4) := cell_blk LG1.out.k1 4
  have cs5 : wz.cell? ⟨b1, 5, none⟩ = some (.int .i64 r6) := cell_blk LG1.out.k1 5
  go_wp2_with fail
  refine (eqPool_same (fun _ _ _ _ h => h) sliceQ_C HP.out LG1.out.sp HSM.out).mono ?_
  rintro e wy ⟨rfl, hb⟩
  have LG1 := Aside0.mk (LG1.out.below hb)
  clear hb
  clear cs0 cs1 cs2 cs3 cs4 cs5
  clear ch0 ch1 ch2 ch3 ch4 ch5
  have cg0 : wy.cell? ⟨b2, 0, none⟩ = some (.slice G0 r1.length f0) := cell_blk LG1.out.k2 0
  have cg1 : wy.cell? ⟨b2, 1, none⟩ = some (.slice G1 r2.length f1) := cell_blk LG1.out.k2 1
  have cg2 : wy.cell? ⟨b2, 2, none⟩ = some (.slice G2 r3.length f2) := cell_blk LG1.out.k2 2
  have cg3 : wy.cell? ⟨b2, 3, none⟩ = some (.slice G3 r4.length f3) := cell_blk LG1.out.k2 3
  have cg4 : wy.cell? ⟨b2, 4, none⟩ = some (.slice G4 r5.length f4) := cell_blk LG1.out.k2 4
  have cg5 : wy.cell? ⟨b2, 5, none⟩ = some (.int .i64 r6) := cell_blk LG1.out.k2 5
  go_wp2_with fail
  refine (heldPool_same LG1.out.gp HEV.out).mono ?_
  rintro e wx ⟨rfl, hb⟩
  have LG1 := Aside0.mk (LG1.out.below hb)
  clear hb
  clear cg0 cg1 cg2 cg3 cg4 cg5
  go_wp2_with fail
  go_ret
  exact ⟨rfl, LG1.out.bel⟩
end Go.Proofs.Ytoaimlpbliabdaa.QFnExactEventsOf
