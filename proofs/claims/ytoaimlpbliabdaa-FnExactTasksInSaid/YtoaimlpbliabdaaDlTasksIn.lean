/- The law of TasksIn walked: its call returns true. No conditions but those of each lemma. -/
import Derived.Test.YtoaimlpbliabdaaDkE
import Derived.Test.YtoaimlpbliabdaaDkT
namespace Go.Proofs.Ytoaimlpbliabdaa.DFnExactPushTo
open Go.RowKit Go.Proofs.YtoaimlpbliabdaaW.PrintWords Go.Proofs.YtoaimlpbliabdaaW.PrintLast Go.Proofs.YtoaimlpbliabdaaW.PrintMore
set_option linter.unusedVariables false
set_option linter.unusedSimpArgs false

set_option maxRecDepth 100000 in
set_option maxHeartbeats 8000000 in
theorem law_TasksIn (A : Option Addr) (c : Nat) (d : List (List Int))  (w : World) (hr : Kd.C (Kd.slice 3 (Kd.int .i64)) w A d.length d) (hc : d.length ≤ c) (hlt : d.length + tl d ≤ 1048576) (r1 : List Int) (r2 : Bool)
    (hS : ∀ (w : World) (A : Option Addr) (c : Nat), Kd.C (Kd.slice 3 (Kd.int .i64)) w A d.length d → d.length ≤ c → Calls Try.prog 55 #[.slice A d.length c] w (TaskOut w r1 r2))
    (hI : ∀ (w : World) (A : Option Addr) (c : Nat), Kd.C (Kd.slice 3 (Kd.int .i64)) w A d.length d → d.length ≤ c → Calls Try.prog 56 #[.slice A d.length c] w (TaskOut w r1 r2))
    (h1 : r1.length ≤ 1048576) :
    Calls Try.prog 10 #[.slice A d.length c] w fun e w' => e = .returned (.bool true) ∧ Below w.heap.size w w' := by
  have HR := Aside0.mk hr
  have HC := Aside0.mk hc
  have HS := Aside0.mk hS
  have HI := Aside0.mk hI
  have hrl : ∀ r ∈ d, r.length ≤ 9223372036854775807 := fun r hm => by have := len_le_tl hm; omega
  have HSZ := Aside0.mk (sz_c hr hc (by omega) hrl (1048576 - ((d.length + tl d : Nat) : Int)) (by rw [if_neg (by omega)]))
  obtain ⟨z, hz⟩ : ∃ z : Int, z = 1048576 - ((d.length + tl d : Nat) : Int) := ⟨_, rfl⟩
  have hz0 : 0 ≤ z ∧ z ≤ 1048576 := by omega
  rw [← hz] at HSZ
  have HT := Aside0.mk (fun (W : World) (hb : Below w.heap.size w W) => toSS_c (Kd.C_below hr hb) hc (by omega) (by omega))
  have HLT := Aside0.mk hlt
  have H1 := Aside0.mk h1
  skip
  obtain ⟨m, hm⟩ : ∃ m : Int, m = 1 + (tl d : Int) := ⟨_, rfl⟩
  have hm0 : 0 ≤ m ∧ m ≤ 2000000 := by omega
  obtain ⟨q, hq⟩ : ∃ q : Int, q = 1 + (r1.length : Int) := ⟨_, rfl⟩
  have hq0 : 0 ≤ q ∧ q ≤ 2000000 := by omega
  have HM := Aside0.mk hm
  have HQ := Aside0.mk hq
  have cmp0 : (r2 == r2) = true := by simp
  have cmp1 : (r2 != r2) = false := by simp
  generalize hn : d.length = n at *
  have HN := Aside0.mk hn
  generalize hn1 : r1.length = n1 at *
  have HN1 := Aside0.mk hn1
  clear hr hc hS hI hrl hz hlt h1 hm hq hn hn1
  go_enter Try.func10, Try.ntmps10
  go_wp2_with fail
  refine HSZ.out.mono ?_
  rintro e w1 ⟨rfl, hb⟩
  have B1 := Aside0.mk hb
  clear hb HSZ
  go_wp2_with fail
  refine (HT.out w1 B1.out).mono ?_
  rintro e w2 ⟨P, Pc, rfl, Ph, PS, hb⟩
  have B2 := Aside0.mk (below_then B1.out B1.out.size hb)
  have hcall := HS.out w2 P Pc (by have q := (Kd.S_reads' PS).2.2; rw [HN.out] at q; exact q) Ph
  clear PS Ph hb B1
  go_wp2_with fail
  refine hcall.mono ?_
  rintro e w3 ⟨v, rfl, hX, hb⟩
  obtain ⟨S0, d0, rfl, hd0, -⟩ := Kd.R_reads hX
  rw [HN1.out] at hX hd0
  rw [HN1.out]
  have SP := Aside0.mk (RX.of hX B2.out.size)
  have B3 := Aside0.mk (below_then B2.out B2.out.size hb)
  have Z3 := Aside0.mk hb.size
  clear hX hb hcall hd0
  go_wp2_with fail
  refine (HT.out w3 B3.out).mono ?_
  rintro e w4 ⟨X, Xc, rfl, Xh, XS, hb⟩
  have B4 := Aside0.mk (below_then B3.out B3.out.size hb)
  have XS := Aside0.mk (show SX w3.heap.size w4.heap.size w.heap.size w4 (.slice X n Xc) d from Kd.S_lower XS B3.out.size)
  have XH := Aside0.mk Xh
  have SP := Aside0.mk (SP.out.below hb (Nat.le_refl _))
  have Z4 := Aside0.mk hb.size
  clear hb Xh
  go_wp2_with fail
  have hcall := HI.out w4 X Xc (by have q := (Kd.S_reads' XS.out).2.2; rw [HN.out] at q; exact q) XH.out
  refine hcall.mono ?_
  rintro e w5 ⟨v, rfl, hX, hb⟩
  obtain ⟨G0, g0, rfl, hd0, -⟩ := Kd.R_reads hX
  rw [HN1.out] at hX hd0
  rw [HN1.out]
  have GP := Aside0.mk (RX.of hX B4.out.size)
  have B5 := Aside0.mk (below_then B4.out B4.out.size hb)
  have SP := Aside0.mk (SP.out.below hb Z4.out)
  have XS := Aside0.mk (XS.out.below hb (Nat.le_refl _))
  have Z5 := Aside0.mk hb.size
  clear hX hb hcall hd0
  go_wp2_with fail
  refine (eqS1_c GP.out SP.out (by have := H1.out; have := HN1.out; omega)).mono ?_
  rintro e w6 ⟨rfl, hb⟩
  have SP := Aside0.mk (SP.out.below hb (by have := Z3.out; have := Z4.out; have := Z5.out; omega))
  have XS := Aside0.mk (XS.out.below hb (by have := Z3.out; have := Z4.out; have := Z5.out; omega))
  have GP := Aside0.mk (GP.out.below hb (by have := Z3.out; have := Z4.out; have := Z5.out; omega))
  have B6 := Aside0.mk (below_then B5.out B5.out.size hb)
  have Z6 := Aside0.mk hb.size
  clear hb
  go_wp2_with fail
  refine (HT.out w6 B6.out).mono ?_
  rintro e w7 ⟨Y, Yc, rfl, Yh, YS, hb⟩
  have B7 := Aside0.mk (below_then B6.out B6.out.size hb)
  have SP := Aside0.mk (SP.out.below hb (by have := Z3.out; have := Z4.out; have := Z5.out; have := Z6.out; omega))
  have XS := Aside0.mk (XS.out.below hb (by have := Z3.out; have := Z4.out; have := Z5.out; have := Z6.out; omega))
  have GP := Aside0.mk (GP.out.below hb (by have := Z3.out; have := Z4.out; have := Z5.out; have := Z6.out; omega))
  have Z7 := Aside0.mk hb.size
  have YS := Aside0.mk (show SX w6.heap.size w7.heap.size w6.heap.size w7 (.slice Y n Yc) d from YS)
  clear hb Yh
  go_wp2_with fail
  refine (eqSS_c XS.out YS.out (by have := HLT.out; have := HN.out; omega) (by have := HLT.out; omega)).mono ?_
  rintro e w8 ⟨rfl, hb⟩
  have SP := Aside0.mk (SP.out.below hb (by have := Z3.out; have := Z4.out; have := Z5.out; have := Z6.out; have := Z7.out; omega))
  have XS := Aside0.mk (XS.out.below hb (by have := Z3.out; have := Z4.out; have := Z5.out; have := Z6.out; have := Z7.out; omega))
  have GP := Aside0.mk (GP.out.below hb (by have := Z3.out; have := Z4.out; have := Z5.out; have := Z6.out; have := Z7.out; omega))
  have B8 := Aside0.mk (below_then B7.out B7.out.size hb)
  have Z8 := Aside0.mk hb.size
  clear hb
  clear YS
  go_wp2_with fail
  refine (markSS_c B8.out XS.out (by have := HLT.out; have := HN.out; omega) (by have := HLT.out; omega) HM.out).mono ?_
  rintro e w9 ⟨rfl, -, hb, hk⟩
  have SP := Aside0.mk (SP.out.kept hk (by have := Z3.out; have := Z4.out; have := Z5.out; have := Z6.out; have := Z7.out; have := Z8.out; omega) (fun k hh => by have := Z4.out; omega))
  have GP := Aside0.mk (GP.out.kept hk (by have := Z3.out; have := Z4.out; have := Z5.out; have := Z6.out; have := Z7.out; have := Z8.out; omega) (fun k hh => by omega))
  have B9 := Aside0.mk hb
  have Z9 := Aside0.mk hk.1
  clear hb hk XS
  go_wp2_with fail
  refine (eqS1_c GP.out SP.out (by have := H1.out; have := HN1.out; omega)).mono ?_
  rintro e w10 ⟨rfl, hb⟩
  have SP := Aside0.mk (SP.out.below hb (by have := Z3.out; have := Z4.out; have := Z5.out; have := Z6.out; have := Z7.out; have := Z8.out; have := Z9.out; omega))
  have GP := Aside0.mk (GP.out.below hb (by have := Z3.out; have := Z4.out; have := Z5.out; have := Z6.out; have := Z7.out; have := Z8.out; have := Z9.out; omega))
  have B10 := Aside0.mk (below_then B9.out B9.out.size hb)
  have Z10 := Aside0.mk hb.size
  clear hb
  go_wp2_with fail
  refine (markS1_c B10.out GP.out HN1.out (by have := H1.out; have := HN1.out; omega) (by have := Z5.out; have := Z6.out; have := Z7.out; have := Z8.out; have := Z9.out; have := Z10.out; omega) HQ.out).mono ?_
  rintro e w11 ⟨rfl, hM, hb, hk⟩
  have SP := Aside0.mk (SP.out.kept hk (by have := Z3.out; have := Z4.out; have := Z5.out; have := Z6.out; have := Z7.out; have := Z8.out; have := Z9.out; have := Z10.out; omega) (fun k hh => by have := Z4.out; omega))
  have GM := Aside0.mk hM
  have B11 := Aside0.mk hb
  have Z11 := Aside0.mk hk.1
  clear hb hk hM GP
  go_wp2_with fail
  refine (heldS1_c GM.out (by have := H1.out; have := HN1.out; omega) HQ.out).mono ?_
  rintro e w12 ⟨rfl, hb⟩
  have SP := Aside0.mk (SP.out.below hb (by have := Z3.out; have := Z4.out; have := Z5.out; have := Z6.out; have := Z7.out; have := Z8.out; have := Z9.out; have := Z10.out; have := Z11.out; omega))
  have GM := Aside0.mk (GM.out.below hb (by have := Z3.out; have := Z4.out; have := Z5.out; have := Z6.out; have := Z7.out; have := Z8.out; have := Z9.out; have := Z10.out; have := Z11.out; omega))
  have B12 := Aside0.mk (below_then B11.out B11.out.size hb)
  have Z12 := Aside0.mk hb.size
  clear hb
  go_wp2_with fail
  refine (HT.out w12 B12.out).mono ?_
  rintro e w13 ⟨Y, Yc, rfl, Yh, YS, hb⟩
  have B13 := Aside0.mk (below_then B12.out B12.out.size hb)
  have SP := Aside0.mk (SP.out.below hb (by have := Z3.out; have := Z4.out; have := Z5.out; have := Z6.out; have := Z7.out; have := Z8.out; have := Z9.out; have := Z10.out; have := Z11.out; have := Z12.out; omega))
  have GM := Aside0.mk (GM.out.below hb (by have := Z3.out; have := Z4.out; have := Z5.out; have := Z6.out; have := Z7.out; have := Z8.out; have := Z9.out; have := Z10.out; have := Z11.out; have := Z12.out; omega))
  have Z13 := Aside0.mk hb.size
  have hcall := HI.out w13 Y Yc (by have q := (Kd.S_reads' YS).2.2; rw [HN.out] at q; exact q) Yh
  clear hb YS Yh
  go_wp2_with fail
  refine hcall.mono ?_
  rintro e w14 ⟨v, rfl, hX, hb⟩
  obtain ⟨K0, k0, rfl, hd0, -⟩ := Kd.R_reads hX
  rw [HN1.out] at hX hd0
  rw [HN1.out]
  have KP := Aside0.mk (RX.of hX B13.out.size)
  have SP := Aside0.mk (SP.out.below hb (by have := Z3.out; have := Z4.out; have := Z5.out; have := Z6.out; have := Z7.out; have := Z8.out; have := Z9.out; have := Z10.out; have := Z11.out; have := Z12.out; have := Z13.out; omega))
  have GM := Aside0.mk (GM.out.below hb (by have := Z3.out; have := Z4.out; have := Z5.out; have := Z6.out; have := Z7.out; have := Z8.out; have := Z9.out; have := Z10.out; have := Z11.out; have := Z12.out; have := Z13.out; omega))
  have B14 := Aside0.mk (below_then B13.out B13.out.size hb)
  have Z14 := Aside0.mk hb.size
  clear hX hb hcall hd0
  go_wp2_with fail
  refine (eqS1_c KP.out SP.out (by have := H1.out; have := HN1.out; omega)).mono ?_
  rintro e w15 ⟨rfl, hb⟩
  have GM := Aside0.mk (GM.out.below hb (by have := Z3.out; have := Z4.out; have := Z5.out; have := Z6.out; have := Z7.out; have := Z8.out; have := Z9.out; have := Z10.out; have := Z11.out; have := Z12.out; have := Z13.out; have := Z14.out; omega))
  have B15 := Aside0.mk (below_then B14.out B14.out.size hb)
  have Z15 := Aside0.mk hb.size
  clear hb
  clear KP SP
  go_wp2_with fail
  refine (heldS1_c GM.out (by have := H1.out; have := HN1.out; omega) HQ.out).mono ?_
  rintro e w16 ⟨rfl, hb⟩
  have B16 := Aside0.mk (below_then B15.out B15.out.size hb)
  have Z16 := Aside0.mk hb.size
  clear hb
  go_wp2_with fail
  go_ret
  exact ⟨rfl, B16.out⟩
end Go.Proofs.Ytoaimlpbliabdaa.DFnExactPushTo
