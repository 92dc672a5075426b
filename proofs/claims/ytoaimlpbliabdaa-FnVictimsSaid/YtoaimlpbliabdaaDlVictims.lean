/- The law of FnVictims walked: its call returns true. No conditions but those of each lemma. -/
import Derived.Test.YtoaimlpbliabdaaDkY
import Derived.Test.YtoaimlpbliabdaaDkW
namespace Go.Proofs.Ytoaimlpbliabdaa.DFnExactPushTo
open Go.RowKit Go.Proofs.YtoaimlpbliabdaaW.PrintWords Go.Proofs.YtoaimlpbliabdaaW.PrintLast Go.Proofs.YtoaimlpbliabdaaW.PrintMore
set_option linter.unusedVariables false
set_option linter.unusedSimpArgs false

theorem vOf_true {d : List (List Int)} {a t v : Int} (h : vOf d a t = (v, true)) : goodB d = true ∧ v ≠ a ∧ ∃ j m : Nat, v = (j : Int) ∧ workB d (j : Int) = true ∧ (d.getD j []).length = m + 1 := by
  unfold vOf at h
  split at h
  · rename_i hw
    split at h
    · injection h with _ h; cases h
    · rename_i ht
      split at h
      · injection h with _ h; cases h
      · rename_i hn
        injection h with h1 _
        obtain ⟨j, e1, e2, e3, e4⟩ := vf_mem a d 0 _ (vpick_mem hn (by omega : 0 ≤ t))
        obtain ⟨g1, g2, g3⟩ := workB_iff.1 hw
        refine ⟨g1, by rw [← h1]; exact e3, j, (d.getD j []).length - 1, by rw [← h1, e1]; omega, workB_iff.2 ⟨g1, by omega, by omega⟩, by have := List.length_pos_iff.2 e4; omega⟩
  · injection h with _ h; cases h
theorem good_nils {q : Nat} (h1 : 1 ≤ q) (h2 : q ≤ 8) : goodB (List.replicate q []) = true := by
  rw [goodB_iff]
  refine ⟨by simpa using h1, by simpa using h2, by simp, by simp, by simp⟩
theorem all_nils (q : Nat) : allL (List.replicate q []) = [] := by unfold allL; simp [putsL]
theorem vOf_nils (q : Nat) : vOf (List.replicate q []) 0 0 = (0, false) := by
  unfold vOf
  rw [vf_nil]
  simp
theorem tl_nils (q : Nat) : tl (List.replicate q ([] : List Int)) = 0 := by simp [tl]
set_option maxRecDepth 100000 in
set_option maxHeartbeats 8000000 in
theorem law_FnVictims {w : World} {A B : Option Addr} {c c' : Nat} {l m : List Int} (h1 : Kd.C (Kd.int .u8) w A l.length l) (hc : l.length ≤ c) (h2 : Kd.C (Kd.int .u8) w B m.length m) (hc' : m.length ≤ c') (hb1 : ∀ x ∈ l, 0 ≤ x ∧ x ≤ 255) (hb2 : ∀ x ∈ m, 0 ≤ x ∧ x ≤ 255) :
    Calls Try.prog 11 #[.slice A l.length c, .slice B m.length c'] w fun e w' => e = .returned (.bool true) ∧ Below w.heap.size w w' := by
  obtain ⟨big, hbig⟩ := big_c h1 hc h2 hc'
  have HBIG := Aside0.mk hbig
  have HDV := Aside0.mk (fun (W : World) (hb : Below w.heap.size w W) => drawV_c (c := c) (Kd.C_below h1 hb) hb1)
  have HDN := Aside0.mk (fun (W : World) (hb : Below w.heap.size w W) => drawN_c (c := c') (Kd.C_below h2 hb) hb2)
  generalize l.length = ln at *
  generalize m.length = mn at *
  clear h1 hc h2 hc' hb1 hb2 hbig
  cases big with
  | true =>
    go_enter Try.func11, Try.ntmps11
    go_wp2_with fail
    refine HBIG.out.mono ?_
    rintro e w1 ⟨rfl, hb⟩
    have HB1 := Aside0.mk hb
    clear hb HBIG HDV HDN
    go_wp2_with fail
    go_ret
    exact ⟨rfl, HB1.out⟩
  | false =>
    go_enter Try.func11, Try.ntmps11
    go_wp2_with fail
    refine HBIG.out.mono ?_
    rintro e w1 ⟨rfl, hb⟩
    have HB1 := Aside0.mk hb
    clear hb HBIG
    go_wp2_with fail
    refine (HDV.out w1 HB1.out).mono ?_
    rintro e w2 ⟨gd, n, d, a, t, rfl, hdn, hn1, hn4, htl, hS, -, -, -, -, hb⟩
    have HD := Aside0.mk (And.intro hdn htl)
    have HS2 := Aside0.mk (SX.of hS HB1.out.size)
    have HB2 := Aside0.mk (below_then HB1.out HB1.out.size hb)
    have Z2 := Aside0.mk hb.size
    clear hS hb HDV HB1 hdn htl
    go_wp2_with fail
    obtain ⟨-, -, C2⟩ := Kd.S_reads' HS2.out
    have hcall := ivict_c a t (c := n) C2 (by have := HD.out.1; omega) (by have := HD.out.1; omega) (by have := HD.out.2; omega)
    rw [HD.out.1] at hcall
    generalize hv : vOf d a t = p at *
    obtain ⟨v, ok⟩ := p
    have HV := Aside0.mk hv
    have cmp0 : (v == v) = true := by simp
    have cmp1 : (v != v) = false := by simp
    clear hv
    refine hcall.mono ?_
    rintro e w3 ⟨rfl, hb⟩
    have HB3 := Aside0.mk (below_then HB2.out HB2.out.size hb)
    have HS3 := Aside0.mk (HS2.out.below hb (Nat.le_refl _))
    have Z3 := Aside0.mk hb.size
    clear hb hcall C2 HB2 HS2
    go_wp2_with fail
    obtain ⟨-, -, C3⟩ := Kd.S_reads' HS3.out
    have hcall := svict_c a t (c := n) C3 (by have := HD.out.1; omega) (by have := HD.out.1; omega) (by have := HD.out.2; omega)
    rw [HD.out.1, HV.out] at hcall
    refine hcall.mono ?_
    rintro e w4 ⟨rfl, hb⟩
    have HB4 := Aside0.mk (below_then HB3.out HB3.out.size hb)
    have HS4 := Aside0.mk (HS3.out.below hb Z3.out)
    have Z4 := Aside0.mk hb.size
    clear hb hcall C3 HB3 HS3
    cases ok with
    | true =>
      obtain ⟨hg, hva, jj, mm, rfl, hw, hm⟩ := vOf_true HV.out
      have cmpa : (((jj : Nat) : Int) == a) = false := by rw [beq_eq_false_iff_ne]; exact hva
      obtain ⟨-, -, C4⟩ := Kd.S_reads' HS4.out
      have hcall := isteal_of (take_on (c := n) jj mm false C4 (by have := HD.out.1; omega) (by have := HD.out.1; omega) (by have := HD.out.2; omega) hw hm)
      rw [HD.out.1] at hcall
      clear hg hva hw hm C4
      go_wp2_with fail
      refine hcall.mono ?_
      rintro e w5 ⟨v5, rfl, hS, hb⟩
      obtain ⟨X5, x5, rfl, -, -⟩ := Kd.S_reads hS
      have HB5 := Aside0.mk (below_then HB4.out HB4.out.size hb)
      clear hS hb hcall HB4 HS4
      go_wp2_with fail
      refine (HDN.out w5 HB5.out).mono ?_
      rintro e w6 ⟨k, rfl, hk0, hk1, hb⟩
      have HB6 := Aside0.mk (below_then HB5.out HB5.out.size hb)
      clear hb HB5 HDN
      by_cases hk : 1 ≤ k ∧ k ≤ 8
      · obtain ⟨q, rfl⟩ : ∃ q : Nat, k = (q : Int) := ⟨k.toNat, by omega⟩
        have hq1 : 1 ≤ q := by omega
        have hq8 : q ≤ 8 := by omega
        have hi := inew_c w6 (q : Int)
        have hs := fun (W : World) => snew_c W (q : Int)
        have e1 : newD (q : Int) = List.replicate q [] := by unfold newD; rw [if_pos hk, Int.toNat_natCast]
        have e2 : newB (q : Int) = true := by unfold newB; rw [decide_eq_true hk.1, decide_eq_true hk.2]; rfl
        rw [e1, e2] at hi
        simp only [e1, e2] at hs
        have HNS := Aside0.mk hs
        have hql : (List.replicate q ([] : List Int)).length = q := by simp
        have cmpq : ((q : Int) == (q : Int)) = true := by simp
        clear hs e1 e2 hk hk0 hk1
        go_wp2_with fail
        refine hi.mono ?_
        rintro e w7 ⟨v7, rfl, hX, hb⟩
        obtain ⟨X0, x0, rfl, hx0, -⟩ := Kd.S_reads hX
        rw [hql] at hX hx0
        rw [hql]
        have HX7 := Aside0.mk (SX.of hX HB6.out.size)
        have HB7 := Aside0.mk (below_then HB6.out HB6.out.size hb)
        have Z7 := Aside0.mk hb.size
        clear hX hb hi HB6
        go_wp2_with fail
        refine (HNS.out w7).mono ?_
        rintro e w8 ⟨v8, rfl, hX, hb⟩
        obtain ⟨Y0, y0, rfl, hy0, -⟩ := Kd.S_reads hX
        rw [hql] at hX hy0
        rw [hql]
        have HY8 := Aside0.mk (SX.of hX HB7.out.size)
        have HB8 := Aside0.mk (below_then HB7.out HB7.out.size hb)
        have HX8 := Aside0.mk (HX7.out.below hb (Nat.le_refl _))
        have Z8 := Aside0.mk hb.size
        clear hX hb HNS HB7 HX7
        go_wp2_with fail
        refine (sameL_c HX8.out HY8.out (by rw [hql]; omega) (by rw [tl_nils]; omega)).mono ?_
        rintro e w9 ⟨rfl, hb⟩
        have HB9 := Aside0.mk (below_then HB8.out HB8.out.size hb)
        have HX9 := Aside0.mk (HX8.out.below hb Z8.out)
        have Z9 := Aside0.mk hb.size
        clear hb HB8 HX8 HY8
        go_wp2_with fail
        obtain ⟨-, -, C9⟩ := Kd.S_reads' HX9.out
        have hcall := itask_c (c := x0) C9 (by rw [hql]; omega) (by rw [hql]; omega) (by rw [tl_nils]; omega)
        rw [hql, good_nils hq1 hq8, all_nils, if_pos rfl] at hcall
        refine hcall.mono ?_
        rintro e w10 ⟨v10, rfl, hR, hb⟩
        obtain ⟨R0, r0, rfl, -, -⟩ := Kd.R_reads hR
        have HB10 := Aside0.mk (below_then HB9.out HB9.out.size hb)
        have HX10 := Aside0.mk (HX9.out.below hb (by have := Z8.out; have := Z9.out; omega))
        clear hb hR hcall C9 HB9 HX9
        go_wp2_with fail
        obtain ⟨-, -, C10⟩ := Kd.S_reads' HX10.out
        have hcall := ivict_c 0 0 (c := x0) C10 (by rw [hql]; omega) (by rw [hql]; omega) (by rw [tl_nils]; omega)
        rw [hql, vOf_nils] at hcall
        refine hcall.mono ?_
        rintro e w11 ⟨rfl, hb⟩
        have HB11 := Aside0.mk (below_then HB10.out HB10.out.size hb)
        clear hb hcall C10 HB10 HX10 hql
        go_wp2_with fail
        go_ret
        exact ⟨rfl, HB11.out⟩
      · have hi := inew_c w6 k
        have hs := fun (W : World) => snew_c W k
        have e1 : newD k = [] := by unfold newD; rw [if_neg hk]
        have e2 : newB k = false := by unfold newB; rw [Bool.eq_false_iff]; intro e; simp only [Bool.and_eq_true, decide_eq_true_eq] at e; exact hk e
        rw [e1, e2] at hi
        simp only [e1, e2] at hs
        have HNS := Aside0.mk hs
        clear hs e1 e2 hk
        go_wp2_with fail
        refine hi.mono ?_
        rintro e w7 ⟨v7, rfl, hX, hb⟩
        obtain ⟨X0, x0, rfl, hx0, -⟩ := Kd.S_reads hX
        have HX7 := Aside0.mk (SX.of hX HB6.out.size)
        have HB7 := Aside0.mk (below_then HB6.out HB6.out.size hb)
        have Z7 := Aside0.mk hb.size
        clear hX hb hi HB6
        go_wp2_with fail
        refine (HNS.out w7).mono ?_
        rintro e w8 ⟨v8, rfl, hX, hb⟩
        obtain ⟨Y0, y0, rfl, hy0, -⟩ := Kd.S_reads hX
        have HY8 := Aside0.mk (SX.of hX HB7.out.size)
        have HB8 := Aside0.mk (below_then HB7.out HB7.out.size hb)
        have HX8 := Aside0.mk (HX7.out.below hb (Nat.le_refl _))
        have Z8 := Aside0.mk hb.size
        clear hX hb HNS HB7 HX7
        go_wp2_with fail
        refine (sameL_c HX8.out HY8.out (by simp) (by simp [tl])).mono ?_
        rintro e w9 ⟨rfl, hb⟩
        have HB9 := Aside0.mk (below_then HB8.out HB8.out.size hb)
        clear hb HB8 HX8 HY8
        go_wp2_with fail
        go_ret
        exact ⟨rfl, HB9.out⟩
    | false =>
      go_wp2_with fail
      refine (HDN.out w4 HB4.out).mono ?_
      rintro e w6 ⟨k, rfl, hk0, hk1, hb⟩
      have HB6 := Aside0.mk (below_then HB4.out HB4.out.size hb)
      clear hb HB4 HDN
      by_cases hk : 1 ≤ k ∧ k ≤ 8
      · obtain ⟨q, rfl⟩ : ∃ q : Nat, k = (q : Int) := ⟨k.toNat, by omega⟩
        have hq1 : 1 ≤ q := by omega
        have hq8 : q ≤ 8 := by omega
        have hi := inew_c w6 (q : Int)
        have hs := fun (W : World) => snew_c W (q : Int)
        have e1 : newD (q : Int) = List.replicate q [] := by unfold newD; rw [if_pos hk, Int.toNat_natCast]
        have e2 : newB (q : Int) = true := by unfold newB; rw [decide_eq_true hk.1, decide_eq_true hk.2]; rfl
        rw [e1, e2] at hi
        simp only [e1, e2] at hs
        have HNS := Aside0.mk hs
        have hql : (List.replicate q ([] : List Int)).length = q := by simp
        have cmpq : ((q : Int) == (q : Int)) = true := by simp
        clear hs e1 e2 hk hk0 hk1
        go_wp2_with fail
        refine hi.mono ?_
        rintro e w7 ⟨v7, rfl, hX, hb⟩
        obtain ⟨X0, x0, rfl, hx0, -⟩ := Kd.S_reads hX
        rw [hql] at hX hx0
        rw [hql]
        have HX7 := Aside0.mk (SX.of hX HB6.out.size)
        have HB7 := Aside0.mk (below_then HB6.out HB6.out.size hb)
        have Z7 := Aside0.mk hb.size
        clear hX hb hi HB6
        go_wp2_with fail
        refine (HNS.out w7).mono ?_
        rintro e w8 ⟨v8, rfl, hX, hb⟩
        obtain ⟨Y0, y0, rfl, hy0, -⟩ := Kd.S_reads hX
        rw [hql] at hX hy0
        rw [hql]
        have HY8 := Aside0.mk (SX.of hX HB7.out.size)
        have HB8 := Aside0.mk (below_then HB7.out HB7.out.size hb)
        have HX8 := Aside0.mk (HX7.out.below hb (Nat.le_refl _))
        have Z8 := Aside0.mk hb.size
        clear hX hb HNS HB7 HX7
        go_wp2_with fail
        refine (sameL_c HX8.out HY8.out (by rw [hql]; omega) (by rw [tl_nils]; omega)).mono ?_
        rintro e w9 ⟨rfl, hb⟩
        have HB9 := Aside0.mk (below_then HB8.out HB8.out.size hb)
        have HX9 := Aside0.mk (HX8.out.below hb Z8.out)
        have Z9 := Aside0.mk hb.size
        clear hb HB8 HX8 HY8
        go_wp2_with fail
        obtain ⟨-, -, C9⟩ := Kd.S_reads' HX9.out
        have hcall := itask_c (c := x0) C9 (by rw [hql]; omega) (by rw [hql]; omega) (by rw [tl_nils]; omega)
        rw [hql, good_nils hq1 hq8, all_nils, if_pos rfl] at hcall
        refine hcall.mono ?_
        rintro e w10 ⟨v10, rfl, hR, hb⟩
        obtain ⟨R0, r0, rfl, -, -⟩ := Kd.R_reads hR
        have HB10 := Aside0.mk (below_then HB9.out HB9.out.size hb)
        have HX10 := Aside0.mk (HX9.out.below hb (by have := Z8.out; have := Z9.out; omega))
        clear hb hR hcall C9 HB9 HX9
        go_wp2_with fail
        obtain ⟨-, -, C10⟩ := Kd.S_reads' HX10.out
        have hcall := ivict_c 0 0 (c := x0) C10 (by rw [hql]; omega) (by rw [hql]; omega) (by rw [tl_nils]; omega)
        rw [hql, vOf_nils] at hcall
        refine hcall.mono ?_
        rintro e w11 ⟨rfl, hb⟩
        have HB11 := Aside0.mk (below_then HB10.out HB10.out.size hb)
        clear hb hcall C10 HB10 HX10 hql
        go_wp2_with fail
        go_ret
        exact ⟨rfl, HB11.out⟩
      · have hi := inew_c w6 k
        have hs := fun (W : World) => snew_c W k
        have e1 : newD k = [] := by unfold newD; rw [if_neg hk]
        have e2 : newB k = false := by unfold newB; rw [Bool.eq_false_iff]; intro e; simp only [Bool.and_eq_true, decide_eq_true_eq] at e; exact hk e
        rw [e1, e2] at hi
        simp only [e1, e2] at hs
        have HNS := Aside0.mk hs
        clear hs e1 e2 hk
        go_wp2_with fail
        refine hi.mono ?_
        rintro e w7 ⟨v7, rfl, hX, hb⟩
        obtain ⟨X0, x0, rfl, hx0, -⟩ := Kd.S_reads hX
        have HX7 := Aside0.mk (SX.of hX HB6.out.size)
        have HB7 := Aside0.mk (below_then HB6.out HB6.out.size hb)
        have Z7 := Aside0.mk hb.size
        clear hX hb hi HB6
        go_wp2_with fail
        refine (HNS.out w7).mono ?_
        rintro e w8 ⟨v8, rfl, hX, hb⟩
        obtain ⟨Y0, y0, rfl, hy0, -⟩ := Kd.S_reads hX
        have HY8 := Aside0.mk (SX.of hX HB7.out.size)
        have HB8 := Aside0.mk (below_then HB7.out HB7.out.size hb)
        have HX8 := Aside0.mk (HX7.out.below hb (Nat.le_refl _))
        have Z8 := Aside0.mk hb.size
        clear hX hb HNS HB7 HX7
        go_wp2_with fail
        refine (sameL_c HX8.out HY8.out (by simp) (by simp [tl])).mono ?_
        rintro e w9 ⟨rfl, hb⟩
        have HB9 := Aside0.mk (below_then HB8.out HB8.out.size hb)
        clear hb HB8 HX8 HY8
        go_wp2_with fail
        go_ret
        exact ⟨rfl, HB9.out⟩
end Go.Proofs.Ytoaimlpbliabdaa.DFnExactPushTo
