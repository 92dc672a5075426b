/- takeFrom, PopFrom and StealFrom of impl walked. No conditions but those of each lemma. -/
import Derived.Test.YtoaimlpbliabdaaDkD
import Derived.Test.YtoaimlpbliabdaaDkF
namespace Go.Proofs.Ytoaimlpbliabdaa.DFnExactPushTo
open Go.RowKit Go.Proofs.YtoaimlpbliabdaaW.PrintWords Go.Proofs.YtoaimlpbliabdaaW.PrintLast Go.Proofs.YtoaimlpbliabdaaW.PrintMore
set_option linter.unusedVariables false
set_option linter.unusedSimpArgs false

/-- What PopFrom leaves: rows of its own, a task and a flag. -/
def TakeOut (w : World) (r1 : List (List Int)) (r2 : Int) (r3 : Bool) (e : Ending) (w' : World) : Prop := ∃ v, e = .returned (.tuple #[v, .int .i64 r2, .bool r3]) ∧ Kd.S (Kd.slice 3 (Kd.int .i64)) 32 w' w.heap.size (fun _ => True) v r1 ∧ Below w.heap.size w w'
theorem TakeOut.none {w w' : World} (hb : Below w.heap.size w w') : TakeOut w [] 0 false (.returned (.tuple #[.slice none 0 0, .int .i64 0, .bool false])) w' := ⟨_, rfl, Kd.S_nil _ _ _ _ _, hb⟩
/-- The place that takeFrom takes from. -/
def atEnd (last : Bool) (m : Nat) : Nat := if last = true then m else 0
theorem atEnd_le (last : Bool) (m : Nat) : atEnd last m ≤ m := by unfold atEnd; split <;> omega

set_option maxRecDepth 100000 in
set_option maxHeartbeats 4000000 in
theorem take_on {w : World} {A : Option Addr} {c : Nat} {d : List (List Int)} (i m : Nat) (last : Bool) (hr : Kd.C (Kd.slice 3 (Kd.int .i64)) w A d.length d) (hc : d.length ≤ c) (hl : d.length ≤ 1048576) (ht : tl d ≤ 1048576) (hw : workB d (i : Int) = true) (hm : (d.getD i []).length = m + 1) :
    Calls Try.prog 78 #[.slice A d.length c, .int .i64 (i : Int), .bool last] w (TakeOut w (d.set i ((d.getD i []).eraseIdx (atEnd last m))) ((d.getD i []).getD (atEnd last m) 0) true) := by
  have hil : i < d.length := by have := (workB_iff.1 hw).2.2; omega
  have HCW := Aside0.mk (worker_c (i : Int) hr hc hl ht)
  have HCO := Aside0.mk (fun (W : World) (hb : Below w.heap.size w W) => own_c (Kd.C_below hr hb) hc (by omega) (by omega))
  rw [hw] at HCW
  have HAT := Aside0.mk (fun (W : World) (hb : Below w.heap.size w W) => at_L1 (Kd.C_below hr hb) (i : Int) (by omega) (by omega))
  have hrl : (d.getD i []).length ≤ 1048576 := by
    rw [List.getD_eq_getElem?_getD, List.getElem?_eq_getElem hil]
    exact Nat.le_trans (len_le_tl (List.getElem_mem hil)) ht
  have hrd : rd_L1 d (i : Int) = d.getD i [] := rfl
  rw [hrd] at HAT
  have HIL := Aside0.mk hil
  generalize hrow : d.getD i [] = row at *
  have HROW := Aside0.mk hrow
  have HM := Aside0.mk hm
  have hml : m ≤ 1048576 := by omega
  have hj := atEnd_le last m
  generalize hje : atEnd last m = j at *
  have HJ := Aside0.mk hje
  generalize hx : row.getD j 0 = x at *
  have HX := Aside0.mk hx
  generalize hn : d.length = n at *
  have HN := Aside0.mk hn
  have hi1 : (i : Int) < (n : Int) := by omega
  have hi0 : (0 : Int) ≤ (i : Int) := by omega
  clear hr hc ht hw hrl hrow hn hil hrd hm hl hje hx
  go_enter Try.func78, Try.ntmps78
  go_wp2_with fail
  refine HCW.out.mono ?_
  rintro e w1 ⟨rfl, hb⟩
  have HB1 := Aside0.mk hb
  obtain ⟨ad, A2, c2, hA, hx0, hx1, -⟩ := HAT.out w1 hb
  rw [HM.out] at hx0
  simp only [Int.toNat_natCast] at hx0
  subst hA
  have hm1 : ((m : Int) + 1 == 0) = false := by rw [beq_eq_false_iff_ne]; omega
  clear hb HCW HAT hx1
  go_wp2_with fail
  refine (HCO.out w1 HB1.out).mono ?_
  rintro e w3 ⟨v, rfl, hS, hb⟩
  have HB3 := Aside0.mk (below_then HB1.out HB1.out.size hb)
  have HS := Aside0.mk (Kd.S_lower hS HB1.out.size)
  clear hS hb HCO HB1 hx0 hm1
  obtain ⟨gd, cap, iv, A1, c1, rfl, hiv, -, hcell, hfr, hge, hgl, hgi, hRr, hput⟩ := S_hand HS.out (fun _ _ => trivial) i (by rw [HN.out]; exact HIL.out)
  rw [HROW.out] at hiv hRr
  rw [HN.out]
  obtain ⟨g1, c1', hiv', -, -, -⟩ := Kd.R_form hRr (by rw [HM.out]; omega)
  rw [hiv'] at hiv
  rw [HM.out] at hiv'
  subst hiv'
  clear hiv
  have hRow := Kd.at_int (Kd.R_reads' hRr).2.2 (j : Int) (by omega) (by rw [HM.out]; omega)
  obtain ⟨ad1, had, hcx⟩ := hRow
  injection had with had
  subst had
  have hrx : rd row (j : Int) = x := by rw [← HX.out]; rfl
  rw [hrx] at hcx
  simp only [Int.toNat_natCast] at hcx
  have hcx : w3.cell? ⟨g1, j, none⟩ = some (.int .i64 x) := by rw [add_at, Nat.zero_add] at hcx; exact hcx
  have hj1 : (j : Int) < (m : Int) + 1 := by omega
  have hj0 : (0 : Int) ≤ (j : Int) := by omega
  have HDEL := Aside0.mk (delete_c hRr (show j < m + 1 by omega) HB3.out HB3.out.size (by omega))
  have HPUT := Aside0.mk hput
  have HG := Aside0.mk hgl
  have HGE := Aside0.mk hge
  clear hRr hput hgi HS hgl hge hrx
  cases last with
  | true =>
    obtain rfl : m = j := HJ.out
    go_wp2_with fail
    refine HDEL.out.mono ?_
    rintro e w4 ⟨rfl, hR, hb, hg⟩
    obtain ⟨hcell, hfr, hSn⟩ := HPUT.out w4 _ _ hR hg
    have HB4 := Aside0.mk hb
    have HSN := Aside0.mk hSn
    clear hR hb hg hSn HDEL HPUT hcx
    go_wp2_with fail
    go_ret3
    have hz : w.heap.size ≤ gd := HGE.out
    exact ⟨_, rfl, by have q := HSN.out; rw [HN.out] at q; exact q, below_set (j := i) (v := .slice (some ⟨g1, 0, none⟩) m c1') HB4.out hz⟩
  | false =>
    obtain rfl : 0 = j := HJ.out
    go_wp2_with fail
    refine HDEL.out.mono ?_
    rintro e w4 ⟨rfl, hR, hb, hg⟩
    obtain ⟨hcell, hfr, hSn⟩ := HPUT.out w4 _ _ hR hg
    have HB4 := Aside0.mk hb
    have HSN := Aside0.mk hSn
    clear hR hb hg hSn HDEL HPUT hcx
    go_wp2_with fail
    go_ret3
    have hz : w.heap.size ≤ gd := HGE.out
    exact ⟨_, rfl, by have q := HSN.out; rw [HN.out] at q; exact q, below_set (j := i) (v := .slice (some ⟨g1, 0, none⟩) m c1') HB4.out hz⟩
set_option maxRecDepth 100000 in
set_option maxHeartbeats 4000000 in
theorem take_no {w : World} {A : Option Addr} {c : Nat} {d : List (List Int)} (i : Int) (last : Bool) (hr : Kd.C (Kd.slice 3 (Kd.int .i64)) w A d.length d) (hc : d.length ≤ c) (hl : d.length ≤ 1048576) (ht : tl d ≤ 1048576) (hno : workB d i = true → d.getD i.toNat [] = []) :
    Calls Try.prog 78 #[.slice A d.length c, .int .i64 i, .bool last] w (TakeOut w [] 0 false) := by
  have HCW := Aside0.mk (worker_c i hr hc hl ht)
  cases hw : workB d i with
  | false =>
    rw [hw] at HCW
    generalize d.length = n at *
    clear hr hc ht hno hw
    go_enter Try.func78, Try.ntmps78
    go_wp2_with fail
    refine HCW.out.mono ?_
    rintro e w1 ⟨rfl, hb⟩
    have HB1 := Aside0.mk hb
    clear hb HCW
    go_wp2_with fail
    go_ret3
    exact TakeOut.none HB1.out
  | true =>
    obtain ⟨hg, h0, h1⟩ := workB_iff.1 hw
    rw [hw] at HCW
    have HAT := Aside0.mk (fun (W : World) (hb : Below w.heap.size w W) => at_L1 (Kd.C_below hr hb) i h0 h1)
    have hrd : rd_L1 d i = [] := hno hw
    rw [hrd] at HAT
    generalize d.length = n at *
    clear hr hc ht hno hw hg hrd
    go_enter Try.func78, Try.ntmps78
    go_wp2_with fail
    refine HCW.out.mono ?_
    rintro e w1 ⟨rfl, hb⟩
    have HB1 := Aside0.mk hb
    obtain ⟨ad, A2, c2, hA, hx0, -, -⟩ := HAT.out w1 hb
    rw [List.length_nil] at hx0
    subst hA
    clear hb HCW HAT
    go_wp2_with fail
    go_ret3
    exact TakeOut.none HB1.out
set_option maxRecDepth 100000 in
theorem ipop_of {w : World} {A : Option Addr} {n c : Nat} {i : Int} {r1 : List (List Int)} {r2 : Int} {r3 : Bool} (h : Calls Try.prog 78 #[.slice A n c, .int .i64 i, .bool true] w (TakeOut w r1 r2 r3)) :
    Calls Try.prog 17 #[.slice A n c, .int .i64 i] w (TakeOut w r1 r2 r3) := by
  have H := Aside0.mk h
  clear h
  go_enter Try.func17, Try.ntmps17
  go_wp2_with fail
  refine H.out.mono ?_
  rintro e w1 ⟨v, rfl, hS, hb⟩
  have HS := Aside0.mk (And.intro hS hb)
  clear hS hb H
  go_wp2_with fail
  go_ret3
  exact ⟨v, rfl, HS.out.1, HS.out.2⟩
set_option maxRecDepth 100000 in
set_option maxHeartbeats 4000000 in
theorem spop_on {w : World} {A : Option Addr} {c : Nat} {d : List (List Int)} (i m : Nat) (hr : Kd.C (Kd.slice 3 (Kd.int .i64)) w A d.length d) (hc : d.length ≤ c) (hl : d.length ≤ 1048576) (ht : tl d ≤ 1048576) (hw : workB d (i : Int) = true) (hm : (d.getD i []).length = m + 1) :
    Calls Try.prog 15 #[.slice A d.length c, .int .i64 (i : Int)] w (TakeOut w (d.set i ((d.getD i []).take m)) ((d.getD i []).getD m 0) true) := by
  have hil : i < d.length := by have := (workB_iff.1 hw).2.2; omega
  have HCW := Aside0.mk (asked_c (i : Int) hr hc hl ht)
  have HCO := Aside0.mk (fun (W : World) (hb : Below w.heap.size w W) => sown_c (Kd.C_below hr hb) hc (by omega) (by omega))
  rw [hw] at HCW
  have HAT := Aside0.mk (fun (W : World) (hb : Below w.heap.size w W) => at_L1 (Kd.C_below hr hb) (i : Int) (by omega) (by omega))
  have hrl : (d.getD i []).length ≤ 1048576 := by
    rw [List.getD_eq_getElem?_getD, List.getElem?_eq_getElem hil]
    exact Nat.le_trans (len_le_tl (List.getElem_mem hil)) ht
  have hrd : rd_L1 d (i : Int) = d.getD i [] := rfl
  rw [hrd] at HAT
  have HIL := Aside0.mk hil
  generalize hrow : d.getD i [] = row at *
  have HROW := Aside0.mk hrow
  have HM := Aside0.mk hm
  have hml : m ≤ 1048576 := by omega
  generalize hx : row.getD m 0 = x at *
  have HX := Aside0.mk hx
  generalize hn : d.length = n at *
  have HN := Aside0.mk hn
  have hi1 : (i : Int) < (n : Int) := by omega
  have hi0 : (0 : Int) ≤ (i : Int) := by omega
  clear hr hc ht hw hrl hrow hn hil hrd hm hl hx
  go_enter Try.func15, Try.ntmps15
  go_wp2_with fail
  refine HCW.out.mono ?_
  rintro e w1 ⟨rfl, hb⟩
  have HB1 := Aside0.mk hb
  obtain ⟨ad, A2, c2, hA, hx0, hx1, -⟩ := HAT.out w1 hb
  rw [HM.out] at hx0
  simp only [Int.toNat_natCast] at hx0
  subst hA
  have hm1 : ((m : Int) + 1 == 0) = false := by rw [beq_eq_false_iff_ne]; omega
  clear hb HCW hx1
  go_wp2_with fail
  refine (HCO.out w1 HB1.out).mono ?_
  rintro e w3 ⟨v, rfl, hS, hb⟩
  have HB3 := Aside0.mk (below_then HB1.out HB1.out.size hb)
  have HS := Aside0.mk (Kd.S_lower hS HB1.out.size)
  clear hS hb HCO HB1 hx0 hm1
  obtain ⟨ad', A3, c3, hA, hx0, hx1, hx2⟩ := HAT.out w3 HB3.out
  injection hA with hA
  subst hA
  rw [HM.out] at hx0 hx1
  simp only [Int.toNat_natCast] at hx0
  obtain ⟨gd, cap, iv, A1, c1, rfl, hiv, -, hcell, hfr, hge, hgl, hgi, hRr, hput⟩ := S_hand HS.out (fun _ _ => trivial) i (by rw [HN.out]; exact HIL.out)
  rw [HROW.out] at hiv hRr
  rw [HN.out]
  obtain ⟨g1, c1', hiv', -, -, -⟩ := Kd.R_form hRr (by rw [HM.out]; omega)
  rw [hiv'] at hiv
  rw [HM.out] at hiv'
  subst hiv'
  clear hiv
  have hmc := (Kd.R_reads' hRr).2.1
  obtain ⟨hcell2, hfr2, hSn⟩ := hput w3 (.slice (some ⟨g1, 0, none⟩) m c1') (row.take m) (Kd.R_take hRr (by rw [HM.out]; omega)) ⟨rfl, rfl, rfl, Nat.le_refl _, fun _ _ _ => rfl⟩
  have HSN := Aside0.mk hSn
  have HGE := Aside0.mk hge
  have HGL := Aside0.mk hgl
  have HAT3 := HAT
  clear hRr hput hgi HS hge hgl hcell2 hfr2 HAT hSn hx2
  have hm0 : (0 : Int) ≤ (m : Int) := by omega
  have hm2 : m ≤ c1' := by omega
  have hm3 : (m : Int) ≤ (m : Int) + 1 := by omega
  go_wp2_with fail
  have hz : w.heap.size ≤ gd := HGE.out
  have HB5 := Aside0.mk (below_set (j := i) (v := .slice (some ⟨g1, 0, none⟩) m c1') HB3.out hz)
  clear hcell hfr hx0
  generalize w3.setCell ⟨gd, i, none⟩ (.slice (some ⟨g1, 0, none⟩) m c1') = w5 at *
  obtain ⟨ad5, A5, c5, hA, hx0, hx1, hx2⟩ := HAT3.out w5 HB5.out
  injection hA with hA
  subst hA
  obtain ⟨ad6, hA, hx3⟩ := Kd.at_int hx2 (m : Int) (by omega) (by rw [HM.out]; omega)
  have hrx : rd row (m : Int) = x := by rw [← HX.out]; rfl
  rw [hrx] at hx3
  subst hA
  rw [HM.out] at hx0 hx1
  simp only [Int.toNat_natCast] at hx0 hx3
  have hm4 : (m : Int) < (m : Int) + 1 := by omega
  clear hx2 hrx HAT3
  go_wp2_with fail
  go_region
  go_wp2_with fail
  go_ret3
  exact ⟨_, rfl, by have q := HSN.out; rw [HN.out] at q; exact q, below_drew1 HB5.out⟩
set_option maxRecDepth 100000 in
set_option maxHeartbeats 4000000 in
theorem spop_no {w : World} {A : Option Addr} {c : Nat} {d : List (List Int)} (i : Int) (hr : Kd.C (Kd.slice 3 (Kd.int .i64)) w A d.length d) (hc : d.length ≤ c) (hl : d.length ≤ 1048576) (ht : tl d ≤ 1048576) (hno : workB d i = true → d.getD i.toNat [] = []) :
    Calls Try.prog 15 #[.slice A d.length c, .int .i64 i] w (TakeOut w [] 0 false) := by
  have HCW := Aside0.mk (asked_c i hr hc hl ht)
  cases hw : workB d i with
  | false =>
    rw [hw] at HCW
    generalize d.length = n at *
    clear hr hc ht hno hw
    go_enter Try.func15, Try.ntmps15
    go_wp2_with fail
    refine HCW.out.mono ?_
    rintro e w1 ⟨rfl, hb⟩
    have HB1 := Aside0.mk hb
    clear hb HCW
    go_wp2_with fail
    go_ret3
    exact TakeOut.none HB1.out
  | true =>
    obtain ⟨hg, h0, h1⟩ := workB_iff.1 hw
    rw [hw] at HCW
    have HAT := Aside0.mk (fun (W : World) (hb : Below w.heap.size w W) => at_L1 (Kd.C_below hr hb) i h0 h1)
    have hrd : rd_L1 d i = [] := hno hw
    rw [hrd] at HAT
    generalize d.length = n at *
    clear hr hc ht hno hw hg hrd
    go_enter Try.func15, Try.ntmps15
    go_wp2_with fail
    refine HCW.out.mono ?_
    rintro e w1 ⟨rfl, hb⟩
    have HB1 := Aside0.mk hb
    obtain ⟨ad, A2, c2, hA, hx0, -, -⟩ := HAT.out w1 hb
    rw [List.length_nil] at hx0
    subst hA
    clear hb HCW HAT
    go_wp2_with fail
    go_ret3
    exact TakeOut.none HB1.out
theorem tl_set_le (d : List (List Int)) (i : Nat) (row : List Int) (h : row.length ≤ (d.getD i []).length) : tl (d.set i row) ≤ tl d := by
  induction d generalizing i with
  | nil => simp
  | cons r d ih =>
    cases i with
    | zero => simp [tl] at h ⊢; omega
    | succ i => have := ih i (by simpa using h); rw [List.set_cons_succ, tl_cons, tl_cons]; omega
/-- Both sides' PopFrom leave the same. -/
theorem pop_both {d : List (List Int)} (i : Int) (hl : d.length ≤ 1048576) (ht : tl d ≤ 1048576) : ∃ r1 r2 r3, r1.length ≤ 1048576 ∧ tl r1 ≤ 1048577 ∧
    (∀ (w : World) (A : Option Addr) (c : Nat), Kd.C (Kd.slice 3 (Kd.int .i64)) w A d.length d → d.length ≤ c → Calls Try.prog 15 #[.slice A d.length c, .int .i64 i] w (TakeOut w r1 r2 r3)) ∧
    (∀ (w : World) (A : Option Addr) (c : Nat), Kd.C (Kd.slice 3 (Kd.int .i64)) w A d.length d → d.length ≤ c → Calls Try.prog 17 #[.slice A d.length c, .int .i64 i] w (TakeOut w r1 r2 r3)) := by
  by_cases h : workB d i = true ∧ d.getD i.toNat [] ≠ []
  · obtain ⟨hw, hne⟩ := h
    obtain ⟨hg, h0, h1⟩ := workB_iff.1 hw
    obtain ⟨n, rfl⟩ : ∃ n : Nat, i = (n : Int) := ⟨i.toNat, by omega⟩
    rw [Int.toNat_natCast] at hne
    obtain ⟨m, hm⟩ : ∃ m, (d.getD n []).length = m + 1 := ⟨(d.getD n []).length - 1, by have := List.length_pos_iff.2 hne; omega⟩
    have he : (d.getD n []).eraseIdx m = (d.getD n []).take m := by
      rw [List.eraseIdx_eq_take_drop_succ, List.drop_of_length_le (by omega), List.append_nil]
    refine ⟨d.set n ((d.getD n []).take m), (d.getD n []).getD m 0, true, by simpa using hl, ?_, fun w A c hr hc => spop_on n m hr hc hl ht hw hm, fun w A c hr hc => ipop_of ?_⟩
    · have := tl_set_le d n ((d.getD n []).take m) (by rw [List.length_take]; omega)
      omega
    · have := take_on n m true hr hc hl ht hw hm
      unfold atEnd at this
      rw [if_pos rfl, he] at this
      exact this
  · have hno : workB d i = true → d.getD i.toNat [] = [] := fun hw => Classical.byContradiction fun hne => h ⟨hw, hne⟩
    exact ⟨[], 0, false, by simp, by simp [tl], fun w A c hr hc => spop_no i hr hc hl ht hno, fun w A c hr hc => ipop_of (take_no i true hr hc hl ht hno)⟩
end Go.Proofs.Ytoaimlpbliabdaa.DFnExactPushTo
