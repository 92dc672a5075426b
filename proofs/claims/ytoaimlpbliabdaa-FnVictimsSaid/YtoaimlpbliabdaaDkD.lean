/- PushTo walked on both sides. No conditions but those of each lemma. -/
import Derived.Test.YtoaimlpbliabdaaDkC
namespace Go.Proofs.Ytoaimlpbliabdaa.DFnExactPushTo
open Go.RowKit Go.Proofs.YtoaimlpbliabdaaW.PrintWords Go.Proofs.YtoaimlpbliabdaaW.PrintLast Go.Proofs.YtoaimlpbliabdaaW.PrintMore
set_option linter.unusedVariables false
set_option linter.unusedSimpArgs false

noncomputable def workB (d : List (List Int)) (i : Int) : Bool := goodB d && (decide (0 ≤ i) && decide (i ≤ (d.length : Int) - 1))
theorem workB_iff {d : List (List Int)} {i : Int} : workB d i = true ↔ goodB d = true ∧ 0 ≤ i ∧ i < (d.length : Int) := by
  unfold workB
  simp only [Bool.and_eq_true, decide_eq_true_eq]
  constructor
  · rintro ⟨h1, h2, h3⟩; exact ⟨h1, h2, by omega⟩
  · rintro ⟨h1, h2, h3⟩; exact ⟨h1, h2, by omega⟩
theorem asked_c {w : World} {A : Option Addr} {c : Nat} {d : List (List Int)} (i : Int) (hr : Kd.C (Kd.slice 3 (Kd.int .i64)) w A d.length d) (hc : d.length ≤ c) (hl : d.length ≤ 1048576) (ht : tl d ≤ 1048576) :
    Calls Try.prog 76 #[.slice A d.length c, .int .i64 i] w fun e w' => e = .returned (.bool (workB d i)) ∧ Below w.heap.size w w' := by
  have h : Ev (fun k => spec_l12Asked.f k d i) (workB d i) := by
    unfold spec_l12Asked.f
    refine Ev.bind (sgood_ev (by omega) ht) ?_
    unfold workB
    cases goodB d with
    | false => simp only [Bool.false_eq_true, if_false, Bool.false_and]; exact Ev.now _
    | true =>
      simp only [if_true, l1In_f, Option.bind_some, Bool.true_and]
      rw [w64 (by omega) (by omega)]
      exact Ev.now _
  obtain ⟨k, hk⟩ := Ev.rounds h
  exact spec_l12Asked.calls k A c d i _ w hr hc hk
theorem worker_c {w : World} {A : Option Addr} {c : Nat} {d : List (List Int)} (i : Int) (hr : Kd.C (Kd.slice 3 (Kd.int .i64)) w A d.length d) (hc : d.length ≤ c) (hl : d.length ≤ 1048576) (ht : tl d ≤ 1048576) :
    Calls Try.prog 82 #[.slice A d.length c, .int .i64 i] w fun e w' => e = .returned (.bool (workB d i)) ∧ Below w.heap.size w w' := by
  have h : Ev (fun k => impl_isWorker.f k d i) (workB d i) := by
    unfold impl_isWorker.f
    refine Ev.bind (good_ev (by omega) (by omega)) ?_
    unfold workB
    cases goodB d with
    | false => simp only [Bool.false_eq_true, if_false, Bool.false_and]; exact Ev.now _
    | true =>
      simp only [if_true, within_f, Option.bind_some, Bool.true_and]
      rw [w64 (by omega) (by omega)]
      exact Ev.now _
  obtain ⟨k, hk⟩ := Ev.rounds h
  exact impl_isWorker.calls k A c d i _ w hr hc hk
theorem good_c {w : World} {A : Option Addr} {c : Nat} {d : List (List Int)} (hr : Kd.C (Kd.slice 3 (Kd.int .i64)) w A d.length d) (hc : d.length ≤ c) (hl : d.length ≤ 2000000) (ht : tl d ≤ 2000000) :
    Calls Try.prog 66 #[.slice A d.length c] w fun e w' => e = .returned (.bool (goodB d)) ∧ Below w.heap.size w w' := by
  obtain ⟨k, hk⟩ := Ev.rounds (good_ev hl ht)
  exact impl_GoodDecks.calls k A c d _ w hr hc hk
theorem task_c (w : World) (t : Int) : Calls Try.prog 83 #[.int .i64 t] w fun e w' => e = .returned (.bool (inT t)) ∧ Below w.heap.size w w' := by
  refine (impl_isTask.calls t _ w (isTask_f t)).mono ?_
  rintro e w' ⟨rfl, hb⟩
  exact ⟨rfl, hb.below⟩
theorem sin_c (w : World) (t : Int) : Calls Try.prog 79 #[.int .i64 t, .int .i64 0, .int .i64 999] w fun e w' => e = .returned (.bool (inT t)) ∧ Below w.heap.size w w' := by
  refine (spec_l1In.calls t 0 999 _ w (l1In_f t 0 999)).mono ?_
  rintro e w' ⟨rfl, hb⟩
  exact ⟨rfl, hb.below⟩
theorem all_c {w : World} {A : Option Addr} {c : Nat} {d : List (List Int)} (hr : Kd.C (Kd.slice 3 (Kd.int .i64)) w A d.length d) (hc : d.length ≤ c) (hl : d.length ≤ 1048576) (ht : tl d ≤ 1048576) :
    Calls Try.prog 81 #[.slice A d.length c] w fun e w' => ∃ A' c', e = .returned (.slice A' (allL d).length c') ∧ (allL d).length ≤ c' ∧ Kd.C (Kd.int .i64) w' A' (allL d).length (allL d) ∧ Below w.heap.size w w' := by
  obtain ⟨k, hk⟩ := Ev.rounds (all_ev (d := d) (by omega) ht)
  refine (spec_l12All.calls k A c d _ w hr hc hk).mono ?_
  rintro e w' ⟨v, rfl, hR, hb⟩
  obtain ⟨A', c', rfl, hl', hC⟩ := Kd.R_reads hR
  exact ⟨A', c', rfl, hl', hC, hb⟩
theorem has_c {w : World} {A : Option Addr} {c : Nat} {l : List Int} (x : Int) (hr : Kd.C (Kd.int .i64) w A l.length l) (hc : l.length ≤ c) (hl : l.length ≤ 2000000) :
    Calls Try.prog 80 #[.slice A l.length c, .int .i64 x] w fun e w' => e = .returned (.bool (decide (x ∈ l))) ∧ Below w.heap.size w w' := by
  obtain ⟨k, hk⟩ := Ev.rounds (has_ev hl x)
  refine (spec_l1Has.calls k A c l x _ w hr hc hk).mono ?_
  rintro e w' ⟨rfl, hb⟩
  exact ⟨rfl, hb.below⟩
theorem sown_c {w : World} {A : Option Addr} {c : Nat} {d : List (List Int)} (hr : Kd.C (Kd.slice 3 (Kd.int .i64)) w A d.length d) (hc : d.length ≤ c) (hl : d.length ≤ 2000000) (ht : tl d ≤ 2000000) :
    Calls Try.prog 77 #[.slice A d.length c] w fun e w' => ∃ v, e = .returned v ∧ Kd.S (Kd.slice 3 (Kd.int .i64)) 32 w' w.heap.size (fun _ => True) v d ∧ Below w.heap.size w w' := by
  obtain ⟨k, hk⟩ := Ev.rounds (sown_ev hl ht)
  exact spec_l12Own.calls k A c d _ w hr hc hk
theorem own_c {w : World} {A : Option Addr} {c : Nat} {d : List (List Int)} (hr : Kd.C (Kd.slice 3 (Kd.int .i64)) w A d.length d) (hc : d.length ≤ c) (hl : d.length ≤ 2000000) (ht : tl d ≤ 2000000) :
    Calls Try.prog 84 #[.slice A d.length c] w fun e w' => ∃ v, e = .returned v ∧ Kd.S (Kd.slice 3 (Kd.int .i64)) 32 w' w.heap.size (fun _ => True) v d ∧ Below w.heap.size w w' := by
  obtain ⟨k, hk⟩ := Ev.rounds (own_ev hl ht)
  exact impl_ownDecks.calls k A c d _ w hr hc hk

/-- What PushTo leaves: rows of its own, and a flag. -/
def DeckOut (w : World) (r1 : List (List Int)) (r2 : Bool) (e : Ending) (w' : World) : Prop := ∃ v, e = .returned (.tuple #[v, .bool r2]) ∧ Kd.S (Kd.slice 3 (Kd.int .i64)) 32 w' w.heap.size (fun _ => True) v r1 ∧ Below w.heap.size w w'
theorem DeckOut.none {w w' : World} (hb : Below w.heap.size w w') : DeckOut w [] false (.returned (.tuple #[.slice none 0 0, .bool false])) w' := ⟨_, rfl, Kd.S_nil _ _ _ _ _, hb⟩

def IPost (w : World) (out : List (List Int)) (gb : Bool) (e : Ending) (w' : World) : Prop := DeckOut w (if gb = true then out else []) gb e w'
set_option maxRecDepth 100000 in
set_option maxHeartbeats 2000000 in
theorem ipush_on {w : World} {A : Option Addr} {c : Nat} {d : List (List Int)} (i : Nat) (t : Int) (hr : Kd.C (Kd.slice 3 (Kd.int .i64)) w A d.length d) (hc : d.length ≤ c) (hl : d.length ≤ 1048576) (ht : tl d ≤ 1048576) (hw : workB d (i : Int) = true) (hi : inT t = true) :
    Calls Try.prog 22 #[.slice A d.length c, .int .i64 (i : Int), .int .i64 t] w (IPost w (d.set i (d.getD i [] ++ [t])) (goodB (d.set i (d.getD i [] ++ [t])))) := by
  have hil : i < d.length := by have := (workB_iff.1 hw).2.2; omega
  have HCW := Aside0.mk (worker_c (i : Int) hr hc hl ht)
  have HCO := Aside0.mk (fun (W : World) (hb : Below w.heap.size w W) => own_c (Kd.C_below hr hb) hc (by omega) (by omega))
  rw [hw] at HCW
  have HCT := Aside0.mk (fun (W : World) => task_c W t)
  rw [hi] at HCT
  have hrl : (d.getD i []).length ≤ 1048576 := by
    rw [List.getD_eq_getElem?_getD, List.getElem?_eq_getElem hil]
    exact Nat.le_trans (len_le_tl (List.getElem_mem hil)) ht
  have hol : (d.set i (d.getD i [] ++ [t])).length = d.length := by simp
  have hot : tl (d.set i (d.getD i [] ++ [t])) ≤ 2000000 := by
    rw [tl_flatten, (flat_set d i hil [t]).length_eq, List.length_append, ← tl_flatten]
    simp; omega
  have HIL := Aside0.mk hil
  have HRL := Aside0.mk hrl
  have HOT := Aside0.mk hot
  have HOL := Aside0.mk hol
  generalize hrow : d.getD i [] = row at *
  have HROW := Aside0.mk hrow
  generalize hout : d.set i (row ++ [t]) = out at *
  have HOUT := Aside0.mk hout
  generalize hgb : goodB out = gb at *
  have HGB := Aside0.mk hgb
  generalize hn : d.length = n at *
  have HN := Aside0.mk hn
  clear hr hc ht hw hi hrl hol hot hrow hout hgb hn hil
  go_enter Try.func22, Try.ntmps22
  go_wp2_with fail
  refine HCW.out.mono ?_
  rintro e w1 ⟨rfl, hb⟩
  have HB1 := Aside0.mk hb
  clear hb HCW
  go_wp2_with fail
  refine (HCT.out w1).mono ?_
  rintro e w2 ⟨rfl, hb⟩
  have HB2 := Aside0.mk (below_then HB1.out HB1.out.size hb)
  clear hb HCT HB1
  go_wp2_with fail
  refine (HCO.out w2 HB2.out).mono ?_
  rintro e w3 ⟨v, rfl, hS, hb⟩
  have HB3 := Aside0.mk (below_then HB2.out HB2.out.size hb)
  have HS := Aside0.mk (Kd.S_lower hS HB2.out.size)
  clear hS hb HCO HB2
  obtain ⟨gd, cap, iv, A1, c1, rfl, hiv, -, hcell, hfr, hge, hgl, hgi, hRr, hput⟩ := S_hand HS.out (fun _ _ => trivial) i (by rw [HN.out]; exact HIL.out)
  rw [HROW.out] at hiv hRr
  rw [HN.out] at hput
  rw [HN.out]
  generalize hrn : row.length = rn at *
  have HRN := Aside0.mk hrn
  subst hiv
  have HRR := Aside0.mk hRr
  have HPUT := Aside0.mk hput
  have hi1 : (i : Int) < (n : Int) := by have := HIL.out; have := HN.out; omega
  have hi0 : (0 : Int) ≤ (i : Int) := by omega
  have HG := Aside0.mk hgl
  have HGE := Aside0.mk hge
  clear hRr hput hrn hgi hfr HS hgl hge
  go_wp2_with ((with_reducible refine gate_builtin (b := .append) (xs := #[.tmp 25, .tmp 27]) rfl ?_); at_builtin; refine Kd.R_append (Kd.int .i64) (w0 := w) w.heap.size rfl (.tmp 25) (.tmp 27) 32 3 (.int .i64 0) 8 rfl Try.underlying32 info3 rfl (by decide) (by omega) (.slice A1 rn c1) row t [.int .i64 t] (fun k => k ≠ gd ∧ (some k = (Value.slice A1 rn c1).ownBlock ∨ w3.heap.size ≤ k)) (fun _ => False) rfl rfl rfl (fun _ hk => hk.elim) (fun k hk => ⟨by have := HG.out; have : w3.heap.size ≤ k := hk; omega, .inr hk⟩) HRR.out HB3.out HB3.out.size (by have := HRL.out; have := HRN.out; omega) ?_; intro v1 w4 ho hb hg hat; obtain ⟨hcell, hfr, hSn⟩ := HPUT.out w4 v1 (row ++ [t]) ho hg; have HSN := Aside0.mk hSn; have HB4 := Aside0.mk hb; obtain ⟨A4, c4, m4, hm4, rfl⟩ : ∃ A c m, Aside0 (m = (row ++ [t]).length) ∧ v1 = .slice A m c := (by obtain ⟨A, c, e⟩ := Kd.R_slice ho; exact ⟨A, c, _, ⟨rfl⟩, e⟩); clear ho hb hg hat hSn)
  have hz : w.heap.size ≤ gd := HGE.out
  have HSO : Aside0 (Kd.S (Kd.slice 3 (Kd.int .i64)) 32 (w4.setCell ⟨gd, i, none⟩ (.slice A4 m4 c4)) w.heap.size (fun _ => True) (.slice (some ⟨gd, 0, none⟩) n cap) out) := ⟨by have q := HSN.out; rw [HOUT.out] at q; exact q⟩
  have HBO := Aside0.mk (below_set (j := i) (v := .slice A4 m4 c4) HB4.out hz)
  clear HSN HB4 hcell hfr
  generalize w4.setCell ⟨gd, i, none⟩ (.slice A4 m4 c4) = w5 at *
  obtain ⟨e5, l5, C5⟩ := Kd.S_reads' HSO.out
  have hcall := good_c (c := cap) C5 (by omega) (by have := HOL.out; omega) HOT.out
  rw [HGB.out, ← e5] at hcall
  refine hcall.mono ?_
  rintro e w6 ⟨rfl, hb⟩
  have HB6 := Aside0.mk (below_then HBO.out HBO.out.size hb)
  have HS6 := Aside0.mk (Kd.S_below HSO.out hb)
  clear hb hcall C5 HSO HBO e5 l5
  cases gb with
  | true =>
    go_wp2_with fail
    go_ret2
    exact ⟨_, rfl, HS6.out, HB6.out⟩
  | false =>
    go_wp2_with fail
    go_ret2
    exact DeckOut.none HB6.out

set_option maxRecDepth 100000 in
set_option maxHeartbeats 2000000 in
theorem spush_on {w : World} {A : Option Addr} {c : Nat} {d : List (List Int)} (i : Nat) (t : Int) (hr : Kd.C (Kd.slice 3 (Kd.int .i64)) w A d.length d) (hc : d.length ≤ c) (hl : d.length ≤ 1048576) (ht : tl d ≤ 1048576) (hw : workB d (i : Int) = true) (hi : inT t = true) (hm : t ∉ d.flatten) (h60 : d.flatten.length < 60) :
    Calls Try.prog 21 #[.slice A d.length c, .int .i64 (i : Int), .int .i64 t] w (DeckOut w (d.set i (d.getD i [] ++ [t])) true) := by
  have hil : i < d.length := by have := (workB_iff.1 hw).2.2; omega
  have HCW := Aside0.mk (asked_c (i : Int) hr hc hl ht)
  rw [hw] at HCW
  have HCT := Aside0.mk (fun (W : World) => sin_c W t)
  rw [hi] at HCT
  have HCA := Aside0.mk (fun (W : World) (hb : Below w.heap.size w W) => all_c (Kd.C_below hr hb) hc hl ht)
  have hal := allL_le d
  have hmt : decide (t ∈ allL d) = false := by rw [decide_eq_false_iff_not, allL_mem]; exact hm
  have HCH := Aside0.mk (fun (W : World) (A : Option Addr) (c : Nat) (h1 : Kd.C (Kd.int .i64) W A (allL d).length (allL d)) (h2 : (allL d).length ≤ c) => has_c t h1 h2 (by omega))
  rw [hmt] at HCH
  have HCO := Aside0.mk (fun (W : World) (hb : Below w.heap.size w W) => sown_c (Kd.C_below hr hb) hc (by omega) (by omega))
  have hrl : (d.getD i []).length ≤ 1048576 := by
    rw [List.getD_eq_getElem?_getD, List.getElem?_eq_getElem hil]
    exact Nat.le_trans (len_le_tl (List.getElem_mem hil)) ht
  have HIL := Aside0.mk hil
  have HRL := Aside0.mk hrl
  generalize hrow : d.getD i [] = row at *
  have HROW := Aside0.mk hrow
  generalize hout : d.set i (row ++ [t]) = out at *
  have HOUT := Aside0.mk hout
  have hal60 : (allL d).length < 60 := by omega
  generalize (allL d) = al at *
  generalize hn : d.length = n at *
  have HN := Aside0.mk hn
  generalize hna : al.length = na at *
  clear hr hc ht hw hi hrl hrow hout hn hil hm h60 hmt hal
  go_enter Try.func21, Try.ntmps21
  go_wp2_with fail
  refine HCW.out.mono ?_
  rintro e w1 ⟨rfl, hb⟩
  have HB1 := Aside0.mk hb
  clear hb HCW
  go_wp2_with fail
  refine (HCT.out w1).mono ?_
  rintro e w2 ⟨rfl, hb⟩
  have HB2 := Aside0.mk (below_then HB1.out HB1.out.size hb)
  clear hb HCT HB1
  go_wp2_with fail
  refine (HCA.out w2 HB2.out).mono ?_
  rintro e w3 ⟨Aa, ca, rfl, hca, hC, hb⟩
  have HB3 := Aside0.mk (below_then HB2.out HB2.out.size hb)
  have HCH3 := Aside0.mk (HCH.out w3 Aa ca hC hca)
  clear hb HB2 hC hca HCH
  go_wp2_with fail
  refine HCH3.out.mono ?_
  rintro e w4 ⟨rfl, hb⟩
  have HB4 := Aside0.mk (below_then HB3.out HB3.out.size hb)
  clear hb HB3 HCH3
  go_wp2_with fail
  refine (HCA.out w4 HB4.out).mono ?_
  rintro e w5 ⟨Ab, cb, rfl, hca, hC, hb⟩
  have HB5 := Aside0.mk (below_then HB4.out HB4.out.size hb)
  have hne : ((na : Int) == 60) = false := by rw [beq_eq_false_iff_ne]; omega
  clear hb HB4 hC hca HCA
  go_wp2_with fail
  refine (HCO.out w5 HB5.out).mono ?_
  rintro e w6 ⟨v, rfl, hS, hb⟩
  have HB6 := Aside0.mk (below_then HB5.out HB5.out.size hb)
  have HS := Aside0.mk (Kd.S_lower hS HB5.out.size)
  clear hS hb HCO HB5
  obtain ⟨gd, cap, iv, A1, c1, rfl, hiv, -, hcell, hfr, hge, hgl, hgi, hRr, hput⟩ := S_hand HS.out (fun _ _ => trivial) i (by rw [HN.out]; exact HIL.out)
  rw [HROW.out] at hiv hRr
  rw [HN.out]
  generalize hrn : row.length = rn at *
  have HRN := Aside0.mk hrn
  subst hiv
  have HRR := Aside0.mk hRr
  have HPUT := Aside0.mk hput
  have hi1 : (i : Int) < (n : Int) := by have := HIL.out; have := HN.out; omega
  have hi0 : (0 : Int) ≤ (i : Int) := by omega
  have HG := Aside0.mk hgl
  have HGE := Aside0.mk hge
  clear hRr hput hrn hgi hfr HS hgl hge
  go_wp2_with ((with_reducible refine gate_builtin (b := .append) (xs := #[.tmp 37, .tmp 39]) rfl ?_); at_builtin; refine Kd.R_append (Kd.int .i64) (w0 := w) w.heap.size rfl (.tmp 37) (.tmp 39) 32 3 (.int .i64 0) 8 rfl Try.underlying32 info3 rfl (by decide) (by omega) (.slice A1 rn c1) row t [.int .i64 t] (fun k => k ≠ gd ∧ (some k = (Value.slice A1 rn c1).ownBlock ∨ w6.heap.size ≤ k)) (fun _ => False) rfl rfl rfl (fun _ hk => hk.elim) (fun k hk => ⟨by have := HG.out; have : w6.heap.size ≤ k := hk; omega, .inr hk⟩) HRR.out HB6.out HB6.out.size (by have := HRL.out; have := HRN.out; omega) ?_; intro v1 w7 ho hb hg hat; obtain ⟨hcell, hfr, hSn⟩ := HPUT.out w7 v1 (row ++ [t]) ho hg; have HSN := Aside0.mk hSn; have HB7 := Aside0.mk hb; obtain ⟨A4, c4, m4, hm4, rfl⟩ : ∃ A c m, Aside0 (m = (row ++ [t]).length) ∧ v1 = .slice A m c := (by obtain ⟨A, c, e⟩ := Kd.R_slice ho; exact ⟨A, c, _, ⟨rfl⟩, e⟩); clear ho hb hg hat hSn)
  go_ret2
  have hz : w.heap.size ≤ gd := HGE.out
  exact ⟨_, rfl, by have q := HSN.out; rw [HOUT.out] at q; rw [HN.out] at q; exact q, below_set (j := i) (v := .slice A4 m4 c4) HB7.out hz⟩
set_option maxRecDepth 100000 in
set_option maxHeartbeats 2000000 in
theorem spush_no {w : World} {A : Option Addr} {c : Nat} {d : List (List Int)} (i t : Int) (hr : Kd.C (Kd.slice 3 (Kd.int .i64)) w A d.length d) (hc : d.length ≤ c) (hl : d.length ≤ 1048576) (ht : tl d ≤ 1048576) (hno : workB d i = true → inT t = true → t ∉ d.flatten → (allL d).length = 60) :
    Calls Try.prog 21 #[.slice A d.length c, .int .i64 i, .int .i64 t] w (DeckOut w [] false) := by
  have HCW := Aside0.mk (asked_c i hr hc hl ht)
  have HCT := Aside0.mk (fun (W : World) => sin_c W t)
  have HCA := Aside0.mk (fun (W : World) (hb : Below w.heap.size w W) => all_c (Kd.C_below hr hb) hc hl ht)
  have hal := allL_le d
  have HCH := Aside0.mk (fun (W : World) (A : Option Addr) (c : Nat) (h1 : Kd.C (Kd.int .i64) W A (allL d).length (allL d)) (h2 : (allL d).length ≤ c) => has_c t h1 h2 (by rw [tl_flatten] at ht; omega))
  have hmt : (t ∈ d.flatten ↔ t ∈ allL d) := allL_mem.symm
  have halb : (allL d).length ≤ 1048576 := by rw [tl_flatten] at ht; omega
  rw [hmt] at hno
  generalize (allL d) = al at *
  generalize hb1 : workB d i = b1 at *
  generalize hb2 : inT t = b2 at *
  generalize hb3 : decide (t ∈ al) = b3 at *
  generalize hn : d.length = n at *
  generalize hna : al.length = na at *
  clear hr hc ht hb1 hb2 hn hal hmt
  cases b1 with
  | false =>
    clear hno hb3
    go_enter Try.func21, Try.ntmps21
    go_wp2_with fail
    refine HCW.out.mono ?_
    rintro e w1 ⟨rfl, hb⟩
    have HB1 := Aside0.mk hb
    clear hb HCW HCT HCA HCH
    go_wp2_with fail
    go_ret2
    exact DeckOut.none HB1.out
  | true =>
    cases b2 with
    | false =>
      clear hno hb3
      go_enter Try.func21, Try.ntmps21
      go_wp2_with fail
      refine HCW.out.mono ?_
      rintro e w1 ⟨rfl, hb⟩
      have HB1 := Aside0.mk hb
      clear hb HCW
      go_wp2_with fail
      refine (HCT.out w1).mono ?_
      rintro e w2 ⟨rfl, hb⟩
      have HB2 := Aside0.mk (below_then HB1.out HB1.out.size hb)
      clear hb HCT HB1 HCA HCH
      go_wp2_with fail
      go_ret2
      exact DeckOut.none HB2.out
    | true =>
      have hno2 : b3 = false → na = 60 := fun h => hno rfl rfl (by rw [h] at hb3; exact of_decide_eq_false hb3)
      clear hno hb3
      cases b3 with
      | true =>
        clear hno2
        go_enter Try.func21, Try.ntmps21
        go_wp2_with fail
        refine HCW.out.mono ?_
        rintro e w1 ⟨rfl, hb⟩
        have HB1 := Aside0.mk hb
        clear hb HCW
        go_wp2_with fail
        refine (HCT.out w1).mono ?_
        rintro e w2 ⟨rfl, hb⟩
        have HB2 := Aside0.mk (below_then HB1.out HB1.out.size hb)
        clear hb HCT HB1
        go_wp2_with fail
        refine (HCA.out w2 HB2.out).mono ?_
        rintro e w3 ⟨Aa, ca, rfl, hca, hC, hb⟩
        have HB3 := Aside0.mk (below_then HB2.out HB2.out.size hb)
        have HCH3 := Aside0.mk (HCH.out w3 Aa ca hC hca)
        clear hb HB2 hC hca HCH HCA
        go_wp2_with fail
        refine HCH3.out.mono ?_
        rintro e w4 ⟨rfl, hb⟩
        have HB4 := Aside0.mk (below_then HB3.out HB3.out.size hb)
        clear hb HB3 HCH3
        go_wp2_with fail
        go_ret2
        exact DeckOut.none HB4.out
      | false =>
        obtain rfl : na = 60 := hno2 rfl
        clear hno2 hna
        go_enter Try.func21, Try.ntmps21
        go_wp2_with fail
        refine HCW.out.mono ?_
        rintro e w1 ⟨rfl, hb⟩
        have HB1 := Aside0.mk hb
        clear hb HCW
        go_wp2_with fail
        refine (HCT.out w1).mono ?_
        rintro e w2 ⟨rfl, hb⟩
        have HB2 := Aside0.mk (below_then HB1.out HB1.out.size hb)
        clear hb HCT HB1
        go_wp2_with fail
        refine (HCA.out w2 HB2.out).mono ?_
        rintro e w3 ⟨Aa, ca, rfl, hca, hC, hb⟩
        have HB3 := Aside0.mk (below_then HB2.out HB2.out.size hb)
        have HCH3 := Aside0.mk (HCH.out w3 Aa ca hC hca)
        clear hb HB2 hC hca HCH
        go_wp2_with fail
        refine HCH3.out.mono ?_
        rintro e w4 ⟨rfl, hb⟩
        have HB4 := Aside0.mk (below_then HB3.out HB3.out.size hb)
        clear hb HB3 HCH3
        go_wp2_with fail
        refine (HCA.out w4 HB4.out).mono ?_
        rintro e w5 ⟨Ab, cb, rfl, hca, hC, hb⟩
        have HB5 := Aside0.mk (below_then HB4.out HB4.out.size hb)
        clear hb HB4 hC hca HCA
        go_wp2_with fail
        go_ret2
        exact DeckOut.none HB5.out
set_option maxRecDepth 100000 in
set_option maxHeartbeats 2000000 in
theorem ipush_no {w : World} {A : Option Addr} {c : Nat} {d : List (List Int)} (i t : Int) (hr : Kd.C (Kd.slice 3 (Kd.int .i64)) w A d.length d) (hc : d.length ≤ c) (hl : d.length ≤ 1048576) (ht : tl d ≤ 1048576) (hno : workB d i = true → inT t = false) :
    Calls Try.prog 22 #[.slice A d.length c, .int .i64 i, .int .i64 t] w (DeckOut w [] false) := by
  have HCW := Aside0.mk (worker_c i hr hc hl ht)
  have HCT := Aside0.mk (fun (W : World) => task_c W t)
  generalize hb1 : workB d i = b1 at *
  generalize hb2 : inT t = b2 at *
  generalize hn : d.length = n at *
  clear hr hc ht hb1 hb2 hn
  cases b1 with
  | false =>
    clear hno
    go_enter Try.func22, Try.ntmps22
    go_wp2_with fail
    refine HCW.out.mono ?_
    rintro e w1 ⟨rfl, hb⟩
    have HB1 := Aside0.mk hb
    clear hb HCW HCT
    go_wp2_with fail
    go_ret2
    exact DeckOut.none HB1.out
  | true =>
    obtain rfl := hno rfl
    clear hno
    go_enter Try.func22, Try.ntmps22
    go_wp2_with fail
    refine HCW.out.mono ?_
    rintro e w1 ⟨rfl, hb⟩
    have HB1 := Aside0.mk hb
    clear hb HCW
    go_wp2_with fail
    refine (HCT.out w1).mono ?_
    rintro e w2 ⟨rfl, hb⟩
    have HB2 := Aside0.mk (below_then HB1.out HB1.out.size hb)
    clear hb HCT HB1
    go_wp2_with fail
    go_ret2
    exact DeckOut.none HB2.out

/-- Both sides' PushTo leave the same. -/
theorem push_both {d : List (List Int)} (i t : Int) (hl : d.length ≤ 1048576) (ht : tl d ≤ 1048576) : ∃ r1 r2, r1.length ≤ 1048576 ∧ tl r1 ≤ 1048577 ∧
    (∀ (w : World) (A : Option Addr) (c : Nat), Kd.C (Kd.slice 3 (Kd.int .i64)) w A d.length d → d.length ≤ c → Calls Try.prog 21 #[.slice A d.length c, .int .i64 i, .int .i64 t] w (DeckOut w r1 r2)) ∧
    (∀ (w : World) (A : Option Addr) (c : Nat), Kd.C (Kd.slice 3 (Kd.int .i64)) w A d.length d → d.length ≤ c → Calls Try.prog 22 #[.slice A d.length c, .int .i64 i, .int .i64 t] w (DeckOut w r1 r2)) := by
  by_cases hw : workB d i = true
  · obtain ⟨hg, h0, h1⟩ := workB_iff.1 hw
    obtain ⟨n, rfl⟩ : ∃ n : Nat, i = (n : Int) := ⟨i.toNat, by omega⟩
    have hil : n < d.length := by omega
    by_cases hi : inT t = true
    · have h01 : 0 ≤ t ∧ t ≤ 999 := by unfold inT at hi; simpa using hi
      have hgp := good_push hg hil h01.1 h01.2
      have hN := (goodB_iff.1 hg).2.2.2.2
      have h60 := (goodB_iff.1 hg).2.2.1
      by_cases hm : t ∉ d.flatten ∧ d.flatten.length < 60
      · refine ⟨d.set n (d.getD n [] ++ [t]), true, by simpa using hl, ?_, fun w A c hr hc => spush_on n t hr hc hl ht hw hi hm.1 hm.2, fun w A c hr hc => ?_⟩
        · rw [tl_flatten, (flat_set d n hil [t]).length_eq, List.length_append, ← tl_flatten]; simp; omega
        · have := ipush_on n t hr hc hl ht hw hi
          rw [hgp.2 hm] at this
          exact this
      · refine ⟨[], false, by simp, by simp [tl], fun w A c hr hc => spush_no (n : Int) t hr hc hl ht (fun _ _ hm' => ?_), fun w A c hr hc => ?_⟩
        · rw [allL_len hN]
          have : ¬ d.flatten.length < 60 := fun h => hm ⟨hm', h⟩
          omega
        · have := ipush_on n t hr hc hl ht hw hi
          have hgf : goodB (d.set n (d.getD n [] ++ [t])) = false := by rw [Bool.eq_false_iff]; exact fun h => hm (hgp.1 h)
          rw [hgf] at this
          exact this
    · have hi' : inT t = false := by simpa using hi
      exact ⟨[], false, by simp, by simp [tl], fun w A c hr hc => spush_no (n : Int) t hr hc hl ht (fun _ h => absurd h hi), fun w A c hr hc => ipush_no (n : Int) t hr hc hl ht (fun _ => hi')⟩
  · exact ⟨[], false, by simp, by simp [tl], fun w A c hr hc => spush_no i t hr hc hl ht (fun h => absurd h hw), fun w A c hr hc => ipush_no i t hr hc hl ht (fun h => absurd h hw)⟩
end Go.Proofs.Ytoaimlpbliabdaa.DFnExactPushTo
