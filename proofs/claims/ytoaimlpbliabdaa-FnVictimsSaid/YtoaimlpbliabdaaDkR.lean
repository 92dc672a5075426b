/- The drawn decks walked. No conditions but those of each lemma. -/
import Derived.Test.YtoaimlpbliabdaaDkQ
import Derived.Test.YtoaimlpbliabdaaDkF
import Derived.Deep.DeepCutAuto
namespace Go.Proofs.Ytoaimlpbliabdaa.DFnExactPushTo
open Go.RowKit Go.Proofs.YtoaimlpbliabdaaW.PrintWords Go.Proofs.YtoaimlpbliabdaaW.PrintLast Go.Proofs.YtoaimlpbliabdaaW.PrintMore
set_option linter.unusedVariables false
set_option linter.unusedSimpArgs false

theorem CurAt.ne_row {w0 w : World} {g : Nat} {l : List Int} {K : Int} {base : Nat} {ok : Nat → Prop} {v : Value} {xs : List Int} (h : CurAt w0 w g l K) (ho : Kd.R (Kd.int .i64) 3 w base ok v xs) : some g ≠ v.ownBlock := by
  obtain ⟨a, s, h1, h2, h3⟩ := h
  exact h1.own_ne ho (by decide)
theorem CurAt.ne_rows {w0 w : World} {g : Nat} {l : List Int} {K : Int} {base : Nat} {ok : Nat → Prop} {gd n c : Nat} {xs : List (List Int)} (h : CurAt w0 w g l K) (ho : Kd.S (Kd.slice 3 (Kd.int .i64)) 32 w base ok (.slice (some ⟨gd, 0, none⟩) n c) xs) : g ≠ gd := by
  obtain ⟨a, s, h1, h2, h3⟩ := h
  intro e
  exact h1.own_neS ho (by decide) (by rw [e]; simp [Value.ownBlock])
theorem grown_alloc (w : World) (o : Obj) (r : Option Nat) : w.grownBy (w.alloc o) r := World.grownBy_alloc w o r
theorem lit33 (w : World) : Kd.C (Kd.int .i64) (w.alloc (.cells #[.int .i64 3, .int .i64 3] 3)) (some ⟨w.heap.size, 0, none⟩) 2 [3, 3] := by
  refine Kd.C_of_reads (enc := Value.int .i64) (d := (0 : Int)) (h1 := fun _ => rfl) ⟨rfl, by decide, fun _ => ⟨_, rfl, fun i hi => ?_⟩⟩
  rw [add_at, Nat.zero_add, cellB (heap_alloc_new w _)]
  match i, hi with
  | 0, _ => rfl
  | 1, _ => rfl
/-- One more in a row. -/
theorem tl_put {d : List (List Int)} {i : Nat} (h : i < d.length) (r : List Int) : tl (d.set i (d.getD i [] ++ r)) = tl d + r.length := by
  rw [tl_flatten, (flat_set d i h r).length_eq, List.length_append, ← tl_flatten]; omega
/-- What a draw of decks leaves. -/
def DecksAt (w0 : World) (g : Nat) (l : List Int) (K : Int) (e : Ending) (w' : World) : Prop := ∃ (gd n : Nat) (d : List (List Int)), e = .returned (.slice (some ⟨gd, 0, none⟩) n n) ∧ d.length = n ∧ 1 ≤ n ∧ n ≤ 4 ∧ tl d ≤ 20 ∧ Kd.S (Kd.slice 3 (Kd.int .i64)) 32 w' w0.heap.size (fun k => k ≠ g) (.slice (some ⟨gd, 0, none⟩) n n) d ∧ CurAt w0 w' g l K ∧ Below w0.heap.size w0 w'
set_option maxRecDepth 100000 in
set_option maxHeartbeats 4000000 in
theorem decks_c {w0 w : World} {g : Nat} {l : List Int} {K : Int} (hI : CurAt w0 w g l K) (hB : Below w0.heap.size w0 w) (hl : ∀ x ∈ l, 0 ≤ x ∧ x ≤ 255) (hK : K ≤ 1000000000) :
    Calls Try.prog 108 #[.pointer (some ⟨g, 0, none⟩)] w (DecksAt w0 g l (K + 40)) := by
  have HP := Aside0.mk (fun (W : World) (K' : Int) (hI : CurAt w0 W g l K') (hB : Below w0.heap.size w0 W) (hK : K' ≤ 100000000000) (n : Int) (h1 : 1 ≤ n) (h2 : n ≤ 200) => pick_c hI hB hl hK n h1 h2)
  have HI := Aside0.mk hI
  have HB := Aside0.mk hB
  clear hI hB hl
  go_enter Try.func108, Try.ntmps108
  go_wp2_with fail
  refine (HP.out w K HI.out HB.out (by omega) 4 (by omega) (by omega)).mono ?_
  rintro e w1 ⟨r, rfl, hr0, hr1, hI, hb, hk⟩
  obtain ⟨n, hn⟩ : ∃ n : Nat, 1 + r = (n : Int) := ⟨(1 + r).toNat, by omega⟩
  have hn1 : 1 ≤ n := by omega
  have hn4 : n ≤ 4 := by omega
  have hw : wrap64 (1 + r) = (n : Int) := by rw [hn]; exact w64 (by omega) (by omega)
  have m22 := print_make_of (P := Try.prog) 22 32 (.slice none 0 0) 24 Try.underlying22 (by rw [info32]) rfl (by decide) n (by omega)
  have HI1 := Aside0.mk hI
  have HB1 := Aside0.mk hb
  clear hI hb hk HI HB hn hr0 hr1
  go_wp2_with fail
  have HS : Aside0 (Kd.S (Kd.slice 3 (Kd.int .i64)) 32 (w1.alloc (.cells (madeCells #[.slice none 0 0] n) 32)) w0.heap.size (fun k => k ≠ g) (.slice (some ⟨w1.heap.size, 0, none⟩) n n) (List.replicate n [])) := ⟨S_nils (blk_new _ _) HB1.out.size (fun e => by have := HI1.out.lt; omega) (by omega)⟩
  have HI2 := Aside0.mk (CurAt.below HI1.out ((Below.refl _ w1).alloc (Nat.le_refl _) (.cells (madeCells #[.slice none 0 0] n) 32)))
  have HB2 := Aside0.mk (below_alloc HB1.out (.cells (madeCells #[.slice none 0 0] n) 32))
  generalize w1.alloc (.cells (madeCells #[.slice none 0 0] n) 32) = w2 at *
  generalize w1.heap.size = gd at *
  clear HI1 HB1 m22 hw
  refine (HP.out w2 (K + 1) HI2.out HB2.out (by omega) 10 (by omega) (by omega)).mono ?_
  rintro e w3 ⟨r2, rfl, hr0, hr1, hI, hb, hk⟩
  obtain ⟨m, rfl⟩ : ∃ m : Nat, r2 = (m : Int) := ⟨r2.toNat, by omega⟩
  have hm9 : m ≤ 9 := by omega
  have HI3 := Aside0.mk hI
  have HB3 := Aside0.mk hb
  have HS3 := Aside0.mk (Kd.S_keep HS.out hk (fun k hk => hk))
  clear hI hb hk HI2 HB2 HS hr0 hr1
  go_wp2_with fail
  go_loopg [4] (m + 1) (fun kq v4 w' => ∃ (j : Nat) (d : List (List Int)), v4 = .int .i64 (j : Int) ∧ kq = j + 1 ∧ j ≤ m ∧ Aside0 (d.length = n ∧ tl d + j ≤ m) ∧ Aside0 (Kd.S (Kd.slice 3 (Kd.int .i64)) 32 w' w0.heap.size (fun k => k ≠ g) (.slice (some ⟨gd, 0, none⟩) n n) d) ∧ Aside0 (CurAt w0 w' g l (K + 2 + 2 * ((m : Int) - (j : Int)))) ∧ Aside0 (Below w0.heap.size w0 w'))
  case atStart =>
    refine ⟨m, List.replicate n [], rfl, rfl, Nat.le_refl _, ⟨by simp, ?_⟩, HS3, ⟨HI3.out.mono (by omega)⟩, HB3⟩
    have : tl (List.replicate n ([] : List Int)) = 0 := by simp [tl]
    omega
  case round =>
    clear HS3 HI3 HB3
    obtain ⟨j, d, rfl, rfl, hjm, HD, HSi, HIi, HBi⟩ := hrel
    by_cases hlt : 0 < j
    · have hjp : (0 : Int) < (j : Int) := by omega
      go_wp2_with fail
      refine (HP.out wr _ HIi.out HBi.out (by omega) n (by omega) (by omega)).mono ?_
      rintro e w4 ⟨r3, rfl, hr0, hr1, hI, hb, hk⟩
      obtain ⟨i, rfl⟩ : ∃ i : Nat, r3 = (i : Int) := ⟨r3.toNat, by omega⟩
      have hin : i < n := by omega
      have HI4 := Aside0.mk hI
      have HB4 := Aside0.mk hb
      have HS4 := Aside0.mk (Kd.S_keep HSi.out hk (fun k hk => hk))
      clear hI hb hk HIi HBi HSi hr0 hr1
      go_wp2_with fail
      refine (HP.out w4 _ HI4.out HB4.out (by omega) 20 (by omega) (by omega)).mono ?_
      rintro e w5 ⟨x, rfl, hx0, hx1, hI, hb, hk⟩
      have HI5 := Aside0.mk hI
      have HB5 := Aside0.mk hb
      have HS5 := Aside0.mk (Kd.S_keep HS4.out hk (fun k hk => hk))
      clear hI hb hk HI4 HB4 HS4 hx0 hx1
      go_wp2_with fail
      obtain ⟨-, -, Ca⟩ := Kd.S_reads' HS5.out
      have hcall := all_c (c := n) Ca (by have := HD.out.1; omega) (by have := HD.out.1; omega) (by have := HD.out.2; omega)
      rw [HD.out.1] at hcall
      refine hcall.mono ?_
      rintro e w6 ⟨Aa, ca, rfl, hca, hC, hb⟩
      have HI6 := Aside0.mk (HI5.out.below hb)
      have HB6 := Aside0.mk (below_then HB5.out HB5.out.size hb)
      have HS6 := Aside0.mk (Kd.S_below HS5.out hb)
      have HCH := Aside0.mk (has_c x hC hca (by have := allL_le d; have := HD.out.2; rw [tl_flatten] at this; omega))
      generalize decide (x ∈ allL d) = bx at *
      generalize (allL d).length = na at *
      clear hb hC hca hcall Ca HI5 HB5 HS5
      go_wp2_with fail
      refine HCH.out.mono ?_
      rintro e w7 ⟨rfl, hb⟩
      have HI7 := Aside0.mk (HI6.out.below hb)
      have HB7 := Aside0.mk (below_then HB6.out HB6.out.size hb)
      have HS7 := Aside0.mk (Kd.S_below HS6.out hb)
      clear hb HCH HI6 HB6 HS6
      cases bx with
      | true =>
        go_wp2_with fail
        go_roundg j
        case measure => omega
        case rel => exact ⟨j - 1, d, by go_num, by omega, by omega, ⟨HD.out.1, by have := HD.out.2; omega⟩, HS7, ⟨HI7.out.mono (by omega)⟩, HB7⟩
      | false =>
        obtain ⟨gd2, cap, iv, A1, c1, he, hiv, -, hcell, hfr, hge, hgl, hgi, hRr, hput⟩ := S_hand HS7.out (fun k hk => by have := HI7.out.lt; omega) i (by rw [HD.out.1]; exact hin)
        injection he with he1 he2 he3
        injection he1 with he1
        injection he1 with he1 _ _
        subst he1
        have hrow1 : (d.getD i []).length ≤ 20 := by
          have := HD.out.2
          rw [List.getD_eq_getElem?_getD, List.getElem?_eq_getElem (by rw [HD.out.1]; exact hin)]
          have := len_le_tl (List.getElem_mem (show i < d.length by rw [HD.out.1]; exact hin))
          simp only [Option.getD_some]
          omega
        have HSET := Aside0.mk (show tl (d.set i (d.getD i [] ++ [x])) = tl d + 1 from tl_put (by rw [HD.out.1]; exact hin) [x])
        generalize d.getD i [] = row at *
        generalize hrn : row.length = rn at *
        have HRN := Aside0.mk hrn
        subst hiv
        have HRR := Aside0.mk hRr
        have HPUT := Aside0.mk hput
        have HG := Aside0.mk hgl
        have HGE := Aside0.mk hge
        have HNR := Aside0.mk (HI7.out.ne_row hRr)
        have HNG := Aside0.mk (HI7.out.ne_rows HS7.out)
        have hi1 : (i : Int) < (n : Int) := by omega
        have hi0 : (0 : Int) ≤ (i : Int) := by omega
        clear hRr hput hrn hgi hgl hge he2 he3 HS7
        go_wp2_with ((with_reducible refine gate_builtin (b := .append) (xs := #[.tmp 33, .tmp 35]) rfl ?_); at_builtin; refine Kd.R_append (Kd.int .i64) (w0 := w0) w0.heap.size rfl (.tmp 33) (.tmp 35) 32 3 (.int .i64 0) 8 rfl Try.underlying32 info3 rfl (by decide) (by omega) (.slice A1 rn c1) row x [.int .i64 x] (fun k => k ≠ gd ∧ (some k = (Value.slice A1 rn c1).ownBlock ∨ w7.heap.size ≤ k)) (fun _ => False) rfl rfl rfl (fun _ hk => hk.elim) (fun k hk => ⟨by have := HG.out; have : w7.heap.size ≤ k := hk; omega, .inr hk⟩) HRR.out HB7.out HB7.out.size (by have := HRN.out; omega) ?_; intro v1 w8 ho hb hg hat; obtain ⟨hcell, hfr, hSn⟩ := HPUT.out w8 v1 (row ++ [x]) ho hg; have HSN := Aside0.mk hSn; have HB8 := Aside0.mk hb; have HI8 := Aside0.mk (HI7.out.grown hg HNR.out); obtain ⟨A4, c4, m4, hm4, rfl⟩ : ∃ A c m, Aside0 (m = (row ++ [x]).length) ∧ v1 = .slice A m c := (by obtain ⟨A, c, e⟩ := Kd.R_slice ho; exact ⟨A, c, _, ⟨rfl⟩, e⟩); clear ho hb hg hat hSn)
        go_roundg j
        case measure => omega
        case rel => exact ⟨j - 1, d.set i (row ++ [x]), by go_num, by omega, by omega, ⟨by rw [List.length_set]; exact HD.out.1, by have := HD.out.2; have := HSET.out; omega⟩, HSN, ⟨CurAt.mono (CurAt.far HI8.out HNG.out _) (by omega)⟩, ⟨below_set HB8.out HGE.out⟩⟩
    · obtain rfl : j = 0 := by omega
      go_wp2_with fail
      refine (HP.out wr _ HIi.out HBi.out (by omega) 30 (by omega) (by omega)).mono ?_
      rintro e w4 ⟨r3, rfl, hr0, hr1, hI, hb, hk⟩
      have HI4 := Aside0.mk hI
      have HB4 := Aside0.mk hb
      have HS4 := Aside0.mk (Kd.S_keep HSi.out hk (fun k hk => hk))
      clear hI hb hk HIi HBi HSi
      by_cases h0 : r3 = 0
      · subst h0
        obtain ⟨gd2, cap, iv, A1, c1, he, hiv, -, hcell, hfr, hge, hgl, hgi, hRr, hput⟩ := S_hand HS4.out (fun k hk => by have := HI4.out.lt; omega) 0 (by rw [HD.out.1]; omega)
        injection he with he1 he2 he3
        injection he1 with he1
        injection he1 with he1 _ _
        subst he1
        have hrow1 : (d.getD 0 []).length ≤ 20 := by
          have := HD.out.2
          rw [List.getD_eq_getElem?_getD, List.getElem?_eq_getElem (show 0 < d.length by rw [HD.out.1]; omega)]
          have := len_le_tl (List.getElem_mem (show 0 < d.length by rw [HD.out.1]; omega))
          simp only [Option.getD_some]
          omega
        have HSET := Aside0.mk (tl_put (show 0 < d.length by rw [HD.out.1]; omega) [1000])
        generalize d.getD 0 [] = row at *
        generalize hrn : row.length = rn at *
        have HRN := Aside0.mk hrn
        subst hiv
        have HRR := Aside0.mk hRr
        have HPUT := Aside0.mk hput
        have HG := Aside0.mk hgl
        have HGE := Aside0.mk hge
        have HNR := Aside0.mk (HI4.out.ne_row hRr)
        have HNG := Aside0.mk (HI4.out.ne_rows HS4.out)
        have hi1 : (0 : Int) < (n : Int) := by omega
        clear hRr hput hrn hgi hgl hge he2 he3 HS4
        go_wp2_with ((with_reducible refine gate_builtin (b := .append) (xs := #[.tmp 45, .tmp 46]) rfl ?_); at_builtin; refine Kd.R_append (Kd.int .i64) (w0 := w0) w0.heap.size rfl (.tmp 45) (.tmp 46) 32 3 (.int .i64 0) 8 rfl Try.underlying32 info3 rfl (by decide) (by omega) (.slice A1 rn c1) row 1000 [.int .i64 1000] (fun k => k ≠ gd ∧ (some k = (Value.slice A1 rn c1).ownBlock ∨ w4.heap.size ≤ k)) (fun _ => False) rfl rfl rfl (fun _ hk => hk.elim) (fun k hk => ⟨by have := HG.out; have : w4.heap.size ≤ k := hk; omega, .inr hk⟩) HRR.out HB4.out HB4.out.size (by have := HRN.out; omega) ?_; intro v1 w8 ho hb hg hat; obtain ⟨hcell, hfr, hSn⟩ := HPUT.out w8 v1 (row ++ [1000]) ho hg; have HSN := Aside0.mk hSn; have HB8 := Aside0.mk hb; have HI8 := Aside0.mk (HI4.out.grown hg HNR.out); obtain ⟨A4, c4, m4, hm4, rfl⟩ : ∃ A c m, Aside0 (m = (row ++ [1000]).length) ∧ v1 = .slice A m c := (by obtain ⟨A, c, e⟩ := Kd.R_slice ho; exact ⟨A, c, _, ⟨rfl⟩, e⟩); clear ho hb hg hat hSn)
        go_ret
        exact ⟨gd, n, d.set 0 (row ++ [1000]), rfl, by rw [List.length_set]; exact HD.out.1, hn1, hn4, by have := HD.out.2; have := HSET.out; simp at this; omega, HSN.out, CurAt.mono (CurAt.far HI8.out HNG.out _) (by omega), below_set HB8.out HGE.out⟩
      · by_cases h1 : r3 = 1
        · subst h1
          obtain ⟨gd2, cap, iv, A1, c1, he, hiv, -, hcell, hfr, hge, hgl, hgi, hRr, hput⟩ := S_hand HS4.out (fun k hk => by have := HI4.out.lt; omega) 0 (by rw [HD.out.1]; omega)
          injection he with he1 he2 he3
          injection he1 with he1
          injection he1 with he1 _ _
          subst he1
          have hrow1 : (d.getD 0 []).length ≤ 20 := by
            have := HD.out.2
            rw [List.getD_eq_getElem?_getD, List.getElem?_eq_getElem (show 0 < d.length by rw [HD.out.1]; omega)]
            have := len_le_tl (List.getElem_mem (show 0 < d.length by rw [HD.out.1]; omega))
            simp only [Option.getD_some]
            omega
          have HSET := Aside0.mk (tl_put (show 0 < d.length by rw [HD.out.1]; omega) [3, 3])
          generalize d.getD 0 [] = row at *
          generalize hrn : row.length = rn at *
          have HRN := Aside0.mk hrn
          subst hiv
          have HRR := Aside0.mk hRr
          have HLIT : Aside0 (Kd.C (Kd.int .i64) (w4.alloc (.cells #[.int .i64 3, .int .i64 3] 3)) (some ⟨w4.heap.size, 0, none⟩) 2 [3, 3]) := ⟨lit33 w4⟩
          have HPUT := Aside0.mk hput
          have HG := Aside0.mk hgl
          have HGE := Aside0.mk hge
          have HNR := Aside0.mk (HI4.out.ne_row hRr)
          have HNG := Aside0.mk (HI4.out.ne_rows HS4.out)
          have hi1 : (0 : Int) < (n : Int) := by omega
          clear hRr hput hrn hgi hgl hge he2 he3 HS4
          go_wp2_with ((with_reducible refine gate_builtin (b := .append) (xs := #[.tmp 54, .tmp 55]) rfl ?_); at_builtin; refine Kd.R_append_rows (Kd.int .i64) (w0 := w0) w0.heap.size rfl (.tmp 54) (.tmp 55) 32 3 (.int .i64 0) 8 rfl Try.underlying32 info3 rfl (by decide) (by omega) (.slice A1 rn c1) row [3, 3] (some ⟨w4.heap.size, 0, none⟩) 2 2 (fun k => k ≠ gd ∧ (some k = (Value.slice A1 rn c1).ownBlock ∨ w4.heap.size ≤ k)) (fun _ => False) rfl rfl (Kd.R_alloc HRR.out _) HLIT.out (fun _ _ h => h) (fun _ hk => hk.elim) (fun k hk => ⟨by have := HG.out; have : w4.heap.size + 1 ≤ k := (by simpa using hk); omega, .inr (by have : w4.heap.size + 1 ≤ k := (by simpa using hk); omega)⟩) (below_alloc HB4.out _) (by have := HB4.out.size; simp; omega) (by have := HRN.out; omega) ?_; intro v1 w8 ho hb hg hat; obtain ⟨hcell, hfr, hSn⟩ := HPUT.out w8 v1 (row ++ [3, 3]) ho (grown_trans (grown_alloc w4 _ _) hg); have HSN := Aside0.mk hSn; have HB8 := Aside0.mk hb; have HI8 := Aside0.mk ((HI4.out.below ((Below.refl _ w4).alloc (Nat.le_refl _) _)).grown hg HNR.out); obtain ⟨A4, c4, m4, hm4, rfl⟩ : ∃ A c m, Aside0 (m = (row ++ [3, 3]).length) ∧ v1 = .slice A m c := (by obtain ⟨A, c, e⟩ := Kd.R_slice ho; exact ⟨A, c, _, ⟨rfl⟩, e⟩); clear ho hb hg hat hSn)
          go_ret
          exact ⟨gd, n, d.set 0 (row ++ [3, 3]), rfl, by rw [List.length_set]; exact HD.out.1, hn1, hn4, by have := HD.out.2; have := HSET.out; simp at this; omega, HSN.out, CurAt.mono (CurAt.far HI8.out HNG.out _) (by omega), below_set HB8.out HGE.out⟩
        · have hb0 : (r3 == 0) = false := by rw [beq_eq_false_iff_ne]; exact h0
          have hb1 : (r3 == 1) = false := by rw [beq_eq_false_iff_ne]; exact h1
          go_wp2_with fail
          go_ret
          exact ⟨gd, n, d, rfl, HD.out.1, hn1, hn4, by have := HD.out.2; omega, HS4.out, HI4.out.mono (by omega), HB4.out⟩
end Go.Proofs.Ytoaimlpbliabdaa.DFnExactPushTo
