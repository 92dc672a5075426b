/- The program's pool walked: its step. No conditions but those of each lemma. -/
import Derived.Test.YtoaimlpbliabdaaPlD
import Derived.Deep.RegionHeld3
namespace Go.Proofs.Ytoaimlpbliabdaa.QFnExactEventsOf
open Go.RowKit Go.Proofs.YtoaimlpbliabdaaW.PrintWords Go.Proofs.YtoaimlpbliabdaaW.PrintLast Go.Proofs.YtoaimlpbliabdaaW.PrintMore PoolModel
set_option linter.unusedVariables false
set_option linter.unusedSimpArgs false

theorem readyL_busy {p : PSt} (hb : busy p = true) : readyL p.decks = upTo p.decks.length := by
  unfold readyL busy at *
  rw [if_pos hb]
theorem readyL_idle {p : PSt} (hb : busy p = false) : readyL p.decks = [] := by
  unfold readyL busy at *
  rw [if_neg (by simp [hb])]

theorem ibegun_ws (up picks draws : List Int) (p : PSt) (E : List (List Int)) (t I : Nat) : ipushed ({ ({ ({ ({ IS.of up picks draws p with picks := picks.drop (p.steps + 1), decks := E } : IS) with pre := (({ IS.of up picks draws p with picks := picks.drop (p.steps + 1), decks := E } : IS)).pre.set t true } : IS) with told := (({ IS.of up picks draws p with picks := picks.drop (p.steps + 1), decks := E } : IS)).told ++ [⟨1, (t : Int), (I : Int)⟩] } : IS) with steps := (({ IS.of up picks draws p with picks := picks.drop (p.steps + 1), decks := E } : IS)).steps + 1 } : IS) I (belowIn up (t : Int)) 0 = IS.of up picks draws (PoolModel.begun up { p with decks := E } (t : Int) (I : Int)) := by
  simp [ipushed, IS.of, PoolModel.begun, evS]

set_option maxRecDepth 100000 in
set_option maxHeartbeats 4000000 in
theorem istep_own {w0 w : World} {g : Nat} {dv lv pv qv tv kv nv : Value} {uA : Option Addr} {uc : Nat} {up picks draws : List Int} {p : PSt} {workers : Nat} (h : ImW (fun _ => False) w0 w g dv lv pv qv tv kv nv uA uc (IS.of up picks draws p))
    (hF : Forest up) (hG : PoolModel.Good up workers p) (hb : busy p = true) (hdr : Drawn draws) (hpk : Drawn picks) (hpl : picks.length < 1000) (hdl : draws.length < 1000) (hw0 : 0 < workers) (hwb : workers < 1000)
    (i : Nat) (hi : i < workers) (hpi : pickAt picks workers p.steps = (i : Int)) (M : Nat) (hM : (p.decks.getD i []).length = M + 1) :
    Calls Try.prog 91 #[.pointer (some ⟨g, 0, none⟩)] w fun e w' => e = .returned (.bool true) ∧ ∃ tv' kv' nv', ImW (fun _ => False) w0 w' g dv lv pv qv tv' kv' nv' uA uc (IS.of up picks draws (stepBy up draws p (i : Int))) := by
  have H0 := Aside0.mk h
  have HUP : Aside0 (Kd.C (Kd.int .i64) w0 uA up.length up) := ⟨h.up⟩
  have HUPC : Aside0 (up.length ≤ uc) := ⟨h.upc⟩
  have HF := Aside0.mk hF
  have HG := Aside0.mk hG
  have HB := Aside0.mk hb
  have HDR := Aside0.mk hdr
  have HPK := Aside0.mk hpk
  have HR := Aside0.mk (iready_calls h workers hG.inv.hd hw0 hwb (fun k => by have := hG.inv.deck_le k; have := hF.1; show (p.decks.getD k []).length < 1000; omega))
  rw [show (IS.of up picks draws p).decks = p.decks from rfl, readyL_busy hb, hG.inv.hd] at HR
  obtain ⟨pk, hpke⟩ : ∃ pk : Nat, picks.getD p.steps 0 = (pk : Int) := ⟨(picks.getD p.steps 0).toNat, by have := (hpk p.steps).1; omega⟩
  have hpd : (IS.of up picks draws p).picks.getD 0 0 = (pk : Int) := by
    show (picks.drop p.steps).getD 0 0 = _
    rw [← hpke]
    simp [List.getD_eq_getElem?_getD]
  have hie : i = pk % workers := by
    unfold pickAt at hpi
    rw [hpke] at hpi
    have : ((pk % workers : Nat) : Int) = (i : Int) := by rw [← hpi]; rfl
    omega
  have HPD := Aside0.mk hpd
  have hil := hi
  have hMl := Aside0.mk hM
  have hpll : (IS.of up picks draws p).picks.length < 1000 := by show (picks.drop p.steps).length < 1000; rw [List.length_drop]; omega
  have hwne : ¬ ((workers : Int) = 0) := by omega
  have hlt : pk % workers < workers := Nat.mod_lt _ hw0
  subst hie
  clear h hF hG hb hdr hpk hpke hpd hpi hM
  go_enter Try.func91, Try.ntmps91
  go_wp2_with fail
  refine HR.out.mono ?_
  rintro e w1 ⟨v, rfl, hR1, hB1⟩
  obtain ⟨gb, c1, rfl, hgb, hgbl, -⟩ := Kd.R_form hR1 (by rw [upTo_len]; exact hw0)
  obtain ⟨cb, -⟩ := Kd.R_cell 0 hR1 ((pk % workers : Nat) : Int) (by omega) (by rw [upTo_len]; omega)
  have hrd : rdOf 0 (upTo workers) ((pk % workers : Nat) : Int) = ((pk % workers : Nat) : Int) := by
    have := upTo_rd hlt
    unfold rd at this
    unfold rdOf
    exact this
  rw [hrd] at cb
  rw [upTo_len]
  simp only [Int.toNat_natCast] at cb
  have hgbg : gb ≠ g := by have := blk_lt H0.out.blk; omega
  have H1 := Aside0.mk (H0.out.below_ hB1)
  clear hR1 hB1 HR H0 hrd
  go_wp2_with fail
  refine (inext_picks H1.out hpll).mono ?_
  rintro e w2 ⟨rfl, hk2, kv2, h2⟩
  rw [HPD.out]
  have cb2 := (World.cell?_of_block (a := ⟨gb, pk % workers, none⟩) (hk2 gb hgbg)).trans cb
  have h2' : ImW (fun _ => False) w0 w2 g dv lv pv qv tv kv2 nv uA uc { IS.of up picks draws p with picks := picks.drop (p.steps + 1) } := by
    have e : (IS.of up picks draws p).picks.drop 1 = picks.drop (p.steps + 1) := by show (picks.drop p.steps).drop 1 = _; rw [List.drop_drop]
    rw [e] at h2; exact h2
  have H2 := Aside0.mk h2'
  clear h2 h2' hk2 H1 cb HPD hpll
  have hdl : (IS.of up picks draws p).decks.length = workers := HG.out.inv.hd
  have q := H2.out.lend (fun _ hx => hx.elim) (pk % workers) (by show pk % workers < p.decks.length; rw [HG.out.inv.hd]; exact hlt)
  obtain ⟨gd, cap, iv, A, c, hdv, hiv, hAc, hcell, hfr, hgl, hgg, hgi, hgI, -, hQ, hback⟩ := q
  dsimp only [IS.of] at hdv hiv hAc hQ hback
  rw [HG.out.inv.hd] at hdv
  rw [hMl.out] at hiv hAc
  subst hdv hiv
  have cg1 : w2.cell? ⟨g, 1, none⟩ = some (.slice (some ⟨gd, 0, none⟩) workers cap) := cell_blk H2.out.blk 1
  have hi1 : ((pk % workers : Nat) : Int) < (workers : Int) := by omega
  have hi0 : (0 : Int) ≤ ((pk % workers : Nat) : Int) := by omega
  have HQ := Aside0.mk hQ
  have HBK := Aside0.mk hback
  obtain ⟨ad, hA, clM⟩ := Kd.at_int (Kd.R_reads' hQ).2.2 (M : Int) (by omega) (by rw [hMl.out]; omega)
  subst hA
  simp only [Int.toNat_natCast] at clM
  have hMi : pk % workers < workers := hlt
  generalize hI : pk % workers = I at *
  have HI := Aside0.mk hI
  clear hQ hback hdl
  obtain ⟨t, ht, htl, htp, hI2, hD2, hp2, hq2, ho2⟩ := begun_inv HF.out HG.out.inv HG.out.done (taken_spec (draws := draws) HB.out (w := I) (by rw [HG.out.inv.hd]; exact hMi)) hMi
  have hDne : p.decks.getD I [] ≠ [] := fun e => by have := hMl.out; rw [e] at this; simp at this
  have htk : taken draws p (I : Int) = ((t : Int), { p with decks := p.decks.set I ((p.decks.getD I []).take M) }) := by
    have h1 : taken draws p (I : Int) = ((p.decks.getD I []).getD ((p.decks.getD I []).length - 1) 0, { p with decks := p.decks.set I ((p.decks.getD I []).take ((p.decks.getD I []).length - 1)) }) := by
      unfold taken
      simp only [Int.toNat_natCast]
      rw [if_neg hDne]
    rw [h1] at ht
    rw [h1, hMl.out]
    have ht' : (p.decks.getD I []).getD ((p.decks.getD I []).length - 1) 0 = (t : Int) := ht
    rw [hMl.out] at ht'
    simp only [Nat.add_sub_cancel] at ht' ⊢
    rw [ht']
  have hrt : rd (p.decks.getD I []) (M : Int) = (t : Int) := by
    have h1 : (taken draws p (I : Int)).1 = (p.decks.getD I []).getD ((p.decks.getD I []).length - 1) 0 := by
      unfold taken
      simp only [Int.toNat_natCast]
      rw [if_neg hDne]
    rw [htk, hMl.out] at h1
    unfold rd
    simp only [Int.toNat_natCast]
    simp only [Nat.add_sub_cancel] at h1
    exact h1.symm
  rw [hrt] at clM
  rw [htk] at hI2 hD2 hp2 hq2 ho2
  have HTK := Aside0.mk htk
  have HI2 := Aside0.mk hI2
  have HDn := Aside0.mk hD2
  have HP2 := Aside0.mk hp2
  have HQ2 := Aside0.mk hq2
  have HO2 := Aside0.mk ho2
  clear ht htp hDne htk hrt hI2 hD2 hp2 hq2 ho2
  have hMb : M < 1000 := by have h1 := HG.out.inv.deck_le I; have h2 := HF.out.1; have h3 := hMl.out; omega
  go_wp2_with fail
  go_quiet (fail)
  go_wp2_with fail
  have H3 := Aside0.mk (H2.out.drewN_ nq)
  have cg3 : (w2.drewN nq).cell? ⟨g, 1, none⟩ = some (.slice (some ⟨gd, 0, none⟩) workers cap) := cg1
  have hc3 : (w2.drewN nq).cell? ⟨gd, I, none⟩ = some (.slice (some ad) (M + 1) c) := hcell
  have hf3 : (w2.drewN nq).frozen? ⟨gd, I, none⟩ = false := hfr
  have HC3 : Aside0 (Kd.C (Kd.int .i64) (w2.drewN nq) (some ad) (p.decks.getD I []).length (p.decks.getD I [])) := ⟨Kd.C_below (by have := (Kd.R_reads' HQ.out).2.2; exact this) (pw_below_drewN (Below.refl _ _) nq)⟩
  have HBK3 : Aside0 (∀ (w1 : World) (v1 : Value) (row : List Int), (Kd.int .i64).R 3 w1 (w2.drewN nq).heap.size (fun _ => True) v1 row → Below (w2.drewN nq).heap.size (w2.drewN nq) w1 → w1.cell? ⟨gd, I, none⟩ = some (.slice (some ad) (M + 1) c) ∧ w1.frozen? ⟨gd, I, none⟩ = false ∧ ImW (fun _ => False) w0 (w1.setCell ⟨gd, I, none⟩ v1) g (.slice (some ⟨gd, 0, none⟩) workers cap) lv pv qv tv kv2 nv uA uc { IS.of up picks draws p with picks := picks.drop (p.steps + 1), decks := p.decks.set I row }) := ⟨fun w1 v1 row hr hb => by
    have hb2 : Below w2.heap.size w2 w1 := ⟨hb.os, hb.tape, hb.output, hb.size, hb.block⟩
    obtain ⟨a1, a2, -, -, a5⟩ := HBK.out w1 v1 row (Kd.R_mono (Kd.R_lower (Kd.R_bound hr) H2.out.bel.size) (fun k hk => ⟨fun e => by have h1 := hk.2.1; have h2 : w2.heap.size ≤ k := h1; omega, .inr hk.2.1⟩)) (below_then H2.out.bel H2.out.bel.size hb2) (grown_of_below hb2)
    exact ⟨a1, a2, a5⟩⟩
  have hgl3 : g < (w2.drewN nq).heap.size := blk_lt H3.out.blk
  clear cg1 hcell hfr HQ HBK H2 clM cb2 hgl
  generalize w2.drewN nq = w3 at *
  obtain ⟨A2, hcut, hC2⟩ := cutN (ad := ad) (n := M + 1) (c := c) (m := M) (xs := p.decks.getD I []) hMl.out.symm (Nat.le_refl _) hAc
  have HC2 := Aside0.mk hC2
  clear hC2
  generalize hD : p.decks.getD I [] = D at *
  have HD := Aside0.mk hD
  clear hD
  have hDl : D.length = M + 1 := hMl.out
  have hnil : D.drop (M + 1) = [] := List.drop_eq_nil_of_le (by omega)
  have htl : (D.take M).length = M := by rw [List.length_take]; omega
  rw [show M + 1 - (M + 1) = 0 by omega] at hcut
  have HT71 : Aside0 (∀ W, Below w3.heap.size w3 W → ReadsRow ((Kd.int .i64).K W) 1 W (some ad) M (D.take M)) := ⟨fun W hb => by
    have := Kd.C_take (Kd.C_below HC3.out hb) (m := M) (by omega)
    rw [htl] at this; exact this⟩
  have HT76 : Aside0 (∀ W, Below w3.heap.size w3 W → ReadsRow ((Kd.int .i64).K W) 1 W A2 0 ([] : List Int)) := ⟨fun W hb => by
    have := HC2.out W (Kd.C_below HC3.out hb)
    rw [hnil] at this; exact this⟩
  have HL71 : Aside0 ((([] : List Int).length + M) * 8 ≤ 140737488355328) := ⟨by simp; omega⟩
  have HL76 : Aside0 (((D.take M).length + 0) * 8 ≤ 140737488355328) := ⟨by rw [htl]; omega⟩
  have HTL := Aside0.mk htl
  clear hDl hnil htl
  have ib1 : (0 : Int) ≤ (M : Int) := by omega
  have ib2 : (M : Int) ≤ (c : Int) := by omega
  have hwr : IntKind.i64.wrap ((M : Int) + 1) = (M : Int) + 1 := by first | (rw [i64_w]; unfold wrap64; omega) | (simp only [i64_w]; unfold wrap64; omega)
  trace_state
  go_region_held3? (fun w' => w'.cell? ⟨g, 1, none⟩ = some (.slice (some ⟨gd, 0, none⟩) workers cap)) (first | assumption | exact ((pl_below (pl_belowd (Below.refl _ _))).cell (p := ⟨g, 1, none⟩) hgl3).trans cg3 | exact (HB71.out.cell (p := ⟨g, 1, none⟩) hgl3).trans cg3 | exact (HB76.out.cell (p := ⟨g, 1, none⟩) hgl3).trans cg3 | go_keep) (first | (refine Kd.R_append_rows_step (Kd.int .i64) (w0 := w3) w3.heap.size (by rfl) (.tmp 67) (.tmp 70) 32 3 (.int .i64 0) 8 (by rfl) Try.underlying32 info3 rfl (by decide) (by decide) (.slice (some ⟨w3.heap.size, 0, none⟩) 0 0) [] (D.take M) (some ad) M c (fun _ => True) (fun _ => False) (by rfl) (by rfl) (R_empty (pl_new rfl) (Nat.le_refl _) trivial) (HT71.out _ (pl_below (pl_belowd (Below.refl _ _)))) (fun _ _ h => h) (fun _ h => h.elim) (fun _ _ => trivial) (pl_below (pl_belowd (Below.refl _ _))) (pl_below (pl_belowd (Below.refl _ _))).size HL71.out ?_; intro v71 w71 ho hb hg hat; obtain ⟨A71, c71, e71⟩ := Kd.R_slice ho; rw [List.nil_append] at ho e71; rw [HTL.out] at e71; subst e71; have HR71 := Aside0.mk ho; have HB71 := Aside0.mk hb; clear ho hb hg hat) | (refine Kd.R_append_rows_step (Kd.int .i64) (w0 := w3) w3.heap.size (by rfl) (.tmp 71) (.tmp 75) 32 3 (.int .i64 0) 8 (by rfl) Try.underlying32 info3 rfl (by decide) (by decide) (.slice A71 M c71) (D.take M) [] A2 0 (c - (M + 1)) (fun _ => True) (fun _ => False) (by rfl) (by rfl) HR71.out (HT76.out _ HB71.out) (fun _ _ h => h) (fun _ h => h.elim) (fun _ _ => trivial) HB71.out HB71.out.size HL76.out ?_; intro v76 w76 ho hb hg hat; obtain ⟨A76, c76, e76⟩ := Kd.R_slice ho; rw [List.append_nil] at ho e76; rw [HTL.out] at e76; subst e76; have HB76 := Aside0.mk hb; obtain ⟨hcx, hfx, hF⟩ := HBK3.out w76 _ _ ho hb; have H4 := Aside0.mk hF; clear ho hb hg hat hF))
  all_goals (
    generalize hS4 : ({ IS.of up picks draws p with picks := picks.drop (p.steps + 1), decks := p.decks.set I (D.take M) } : IS) = S4 at H4
    have e4 : S4.pre = p.pre ∧ S4.told = p.told.map evS ∧ S4.steps = (p.steps : Int) ∧ S4.up = up := by subst hS4; exact ⟨rfl, rfl, rfl, rfl⟩
    obtain ⟨e41, e42, e43, e44⟩ := e4
    have HS4 := Aside0.mk hS4
    clear hS4
    generalize w76.setCell ⟨gd, I, none⟩ (.slice A76 M c76) = w5 at *
    have hpl : t < S4.pre.length := by rw [e41, HG.out.inv.hp]; exact htl
    obtain ⟨gp, pcap, rfl, hpc, hpf, hpg, hpgg, h6⟩ := H4.out.pre_ t hpl
    have H6 := Aside0.mk h6
    have c3 : w5.cell? ⟨g, 3, none⟩ = some (.slice (some ⟨gp, 0, none⟩) S4.pre.length pcap) := cell_blk H4.out.blk 3
    have c5 : (w5.setCell ⟨gp, t, none⟩ (.bool true)).cell? ⟨g, 5, none⟩ = some tv := cell_blk h6.blk 5
    have f5 : (w5.setCell ⟨gp, t, none⟩ (.bool true)).frozen? ⟨g, 5, none⟩ = false := free_blk h6.blk 5
    have hg6 : g < (w5.setCell ⟨gp, t, none⟩ (.bool true)).heap.size := blk_lt h6.blk
    have hn1 : (t : Int) < (S4.pre.length : Int) := by omega
    have hn0 : (0 : Int) ≤ (t : Int) := by omega
    have HT5 : Aside0 (S4.told.length < 995) := ⟨by
      rw [e42, List.length_map]
      have h1 := HG.out.told_le
      have h2 := HF.out.1
      omega⟩
    have hst : S4.steps < 1000 := by rw [e43]; have h1 := HG.out.steps_le; have h2 := HF.out.1; omega
    have hst0 : (0 : Int) ≤ S4.steps := by rw [e43]; omega
    have HE4 := Aside0.mk (And.intro e41 (And.intro e42 (And.intro e43 e44)))
    clear h6 e41 e42 e43 e44
    generalize hNP : S4.pre.length = NP at *
    go_wp2_with ((with_reducible refine gate_builtin (b := .append) (xs := #[.tmp 90, .tmp 94]) rfl ?_); at_builtin; refine Kd.R_append k93 (w0 := w0) w0.heap.size rfl (.tmp 90) (.tmp 94) 41 93 (.agg #[(.int .i64 0), (.int .i64 0), (.int .i64 0)]) 24 rfl Try.underlying41 info93 rfl (by decide) (by omega) tv S4.told ⟨1, (t : Int), (I : Int)⟩ [.int .i64 1, .int .i64 (t : Int), .int .i64 (I : Int)] (fun _ => True) (fun _ => False) rfl (by rw [size_set]; rfl) (k93_mkM _ _ _ _) (fun _ hk => hk.elim) (fun _ _ => trivial) ?aO ?aB ?aS ?aL ?_; (case aO => exact H6.out.td); (case aB => exact H6.out.bel); (case aS => exact H6.out.bel.size); (case aL => have := HT5.out; omega); intro v6 w6 ho hb hg hat; have e1 := hg.block g hg6 (Kd.R_ne H6.out.td H6.out.blk (by decide)); obtain ⟨A6, c6, hv6⟩ := Kd.R_slice ho; generalize (S4.told ++ ([⟨1, (t : Int), (I : Int)⟩] : List S93)).length = TL at hv6; subst hv6; have c60 : w6.cell? ⟨g, 0, none⟩ = some (.slice uA S4.up.length uc) := cell_blk (e1.trans H6.out.blk) 0; have c66 : w6.cell? ⟨g, 6, none⟩ = some (.int .i64 S4.steps) := cell_blk (e1.trans H6.out.blk) 6; have f66 := free_blk (e1.trans H6.out.blk) 6; have f65 := free_blk (e1.trans H6.out.blk) 5; have c65 := cell_blk (e1.trans H6.out.blk) 5; have H8 := Aside0.mk ((H6.out.told_ ho hb hg e1).steps_ (S4.steps + 1)); clear ho hb hg hat e1)
    rw [HE4.out.2.2.2]
    generalize (w6.setCell ⟨g, 5, none⟩ (.slice A6 TL c6)).setCell ⟨g, 6, none⟩ (.int .i64 (S4.steps + 1)) = w7 at *
    have hBl := below_len up (t : Int)
    have hup40 := HF.out.1
    refine (impl_belowIn.calls 2000001 uA uc up (t : Int) (belowIn up (t : Int)) _ (Kd.C_below HUP.out H8.out.bel) HUPC.out (ibelow_f (t : Int) (by omega) (by omega))).mono ?_
    rintro e w8 ⟨v8, rfl, hR8, hB8⟩
    obtain ⟨A8, c8, rfl⟩ := Kd.R_slice hR8
    have H9 := Aside0.mk (H8.out.excl hB8 (Kd.R_base hR8))
    have HL := Aside0.mk (Kd.R_lower (Kd.R_tight rfl hR8) H8.out.bel.size)
    have HX := Aside0.mk (Kd.R_lt hR8)
    clear hR8 hB8
    go_wp2_with fail
    have hIl : I < p.decks.length := by rw [HG.out.inv.hd]; exact hMi
    have hdl2 : S4.decks = p.decks.set I (D.take M) := by rw [← HS4.out]
    refine (ipush_calls H9.out (fun k hk => HX.out k hk.symm) I (by show I < S4.decks.length; rw [hdl2, List.length_set]; exact hIl) A8 c8 (belowIn up (t : Int)) HL.out (by
      show (S4.decks.getD I []).length + _ < 1000
      rw [hdl2, getD_set, if_pos ⟨rfl, hIl⟩, HTL.out]
      have := HG.out.inv.deck_le I
      have h3 := hMl.out
      rw [HD.out] at this
      omega)).mono ?_
    rintro e w9 ⟨rfl, h9⟩
    have h10 := h9.free
    have H10 : Aside0 (ImW (fun _ => False) w0 w9 g (.slice (some ⟨gd, 0, none⟩) workers cap) lv (.slice (some ⟨gp, 0, none⟩) NP pcap) qv (.slice A6 TL c6) kv2 nv uA uc (IS.of up picks draws (PoolModel.begun up { p with decks := p.decks.set I (D.take M) } (t : Int) (I : Int)))) := ⟨by
      rw [← HS4.out] at h10
      rw [← ibegun_ws]
      exact h10⟩
    clear h9 h10 H9 HL HX H8
    by_cases hbe : belowIn up (t : Int) = []
    · have hlz : (belowIn up (t : Int)).length = 0 := by rw [hbe]; rfl
      rw [hlz]
      have HBE := Aside0.mk hbe
      clear hbe hlz
      go_wp2_with fail
      refine (ipost_calls (workers := workers) H10.out HF.out HI2.out t htl ⟨htl, HP2.out, HQ2.out, by have := HO2.out; rw [HBE.out] at this; exact this, HDn.out⟩ I).mono ?_
      rintro e w10 ⟨rfl, tv10, h11⟩
      have H11 := Aside0.mk h11
      clear h11
      go_wp2_with fail
      go_ret
      have q : stepBy up draws p (I : Int) = posts up.length up (PoolModel.begun up { p with decks := p.decks.set I (D.take M) } (t : Int) (I : Int)) (t : Int) (I : Int) := by
        unfold stepBy
        simp only
        rw [HTK.out]
        exact if_pos HBE.out
      refine ⟨rfl, tv10, kv2, nv, ?_⟩
      rw [HI.out, q, hNP]
      exact H11.out
    · have hlp := List.length_pos_iff.2 hbe
      have HBE := Aside0.mk hbe
      clear hbe
      generalize (belowIn up (t : Int)).length = BL at *
      go_wp2_with fail
      go_ret
      have q : stepBy up draws p (I : Int) = PoolModel.begun up { p with decks := p.decks.set I (D.take M) } (t : Int) (I : Int) := by
        unfold stepBy
        simp only
        rw [HTK.out]
        exact if_neg HBE.out
      refine ⟨rfl, .slice A6 TL c6, kv2, nv, ?_⟩
      rw [HI.out, q, hNP]
      exact H10.out)

end Go.Proofs.Ytoaimlpbliabdaa.QFnExactEventsOf
namespace Go.Proofs.Ytoaimlpbliabdaa.QFnExactEventsOf
open Go.RowKit Go.Proofs.YtoaimlpbliabdaaW.PrintWords Go.Proofs.YtoaimlpbliabdaaW.PrintLast Go.Proofs.YtoaimlpbliabdaaW.PrintMore PoolModel
set_option linter.unusedVariables false
set_option linter.unusedSimpArgs false

theorem ibegun_ws2 (up picks draws : List Int) (p : PSt) (E : List (List Int)) (t I : Nat) : ipushed ({ ({ ({ ({ ({ ({ IS.of up picks draws p with picks := picks.drop (p.steps + 1) } : IS) with draws := draws.drop (p.drawn + 1) } : IS) with decks := E } : IS) with pre := p.pre.set t true } : IS) with told := p.told.map evS ++ [⟨1, (t : Int), (I : Int)⟩] } : IS) with steps := (p.steps : Int) + 1 } : IS) I (belowIn up (t : Int)) 0 = IS.of up picks draws (PoolModel.begun up { p with decks := E, drawn := p.drawn + 1 } (t : Int) (I : Int)) := by
  simp [ipushed, IS.of, PoolModel.begun, evS]

set_option maxRecDepth 100000 in
set_option maxHeartbeats 4000000 in
theorem istep_steal {w0 w : World} {g : Nat} {dv lv pv qv tv kv nv : Value} {uA : Option Addr} {uc : Nat} {up picks draws : List Int} {p : PSt} {workers : Nat} (h : ImW (fun _ => False) w0 w g dv lv pv qv tv kv nv uA uc (IS.of up picks draws p))
    (hF : Forest up) (hG : PoolModel.Good up workers p) (hb : busy p = true) (hdr : Drawn draws) (hpk : Drawn picks) (hpl : picks.length < 1000) (hdl : draws.length < 1000) (hw0 : 0 < workers) (hwb : workers < 1000)
    (i : Nat) (hi : i < workers) (hpi : pickAt picks workers p.steps = (i : Int)) (hM : (p.decks.getD i []).length = 0) (hdb : p.drawn < 2000000) :
    Calls Try.prog 91 #[.pointer (some ⟨g, 0, none⟩)] w fun e w' => e = .returned (.bool true) ∧ ∃ tv' kv' nv', ImW (fun _ => False) w0 w' g dv lv pv qv tv' kv' nv' uA uc (IS.of up picks draws (stepBy up draws p (i : Int))) := by
  have H0 := Aside0.mk h
  have HUP : Aside0 (Kd.C (Kd.int .i64) w0 uA up.length up) := ⟨h.up⟩
  have HUPC : Aside0 (up.length ≤ uc) := ⟨h.upc⟩
  have HF := Aside0.mk hF
  have HG := Aside0.mk hG
  have HB := Aside0.mk hb
  have HDR := Aside0.mk hdr
  have HPK := Aside0.mk hpk
  have HR := Aside0.mk (iready_calls h workers hG.inv.hd hw0 hwb (fun k => by have := hG.inv.deck_le k; have := hF.1; show (p.decks.getD k []).length < 1000; omega))
  rw [show (IS.of up picks draws p).decks = p.decks from rfl, readyL_busy hb, hG.inv.hd] at HR
  obtain ⟨pk, hpke⟩ : ∃ pk : Nat, picks.getD p.steps 0 = (pk : Int) := ⟨(picks.getD p.steps 0).toNat, by have := (hpk p.steps).1; omega⟩
  have hpd : (IS.of up picks draws p).picks.getD 0 0 = (pk : Int) := by
    show (picks.drop p.steps).getD 0 0 = _
    rw [← hpke]
    simp [List.getD_eq_getElem?_getD]
  have hie : i = pk % workers := by
    unfold pickAt at hpi
    rw [hpke] at hpi
    have : ((pk % workers : Nat) : Int) = (i : Int) := by rw [← hpi]; rfl
    omega
  have HPD := Aside0.mk hpd
  have hil := hi
  have hMl := Aside0.mk hM
  have hpll : (IS.of up picks draws p).picks.length < 1000 := by show (picks.drop p.steps).length < 1000; rw [List.length_drop]; omega
  have hwne : ¬ ((workers : Int) = 0) := by omega
  have hlt : pk % workers < workers := Nat.mod_lt _ hw0
  subst hie
  clear h hF hG hb hdr hpk hpke hpd hpi hM
  go_enter Try.func91, Try.ntmps91
  go_wp2_with fail
  refine HR.out.mono ?_
  rintro e w1 ⟨v, rfl, hR1, hB1⟩
  obtain ⟨gb, c1, rfl, hgb, hgbl, -⟩ := Kd.R_form hR1 (by rw [upTo_len]; exact hw0)
  obtain ⟨cb, -⟩ := Kd.R_cell 0 hR1 ((pk % workers : Nat) : Int) (by omega) (by rw [upTo_len]; omega)
  have hrd : rdOf 0 (upTo workers) ((pk % workers : Nat) : Int) = ((pk % workers : Nat) : Int) := by
    have := upTo_rd hlt
    unfold rd at this
    unfold rdOf
    exact this
  rw [hrd] at cb
  rw [upTo_len]
  simp only [Int.toNat_natCast] at cb
  have hgbg : gb ≠ g := by have := blk_lt H0.out.blk; omega
  have H1 := Aside0.mk (H0.out.below_ hB1)
  clear hR1 hB1 HR H0 hrd
  go_wp2_with fail
  refine (inext_picks H1.out hpll).mono ?_
  rintro e w2 ⟨rfl, hk2, kv2, h2⟩
  rw [HPD.out]
  have cb2 := (World.cell?_of_block (a := ⟨gb, pk % workers, none⟩) (hk2 gb hgbg)).trans cb
  have h2' : ImW (fun _ => False) w0 w2 g dv lv pv qv tv kv2 nv uA uc { IS.of up picks draws p with picks := picks.drop (p.steps + 1) } := by
    have e : (IS.of up picks draws p).picks.drop 1 = picks.drop (p.steps + 1) := by show (picks.drop p.steps).drop 1 = _; rw [List.drop_drop]
    rw [e] at h2; exact h2
  have H2 := Aside0.mk h2'
  clear h2 h2' hk2 H1 cb HPD hpll
  have hdl : (IS.of up picks draws p).decks.length = workers := HG.out.inv.hd
  have q := H2.out.lend (fun _ hx => hx.elim) (pk % workers) (by show pk % workers < p.decks.length; rw [HG.out.inv.hd]; exact hlt)
  obtain ⟨gd, cap, iv, A, c, hdv, hiv, hAc, hcell, hfr, hgl, hgg, hgi, hgI, -, hQ, hback⟩ := q
  dsimp only [IS.of] at hdv hiv hAc hQ hback
  rw [HG.out.inv.hd] at hdv
  rw [hMl.out] at hiv hAc
  subst hdv hiv
  have cg1 : w2.cell? ⟨g, 1, none⟩ = some (.slice (some ⟨gd, 0, none⟩) workers cap) := cell_blk H2.out.blk 1
  have hi1 : ((pk % workers : Nat) : Int) < (workers : Int) := by omega
  have hi0 : (0 : Int) ≤ ((pk % workers : Nat) : Int) := by omega
  clear hQ hback
  have hMi : pk % workers < workers := hlt
  generalize hI : pk % workers = I at *
  have HI := Aside0.mk hI
  go_wp2_with fail
  go_quiet (fail)
  go_wp2_with fail
  have H3 := Aside0.mk (H2.out.drewN_ nq)
  have cg3 : (w2.drewN nq).cell? ⟨g, 1, none⟩ = some (.slice (some ⟨gd, 0, none⟩) workers cap) := cg1
  have hgl3 : g < (w2.drewN nq).heap.size := blk_lt H3.out.blk
  clear cg1 hcell hfr H2 cb2 hgl
  generalize w2.drewN nq = w3 at *
  have hbe : p.decks.getD I [] = [] := List.eq_nil_of_length_eq_zero hMl.out
  have hvp := victims_pos HB.out hbe
  obtain ⟨dr, hdre⟩ : ∃ dr : Nat, draws.getD p.drawn 0 = (dr : Int) := ⟨(draws.getD p.drawn 0).toNat, by have := (HDR.out p.drawn).1; omega⟩
  have hm := mod_lt (a := (dr : Int)) hvp
  obtain ⟨k, hk, hke, _, hne⟩ := mem_victims.1 (getD_mem (d := 0) hm)
  have HVF := Aside0.mk (ivictim_f (ds := p.decks) (I : Int) (dr : Int) (by omega) (by rw [HG.out.inv.hd]; omega) (k := 2000001) (by rw [HG.out.inv.hd]; omega) hvp)
  rw [hke] at HVF
  have HDD : Aside0 (({ IS.of up picks draws p with picks := picks.drop (p.steps + 1) } : IS).draws.getD 0 0 = (dr : Int)) := ⟨by
    show (draws.drop p.drawn).getD 0 0 = _
    rw [← hdre]
    simp [List.getD_eq_getElem?_getD]⟩
  have hdll : ({ IS.of up picks draws p with picks := picks.drop (p.steps + 1) } : IS).draws.length < 1000 := by show (draws.drop p.drawn).length < 1000; rw [List.length_drop]; omega
  have HKE := Aside0.mk hke
  have HNE := Aside0.mk hne
  have HDRE := Aside0.mk hdre
  have hkw : k < workers := by rw [← HG.out.inv.hd]; exact hk
  clear hvp hm hke hne hdre hbe
  have HVC : Aside0 (∀ (w4 : World) (nv4 : Value) (l : List Int), ImW (fun _ => False) w0 w4 g (.slice (some ⟨gd, 0, none⟩) workers cap) lv pv qv tv kv2 nv4 uA uc ({ ({ IS.of up picks draws p with picks := picks.drop (p.steps + 1) } : IS) with draws := l }) → Calls Try.prog 109 #[.slice (some ⟨gd, 0, none⟩) workers cap, .int .i64 (I : Int), .int .i64 (dr : Int)] w4 fun e w' => e = .returned (.int .i64 (k : Int)) ∧ Below w4.heap.size w4 w') := ⟨fun w4 nv4 l h4 => by
    have q := Kd.S_reads' h4.dk
    have q1 : workers = p.decks.length := q.1
    have q2 := q.2.1
    rw [q1] at q2
    have hcall := impl_victim.calls 2000001 (some ⟨gd, 0, none⟩) cap p.decks (I : Int) (dr : Int) (k : Int) w4 q.2.2 q2 HVF.out
    rw [← q1] at hcall
    exact hcall⟩
  go_region_held3? (fun w' => w'.cell? ⟨g, 1, none⟩ = some (.slice (some ⟨gd, 0, none⟩) workers cap)) (first | assumption | exact cell_blk H5.out.blk 1 | exact cell_blk H4.out.blk 1 | go_keep) (first | (go_at_call 124; refine (inext_draws H3.out.drew_ hdll).mono ?_; rintro e w4 ⟨rfl, hk4, nv4, h4⟩; rw [HDD.out]; have H4 := Aside0.mk h4; clear h4 hk4) | (go_at_call 109; refine (HVC.out _ _ _ H4.out).mono ?_; rintro e w5 ⟨rfl, hB5⟩; have H5 := Aside0.mk (H4.out.below_ hB5); clear hB5))
  have hDp : 0 < (p.decks.getD k []).length := by
    rw [List.getD_eq_getElem?_getD, List.getElem?_eq_getElem hk]
    exact List.length_pos_iff.2 HNE.out
  obtain ⟨L, hL⟩ : ∃ L, (p.decks.getD k []).length = L + 1 := ⟨(p.decks.getD k []).length - 1, by omega⟩
  have q := H5.out.lend (fun _ hx => hx.elim) k hk
  obtain ⟨gd5, cap5, iv5, A5, c5, hdv5, hiv5, hAc5, hcell5, hfr5, hgl5, hgg5, hgi5, hgI5, -, hQ5, hback5⟩ := q
  dsimp only [IS.of] at hdv5 hiv5 hAc5 hQ5 hback5
  rw [HG.out.inv.hd] at hdv5
  injection hdv5 with ha1 ha2 ha3
  injection ha1 with ha1
  injection ha1 with ha1 _ _
  subst ha1
  subst ha3
  rw [hL] at hiv5 hAc5
  subst hiv5
  have cg5 : w5.cell? ⟨g, 1, none⟩ = some (.slice (some ⟨gd, 0, none⟩) workers cap) := cell_blk H5.out.blk 1
  have hgl3' : g < w5.heap.size := blk_lt H5.out.blk
  obtain ⟨ad, hA, clM⟩ := Kd.at_int (Kd.R_reads' hQ5).2.2 0 (by omega) (by omega)
  subst hA
  have clM' : w5.cell? ad = some (.int .i64 (rd (p.decks.getD k []) 0)) := clM
  obtain ⟨t, ht, htl, htp, hI2, hD2, hp2, hq2, ho2⟩ := begun_inv HF.out HG.out.inv HG.out.done (taken_spec (draws := draws) HB.out (w := I) (by rw [HG.out.inv.hd]; exact hMi)) hMi
  have hbe2 : p.decks.getD I [] = [] := List.eq_nil_of_length_eq_zero hMl.out
  have hk2 : ((victims p.decks (I : Int)).getD (draws.getD p.drawn 0 % ((victims p.decks (I : Int)).length : Int)).toNat 0).toNat = k := by rw [HDRE.out, HKE.out]; simp
  have htk0 : taken draws p (I : Int) = ((p.decks.getD k []).getD 0 0, { p with decks := p.decks.set k ((p.decks.getD k []).drop 1), drawn := p.drawn + 1 }) := by
    unfold taken
    simp only [Int.toNat_natCast]
    rw [if_pos hbe2]
    simp only [hk2]
  have hrt : rd (p.decks.getD k []) 0 = (t : Int) := by
    rw [htk0] at ht
    exact ht
  have htk : taken draws p (I : Int) = ((t : Int), { p with decks := p.decks.set k ((p.decks.getD k []).drop 1), drawn := p.drawn + 1 }) := by
    rw [htk0]
    rw [htk0] at ht
    have ht' : (p.decks.getD k []).getD 0 0 = (t : Int) := ht
    rw [ht']
  rw [hrt] at clM'
  rw [htk] at hI2 hD2 hp2 hq2 ho2
  have HTK := Aside0.mk htk
  have HI2 := Aside0.mk hI2
  have HDn := Aside0.mk hD2
  have HP2 := Aside0.mk hp2
  have HQ2 := Aside0.mk hq2
  have HO2 := Aside0.mk ho2
  have hLb : L < 1000 := by have h1 := HG.out.inv.deck_le k; have h2 := HF.out.1; omega
  clear ht htp htk htk0 hrt hI2 hD2 hp2 hq2 ho2 clM hbe2 hk2
  have hk1 : (k : Int) < (workers : Int) := by omega
  have hk0 : (0 : Int) ≤ (k : Int) := by omega
  go_wp2_with fail
  have HC3 : Aside0 (Kd.C (Kd.int .i64) w5 (some ad) (p.decks.getD k []).length (p.decks.getD k [])) := ⟨(Kd.R_reads' hQ5).2.2⟩
  have hdd : (({ IS.of up picks draws p with picks := picks.drop (p.steps + 1) } : IS).draws.drop 1) = draws.drop (p.drawn + 1) := by show (draws.drop p.drawn).drop 1 = _; rw [List.drop_drop]
  have HBK3 : Aside0 (∀ (w1 : World) (v1 : Value) (row : List Int), (Kd.int .i64).R 3 w1 w5.heap.size (fun _ => True) v1 row → Below w5.heap.size w5 w1 → w1.cell? ⟨gd, k, none⟩ = some (.slice (some ad) (L + 1) c5) ∧ w1.frozen? ⟨gd, k, none⟩ = false ∧ ImW (fun _ => False) w0 (w1.setCell ⟨gd, k, none⟩ v1) g (.slice (some ⟨gd, 0, none⟩) workers cap) lv pv qv tv kv2 nv4 uA uc { ({ ({ IS.of up picks draws p with picks := picks.drop (p.steps + 1) } : IS) with draws := draws.drop (p.drawn + 1) } : IS) with decks := p.decks.set k row }) := ⟨fun w1 v1 row hr hb => by
    obtain ⟨a1, a2, -, -, a5⟩ := hback5 w1 v1 row (Kd.R_mono (Kd.R_lower (Kd.R_bound hr) H5.out.bel.size) (fun q hk => ⟨fun e => by have h1 := hk.2.1; omega, .inr hk.2.1⟩)) (below_then H5.out.bel H5.out.bel.size hb) (grown_of_below hb)
    refine ⟨a1, a2, ?_⟩
    rw [← hdd]
    exact a5⟩
  clear hback5 hQ5
  obtain ⟨A2, hcut, hC2⟩ := cutC (ad := ad) (n := L + 1) (c := c5) (xs := p.decks.getD k []) hL.symm (by omega) hAc5
  have HC2 := Aside0.mk hC2
  clear hC2
  generalize hD : p.decks.getD k [] = D at *
  have HD := Aside0.mk hD
  clear hD
  rw [show L + 1 - 1 = L by omega] at hcut
  have hDl : D.length = L + 1 := hL
  have htl1 : (D.drop 1).length = L := by rw [List.length_drop]; omega
  have HT71 : Aside0 (∀ W, Below w5.heap.size w5 W → ReadsRow ((Kd.int .i64).K W) 1 W (some ad) 0 ([] : List Int)) := ⟨fun W hb => by
    have := Kd.C_take (Kd.C_below HC3.out hb) (m := 0) (by omega)
    exact this⟩
  have HT76 : Aside0 (∀ W, Below w5.heap.size w5 W → ReadsRow ((Kd.int .i64).K W) 1 W A2 L (D.drop 1)) := ⟨fun W hb => by
    have := HC2.out W (Kd.C_below HC3.out hb)
    rw [htl1] at this; exact this⟩
  have HL71 : Aside0 ((([] : List Int).length + 0) * 8 ≤ 140737488355328) := ⟨by simp⟩
  have HL76 : Aside0 ((([] : List Int).length + L) * 8 ≤ 140737488355328) := ⟨by simp; omega⟩
  have HTL := Aside0.mk htl1
  clear hDl htl1
  have hwr : IntKind.i64.wrap ((0 : Int) + 1) = 1 := by rw [i64_w]; unfold wrap64; omega
  have hwr1 : IntKind.i64.wrap (1 : Int) = 1 := by rw [i64_w]; unfold wrap64; omega
  have ib1 : (1 : Int) ≤ (L : Int) + 1 := by omega
  have ib2 : (L : Int) + 1 ≤ (c5 : Int) := by omega
  go_region_held3 (fun w' => w'.cell? ⟨g, 1, none⟩ = some (.slice (some ⟨gd, 0, none⟩) workers cap)) (first | assumption | exact ((pl_below (pl_belowd (Below.refl _ _))).cell (p := ⟨g, 1, none⟩) hgl3').trans cg5 | exact (HB71.out.cell (p := ⟨g, 1, none⟩) hgl3').trans cg5 | exact (HB76.out.cell (p := ⟨g, 1, none⟩) hgl3').trans cg5 | go_keep) (first | (refine Kd.R_append_rows_step (Kd.int .i64) (w0 := w5) w5.heap.size (by rfl) (.tmp 67) (.tmp 70) 32 3 (.int .i64 0) 8 (by rfl) Try.underlying32 info3 rfl (by decide) (by decide) (.slice (some ⟨w5.heap.size, 0, none⟩) 0 0) [] [] (some ad) 0 c5 (fun _ => True) (fun _ => False) (by rfl) (by rfl) (R_empty (pl_new rfl) (Nat.le_refl _) trivial) (HT71.out _ (pl_below (pl_belowd (Below.refl _ _)))) (fun _ _ h => h) (fun _ h => h.elim) (fun _ _ => trivial) (pl_below (pl_belowd (Below.refl _ _))) (pl_below (pl_belowd (Below.refl _ _))).size HL71.out ?_; intro v71 w71 ho hb hg hat; obtain ⟨A71, c71, e71⟩ := Kd.R_slice ho; rw [List.nil_append] at ho e71; rw [List.length_nil] at e71; subst e71; have HR71 := Aside0.mk ho; have HB71 := Aside0.mk hb; clear ho hb hg hat) | (refine Kd.R_append_rows_step (Kd.int .i64) (w0 := w5) w5.heap.size (by rfl) (.tmp 71) (.tmp 75) 32 3 (.int .i64 0) 8 (by rfl) Try.underlying32 info3 rfl (by decide) (by decide) (.slice A71 0 c71) [] (D.drop 1) A2 L (c5 - 1) (fun _ => True) (fun _ => False) (by rfl) (by rfl) HR71.out (HT76.out _ HB71.out) (fun _ _ h => h) (fun _ h => h.elim) (fun _ _ => trivial) HB71.out HB71.out.size HL76.out ?_; intro v76 w76 ho hb hg hat; obtain ⟨A76, c76, e76⟩ := Kd.R_slice ho; rw [List.nil_append] at ho e76; rw [HTL.out] at e76; subst e76; have HB76 := Aside0.mk hb; obtain ⟨hcx, hfx, hF⟩ := HBK3.out w76 _ _ ho hb; have H4' := Aside0.mk hF; clear ho hb hg hat hF))
  all_goals (
    generalize hS4 : ({ ({ ({ IS.of up picks draws p with picks := picks.drop (p.steps + 1) } : IS) with draws := draws.drop (p.drawn + 1) } : IS) with decks := p.decks.set k (D.drop 1) } : IS) = S4 at H4'
    have e4 : S4.pre = p.pre ∧ S4.told = p.told.map evS ∧ S4.steps = (p.steps : Int) ∧ S4.up = up := by subst hS4; exact ⟨rfl, rfl, rfl, rfl⟩
    obtain ⟨e41, e42, e43, e44⟩ := e4
    have HS4 := Aside0.mk hS4
    clear hS4
    generalize w76.setCell ⟨gd, k, none⟩ (.slice A76 L c76) = w5 at *
    have hpl : t < S4.pre.length := by rw [e41, HG.out.inv.hp]; exact htl
    obtain ⟨gp, pcap, rfl, hpc, hpf, hpg, hpgg, h6⟩ := H4'.out.pre_ t hpl
    have H6 := Aside0.mk h6
    have c3 : w5.cell? ⟨g, 3, none⟩ = some (.slice (some ⟨gp, 0, none⟩) S4.pre.length pcap) := cell_blk H4'.out.blk 3
    have c5 : (w5.setCell ⟨gp, t, none⟩ (.bool true)).cell? ⟨g, 5, none⟩ = some tv := cell_blk h6.blk 5
    have f5 : (w5.setCell ⟨gp, t, none⟩ (.bool true)).frozen? ⟨g, 5, none⟩ = false := free_blk h6.blk 5
    have hg6 : g < (w5.setCell ⟨gp, t, none⟩ (.bool true)).heap.size := blk_lt h6.blk
    have hn1 : (t : Int) < (S4.pre.length : Int) := by omega
    have hn0 : (0 : Int) ≤ (t : Int) := by omega
    have HT5 : Aside0 (S4.told.length < 995) := ⟨by
      rw [e42, List.length_map]
      have h1 := HG.out.told_le
      have h2 := HF.out.1
      omega⟩
    have hst : S4.steps < 1000 := by rw [e43]; have h1 := HG.out.steps_le; have h2 := HF.out.1; omega
    have hst0 : (0 : Int) ≤ S4.steps := by rw [e43]; omega
    have HE4 := Aside0.mk (And.intro e41 (And.intro e42 (And.intro e43 e44)))
    clear h6 e41 e42 e43 e44
    generalize hNP : S4.pre.length = NP at *
    go_wp2_with ((with_reducible refine gate_builtin (b := .append) (xs := #[.tmp 90, .tmp 94]) rfl ?_); at_builtin; refine Kd.R_append k93 (w0 := w0) w0.heap.size rfl (.tmp 90) (.tmp 94) 41 93 (.agg #[(.int .i64 0), (.int .i64 0), (.int .i64 0)]) 24 rfl Try.underlying41 info93 rfl (by decide) (by omega) tv S4.told ⟨1, (t : Int), (I : Int)⟩ [.int .i64 1, .int .i64 (t : Int), .int .i64 (I : Int)] (fun _ => True) (fun _ => False) rfl (by rw [size_set]; rfl) (k93_mkM _ _ _ _) (fun _ hk => hk.elim) (fun _ _ => trivial) ?aO ?aB ?aS ?aL ?_; (case aO => exact H6.out.td); (case aB => exact H6.out.bel); (case aS => exact H6.out.bel.size); (case aL => have := HT5.out; omega); intro v6 w6 ho hb hg hat; have e1 := hg.block g hg6 (Kd.R_ne H6.out.td H6.out.blk (by decide)); obtain ⟨A6, c6, hv6⟩ := Kd.R_slice ho; generalize (S4.told ++ ([⟨1, (t : Int), (I : Int)⟩] : List S93)).length = TL at hv6; subst hv6; have c60 : w6.cell? ⟨g, 0, none⟩ = some (.slice uA S4.up.length uc) := cell_blk (e1.trans H6.out.blk) 0; have c66 : w6.cell? ⟨g, 6, none⟩ = some (.int .i64 S4.steps) := cell_blk (e1.trans H6.out.blk) 6; have f66 := free_blk (e1.trans H6.out.blk) 6; have f65 := free_blk (e1.trans H6.out.blk) 5; have c65 := cell_blk (e1.trans H6.out.blk) 5; have H8 := Aside0.mk ((H6.out.told_ ho hb hg e1).steps_ (S4.steps + 1)); clear ho hb hg hat e1)
    rw [HE4.out.2.2.2]
    generalize (w6.setCell ⟨g, 5, none⟩ (.slice A6 TL c6)).setCell ⟨g, 6, none⟩ (.int .i64 (S4.steps + 1)) = w7 at *
    have hBl := below_len up (t : Int)
    have hup40 := HF.out.1
    refine (impl_belowIn.calls 2000001 uA uc up (t : Int) (belowIn up (t : Int)) _ (Kd.C_below HUP.out H8.out.bel) HUPC.out (ibelow_f (t : Int) (by omega) (by omega))).mono ?_
    rintro e w8 ⟨v8, rfl, hR8, hB8⟩
    obtain ⟨A8, c8, rfl⟩ := Kd.R_slice hR8
    have H9 := Aside0.mk (H8.out.excl hB8 (Kd.R_base hR8))
    have HL := Aside0.mk (Kd.R_lower (Kd.R_tight rfl hR8) H8.out.bel.size)
    have HX := Aside0.mk (Kd.R_lt hR8)
    clear hR8 hB8
    go_wp2_with fail
    have hIl : I < p.decks.length := by rw [HG.out.inv.hd]; exact hMi
    have hdl2 : S4.decks = p.decks.set k (D.drop 1) := by rw [← HS4.out]
    have hIz : (S4.decks.getD I []).length ≤ L := by
      rw [hdl2, getD_set]
      split
      · rw [HTL.out]; exact Nat.le_refl _
      · rw [hMl.out]; omega
    refine (ipush_calls H9.out (fun k hk => HX.out k hk.symm) I (by show I < S4.decks.length; rw [hdl2, List.length_set]; exact hIl) A8 c8 (belowIn up (t : Int)) HL.out (by
      show (S4.decks.getD I []).length + _ < 1000
      have := HG.out.inv.deck_le k
      rw [HD.out, hL] at this
      omega)).mono ?_
    rintro e w9 ⟨rfl, h9⟩
    have h10 := h9.free
    have H10 : Aside0 (ImW (fun _ => False) w0 w9 g (.slice (some ⟨gd, 0, none⟩) workers cap) lv (.slice (some ⟨gp, 0, none⟩) NP pcap) qv (.slice A6 TL c6) kv2 nv4 uA uc (IS.of up picks draws (PoolModel.begun up { p with decks := p.decks.set k (D.drop 1), drawn := p.drawn + 1 } (t : Int) (I : Int)))) := ⟨by
      rw [← HS4.out] at h10
      rw [← ibegun_ws2]
      exact h10⟩
    clear h9 h10 H9 HL HX H8
    by_cases hbe : belowIn up (t : Int) = []
    · have hlz : (belowIn up (t : Int)).length = 0 := by rw [hbe]; rfl
      rw [hlz]
      have HBE := Aside0.mk hbe
      clear hbe hlz
      go_wp2_with fail
      refine (ipost_calls (workers := workers) H10.out HF.out HI2.out t htl ⟨htl, HP2.out, HQ2.out, by have := HO2.out; rw [HBE.out] at this; exact this, HDn.out⟩ I).mono ?_
      rintro e w10 ⟨rfl, tv10, h11⟩
      have H11 := Aside0.mk h11
      clear h11
      go_wp2_with fail
      go_ret
      have q : stepBy up draws p (I : Int) = posts up.length up (PoolModel.begun up { p with decks := p.decks.set k (D.drop 1), drawn := p.drawn + 1 } (t : Int) (I : Int)) (t : Int) (I : Int) := by
        unfold stepBy
        simp only
        rw [HTK.out]
        exact if_pos HBE.out
      refine ⟨rfl, tv10, kv2, nv4, ?_⟩
      rw [HI.out, q, hNP]
      exact H11.out
    · have hlp := List.length_pos_iff.2 hbe
      have HBE := Aside0.mk hbe
      clear hbe
      generalize (belowIn up (t : Int)).length = BL at *
      go_wp2_with fail
      go_ret
      have q : stepBy up draws p (I : Int) = PoolModel.begun up { p with decks := p.decks.set k (D.drop 1), drawn := p.drawn + 1 } (t : Int) (I : Int) := by
        unfold stepBy
        simp only
        rw [HTK.out]
        exact if_neg HBE.out
      refine ⟨rfl, .slice A6 TL c6, kv2, nv4, ?_⟩
      rw [HI.out, q, hNP]
      exact H10.out)


end Go.Proofs.Ytoaimlpbliabdaa.QFnExactEventsOf
namespace Go.Proofs.Ytoaimlpbliabdaa.QFnExactEventsOf
open Go.RowKit Go.Proofs.YtoaimlpbliabdaaW.PrintWords Go.Proofs.YtoaimlpbliabdaaW.PrintLast Go.Proofs.YtoaimlpbliabdaaW.PrintMore PoolModel
set_option linter.unusedVariables false
set_option linter.unusedSimpArgs false

theorem istep_on {w0 w : World} {g : Nat} {dv lv pv qv tv kv nv : Value} {uA : Option Addr} {uc : Nat} {up picks draws : List Int} {p : PSt} {workers : Nat} (h : ImW (fun _ => False) w0 w g dv lv pv qv tv kv nv uA uc (IS.of up picks draws p))
    (hF : Forest up) (hG : PoolModel.Good up workers p) (hb : busy p = true) (hdr : Drawn draws) (hpk : Drawn picks) (hpl : picks.length < 1000) (hdl : draws.length < 1000) (hw0 : 0 < workers) (hwb : workers < 1000) (hdb : p.drawn < 2000000) :
    Calls Try.prog 91 #[.pointer (some ⟨g, 0, none⟩)] w fun e w' => e = .returned (.bool true) ∧ ∃ dv' lv' pv' qv' tv' kv' nv', ImW (fun _ => False) w0 w' g dv' lv' pv' qv' tv' kv' nv' uA uc (IS.of up picks draws (stepBy up draws p (pickAt picks workers p.steps))) := by
  obtain ⟨i, hi, hlt⟩ := pick_lt (picks := picks) hw0 p.steps
  rw [hi]
  by_cases hz : (p.decks.getD i []).length = 0
  · refine (istep_steal h hF hG hb hdr hpk hpl hdl hw0 hwb i hlt hi hz hdb).mono ?_
    rintro e w' ⟨rfl, tv', kv', nv', h'⟩
    exact ⟨rfl, _, _, _, _, _, _, _, h'⟩
  · obtain ⟨M, hM⟩ : ∃ M, (p.decks.getD i []).length = M + 1 := ⟨(p.decks.getD i []).length - 1, by omega⟩
    refine (istep_own h hF hG hb hdr hpk hpl hdl hw0 hwb i hlt hi M hM).mono ?_
    rintro e w' ⟨rfl, tv', kv', nv', h'⟩
    exact ⟨rfl, _, _, _, _, _, _, _, h'⟩
set_option maxRecDepth 100000 in
theorem istep_off {w0 w : World} {g : Nat} {dv lv pv qv tv kv nv : Value} {uA : Option Addr} {uc : Nat} {up picks draws : List Int} {p : PSt} {workers : Nat} (h : ImW (fun _ => False) w0 w g dv lv pv qv tv kv nv uA uc (IS.of up picks draws p))
    (hF : Forest up) (hG : PoolModel.Good up workers p) (hb : busy p = false) (hw0 : 0 < workers) (hwb : workers < 1000) :
    Calls Try.prog 91 #[.pointer (some ⟨g, 0, none⟩)] w fun e w' => e = .returned (.bool false) ∧ ImW (fun _ => False) w0 w' g dv lv pv qv tv kv nv uA uc (IS.of up picks draws p) := by
  have H0 := Aside0.mk h
  have HR := Aside0.mk (iready_calls h workers hG.inv.hd hw0 hwb (fun k => by have := hG.inv.deck_le k; have := hF.1; show (p.decks.getD k []).length < 1000; omega))
  rw [show (IS.of up picks draws p).decks = p.decks from rfl, readyL_idle hb] at HR
  clear h hF hG hb
  go_enter Try.func91, Try.ntmps91
  go_wp2_with fail
  refine HR.out.mono ?_
  rintro e w1 ⟨v, rfl, hR1, hB1⟩
  obtain ⟨A1, c1, rfl⟩ := Kd.R_slice hR1
  have H1 := Aside0.mk (H0.out.below_ hB1)
  clear hR1 hB1 HR H0
  go_wp2_with fail
  go_ret
  exact ⟨rfl, H1.out⟩

end Go.Proofs.Ytoaimlpbliabdaa.QFnExactEventsOf
