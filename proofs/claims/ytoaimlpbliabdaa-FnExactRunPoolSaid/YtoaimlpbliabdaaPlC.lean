/- The reference's pool walked: its run and EventsOf. No conditions but those of each lemma. -/
import Derived.Test.YtoaimlpbliabdaaPlB
import Derived.Deep.RegionWith
import Derived.Deep.RegionHeld3
namespace Go.Proofs.Ytoaimlpbliabdaa.QFnExactEventsOf
open Go.RowKit Go.Proofs.YtoaimlpbliabdaaW.PrintWords Go.Proofs.YtoaimlpbliabdaaW.PrintLast Go.Proofs.YtoaimlpbliabdaaW.PrintMore PoolModel
set_option linter.unusedVariables false
set_option linter.unusedSimpArgs false

def leftTo (up : List Int) (j : Nat) : List Int := (List.range up.length).map fun k => if k < j then ((belowIn up (k : Int)).length : Int) else 0
def ws1 (up draws : List Int) (workers j : Nat) : WS := { ws0 up draws workers with left := leftTo up j }
theorem leftTo_len (up : List Int) (j : Nat) : (leftTo up j).length = up.length := by simp [leftTo]
theorem ws1_0 (up draws : List Int) (workers : Nat) : ws1 up draws workers 0 = ws0 up draws workers := by
  unfold ws1 ws0 leftTo
  congr 1
  simp [List.map_const']
theorem leftTo_set (up : List Int) {j : Nat} (hj : j < up.length) : (leftTo up j).set j ((belowIn up (j : Int)).length : Int) = leftTo up (j + 1) := by
  apply List.ext_getElem
  · simp [leftTo]
  · intro i h1 h2
    rw [List.getElem_set]
    simp only [leftTo, List.getElem_map, List.getElem_range]
    by_cases e : j = i
    · subst e
      rw [if_pos rfl, if_pos (by omega)]
    · rw [if_neg e]
      by_cases h : i < j
      · rw [if_pos h, if_pos (by omega)]
      · rw [if_neg h, if_neg (by omega)]
theorem leftTo_end (up : List Int) : leftTo up up.length = (List.range up.length).map fun (k : Nat) => ((belowIn up (k : Int)).length : Int) := by
  unfold leftTo
  apply List.map_congr_left
  intro k hk
  rw [if_pos (List.mem_range.1 hk)]

theorem ws_start (up draws : List Int) (workers : Nat) : pushed (ws1 up draws workers up.length) 0 (belowIn up (-1)) 0 = WS.of up draws (PoolModel.start up workers) := by
  unfold pushed ws1 ws0 WS.of PoolModel.start
  simp only [leftTo_end, List.drop_zero, getD_replicate, List.nil_append, List.map_nil]
  rfl

theorem ready_busy {p : PSt} (hb : busy p = true) : ∀ k, readyTo p.decks (fun k => victims p.decks (k : Int)) k = (List.range k).map fun (i : Nat) => (i : Int) := by
  intro k
  induction k with
  | zero => rfl
  | succ k ih =>
    have hr : 0 < (p.decks.getD k []).length ∨ 0 < (victims p.decks (k : Int)).length := by
      by_cases he : p.decks.getD k [] = []
      · exact .inr (victims_pos hb he)
      · exact .inl (List.length_pos_iff.2 he)
    unfold readyTo
    rw [ih, if_pos hr, List.range_succ, List.map_append]
    rfl
theorem ready_idle {p : PSt} (hb : busy p = false) : ∀ k, readyTo p.decks (fun k => victims p.decks (k : Int)) k = [] := by
  intro k
  have he : ∀ j, p.decks.getD j [] = [] := by
    intro j
    by_cases hj : j < p.decks.length
    · by_cases h : p.decks.getD j [] = []
      · exact h
      · have := busy_iff.2 ⟨j, hj, h⟩
        rw [hb] at this; cases this
    · rw [List.getD_eq_getElem?_getD, List.getElem?_eq_none (by omega)]; rfl
  induction k with
  | zero => rfl
  | succ k ih =>
    unfold readyTo
    rw [ih, if_neg]
    · rfl
    · rintro (h | h)
      · rw [he] at h; simp at h
      · obtain ⟨j, hj, _, _, hne⟩ := mem_victims.1 (getD_mem (d := 0) h)
        have := he j
        rw [List.getD_eq_getElem?_getD, List.getElem?_eq_getElem hj] at this
        exact hne this
theorem run_off {up picks draws : List Int} {workers : Nat} {p : PSt} (hb : busy p = false) (k : Nat) : run up workers picks draws k p = p := by
  cases k with
  | zero => rfl
  | succ k => unfold run; rw [if_neg (by simp [hb])]

set_option maxRecDepth 100000 in
set_option maxHeartbeats 4000000 in
theorem run_calls {w : World} {uA pA nA : Option Addr} {uc pc nc : Nat} {up picks draws : List Int} (workers : Nat) (steps : Int) (hs : 0 ≤ steps) (hw0 : 0 < workers) (hw : workers < 1000) (hF : Forest up) (hdr : Drawn draws) (hpk : Drawn picks) (hpl : picks.length < 1000)
    (hu : Kd.C (Kd.int .i64) w uA up.length up) (huc : up.length ≤ uc) (hp : Kd.C (Kd.int .i64) w pA picks.length picks) (hpc : picks.length ≤ pc) (hd : Kd.C (Kd.int .i64) w nA draws.length draws) (hdc : draws.length ≤ nc) :
    Calls Try.prog 86 #[.slice uA up.length uc, .int .i64 (workers : Int), .slice pA picks.length pc, .slice nA draws.length nc, .int .i64 steps] w fun e w' => ∃ g dv lv pv qv tv, e = .returned (.pointer (some ⟨g, 0, none⟩)) ∧ SpW (fun _ => False) w w' g dv lv pv qv tv uA uc nA nc (WS.of up draws (run up workers picks draws steps.toNat (PoolModel.start up workers))) := by
  have hup : up.length < 1000 := by have := hF.1; omega
  have HU := Aside0.mk hu
  have HD := Aside0.mk hd
  have HP := Aside0.mk hp
  have HUC := Aside0.mk huc
  have HDC := Aside0.mk hdc
  have HF := Aside0.mk hF
  have HDR := Aside0.mk hdr
  have HPK := Aside0.mk hpk
  clear hu hd hp huc hdc hF hdr hpk
  have m22 := print_make_of (P := Try.prog) 22 32 (.slice none 0 0) 24 Try.underlying22 (by rw [info32]) rfl (by decide) workers (by omega)
  have m32 := print_make_of (P := Try.prog) 32 3 (.int .i64 0) 8 Try.underlying32 (by rw [info3]) rfl (by decide) up.length (by omega)
  have m46 := print_make_of (P := Try.prog) 46 4 (.bool false) 1 Try.underlying46 (by rw [info4]) rfl (by decide) up.length (by omega)
  go_enter Try.func86, Try.ntmps86
  go_wp2
  rename_i Q' K hK
  have hS : ∀ (w' : World) (g b1 b2 b3 b4 : Nat), SpW (fun _ => False) w w' g (.slice (some ⟨b1, 0, none⟩) workers workers) (.slice (some ⟨b2, 0, none⟩) up.length up.length) (.slice (some ⟨b3, 0, none⟩) up.length up.length) (.slice (some ⟨b4, 0, none⟩) up.length up.length) (.slice none 0 0) uA uc nA nc (ws0 up draws workers) → K { tmps := #[(.slice uA up.length uc), (.int .i64 (workers : Int)), (.slice pA picks.length pc), (.slice nA draws.length nc), (.int .i64 steps), undef, undef, undef, undef, undef, (.pointer none), (.int .i64 (up.length : Int)), (.pointer (some ⟨g, 0, none⟩)), undef, undef, undef, (.slice uA up.length uc), (.int .i64 (up.length : Int)), (.slice uA up.length uc), (.slice nA draws.length nc), (.agg #[.slice none 0 0, .slice none 0 0, .slice none 0 0, .slice none 0 0, .slice none 0 0, .int .i64 0, .slice uA up.length uc, .slice nA draws.length nc, .int .i64 0]), (.pointer (some ⟨g, 0, none⟩)), (.pointer (some ⟨g, 0, none⟩)), (.int .i64 (workers : Int)), (.slice (some ⟨b1, 0, none⟩) workers workers), (.int .i64 (up.length : Int)), (.slice (some ⟨b2, 0, none⟩) up.length up.length), (.int .i64 (up.length : Int)), (.slice (some ⟨b3, 0, none⟩) up.length up.length), (.int .i64 (up.length : Int)), (.slice (some ⟨b4, 0, none⟩) up.length up.length), (.agg #[(.slice (some ⟨b1, 0, none⟩) workers workers), (.slice (some ⟨b2, 0, none⟩) up.length up.length), (.slice (some ⟨b3, 0, none⟩) up.length up.length), (.slice (some ⟨b4, 0, none⟩) up.length up.length), .slice none 0 0, .int .i64 0]), (.pointer (some ⟨g, 0, none⟩)), (.pointer (some ⟨g, 0, none⟩)), undef, undef, undef, undef, undef, undef, undef, undef, undef, undef, undef, undef, undef, undef, undef, undef, undef, undef, undef, undef, undef, undef, undef, undef, undef, undef, undef, undef, undef, undef, undef, undef, undef, undef, undef, undef, undef, undef, undef, undef, undef, undef, undef, undef, undef, undef, undef, undef, undef, undef, undef, undef, undef, undef, undef, undef, undef, undef, undef], defers := [] } w' := by
    clear m22 m32 m46
    intro w' g b1 b2 b3 b4 h0
    refine hK _ _ ?_
    clear hK K
    have H0 := Aside0.mk h0
    clear h0
    go_wp2_with fail
    go_loopg [36] (up.length + 1) (fun kq v36 w' => ∃ j : Nat, v36 = .int .i64 (j : Int) ∧ j ≤ up.length ∧ kq + j = up.length + 1 ∧ Aside0 (SpW (fun _ => False) w w' g (.slice (some ⟨b1, 0, none⟩) workers workers) (.slice (some ⟨b2, 0, none⟩) up.length up.length) (.slice (some ⟨b3, 0, none⟩) up.length up.length) (.slice (some ⟨b4, 0, none⟩) up.length up.length) (.slice none 0 0) uA uc nA nc (ws1 up draws workers j)))
    case atStart => exact ⟨0, rfl, by omega, by omega, ⟨by rw [ws1_0]; exact H0.out⟩⟩
    case round =>
      obtain ⟨j, rfl, hjn, hjq, H1⟩ := hrel
      by_cases hlt : j < up.length
      · have c1 : wr.cell? ⟨g, 1, none⟩ = some (.slice (some ⟨b2, 0, none⟩) up.length up.length) := cell_blk H1.out.blk 1
        have hglt := blk_lt H1.out.blk
        have hj1 : (j : Int) < (up.length : Int) := by omega
        have hj0 : (0 : Int) ≤ (j : Int) := by omega
        go_wp2_with fail
        go_region_held3 (fun w' => w'.cell? ⟨g, 1, none⟩ = some (.slice (some ⟨b2, 0, none⟩) up.length up.length)) (first | assumption | exact (HB3.out.cell (p := ⟨g, 1, none⟩) hglt).trans c1 | go_keep) (first | (go_at_call 103; refine (spec_l13Below.calls 2000001 uA uc up (j : Int) (belowIn up (j : Int)) _ (Kd.C_below H1.out.up (below_drew H1.out.bel)) H1.out.upc (below_f (j : Int) (by omega) (by omega))).mono ?_; rintro e w3 ⟨v3, rfl, hR3, hB3⟩; obtain ⟨A3, c3, rfl⟩ := Kd.R_slice hR3; have HB3 : Aside0 (Below wr.heap.size wr w3) := ⟨⟨hB3.os, hB3.tape, hB3.output, hB3.size, hB3.block⟩⟩; clear hR3 hB3; obtain ⟨gp, cap, he, hlc, hlf, hll, hlgg, hSl⟩ := (H1.out.below_ HB3.out).left_ j (by show j < (leftTo up j).length; rw [leftTo_len]; exact hlt); injection he with he1 he2 he3; injection he1 with he1; injection he1 with he1 _ _; subst he1; have HSl := Aside0.mk hSl; clear hSl he2 he3))
        have hbel := below_len up (j : Int)
        generalize hBL : (belowIn up (j : Int)).length = BL at *
        have HBL := Aside0.mk hBL
        clear hBL
        go_wp2_with fail
        go_roundg (up.length - j)
        case measure => omega
        case rel =>
          refine ⟨j + 1, by go_num, by omega, by omega, ?_⟩
          have q := HSl.out (BL : Int)
          rw [← HBL.out] at q ⊢
          rw [show ({ ws1 up draws workers j with left := (ws1 up draws workers j).left.set j ((belowIn up (j : Int)).length : Int) } : WS) = ws1 up draws workers (j + 1) by unfold ws1; simp only [leftTo_set up hlt]] at q
          exact ⟨q⟩
      · obtain rfl : j = up.length := by omega
        clear H0
        have H2 := Aside0.mk H1.out
        clear H1
        go_wp2_with fail
        refine (spec_l13Below.calls 2000001 uA uc up (-1) (belowIn up (-1)) _ (Kd.C_below H2.out.up H2.out.bel) H2.out.upc (below_f (-1) (by omega) (by omega))).mono ?_
        rintro e w3 ⟨v3, rfl, hR3, hB3⟩
        obtain ⟨A3, c3, rfl⟩ := Kd.R_slice hR3
        have H3 := Aside0.mk (H2.out.excl hB3 (Kd.R_base hR3))
        have HL := Aside0.mk (Kd.R_lower (Kd.R_tight rfl hR3) H2.out.bel.size)
        have HX := Aside0.mk (Kd.R_lt hR3)
        clear hR3 hB3 H2
        go_wp2_with fail
        refine (push_calls H3.out (fun k hk => HX.out k hk.symm) 0 (by show 0 < (List.replicate workers ([] : List Int)).length; simpa using hw0) A3 c3 (belowIn up (-1)) HL.out (by have := below_len up (-1); show ((List.replicate workers ([] : List Int)).getD 0 []).length + _ < 1000; rw [getD_replicate]; simp; omega)).mono ?_
        rintro e w4 ⟨rfl, h4⟩
        have H4 := Aside0.mk h4.free
        rw [ws_start] at H4
        clear h4 H3 HL HX
        go_wp2_with fail
        go_loopg [] (up.length + 1) (fun kq w' => ∃ (p : PSt) (tv : Value), kq + p.steps = up.length + 1 ∧ Aside0 (SpW (fun _ => False) w w' g (.slice (some ⟨b1, 0, none⟩) workers workers) (.slice (some ⟨b2, 0, none⟩) up.length up.length) (.slice (some ⟨b3, 0, none⟩) up.length up.length) (.slice (some ⟨b4, 0, none⟩) up.length up.length) tv uA uc nA nc (WS.of up draws p)) ∧ Aside0 (PoolModel.Good up workers p) ∧ Aside0 (p.drawn ≤ p.steps) ∧ Aside0 (run up workers picks draws (steps.toNat - p.steps) p = run up workers picks draws steps.toNat (PoolModel.start up workers)))
        case atStart => exact ⟨PoolModel.start up workers, _, rfl, H4, ⟨PoolModel.Good.start HF.out hw0⟩, ⟨Nat.le_refl _⟩, ⟨rfl⟩⟩
        case round =>
          clear H4
          obtain ⟨p, tv, hkq, H5, HG, HDS, HE⟩ := hrel
          have c5 : wr.cell? ⟨g, 5, none⟩ = some (.int .i64 (p.steps : Int)) := cell_blk H5.out.blk 5
          have hsle := HG.out.steps_le
          by_cases hlt : (p.steps : Int) < steps
          · have hcall := ready_calls H5.out workers HG.out.inv.hd hw0 hw 2000001 (fun k => victims p.decks (k : Int)) (fun k hk => victims_f _ (by show p.decks.length ≤ _; rw [HG.out.inv.hd]; omega) (by show p.decks.length < _; rw [HG.out.inv.hd]; omega)) (fun k => by have : (victims p.decks (k : Int)).length ≤ p.decks.length := idx_length; rw [HG.out.inv.hd] at this; omega) (fun k => by have := HG.out.inv.deck_le k; show (p.decks.getD k []).length < 1000; omega)
            have HC := Aside0.mk hcall
            clear hcall
            by_cases hb : busy p = true
            · have hrb := ready_busy hb workers
              have HC' : Aside0 (Calls Try.prog 87 #[.pointer (some ⟨g, 0, none⟩)] wr fun e w' => ∃ A c, e = .returned (.slice A workers c) ∧ Kd.C (Kd.int .i64) w' A workers ((List.range workers).map fun (i : Nat) => (i : Int)) ∧ Below wr.heap.size wr w') := ⟨by
                have := HC.out
                rw [show (WS.of up draws p).decks = p.decks from rfl, hrb] at this
                refine this.mono ?_
                rintro e w6 ⟨v, rfl, hR6, hB6⟩
                obtain ⟨A6, c6, rfl⟩ := Kd.R_slice hR6
                have q := (Kd.R_reads' hR6).2.2
                rw [show ((List.range workers).map fun (i : Nat) => (i : Int)).length = workers by simp] at q ⊢
                exact ⟨A6, c6, rfl, q, hB6⟩⟩
              have hgl := HG.out.steps_lt hb
              have HB := Aside0.mk hb
              have hst : (p.steps : Int) < 1000 := by omega
              have hst0 : (0 : Int) ≤ (p.steps : Int) := by omega
              clear HC hrb hb
              go_wp2_with fail
              refine HC'.out.mono ?_
              rintro e w6 ⟨A6, c6, rfl, hR6, hB6⟩
              have H6 := Aside0.mk (H5.out.below_ hB6)
              have HR6 := Aside0.mk hR6
              have c5' : w6.cell? ⟨g, 5, none⟩ = some (.int .i64 (p.steps : Int)) := cell_blk H6.out.blk 5
              clear hR6 hB6 HC' H5
              have hwne : ¬ ((workers : Int) = 0) := by omega
              by_cases hpk : (p.steps : Int) < (picks.length : Int)
              · obtain ⟨pk, hpke⟩ : ∃ pk : Nat, picks.getD p.steps 0 = (pk : Int) := ⟨(picks.getD p.steps 0).toNat, by have := (HPK.out p.steps).1; omega⟩
                have hpkb : pk < 1000 := by have := (HPK.out p.steps).2; omega
                obtain ⟨ad2, hA2, cl2⟩ := Kd.at_int (Kd.C_below HP.out H6.out.bel) (p.steps : Int) hst0 hpk
                subst hA2
                have hrd2 : rd picks (p.steps : Int) = (pk : Int) := by unfold rd; simpa using hpke
                rw [hrd2] at cl2
                simp only [Int.toNat_natCast] at cl2
                have hil : pk % workers < workers := Nat.mod_lt _ hw0
                obtain ⟨ad3, hA3, cl3⟩ := Kd.at_int HR6.out ((pk % workers : Nat) : Int) (by omega) (by omega)
                subst hA3
                have hrd : rd ((List.range workers).map fun (i : Nat) => (i : Int)) ((pk % workers : Nat) : Int) = ((pk % workers : Nat) : Int) := by
                  unfold rd
                  rw [List.getD_eq_getElem?_getD, Int.toNat_natCast, List.getElem?_map, List.getElem?_range hil]
                  rfl
                rw [hrd] at cl3
                simp only [Int.toNat_natCast] at cl3
                have hpa : pickAt picks workers p.steps = ((pk % workers : Nat) : Int) := by
                  unfold pickAt
                  rw [hpke]
                  rfl
                have HPA := Aside0.mk hpa
                clear hrd hrd2 hpke hpa
                go_wp2_with fail
                refine (step_calls H6.out HF.out HG.out HB.out HDR.out (by have := HDS.out; omega) (pk % workers) hil hw).mono ?_
                rintro e w7 ⟨rfl, tv7, h7⟩
                rw [← HPA.out] at h7
                have H7 := Aside0.mk h7
                have HGS := HG.out.step (picks := picks) (draws := draws) HF.out hw0 HB.out
                have hpd := stepBy_drawn up draws p (pickAt picks workers p.steps)
                clear h7
                go_wp2_with fail
                go_roundg (up.length - p.steps)
                case measure => omega
                case rel =>
                  refine ⟨_, tv7, ?_, H7, ⟨HGS.1⟩, ⟨?_⟩, ⟨?_⟩⟩
                  · rw [HGS.2]; omega
                  · rw [HGS.2]; have := HDS.out; omega
                  · rw [← HE.out, HGS.2, show steps.toNat - p.steps = (steps.toNat - (p.steps + 1)) + 1 by omega]
                    conv => rhs; unfold run
                    rw [if_pos HB.out]
              · obtain ⟨ad3, hA3, cl3⟩ := Kd.at_int HR6.out 0 (by omega) (by omega)
                subst hA3
                have hrd : rd ((List.range workers).map fun (i : Nat) => (i : Int)) 0 = 0 := by
                  unfold rd
                  simp [hw0]
                rw [hrd] at cl3
                have cl3' : w6.cell? ad3 = some (.int .i64 0) := cl3
                clear cl3 hrd
                go_wp2_with fail
                have hpa : pickAt picks workers p.steps = ((0 : Nat) : Int) := by
                  unfold pickAt
                  rw [List.getD_eq_getElem?_getD, List.getElem?_eq_none (by omega)]
                  simp
                refine (step_calls H6.out HF.out HG.out HB.out HDR.out (by have := HDS.out; omega) 0 hw0 hw).mono ?_
                rintro e w7 ⟨rfl, tv7, h7⟩
                rw [← hpa] at h7
                have H7 := Aside0.mk h7
                have HGS := HG.out.step (picks := picks) (draws := draws) HF.out hw0 HB.out
                have hpd := stepBy_drawn up draws p (pickAt picks workers p.steps)
                clear h7 hpa
                go_wp2_with fail
                go_roundg (up.length - p.steps)
                case measure => omega
                case rel =>
                  refine ⟨_, tv7, ?_, H7, ⟨HGS.1⟩, ⟨?_⟩, ⟨?_⟩⟩
                  · rw [HGS.2]; omega
                  · rw [HGS.2]; have := HDS.out; omega
                  · rw [← HE.out, HGS.2, show steps.toNat - p.steps = (steps.toNat - (p.steps + 1)) + 1 by omega]
                    conv => rhs; unfold run
                    rw [if_pos HB.out]
            · have hbf : busy p = false := by simpa using hb
              have hri := ready_idle hbf workers
              have HC' : Aside0 (Calls Try.prog 87 #[.pointer (some ⟨g, 0, none⟩)] wr fun e w' => ∃ v, e = .returned v ∧ Kd.R (Kd.int .i64) 3 w' wr.heap.size (fun _ => True) v [] ∧ Below wr.heap.size wr w') := ⟨by have := HC.out; rw [show (WS.of up draws p).decks = p.decks from rfl, hri] at this; exact this⟩
              clear HC hri hb
              go_wp2_with fail
              refine HC'.out.mono ?_
              rintro e w6 ⟨v, rfl, hR6, hB6⟩
              obtain ⟨A6, c6, rfl⟩ := Kd.R_slice hR6
              have H6 := Aside0.mk (H5.out.below_ hB6)
              clear hR6 hB6 HC'
              go_wp2_with fail
              go_ret
              have q := H6.out
              have e := HE.out
              rw [run_off hbf] at e
              rw [e] at q
              first | exact ⟨g, _, _, _, _, _, rfl, q⟩ | exact ⟨g, rfl, _, _, _, _, _, q⟩
          · go_wp2_with fail
            go_ret
            have q := H5.out
            have e := HE.out
            rw [show steps.toNat - p.steps = 0 by omega] at e
            have e2 : p = run up workers picks draws steps.toNat (PoolModel.start up workers) := e
            rw [e2] at q
            first | exact ⟨g, _, _, _, _, _, rfl, q⟩ | exact ⟨g, rfl, _, _, _, _, _, q⟩
  clear hK
  go_region
  all_goals exact hS _ _ _ _ _ _ (SpW.begin (by refine pl_drew ?_; repeat (first | (refine pl_new ?_; (repeat (refine pl_size ?_)); exact rfl) | refine pl_old ?_)) (by refine pl_drew ?_; repeat (first | (refine pl_new ?_; (repeat (refine pl_size ?_)); exact rfl) | refine pl_old ?_)) (by refine pl_drew ?_; repeat (first | (refine pl_new ?_; (repeat (refine pl_size ?_)); exact rfl) | refine pl_old ?_)) (by refine pl_drew ?_; repeat (first | (refine pl_new ?_; (repeat (refine pl_size ?_)); exact rfl) | refine pl_old ?_)) (by refine pl_drew ?_; repeat (first | (refine pl_new ?_; (repeat (refine pl_size ?_)); exact rfl) | refine pl_old ?_)) (by omega) (by omega) (by omega) (by omega) (by omega) (by omega) (by refine pl_belowd ?_; (repeat (refine pl_below ?_)); exact Below.refl _ _) HU.out HUC.out HD.out HDC.out (by omega) (by omega))
end Go.Proofs.Ytoaimlpbliabdaa.QFnExactEventsOf
namespace Go.Proofs.Ytoaimlpbliabdaa.QFnExactEventsOf
open Go.RowKit Go.Proofs.YtoaimlpbliabdaaW.PrintWords Go.Proofs.YtoaimlpbliabdaaW.PrintLast Go.Proofs.YtoaimlpbliabdaaW.PrintMore PoolModel
set_option linter.unusedVariables false
set_option linter.unusedSimpArgs false

theorem in_true {a lo hi : Int} (h : spec_l1In.f a lo hi = some true) : lo ≤ a ∧ a ≤ hi := by
  unfold spec_l1In.f at h
  split at h
  · simp at h; omega
  · simp at h
theorem all_true {lo hi : Int} {l : List Int} (hn : l.length ≤ 2000000) : ∀ (k : Nat) (i : Nat), spec_l1All.l0 k lo hi l (l.length : Int) (i : Int) = some true → ∀ j, i ≤ j → (h : j < l.length) → lo ≤ l[j] ∧ l[j] ≤ hi := by
  intro k
  induction k with
  | zero => intro i h; simp [spec_l1All.l0] at h
  | succ k ih =>
    intro i h j hij hj
    simp only [spec_l1All.l0] at h
    have hlt : i < l.length := by omega
    rw [if_pos (by omega), if_pos (by omega), if_pos (by omega), rd_at hlt, wrap_up hlt hn] at h
    obtain ⟨b, hb, h⟩ := Option.bind_eq_some_iff.1 h
    cases b with
    | false => simp at h
    | true =>
      rw [if_pos rfl] at h
      by_cases e : i = j
      · subst e; exact in_true hb
      · exact ih (i + 1) h j (by omega) hj
theorem forest_true {l : List Int} (hn : l.length ≤ 2000000) : ∀ (k : Nat) (i : Nat), spec_l13Forest.l0 k l l (l.length : Int) (i : Int) = some true → l.length ≤ 40 ∧ ∀ j, i ≤ j → (h : j < l.length) → -1 ≤ l[j] ∧ l[j] < (j : Int) := by
  intro k
  induction k with
  | zero => intro i h; simp [spec_l13Forest.l0] at h
  | succ k ih =>
    intro i h
    simp only [spec_l13Forest.l0] at h
    by_cases hlt : i < l.length
    · rw [if_pos (by omega), if_pos (by omega), if_pos (by omega), rd_at hlt, wrap_up hlt hn] at h
      obtain ⟨b, hb, h⟩ := Option.bind_eq_some_iff.1 h
      cases b with
      | false => simp at h
      | true =>
        rw [if_pos rfl] at h
        obtain ⟨h1, h2⟩ := ih (i + 1) h
        refine ⟨h1, fun j hij hj => ?_⟩
        by_cases e : i = j
        · subst e
          have := in_true hb
          have hw : wrap64 ((i : Int) - 1) = (i : Int) - 1 := by unfold wrap64; omega
          rw [hw] at this
          omega
        · exact h2 j (by omega) hj
    · rw [if_neg (by omega)] at h
      simp at h
      exact ⟨by omega, fun j hij hj => by omega⟩

/-- What is asked of a pool's arguments. -/
structure Asked (up : List Int) (workers : Int) (picks draws : List Int) : Prop where
  forest : Forest up
  w1 : 1 ≤ workers
  w8 : workers ≤ 8
  pl : picks.length ≤ 300
  dl : draws.length ≤ 300
  pk : Drawn picks
  dr : Drawn draws
theorem drawn_of {l : List Int} (h : ∀ j, 0 ≤ j → (h : j < l.length) → 0 ≤ l[j] ∧ l[j] ≤ 999) : Drawn l := by
  intro i
  rw [List.getD_eq_getElem?_getD]
  by_cases hi : i < l.length
  · rw [List.getElem?_eq_getElem hi]
    have := h i (Nat.zero_le _) hi
    show 0 ≤ l[i] ∧ l[i] < 1000
    omega
  · rw [List.getElem?_eq_none (by omega)]
    show (0 : Int) ≤ 0 ∧ (0 : Int) < 1000
    omega
theorem asked_true {k : Nat} {up picks draws : List Int} {workers : Int} (h0 : up.length ≤ 2000000) (h : spec_l13Asked.f k up workers picks draws = some true) : Asked up workers picks draws := by
  unfold spec_l13Asked.f at h
  obtain ⟨b1, hb1, h⟩ := Option.bind_eq_some_iff.1 h
  cases b1 with
  | false => simp at h
  | true =>
    rw [if_pos rfl] at h
    obtain ⟨b2, hb2, h⟩ := Option.bind_eq_some_iff.1 h
    cases b2 with
    | false => simp at h
    | true =>
      rw [if_pos rfl] at h
      split at h
      · rename_i hp
        split at h
        · rename_i hd
          obtain ⟨b3, hb3, h⟩ := Option.bind_eq_some_iff.1 h
          cases b3 with
          | false => simp at h
          | true =>
            rw [if_pos rfl] at h
            obtain ⟨b4, hb4, h⟩ := Option.bind_eq_some_iff.1 h
            have h4 : b4 = true := Option.some.inj h
            subst h4
            obtain ⟨hf1, hf2⟩ := forest_true h0 k 0 hb1
            have hw := in_true hb2
            exact ⟨⟨hf1, fun i hi => hf2 i (Nat.zero_le _) hi⟩, hw.1, hw.2, by omega, by omega, drawn_of (all_true (by omega) k 0 hb3), drawn_of (all_true (by omega) k 0 hb4)⟩
        · simp at h
      · simp at h

/-! ### spec_EventsOfH: function 31 -/
def spec_EventsOfH.f (k : Nat) (l0 : List Int) (a1 : Int) (l2 : List Int) (l3 : List Int) : Option ((List (S93)) × Bool) :=
  if l0.length ≤ 2000000 then (spec_l13Asked.f k l0 a1 l2 l3).bind fun t => if t = true then some ((run l0 a1.toNat l2 l3 1000 (PoolModel.start l0 a1.toNat)).told.map evS, true) else some ([], false) else none
theorem spec_EventsOfH.mono : ∀ a0 a1 a2 a3 k, LeO (spec_EventsOfH.f k a0 a1 a2 a3) (spec_EventsOfH.f (k + 1) a0 a1 a2 a3) := by
  intro a0 a1 a2 a3 k
  unfold spec_EventsOfH.f
  refine LeO.ite ?_ (LeO.refl _)
  exact LeO.bind (spec_l13Asked.mono _ _ _ _ _) (fun _ => LeO.refl _)
set_option maxRecDepth 100000 in
set_option maxHeartbeats 2000000 in
theorem spec_EventsOfH.calls (k : Nat) (A0 : Option Addr) (c0 : Nat) (l0 : List Int) (a1 : Int) (A2 : Option Addr) (c2 : Nat) (l2 : List Int) (A3 : Option Addr) (c3 : Nat) (l3 : List Int) (r1 : List (S93)) (r2 : Bool) (w : World) (hr0 : Kd.C (Kd.int .i64) w A0 l0.length l0) (hc0 : l0.length ≤ c0) (hr2 : Kd.C (Kd.int .i64) w A2 l2.length l2) (hc2 : l2.length ≤ c2) (hr3 : Kd.C (Kd.int .i64) w A3 l3.length l3) (hc3 : l3.length ≤ c3) (h : spec_EventsOfH.f k l0 a1 l2 l3 = some (r1, r2)) :
    Calls Try.prog 31 #[.slice A0 l0.length c0, .int .i64 a1, .slice A2 l2.length c2, .slice A3 l3.length c3] w fun e w' => ∃ v0_ : Value, e = .returned (.tuple #[v0_, .bool r2]) ∧ Kd.R k93 93 w' w.heap.size (fun _ => True) v0_ r1 ∧ Below w.heap.size w w' := by
  unfold spec_EventsOfH.f at h
  split at h
  · rename_i hl0
    obtain ⟨t, ht, h⟩ := Option.bind_eq_some_iff.1 h
    have HA := Aside0.mk (spec_l13Asked.calls k A0 c0 l0 a1 A2 c2 l2 A3 c3 l3 t w hr0 hc0 hr2 hc2 hr3 hc3 ht)
    cases t with
    | false =>
      simp at h
      obtain ⟨rfl, rfl⟩ := h
      clear hr0 hc0 hr2 hc2 hr3 hc3 ht
      go_enter Try.func31, Try.ntmps31
      go_wp2_with fail
      refine HA.out.mono ?_
      rintro e w1 ⟨rfl, hw1⟩
      have HB := Aside0.mk hw1.below
      clear hw1
      go_wp2_with fail
      go_ret2
      exact ⟨_, rfl, Kd.R_nil _ _ _ _ _, HB.out⟩
    | true =>
      have hA := asked_true hl0 ht
      simp at h
      obtain ⟨rfl, rfl⟩ := h
      obtain ⟨n, rfl⟩ : ∃ n : Nat, a1 = (n : Int) := ⟨a1.toNat, by have := hA.w1; omega⟩
      have hn1 := hA.w1
      have hn8 := hA.w8
      have HAS := Aside0.mk hA
      have HR0 := Aside0.mk hr0
      have HR2 := Aside0.mk hr2
      have HR3 := Aside0.mk hr3
      clear hr0 hr2 hr3 ht hA
      go_enter Try.func31, Try.ntmps31
      go_wp2_with fail
      refine HA.out.mono ?_
      rintro e w1 ⟨rfl, hw1⟩
      have HB := Aside0.mk hw1.below
      clear hw1 HA
      go_wp2_with fail
      refine (run_calls n 1000 (by omega) (by omega) (by omega) HAS.out.forest HAS.out.dr HAS.out.pk (by have := HAS.out.pl; omega) (Kd.C_below HR0.out HB.out) hc0 (Kd.C_below HR2.out HB.out) hc2 (Kd.C_below HR3.out HB.out) hc3).mono ?_
      rintro e w2 ⟨g, dv, lv, pv, qv, tv, rfl, h2⟩
      have c4 : w2.cell? ⟨g, 4, none⟩ = some tv := cell_blk h2.blk 4
      obtain ⟨At, ct, rfl⟩ := Kd.R_slice h2.td
      have HT := Aside0.mk h2.td
      have HB2 := Aside0.mk h2.bel
      clear h2
      go_wp2_with fail
      go_ret2
      have q := Kd.R_lower HT.out (below_size HB.out)
      simp only [Int.toNat_natCast]
      exact ⟨_, rfl, q, below_then HB.out HB.out.size HB2.out⟩
  · cases h

end Go.Proofs.Ytoaimlpbliabdaa.QFnExactEventsOf
