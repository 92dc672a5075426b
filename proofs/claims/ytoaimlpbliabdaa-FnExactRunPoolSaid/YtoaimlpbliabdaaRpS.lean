/- The reference's RunPool walked; pools as results, and what keeps them. No conditions but those of each lemma. -/
import Derived.Test.YtoaimlpbliabdaaPlF
namespace Go.Proofs.Ytoaimlpbliabdaa.QFnExactEventsOf
open Go.RowKit Go.Proofs.YtoaimlpbliabdaaW.PrintWords Go.Proofs.YtoaimlpbliabdaaW.PrintLast Go.Proofs.YtoaimlpbliabdaaW.PrintMore PoolModel
set_option linter.unusedVariables false
set_option linter.unusedSimpArgs false

/-- A pool's value: its parts' rows lie in the blocks from lo to hi. -/
def PoolX (D : Kd (List Int)) (lo hi base : Nat) (w' : World) (v0 v1 v2 v3 v4 : Value) (r1 : List (List Int)) (r2 : List Int) (r3 r4 : List Bool) (r5 : List S93) : Prop :=
  Kd.S D 32 w' base (fun k_ => some k_ ≠ (v1 : Value).ownBlock ∧ lo ≤ k_ ∧ k_ < hi) v0 r1 ∧ Kd.R (Kd.int .i64) 3 w' base (fun k_ => lo ≤ k_ ∧ k_ < hi) v1 r2 ∧ Kd.R Kd.bool 4 w' base (fun k_ => some k_ ≠ (v3 : Value).ownBlock ∧ lo ≤ k_ ∧ k_ < hi) v2 r3 ∧ Kd.R Kd.bool 4 w' base (fun k_ => some k_ ≠ (v2 : Value).ownBlock ∧ lo ≤ k_ ∧ k_ < hi) v3 r4 ∧ Kd.R k93 93 w' base (fun k_ => lo ≤ k_ ∧ k_ < hi) v4 r5
section
variable {D : Kd (List Int)} {lo hi base : Nat} {w w1 : World} {v0 v1 v2 v3 v4 : Value} {r1 : List (List Int)} {r2 : List Int} {r3 r4 : List Bool} {r5 : List S93}
theorem PoolX.step (h : PoolX D lo hi base w v0 v1 v2 v3 v4 r1 r2 r3 r4 r5) (hm : ∀ k, lo ≤ k → k < hi → w1.heap[k]? = w.heap[k]?) : PoolX D lo hi base w1 v0 v1 v2 v3 v4 r1 r2 r3 r4 r5 :=
  ⟨Kd.S_move h.1 (fun k hk => hm k hk.2.1 hk.2.2), Kd.R_move h.2.1 (fun k hk => hm k hk.1 hk.2), Kd.R_move h.2.2.1 (fun k hk => hm k hk.2.1 hk.2.2), Kd.R_move h.2.2.2.1 (fun k hk => hm k hk.2.1 hk.2.2), Kd.R_move h.2.2.2.2 (fun k hk => hm k hk.1 hk.2)⟩
theorem PoolX.below (h : PoolX D lo hi base w v0 v1 v2 v3 v4 r1 r2 r3 r4 r5) (hb : Below w.heap.size w w1) (hh : hi ≤ w.heap.size) : PoolX D lo hi base w1 v0 v1 v2 v3 v4 r1 r2 r3 r4 r5 :=
  h.step (fun k _ hk => hb.block k (by omega))
theorem PoolX.kept {S : Nat → Prop} (h : PoolX D lo hi base w v0 v1 v2 v3 v4 r1 r2 r3 r4 r5) (hk : Kept w w1 S) (hh : hi ≤ w.heap.size) (hS : ∀ k, S k → k < lo ∨ hi ≤ k) : PoolX D lo hi base w1 v0 v1 v2 v3 v4 r1 r2 r3 r4 r5 :=
  h.step (fun k h1 h2 => hk.2 k (by omega) (fun hs => by have := hS k hs; omega))
theorem PoolX.lower {b : Nat} (h : PoolX D lo hi base w v0 v1 v2 v3 v4 r1 r2 r3 r4 r5) (hb : b ≤ base) : PoolX D lo hi b w v0 v1 v2 v3 v4 r1 r2 r3 r4 r5 :=
  ⟨Kd.S_lower h.1 hb, Kd.R_lower h.2.1 hb, Kd.R_lower h.2.2.1 hb, Kd.R_lower h.2.2.2.1 hb, Kd.R_lower h.2.2.2.2 hb⟩
theorem PoolX.reads (h : PoolX D lo hi base w v0 v1 v2 v3 v4 r1 r2 r3 r4 r5) : ∃ A0 c0 A1 c1 A2 c2 A3 c3 A4 c4, v0 = .slice A0 r1.length c0 ∧ v1 = .slice A1 r2.length c1 ∧ v2 = .slice A2 r3.length c2 ∧ v3 = .slice A3 r4.length c3 ∧ v4 = .slice A4 r5.length c4 ∧ r1.length ≤ c0 ∧ r2.length ≤ c1 ∧ r3.length ≤ c2 ∧ r4.length ≤ c3 ∧ r5.length ≤ c4 := by
  obtain ⟨A0, c0, e0, l0, _⟩ := Kd.S_reads h.1
  obtain ⟨A1, c1, e1, l1, _⟩ := Kd.R_reads h.2.1
  obtain ⟨A2, c2, e2, l2, _⟩ := Kd.R_reads h.2.2.1
  obtain ⟨A3, c3, e3, l3, _⟩ := Kd.R_reads h.2.2.2.1
  obtain ⟨A4, c4, e4, l4, _⟩ := Kd.R_reads h.2.2.2.2
  exact ⟨A0, c0, A1, c1, A2, c2, A3, c3, A4, c4, e0, e1, e2, e3, e4, l0, l1, l2, l3, l4⟩
end
theorem PoolX.ofR {w w' : World} {v0 v1 v2 v3 v4 : Value} {r1 : List (List Int)} {r2 : List Int} {r3 r4 : List Bool} {r5 : List S93} (h : PoolR w w' v0 v1 v2 v3 v4 r1 r2 r3 r4 r5) : PoolX (Kd.slice 3 (Kd.int .i64)) w.heap.size w'.heap.size w.heap.size w' v0 v1 v2 v3 v4 r1 r2 r3 r4 r5 :=
  ⟨Kd.S_mono (Kd.S_bound h.1) (fun _ hk => ⟨hk.1, hk.2.1, hk.2.2.1⟩), Kd.R_mono (Kd.R_bound h.2.1) (fun _ hk => ⟨hk.2.1, hk.2.2.1⟩), Kd.R_mono (Kd.R_bound h.2.2.1) (fun _ hk => ⟨hk.1, hk.2.1, hk.2.2.1⟩), Kd.R_mono (Kd.R_bound h.2.2.2.1) (fun _ hk => ⟨hk.1, hk.2.1, hk.2.2.1⟩), Kd.R_mono (Kd.R_bound h.2.2.2.2) (fun _ hk => ⟨hk.2.1, hk.2.2.1⟩)⟩
theorem PoolX.ofSp {w w0 w' : World} {g : Nat} {dv lv pv qv tv : Value} {uA : Option Addr} {uc : Nat} {nA : Option Addr} {nc : Nat} {up draws : List Int} {p : PSt} (h : SpW (fun _ => False) w0 w' g dv lv pv qv tv uA uc nA nc (WS.of up draws p)) (hw : w.heap.size ≤ w0.heap.size) :
    PoolX sliceQ w.heap.size w'.heap.size w.heap.size w' dv lv pv qv tv p.decks p.left p.pre p.post (p.told.map evS) :=
  ⟨Kd.S_mono (Kd.S_bound (Kd.S_lower h.dk hw)) (fun _ hk => ⟨hk.1.1, hk.2.1, hk.2.2.1⟩), Kd.R_mono (Kd.R_bound (Kd.R_lower h.lf hw)) (fun _ hk => ⟨hk.2.1, hk.2.2.1⟩), Kd.R_mono (Kd.R_bound (Kd.R_lower h.pr hw)) (fun _ hk => ⟨hk.1, hk.2.1, hk.2.2.1⟩), Kd.R_mono (Kd.R_bound (Kd.R_lower (d := Kd.bool) (ok := fun k_ => some k_ ≠ (pv : Value).ownBlock) ⟨fun k hk he => h.pr.1 k he.symm hk.symm, h.po.2⟩ hw)) (fun _ hk => ⟨hk.1, hk.2.1, hk.2.2.1⟩), Kd.R_mono (Kd.R_bound (Kd.R_lower h.td hw)) (fun _ hk => ⟨hk.2.1, hk.2.2.1⟩)⟩
theorem PoolX.put {D : Kd (List Int)} (hD : ∀ q, q ∈ 32 :: D.E → q ≠ 48) {lo hi base : Nat} {w' : World} {v0 v1 v2 v3 v4 : Value} {r1 : List (List Int)} {r2 : List Int} {r3 r4 : List Bool} {r5 : List S93} (h : PoolX D lo hi base w' v0 v1 v2 v3 v4 r1 r2 r3 r4 r5) {gb : Nat} {cs : Array Value} (hb : w'.heap[gb]? = some (.cells cs 48 (0, 0))) (j : Nat) (u : Value) :
    PoolX D lo hi base (w'.setCell ⟨gb, j, none⟩ u) v0 v1 v2 v3 v4 r1 r2 r3 r4 r5 :=
  ⟨Kd.S_set h.1 hb hD _ _, Kd.R_set h.2.1 hb (by decide) _ _, Kd.R_set h.2.2.1 hb (by decide) _ _, Kd.R_set h.2.2.2.1 hb (by decide) _ _, Kd.R_set h.2.2.2.2 hb (by decide) _ _⟩
theorem PoolX.put6 {D : Kd (List Int)} (hD : ∀ q, q ∈ 32 :: D.E → q ≠ 48) {lo hi base : Nat} {w' : World} {v0 v1 v2 v3 v4 : Value} {r1 : List (List Int)} {r2 : List Int} {r3 r4 : List Bool} {r5 : List S93} (h : PoolX D lo hi base w' v0 v1 v2 v3 v4 r1 r2 r3 r4 r5) {gb : Nat} {cs : Array Value} (hb : w'.heap[gb]? = some (.cells cs 48 (0, 0))) (u0 u1 u2 u3 u4 u5 : Value) :
    PoolX D lo hi base ((((((w'.setCell ⟨gb, 0, none⟩ u0).setCell ⟨gb, 1, none⟩ u1).setCell ⟨gb, 2, none⟩ u2).setCell ⟨gb, 3, none⟩ u3).setCell ⟨gb, 4, none⟩ u4).setCell ⟨gb, 5, none⟩ u5) v0 v1 v2 v3 v4 r1 r2 r3 r4 r5 :=
  (((((h.put hD hb 0 u0).put hD (blk_set hb _ _) 1 u1).put hD (blk_set (blk_set hb _ _) _ _) 2 u2).put hD (blk_set (blk_set (blk_set hb _ _) _ _) _ _) 3 u3).put hD (blk_set (blk_set (blk_set (blk_set hb _ _) _ _) _ _) _ _) 4 u4).put hD (blk_set (blk_set (blk_set (blk_set (blk_set hb _ _) _ _) _ _) _ _) _ _) 5 u5

/-- What RunPool leaves: a pool whose rows are new, and a flag. -/
def PoolOut (D : Kd (List Int)) (w : World) (r1 : List (List Int)) (r2 : List Int) (r3 r4 : List Bool) (r5 : List S93) (r6 : Int) (r7 : Bool) (e : Ending) (w' : World) : Prop :=
  ∃ v0 v1 v2 v3 v4 : Value, e = .returned (.tuple #[.agg #[v0, v1, v2, v3, v4, .int .i64 r6], .bool r7]) ∧ PoolX D w.heap.size w'.heap.size w.heap.size w' v0 v1 v2 v3 v4 r1 r2 r3 r4 r5 ∧ Below w.heap.size w w'
theorem PoolOut.zero (D : Kd (List Int)) {w w' : World} (hb : Below w.heap.size w w') : PoolOut D w [] [] [] [] [] 0 false (.returned (.tuple #[.agg #[.slice none 0 0, .slice none 0 0, .slice none 0 0, .slice none 0 0, .slice none 0 0, .int .i64 0], .bool false])) w' :=
  ⟨_, _, _, _, _, rfl, ⟨Kd.S_nil _ _ _ _ _, Kd.R_nil _ _ _ _ _, Kd.R_nil _ _ _ _ _, Kd.R_nil _ _ _ _ _, Kd.R_nil _ _ _ _ _⟩, hb⟩

set_option maxRecDepth 100000 in
set_option maxHeartbeats 4000000 in
theorem srun_on {w : World} {uA pA nA : Option Addr} {uc pc nc : Nat} {up picks draws : List Int} (n : Nat) (steps : Int) (hs : 0 ≤ steps) (kf : Nat) (ha : spec_l13Asked.f kf up (n : Int) picks draws = some true) (hA : Asked up (n : Int) picks draws)
    (hu : Kd.C (Kd.int .i64) w uA up.length up) (huc : up.length ≤ uc) (hp : Kd.C (Kd.int .i64) w pA picks.length picks) (hpc : picks.length ≤ pc) (hd : Kd.C (Kd.int .i64) w nA draws.length draws) (hdc : draws.length ≤ nc) (p : PSt) (hpp : run up n picks draws steps.toNat (PoolModel.start up n) = p) :
    Calls Try.prog 36 #[.slice uA up.length uc, .int .i64 (n : Int), .slice pA picks.length pc, .slice nA draws.length nc, .int .i64 steps] w (PoolOut sliceQ w p.decks p.left p.pre p.post (p.told.map evS) (p.steps : Int) true) := by
  have hn0 : 0 < n := by have := hA.w1; omega
  have hn8 : n ≤ 8 := by have := hA.w8; omega
  have HAS := Aside0.mk hA
  have HB0 := Aside0.mk (below_alloc (Below.refl w.heap.size w) (.cells #[.slice none 0 0, .slice none 0 0, .slice none 0 0, .slice none 0 0, .slice none 0 0, .int .i64 0] 48))
  have HK0 := Aside0.mk (blk_new w (.cells #[.slice none 0 0, .slice none 0 0, .slice none 0 0, .slice none 0 0, .slice none 0 0, .int .i64 0] 48))
  have HZ0 : Aside0 ((w.alloc (.cells #[.slice none 0 0, .slice none 0 0, .slice none 0 0, .slice none 0 0, .slice none 0 0, .int .i64 0] 48)).heap.size = w.heap.size + 1) := ⟨by show (w.heap.push _).size = _; rw [Array.size_push]⟩
  have HAC := Aside0.mk (spec_l13Asked.calls kf uA uc up (n : Int) pA pc picks nA nc draws true (w.alloc (.cells #[.slice none 0 0, .slice none 0 0, .slice none 0 0, .slice none 0 0, .slice none 0 0, .int .i64 0] 48)) (Kd.C_below hu HB0.out) huc (Kd.C_below hp HB0.out) hpc (Kd.C_below hd HB0.out) hdc ha)
  have HU := Aside0.mk hu
  have HP := Aside0.mk hp
  have HD := Aside0.mk hd
  have HUC := Aside0.mk huc
  have HPC := Aside0.mk hpc
  have HDC := Aside0.mk hdc
  have HPP := Aside0.mk hpp
  clear hu huc hp hpc hd hdc ha hA hpp
  go_enter Try.func36, Try.ntmps36
  go_wp2_with fail
  generalize w.alloc (.cells #[.slice none 0 0, .slice none 0 0, .slice none 0 0, .slice none 0 0, .slice none 0 0, .int .i64 0] 48) = W0 at *
  refine HAC.out.mono ?_
  rintro e w1 ⟨rfl, hw1⟩
  have HB1 := Aside0.mk hw1.below
  have HB01 := Aside0.mk (below_then HB0.out HB0.out.size hw1.below)
  clear hw1 HAC
  go_wp2_with fail
  refine (run_calls n steps hs hn0 (by omega) HAS.out.forest HAS.out.dr HAS.out.pk (by have := HAS.out.pl; omega) (Kd.C_below HU.out HB01.out) HUC.out (Kd.C_below HP.out HB01.out) HPC.out (Kd.C_below HD.out HB01.out) HDC.out).mono ?_
  rintro e w7 ⟨g, dv, lv, pv, qv, tv, rfl, h7⟩
  rw [HPP.out] at h7
  have H7 := Aside0.mk h7
  clear h7
  obtain ⟨D0, k0, rfl⟩ := Kd.S_slice H7.out.dk
  obtain ⟨D1, k1, rfl⟩ := Kd.R_slice H7.out.lf
  obtain ⟨D2, k2, rfl⟩ := Kd.R_slice H7.out.pr
  obtain ⟨D3, k3, rfl⟩ := Kd.R_slice H7.out.po
  obtain ⟨D4, k4, TL, hTL, rfl⟩ : ∃ A c m, Aside0 (m = (p.told.map evS).length) ∧ tv = .slice A m c := by obtain ⟨A, c, e⟩ := Kd.R_slice H7.out.td; exact ⟨A, c, _, ⟨rfl⟩, e⟩
  have HB07 := Aside0.mk (below_then HB1.out HB1.out.size H7.out.bel)
  have hs0 : w7.cell? ⟨g, 0, none⟩ = some ((.slice D0 p.decks.length k0)) := cell_blk H7.out.blk 0
  have hs1 : w7.cell? ⟨g, 1, none⟩ = some ((.slice D1 p.left.length k1)) := cell_blk H7.out.blk 1
  have hs2 : w7.cell? ⟨g, 2, none⟩ = some ((.slice D2 p.pre.length k2)) := cell_blk H7.out.blk 2
  have hs3 : w7.cell? ⟨g, 3, none⟩ = some ((.slice D3 p.post.length k3)) := cell_blk H7.out.blk 3
  have hs4 : w7.cell? ⟨g, 4, none⟩ = some ((.slice D4 TL k4)) := cell_blk H7.out.blk 4
  have hs5 : w7.cell? ⟨g, 5, none⟩ = some (.int .i64 (p.steps : Int)) := cell_blk H7.out.blk 5
  have HK7 : Aside0 (w7.heap[w.heap.size]? = some (.cells #[.slice none 0 0, .slice none 0 0, .slice none 0 0, .slice none 0 0, .slice none 0 0, .int .i64 0] 48 (0, 0))) := ⟨blk_below HK0.out HB07.out⟩
  have ht0 : w7.cell? ⟨w.heap.size, 0, none⟩ = some (.slice none 0 0) := (blk_cell HK7.out 0).trans rfl
  have ht1 : w7.cell? ⟨w.heap.size, 1, none⟩ = some (.slice none 0 0) := (blk_cell HK7.out 1).trans rfl
  have ht2 : w7.cell? ⟨w.heap.size, 2, none⟩ = some (.slice none 0 0) := (blk_cell HK7.out 2).trans rfl
  have ht3 : w7.cell? ⟨w.heap.size, 3, none⟩ = some (.slice none 0 0) := (blk_cell HK7.out 3).trans rfl
  have ht4 : w7.cell? ⟨w.heap.size, 4, none⟩ = some (.slice none 0 0) := (blk_cell HK7.out 4).trans rfl
  have ht5 : w7.cell? ⟨w.heap.size, 5, none⟩ = some (.int .i64 0) := (blk_cell HK7.out 5).trans rfl
  have hf0 := blk_frozen HK7.out 0
  have hf1 := blk_frozen HK7.out 1
  have hf2 := blk_frozen HK7.out 2
  have hf3 := blk_frozen HK7.out 3
  have hf4 := blk_frozen HK7.out 4
  have hf5 := blk_frozen HK7.out 5
  go_wp2_with fail
  refine bodyPost_ret (results_ct rfl _ _ w.heap.size 48 #[(.slice D0 p.decks.length k0), (.slice D1 p.left.length k1), (.slice D2 p.pre.length k2), (.slice D3 p.post.length k3), (.slice D4 TL k4), .int .i64 (p.steps : Int)] (0, 0) _ rfl (by (with_reducible repeat (first | refine blk_drewN ?_ _ | refine blk_drew ?_ | refine blk_alloc ?_ _)); refine blk_put (cs := #[(.slice D0 p.decks.length k0), (.slice D1 p.left.length k1), (.slice D2 p.pre.length k2), (.slice D3 p.post.length k3), (.slice D4 TL k4), .int .i64 0]) ?_ 5 _ rfl; (with_reducible repeat (first | refine blk_drewN ?_ _ | refine blk_drew ?_ | refine blk_alloc ?_ _)); refine blk_put (cs := #[(.slice D0 p.decks.length k0), (.slice D1 p.left.length k1), (.slice D2 p.pre.length k2), (.slice D3 p.post.length k3), .slice none 0 0, .int .i64 0]) ?_ 4 _ rfl; (with_reducible repeat (first | refine blk_drewN ?_ _ | refine blk_drew ?_ | refine blk_alloc ?_ _)); refine blk_put (cs := #[(.slice D0 p.decks.length k0), (.slice D1 p.left.length k1), (.slice D2 p.pre.length k2), .slice none 0 0, .slice none 0 0, .int .i64 0]) ?_ 3 _ rfl; (with_reducible repeat (first | refine blk_drewN ?_ _ | refine blk_drew ?_ | refine blk_alloc ?_ _)); refine blk_put (cs := #[(.slice D0 p.decks.length k0), (.slice D1 p.left.length k1), .slice none 0 0, .slice none 0 0, .slice none 0 0, .int .i64 0]) ?_ 2 _ rfl; (with_reducible repeat (first | refine blk_drewN ?_ _ | refine blk_drew ?_ | refine blk_alloc ?_ _)); refine blk_put (cs := #[(.slice D0 p.decks.length k0), .slice none 0 0, .slice none 0 0, .slice none 0 0, .slice none 0 0, .int .i64 0]) ?_ 1 _ rfl; (with_reducible repeat (first | refine blk_drewN ?_ _ | refine blk_drew ?_ | refine blk_alloc ?_ _)); refine blk_put (cs := #[.slice none 0 0, .slice none 0 0, .slice none 0 0, .slice none 0 0, .slice none 0 0, .int .i64 0]) ?_ 0 _ rfl; (with_reducible repeat (first | refine blk_drewN ?_ _ | refine blk_drew ?_ | refine blk_alloc ?_ _)); exact HK7.out) Try.underlying48 rfl (by kernel_rfl)) rfl ?_
  have hz7 : w.heap.size ≤ w1.heap.size := HB01.out.size
  refine ⟨_, _, _, _, _, rfl, ?_, below_put6 (below_then HB01.out HB01.out.size H7.out.bel) _ _ _ _ _ _ (Nat.le_refl _)⟩
  simp only [size_set]
  exact PoolX.put6 (by decide) (PoolX.ofSp H7.out hz7) HK7.out _ _ _ _ _ _
set_option maxRecDepth 100000 in
set_option maxHeartbeats 4000000 in
theorem srun_no {w : World} {uA pA nA : Option Addr} {uc pc nc : Nat} {up picks draws : List Int} (a1 : Int) (steps : Int) (kf : Nat) (t : Bool) (ha : spec_l13Asked.f kf up a1 picks draws = some t) (hno : t = false ∨ steps < 0)
    (hu : Kd.C (Kd.int .i64) w uA up.length up) (huc : up.length ≤ uc) (hp : Kd.C (Kd.int .i64) w pA picks.length picks) (hpc : picks.length ≤ pc) (hd : Kd.C (Kd.int .i64) w nA draws.length draws) (hdc : draws.length ≤ nc) :
    Calls Try.prog 36 #[.slice uA up.length uc, .int .i64 a1, .slice pA picks.length pc, .slice nA draws.length nc, .int .i64 steps] w fun e w' => e = .returned (.tuple #[.agg #[.slice none 0 0, .slice none 0 0, .slice none 0 0, .slice none 0 0, .slice none 0 0, .int .i64 0], .bool false]) ∧ Below w.heap.size w w' := by
  have HB0 := Aside0.mk (below_alloc (Below.refl w.heap.size w) (.cells #[.slice none 0 0, .slice none 0 0, .slice none 0 0, .slice none 0 0, .slice none 0 0, .int .i64 0] 48))
  have HK0 := Aside0.mk (blk_new w (.cells #[.slice none 0 0, .slice none 0 0, .slice none 0 0, .slice none 0 0, .slice none 0 0, .int .i64 0] 48))
  have HZ0 : Aside0 ((w.alloc (.cells #[.slice none 0 0, .slice none 0 0, .slice none 0 0, .slice none 0 0, .slice none 0 0, .int .i64 0] 48)).heap.size = w.heap.size + 1) := ⟨by show (w.heap.push _).size = _; rw [Array.size_push]⟩
  have HAC := Aside0.mk (spec_l13Asked.calls kf uA uc up a1 pA pc picks nA nc draws t (w.alloc (.cells #[.slice none 0 0, .slice none 0 0, .slice none 0 0, .slice none 0 0, .slice none 0 0, .int .i64 0] 48)) (Kd.C_below hu HB0.out) huc (Kd.C_below hp HB0.out) hpc (Kd.C_below hd HB0.out) hdc ha)
  clear hu huc hp hpc hd hdc ha
  cases t with
  | false =>
    clear hno
    go_enter Try.func36, Try.ntmps36
    go_wp2_with fail
    generalize w.alloc (.cells #[.slice none 0 0, .slice none 0 0, .slice none 0 0, .slice none 0 0, .slice none 0 0, .int .i64 0] 48) = W0 at *
    refine HAC.out.mono ?_
    rintro e w1 ⟨rfl, hw1⟩
    have HB1 := Aside0.mk hw1.below
    clear hw1 HAC
    have HK7 : Aside0 (w1.heap[w.heap.size]? = some (.cells #[.slice none 0 0, .slice none 0 0, .slice none 0 0, .slice none 0 0, .slice none 0 0, .int .i64 0] 48 (0, 0))) := ⟨blk_below HK0.out HB1.out⟩
    have ht0 : w1.cell? ⟨w.heap.size, 0, none⟩ = some (.slice none 0 0) := (blk_cell HK7.out 0).trans rfl
    have ht1 : w1.cell? ⟨w.heap.size, 1, none⟩ = some (.slice none 0 0) := (blk_cell HK7.out 1).trans rfl
    have ht2 : w1.cell? ⟨w.heap.size, 2, none⟩ = some (.slice none 0 0) := (blk_cell HK7.out 2).trans rfl
    have ht3 : w1.cell? ⟨w.heap.size, 3, none⟩ = some (.slice none 0 0) := (blk_cell HK7.out 3).trans rfl
    have ht4 : w1.cell? ⟨w.heap.size, 4, none⟩ = some (.slice none 0 0) := (blk_cell HK7.out 4).trans rfl
    have ht5 : w1.cell? ⟨w.heap.size, 5, none⟩ = some (.int .i64 0) := (blk_cell HK7.out 5).trans rfl
    have hf0 := blk_frozen HK7.out 0
    have hf1 := blk_frozen HK7.out 1
    have hf2 := blk_frozen HK7.out 2
    have hf3 := blk_frozen HK7.out 3
    have hf4 := blk_frozen HK7.out 4
    have hf5 := blk_frozen HK7.out 5
    go_wp2_with fail
    refine bodyPost_ret (results_ct rfl _ _ w.heap.size 48 #[.slice none 0 0, .slice none 0 0, .slice none 0 0, .slice none 0 0, .slice none 0 0, .int .i64 0] (0, 0) _ rfl (by (with_reducible repeat (first | refine blk_drewN ?_ _ | refine blk_drew ?_ | refine blk_alloc ?_ _)); refine blk_put (cs := #[.slice none 0 0, .slice none 0 0, .slice none 0 0, .slice none 0 0, .slice none 0 0, .int .i64 0]) ?_ 5 _ rfl; (with_reducible repeat (first | refine blk_drewN ?_ _ | refine blk_drew ?_ | refine blk_alloc ?_ _)); refine blk_put (cs := #[.slice none 0 0, .slice none 0 0, .slice none 0 0, .slice none 0 0, .slice none 0 0, .int .i64 0]) ?_ 4 _ rfl; (with_reducible repeat (first | refine blk_drewN ?_ _ | refine blk_drew ?_ | refine blk_alloc ?_ _)); refine blk_put (cs := #[.slice none 0 0, .slice none 0 0, .slice none 0 0, .slice none 0 0, .slice none 0 0, .int .i64 0]) ?_ 3 _ rfl; (with_reducible repeat (first | refine blk_drewN ?_ _ | refine blk_drew ?_ | refine blk_alloc ?_ _)); refine blk_put (cs := #[.slice none 0 0, .slice none 0 0, .slice none 0 0, .slice none 0 0, .slice none 0 0, .int .i64 0]) ?_ 2 _ rfl; (with_reducible repeat (first | refine blk_drewN ?_ _ | refine blk_drew ?_ | refine blk_alloc ?_ _)); refine blk_put (cs := #[.slice none 0 0, .slice none 0 0, .slice none 0 0, .slice none 0 0, .slice none 0 0, .int .i64 0]) ?_ 1 _ rfl; (with_reducible repeat (first | refine blk_drewN ?_ _ | refine blk_drew ?_ | refine blk_alloc ?_ _)); refine blk_put (cs := #[.slice none 0 0, .slice none 0 0, .slice none 0 0, .slice none 0 0, .slice none 0 0, .int .i64 0]) ?_ 0 _ rfl; (with_reducible repeat (first | refine blk_drewN ?_ _ | refine blk_drew ?_ | refine blk_alloc ?_ _)); exact HK7.out) Try.underlying48 rfl (by kernel_rfl)) rfl ?_
    exact ⟨rfl, below_put6 (below_then HB0.out HB0.out.size HB1.out) _ _ _ _ _ _ (Nat.le_refl _)⟩
  | true =>
    have hs : steps < 0 := hno.resolve_left (by decide)
    clear hno
    go_enter Try.func36, Try.ntmps36
    go_wp2_with fail
    generalize w.alloc (.cells #[.slice none 0 0, .slice none 0 0, .slice none 0 0, .slice none 0 0, .slice none 0 0, .int .i64 0] 48) = W0 at *
    refine HAC.out.mono ?_
    rintro e w1 ⟨rfl, hw1⟩
    have HB1 := Aside0.mk hw1.below
    clear hw1 HAC
    have HK7 : Aside0 (w1.heap[w.heap.size]? = some (.cells #[.slice none 0 0, .slice none 0 0, .slice none 0 0, .slice none 0 0, .slice none 0 0, .int .i64 0] 48 (0, 0))) := ⟨blk_below HK0.out HB1.out⟩
    have ht0 : w1.cell? ⟨w.heap.size, 0, none⟩ = some (.slice none 0 0) := (blk_cell HK7.out 0).trans rfl
    have ht1 : w1.cell? ⟨w.heap.size, 1, none⟩ = some (.slice none 0 0) := (blk_cell HK7.out 1).trans rfl
    have ht2 : w1.cell? ⟨w.heap.size, 2, none⟩ = some (.slice none 0 0) := (blk_cell HK7.out 2).trans rfl
    have ht3 : w1.cell? ⟨w.heap.size, 3, none⟩ = some (.slice none 0 0) := (blk_cell HK7.out 3).trans rfl
    have ht4 : w1.cell? ⟨w.heap.size, 4, none⟩ = some (.slice none 0 0) := (blk_cell HK7.out 4).trans rfl
    have ht5 : w1.cell? ⟨w.heap.size, 5, none⟩ = some (.int .i64 0) := (blk_cell HK7.out 5).trans rfl
    have hf0 := blk_frozen HK7.out 0
    have hf1 := blk_frozen HK7.out 1
    have hf2 := blk_frozen HK7.out 2
    have hf3 := blk_frozen HK7.out 3
    have hf4 := blk_frozen HK7.out 4
    have hf5 := blk_frozen HK7.out 5
    go_wp2_with fail
    refine bodyPost_ret (results_ct rfl _ _ w.heap.size 48 #[.slice none 0 0, .slice none 0 0, .slice none 0 0, .slice none 0 0, .slice none 0 0, .int .i64 0] (0, 0) _ rfl (by (with_reducible repeat (first | refine blk_drewN ?_ _ | refine blk_drew ?_ | refine blk_alloc ?_ _)); refine blk_put (cs := #[.slice none 0 0, .slice none 0 0, .slice none 0 0, .slice none 0 0, .slice none 0 0, .int .i64 0]) ?_ 5 _ rfl; (with_reducible repeat (first | refine blk_drewN ?_ _ | refine blk_drew ?_ | refine blk_alloc ?_ _)); refine blk_put (cs := #[.slice none 0 0, .slice none 0 0, .slice none 0 0, .slice none 0 0, .slice none 0 0, .int .i64 0]) ?_ 4 _ rfl; (with_reducible repeat (first | refine blk_drewN ?_ _ | refine blk_drew ?_ | refine blk_alloc ?_ _)); refine blk_put (cs := #[.slice none 0 0, .slice none 0 0, .slice none 0 0, .slice none 0 0, .slice none 0 0, .int .i64 0]) ?_ 3 _ rfl; (with_reducible repeat (first | refine blk_drewN ?_ _ | refine blk_drew ?_ | refine blk_alloc ?_ _)); refine blk_put (cs := #[.slice none 0 0, .slice none 0 0, .slice none 0 0, .slice none 0 0, .slice none 0 0, .int .i64 0]) ?_ 2 _ rfl; (with_reducible repeat (first | refine blk_drewN ?_ _ | refine blk_drew ?_ | refine blk_alloc ?_ _)); refine blk_put (cs := #[.slice none 0 0, .slice none 0 0, .slice none 0 0, .slice none 0 0, .slice none 0 0, .int .i64 0]) ?_ 1 _ rfl; (with_reducible repeat (first | refine blk_drewN ?_ _ | refine blk_drew ?_ | refine blk_alloc ?_ _)); refine blk_put (cs := #[.slice none 0 0, .slice none 0 0, .slice none 0 0, .slice none 0 0, .slice none 0 0, .int .i64 0]) ?_ 0 _ rfl; (with_reducible repeat (first | refine blk_drewN ?_ _ | refine blk_drew ?_ | refine blk_alloc ?_ _)); exact HK7.out) Try.underlying48 rfl (by kernel_rfl)) rfl ?_
    exact ⟨rfl, below_put6 (below_then HB0.out HB0.out.size HB1.out) _ _ _ _ _ _ (Nat.le_refl _)⟩

/-- What both come to. -/
def RunSame (k : Nat) (up : List Int) (a1 : Int) (picks draws : List Int) (steps : Int) (r1 : List (List Int)) (r2 : List Int) (r3 r4 : List Bool) (r5 : List S93) (r6 : Int) (r7 : Bool) : Prop :=
  impl_RunPoolH.f k up a1 picks draws steps = some (r1, r2, r3, r4, r5, r6, r7)
theorem RunSame.spec {k : Nat} {up : List Int} {a1 : Int} {picks draws : List Int} {steps : Int} {r1 : List (List Int)} {r2 : List Int} {r3 r4 : List Bool} {r5 : List S93} {r6 : Int} {r7 : Bool} (h : RunSame k up a1 picks draws steps r1 r2 r3 r4 r5 r6 r7) {w : World} {uA pA nA : Option Addr} {uc pc nc : Nat}
    (hu : Kd.C (Kd.int .i64) w uA up.length up) (huc : up.length ≤ uc) (hp : Kd.C (Kd.int .i64) w pA picks.length picks) (hpc : picks.length ≤ pc) (hd : Kd.C (Kd.int .i64) w nA draws.length draws) (hdc : draws.length ≤ nc) :
    Calls Try.prog 36 #[.slice uA up.length uc, .int .i64 a1, .slice pA picks.length pc, .slice nA draws.length nc, .int .i64 steps] w (PoolOut sliceQ w r1 r2 r3 r4 r5 r6 r7) := by
  unfold RunSame impl_RunPoolH.f at h
  split at h
  · rename_i hl0
    split at h
    · split at h
      · obtain ⟨t, ht, h⟩ := Option.bind_eq_some_iff.1 h
        cases t with
        | false =>
          rw [if_neg (by decide)] at h
          simp only [Option.some.injEq, Prod.mk.injEq] at h
          obtain ⟨rfl, rfl, rfl, rfl, rfl, rfl, rfl⟩ := h
          refine (srun_no a1 steps k false ht (.inl rfl) hu huc hp hpc hd hdc).mono ?_
          rintro e w' ⟨rfl, hb⟩
          exact PoolOut.zero _ hb
        | true =>
          have hA := asked_true hl0 ht
          rw [if_pos rfl] at h
          obtain ⟨n, rfl⟩ : ∃ n : Nat, a1 = (n : Int) := ⟨a1.toNat, by have := hA.w1; omega⟩
          split at h
          · rename_i hs
            simp only [Option.some.injEq, Prod.mk.injEq, Int.toNat_natCast] at h
            obtain ⟨rfl, rfl, rfl, rfl, rfl, rfl, rfl⟩ := h
            exact srun_on n steps hs k ht hA hu huc hp hpc hd hdc _ rfl
          · simp only [Option.some.injEq, Prod.mk.injEq] at h
            obtain ⟨rfl, rfl, rfl, rfl, rfl, rfl, rfl⟩ := h
            refine (srun_no (n : Int) steps k true ht (.inr (by omega)) hu huc hp hpc hd hdc).mono ?_
            rintro e w' ⟨rfl, hb⟩
            exact PoolOut.zero _ hb
      · cases h
    · cases h
  · cases h
theorem RunSame.impl {k : Nat} {up : List Int} {a1 : Int} {picks draws : List Int} {steps : Int} {r1 : List (List Int)} {r2 : List Int} {r3 r4 : List Bool} {r5 : List S93} {r6 : Int} {r7 : Bool} (h : RunSame k up a1 picks draws steps r1 r2 r3 r4 r5 r6 r7) {w : World} {uA pA nA : Option Addr} {uc pc nc : Nat}
    (hu : Kd.C (Kd.int .i64) w uA up.length up) (huc : up.length ≤ uc) (hp : Kd.C (Kd.int .i64) w pA picks.length picks) (hpc : picks.length ≤ pc) (hd : Kd.C (Kd.int .i64) w nA draws.length draws) (hdc : draws.length ≤ nc) :
    Calls Try.prog 37 #[.slice uA up.length uc, .int .i64 a1, .slice pA picks.length pc, .slice nA draws.length nc, .int .i64 steps] w (PoolOut (Kd.slice 3 (Kd.int .i64)) w r1 r2 r3 r4 r5 r6 r7) := by
  refine (impl_RunPoolH.calls k uA uc up a1 pA pc picks nA nc draws steps r1 r2 r3 r4 r5 r6 r7 w hu huc hp hpc hd hdc h).mono ?_
  rintro e w' ⟨v0, v1, v2, v3, v4, rfl, h0, h1, h2, h3, h4, hb⟩
  exact ⟨v0, v1, v2, v3, v4, rfl, PoolX.ofR ⟨h0, h1, h2, h3, h4⟩, hb⟩
end Go.Proofs.Ytoaimlpbliabdaa.QFnExactEventsOf
