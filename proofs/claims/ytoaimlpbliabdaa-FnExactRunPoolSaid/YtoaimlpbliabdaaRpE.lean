/- markPool walked. No conditions but those of each lemma. -/
import Derived.Test.YtoaimlpbliabdaaRpD
namespace Go.Proofs.Ytoaimlpbliabdaa.QFnExactEventsOf
open Go.RowKit Go.Proofs.YtoaimlpbliabdaaW.PrintWords Go.Proofs.YtoaimlpbliabdaaW.PrintLast Go.Proofs.YtoaimlpbliabdaaW.PrintMore
set_option linter.unusedVariables false
set_option linter.unusedSimpArgs false

theorem markInt_own {w0 w : World} {ok : Nat → Prop} {u : Value} {l : List Int} {a b : Int} (hb : b = a + (l.length : Int)) (hB : Below w0.heap.size w0 w) (ho : Kd.R (Kd.int .i64) 3 w w0.heap.size ok u l) (h : l.length ≤ 2000000) (h0 : 0 ≤ a) (h1 : a ≤ 1000000000000) :
    Calls Try.prog 27 #[u, .int .i64 a] w fun e w' => e = .returned (.int .i64 b) ∧ Kd.R (Kd.int .i64) 3 w' w0.heap.size (fun k => some k = u.ownBlock) u (marks a l.length) ∧ Below w0.heap.size w0 w' ∧ Kept w w' (fun k => some k = u.ownBlock) := by
  obtain ⟨k, hk⟩ := Ev.rounds (markIntS_ev h h0 h1)
  refine (laws_markIntS.calls k _ u l a _ _ w0 w hB (Kd.R_tight rfl ho) hk).mono ?_
  rintro e w' ⟨rfl, hR, hb', hk'⟩
  exact ⟨by rw [hb], Kd.R_tight rfl hR, hb', hk'⟩
theorem markBool_own {w0 w : World} {ok : Nat → Prop} {u : Value} {l : List Bool} {a b : Int} (hb : b = a + (l.length : Int)) (hB : Below w0.heap.size w0 w) (ho : Kd.R Kd.bool 4 w w0.heap.size ok u l) (h : l.length ≤ 2000000) (h0 : 0 ≤ a) (h1 : a ≤ 1000000000000) :
    Calls Try.prog 93 #[u, .int .i64 a] w fun e w' => e = .returned (.int .i64 b) ∧ Kd.R Kd.bool 4 w' w0.heap.size (fun k => some k = u.ownBlock) u (marksB a l.length) ∧ Below w0.heap.size w0 w' ∧ Kept w w' (fun k => some k = u.ownBlock) := by
  obtain ⟨k, hk⟩ := Ev.rounds (markBoolS_ev h h0 h1)
  refine (laws_markBoolS.calls k _ u l a _ _ w0 w hB (Kd.R_tight rfl ho) hk).mono ?_
  rintro e w' ⟨rfl, hR, hb', hk'⟩
  exact ⟨by rw [hb], Kd.R_tight rfl hR, hb', hk'⟩
theorem markEvent_own {w0 w : World} {ok : Nat → Prop} {u : Value} {l : List S93} {a b : Int} (hb : b = a + 3 * (l.length : Int)) (hB : Below w0.heap.size w0 w) (ho : Kd.R k93 93 w w0.heap.size ok u l) (h : l.length ≤ 2000000) (h0 : 0 ≤ a) (h1 : a ≤ 1000000000000) :
    Calls Try.prog 34 #[u, .int .i64 a] w fun e w' => e = .returned (.int .i64 b) ∧ Kd.R k93 93 w' w0.heap.size (fun k => some k = u.ownBlock) u (marks93 a l.length) ∧ Below w0.heap.size w0 w' ∧ Kept w w' (fun k => some k = u.ownBlock) := by
  obtain ⟨k, hk⟩ := Ev.rounds (markEventS_ev h h0 h1)
  refine (laws_markEventS.calls k _ u l a _ _ w0 w hB (Kd.R_tight rfl ho) hk).mono ?_
  rintro e w' ⟨rfl, hR, hb', hk'⟩
  exact ⟨by rw [hb], Kd.R_tight rfl hR, hb', hk'⟩

/-- How far a pool's marks go. -/
def poolM (r1 : List (List Int)) (r2 : List Int) (r3 r4 : List Bool) (r5 : List S93) : Int := 1 + (tl r1 : Int) + (r2.length : Int) + (r3.length : Int) + (r4.length : Int) + 3 * (r5.length : Int)
structure Small (r1 : List (List Int)) (r2 : List Int) (r3 r4 : List Bool) (r5 : List S93) : Prop where
  t1 : tl r1 ≤ 100000
  l1 : r1.length ≤ 100000
  l2 : r2.length ≤ 100000
  l3 : r3.length ≤ 100000
  l4 : r4.length ≤ 100000
  l5 : r5.length ≤ 100000
set_option maxRecDepth 100000 in
set_option maxHeartbeats 4000000 in
theorem markPool_calls {w0 w : World} {lo hi : Nat} {v0 v1 v2 v3 v4 : Value} {r1 : List (List Int)} {r2 : List Int} {r3 r4 : List Bool} {r5 : List S93} (a6 : Int) (hB : Below w0.heap.size w0 w) (h : PoolX (Kd.slice 3 (Kd.int .i64)) lo hi w0.heap.size w v0 v1 v2 v3 v4 r1 r2 r3 r4 r5) (hhi : hi ≤ w.heap.size) (hs : Small r1 r2 r3 r4 r5) :
    Calls Try.prog 39 #[.agg #[v0, v1, v2, v3, v4, .int .i64 a6], .int .i64 1] w fun e w' => e = .returned (.int .i64 (poolM r1 r2 r3 r4 r5)) ∧ (∃ q1 q2 q3 q4 q5, PoolX (Kd.slice 3 (Kd.int .i64)) lo hi w0.heap.size w' v0 v1 v2 v3 v4 q1 q2 q3 q4 q5 ∧ Ev (fun k => laws_heldPool.f k q1 q2 q3 q4 q5 a6 1) (poolM r1 r2 r3 r4 r5) ∧ q1.length = r1.length ∧ q2.length = r2.length ∧ q3.length = r3.length ∧ q4.length = r4.length ∧ q5.length = r5.length) ∧ Below w0.heap.size w0 w' ∧ Kept w w' (fun k => lo ≤ k ∧ k < hi) := by
  have H := Aside0.mk h
  obtain ⟨A0, c0, A1, c1, A2, c2, A3, c3, A4, c4, rfl, rfl, rfl, rfl, rfl, -, -, -, -, -⟩ := h.reads
  have HSM := Aside0.mk hs
  obtain ⟨s1, hs1⟩ : ∃ s : Int, s = 1 + (tl r1 : Int) := ⟨_, rfl⟩
  obtain ⟨s2, hs2⟩ : ∃ s : Int, s = s1 + (r2.length : Int) := ⟨_, rfl⟩
  obtain ⟨s3, hs3⟩ : ∃ s : Int, s = s2 + (r3.length : Int) := ⟨_, rfl⟩
  obtain ⟨s4, hs4⟩ : ∃ s : Int, s = s3 + (r4.length : Int) := ⟨_, rfl⟩
  obtain ⟨s5, hs5⟩ : ∃ s : Int, s = s4 + 3 * (r5.length : Int) := ⟨_, rfl⟩
  have hM : poolM r1 r2 r3 r4 r5 = s5 := by unfold poolM; omega
  have b1 : 0 ≤ s1 ∧ s1 ≤ 1000000 := by have := hs.t1; omega
  have b2 : 0 ≤ s2 ∧ s2 ≤ 1000000 := by have := hs.l2; have := hs.t1; omega
  have b3 : 0 ≤ s3 ∧ s3 ≤ 1000000 := by have := hs.l2; have := hs.t1; have := hs.l3; omega
  have b4 : 0 ≤ s4 ∧ s4 ≤ 1000000 := by have := hs.l2; have := hs.t1; have := hs.l3; have := hs.l4; omega
  have b5 : 0 ≤ s5 ∧ s5 ≤ 1000000 := by have := hs.l2; have := hs.t1; have := hs.l3; have := hs.l4; have := hs.l5; omega
  have hEv : Ev (fun k => laws_heldPool.f k (marksSS 1 r1) (marks s1 r2.length) (marksB s2 r3.length) (marksB s3 r4.length) (marks93 s4 r5.length) a6 1) s5 := by
    unfold laws_heldPool.f
    refine Ev.bind (heldIntSS_ev (by have := hs.l1; omega) (by have := hs.t1; omega) (by omega) (by omega)) ?_
    rw [← hs1]
    simp only [if_neg (show ¬ (s1 < 0) by omega)]
    refine Ev.bind (heldIntS_ev (by have := hs.l2; omega) (by omega) (by omega)) ?_
    rw [← hs2]
    simp only [if_neg (show ¬ (s2 < 0) by omega)]
    refine Ev.bind (heldBoolS_ev (by have := hs.l3; omega) (by omega) (by omega)) ?_
    rw [← hs3]
    simp only [if_neg (show ¬ (s3 < 0) by omega)]
    refine Ev.bind (heldBoolS_ev (by have := hs.l4; omega) (by omega) (by omega)) ?_
    rw [← hs4]
    simp only [if_neg (show ¬ (s4 < 0) by omega)]
    refine Ev.bind (heldEventS_ev (by have := hs.l5; omega) (by omega) (by omega)) ?_
    rw [← hs5]
    simp only [if_neg (show ¬ (s5 < 0) by omega)]
    exact Ev.now _
  rw [hM]
  have E1 := Aside0.mk hs1
  have E2 := Aside0.mk hs2
  have E3 := Aside0.mk hs3
  have E4 := Aside0.mk hs4
  have E5 := Aside0.mk hs5
  have HE := Aside0.mk hEv
  have HB := Aside0.mk hB
  have HK0 := Aside0.mk (blk_new w (.cells #[.slice A0 r1.length c0, .slice A1 r2.length c1, .slice A2 r3.length c2, .slice A3 r4.length c3, .slice A4 r5.length c4, .int .i64 a6] 48))
  have HBa := Aside0.mk (below_alloc (Below.refl w.heap.size w) (.cells #[.slice A0 r1.length c0, .slice A1 r2.length c1, .slice A2 r3.length c2, .slice A3 r4.length c3, .slice A4 r5.length c4, .int .i64 a6] 48))
  have HZa : Aside0 ((w.alloc (.cells #[.slice A0 r1.length c0, .slice A1 r2.length c1, .slice A2 r3.length c2, .slice A3 r4.length c3, .slice A4 r5.length c4, .int .i64 a6] 48)).heap.size = w.heap.size + 1) := ⟨by show (w.heap.push _).size = _; rw [Array.size_push]⟩
  clear hs1 hs2 hs3 hs4 hs5 hM hEv hB h hs
  go_enter Try.func39, Try.ntmps39
  go_wp2_with fail
  generalize w.alloc (.cells #[.slice A0 r1.length c0, .slice A1 r2.length c1, .slice A2 r3.length c2, .slice A3 r4.length c3, .slice A4 r5.length c4, .int .i64 a6] 48) = W1 at *
  have P1 := Aside0.mk (H.out.below HBa.out hhi)
  have B1 := Aside0.mk (below_then HB.out HB.out.size HBa.out)
  refine (markIntSS_calls B1.out (Kd.S_bound P1.out.1) (by omega) (by omega) (by have := HSM.out.t1; omega) (by have := HSM.out.l1; omega)).mono ?_
  rw [← E1.out]
  rintro e w2 ⟨rfl, hS, hb, hk⟩
  have P2 := Aside0.mk (P1.out.set0 hS hk)
  have B2 := Aside0.mk hb
  have K2 : Aside0 (Kept W1 w2 (fun k => lo ≤ k ∧ k < hi)) := ⟨kept_in hk (fun k hh => hh.1.2)⟩
  have G2 : Aside0 (w2.heap[w.heap.size]? = _) := ⟨(K2.out.2 w.heap.size (by rw [HZa.out]; omega) (fun hh => by omega)).trans HK0.out⟩
  have cc1 : w2.cell? ⟨w.heap.size, 1, none⟩ = some (.slice A1 r2.length c1) := cell_blk G2.out 1
  clear hS hb hk P1 B1
  go_wp2_with fail
  refine (markInt_own E2.out B2.out P2.out.2.1 (by have := HSM.out.l2; omega) b1.1 (by omega)).mono ?_
  rintro e w3 ⟨rfl, hR, hb, hk⟩
  have P3 := Aside0.mk (P2.out.set1 hR hk)
  have B3 := Aside0.mk hb
  have K3 : Aside0 (Kept W1 w3 (fun k => lo ≤ k ∧ k < hi)) := ⟨kept_then K2.out (kept_in hk (fun k hh => P2.out.2.1.1 k hh.symm))⟩
  have G3 : Aside0 (w3.heap[w.heap.size]? = _) := ⟨(K3.out.2 w.heap.size (by rw [HZa.out]; omega) (fun hh => by omega)).trans HK0.out⟩
  have cc2 : w3.cell? ⟨w.heap.size, 2, none⟩ = some (.slice A2 r3.length c2) := cell_blk G3.out 2
  clear hR hb hk P2 B2 K2 G2
  go_wp2_with fail
  refine (markBool_own E3.out B3.out P3.out.2.2.1 (by have := HSM.out.l3; omega) b2.1 (by omega)).mono ?_
  rintro e w4 ⟨rfl, hR, hb, hk⟩
  have P4 := Aside0.mk (P3.out.set2 hR hk)
  have B4 := Aside0.mk hb
  have K4 : Aside0 (Kept W1 w4 (fun k => lo ≤ k ∧ k < hi)) := ⟨kept_then K3.out (kept_in hk (fun k hh => (P3.out.2.2.1.1 k hh.symm).2))⟩
  have G4 : Aside0 (w4.heap[w.heap.size]? = _) := ⟨(K4.out.2 w.heap.size (by rw [HZa.out]; omega) (fun hh => by omega)).trans HK0.out⟩
  have cc3 : w4.cell? ⟨w.heap.size, 3, none⟩ = some (.slice A3 r4.length c3) := cell_blk G4.out 3
  clear hR hb hk P3 B3 K3 G3
  go_wp2_with fail
  refine (markBool_own E4.out B4.out P4.out.2.2.2.1 (by have := HSM.out.l4; omega) b3.1 (by omega)).mono ?_
  rintro e w5 ⟨rfl, hR, hb, hk⟩
  have P5 := Aside0.mk (P4.out.set3 hR hk)
  have B5 := Aside0.mk hb
  have K5 : Aside0 (Kept W1 w5 (fun k => lo ≤ k ∧ k < hi)) := ⟨kept_then K4.out (kept_in hk (fun k hh => (P4.out.2.2.2.1.1 k hh.symm).2))⟩
  have G5 : Aside0 (w5.heap[w.heap.size]? = _) := ⟨(K5.out.2 w.heap.size (by rw [HZa.out]; omega) (fun hh => by omega)).trans HK0.out⟩
  have cc4 : w5.cell? ⟨w.heap.size, 4, none⟩ = some (.slice A4 r5.length c4) := cell_blk G5.out 4
  clear hR hb hk P4 B4 K4 G4
  go_wp2_with fail
  refine (markEvent_own E5.out B5.out P5.out.2.2.2.2 (by have := HSM.out.l5; omega) b4.1 (by omega)).mono ?_
  rintro e w6 ⟨rfl, hR, hb, hk⟩
  have P6 := Aside0.mk (P5.out.set4 hR hk)
  have B6 := Aside0.mk hb
  have K6 : Aside0 (Kept W1 w6 (fun k => lo ≤ k ∧ k < hi)) := ⟨kept_then K5.out (kept_in hk (fun k hh => P5.out.2.2.2.2.1 k hh.symm))⟩
  clear hR hb hk P5 B5 K5 G5
  go_wp2_with fail
  go_ret
  exact ⟨rfl, ⟨_, _, _, _, _, P6.out, HE.out, marksSS_len _ _, marks_len _ _, marksB_len _ _, marksB_len _ _, marks93_len _ _⟩, B6.out, kept_then (Kept.of_below HBa.out _) K6.out⟩
end Go.Proofs.Ytoaimlpbliabdaa.QFnExactEventsOf
