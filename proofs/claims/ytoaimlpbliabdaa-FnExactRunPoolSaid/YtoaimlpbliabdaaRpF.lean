/- What the pool's law needs of its helpers, in one form. No conditions but those of each lemma. -/
import Derived.Test.YtoaimlpbliabdaaRpE
namespace Go.Proofs.Ytoaimlpbliabdaa.QFnExactEventsOf
open Go.RowKit Go.Proofs.YtoaimlpbliabdaaW.PrintWords Go.Proofs.YtoaimlpbliabdaaW.PrintLast Go.Proofs.YtoaimlpbliabdaaW.PrintMore
set_option linter.unusedVariables false
set_option linter.unusedSimpArgs false

theorem toInt_new {w : World} {A : Option Addr} {c : Nat} {l : List Int} (hr : Kd.C (Kd.int .i64) w A l.length l) (hc : l.length ≤ c) (hl : l.length ≤ 1048576) :
    Calls Try.prog 24 #[.slice A l.length c] w fun e w' => ∃ A' c', e = .returned (.slice A' l.length c') ∧ Kd.R (Kd.int .i64) 3 w' w.heap.size (fun k => w.heap.size ≤ k ∧ k < w'.heap.size) (.slice A' l.length c') l ∧ l.length ≤ c' ∧ Below w.heap.size w w' := by
  obtain ⟨k, hk⟩ := Ev.rounds (toIntS_ev hl)
  refine (laws_toIntS.calls k A c l _ w hr hc hk).mono ?_
  rintro e w' ⟨v, rfl, hR, hb⟩
  obtain ⟨A', c', rfl, hl', _⟩ := Kd.R_reads hR
  exact ⟨A', c', rfl, Kd.R_mono (Kd.R_bound hR) (fun k hk => ⟨hk.2.1, hk.2.2.1⟩), hl', hb⟩
theorem eqInt_same {w : World} {A B : Option Addr} {c d : Nat} {l : List Int} (hr : Kd.C (Kd.int .i64) w A l.length l) (hc : l.length ≤ c) (hr' : Kd.C (Kd.int .i64) w B l.length l) (hd : l.length ≤ d) (hl : l.length ≤ 1048576) :
    Calls Try.prog 26 #[.slice A l.length c, .slice B l.length d] w fun e w' => e = .returned (.bool true) ∧ Below w.heap.size w w' := by
  obtain ⟨k, hk⟩ := Ev.rounds (eqIntS_ev hl)
  refine (laws_eqIntS.calls k A c l B d l _ w hr hc hr' hd hk).mono ?_
  rintro e w' ⟨rfl, hb⟩
  exact ⟨rfl, hb.below⟩
theorem eqPool_ev {r1 : List (List Int)} {r2 : List Int} {r3 r4 : List Bool} {r5 : List S93} (r6 : Int) (hs : Small r1 r2 r3 r4 r5) : Ev (fun k => laws_eqPool.f k r1 r2 r3 r4 r5 r6 r1 r2 r3 r4 r5 r6) true := by
  unfold laws_eqPool.f
  refine Ev.bind (eqIntSS_ev (by have := hs.l1; omega) (by have := hs.t1; omega)) ?_
  simp only [if_true]
  refine Ev.bind (eqIntS_ev (by have := hs.l2; omega)) ?_
  simp only [if_true]
  refine Ev.bind (eqBoolS_ev (by have := hs.l3; omega)) ?_
  simp only [if_true]
  refine Ev.bind (eqBoolS_ev (by have := hs.l4; omega)) ?_
  simp only [if_true]
  refine Ev.bind (eqEventS_ev (by have := hs.l5; omega)) ?_
  simp only [if_true]
  exact Ev.now _
theorem PoolX.all {D : Kd (List Int)} (hD : ∀ w A n xs, D.C w A n xs → (Kd.slice 3 (Kd.int .i64)).C w A n xs) {lo hi base : Nat} {w : World} {A0 A1 A2 A3 A4 : Option Addr} {n0 n1 n2 n3 n4 c0 c1 c2 c3 c4 : Nat} {r1 : List (List Int)} {r2 : List Int} {r3 r4 : List Bool} {r5 : List S93} (h : PoolX D lo hi base w (.slice A0 n0 c0) (.slice A1 n1 c1) (.slice A2 n2 c2) (.slice A3 n3 c3) (.slice A4 n4 c4) r1 r2 r3 r4 r5) :
    (n0 = r1.length ∧ n0 ≤ c0 ∧ (Kd.slice 3 (Kd.int .i64)).C w A0 r1.length r1) ∧ (n1 = r2.length ∧ n1 ≤ c1 ∧ (Kd.int .i64).C w A1 r2.length r2) ∧ (n2 = r3.length ∧ n2 ≤ c2 ∧ Kd.bool.C w A2 r3.length r3) ∧ (n3 = r4.length ∧ n3 ≤ c3 ∧ Kd.bool.C w A3 r4.length r4) ∧ (n4 = r5.length ∧ n4 ≤ c4 ∧ k93.C w A4 r5.length r5) := by
  obtain ⟨e0, l0, h0⟩ := Kd.S_reads' h.1
  exact ⟨⟨e0, l0, hD _ _ _ _ h0⟩, Kd.R_reads' h.2.1, Kd.R_reads' h.2.2.1, Kd.R_reads' h.2.2.2.1, Kd.R_reads' h.2.2.2.2⟩
theorem sliceQ_C : ∀ w A n xs, sliceQ.C w A n xs → (Kd.slice 3 (Kd.int .i64)).C w A n xs := fun _ _ _ _ h => h
theorem eqPool_same {D E : Kd (List Int)} (hD : ∀ w A n xs, D.C w A n xs → (Kd.slice 3 (Kd.int .i64)).C w A n xs) (hE : ∀ w A n xs, E.C w A n xs → (Kd.slice 3 (Kd.int .i64)).C w A n xs) {lo hi base lo' hi' base' : Nat} {w : World} {A0 A1 A2 A3 A4 B0 B1 B2 B3 B4 : Option Addr} {c0 c1 c2 c3 c4 d0 d1 d2 d3 d4 : Nat} {r1 : List (List Int)} {r2 : List Int} {r3 r4 : List Bool} {r5 : List S93} {r6 : Int}
    (h : PoolX D lo hi base w (.slice A0 r1.length c0) (.slice A1 r2.length c1) (.slice A2 r3.length c2) (.slice A3 r4.length c3) (.slice A4 r5.length c4) r1 r2 r3 r4 r5) (h' : PoolX E lo' hi' base' w (.slice B0 r1.length d0) (.slice B1 r2.length d1) (.slice B2 r3.length d2) (.slice B3 r4.length d3) (.slice B4 r5.length d4) r1 r2 r3 r4 r5) (hs : Small r1 r2 r3 r4 r5) :
    Calls Try.prog 38 #[.agg #[.slice A0 r1.length c0, .slice A1 r2.length c1, .slice A2 r3.length c2, .slice A3 r4.length c3, .slice A4 r5.length c4, .int .i64 r6], .agg #[.slice B0 r1.length d0, .slice B1 r2.length d1, .slice B2 r3.length d2, .slice B3 r4.length d3, .slice B4 r5.length d4, .int .i64 r6]] w fun e w' => e = .returned (.bool true) ∧ Below w.heap.size w w' := by
  obtain ⟨⟨_, a0, f0⟩, ⟨_, a1, f1⟩, ⟨_, a2, f2⟩, ⟨_, a3, f3⟩, ⟨_, a4, f4⟩⟩ := h.all hD
  obtain ⟨⟨_, b0, g0⟩, ⟨_, b1, g1⟩, ⟨_, b2, g2⟩, ⟨_, b3, g3⟩, ⟨_, b4, g4⟩⟩ := h'.all hE
  obtain ⟨k, hk⟩ := Ev.rounds (eqPool_ev r6 hs)
  exact laws_eqPool.calls k A0 c0 r1 A1 c1 r2 A2 c2 r3 A3 c3 r4 A4 c4 r5 r6 B0 d0 r1 B1 d1 r2 B2 d2 r3 B3 d3 r4 B4 d4 r5 r6 true w f0 a0 f1 a1 f2 a2 f3 a3 f4 a4 g0 b0 g1 b1 g2 b2 g3 b3 g4 b4 hk
theorem heldPool_same {lo hi base : Nat} {w : World} {A0 A1 A2 A3 A4 : Option Addr} {n0 n1 n2 n3 n4 c0 c1 c2 c3 c4 : Nat} {r1 : List (List Int)} {r2 : List Int} {r3 r4 : List Bool} {r5 : List S93} {r6 m : Int}
    (h : PoolX (Kd.slice 3 (Kd.int .i64)) lo hi base w (.slice A0 n0 c0) (.slice A1 n1 c1) (.slice A2 n2 c2) (.slice A3 n3 c3) (.slice A4 n4 c4) r1 r2 r3 r4 r5) (hE : Ev (fun k => laws_heldPool.f k r1 r2 r3 r4 r5 r6 1) m) :
    Calls Try.prog 40 #[.agg #[.slice A0 n0 c0, .slice A1 n1 c1, .slice A2 n2 c2, .slice A3 n3 c3, .slice A4 n4 c4, .int .i64 r6], .int .i64 1] w fun e w' => e = .returned (.int .i64 m) ∧ Below w.heap.size w w' := by
  obtain ⟨⟨rfl, a0, f0⟩, ⟨rfl, a1, f1⟩, ⟨rfl, a2, f2⟩, ⟨rfl, a3, f3⟩, ⟨rfl, a4, f4⟩⟩ := h.all (fun _ _ _ _ h => h)
  obtain ⟨k, hk⟩ := Ev.rounds hE
  exact laws_heldPool.calls k A0 c0 r1 A1 c1 r2 A2 c2 r3 A3 c3 r4 A4 c4 r5 r6 1 m w f0 a0 f1 a1 f2 a2 f3 a3 f4 a4 hk

/-- What stands through the law: the reference's pool and the program's, each in its variable, in blocks apart. -/
structure LG (w W : World) (ls hs b1 gl gh b2 : Nat) (s0 s1 s2 s3 s4 g0 g1 g2 g3 g4 : Value) (r1 : List (List Int)) (r2 : List Int) (r3 r4 : List Bool) (r5 : List S93) (r6 : Int) (p1 : List (List Int)) (p2 : List Int) (p3 p4 : List Bool) (p5 : List S93) : Prop where
  bel : Below w.heap.size w W
  sp : PoolX sliceQ ls hs w.heap.size W s0 s1 s2 s3 s4 r1 r2 r3 r4 r5
  k1 : W.heap[b1]? = some (.cells #[s0, s1, s2, s3, s4, .int .i64 r6] 48 (0, 0))
  gp : PoolX (Kd.slice 3 (Kd.int .i64)) gl gh w.heap.size W g0 g1 g2 g3 g4 p1 p2 p3 p4 p5
  k2 : W.heap[b2]? = some (.cells #[g0, g1, g2, g3, g4, .int .i64 r6] 48 (0, 0))
  o1 : hs ≤ b1
  o2 : b1 < gl
  o3 : gl ≤ gh
  o4 : gh ≤ b2
section
variable {w W W' : World} {ls hs b1 gl gh b2 : Nat} {s0 s1 s2 s3 s4 g0 g1 g2 g3 g4 : Value} {r1 : List (List Int)} {r2 : List Int} {r3 r4 : List Bool} {r5 : List S93} {r6 : Int} {p1 q1 : List (List Int)} {p2 q2 : List Int} {p3 p4 q3 q4 : List Bool} {p5 q5 : List S93}
theorem LG.lt2 (h : LG w W ls hs b1 gl gh b2 s0 s1 s2 s3 s4 g0 g1 g2 g3 g4 r1 r2 r3 r4 r5 r6 p1 p2 p3 p4 p5) : b2 < W.heap.size := blk_lt h.k2
theorem LG.below (h : LG w W ls hs b1 gl gh b2 s0 s1 s2 s3 s4 g0 g1 g2 g3 g4 r1 r2 r3 r4 r5 r6 p1 p2 p3 p4 p5) (hb : Below W.heap.size W W') : LG w W' ls hs b1 gl gh b2 s0 s1 s2 s3 s4 g0 g1 g2 g3 g4 r1 r2 r3 r4 r5 r6 p1 p2 p3 p4 p5 :=
  have h2 := h.lt2
  have o1 := h.o1
  have o2 := h.o2
  have o3 := h.o3
  have o4 := h.o4
  ⟨below_then h.bel h.bel.size hb, h.sp.below hb (by omega), blk_below h.k1 hb, h.gp.below hb (by omega), blk_below h.k2 hb, o1, o2, o3, o4⟩
/-- What lies between the two is written. -/
theorem LG.between {S : Nat → Prop} (h : LG w W ls hs b1 gl gh b2 s0 s1 s2 s3 s4 g0 g1 g2 g3 g4 r1 r2 r3 r4 r5 r6 p1 p2 p3 p4 p5) (hk : Kept W W' S) (hb : Below w.heap.size w W') (hS : ∀ k, S k → b1 < k ∧ k < gl) : LG w W' ls hs b1 gl gh b2 s0 s1 s2 s3 s4 g0 g1 g2 g3 g4 r1 r2 r3 r4 r5 r6 p1 p2 p3 p4 p5 :=
  have h2 := h.lt2
  have o1 := h.o1
  have o2 := h.o2
  have o3 := h.o3
  have o4 := h.o4
  ⟨hb, h.sp.kept hk (by omega) (fun k hs => by have := hS k hs; omega), (hk.2 b1 (by omega) (fun hs => by have := hS _ hs; omega)).trans h.k1, h.gp.kept hk (by omega) (fun k hs => by have := hS k hs; omega), (hk.2 b2 (by omega) (fun hs => by have := hS _ hs; omega)).trans h.k2, o1, o2, o3, o4⟩
/-- The program's pool is written. -/
theorem LG.marked (h : LG w W ls hs b1 gl gh b2 s0 s1 s2 s3 s4 g0 g1 g2 g3 g4 r1 r2 r3 r4 r5 r6 p1 p2 p3 p4 p5) (hk : Kept W W' (fun k => gl ≤ k ∧ k < gh)) (hb : Below w.heap.size w W') (hg : PoolX (Kd.slice 3 (Kd.int .i64)) gl gh w.heap.size W' g0 g1 g2 g3 g4 q1 q2 q3 q4 q5) : LG w W' ls hs b1 gl gh b2 s0 s1 s2 s3 s4 g0 g1 g2 g3 g4 r1 r2 r3 r4 r5 r6 q1 q2 q3 q4 q5 :=
  have h2 := h.lt2
  have o1 := h.o1
  have o2 := h.o2
  have o3 := h.o3
  have o4 := h.o4
  ⟨hb, h.sp.kept hk (by omega) (fun k hs => by omega), (hk.2 b1 (by omega) (fun hs => by omega)).trans h.k1, hg, (hk.2 b2 (by omega) (fun hs => by omega)).trans h.k2, o1, o2, o3, o4⟩
end
end Go.Proofs.Ytoaimlpbliabdaa.QFnExactEventsOf
