/- The decks' laws: marks, and their helpers in one form. No conditions but those of each lemma. -/
import Derived.Test.YtoaimlpbliabdaaDkC
namespace Go.Proofs.Ytoaimlpbliabdaa.DFnExactPushTo
open Go.RowKit Go.Proofs.YtoaimlpbliabdaaW.PrintWords Go.Proofs.YtoaimlpbliabdaaW.PrintLast Go.Proofs.YtoaimlpbliabdaaW.PrintMore
set_option linter.unusedVariables false
set_option linter.unusedSimpArgs false

set_option maxRecDepth 100000 in
set_option maxHeartbeats 2000000 in
theorem markIntSS_calls {w0 w : World} {P0 : Nat → Prop} {u : Value} {l : List (List Int)} {a : Int} (hB : Below w0.heap.size w0 w) (ho : Kd.S (Kd.slice 3 (Kd.int .i64)) 32 w w0.heap.size P0 u l) (h0 : 0 ≤ a) (h1 : a ≤ 100000000000) (ht : tl l ≤ 2000000) (hl : l.length ≤ 2000000) :
    Calls Try.prog 19 #[u, .int .i64 a] w fun e w' => e = .returned (.int .i64 (a + (tl l : Int))) ∧ Kd.S (Kd.slice 3 (Kd.int .i64)) 32 w' w0.heap.size P0 u (marksSS a l) ∧ Below w0.heap.size w0 w' ∧ Kept w w' P0 := by
  obtain ⟨A, c, rfl⟩ := Kd.S_slice ho
  have HO := Aside0.mk ho
  have HB := Aside0.mk hB
  have HT := Aside0.mk ht
  clear ho hB ht
  generalize hn : l.length = n at *
  have HN := Aside0.mk hn
  clear hn
  go_enter Try.func19, Try.ntmps19
  go_wp2_with fail
  go_loopg [1, 5] (n + 1) (fun kq v1 v5 w' => ∃ (i : Nat) (s : Int), v5 = .int .i64 (i : Int) ∧ v1 = .int .i64 s ∧ Aside0 (s = a + (tl (l.take i) : Int)) ∧ kq + i = n + 1 ∧ i ≤ n ∧ Aside0 (Kd.S (Kd.slice 3 (Kd.int .i64)) 32 w' w0.heap.size P0 (.slice A n c) (midSS a l i)) ∧ Aside0 (Below w0.heap.size w0 w') ∧ Aside0 (Kept w w' P0))
  case atStart => exact ⟨0, a, rfl, rfl, ⟨by simp [tl]⟩, by omega, by omega, by simpa [midSS, marksSS] using HO, HB, ⟨Kept.refl _ _⟩⟩
  case round =>
    obtain ⟨i, s, rfl, rfl, HS, hkq, hin, HOi, HBi, HKi⟩ := hrel
    have hs0 : 0 ≤ s := by have := HS.out; omega
    have hs1 : s ≤ 200000000000 := by have := HS.out; have := tl_take_le l i; have := HT.out; omega
    by_cases hlt : i < n
    · have hil : i < l.length := by have := HN.out; omega
      obtain ⟨gd, cap, he, hbase, hgl, cells, hcells⟩ := Kd.S_form HOi.out (by rw [midSS_len a l (by omega)]; omega)
      injection he with he1 he2 he3
      subst he1
      obtain ⟨oki, ce, hcl, hM, hcc, hfr, hoki, hH⟩ := Kd.S_elem HOi.out [] (i : Int) (by omega) (by omega)
      rw [Int.toNat_natCast, midSS_get a l hil] at hM
      obtain ⟨iv, rfl, hQ⟩ := hM
      have hQi : (Kd.int .i64).R 3 wr w0.heap.size oki iv l[i] := hQ
      obtain ⟨A1, c1, hiv⟩ := Kd.R_slice hQi
      have hcell : wr.cell? ⟨gd, i, none⟩ = some iv := by have := hcc 0 iv rfl; simpa [Kd.slice] using this
      have hQt := Kd.R_tight rfl hQi
      have hmk := markIntS_l0 l[i].length (by have := len_le_tl (List.getElem_mem hil); have := HT.out; omega) s hs0 (by omega) l[i].length 0 (l[i].length + 1) l[i] (by omega) (by omega) (by omega) rfl (by simp)
      have hmk' : laws_markIntS.f (l[i].length + 1) l[i] s = some (s + (l[i].length : Int), marks s l[i].length) := by
        unfold laws_markIntS.f
        simpa using hmk
      have HC := Aside0.mk (laws_markIntS.calls (l[i].length + 1) _ iv l[i] s _ _ w0 wr HBi.out hQt hmk')
      have HH := Aside0.mk hH
      have HQ := Aside0.mk hQi.1
      subst hiv
      have hj1 : (i : Int) < (n : Int) := by omega
      have hj0 : (0 : Int) ≤ (i : Int) := by omega
      clear he2 he3 hcl hcc hfr hoki hH hQ hQi hQt hmk hmk' hcells
      go_wp2_with fail
      refine HC.out.mono ?_
      rintro e w1 ⟨rfl, hR, hb, hk⟩
      have HR := Aside0.mk (Kd.R_tight rfl hR)
      have HB1 := Aside0.mk hb
      have HK1 := Aside0.mk hk
      clear hR hb hk HC
      go_wp2_with fail
      go_roundg (n - i)
      case measure => omega
      case rel =>
        refine ⟨i + 1, _, by go_num, rfl, ⟨?_⟩, by omega, by omega, ⟨?_⟩, HB1, ⟨?_⟩⟩
        · rw [tl_take l hil]; have := HS.out; omega
        · have hH1 := Kd.H_step HH.out (w1 := w1) (fun k _ hno hlk => HK1.out.2 k hlk (fun e => hno (HQ.out k e.symm)))
          have q := Kd.H_back hH1 (x' := marks s l[i].length) (okp := fun k => some k = (Value.slice A1 l[i].length c1).ownBlock) ⟨_, rfl, HR.out⟩ (fun k e => HQ.out k e.symm)
          rw [Int.toNat_natCast, show marks s l[i].length = marks (a + (tl (l.take i) : Int)) l[i].length by rw [← HS.out], midSS_set a l hil] at q
          exact q
        · have h2 := HKi.out
          refine ⟨Nat.le_trans h2.1 HK1.out.1, fun k hk hno => (HK1.out.2 k (Nat.lt_of_lt_of_le hk h2.1) ?_).trans (h2.2 k hk hno)⟩
          intro e
          exact hno (HH.out.1 k (HQ.out k e.symm))
    · obtain rfl : i = n := by omega
      have hfin : midSS a l i = marksSS a l := by
        unfold midSS
        rw [← HN.out, List.take_length, List.drop_length, List.append_nil]
      rw [hfin] at HOi
      have hs : s = a + (tl l : Int) := by
        have := HS.out
        rw [← HN.out, List.take_length] at this
        exact this
      have HSE := Aside0.mk hs
      clear hs hfin
      go_wp2_with fail
      go_ret
      exact ⟨by rw [← HSE.out]; rfl, HOi.out, HBi.out, HKi.out⟩
theorem kept_in {w w1 : World} {S S' : Nat → Prop} (hk : Kept w w1 S) (h : ∀ k, S k → S' k) : Kept w w1 S' := ⟨hk.1, fun i hi hn => hk.2 i hi (fun hs => hn (h i hs))⟩
theorem kept_then {w w1 w2 : World} {S : Nat → Prop} (h1 : Kept w w1 S) (h2 : Kept w1 w2 S) : Kept w w2 S := ⟨Nat.le_trans h1.1 h2.1, fun i hi hn => (h2.2 i (Nat.lt_of_lt_of_le hi h1.1) hn).trans (h1.2 i hi hn)⟩
/-- Rows of their own whose blocks lie from lo to hi. -/
def SX (lo hi base : Nat) (w : World) (v : Value) (xs : List (List Int)) : Prop := Kd.S (Kd.slice 3 (Kd.int .i64)) 32 w base (fun k => lo ≤ k ∧ k < hi) v xs
section
variable {lo hi base : Nat} {w w1 : World} {v : Value} {xs : List (List Int)}
theorem SX.step (h : SX lo hi base w v xs) (hm : ∀ k, lo ≤ k → k < hi → w1.heap[k]? = w.heap[k]?) : SX lo hi base w1 v xs := Kd.S_move h (fun k hk => hm k hk.1 hk.2)
theorem SX.below (h : SX lo hi base w v xs) (hb : Below w.heap.size w w1) (hh : hi ≤ w.heap.size) : SX lo hi base w1 v xs := h.step (fun k _ hk => hb.block k (by omega))
theorem SX.kept {S : Nat → Prop} (h : SX lo hi base w v xs) (hk : Kept w w1 S) (hh : hi ≤ w.heap.size) (hS : ∀ k, S k → k < lo ∨ hi ≤ k) : SX lo hi base w1 v xs := h.step (fun k h1 h2 => hk.2 k (by omega) (fun hs => by have := hS k hs; omega))
theorem SX.of {W : World} (h : Kd.S (Kd.slice 3 (Kd.int .i64)) 32 w W.heap.size (fun _ => True) v xs) (hb : base ≤ W.heap.size) : SX W.heap.size w.heap.size base w v xs := Kd.S_lower (Kd.S_mono (Kd.S_bound h) (fun _ hk => ⟨hk.2.1, hk.2.2.1⟩)) hb
end
theorem sz_c {w : World} {A : Option Addr} {c : Nat} {d : List (List Int)} (hr : Kd.C (Kd.slice 3 (Kd.int .i64)) w A d.length d) (hc : d.length ≤ c) (hl : d.length ≤ 9223372036854775807) (hrl : ∀ r ∈ d, r.length ≤ 9223372036854775807) (m : Int) (hm : m = (if 1048576 < ((d.length + tl d : Nat) : Int) then -1 else 1048576 - ((d.length + tl d : Nat) : Int))) :
    Calls Try.prog 14 #[.slice A d.length c, .int .i64 1048576] w fun e w' => e = .returned (.int .i64 m) ∧ Below w.heap.size w w' := by
  obtain ⟨k, hk⟩ := Ev.rounds (szIntSS_ev d hl hrl)
  rw [← hm] at hk
  refine (laws_szIntSS.calls k A c d _ _ w hr hc hk).mono ?_
  rintro e w' ⟨rfl, hb⟩
  exact ⟨rfl, hb.below⟩
theorem toSS_c {w : World} {A : Option Addr} {c : Nat} {l : List (List Int)} (hr : Kd.C (Kd.slice 3 (Kd.int .i64)) w A l.length l) (hc : l.length ≤ c) (hl : l.length ≤ 1048576) (ht : tl l ≤ 1048576) :
    Calls Try.prog 16 #[.slice A l.length c] w fun e w' => ∃ A' c', e = .returned (.slice A' l.length c') ∧ l.length ≤ c' ∧ Kd.S (Kd.slice 3 (Kd.int .i64)) 32 w' w.heap.size (fun k => w.heap.size ≤ k ∧ k < w'.heap.size) (.slice A' l.length c') l ∧ Below w.heap.size w w' := by
  refine (toIntSS_new hr hc hl ht).mono ?_
  rintro e w' ⟨v, rfl, hS, hb⟩
  obtain ⟨A', c', rfl, hc', _⟩ := Kd.S_reads hS
  exact ⟨A', c', rfl, hc', hS, hb⟩
theorem eqIntSS_l0' (l : List (List Int)) (hn : l.length ≤ 2000000) (ht : tl l ≤ 2000000) : ∀ (d i k : Nat), i ≤ l.length → l.length - i = d → d + tl l + 1 < k → laws_eqIntSS.l0 k l l (i : Int) = some true := by
  intro d
  induction d with
  | zero =>
    intro i k hi hd hk
    obtain ⟨k, rfl⟩ : ∃ m, k = m + 1 := ⟨k - 1, by omega⟩
    simp only [laws_eqIntSS.l0]
    rw [if_neg (by omega)]
  | succ d ih =>
    intro i k hi hd hk
    obtain ⟨k, rfl⟩ : ∃ m, k = m + 1 := ⟨k - 1, by omega⟩
    have hlt : i < l.length := by omega
    have hr := len_le_tl (List.getElem_mem hlt)
    have he : laws_eqIntS.f k l[i] l[i] = some true := by
      unfold laws_eqIntS.f
      rw [if_pos rfl]
      exact eqIntS_l0 l[i] (by omega) l[i].length 0 k (by omega) (by omega) (by omega)
    simp only [laws_eqIntSS.l0]
    rw [if_pos (by omega), if_pos (by omega), if_pos (by omega), rdL_at hlt, he, wrap_up hlt hn]
    simp only [Option.bind_some, if_true]
    exact ih (i + 1) k (by omega) (by omega) (by omega)
theorem eqSS_c {w : World} {A B : Option Addr} {n n' c c' : Nat} {l : List (List Int)} {lo hi base lo' hi' base' : Nat} (h : SX lo hi base w (.slice A n c) l) (h' : SX lo' hi' base' w (.slice B n' c') l) (hl : l.length ≤ 1048576) (ht : tl l ≤ 1048577) :
    Calls Try.prog 18 #[.slice A n c, .slice B n' c'] w fun e w' => e = .returned (.bool true) ∧ Below w.heap.size w w' := by
  obtain ⟨rfl, h1, C1⟩ := Kd.S_reads' h
  obtain ⟨rfl, h2, C2⟩ := Kd.S_reads' h'
  have he : Ev (fun k => laws_eqIntSS.f k l l) true := by
    refine ⟨l.length + tl l + 3, fun k hk => ?_⟩
    show laws_eqIntSS.f k l l = some true
    unfold laws_eqIntSS.f
    rw [if_pos rfl]
    exact eqIntSS_l0' l (by omega) (by omega) l.length 0 k (by omega) (by omega) (by omega)
  obtain ⟨k, hk⟩ := Ev.rounds he
  refine (laws_eqIntSS.calls k A c l B c' l _ w C1 h1 C2 h2 hk).mono ?_
  rintro e w' ⟨rfl, hb⟩
  exact ⟨rfl, hb.below⟩
theorem heldSS_c {w : World} {A : Option Addr} {n c : Nat} {l : List (List Int)} {lo hi base : Nat} {m : Int} (h : SX lo hi base w (.slice A n c) (marksSS 1 l)) (hl : l.length ≤ 2000000) (ht : tl l ≤ 2000000) (hm : m = 1 + (tl l : Int)) :
    Calls Try.prog 20 #[.slice A n c, .int .i64 1] w fun e w' => e = .returned (.int .i64 m) ∧ Below w.heap.size w w' := by
  obtain ⟨rfl, h1, C1⟩ := Kd.S_reads' h
  obtain ⟨k, hk⟩ := Ev.rounds (heldIntSS_ev (l := l) hl ht (a := 1) (by omega) (by omega))
  refine (laws_heldIntSS.calls k A c _ 1 _ w C1 h1 hk).mono ?_
  rintro e w' ⟨rfl, hb⟩
  exact ⟨by rw [hm], hb.below⟩
theorem markSS_c {w0 w : World} {A : Option Addr} {n c : Nat} {l : List (List Int)} {lo hi : Nat} {m : Int} (hB : Below w0.heap.size w0 w) (h : SX lo hi w0.heap.size w (.slice A n c) l) (hl : l.length ≤ 2000000) (ht : tl l ≤ 2000000) (hm : m = 1 + (tl l : Int)) :
    Calls Try.prog 19 #[.slice A n c, .int .i64 1] w fun e w' => e = .returned (.int .i64 m) ∧ SX lo hi w0.heap.size w' (.slice A n c) (marksSS 1 l) ∧ Below w0.heap.size w0 w' ∧ Kept w w' (fun k => lo ≤ k ∧ k < hi) := by
  refine (markIntSS_calls hB h (by omega) (by omega) ht hl).mono ?_
  rintro e w' ⟨rfl, hS, hb, hk⟩
  exact ⟨by rw [hm], hS, hb, hk⟩
end Go.Proofs.Ytoaimlpbliabdaa.DFnExactPushTo
