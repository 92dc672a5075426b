/- markIntSS walked: the rows of a row of rows, none shared, are marked with rising numbers. No conditions but those of each lemma. -/
import Derived.Test.YtoaimlpbliabdaaPuA
namespace Go.Proofs.Ytoaimlpbliabdaa.QFnExactEventsOf
open Go.RowKit Go.Proofs.YtoaimlpbliabdaaW.PrintWords Go.Proofs.YtoaimlpbliabdaaW.PrintLast Go.Proofs.YtoaimlpbliabdaaW.PrintMore
set_option linter.unusedVariables false
set_option linter.unusedSimpArgs false

/-- How many numbers lie in rows. -/
def tl (l : List (List Int)) : Nat := (l.map List.length).sum
def marksSS (a : Int) : List (List Int) → List (List Int)
  | [] => []
  | r :: l => marks a r.length :: marksSS (a + (r.length : Int)) l
theorem tl_cons (r : List Int) (l : List (List Int)) : tl (r :: l) = r.length + tl l := by simp [tl]
theorem tl_append (l m : List (List Int)) : tl (l ++ m) = tl l + tl m := by simp [tl]
theorem tl_take_le (l : List (List Int)) (i : Nat) : tl (l.take i) ≤ tl l := by
  have := tl_append (l.take i) (l.drop i)
  rw [List.take_append_drop] at this
  omega
theorem tl_take (l : List (List Int)) {i : Nat} (h : i < l.length) : tl (l.take (i + 1)) = tl (l.take i) + l[i].length := by
  rw [List.take_succ_eq_append_getElem h, tl_append, tl_cons]
  simp [tl]
theorem len_le_tl {l : List (List Int)} {r : List Int} (h : r ∈ l) : r.length ≤ tl l := by
  induction l with
  | nil => cases h
  | cons x l ih =>
    rw [tl_cons]
    rcases List.mem_cons.1 h with rfl | h
    · omega
    · have := ih h; omega
theorem marksSS_len : ∀ (l : List (List Int)) (a : Int), (marksSS a l).length = l.length := by
  intro l
  induction l with
  | nil => intro a; rfl
  | cons r l ih => intro a; simp [marksSS, ih]
theorem marksSS_append : ∀ (l m : List (List Int)) (a : Int), marksSS a (l ++ m) = marksSS a l ++ marksSS (a + (tl l : Int)) m := by
  intro l
  induction l with
  | nil => intro m a; simp [marksSS, tl]
  | cons r l ih =>
    intro m a
    simp only [List.cons_append, marksSS, ih, tl_cons]
    rw [show a + (r.length : Int) + (tl l : Int) = a + ((r.length + tl l : Nat) : Int) by omega]
theorem marksSS_tl : ∀ (l : List (List Int)) (a : Int), tl (marksSS a l) = tl l := by
  intro l
  induction l with
  | nil => intro a; rfl
  | cons r l ih => intro a; simp only [marksSS, tl_cons, ih, marks_len]
def midSS (a : Int) (l : List (List Int)) (i : Nat) : List (List Int) := marksSS a (l.take i) ++ l.drop i
theorem midSS_len (a : Int) (l : List (List Int)) {i : Nat} (h : i ≤ l.length) : (midSS a l i).length = l.length := by
  unfold midSS
  rw [List.length_append, marksSS_len, List.length_take, List.length_drop]; omega
theorem midSS_get (a : Int) (l : List (List Int)) {i : Nat} (h : i < l.length) : (midSS a l i).getD i [] = l[i] := by
  unfold midSS
  rw [List.getD_eq_getElem?_getD, List.getElem?_append_right (by rw [marksSS_len, List.length_take]; omega), marksSS_len, List.length_take, List.getElem?_drop, List.getElem?_eq_getElem (by omega)]
  simp only [Option.getD_some]
  congr 1
  omega
theorem midSS_set (a : Int) (l : List (List Int)) {i : Nat} (h : i < l.length) : (midSS a l i).set i (marks (a + (tl (l.take i) : Int)) l[i].length) = midSS a l (i + 1) := by
  unfold midSS
  rw [List.take_succ_eq_append_getElem h, marksSS_append, List.drop_eq_getElem_cons h]
  rw [List.set_append_right _ _ (by rw [marksSS_len, List.length_take]; omega), marksSS_len, List.length_take, show i - min i l.length = 0 by omega, List.set_cons_zero]
  simp [marksSS]

set_option maxRecDepth 100000 in
set_option maxHeartbeats 2000000 in
theorem markIntSS_calls {w0 w : World} {P0 : Nat → Prop} {u : Value} {l : List (List Int)} {a : Int} (hB : Below w0.heap.size w0 w) (ho : Kd.S (Kd.slice 3 (Kd.int .i64)) 32 w w0.heap.size P0 u l) (h0 : 0 ≤ a) (h1 : a ≤ 100000000000) (ht : tl l ≤ 2000000) (hl : l.length ≤ 2000000) :
    Calls Try.prog 19 #[u, .int .i64 a] w fun e w' => e = .returned (.int .i64 (a + (tl l : Int))) ∧ Kd.S (Kd.slice 3 (Kd.int .i64)) 32 w' w0.heap.size P0 u (marksSS a l) ∧ Below w0.heap.size w0 w' ∧ Kept w w' P0 := by
  obtain ⟨A, c, rfl⟩ := Kd.S_slice ho
  have HO := Aside0.mk ho
  have HB := Aside0.mk hB
  have HT := Aside0.mk ht
  clear ho hB ht
  generalize hn : l.length = n at *
  have HN := Aside0.mk hn
  clear hn
  go_enter Try.func19, Try.ntmps19
  go_wp2_with fail
  go_loopg [1, 5] (n + 1) (fun kq v1 v5 w' => ∃ (i : Nat) (s : Int), v5 = .int .i64 (i : Int) ∧ v1 = .int .i64 s ∧ Aside0 (s = a + (tl (l.take i) : Int)) ∧ kq + i = n + 1 ∧ i ≤ n ∧ Aside0 (Kd.S (Kd.slice 3 (Kd.int .i64)) 32 w' w0.heap.size P0 (.slice A n c) (midSS a l i)) ∧ Aside0 (Below w0.heap.size w0 w') ∧ Aside0 (Kept w w' P0))
  case atStart => exact ⟨0, a, rfl, rfl, ⟨by simp [tl]⟩, by omega, by omega, by simpa [midSS, marksSS] using HO, HB, ⟨Kept.refl _ _⟩⟩
  case round =>
    obtain ⟨i, s, rfl, rfl, HS, hkq, hin, HOi, HBi, HKi⟩ := hrel
    have hs0 : 0 ≤ s := by have := HS.out; omega
    have hs1 : s ≤ 200000000000 := by have := HS.out; have := tl_take_le l i; have := HT.out; omega
    by_cases hlt : i < n
    · have hil : i < l.length := by have := HN.out; omega
      obtain ⟨gd, cap, he, hbase, hgl, cells, hcells⟩ := Kd.S_form HOi.out (by rw [midSS_len a l (by omega)]; omega)
      injection he with he1 he2 he3
      subst he1
      obtain ⟨oki, ce, hcl, hM, hcc, hfr, hoki, hH⟩ := Kd.S_elem HOi.out [] (i : Int) (by omega) (by omega)
      rw [Int.toNat_natCast, midSS_get a l hil] at hM
      obtain ⟨iv, rfl, hQ⟩ := hM
      have hQi : (Kd.int .i64).R 3 wr w0.heap.size oki iv l[i] := hQ
      obtain ⟨A1, c1, hiv⟩ := Kd.R_slice hQi
      have hcell : wr.cell? ⟨gd, i, none⟩ = some iv := by have := hcc 0 iv rfl; simpa [Kd.slice] using this
      have hQt := Kd.R_tight rfl hQi
      have hmk := markIntS_l0 l[i].length (by have := len_le_tl (List.getElem_mem hil); have := HT.out; omega) s hs0 (by omega) l[i].length 0 (l[i].length + 1) l[i] (by omega) (by omega) (by omega) rfl (by simp)
      have hmk' : laws_markIntS.f (l[i].length + 1) l[i] s = some (s + (l[i].length : Int), marks s l[i].length) := by
        unfold laws_markIntS.f
        simpa using hmk
      have HC := Aside0.mk (laws_markIntS.calls (l[i].length + 1) _ iv l[i] s _ _ w0 wr HBi.out hQt hmk')
      have HH := Aside0.mk hH
      have HQ := Aside0.mk hQi.1
      subst hiv
      have hj1 : (i : Int) < (n : Int) := by omega
      have hj0 : (0 : Int) ≤ (i : Int) := by omega
      clear he2 he3 hcl hcc hfr hoki hH hQ hQi hQt hmk hmk' hcells
      go_wp2_with fail
      refine HC.out.mono ?_
      rintro e w1 ⟨rfl, hR, hb, hk⟩
      have HR := Aside0.mk (Kd.R_tight rfl hR)
      have HB1 := Aside0.mk hb
      have HK1 := Aside0.mk hk
      clear hR hb hk HC
      go_wp2_with fail
      go_roundg (n - i)
      case measure => omega
      case rel =>
        refine ⟨i + 1, _, by go_num, rfl, ⟨?_⟩, by omega, by omega, ⟨?_⟩, HB1, ⟨?_⟩⟩
        · rw [tl_take l hil]; have := HS.out; omega
        · have hH1 := Kd.H_step HH.out (w1 := w1) (fun k _ hno hlk => HK1.out.2 k hlk (fun e => hno (HQ.out k e.symm)))
          have q := Kd.H_back hH1 (x' := marks s l[i].length) (okp := fun k => some k = (Value.slice A1 l[i].length c1).ownBlock) ⟨_, rfl, HR.out⟩ (fun k e => HQ.out k e.symm)
          rw [Int.toNat_natCast, show marks s l[i].length = marks (a + (tl (l.take i) : Int)) l[i].length by rw [← HS.out], midSS_set a l hil] at q
          exact q
        · have h2 := HKi.out
          refine ⟨Nat.le_trans h2.1 HK1.out.1, fun k hk hno => (HK1.out.2 k (Nat.lt_of_lt_of_le hk h2.1) ?_).trans (h2.2 k hk hno)⟩
          intro e
          exact hno (HH.out.1 k (HQ.out k e.symm))
    · obtain rfl : i = n := by omega
      have hfin : midSS a l i = marksSS a l := by
        unfold midSS
        rw [← HN.out, List.take_length, List.drop_length, List.append_nil]
      rw [hfin] at HOi
      have hs : s = a + (tl l : Int) := by
        have := HS.out
        rw [← HN.out, List.take_length] at this
        exact this
      have HSE := Aside0.mk hs
      clear hs hfin
      go_wp2_with fail
      go_ret
      exact ⟨by rw [← HSE.out]; rfl, HOi.out, HBi.out, HKi.out⟩
end Go.Proofs.Ytoaimlpbliabdaa.QFnExactEventsOf
