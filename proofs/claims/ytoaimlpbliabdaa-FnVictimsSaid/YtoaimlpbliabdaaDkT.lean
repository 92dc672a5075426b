/- TasksIn walked on both sides, and the law's helpers at []int in one form. No conditions but those of each lemma. -/
import Derived.Test.YtoaimlpbliabdaaDkE
import Derived.Test.YtoaimlpbliabdaaDkD
import Derived.Test.YtoaimlpbliabdaaDkV
namespace Go.Proofs.Ytoaimlpbliabdaa.DFnExactPushTo
open Go.RowKit Go.Proofs.YtoaimlpbliabdaaW.PrintWords Go.Proofs.YtoaimlpbliabdaaW.PrintLast Go.Proofs.YtoaimlpbliabdaaW.PrintMore
set_option linter.unusedVariables false
set_option linter.unusedSimpArgs false

theorem allL_sort {d : List (List Int)} (h : d.flatten.Nodup) : d.flatten.mergeSort (fun x y => decide (x ≤ y)) = allL d := by
  have hs : (allL d).Pairwise (· < ·) := putsL_sorted d.flatten [] List.Pairwise.nil
  have hp : (allL d).Perm d.flatten := by
    rw [List.perm_ext_iff_of_nodup (hs.imp (fun h => by omega)) h]
    intro a; exact allL_mem
  refine List.Perm.eq_of_pairwise (le := fun x y => x ≤ y) (fun a b _ _ h1 h2 => by omega) ?_ (hs.imp (fun h => by omega)) ((List.mergeSort_perm _ _).trans hp.symm)
  have := List.pairwise_mergeSort (le := fun x y : Int => decide (x ≤ y)) (fun a b c h1 h2 => by simp only [decide_eq_true_eq] at *; omega) (fun a b => by simp only [Bool.or_eq_true, decide_eq_true_eq]; omega) d.flatten
  exact this.imp (fun h => by simpa using h)
theorem SvIntsMono {n m : Nat} {W : World} {sv : Value} {zs : List Int} (h : SvInts n W sv zs) (hn : n ≤ m) : SvInts m W sv zs := by
  rcases h with h | ⟨b, off, cap, e, hb, hc⟩
  · exact .inl h
  · exact .inr ⟨b, off, cap, e, by omega, hc⟩
/-- What TasksIn leaves. -/
def TaskOut (w : World) (r1 : List Int) (r2 : Bool) (e : Ending) (w' : World) : Prop := ∃ v, e = .returned (.tuple #[v, .bool r2]) ∧ Kd.R (Kd.int .i64) 3 w' w.heap.size (fun _ => True) v r1 ∧ Below w.heap.size w w'
theorem TaskOut.none {w w' : World} (hb : Below w.heap.size w w') : TaskOut w [] false (.returned (.tuple #[.slice none 0 0, .bool false])) w' := ⟨_, rfl, Kd.R_nil _ _ _ _ _, hb⟩
theorem sgood_c {w : World} {A : Option Addr} {c : Nat} {d : List (List Int)} (hr : Kd.C (Kd.slice 3 (Kd.int .i64)) w A d.length d) (hc : d.length ≤ c) (hl : d.length ≤ 2000000) (ht : tl d ≤ 1048576) :
    Calls Try.prog 104 #[.slice A d.length c] w fun e w' => e = .returned (.bool (goodB d)) ∧ Below w.heap.size w w' := by
  obtain ⟨k, hk⟩ := Ev.rounds (sgood_ev hl ht)
  exact spec_l12Good.calls k A c d _ w hr hc hk
theorem concat_c {w : World} {A : Option Addr} {c : Nat} {d : List (List Int)} (hr : Kd.C (Kd.slice 3 (Kd.int .i64)) w A d.length d) (hc : d.length ≤ c) (hl : d.length ≤ 2000000) (ht : tl d ≤ 1048576) :
    Calls Try.prog 107 #[.slice A d.length c] w fun e w' => ∃ A' c', e = .returned (.slice A' d.flatten.length c') ∧ SvInts w'.heap.size w' (.slice A' d.flatten.length c') d.flatten ∧ Below w.heap.size w w' := by
  obtain ⟨k, hk⟩ := Ev.rounds (concat_ev hl (by omega))
  refine (slices_Concat_int_int.calls k A c d _ w hr hc hk).mono ?_
  rintro e w' ⟨v, rfl, hR, hb⟩
  obtain ⟨A', c', rfl, hl', hC⟩ := Kd.R_reads hR
  refine ⟨A', c', rfl, ?_, hb⟩
  by_cases h0 : d.flatten.length = 0
  · have he : d.flatten = [] := List.eq_nil_of_length_eq_zero h0
    rw [he] at hR ⊢
    cases A' with
    | none =>
      obtain ⟨inner, ho⟩ := Kd.R_own hR
      rcases ho.2 with ⟨e, _⟩ | ⟨g, cap, cur, e, _⟩
      · exact .inl ⟨e, rfl⟩
      · injection e with e1; cases e1
    | some ad =>
      obtain ⟨inner, ho⟩ := Kd.R_own hR
      rcases ho.2 with ⟨e, _⟩ | ⟨g, cap, cur, e, _, hg, _⟩
      · injection e with e1; cases e1
      · injection e with e1 _ e3
        injection e1 with e1
        subst e1
        exact .inr ⟨g, 0, c', rfl, (Array.getElem?_eq_some_iff.1 hg).1, fun j hj => by simp at hj⟩
  · obtain ⟨g, cap, e, hg1, hg2, -⟩ := Kd.R_form hR (by omega)
    injection e with e1 _ e3
    subst e1
    refine .inr ⟨g, 0, c', rfl, hg2, fun j hj => ?_⟩
    obtain ⟨ad, e, h⟩ := Kd.at_int hC (j : Int) (by omega) (by omega)
    injection e with e
    subst e
    rw [Int.toNat_natCast, add_at] at h
    rw [h]
    unfold rd
    rw [Int.toNat_natCast, List.getD_eq_getElem?_getD]
set_option maxRecDepth 100000 in
set_option maxHeartbeats 2000000 in
theorem stask_c {w : World} {A : Option Addr} {c : Nat} {d : List (List Int)} (hr : Kd.C (Kd.slice 3 (Kd.int .i64)) w A d.length d) (hc : d.length ≤ c) (hl : d.length ≤ 1048576) (ht : tl d ≤ 1048576) :
    Calls Try.prog 55 #[.slice A d.length c] w (TaskOut w (if goodB d = true then allL d else []) (goodB d)) := by
  have HG := Aside0.mk (sgood_c hr hc (by omega) ht)
  generalize hg : goodB d = g at *
  have HAV : Aside0 (∀ (W : World), Below w.heap.size w W → Calls Try.prog 81 #[.slice A d.length c] W fun e w' => ∃ v, e = .returned v ∧ Kd.R (Kd.int .i64) 3 w' W.heap.size (fun _ => True) v (allL d) ∧ Below W.heap.size W w') := ⟨fun W hb => by
    obtain ⟨k, hk⟩ := Ev.rounds (all_ev (d := d) (by omega) ht)
    exact spec_l12All.calls k A c d _ W (Kd.C_below hr hb) hc hk⟩
  generalize d.length = n at *
  clear hr hc hl ht hg
  cases g with
  | false =>
    go_enter Try.func55, Try.ntmps55
    go_wp2_with fail
    refine HG.out.mono ?_
    rintro e w1 ⟨rfl, hb⟩
    have HB1 := Aside0.mk hb
    clear hb HG HAV
    go_wp2_with fail
    go_ret2
    exact TaskOut.none HB1.out
  | true =>
    show Calls Try.prog 55 _ w (TaskOut w (allL d) true)
    go_enter Try.func55, Try.ntmps55
    go_wp2_with fail
    refine HG.out.mono ?_
    rintro e w1 ⟨rfl, hb⟩
    have HB1 := Aside0.mk hb
    clear hb HG
    go_wp2_with fail
    refine (HAV.out w1 HB1.out).mono ?_
    rintro e w2 ⟨v, rfl, hR, hb⟩
    have HR := Aside0.mk (Kd.R_lower hR HB1.out.size)
    have HB2 := Aside0.mk (below_then HB1.out HB1.out.size hb)
    clear hR hb HAV HB1
    go_wp2_with fail
    go_ret2
    exact ⟨v, rfl, HR.out, HB2.out⟩
set_option maxRecDepth 100000 in
set_option maxHeartbeats 2000000 in
theorem itask_c {w : World} {A : Option Addr} {c : Nat} {d : List (List Int)} (hr : Kd.C (Kd.slice 3 (Kd.int .i64)) w A d.length d) (hc : d.length ≤ c) (hl : d.length ≤ 1048576) (ht : tl d ≤ 1048576) :
    Calls Try.prog 56 #[.slice A d.length c] w (TaskOut w (if goodB d = true then allL d else []) (goodB d)) := by
  have HG := Aside0.mk (good_c hr hc (by omega) (by omega))
  have HCC := Aside0.mk (fun (W : World) (hb : Below w.heap.size w W) => concat_c (Kd.C_below hr hb) hc (by omega) ht)
  have hfl : d.flatten.length ≤ 1048576 := by rw [← tl_flatten]; exact ht
  have hsort : goodB d = true → d.flatten.mergeSort (fun x y => decide (x ≤ y)) = allL d := fun h => allL_sort (goodB_iff.1 h).2.2.2.2
  generalize hg : goodB d = g at *
  generalize d.length = n at *
  generalize allL d = al at *
  generalize d.flatten = f at *
  have HFL := Aside0.mk hfl
  clear hr hc hl ht hg hfl
  cases g with
  | false =>
    clear hsort
    go_enter Try.func56, Try.ntmps56
    go_wp2_with fail
    refine HG.out.mono ?_
    rintro e w1 ⟨rfl, hb⟩
    have HB1 := Aside0.mk hb
    clear hb HG HCC
    go_wp2_with fail
    go_ret2
    exact TaskOut.none HB1.out
  | true =>
    show Calls Try.prog 56 _ w (TaskOut w al true)
    have HSO := Aside0.mk (hsort rfl)
    clear hsort
    go_enter Try.func56, Try.ntmps56
    go_wp2_with fail
    refine HG.out.mono ?_
    rintro e w1 ⟨rfl, hb⟩
    have HB1 := Aside0.mk hb
    clear hb HG
    go_wp2_with fail
    refine (HCC.out w1 HB1.out).mono ?_
    rintro e w2 ⟨A', c', rfl, hI, hb⟩
    have HB2 := Aside0.mk (below_then HB1.out HB1.out.size hb)
    have HI := Aside0.mk hI
    clear hI hb HCC HB1
    go_wp2_with fail
    refine (values_c A' f.length c' w2).mono ?_
    rintro e w3 ⟨rfl, rfl⟩
    have HB3 : Aside0 (Below w.heap.size w (w2.alloc (.cells #[.slice A' f.length c'] 32))) := ⟨HB2.out.alloc HB2.out.size _⟩
    have hBn : Below w2.heap.size w2 (w2.alloc (.cells #[.slice A' f.length c'] 32)) := (Below.refl _ w2).alloc (Nat.le_refl _) _
    have HSC := Aside0.mk (sorted_c w2.heap.size (.slice A' f.length c') f HFL.out _ (by simp) (Boxed.cell (Boxed.new w2 32 (.slice A' f.length c'))) (SvIntsMono (HI.out.below hBn) (by simp)))
    clear HB2 HI hBn
    generalize w2.alloc (.cells #[.slice A' f.length c'] 32) = w3 at *
    generalize w2.heap.size = gb at *
    go_wp2_with fail
    refine HSC.out.mono ?_
    rintro e w4 ⟨v, rfl, hrow, hb⟩
    have HB4 := Aside0.mk (below_then HB3.out HB3.out.size hb)
    have HR : Aside0 (Kd.R (Kd.int .i64) 3 w4 w.heap.size (fun _ => True) v al) := ⟨by
      refine Kd.R_lower (Kd.R_of_own ?_ (fun _ _ => trivial)) HB3.out.size
      rw [HSO.out] at hrow
      rw [← HSO.out, List.length_mergeSort, HSO.out]
      exact hrow⟩
    clear hrow hb HSC HB3
    go_wp2_with fail
    go_ret2
    exact ⟨v, rfl, HR.out, HB4.out⟩
/-- A row of its own whose blocks lie from lo to hi. -/
def RX (lo hi base : Nat) (w : World) (v : Value) (xs : List Int) : Prop := Kd.R (Kd.int .i64) 3 w base (fun k => lo ≤ k ∧ k < hi) v xs
section
variable {lo hi base : Nat} {w w1 : World} {v : Value} {xs : List Int}
theorem RX.step (h : RX lo hi base w v xs) (hm : ∀ k, lo ≤ k → k < hi → w1.heap[k]? = w.heap[k]?) : RX lo hi base w1 v xs := Kd.R_move h (fun k hk => hm k hk.1 hk.2)
theorem RX.below (h : RX lo hi base w v xs) (hb : Below w.heap.size w w1) (hh : hi ≤ w.heap.size) : RX lo hi base w1 v xs := h.step (fun k _ hk => hb.block k (by omega))
theorem RX.kept {S : Nat → Prop} (h : RX lo hi base w v xs) (hk : Kept w w1 S) (hh : hi ≤ w.heap.size) (hS : ∀ k, S k → k < lo ∨ hi ≤ k) : RX lo hi base w1 v xs := h.step (fun k h1 h2 => hk.2 k (by omega) (fun hs => by have := hS k hs; omega))
theorem RX.of {W : World} (h : Kd.R (Kd.int .i64) 3 w W.heap.size (fun _ => True) v xs) (hb : base ≤ W.heap.size) : RX W.heap.size w.heap.size base w v xs := Kd.R_lower (Kd.R_mono (Kd.R_bound h) (fun _ hk => ⟨hk.2.1, hk.2.2.1⟩)) hb
end
theorem eqS1_c {w : World} {A B : Option Addr} {n n' c c' : Nat} {l : List Int} {lo hi base lo' hi' base' : Nat} (h : RX lo hi base w (.slice A n c) l) (h' : RX lo' hi' base' w (.slice B n' c') l) (hl : l.length ≤ 1048576) :
    Calls Try.prog 26 #[.slice A n c, .slice B n' c'] w fun e w' => e = .returned (.bool true) ∧ Below w.heap.size w w' := by
  obtain ⟨rfl, h1, C1⟩ := Kd.R_reads' h
  obtain ⟨rfl, h2, C2⟩ := Kd.R_reads' h'
  obtain ⟨k, hk⟩ := Ev.rounds (eqIntS_ev hl)
  refine (laws_eqIntS.calls k A c l B c' l _ w C1 h1 C2 h2 hk).mono ?_
  rintro e w' ⟨rfl, hb⟩
  exact ⟨rfl, hb.below⟩
theorem heldS1_c {w : World} {A : Option Addr} {n c m : Nat} {lo hi base : Nat} {q : Int} (h : RX lo hi base w (.slice A n c) (marks 1 m)) (hl : m ≤ 2000000) (hm : q = 1 + (m : Int)) :
    Calls Try.prog 28 #[.slice A n c, .int .i64 1] w fun e w' => e = .returned (.int .i64 q) ∧ Below w.heap.size w w' := by
  obtain ⟨rfl, h1, C1⟩ := Kd.R_reads' h
  obtain ⟨k, hk⟩ := Ev.rounds (heldIntS_ev (n := m) hl (a := 1) (by omega) (by omega))
  refine (laws_heldIntS.calls k A c _ 1 _ w C1 h1 hk).mono ?_
  rintro e w' ⟨rfl, hb⟩
  exact ⟨by rw [hm], hb.below⟩
theorem markS1_c {w0 w : World} {A : Option Addr} {n c m : Nat} {l : List Int} {lo hi : Nat} {q : Int} (hB : Below w0.heap.size w0 w) (h : RX lo hi w0.heap.size w (.slice A n c) l) (hlm : l.length = m) (hl : m ≤ 2000000) (hh : hi ≤ w.heap.size) (hm : q = 1 + (m : Int)) :
    Calls Try.prog 27 #[.slice A n c, .int .i64 1] w fun e w' => e = .returned (.int .i64 q) ∧ RX lo hi w0.heap.size w' (.slice A n c) (marks 1 m) ∧ Below w0.heap.size w0 w' ∧ Kept w w' (fun k => lo ≤ k ∧ k < hi) := by
  subst hlm
  obtain ⟨k, hk⟩ := Ev.rounds (markIntS_ev (l := l) hl (a := 1) (by omega) (by omega))
  have hT := Kd.R_tight rfl h
  have hok := h.1
  refine (laws_markIntS.calls k _ _ l 1 _ _ w0 w hB hT hk).mono ?_
  rintro e w' ⟨rfl, hR, hb, hkk⟩
  refine ⟨by rw [hm], Kd.R_mono (Kd.R_tight rfl hR) (fun k hk => hok k hk.symm), hb, kept_in hkk (fun k hk => hok k hk.symm)⟩
end Go.Proofs.Ytoaimlpbliabdaa.DFnExactPushTo
