/- The decks' functions walked: toIntSS, PushTo on both sides. No conditions but those of each lemma. -/
import Derived.Test.YtoaimlpbliabdaaDkB
import Derived.Test.YtoaimlpbliabdaaDuC
namespace Go.Proofs.Ytoaimlpbliabdaa.DFnExactPushTo
open Go.RowKit Go.Proofs.YtoaimlpbliabdaaW.PrintWords Go.Proofs.YtoaimlpbliabdaaW.PrintLast Go.Proofs.YtoaimlpbliabdaaW.PrintMore
set_option linter.unusedVariables false
set_option linter.unusedSimpArgs false

theorem toInt_new {w : World} {A : Option Addr} {c : Nat} {l : List Int} (hr : Kd.C (Kd.int .i64) w A l.length l) (hc : l.length ≤ c) (hl : l.length ≤ 1048576) :
    Calls Try.prog 24 #[.slice A l.length c] w fun e w' => ∃ A' c', e = .returned (.slice A' l.length c') ∧ Kd.R (Kd.int .i64) 3 w' w.heap.size (fun k => w.heap.size ≤ k ∧ k < w'.heap.size) (.slice A' l.length c') l ∧ l.length ≤ c' ∧ Below w.heap.size w w' := by
  obtain ⟨k, hk⟩ := Ev.rounds (toIntS_ev hl)
  refine (laws_toIntS.calls k A c l _ w hr hc hk).mono ?_
  rintro e w' ⟨v, rfl, hR, hb⟩
  obtain ⟨A', c', rfl, hl', _⟩ := Kd.R_reads hR
  exact ⟨A', c', rfl, Kd.R_mono (Kd.R_bound hR) (fun k hk => ⟨hk.2.1, hk.2.2.1⟩), hl', hb⟩
/-- A block of zeros is a row of its own. -/
theorem R_zeros {α : Type} (d : Kd α) {w : World} {base e b m : Nat} {z : Value} {z0 : α} {ok : Nat → Prop} (hb : w.heap[b]? = some (.cells (madeCells z.cells (m * d.sz)) e (0, 0))) (hz : z.cells.size = d.sz) (hs0 : 0 < d.sz)
    (hzero : d.M w base (fun _ => False) z0 z.cells.toList) (hbase : base ≤ b) (hok : ok b) (hm : m ≤ 2000000) : d.R e w base ok (.slice (some ⟨b, 0, none⟩) m m) (List.replicate m z0) := by
  have hsz : (madeCells z.cells (m * d.sz)).size = m * d.sz := size_madeCells _ _
  refine ⟨fun k hk => ?_, (madeCells z.cells (m * d.sz)).toList, ⟨?_, .inr ⟨b, m, _, ?_, hbase, hb, ?_, ?_, hsz, ?_⟩⟩, ?_⟩
  · have : b = k := by simpa [Value.ownBlock] using hk
    subst this; exact hok
  · simp [hsz]
  · simp
  · simp
  · unfold maxLen; omega
  · rw [List.length_replicate, List.take_of_length_le (by rw [Array.length_toList, hsz]; exact Nat.le_refl _)]
  · exact Kd.reps_made hz hs0 (d.M_mono (fun _ h => h.elim) hzero) m
/-- A block of nil rows is a row of rows of its own. -/
theorem S_nils {w : World} {base b m : Nat} {ok : Nat → Prop} (hb : w.heap[b]? = some (.cells (madeCells #[.slice none 0 0] m) 32 (0, 0))) (hbase : base ≤ b) (hok : ok b) (hm : m ≤ 2000000) : Kd.S (Kd.slice 3 (Kd.int .i64)) 32 w base ok (.slice (some ⟨b, 0, none⟩) m m) (List.replicate m []) :=
  Kd.S_bare (R_zeros (Kd.bare (Kd.slice 3 (Kd.int .i64))) (z := .slice none 0 0) (by rw [show m * (Kd.bare (Kd.slice 3 (Kd.int .i64))).sz = m from Nat.mul_one _]; exact hb) rfl (by decide) ⟨_, rfl, Kd.R_nil _ _ _ _ _⟩ hbase hok hm)
set_option maxRecDepth 100000 in
set_option maxHeartbeats 2000000 in
theorem toIntSS_new {w : World} {A : Option Addr} {c : Nat} {l : List (List Int)} (hr : Kd.C (Kd.slice 3 (Kd.int .i64)) w A l.length l) (hc : l.length ≤ c) (hl : l.length ≤ 1048576) (ht : tl l ≤ 1048576) :
    Calls Try.prog 16 #[.slice A l.length c] w fun e w' => ∃ v, e = .returned v ∧ Kd.S (Kd.slice 3 (Kd.int .i64)) 32 w' w.heap.size (fun k => w.heap.size ≤ k ∧ k < w'.heap.size) v l ∧ Below w.heap.size w w' := by
  have HR := Aside0.mk hr
  have HC := Aside0.mk hc
  have HT := Aside0.mk ht
  generalize hn : l.length = n at *
  have HN := Aside0.mk hn
  have m22 := print_make_of (P := Try.prog) 22 32 (.slice none 0 0) 24 Try.underlying22 (by rw [info32]) rfl (by decide) n (by omega)
  clear hr hc ht hn
  go_enter Try.func16, Try.ntmps16
  go_wp2_with fail
  have HB := Aside0.mk (below_alloc (Below.refl w.heap.size w) (.cells (madeCells #[.slice none 0 0] n) 32))
  have HS : Aside0 (Kd.S (Kd.slice 3 (Kd.int .i64)) 32 (w.alloc (.cells (madeCells #[.slice none 0 0] n) 32)) w.heap.size (fun k => w.heap.size ≤ k) (.slice (some ⟨w.heap.size, 0, none⟩) n n) (List.replicate n [])) := ⟨S_nils (blk_new _ _) (Nat.le_refl _) (Nat.le_refl _) (by omega)⟩
  generalize w.alloc (.cells (madeCells #[.slice none 0 0] n) 32) = wa at *
  clear m22
  go_loopg [4] (n + 1) (fun kq v4 w' => ∃ i : Nat, v4 = .int .i64 (i : Int) ∧ kq + i = n + 1 ∧ i ≤ n ∧ Aside0 (Kd.S (Kd.slice 3 (Kd.int .i64)) 32 w' w.heap.size (fun k => w.heap.size ≤ k) (.slice (some ⟨w.heap.size, 0, none⟩) n n) (l.take i ++ List.replicate (n - i) [])) ∧ Aside0 (Below w.heap.size w w'))
  case atStart => exact ⟨0, rfl, by omega, by omega, by simpa using HS, HB⟩
  case round =>
    clear HS HB
    obtain ⟨i, rfl, hkq, hin, HSi, HBi⟩ := hrel
    by_cases hlt : i < n
    · have hil : i < l.length := by have := HN.out; omega
      have hlen : (l.take i ++ List.replicate (n - i) ([] : List Int)).length = n := by rw [List.length_append, List.length_take, List.length_replicate]; have := HN.out; omega
      obtain ⟨gd, cap, iv, A1, c1, he, hiv, -, hcell, hfr, -, hgl, hgi, -, hput⟩ := S_hand HSi.out (fun k hk => Nat.le_trans HBi.out.size hk) i (by omega)
      injection he with he1 he2 he3
      injection he1 with he1
      injection he1 with he1 _ _
      subst he1
      obtain ⟨ad, A2, c2, hA, hx0, hx1, hx2⟩ := at_L1 (Kd.C_below HR.out HBi.out) (i : Int) (by omega) (by have := HN.out; omega)
      rw [rdL_at hil] at hx0 hx1 hx2
      simp only [Int.toNat_natCast] at hx0
      have hrl : l[i].length ≤ 1048576 := by have := len_le_tl (List.getElem_mem hil); have := HT.out; omega
      have HCL := Aside0.mk (toInt_new hx2 hx1 hrl)
      generalize hq : l[i] = row at *
      have HQ := Aside0.mk hq
      generalize hrn : row.length = rn at *
      have HRN := Aside0.mk hrn
      have HPUT := Aside0.mk hput
      have HGI := Aside0.mk hgi
      subst hA
      have hi1 : (i : Int) < (n : Int) := by omega
      have hi0 : (0 : Int) ≤ (i : Int) := by omega
      clear he2 he3 hiv hput hgi hx1 hx2 hq hrn hrl hlen hcell hfr
      go_wp2_with fail
      refine HCL.out.mono ?_
      rintro e w1 ⟨A3, c3, rfl, hR, hc3, hb⟩
      obtain ⟨hcell, hfr, hSn⟩ := HPUT.out w1 (.slice A3 rn c3) row (Kd.R_mono (Kd.R_lower hR HBi.out.size) (fun k hk => ⟨by omega, .inr hk.1⟩)) (grownB hb)
      have HSN := Aside0.mk hSn
      have HB1 := Aside0.mk (below_then HBi.out HBi.out.size hb)
      clear hR hc3 hSn hb HCL HPUT
      go_wp2_with fail
      go_roundg (n - i)
      case measure => omega
      case rel =>
        refine ⟨i + 1, by go_num, by omega, by omega, ⟨?_⟩, ⟨below_set HB1.out (Nat.le_refl _)⟩⟩
        have q := HSN.out
        have e1 : (l.take i ++ List.replicate (n - i) ([] : List Int)).set i row = l.take (i + 1) ++ List.replicate (n - (i + 1)) [] := by
          have hti : (l.take i).length = i := by rw [List.length_take]; omega
          rw [List.set_append_right _ _ (by omega), hti, Nat.sub_self, show n - i = (n - (i + 1)) + 1 by omega, List.replicate_succ, List.set_cons_zero, List.take_succ_eq_append_getElem hil, HQ.out, List.append_assoc]
          rfl
        rw [e1] at q
        exact q
    · obtain rfl : i = n := by omega
      have HSF : Aside0 (Kd.S (Kd.slice 3 (Kd.int .i64)) 32 wr w.heap.size (fun k => w.heap.size ≤ k ∧ k < wr.heap.size) (.slice (some ⟨w.heap.size, 0, none⟩) i i) l) := ⟨by
        have q := HSi.out
        rw [Nat.sub_self, List.replicate_zero, List.append_nil, ← HN.out, List.take_length] at q
        rw [HN.out] at q
        exact Kd.S_mono (Kd.S_bound q) (fun k hk => ⟨hk.1, hk.2.2.1⟩)⟩
      clear HSi
      go_wp2_with fail
      go_ret
      exact ⟨_, rfl, HSF.out, HBi.out⟩
end Go.Proofs.Ytoaimlpbliabdaa.DFnExactPushTo
