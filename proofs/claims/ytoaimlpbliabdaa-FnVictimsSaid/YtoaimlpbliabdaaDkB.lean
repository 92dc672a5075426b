/- Rows of rows: a row lent and put back. No conditions but those of each lemma. -/
import Derived.Test.YtoaimlpbliabdaaDFnExactPushTox0
namespace Go.Proofs.Ytoaimlpbliabdaa.DFnExactPushTo
open Go.RowKit Go.Proofs.YtoaimlpbliabdaaW.PrintWords Go.Proofs.YtoaimlpbliabdaaW.PrintLast Go.Proofs.YtoaimlpbliabdaaW.PrintMore
set_option linter.unusedVariables false
set_option linter.unusedSimpArgs false

theorem cellB {w : World} {g : Nat} {cs : Array Value} {t : TypeId} {fr : Nat × Nat} (h : w.heap[g]? = some (.cells cs t fr)) (j : Nat) : w.cell? ⟨g, j, none⟩ = cs[j]? := by
  simp [World.cell?, h]
theorem freeB {w : World} {g : Nat} {cs : Array Value} {t : TypeId} (h : w.heap[g]? = some (.cells cs t (0, 0))) (j : Nat) : w.frozen? ⟨g, j, none⟩ = false := blk_frozen h j
theorem grownB {w w1 : World} {row : Option Nat} (h : Below w.heap.size w w1) : w.grownBy w1 row := ⟨h.os, h.tape, h.output, h.size, fun k hk _ => h.block k hk⟩
/-- A row of a row of rows, lent: what is done to it, or what takes its place. -/
theorem S_hand {w : World} {base : Nat} {ok : Nat → Prop} {v : Value} {xs : List (List Int)} (h : Kd.S (Kd.slice 3 (Kd.int .i64)) 32 w base ok v xs) (hok : ∀ k, w.heap.size ≤ k → ok k) (i : Nat) (hi : i < xs.length) :
    ∃ gd cap iv A c, v = .slice (some ⟨gd, 0, none⟩) xs.length cap ∧ iv = .slice A (xs.getD i []).length c ∧ (xs.getD i []).length ≤ c ∧ w.cell? ⟨gd, i, none⟩ = some iv ∧ w.frozen? ⟨gd, i, none⟩ = false ∧ base ≤ gd ∧ gd < w.heap.size ∧ some gd ≠ iv.ownBlock ∧
      (Kd.int .i64).R 3 w base (fun k => k ≠ gd ∧ (some k = iv.ownBlock ∨ w.heap.size ≤ k)) iv (xs.getD i []) ∧
      ∀ (w1 : World) (v1 : Value) (row : List Int), (Kd.int .i64).R 3 w1 base (fun k => k ≠ gd ∧ (some k = iv.ownBlock ∨ w.heap.size ≤ k)) v1 row → w.grownBy w1 iv.ownBlock →
        w1.cell? ⟨gd, i, none⟩ = some iv ∧ w1.frozen? ⟨gd, i, none⟩ = false ∧ Kd.S (Kd.slice 3 (Kd.int .i64)) 32 (w1.setCell ⟨gd, i, none⟩ v1) base ok v (xs.set i row) := by
  have dk2 : Kd.S (Kd.slice 3 (Kd.int .i64)) 32 w base (fun k => ok k ∧ ¬ (w.heap.size ≤ k)) v xs := Kd.S_mono (Kd.S_bound h) (fun k hk => ⟨hk.1, by have := hk.2.2.1; omega⟩)
  obtain ⟨gd, cap, rfl, hbase, hgl, cells, hcells⟩ := Kd.S_form dk2 (by omega)
  obtain ⟨oki, ce, hcl, hM, hcc, hfr, hoki, hH⟩ := Kd.S_elem dk2 [] (i : Int) (by omega) (by omega)
  obtain ⟨iv, rfl, hQ⟩ := hM
  have hQi : (Kd.int .i64).R 3 w base oki iv (xs.getD i []) := hQ
  obtain ⟨A, c, hiv, hAc⟩ : ∃ A c, iv = .slice A (xs.getD i []).length c ∧ (xs.getD i []).length ≤ c := by
    obtain ⟨A, c, e, hl, _⟩ := Kd.R_reads hQi
    exact ⟨A, c, e, hl⟩
  have hcell : w.cell? ⟨gd, i, none⟩ = some iv := by have := hcc 0 iv rfl; simpa [Kd.slice] using this
  have hgi : some gd ≠ iv.ownBlock := fun e => (hoki gd (hQi.1 gd e.symm)).2 rfl
  refine ⟨gd, cap, iv, A, c, rfl, hiv, hAc, hcell, freeB hcells i, hbase, hgl, hgi, ⟨fun k hk => ⟨(hoki k (hQi.1 k hk)).2, .inl hk.symm⟩, hQi.2⟩, ?_⟩
  intro w1 v1 row hQ1 hg
  have hd1 : w1.heap[gd]? = some (.cells cells 32 (0, 0)) := (hg.block gd hgl hgi).trans hcells
  have hH1 := Kd.H_grown hH hg (fun k e => hQi.1 k e)
  have hS := Kd.S_seg (okg := fun k => w.heap.size ≤ k) (okp := fun k => k ≠ gd ∧ (some k = iv.ownBlock ∨ w.heap.size ≤ k)) (x' := row) (seg := [v1]) (j := 0) hH1 (by omega) (by omega) (Nat.le_refl 1) ⟨v1, rfl, hQ1⟩
    (fun k hk => hk.2.elim (fun e => .inl (hQi.1 k e.symm)) .inr) (fun k hk => ⟨hok k hk, by have : w.heap.size ≤ k := hk; omega⟩)
  have hset : w1.setCells gd ((i : Int).toNat * (Kd.slice 3 (Kd.int .i64)).sz + 0) [v1] = w1.setCell ⟨gd, i, none⟩ v1 := by
    simp [World.setCells, Kd.slice]
  rw [hset] at hS
  exact ⟨(cellB hd1 i).trans ((cellB hcells i).symm.trans hcell), freeB hd1 i, hS.1⟩
end Go.Proofs.Ytoaimlpbliabdaa.DFnExactPushTo
