/- The reference's pool walked: its state, push, take, ready. No conditions but those of each lemma. -/
import Derived.Test.YtoaimlpbliabdaaQFnExactEventsOfx2
import Derived.Deep.RegionLaw
namespace Go.Proofs.Ytoaimlpbliabdaa.QFnExactEventsOf
open Go.RowKit Go.Proofs.YtoaimlpbliabdaaW.PrintWords Go.Proofs.YtoaimlpbliabdaaW.PrintLast Go.Proofs.YtoaimlpbliabdaaW.PrintMore
set_option linter.unusedVariables false
set_option linter.unusedSimpArgs false

/-- A slice that may begin inside its block. -/
def sliceQ : Kd (List Int) where
  sz := 1
  E := [3]
  K := fun w xs cs => ∃ A c, cs = [.slice A xs.length c] ∧ xs.length ≤ c ∧ (Kd.int .i64).C w A xs.length xs
  M := fun w base ok xs cs => ∃ v, cs = [v] ∧ (Kd.int .i64).Q 3 w base ok v xs
  K_len := by
    rintro w x cs ⟨A, c, rfl, _⟩
    rfl
  K_one := by
    rintro w x cs ⟨A, c, rfl, _⟩ u hu
    rw [List.mem_singleton.1 hu]
    rfl
  K_below := by
    rintro w w1 x cs hb ⟨A, c, rfl, hl, hr⟩
    exact ⟨A, c, rfl, hl, Kd.C_below hr hb⟩
  K_of_M := by
    rintro w base ok x cs ⟨v, rfl, h⟩
    obtain ⟨A, c, rfl, hl, hr⟩ := Kd.Q_reads h
    exact ⟨A, c, rfl, hl, hr⟩
  M_mono := by
    rintro w base ok ok' x cs hok ⟨v, rfl, h⟩
    exact ⟨v, rfl, Kd.Q_mono h hok⟩
  M_bound := by
    rintro w base ok x cs ⟨v, rfl, h⟩
    exact ⟨v, rfl, Kd.Q_bound h⟩
  M_move := by
    rintro w w1 base ok x cs hm ⟨v, rfl, h⟩
    exact ⟨v, rfl, Kd.Q_move h hm⟩
  M_lower := by
    rintro w base base' ok x cs hb ⟨v, rfl, h⟩
    exact ⟨v, rfl, Kd.Q_lower h hb⟩

structure WS where
  decks : List (List Int)
  left : List Int
  pre : List Bool
  post : List Bool
  told : List S93
  steps : Int
  up : List Int
  draws : List Int
  drawn : Int

structure SpW (X : Nat → Prop) (w0 w : World) (g : Nat) (dv lv pv qv tv : Value) (uA : Option Addr) (uc : Nat) (nA : Option Addr) (nc : Nat) (s : WS) : Prop where
  blk : w.heap[g]? = some (.cells #[dv, lv, pv, qv, tv, .int .i64 s.steps, .slice uA s.up.length uc, .slice nA s.draws.length nc, .int .i64 s.drawn] 91 (0, 0))
  g0 : w0.heap.size ≤ g
  dk : Kd.S sliceQ 32 w w0.heap.size (fun k => some k ≠ lv.ownBlock ∧ ¬ X k) dv s.decks
  lf : Kd.R (Kd.int .i64) 3 w w0.heap.size (fun _ => True) lv s.left
  pr : Kd.R Kd.bool 4 w w0.heap.size (fun k => some k ≠ qv.ownBlock) pv s.pre
  po : Kd.R Kd.bool 4 w w0.heap.size (fun _ => True) qv s.post
  td : Kd.R k93 93 w w0.heap.size (fun _ => True) tv s.told
  up : Kd.C (Kd.int .i64) w0 uA s.up.length s.up
  upc : s.up.length ≤ uc
  dr : Kd.C (Kd.int .i64) w0 nA s.draws.length s.draws
  drc : s.draws.length ≤ nc
  bel : Below w0.heap.size w0 w

theorem cell_blk {w : World} {g : Nat} {cs : Array Value} {t : TypeId} {fr : Nat × Nat} (h : w.heap[g]? = some (.cells cs t fr)) (j : Nat) : w.cell? ⟨g, j, none⟩ = cs[j]? := by
  simp [World.cell?, h]
theorem free_blk {w : World} {g : Nat} {cs : Array Value} {t : TypeId} (h : w.heap[g]? = some (.cells cs t (0, 0))) (j : Nat) : w.frozen? ⟨g, j, none⟩ = false := by
  simp [World.frozen?, h]

/-- The state's own block behind a store into it. -/
theorem blk_set {w : World} {g : Nat} {cs : Array Value} {t : TypeId} (h : w.heap[g]? = some (.cells cs t (0, 0))) (j : Nat) (v : Value) : (w.setCell ⟨g, j, none⟩ v).heap[g]? = some (.cells (cs.setIfInBounds j v) t (0, 0)) := by
  have hlt := (Array.getElem?_eq_some_iff.1 h).1
  simp [World.setCell, Array.getElem?_modify, h]
theorem below_setCell {w0 w : World} {g j : Nat} {v : Value} (h : Below w0.heap.size w0 w) (hg : w0.heap.size ≤ g) : Below w0.heap.size w0 (w.setCell ⟨g, j, none⟩ v) := below_set h hg

/-- Told has grown (at w1), and stands in the state. -/
theorem SpW.told_ {X : Nat → Prop} {w0 w w1 : World} {g : Nat} {dv lv pv qv tv v1 : Value} {uA : Option Addr} {uc : Nat} {nA : Option Addr} {nc : Nat} {s : WS} {told : List S93} (h : SpW X w0 w g dv lv pv qv tv uA uc nA nc s)
    (ho : Kd.R k93 93 w1 w0.heap.size (fun _ => True) v1 told) (hb : Below w0.heap.size w0 w1) (hg : w.grownBy w1 tv.ownBlock) (hblk : w1.heap[g]? = w.heap[g]?) :
    SpW X w0 (w1.setCell ⟨g, 4, none⟩ v1) g dv lv pv qv v1 uA uc nA nc { s with told := told } := by
  have hk := hblk.trans h.blk
  have hty := Kd.R_typed h.td
  refine ⟨?_, h.g0, ?_, ?_, ?_, ?_, ?_, h.up, h.upc, h.dr, h.drc, below_setCell hb h.g0⟩
  · rw [blk_set hk]; rfl
  · exact Kd.S_set (Kd.S_over' h.dk hty (by decide) hg) hk (by decide) _ _
  · exact Kd.R_set (Kd.R_over h.lf h.td (by decide) hg) hk (by decide) _ _
  · exact Kd.R_set (Kd.R_over h.pr h.td (by decide) hg) hk (by decide) _ _
  · exact Kd.R_set (Kd.R_over h.po h.td (by decide) hg) hk (by decide) _ _
  · exact Kd.R_set ho hk (by decide) _ _

set_option maxRecDepth 100000 in
set_option maxHeartbeats 400000 in
theorem tell_calls {X : Nat → Prop} {w0 w : World} {g : Nat} {dv lv pv qv tv : Value} {uA : Option Addr} {uc : Nat} {nA : Option Addr} {nc : Nat} {s : WS} (h : SpW X w0 w g dv lv pv qv tv uA uc nA nc s) (hlen : s.told.length < 1000) (kind task worker : Int) :
    Calls Try.prog 134 #[.pointer (some ⟨g, 0, none⟩), .int .i64 kind, .int .i64 task, .int .i64 worker] w fun e w' => e = .returned (.tuple #[]) ∧ ∃ tv', SpW X w0 w' g dv lv pv qv tv' uA uc nA nc { s with told := s.told ++ [⟨kind, task, worker⟩] } := by
  have HS := Aside0.mk h
  have hlt := blk_lt h.blk
  have c4 : w.cell? ⟨g, 4, none⟩ = some tv := cell_blk h.blk 4
  clear h
  go_enter Try.func134, Try.ntmps134
  go_wp2_with ((with_reducible refine gate_builtin (b := .append) (xs := #[.tmp 13, .tmp 18]) rfl ?_); at_builtin; refine Kd.R_append k93 (w0 := w0) w0.heap.size rfl (.tmp 13) (.tmp 18) 41 93 (.agg #[(.int .i64 0), (.int .i64 0), (.int .i64 0)]) 24 rfl Try.underlying41 info93 rfl (by decide) (by omega) tv s.told ⟨kind, task, worker⟩ [.int .i64 kind, .int .i64 task, .int .i64 worker] (fun _ => True) (fun _ => False) rfl rfl (k93_mkM _ _ _ _) (fun _ hk => hk.elim) (fun _ _ => trivial) ?aO ?aB ?aS ?aL ?_; (case aO => exact HS.out.td); (case aB => exact HS.out.bel); (case aS => exact HS.out.bel.size); (case aL => omega); intro v1 w1 ho hb hg hat; have e1 := hg.block g hlt (Kd.R_ne HS.out.td HS.out.blk (by decide)); have c41 := (cell_blk (e1.trans HS.out.blk) 4); have f41 := free_blk (e1.trans HS.out.blk) 4; have HF := Aside0.mk (HS.out.told_ ho hb hg e1); obtain ⟨A1, cp1, rfl⟩ := Kd.R_slice ho; clear ho hb hg hat e1)
  go_end0
  have q := HF.out
  rw [List.length_append] at q
  exact ⟨rfl, _, q⟩

end Go.Proofs.Ytoaimlpbliabdaa.QFnExactEventsOf
namespace Go.Proofs.Ytoaimlpbliabdaa.QFnExactEventsOf
open Go.RowKit Go.Proofs.YtoaimlpbliabdaaW.PrintWords Go.Proofs.YtoaimlpbliabdaaW.PrintLast Go.Proofs.YtoaimlpbliabdaaW.PrintMore
set_option linter.unusedVariables false
set_option linter.unusedSimpArgs false

/-- A deck's own row, lent: its cell, and what stands again when another row (v1, at w1) has been laid there. -/
theorem SpW.lend {X : Nat → Prop} {w0 w : World} {g : Nat} {dv lv pv qv tv : Value} {uA : Option Addr} {uc : Nat} {nA : Option Addr} {nc : Nat} {s : WS} (h : SpW X w0 w g dv lv pv qv tv uA uc nA nc s) (hX : ∀ k, X k → k < w.heap.size) (i : Nat) (hi : i < s.decks.length) :
    ∃ gd cap iv A c, dv = .slice (some ⟨gd, 0, none⟩) s.decks.length cap ∧ iv = .slice A (s.decks.getD i []).length c ∧ (s.decks.getD i []).length ≤ c ∧ w.cell? ⟨gd, i, none⟩ = some iv ∧ w.frozen? ⟨gd, i, none⟩ = false ∧ gd < w.heap.size ∧ gd ≠ g ∧ some gd ≠ iv.ownBlock ∧ some g ≠ iv.ownBlock ∧ (∀ k, X k → some k ≠ iv.ownBlock) ∧
      (Kd.int .i64).Q 3 w w0.heap.size (fun k => k ≠ gd ∧ (some k = iv.ownBlock ∨ w.heap.size ≤ k)) iv (s.decks.getD i []) ∧
      ∀ (w1 : World) (v1 : Value) (row : List Int), (Kd.int .i64).Q 3 w1 w0.heap.size (fun k => k ≠ gd ∧ (some k = iv.ownBlock ∨ w.heap.size ≤ k)) v1 row → Below w0.heap.size w0 w1 → w.grownBy w1 iv.ownBlock →
        w1.cell? ⟨gd, i, none⟩ = some iv ∧ w1.frozen? ⟨gd, i, none⟩ = false ∧ w1.heap[g]? = w.heap[g]? ∧ (∃ cells, w1.heap[gd]? = some (.cells cells 32 (0, 0))) ∧ SpW X w0 (w1.setCell ⟨gd, i, none⟩ v1) g dv lv pv qv tv uA uc nA nc { s with decks := s.decks.set i row } := by
  have hlv := Kd.R_lt h.lf
  have dk2 : Kd.S sliceQ 32 w w0.heap.size (fun k => (some k ≠ lv.ownBlock ∧ ¬ X k) ∧ ¬ (w.heap.size ≤ k)) dv s.decks := Kd.S_mono (Kd.S_bound h.dk) (fun k hk => ⟨hk.1, by have := hk.2.2.1; omega⟩)
  obtain ⟨gd, cap, rfl, hbase, hgl, cells, hcells⟩ := Kd.S_form dk2 (by omega)
  obtain ⟨oki, ce, hcl, hM, hcc, hfr, hoki, hH⟩ := Kd.S_elem dk2 [] (i : Int) (by omega) (by omega)
  obtain ⟨iv, rfl, hQ⟩ := hM
  have hQi : (Kd.int .i64).Q 3 w w0.heap.size oki iv (s.decks.getD i []) := hQ
  obtain ⟨A, c, hiv, hAc⟩ := Kd.Q_slice hQi
  have hcell : w.cell? ⟨gd, i, none⟩ = some iv := by have := hcc 0 iv rfl; simpa [sliceQ] using this
  have hgg : gd ≠ g := by
    rintro rfl
    have := hcells.symm.trans h.blk
    injection this with this
    injection this with _ h2 _
    exact absurd h2 (by decide)
  have hgi : some gd ≠ iv.ownBlock := fun e => (hoki gd (hQi.1 gd e.symm)).2 rfl
  have hgI : some g ≠ iv.ownBlock := Kd.Q_ne hQi h.blk (by decide)
  refine ⟨gd, cap, iv, A, c, rfl, hiv, hAc, hcell, free_blk hcells i, hgl, hgg, hgi, hgI, fun k hx e => (hoki k (hQi.1 k e.symm)).1.1.2 hx, ⟨fun k hk => ⟨(hoki k (hQi.1 k hk)).2, .inl hk.symm⟩, hQi.2⟩, ?_⟩
  intro w1 v1 row hQ1 hb hg
  have hd1 : w1.heap[gd]? = some (.cells cells 32 (0, 0)) := (hg.block gd hgl hgi).trans hcells
  have hk1 := (hg.block g (blk_lt h.blk) hgI)
  have hty : ∀ k, iv.ownBlock = some k → ∃ cells, w.heap[k]? = some (.cells cells 3 (0, 0)) := Kd.Q_typed hQi
  have hH1 := Kd.H_grown hH hg (fun k e => hQi.1 k e)
  have hS := Kd.S_seg (okg := fun k => w.heap.size ≤ k) (okp := fun k => k ≠ gd ∧ (some k = iv.ownBlock ∨ w.heap.size ≤ k)) (x' := row) (seg := [v1]) (j := 0) hH1 (by omega) (by omega) (Nat.le_refl 1) ⟨v1, rfl, hQ1⟩
    (fun k hk => hk.2.elim (fun e => .inl (hQi.1 k e.symm)) .inr) (fun k hk => ⟨⟨fun e => by have := hlv k e.symm; omega, fun hx => by have := hX k hx; omega⟩, by omega⟩)
  have hset : w1.setCells gd ((i : Int).toNat * sliceQ.sz + 0) [v1] = w1.setCell ⟨gd, i, none⟩ v1 := by
    simp [World.setCells, sliceQ]
  rw [hset] at hS
  refine ⟨(cell_blk hd1 i).trans ((cell_blk hcells i).symm.trans hcell), free_blk hd1 i, hk1, ⟨_, hd1⟩, ⟨?_, h.g0, ?_, ?_, ?_, ?_, ?_, h.up, h.upc, h.dr, h.drc, below_setCell hb hbase⟩⟩
  · rw [Below.heap_setCell w1 ⟨gd, i, none⟩ v1 g (Ne.symm hgg), hk1]; exact h.blk
  · exact hS.1
  · exact Kd.R_mono (Kd.R_set (Kd.R_grown (Kd.R_tight rfl h.lf) hg (fun k e he => (hoki k (hQi.1 k he.symm)).1.1.1 e)) hd1 (by decide) _ _) (fun _ _ => trivial)
  · exact Kd.R_set (Kd.R_over' h.pr hty (by decide) hg) hd1 (by decide) _ _
  · exact Kd.R_set (Kd.R_over' h.po hty (by decide) hg) hd1 (by decide) _ _
  · exact Kd.R_set (Kd.R_over' h.td hty (by decide) hg) hd1 (by decide) _ _

end Go.Proofs.Ytoaimlpbliabdaa.QFnExactEventsOf
namespace Go.Proofs.Ytoaimlpbliabdaa.QFnExactEventsOf
open Go.RowKit Go.Proofs.YtoaimlpbliabdaaW.PrintWords Go.Proofs.YtoaimlpbliabdaaW.PrintLast Go.Proofs.YtoaimlpbliabdaaW.PrintMore
set_option linter.unusedVariables false
set_option linter.unusedSimpArgs false

def pushed (s : WS) (i : Nat) (l : List Int) (k : Nat) : WS := { s with decks := s.decks.set i (s.decks.getD i [] ++ (l.drop k).reverse) }

theorem pushed_getD {s : WS} {i : Nat} {l : List Int} {k : Nat} (hi : i < s.decks.length) : (pushed s i l k).decks.getD i [] = s.decks.getD i [] ++ (l.drop k).reverse := by
  unfold pushed
  simp [List.getD_eq_getElem?_getD, hi]
theorem pushed_step {s : WS} {i : Nat} {l : List Int} {k : Nat} (hi : i < s.decks.length) (hk : k < l.length) : ({ pushed s i l (k + 1) with decks := (pushed s i l (k + 1)).decks.set i ((pushed s i l (k + 1)).decks.getD i [] ++ [rd l k]) } : WS) = pushed s i l k := by
  rw [pushed_getD hi]
  unfold pushed
  simp only [List.set_set]
  congr 2
  rw [List.drop_eq_getElem_cons hk, List.reverse_cons, List.append_assoc]
  simp [rd, hk]
theorem pushed_len {s : WS} {i : Nat} {l : List Int} {k : Nat} (hi : i < s.decks.length) (h : (s.decks.getD i []).length + l.length < 1000) : ((pushed s i l k).decks.getD i []).length < 1000 := by
  rw [pushed_getD hi]
  simp
  simp at h
  omega
theorem size_set (w : World) (a : Addr) (v : Value) : (w.setCell a v).heap.size = w.heap.size := by simp [World.setCell]

set_option maxRecDepth 100000 in
set_option maxHeartbeats 8000000 in
theorem push_calls {X : Nat → Prop} {w0 w : World} {g : Nat} {dv lv pv qv tv : Value} {uA : Option Addr} {uc : Nat} {nA : Option Addr} {nc : Nat} {s : WS} (h : SpW X w0 w g dv lv pv qv tv uA uc nA nc s) (hX : ∀ k, X k → k < w.heap.size)
    (i : Nat) (hi : i < s.decks.length) (A : Option Addr) (c : Nat) (l : List Int) (hl : Kd.R (Kd.int .i64) 3 w w0.heap.size X (.slice A l.length c) l) (hlen : (s.decks.getD i []).length + l.length < 1000) :
    Calls Try.prog 120 #[.pointer (some ⟨g, 0, none⟩), .int .i64 (i : Int), .slice A l.length c] w fun e w' => e = .returned (.tuple #[]) ∧ SpW X w0 w' g dv lv pv qv tv uA uc nA nc (pushed s i l 0) := by
  have HS := Aside0.mk h
  have HX := Aside0.mk hX
  have HL := Aside0.mk hl
  have HI := Aside0.mk hi
  have hlb : l.length < 1000 := by omega
  have HN := Aside0.mk hlen
  clear h hX hl hi hlen
  go_enter Try.func120, Try.ntmps120
  go_wp2
  go_loopg [6] (l.length + 1) (fun kq v6 w' => ∃ (k : Nat) (j : Int), v6 = .int .i64 j ∧ Aside0 (j = (k : Int) - 1) ∧ kq = k + 1 ∧ k ≤ l.length ∧ Aside0 (SpW X w0 w' g dv lv pv qv tv uA uc nA nc (pushed s i l k)) ∧ Aside0 (w.heap.size ≤ w'.heap.size) ∧ Aside0 (Kd.R (Kd.int .i64) 3 w' w0.heap.size X (.slice A l.length c) l))
  case atStart =>
    refine ⟨l.length, _, rfl, ⟨rfl⟩, rfl, Nat.le_refl _, ⟨?_⟩, ⟨Nat.le_refl _⟩, HL⟩
    have : pushed s i l l.length = s := by
      unfold pushed
      rw [List.drop_length, List.reverse_nil, List.append_nil]
      have : s.decks.set i (s.decks.getD i []) = s.decks := by
        have hi := HI.out
        rw [List.getD_eq_getElem?_getD, List.getElem?_eq_getElem hi]
        exact List.set_getElem_self hi
      rw [this]
    rw [this]
    exact HS.out
  case round =>
    obtain ⟨k, j, rfl, HJ, hkq, hkl, HSk, HZ, HLk⟩ := hrel
    cases k with
    | zero =>
      obtain rfl : j = -1 := by have := HJ.out; omega
      go_wp2
      go_end0
      exact ⟨rfl, HSk.out⟩
    | succ k =>
      obtain rfl : j = (k : Int) := by have := HJ.out; omega
      obtain ⟨gd, cap, iv, A1, c1, hdv, hiv, hAc, hcell, hfr, hgl, hgg, hgi, hgI, hXi, hQ, hback⟩ := HSk.out.lend (fun k hk => Nat.lt_of_lt_of_le (HX.out k hk) HZ.out) i (by simpa [pushed] using HI.out)
      generalize hD : (pushed s i l (k + 1)).decks.getD i [] = D at hiv hAc hQ
      have HD := Aside0.mk hD
      clear hD
      subst hdv hiv
      have c0 : wr.cell? ⟨g, 0, none⟩ = some (.slice (some ⟨gd, 0, none⟩) (pushed s i l (k + 1)).decks.length cap) := cell_blk HSk.out.blk 0
      obtain ⟨ad, hA, cl⟩ := Kd.at_int (Kd.R_reads' HLk.out).2.2 (k : Int) (by omega) (by omega)
      subst hA
      have hi1 : (i : Int) < ((pushed s i l (k + 1)).decks.length : Int) := by have := HI.out; simp [pushed]; omega
      have hn0 : (0 : Int) ≤ (i : Int) := by omega
      have hk0 : (0 : Int) ≤ (k : Int) := by omega
      have hk1 : (k : Int) < (l.length : Int) := by omega
      have hbk := Aside0.mk hback
      have hQk := Aside0.mk hQ
      have hXk := Aside0.mk hXi
      have hne1 := Aside0.mk hgi
      have hne2 := Aside0.mk hgI
      clear hback hQ hXi hgi hgI
      generalize hN : (pushed s i l (k + 1)).decks.length = N at *
      have HNN := Aside0.mk hN
      clear hN
      simp only [Int.toNat_natCast] at cl
      go_wp2
      have hglt : g < wr.heap.size := blk_lt HSk.out.blk
      have hadlt : (ad.add k).block < wr.heap.size := World.block_lt_of_cell? wr _ cl
      have HB8 : Aside0 ((D.length + 1) * 8 ≤ 140737488355328) := ⟨by have h1 := pushed_len (k := k + 1) HI.out HN.out; rw [HD.out] at h1; omega⟩
      go_region_law (refine Kd.Q_append_step (W := wr.drew) (Kd.int .i64) (w0 := w0) w0.heap.size rfl (.tmp 27) (.tmp 32) 32 3 (.int .i64 0) 8 rfl Try.underlying32 info3 rfl (by decide) (by decide) (.slice A1 D.length c1) D (rd l k) [.int .i64 (rd l k)] (fun q => q ≠ gd ∧ (some q = (Value.slice A1 D.length c1).ownBlock ∨ wr.heap.size ≤ q)) (fun _ => False) (by simp [Act.eval, Act.put]) (by simp [Act.eval, Act.put]) rfl (fun _ hk => hk.elim) (fun q hq => ⟨by have : wr.heap.size ≤ q := hq; omega, .inr hq⟩) (Kd.Q_drew hQk.out) (below_drew HSk.out.bel) HSk.out.bel.size HB8.out ?_; intro v1 w1 ho hb hg hat; have hg2 : wr.grownBy w1 (Value.slice A1 D.length c1).ownBlock := ⟨hg.os, hg.tape, hg.output, hg.size, hg.block⟩; obtain ⟨cw, fw, eg, ⟨cells, hcs⟩, hF⟩ := hbk.out w1 v1 (D ++ [rd l k]) ho hb hg2; have c0' : w1.cell? ⟨g, 0, none⟩ = some (.slice (some ⟨gd, 0, none⟩) N cap) := (cell_blk (eg.trans HSk.out.blk) 0).trans (by rw [← HNN.out]; rfl); have HF := Aside0.mk hF; have HG2 := Aside0.mk hg2; have HCS := Aside0.mk hcs; obtain ⟨A2, c2, rfl, hc2⟩ := Kd.Q_slice ho; clear ho hb hg hat hg2 eg hcs hF hc2)
      all_goals
        clear hbk
        go_wp2
        go_roundg (k + 1)
        case measure => omega
        case rel =>
          refine ⟨k, (k : Int) - 1, rfl, ⟨rfl⟩, rfl, by omega, ?_, ?_, ?_⟩
          · have q := HF.out
            rw [← HD.out, pushed_step HI.out (by omega), HD.out, List.length_append] at q
            exact ⟨q⟩
          · exact ⟨by rw [size_set]; exact Nat.le_trans HZ.out HG2.out.size⟩
          · exact ⟨Kd.R_set (Kd.R_grown HLk.out HG2.out (fun q hx => hXk.out q hx)) HCS.out (by decide) _ _⟩

end Go.Proofs.Ytoaimlpbliabdaa.QFnExactEventsOf
namespace Go.Proofs.Ytoaimlpbliabdaa.QFnExactEventsOf
open Go.RowKit Go.Proofs.YtoaimlpbliabdaaW.PrintWords Go.Proofs.YtoaimlpbliabdaaW.PrintLast Go.Proofs.YtoaimlpbliabdaaW.PrintMore
set_option linter.unusedVariables false
set_option linter.unusedSimpArgs false

theorem grown_refl (w : World) (row : Option Nat) : w.grownBy w row := ⟨rfl, rfl, rfl, Nat.le_refl _, fun _ _ _ => rfl⟩
theorem grown_drewN (w : World) (n : Nat) (row : Option Nat) : w.grownBy (w.drewN n) row := ⟨rfl, rfl, rfl, Nat.le_refl _, fun _ _ _ => rfl⟩

set_option maxRecDepth 100000 in
set_option maxHeartbeats 2000000 in
theorem take_own {w0 w : World} {g : Nat} {dv lv pv qv tv : Value} {uA : Option Addr} {uc : Nat} {nA : Option Addr} {nc : Nat} {s : WS} (h : SpW (fun _ => False) w0 w g dv lv pv qv tv uA uc nA nc s)
    (i : Nat) (hi : i < s.decks.length) (m : Nat) (D : List Int) (hD : s.decks.getD i [] = D) (hm : D.length = m) (hm1 : 1 ≤ m) (hmb : m < 1000) :
    Calls Try.prog 133 #[.pointer (some ⟨g, 0, none⟩), .int .i64 (i : Int)] w fun e w' => e = .returned (.int .i64 (rd D ((m : Int) - 1))) ∧ SpW (fun _ => False) w0 w' g dv lv pv qv tv uA uc nA nc { s with decks := s.decks.set i (D.take (m - 1)) } := by
  have HS := Aside0.mk h
  obtain ⟨gd, cap, iv, A, c, hdv, hiv, hAc, hcell, hfr, hgl, hgg, hgi, hgI, hXi, hQ, hback⟩ := h.lend (fun _ hx => hx.elim) i hi
  rw [hD] at hiv hAc hQ
  have hC := hQ
  subst hdv hiv
  obtain ⟨ad, hA, cl⟩ := Kd.at_int (Kd.Q_reads' hC).2.2 ((m : Int) - 1) (by omega) (by omega)
  subst hA
  have cl2 : w.cell? (ad.add (m - 1)) = some (.int .i64 (rd D ((m : Int) - 1))) := by rw [show m - 1 = ((m : Int) - 1).toNat by omega]; exact cl
  have c0 : w.cell? ⟨g, 0, none⟩ = some (.slice (some ⟨gd, 0, none⟩) s.decks.length cap) := cell_blk h.blk 0
  obtain ⟨x1, x2, x3, x4, hF⟩ := hback w (.slice (some ad) (m - 1) c) (D.take (m - 1)) (by have := Kd.Q_take hQ (m := m - 1) (by omega); exact this) h.bel (grown_refl _ _)
  have HF := Aside0.mk hF
  clear x1 x2 x3 x4
  have hi1 : (i : Int) < (s.decks.length : Int) := by omega
  have hi0 : (0 : Int) ≤ (i : Int) := by omega
  rw [hm] at hcell hAc
  have hmc : m - 1 ≤ c := by omega
  have hm2 : (0 : Int) ≤ (m : Int) - 1 := by omega
  have hm3 : (m : Int) - 1 < (m : Int) := by omega
  have HM := Aside0.mk hm
  have HD := Aside0.mk hD
  clear hback hQ hXi hgi hgI hC hF hD hm h
  go_enter Try.func133, Try.ntmps133
  go_wp2
  go_ret
  exact ⟨rfl, HF.out⟩

end Go.Proofs.Ytoaimlpbliabdaa.QFnExactEventsOf
namespace Go.Proofs.Ytoaimlpbliabdaa.QFnExactEventsOf
open Go.RowKit Go.Proofs.YtoaimlpbliabdaaW.PrintWords Go.Proofs.YtoaimlpbliabdaaW.PrintLast Go.Proofs.YtoaimlpbliabdaaW.PrintMore
set_option linter.unusedVariables false
set_option linter.unusedSimpArgs false

section
variable {X : Nat → Prop} {w0 w : World} {g : Nat} {dv lv pv qv tv : Value} {uA : Option Addr} {uc : Nat} {nA : Option Addr} {nc : Nat} {s : WS}
theorem SpW.below_ (h : SpW X w0 w g dv lv pv qv tv uA uc nA nc s) {w1 : World} (hb : Below w.heap.size w w1) : SpW X w0 w1 g dv lv pv qv tv uA uc nA nc s :=
  ⟨(hb.block g (blk_lt h.blk)).trans h.blk, h.g0, Kd.S_below h.dk hb, Kd.R_below h.lf hb, Kd.R_below h.pr hb, Kd.R_below h.po hb, Kd.R_below h.td hb, h.up, h.upc, h.dr, h.drc, below_then h.bel h.bel.size hb⟩
theorem SpW.drewN_ (h : SpW X w0 w g dv lv pv qv tv uA uc nA nc s) (n : Nat) : SpW X w0 (w.drewN n) g dv lv pv qv tv uA uc nA nc s := h.below_ (pw_below_drewN (Below.refl _ _) n)
theorem SpW.set_ (h : SpW X w0 w g dv lv pv qv tv uA uc nA nc s) (j : Nat) (v : Value) (s' : WS)
    (he : (#[dv, lv, pv, qv, tv, .int .i64 s.steps, .slice uA s.up.length uc, .slice nA s.draws.length nc, .int .i64 s.drawn] : Array Value).setIfInBounds j v = #[dv, lv, pv, qv, tv, .int .i64 s'.steps, .slice uA s.up.length uc, .slice nA s.draws.length nc, .int .i64 s'.drawn])
    (hs : s' = { s with steps := s'.steps, drawn := s'.drawn }) : SpW X w0 (w.setCell ⟨g, j, none⟩ v) g dv lv pv qv tv uA uc nA nc s' := by
  have hk := h.blk
  rw [hs]
  refine ⟨?_, h.g0, Kd.S_set h.dk hk (by decide) _ _, Kd.R_set h.lf hk (by decide) _ _, Kd.R_set h.pr hk (by decide) _ _, Kd.R_set h.po hk (by decide) _ _, Kd.R_set h.td hk (by decide) _ _, h.up, h.upc, h.dr, h.drc, below_setCell h.bel h.g0⟩
  rw [blk_set hk, he]
theorem SpW.drawn_ (h : SpW X w0 w g dv lv pv qv tv uA uc nA nc s) (d : Int) : SpW X w0 (w.setCell ⟨g, 8, none⟩ (.int .i64 d)) g dv lv pv qv tv uA uc nA nc { s with drawn := d } := h.set_ 8 _ _ rfl rfl
theorem SpW.steps_ (h : SpW X w0 w g dv lv pv qv tv uA uc nA nc s) (d : Int) : SpW X w0 (w.setCell ⟨g, 5, none⟩ (.int .i64 d)) g dv lv pv qv tv uA uc nA nc { s with steps := d } := h.set_ 5 _ _ rfl rfl
theorem SpW.reads (h : SpW X w0 w g dv lv pv qv tv uA uc nA nc s) : ∃ A c, dv = .slice A s.decks.length c ∧ s.decks.length ≤ c ∧ Kd.C (Kd.slice 3 (Kd.int .i64)) w A s.decks.length s.decks := by
  obtain ⟨A, c, e, hl, hr⟩ := Kd.S_reads h.dk
  exact ⟨A, c, e, hl, hr⟩
end

/-- 's[1:]' of a row of one's own: the value under a name. -/
theorem cut1 {ad : Addr} {n c : Nat} {xs : List Int} {w : World} {base : Nat} {ok : Nat → Prop} (h : (Kd.int .i64).Q 3 w base ok (.slice (some ad) n c) xs) (h1 : 1 ≤ n) :
    ∃ A, (∀ W : World, (Instr.slice 32 (.slice (some ad) n c) (some (.int .i64 1)) none none).run Try.prog W = .ok (.slice A (n - 1) (c - 1)) W) ∧ (Kd.int .i64).Q 3 w base ok (.slice A (n - 1) (c - 1)) (xs.drop 1) := by
  obtain ⟨i0, hi, _, hsz, _⟩ := info_parts info3
  have hn := (Kd.Q_reads' h).1
  exact ⟨_, fun W => cut_from (P := Try.prog) 32 3 .i64 Try.underlying32 hi 1 hsz (some ad) n c 1 (by omega) (by omega) W, Kd.Q_drop h (k := 1) (by omega)⟩
theorem add_zero (ad : Addr) : ad.add 0 = ad := rfl

set_option maxRecDepth 100000 in
set_option maxHeartbeats 2000000 in
theorem take_steal {w0 w : World} {g : Nat} {dv lv pv qv tv : Value} {uA : Option Addr} {uc : Nat} {nA : Option Addr} {nc : Nat} {s : WS} (h : SpW (fun _ => False) w0 w g dv lv pv qv tv uA uc nA nc s)
    (i : Nat) (hi : i < s.decks.length) (hD : s.decks.getD i [] = []) (d : Nat) (hd : s.drawn = (d : Int)) (hdb : d < 2000000) (dr : Nat) (hdr : (d < s.draws.length ∧ rd s.draws (d : Int) = (dr : Int)) ∨ (s.draws.length ≤ d ∧ dr = 0)) (hdrb : dr < 1000)
    (kk : Nat) (vs : List Int) (hvs : spec_l12Victims.f kk s.decks (i : Int) = some vs) (hv0 : 0 < vs.length) (hvb : vs.length < 1000) (k : Nat) (hk : rd vs ((dr : Int) % (vs.length : Int)) = (k : Int)) (hkl : k < s.decks.length) (DK : List Int) (hDK : s.decks.getD k [] = DK) (hDk : 0 < DK.length) :
    Calls Try.prog 133 #[.pointer (some ⟨g, 0, none⟩), .int .i64 (i : Int)] w fun e w' => e = .returned (.int .i64 (rd DK 0)) ∧ SpW (fun _ => False) w0 w' g dv lv pv qv tv uA uc nA nc { s with decks := s.decks.set k (DK.drop 1), drawn := (d : Int) + 1 } := by
  have HS := Aside0.mk h
  obtain ⟨gd, cap, iv, A, c, hdv, hiv, hAc, hcell, hfr, hgl, hgg, -, -, -, -, -⟩ := h.lend (fun _ hx => hx.elim) i hi
  rw [hD] at hiv hAc
  subst hdv hiv
  have c0 : w.cell? ⟨g, 0, none⟩ = some (.slice (some ⟨gd, 0, none⟩) s.decks.length cap) := cell_blk h.blk 0
  have c7 : w.cell? ⟨g, 7, none⟩ = some (.slice nA s.draws.length nc) := cell_blk h.blk 7
  have c8 : w.cell? ⟨g, 8, none⟩ = some (.int .i64 (d : Int)) := by rw [← hd]; exact cell_blk h.blk 8
  have f8 : w.frozen? ⟨g, 8, none⟩ = false := free_blk h.blk 8
  have hglt := blk_lt h.blk
  have hi1 : (i : Int) < (s.decks.length : Int) := by omega
  have hi0 : (0 : Int) ≤ (i : Int) := by omega
  have HD := Aside0.mk hd
  have HV := Aside0.mk hvs
  have HK := Aside0.mk hk
  have HDk := Aside0.mk hDk
  have HDK := Aside0.mk hDK
  clear hd hvs hk hDk hDK hD h
  rcases hdr with ⟨hdl, hdr⟩ | ⟨hdl, rfl⟩
  · obtain ⟨ad2, hA2, cl2⟩ := Kd.at_int (Kd.C_below HS.out.dr HS.out.bel) (d : Int) (by omega) (by omega)
    subst hA2
    rw [hdr] at cl2
    simp only [Int.toNat_natCast] at cl2
    have hd1 : (d : Int) < (s.draws.length : Int) := by omega
    have hd0 : (0 : Int) ≤ (d : Int) := by omega
    clear hdr
    go_enter Try.func133, Try.ntmps133
    go_wp2_with fail
    go_quiet (fail)
    go_wp2_with fail
    go_quiet (fail)
    go_wp2_with fail
    refine (spec_l12Victims.calls kk _ _ s.decks (i : Int) vs _ (Kd.S_reads' ((HS.out.drewN_ _).drawn_ ((d : Int) + 1)).dk).2.2 (Kd.S_reads' HS.out.dk).2.1 HV.out).mono ?_
    rintro e w2 ⟨v0, rfl, hR, hB⟩
    have HS3 := Aside0.mk (((HS.out.drewN_ _).drawn_ ((d : Int) + 1)).below_ hB)
    obtain ⟨A3, c3, rfl⟩ := Kd.R_slice hR
    have hm0 := Int.emod_nonneg (dr : Int) (b := (vs.length : Int)) (by omega)
    have hm1 := Int.emod_lt_of_pos (dr : Int) (b := (vs.length : Int)) (by omega)
    obtain ⟨ad3, hA3, cl3⟩ := Kd.at_int (Kd.R_reads' hR).2.2 ((dr : Int) % (vs.length : Int)) hm0 hm1
    subst hA3
    rw [HK.out] at cl3
    have cl3' : w2.cell? (ad3.add (dr % vs.length)) = some (.int .i64 (k : Int)) := by rw [show dr % vs.length = ((dr : Int) % (vs.length : Int)).toNat by rw [← Int.natCast_emod]; rfl]; exact cl3
    have hm2 : dr % vs.length < vs.length := Nat.mod_lt _ hv0
    have q := HS3.out.lend (fun _ hx => hx.elim) k hkl
    dsimp only at q
    obtain ⟨gd', cap', iv, A4, c4, hdv, hiv, hAc4, hcell4, hfr4, hgl4, hgg4, hgi4, hgI4, hX4, hQ4, hback⟩ := q
    rw [HDK.out] at hiv hAc4 hQ4
    injection hdv with ha1 ha2 ha3
    injection ha1 with ha1
    injection ha1 with ha1 _ _
    subst ha1
    have hDk2 : 1 ≤ DK.length := HDk.out
    obtain ⟨ad4, hA4, cl4⟩ := Kd.at_int (Kd.Q_reads' (hiv ▸ hQ4)).2.2 0 (by omega) (by omega)
    subst hA4 hiv
    obtain ⟨A5, hcut, hQ5⟩ := cut1 hQ4 hDk2
    obtain ⟨x1, x2, x3, x4, hF⟩ := hback w2 _ _ hQ5 HS3.out.bel (grown_refl _ _)
    have HF := Aside0.mk hF
    have cl4' : w2.cell? ad4 = some (.int .i64 (rd DK 0)) := cl4
    have hk1 : (k : Int) < (s.decks.length : Int) := by omega
    have hk0 : (0 : Int) ≤ (k : Int) := by omega
    clear hF x1 x2 x3 x4 hback hQ4 hQ5 hX4 hgi4 hgI4 hB hR ha2 ha3 cl4
    generalize hL : DK.length = L at *
    go_wp2_with fail
    go_ret
    exact ⟨rfl, HF.out⟩
  · have hd1 : ¬ ((d : Int) < (s.draws.length : Int)) := by omega
    go_enter Try.func133, Try.ntmps133
    go_wp2_with fail
    go_quiet (fail)
    go_wp2_with fail
    refine (spec_l12Victims.calls kk _ _ s.decks (i : Int) vs _ (Kd.S_reads' ((HS.out.drewN_ _).drawn_ ((d : Int) + 1)).dk).2.2 (Kd.S_reads' HS.out.dk).2.1 HV.out).mono ?_
    rintro e w2 ⟨v0, rfl, hR, hB⟩
    have HS3 := Aside0.mk (((HS.out.drewN_ _).drawn_ ((d : Int) + 1)).below_ hB)
    obtain ⟨A3, c3, rfl⟩ := Kd.R_slice hR
    have hm0 := Int.emod_nonneg ((0 : Nat) : Int) (b := (vs.length : Int)) (by omega)
    have hm1 := Int.emod_lt_of_pos ((0 : Nat) : Int) (b := (vs.length : Int)) (by omega)
    obtain ⟨ad3, hA3, cl3⟩ := Kd.at_int (Kd.R_reads' hR).2.2 (((0 : Nat) : Int) % (vs.length : Int)) hm0 hm1
    subst hA3
    rw [HK.out] at cl3
    have cl3' : w2.cell? ad3 = some (.int .i64 (k : Int)) := by
      have e0 : (((0 : Nat) : Int) % (vs.length : Int)).toNat = 0 := by simp
      rw [e0] at cl3
      exact cl3
    have q := HS3.out.lend (fun _ hx => hx.elim) k hkl
    dsimp only at q
    obtain ⟨gd', cap', iv, A4, c4, hdv, hiv, hAc4, hcell4, hfr4, hgl4, hgg4, hgi4, hgI4, hX4, hQ4, hback⟩ := q
    rw [HDK.out] at hiv hAc4 hQ4
    injection hdv with ha1 ha2 ha3
    injection ha1 with ha1
    injection ha1 with ha1 _ _
    subst ha1
    have hDk2 : 1 ≤ DK.length := HDk.out
    obtain ⟨ad4, hA4, cl4⟩ := Kd.at_int (Kd.Q_reads' (hiv ▸ hQ4)).2.2 0 (by omega) (by omega)
    subst hA4 hiv
    obtain ⟨A5, hcut, hQ5⟩ := cut1 hQ4 hDk2
    obtain ⟨x1, x2, x3, x4, hF⟩ := hback w2 _ _ hQ5 HS3.out.bel (grown_refl _ _)
    have HF := Aside0.mk hF
    have cl4' : w2.cell? ad4 = some (.int .i64 (rd DK 0)) := cl4
    have hk1 : (k : Int) < (s.decks.length : Int) := by omega
    have hk0 : (0 : Int) ≤ (k : Int) := by omega
    clear hF x1 x2 x3 x4 hback hQ4 hQ5 hX4 hgi4 hgI4 hB hR ha2 ha3 cl4
    generalize hL : DK.length = L at *
    go_wp2_with fail
    go_ret
    exact ⟨rfl, HF.out⟩

end Go.Proofs.Ytoaimlpbliabdaa.QFnExactEventsOf
namespace Go.Proofs.Ytoaimlpbliabdaa.QFnExactEventsOf
open Go.RowKit Go.Proofs.YtoaimlpbliabdaaW.PrintWords Go.Proofs.YtoaimlpbliabdaaW.PrintLast Go.Proofs.YtoaimlpbliabdaaW.PrintMore
set_option linter.unusedVariables false
set_option linter.unusedSimpArgs false

/-- The workers up to k that have something, or could take something. -/
def readyTo (decks : List (List Int)) (vict : Nat → List Int) : Nat → List Int
  | 0 => []
  | k + 1 => readyTo decks vict k ++ (if 0 < (decks.getD k []).length ∨ 0 < (vict k).length then [(k : Int)] else [])
theorem readyTo_len (decks : List (List Int)) (vict : Nat → List Int) (k : Nat) : (readyTo decks vict k).length ≤ k := by
  induction k with
  | zero => simp [readyTo]
  | succ k ih => unfold readyTo; rw [List.length_append]; split <;> simp <;> omega

set_option maxRecDepth 100000 in
set_option maxHeartbeats 2000000 in
theorem ready_calls {w0 w : World} {g : Nat} {dv lv pv qv tv : Value} {uA : Option Addr} {uc : Nat} {nA : Option Addr} {nc : Nat} {s : WS} (h : SpW (fun _ => False) w0 w g dv lv pv qv tv uA uc nA nc s)
    (n : Nat) (hn : s.decks.length = n) (hn0 : 0 < n) (hnb : n < 1000) (kk : Nat) (vict : Nat → List Int) (hv : ∀ k, k < n → spec_l12Victims.f kk s.decks (k : Int) = some (vict k)) (hvb : ∀ k, (vict k).length < 1000) (hdb : ∀ k, (s.decks.getD k []).length < 1000) :
    Calls Try.prog 87 #[.pointer (some ⟨g, 0, none⟩)] w fun e w' => ∃ v, e = .returned v ∧ Kd.R (Kd.int .i64) 3 w' w.heap.size (fun _ => True) v (readyTo s.decks vict n) ∧ Below w.heap.size w w' := by
  have HS := Aside0.mk h
  obtain ⟨gd, cap, _, _, _, hdv, -, -, -, -, hgl, -, -, -, -, -, -⟩ := h.lend (fun _ hx => hx.elim) 0 (by omega)
  subst hdv
  rw [hn] at HS
  have c0 : w.cell? ⟨g, 0, none⟩ = some (.slice (some ⟨gd, 0, none⟩) n cap) := by rw [← hn]; exact cell_blk h.blk 0
  have hglt := blk_lt h.blk
  have HN := Aside0.mk hn
  have HV := Aside0.mk hv
  have HVB := Aside0.mk hvb
  have HDB := Aside0.mk hdb
  clear hv hvb hdb hn h
  go_enter Try.func87, Try.ntmps87
  go_wp2
  go_loopg [3, 11] (n + 1) (fun kq v3 v11 w' => ∃ k : Nat, v11 = .int .i64 (k : Int) ∧ k ≤ n ∧ kq + k = n + 1 ∧ Aside0 (Kd.R (Kd.int .i64) 3 w' w.heap.size (fun _ => True) v3 (readyTo s.decks vict k)) ∧ Aside0 (Below w.heap.size w w'))
  case atStart => exact ⟨0, rfl, by omega, by omega, ⟨Kd.R_nil _ _ _ _ _⟩, ⟨Below.refl _ _⟩⟩
  case round =>
    obtain ⟨k, rfl, hkn, hkq, HR, HB⟩ := hrel
    by_cases hlt : k < n
    · have q := (HS.out.below_ HB.out).lend (fun _ hx => hx.elim) k (by rw [HN.out]; exact hlt)
      rw [HN.out] at q
      obtain ⟨gd', cap', iv, A, c, hdv, hiv, hAc, hcell, -, hgl4, -, -, -, -, -, -⟩ := q
      injection hdv with ha1 ha2 ha3
      injection ha1 with ha1
      injection ha1 with ha1 _ _
      subst ha1 hiv
      have hrd : readyTo s.decks vict (k + 1) = readyTo s.decks vict k ++ (if 0 < (s.decks.getD k []).length ∨ 0 < (vict k).length then [(k : Int)] else []) := rfl
      have HRD := Aside0.mk hrd
      have HL2 := Aside0.mk (readyTo_len s.decks vict k)
      have c0r : wr.cell? ⟨g, 0, none⟩ = some (.slice (some ⟨gd, 0, none⟩) n cap) := (HB.out.cell (p := ⟨g, 0, none⟩) hglt).trans c0
      have hLb : (s.decks.getD k []).length < 1000 := HDB.out k
      have hk1 : (k : Int) < (n : Int) := by omega
      have hk0 : (0 : Int) ≤ (k : Int) := by omega
      clear ha2 ha3 hrd
      generalize hL : (s.decks.getD k []).length = L at *
      have HLL := Aside0.mk hL
      clear hL
      by_cases hpos : 0 < L
      · have HRR := HR
        have HBB := HB
        go_wp2_with ((with_reducible refine gate_builtin (b := .append) (xs := #[.tmp 35, .tmp 37]) rfl ?_); at_builtin; refine Kd.R_append (Kd.int .i64) (w0 := w) w.heap.size rfl (.tmp 35) (.tmp 37) 32 3 (.int .i64 0) 8 rfl Try.underlying32 info3 rfl (by decide) (by omega) u3 (readyTo s.decks vict k) (k : Int) [.int .i64 (k : Int)] (fun _ => True) (fun _ => False) rfl rfl rfl (fun _ hk => hk.elim) (fun _ _ => trivial) ?aO ?aB ?aS ?aL ?_; (case aO => exact HRR.out); (case aB => exact HBB.out); (case aS => exact HBB.out.size); (case aL => have := HL2.out; omega); intro v1 w1 ho hb hg hat; have HO1 := Aside0.mk ho; have HB1 := Aside0.mk hb; clear ho hb hg hat)
        go_roundg (gk - 1)
        case measure => omega
        case rel =>
          refine ⟨k + 1, by go_num, by omega, by omega, ⟨?_⟩, ⟨HB1.out⟩⟩
          have q := HO1.out
          rw [HRD.out, if_pos (.inl hpos)]
          exact q
      · obtain rfl : L = 0 := by omega
        go_wp2_with fail
        have hcall := spec_l12Victims.calls kk (some ⟨gd, 0, none⟩) cap s.decks (k : Int) (vict k) wr (HN.out ▸ (Kd.S_reads' (HS.out.below_ HB.out).dk).2.2) (HN.out ▸ (Kd.S_reads' HS.out.dk).2.1) (HV.out k hlt)
        rw [HN.out] at hcall
        refine hcall.mono ?_
        clear hcall
        rintro e w2 ⟨v0, rfl, hR, hB⟩
        obtain ⟨A3, c3, rfl⟩ := Kd.R_slice hR
        have HBB := Aside0.mk (below_then HB.out HB.out.size hB)
        have HRR := Aside0.mk (Kd.R_below HR.out hB)
        have hvb := HVB.out k
        clear hR hB
        generalize hM : (vict k).length = M at *
        have HM := Aside0.mk hM
        clear hM
        by_cases hpos : 0 < M
        · go_wp2_with ((with_reducible refine gate_builtin (b := .append) (xs := #[.tmp 35, .tmp 37]) rfl ?_); at_builtin; refine Kd.R_append (Kd.int .i64) (w0 := w) w.heap.size rfl (.tmp 35) (.tmp 37) 32 3 (.int .i64 0) 8 rfl Try.underlying32 info3 rfl (by decide) (by omega) u3 (readyTo s.decks vict k) (k : Int) [.int .i64 (k : Int)] (fun _ => True) (fun _ => False) rfl rfl rfl (fun _ hk => hk.elim) (fun _ _ => trivial) ?aO ?aB ?aS ?aL ?_; (case aO => exact HRR.out); (case aB => exact HBB.out); (case aS => exact HBB.out.size); (case aL => have := HL2.out; omega); intro v1 w1 ho hb hg hat; have HO1 := Aside0.mk ho; have HB1 := Aside0.mk hb; clear ho hb hg hat)
          go_roundg (gk - 1)
          case measure => omega
          case rel =>
            refine ⟨k + 1, by go_num, by omega, by omega, ⟨?_⟩, ⟨HB1.out⟩⟩
            have q := HO1.out
            rw [HRD.out, if_pos (.inr hpos)]
            exact q

        · obtain rfl : M = 0 := by omega
          go_wp2_with fail
          go_roundg (gk - 1)
          case measure => omega
          case rel =>
            refine ⟨k + 1, by go_num, by omega, by omega, ⟨?_⟩, ⟨HBB.out⟩⟩
            have q := HRR.out
            rw [HRD.out, if_neg (by omega), List.append_nil]
            exact q
    · obtain rfl : k = n := by omega
      go_wp2
      go_ret
      exact ⟨_, rfl, HR.out, HB.out⟩

end Go.Proofs.Ytoaimlpbliabdaa.QFnExactEventsOf
