/- The reference's pool walked: its steps as the model says. No conditions but those of each lemma. -/
import Derived.Test.YtoaimlpbliabdaaPlA
import Derived.Test.YtoaimlpbliabdaaPoolModel
import Derived.Test.YtoaimlpbliabdaaQFnExactEventsOfx2
namespace Go.Proofs.Ytoaimlpbliabdaa.QFnExactEventsOf
open Go.RowKit Go.Proofs.YtoaimlpbliabdaaW.PrintWords Go.Proofs.YtoaimlpbliabdaaW.PrintLast Go.Proofs.YtoaimlpbliabdaaW.PrintMore
set_option linter.unusedVariables false
set_option linter.unusedSimpArgs false

section
variable {X : Nat → Prop} {w0 w : World} {g : Nat} {dv lv pv qv tv : Value} {uA : Option Addr} {uc : Nat} {nA : Option Addr} {nc : Nat} {s : WS}
theorem SpW.pre_ (h : SpW X w0 w g dv lv pv qv tv uA uc nA nc s) (t : Nat) (ht : t < s.pre.length) :
    ∃ gp cap, pv = .slice (some ⟨gp, 0, none⟩) s.pre.length cap ∧ w.cell? ⟨gp, t, none⟩ = some (.bool (rdOf false s.pre (t : Int))) ∧ w.frozen? ⟨gp, t, none⟩ = false ∧ gp < w.heap.size ∧ gp ≠ g ∧
      SpW X w0 (w.setCell ⟨gp, t, none⟩ (.bool true)) g dv lv pv qv tv uA uc nA nc { s with pre := s.pre.set t true } := by
  obtain ⟨gp, cap, rfl, hb, hl, cells, hcells⟩ := Kd.R_form h.pr (by omega)
  obtain ⟨hc, hf⟩ := Kd.R_cell false h.pr (t : Int) (by omega) (by omega)
  obtain ⟨hR, hg⟩ := Kd.R_put h.pr (t : Int) true
  have hgg : gp ≠ g := by
    rintro rfl
    have := hcells.symm.trans h.blk
    injection this with this
    injection this with _ h2 _
    exact absurd h2 (by decide)
  have hty : ∀ k, (Value.slice (some ⟨gp, 0, none⟩) s.pre.length cap).ownBlock = some k → ∃ cells, w.heap[k]? = some (.cells cells 4 (0, 0)) := Kd.R_typed h.pr
  have hg2 : w.grownBy (w.setCell ⟨gp, t, none⟩ (.bool true)) (Value.slice (some ⟨gp, 0, none⟩) s.pre.length cap).ownBlock := hg
  refine ⟨gp, cap, rfl, hc, hf, hl, hgg, ⟨?_, h.g0, Kd.S_over' h.dk hty (by decide) hg2, Kd.R_over' h.lf hty (by decide) hg2, hR, ?_, Kd.R_over' h.td hty (by decide) hg2, h.up, h.upc, h.dr, h.drc, below_setCell h.bel hb⟩⟩
  · rw [Below.heap_setCell w ⟨gp, t, none⟩ _ g (Ne.symm hgg)]; exact h.blk
  · exact Kd.R_mono (Kd.R_grown (Kd.R_tight rfl h.po) hg (fun k e he => h.pr.1 gp rfl (by rw [← e, he]))) (fun _ _ => trivial)
theorem SpW.post_ (h : SpW X w0 w g dv lv pv qv tv uA uc nA nc s) (t : Nat) (ht : t < s.post.length) :
    ∃ gp cap, qv = .slice (some ⟨gp, 0, none⟩) s.post.length cap ∧ w.cell? ⟨gp, t, none⟩ = some (.bool (rdOf false s.post (t : Int))) ∧ w.frozen? ⟨gp, t, none⟩ = false ∧ gp < w.heap.size ∧ gp ≠ g ∧
      SpW X w0 (w.setCell ⟨gp, t, none⟩ (.bool true)) g dv lv pv qv tv uA uc nA nc { s with post := s.post.set t true } := by
  obtain ⟨gp, cap, rfl, hb, hl, cells, hcells⟩ := Kd.R_form h.po (by omega)
  obtain ⟨hc, hf⟩ := Kd.R_cell false h.po (t : Int) (by omega) (by omega)
  obtain ⟨hR, hg⟩ := Kd.R_put h.po (t : Int) true
  have hgg : gp ≠ g := by
    rintro rfl
    have := hcells.symm.trans h.blk
    injection this with this
    injection this with _ h2 _
    exact absurd h2 (by decide)
  have hty : ∀ k, (Value.slice (some ⟨gp, 0, none⟩) s.post.length cap).ownBlock = some k → ∃ cells, w.heap[k]? = some (.cells cells 4 (0, 0)) := Kd.R_typed h.po
  have hg2 : w.grownBy (w.setCell ⟨gp, t, none⟩ (.bool true)) (Value.slice (some ⟨gp, 0, none⟩) s.post.length cap).ownBlock := hg
  refine ⟨gp, cap, rfl, hc, hf, hl, hgg, ⟨?_, h.g0, Kd.S_over' h.dk hty (by decide) hg2, Kd.R_over' h.lf hty (by decide) hg2, ?_, hR, Kd.R_over' h.td hty (by decide) hg2, h.up, h.upc, h.dr, h.drc, below_setCell h.bel hb⟩⟩
  · rw [Below.heap_setCell w ⟨gp, t, none⟩ _ g (Ne.symm hgg)]; exact h.blk
  · exact Kd.R_grown h.pr hg (fun k hk he => hk (by rw [he]; rfl))
theorem SpW.left_ (h : SpW X w0 w g dv lv pv qv tv uA uc nA nc s) (t : Nat) (ht : t < s.left.length) :
    ∃ gp cap, lv = .slice (some ⟨gp, 0, none⟩) s.left.length cap ∧ w.cell? ⟨gp, t, none⟩ = some (.int .i64 (rdOf 0 s.left (t : Int))) ∧ w.frozen? ⟨gp, t, none⟩ = false ∧ gp < w.heap.size ∧ gp ≠ g ∧
      ∀ x : Int, SpW X w0 (w.setCell ⟨gp, t, none⟩ (.int .i64 x)) g dv lv pv qv tv uA uc nA nc { s with left := s.left.set t x } := by
  obtain ⟨gp, cap, rfl, hb, hl, cells, hcells⟩ := Kd.R_form h.lf (by omega)
  obtain ⟨hc, hf⟩ := Kd.R_cell 0 h.lf (t : Int) (by omega) (by omega)
  have hgg : gp ≠ g := by
    rintro rfl
    have := hcells.symm.trans h.blk
    injection this with this
    injection this with _ h2 _
    exact absurd h2 (by decide)
  refine ⟨gp, cap, rfl, hc, hf, hl, hgg, fun x => ?_⟩
  obtain ⟨hR, hg⟩ := Kd.R_put h.lf (t : Int) x
  have hty : ∀ k, (Value.slice (some ⟨gp, 0, none⟩) s.left.length cap).ownBlock = some k → ∃ cells, w.heap[k]? = some (.cells cells 3 (0, 0)) := Kd.R_typed h.lf
  have hg2 : w.grownBy (w.setCell ⟨gp, t, none⟩ (.int .i64 x)) (Value.slice (some ⟨gp, 0, none⟩) s.left.length cap).ownBlock := hg
  refine ⟨?_, h.g0, Kd.S_grown h.dk hg (fun k hk he => hk.1 (by rw [he]; rfl)), hR, Kd.R_over' h.pr hty (by decide) hg2, Kd.R_over' h.po hty (by decide) hg2, Kd.R_over' h.td hty (by decide) hg2, h.up, h.upc, h.dr, h.drc, below_setCell h.bel hb⟩
  rw [Below.heap_setCell w ⟨gp, t, none⟩ _ g (Ne.symm hgg)]; exact h.blk
end

open PoolModel in
def evS (e : Ev) : S93 := ⟨e.kind, e.task, e.worker⟩
open PoolModel in
def WS.of (up draws : List Int) (p : PSt) : WS := { decks := p.decks, left := p.left, pre := p.pre, post := p.post, told := p.told.map evS, steps := (p.steps : Int), up := up, draws := draws, drawn := (p.drawn : Int) }

end Go.Proofs.Ytoaimlpbliabdaa.QFnExactEventsOf
namespace Go.Proofs.Ytoaimlpbliabdaa.QFnExactEventsOf
open Go.RowKit Go.Proofs.YtoaimlpbliabdaaW.PrintWords Go.Proofs.YtoaimlpbliabdaaW.PrintLast Go.Proofs.YtoaimlpbliabdaaW.PrintMore PoolModel
set_option linter.unusedVariables false
set_option linter.unusedSimpArgs false

theorem wrap_up {i : Nat} {n : Nat} (h : i < n) (hn : n ≤ 2000000) : wrap64 ((i : Int) + 1) = ((i + 1 : Nat) : Int) := by
  unfold wrap64
  omega
theorem rd_at {l : List Int} {i : Nat} (h : i < l.length) : rd l (i : Int) = l[i] := by
  simp [rd, h]
theorem idx_drop {α : Type} (p : Nat → α → Bool) (l : List α) {i : Nat} (h : i < l.length) : idx p (l.drop i) i = (if p i l[i] then [(i : Int)] else []) ++ idx p (l.drop (i + 1)) (i + 1) := by
  rw [List.drop_eq_getElem_cons h]
  conv => lhs; unfold idx
  split <;> rfl

theorem below_l0 (up : List Int) (t : Int) (hn : up.length ≤ 2000000) : ∀ (d i k : Nat) (acc : List Int), i ≤ up.length → up.length - i = d → d < k → acc.length ≤ i →
    spec_l13Below.l0 k t acc up (up.length : Int) (i : Int) = some (acc ++ idx (fun _ x => decide (x = t)) (up.drop i) i) := by
  intro d
  induction d with
  | zero =>
    intro i k acc hi hd hk ha
    obtain ⟨k, rfl⟩ : ∃ m, k = m + 1 := ⟨k - 1, by omega⟩
    simp only [spec_l13Below.l0]
    rw [if_neg (by omega), List.drop_eq_nil_of_le (by omega)]
    simp [idx]
  | succ d ih =>
    intro i k acc hi hd hk ha
    obtain ⟨k, rfl⟩ : ∃ m, k = m + 1 := ⟨k - 1, by omega⟩
    have hlt : i < up.length := by omega
    simp only [spec_l13Below.l0]
    rw [if_pos (by omega), if_pos (by omega), if_pos (by omega), wrap_up hlt hn, rd_at hlt, idx_drop _ _ hlt]
    by_cases e : up[i] = t
    · rw [if_pos e, if_pos (by omega), ih (i + 1) k _ (by omega) (by omega) (by omega) (by simp; omega), if_pos (by simpa using e)]
      simp
    · rw [if_neg e, ih (i + 1) k _ (by omega) (by omega) (by omega) (by omega), if_neg (by simpa using e)]
      simp
theorem below_f {up : List Int} (t : Int) (hn : up.length ≤ 2000000) {k : Nat} (hk : up.length < k) : spec_l13Below.f k up t = some (belowIn up t) := by
  unfold spec_l13Below.f
  have := below_l0 up t hn up.length 0 k [] (by omega) (by omega) hk (by simp)
  simpa [belowIn] using this

theorem victims_l0 (ds : List (List Int)) (w : Int) (hn : ds.length ≤ 2000000) : ∀ (d i k : Nat) (acc : List Int), i ≤ ds.length → ds.length - i = d → d < k → acc.length ≤ i →
    spec_l12Victims.l0 k w acc ds (ds.length : Int) (i : Int) = some (acc ++ idx (fun i l => decide ((i : Int) ≠ w) && !l.isEmpty) (ds.drop i) i) := by
  intro d
  induction d with
  | zero =>
    intro i k acc hi hd hk ha
    obtain ⟨k, rfl⟩ : ∃ m, k = m + 1 := ⟨k - 1, by omega⟩
    simp only [spec_l12Victims.l0]
    rw [if_neg (by omega), List.drop_eq_nil_of_le (by omega)]
    simp [idx]
  | succ d ih =>
    intro i k acc hi hd hk ha
    obtain ⟨k, rfl⟩ : ∃ m, k = m + 1 := ⟨k - 1, by omega⟩
    have hlt : i < ds.length := by omega
    have hrd : rd_L1 ds (i : Int) = ds[i] := by simp [rd_L1, hlt]
    simp only [spec_l12Victims.l0]
    rw [if_pos (by omega), if_pos (by omega), if_pos (by omega), wrap_up hlt hn, hrd, idx_drop _ _ hlt]
    by_cases e : (i : Int) = w
    · rw [if_pos e, ih (i + 1) k _ (by omega) (by omega) (by omega) (by omega), if_neg (by simp [e])]
      simp
    · rw [if_neg e]
      by_cases e2 : ds[i] = []
      · rw [if_neg (by simp [e2]), ih (i + 1) k _ (by omega) (by omega) (by omega) (by omega), if_neg (by simp [e2])]
        simp
      · have hp := List.length_pos_iff.2 e2
        rw [if_pos (by omega), if_pos (by omega), ih (i + 1) k _ (by omega) (by omega) (by omega) (by simp; omega), if_pos (by simp [e, e2])]
        simp
theorem victims_f {ds : List (List Int)} (w : Int) (hn : ds.length ≤ 2000000) {k : Nat} (hk : ds.length < k) : spec_l12Victims.f k ds w = some (victims ds w) := by
  unfold spec_l12Victims.f
  have := victims_l0 ds w hn ds.length 0 k [] (by omega) (by omega) hk (by simp)
  simpa [victims] using this

end Go.Proofs.Ytoaimlpbliabdaa.QFnExactEventsOf
namespace Go.Proofs.Ytoaimlpbliabdaa.QFnExactEventsOf
open Go.RowKit Go.Proofs.YtoaimlpbliabdaaW.PrintWords Go.Proofs.YtoaimlpbliabdaaW.PrintLast Go.Proofs.YtoaimlpbliabdaaW.PrintMore PoolModel
set_option linter.unusedVariables false
set_option linter.unusedSimpArgs false

/-- What is drawn: numbers of 0 .. 999. -/
def Drawn (draws : List Int) : Prop := ∀ i, 0 ≤ draws.getD i 0 ∧ draws.getD i 0 < 1000

theorem take_model {w0 w : World} {g : Nat} {dv lv pv qv tv : Value} {uA : Option Addr} {uc : Nat} {nA : Option Addr} {nc : Nat} {up draws : List Int} {p : PSt} {workers : Nat} (h : SpW (fun _ => False) w0 w g dv lv pv qv tv uA uc nA nc (WS.of up draws p))
    (hF : Forest up) (hI : Inv up workers p) (hb : busy p = true) (hdr : Drawn draws) (hdb : p.drawn < 2000000) (i : Nat) (hi : i < workers) (hwb : workers < 1000) :
    Calls Try.prog 133 #[.pointer (some ⟨g, 0, none⟩), .int .i64 (i : Int)] w fun e w' => e = .returned (.int .i64 (taken draws p (i : Int)).1) ∧ SpW (fun _ => False) w0 w' g dv lv pv qv tv uA uc nA nc (WS.of up draws (taken draws p (i : Int)).2) := by
  have hi' : i < (WS.of up draws p).decks.length := by show i < p.decks.length; rw [hI.hd]; exact hi
  have hup := hF.1
  by_cases he : p.decks.getD i [] = []
  · have hv := victims_pos hb he
    have hvl : (victims p.decks (i : Int)).length ≤ p.decks.length := idx_length
    rw [hI.hd] at hvl
    have hd0 := hdr p.drawn
    obtain ⟨dr, hdre⟩ : ∃ dr : Nat, draws.getD p.drawn 0 = (dr : Int) := ⟨(draws.getD p.drawn 0).toNat, by omega⟩
    have hm := mod_lt (a := (dr : Int)) hv
    obtain ⟨k, hk, hke, _, hne⟩ := mem_victims.1 (getD_mem (d := 0) hm)
    have hDk : p.decks.getD k [] = p.decks[k] := by rw [List.getD_eq_getElem?_getD, List.getElem?_eq_getElem hk]; rfl
    refine (take_steal h i hi' he p.drawn rfl hdb dr ?_ (by omega) 2000001 (victims p.decks (i : Int)) (victims_f _ (by show p.decks.length ≤ _; rw [hI.hd]; omega) (by show p.decks.length < _; rw [hI.hd]; omega)) hv (by omega) k hke hk p.decks[k] hDk (List.length_pos_iff.2 hne)).mono ?_
    · by_cases hl : p.drawn < draws.length
      · exact .inl ⟨hl, by show draws.getD (p.drawn : Int).toNat 0 = _; simpa using hdre⟩
      · refine .inr ⟨by show draws.length ≤ _; omega, ?_⟩
        rw [List.getD_eq_getElem?_getD, List.getElem?_eq_none (by omega)] at hdre
        have : (0 : Int) = (dr : Int) := hdre
        omega
    · rintro e w' ⟨rfl, hw'⟩
      have ht : taken draws p (i : Int) = (p.decks[k].getD 0 0, { p with decks := p.decks.set k (p.decks[k].drop 1), drawn := p.drawn + 1 }) := by
        unfold taken
        simp only [Int.toNat_natCast]
        rw [if_pos he]
        have hk2 : ((victims p.decks (i : Int)).getD (draws.getD p.drawn 0 % ((victims p.decks (i : Int)).length : Int)).toNat 0).toNat = k := by rw [hdre, hke]; simp
        simp only [hk2, hDk]
      rw [ht]
      exact ⟨rfl, hw'⟩
  · have hl := List.length_pos_iff.2 he
    have hlb := hI.deck_le i
    refine (take_own h i hi' (p.decks.getD i []).length (p.decks.getD i []) rfl rfl (by omega) (by omega)).mono ?_
    rintro e w' ⟨rfl, hw'⟩
    have ht : taken draws p (i : Int) = ((p.decks.getD i []).getD ((p.decks.getD i []).length - 1) 0, { p with decks := p.decks.set i ((p.decks.getD i []).take ((p.decks.getD i []).length - 1)) }) := by
      unfold taken
      simp only [Int.toNat_natCast]
      rw [if_neg he]
    rw [ht]
    refine ⟨?_, hw'⟩
    have : rd (p.decks.getD i []) (((p.decks.getD i []).length : Int) - 1) = (p.decks.getD i []).getD ((p.decks.getD i []).length - 1) 0 := by
      unfold rd
      congr 1
      omega
    rw [this]

end Go.Proofs.Ytoaimlpbliabdaa.QFnExactEventsOf
namespace Go.Proofs.Ytoaimlpbliabdaa.QFnExactEventsOf
open Go.RowKit Go.Proofs.YtoaimlpbliabdaaW.PrintWords Go.Proofs.YtoaimlpbliabdaaW.PrintLast Go.Proofs.YtoaimlpbliabdaaW.PrintMore PoolModel
set_option linter.unusedVariables false
set_option linter.unusedSimpArgs false

section
variable {X : Nat → Prop} {w0 w : World} {g : Nat} {dv lv pv qv tv : Value} {uA : Option Addr} {uc : Nat} {nA : Option Addr} {nc : Nat} {s : WS}
theorem SpW.excl (h : SpW (fun _ => False) w0 w g dv lv pv qv tv uA uc nA nc s) {w1 : World} (hb : Below w.heap.size w w1) {v : Value} (hbase : ∀ k, v.ownBlock = some k → w.heap.size ≤ k) : SpW (fun k => some k = v.ownBlock) w0 w1 g dv lv pv qv tv uA uc nA nc s :=
  have h1 := h.below_ hb
  ⟨h1.blk, h1.g0, Kd.S_mono (Kd.S_elder' h.dk hbase hb) (fun _ hk => ⟨hk.1.1, hk.2⟩), h1.lf, h1.pr, h1.po, h1.td, h1.up, h1.upc, h1.dr, h1.drc, h1.bel⟩
theorem SpW.free (h : SpW X w0 w g dv lv pv qv tv uA uc nA nc s) : SpW (fun _ => False) w0 w g dv lv pv qv tv uA uc nA nc s :=
  ⟨h.blk, h.g0, Kd.S_mono h.dk (fun _ hk => ⟨hk.1, fun h => h⟩), h.lf, h.pr, h.po, h.td, h.up, h.upc, h.dr, h.drc, h.bel⟩
end
theorem begun_ws (up draws : List Int) (P : PSt) (t i : Nat) : ({ pushed { ({ WS.of up draws P with pre := P.pre.set t true } : WS) with told := (WS.of up draws P).told ++ [⟨1, (t : Int), (i : Int)⟩] } i (belowIn up (t : Int)) 0 with steps := (P.steps : Int) + 1 } : WS) = WS.of up draws (PoolModel.begun up P (t : Int) (i : Int)) := by
  simp [pushed, WS.of, PoolModel.begun, evS]

set_option maxRecDepth 100000 in
set_option maxHeartbeats 2000000 in
theorem step_mid {w0 w : World} {g : Nat} {dv lv pv qv tv : Value} {uA : Option Addr} {uc : Nat} {nA : Option Addr} {nc : Nat} {up draws : List Int} {p : PSt} {workers : Nat} (h : SpW (fun _ => False) w0 w g dv lv pv qv tv uA uc nA nc (WS.of up draws p))
    (hF : Forest up) (hG : PoolModel.Good up workers p) (hb : busy p = true) (hdr : Drawn draws) (hdb : p.drawn < 2000000) (i : Nat) (hi : i < workers) (hwb : workers < 1000)
    (t : Nat) (ht : (taken draws p (i : Int)).1 = (t : Int)) (htl : t < up.length) (hne : belowIn up (t : Int) ≠ []) :
    Calls Try.prog 121 #[.pointer (some ⟨g, 0, none⟩), .int .i64 (i : Int)] w fun e w' => e = .returned (.tuple #[]) ∧ ∃ tv', SpW (fun _ => False) w0 w' g dv lv pv qv tv' uA uc nA nc (WS.of up draws (PoolModel.begun up (taken draws p (i : Int)).2 (t : Int) (i : Int))) := by
  have hT := taken_spec (draws := draws) hb (w := i) (by rw [hG.inv.hd]; exact hi)
  have hcall := take_model h hF hG.inv hb hdr hdb i hi hwb
  rw [ht] at hcall
  have HC := Aside0.mk hcall
  have hPp := hT.pre
  have hPt := hT.told
  have hPd := hT.len
  have hPl := hT.deck_le hG.inv i
  have hPs := hT.steps
  have hGs := hG.steps_le
  generalize (taken draws p (i : Int)).2 = P at hPp hPt hPd hPl hPs HC ⊢
  have hpre : P.pre.length = up.length := by rw [hPp, hG.inv.hp]
  have htold : P.told.length < 1000 - 5 := by rw [hPt]; have := hG.told_le; have := hF.1; omega
  have hdk : i < P.decks.length := by rw [hPd, hG.inv.hd]; exact hi
  have HF := Aside0.mk hF
  have hBl := below_len up (t : Int)
  have hup := hF.1
  have hBp := List.length_pos_iff.2 hne
  have hglt := blk_lt h.blk
  have HPre := Aside0.mk hpre
  have HTold := Aside0.mk htold
  have HDk := Aside0.mk hdk
  have HPl := Aside0.mk hPl
  have HPs : Aside0 ((P.steps : Int) < 1000) := ⟨by omega⟩
  clear hcall hT hF hb hdr hne ht h hPp hPt hPd hPl hPs hGs hpre htold hdk hG
  go_enter Try.func121, Try.ntmps121
  go_wp2_with fail
  refine HC.out.mono ?_
  rintro e w1 ⟨rfl, h1⟩
  have hpl : t < (WS.of up draws P).pre.length := by show t < P.pre.length; rw [HPre.out]; exact htl
  obtain ⟨gp, cap, rfl, hpc, hpf, hpg, hpgg, h1'⟩ := h1.pre_ t hpl
  have H1 := Aside0.mk h1'
  have c2 : w1.cell? ⟨g, 2, none⟩ = some (.slice (some ⟨gp, 0, none⟩) (WS.of up draws P).pre.length cap) := cell_blk h1.blk 2
  have hn1 : (t : Int) < ((WS.of up draws P).pre.length : Int) := by omega
  have hn0 : (0 : Int) ≤ (t : Int) := by omega
  clear h1 h1'
  generalize hN : (WS.of up draws P).pre.length = N at *
  have HN := Aside0.mk hN
  clear hN
  go_wp2_with fail
  refine (tell_calls H1.out (by show (P.told.map evS).length < 1000; rw [List.length_map]; have := HTold.out; omega) 1 (t : Int) (i : Int)).mono ?_
  rintro e w2 ⟨rfl, tv2, h2⟩
  have H2 := Aside0.mk h2
  have c6 : w2.cell? ⟨g, 6, none⟩ = some (.slice uA up.length uc) := cell_blk h2.blk 6
  clear h2
  go_wp2_with fail
  refine (spec_l13Below.calls 2000001 uA uc up (t : Int) (belowIn up (t : Int)) _ (Kd.C_below H2.out.up H2.out.bel) H2.out.upc (below_f (t : Int) (by omega) (by omega))).mono ?_
  rintro e w3 ⟨v3, rfl, hR3, hB3⟩
  obtain ⟨A3, c3, rfl⟩ := Kd.R_slice hR3
  have H3 := Aside0.mk (H2.out.excl hB3 (Kd.R_base hR3))
  have HL := Aside0.mk (Kd.R_lower (Kd.R_tight rfl hR3) H2.out.bel.size)
  have HX := Aside0.mk (Kd.R_lt hR3)
  have HB3 := Aside0.mk hB3
  clear hR3 hB3
  go_wp2_with fail
  refine (push_calls H3.out (fun k hk => HX.out k hk.symm) i HDk.out A3 c3 (belowIn up (t : Int)) HL.out (by show (P.decks.getD i []).length + _ < 1000; have := HPl.out; omega)).mono ?_
  rintro e w4 ⟨rfl, h4⟩
  have h4' := h4.free
  have H4 := Aside0.mk (h4'.steps_ ((P.steps : Int) + 1))
  have c5 : w4.cell? ⟨g, 5, none⟩ = some (.int .i64 (P.steps : Int)) := cell_blk h4.blk 5
  have f5 : w4.frozen? ⟨g, 5, none⟩ = false := free_blk h4.blk 5
  have hst : (P.steps : Int) < 1000 := HPs.out
  have hst0 : (0 : Int) ≤ (P.steps : Int) := by omega
  clear h4 h4'
  generalize hM : (belowIn up (t : Int)).length = M at *
  clear hM
  go_wp2_with fail
  refine bodyPost_ret (results_none rfl _ _ _) rfl ?_
  refine ⟨rfl, tv2, ?_⟩
  rw [HN.out, ← begun_ws]
  exact H4.out

end Go.Proofs.Ytoaimlpbliabdaa.QFnExactEventsOf
namespace Go.Proofs.Ytoaimlpbliabdaa.QFnExactEventsOf
open Go.RowKit Go.Proofs.YtoaimlpbliabdaaW.PrintWords Go.Proofs.YtoaimlpbliabdaaW.PrintLast Go.Proofs.YtoaimlpbliabdaaW.PrintMore PoolModel
set_option linter.unusedVariables false
set_option linter.unusedSimpArgs false

theorem told1_ws (up draws : List Int) (P : PSt) (t i : Nat) : ({ ({ WS.of up draws P with post := P.post.set t true } : WS) with told := (WS.of up draws P).told ++ [⟨2, (t : Int), (i : Int)⟩] } : WS) = WS.of up draws (told1 P (t : Int) (i : Int)) := by
  simp [WS.of, told1, evS]
theorem Inv.left_lt {up : List Int} {workers : Nat} {p : PSt} (h : Inv up workers p) (hF : Forest up) {u : Nat} (hu : u < up.length) : 0 ≤ p.left.getD u 0 ∧ p.left.getD u 0 < 1000 := by
  rw [h.hL u hu]
  have : open_ up p.post (u : Int) ≤ (belowIn up (u : Int)).length := List.length_filter_le _ _
  have := below_len up (u : Int)
  have := hF.1
  omega
theorem posts_lt {up : List Int} {k : Nat} {p : PSt} {t i : Nat} (h : up.getD t 0 < 0) : posts (k + 1) up p (t : Int) (i : Int) = told1 p (t : Int) (i : Int) := by
  unfold posts
  simp only [Int.toNat_natCast]
  rw [if_pos h]
  rfl
theorem posts_stop {up : List Int} {k : Nat} {p : PSt} {t i u : Nat} (h : up.getD t 0 = (u : Int)) (h2 : 0 < p.left.getD u 0 - 1) : posts (k + 1) up p (t : Int) (i : Int) = { told1 p (t : Int) (i : Int) with left := p.left.set u (p.left.getD u 0 - 1) } := by
  unfold posts
  simp only [Int.toNat_natCast]
  rw [if_neg (by omega)]
  simp only [h, Int.toNat_natCast]
  rw [if_pos h2]
  rfl
theorem posts_on {up : List Int} {k : Nat} {p : PSt} {t i u : Nat} (h : up.getD t 0 = (u : Int)) (h2 : ¬ 0 < p.left.getD u 0 - 1) : posts (k + 1) up p (t : Int) (i : Int) = posts k up { told1 p (t : Int) (i : Int) with left := p.left.set u (p.left.getD u 0 - 1) } (u : Int) (i : Int) := by
  conv => lhs; unfold posts
  simp only [Int.toNat_natCast]
  rw [if_neg (by omega)]
  simp only [h, Int.toNat_natCast]
  rw [if_neg h2]
  rfl
theorem left_ws (up draws : List Int) (P : PSt) (u : Nat) (x : Int) : ({ WS.of up draws P with left := P.left.set u x } : WS) = WS.of up draws { P with left := P.left.set u x } := rfl

set_option maxRecDepth 100000 in
set_option maxHeartbeats 2000000 in
theorem step_end {w0 w : World} {g : Nat} {dv lv pv qv tv : Value} {uA : Option Addr} {uc : Nat} {nA : Option Addr} {nc : Nat} {up draws : List Int} {p : PSt} {workers : Nat} (h : SpW (fun _ => False) w0 w g dv lv pv qv tv uA uc nA nc (WS.of up draws p))
    (hF : Forest up) (hG : PoolModel.Good up workers p) (hb : busy p = true) (hdr : Drawn draws) (hdb : p.drawn < 2000000) (i : Nat) (hi : i < workers) (hwb : workers < 1000)
    (t : Nat) (ht : (taken draws p (i : Int)).1 = (t : Int)) (htl : t < up.length) (hne : belowIn up (t : Int) = []) :
    Calls Try.prog 121 #[.pointer (some ⟨g, 0, none⟩), .int .i64 (i : Int)] w fun e w' => e = .returned (.tuple #[]) ∧ ∃ tv', SpW (fun _ => False) w0 w' g dv lv pv qv tv' uA uc nA nc (WS.of up draws (posts up.length up (PoolModel.begun up (taken draws p (i : Int)).2 (t : Int) (i : Int)) (t : Int) (i : Int))) := by
  have hT := taken_spec (draws := draws) hb (w := i) (by rw [hG.inv.hd]; exact hi)
  obtain ⟨t2, ht2, _, _, hI2, hD2, hp2, hq2, ho2⟩ := begun_inv hF hG.inv hG.done hT hi
  obtain rfl : t = t2 := by rw [ht] at ht2; omega
  rw [ht] at hI2 hD2 hp2 hq2 ho2
  rw [hne] at ho2
  have hAt : At up (PoolModel.begun up (taken draws p (i : Int)).2 (t : Int) (i : Int)) t := ⟨htl, hp2, hq2, ho2, hD2⟩
  clear hD2 hp2 hq2 ho2
  have hcall := take_model h hF hG.inv hb hdr hdb i hi hwb
  rw [ht] at hcall
  have HC := Aside0.mk hcall
  have hPp := hT.pre
  have hPt := hT.told
  have hPd := hT.len
  have hPl := hT.deck_le hG.inv i
  have hPs := hT.steps
  have hGs := hG.steps_le
  generalize (taken draws p (i : Int)).2 = P at hPp hPt hPd hPl hPs HC hI2 hAt ⊢
  have hpre : P.pre.length = up.length := by rw [hPp, hG.inv.hp]
  have htold : P.told.length < 1000 - 5 := by rw [hPt]; have := hG.told_le; have := hF.1; omega
  have hdk : i < P.decks.length := by rw [hPd, hG.inv.hd]; exact hi
  have HF := Aside0.mk hF
  have hBl := below_len up (t : Int)
  have hup := hF.1
  have HNE := Aside0.mk hne
  have HI2 := Aside0.mk hI2
  have HAt := Aside0.mk hAt
  clear hI2 hAt
  have hglt := blk_lt h.blk
  have HPre := Aside0.mk hpre
  have HTold := Aside0.mk htold
  have HDk := Aside0.mk hdk
  have HPl := Aside0.mk hPl
  have HPs : Aside0 ((P.steps : Int) < 1000) := ⟨by omega⟩
  clear hcall hT hF hb hdr hne ht h hPp hPt hPd hPl hPs hGs hpre htold hdk hG
  go_enter Try.func121, Try.ntmps121
  go_wp2_with fail
  refine HC.out.mono ?_
  rintro e w1 ⟨rfl, h1⟩
  have hpl : t < (WS.of up draws P).pre.length := by show t < P.pre.length; rw [HPre.out]; exact htl
  obtain ⟨gp, cap, rfl, hpc, hpf, hpg, hpgg, h1'⟩ := h1.pre_ t hpl
  have H1 := Aside0.mk h1'
  have c2 : w1.cell? ⟨g, 2, none⟩ = some (.slice (some ⟨gp, 0, none⟩) (WS.of up draws P).pre.length cap) := cell_blk h1.blk 2
  have hn1 : (t : Int) < ((WS.of up draws P).pre.length : Int) := by omega
  have hn0 : (0 : Int) ≤ (t : Int) := by omega
  clear h1 h1'
  generalize hN : (WS.of up draws P).pre.length = N at *
  have HN := Aside0.mk hN
  clear hN
  go_wp2_with fail
  refine (tell_calls H1.out (by show (P.told.map evS).length < 1000; rw [List.length_map]; have := HTold.out; omega) 1 (t : Int) (i : Int)).mono ?_
  rintro e w2 ⟨rfl, tv2, h2⟩
  have H2 := Aside0.mk h2
  have c6 : w2.cell? ⟨g, 6, none⟩ = some (.slice uA up.length uc) := cell_blk h2.blk 6
  clear h2
  go_wp2_with fail
  refine (spec_l13Below.calls 2000001 uA uc up (t : Int) (belowIn up (t : Int)) _ (Kd.C_below H2.out.up H2.out.bel) H2.out.upc (below_f (t : Int) (by omega) (by omega))).mono ?_
  rintro e w3 ⟨v3, rfl, hR3, hB3⟩
  obtain ⟨A3, c3, rfl⟩ := Kd.R_slice hR3
  have H3 := Aside0.mk (H2.out.excl hB3 (Kd.R_base hR3))
  have HL := Aside0.mk (Kd.R_lower (Kd.R_tight rfl hR3) H2.out.bel.size)
  have HX := Aside0.mk (Kd.R_lt hR3)
  have HB3 := Aside0.mk hB3
  clear hR3 hB3
  go_wp2_with fail
  refine (push_calls H3.out (fun k hk => HX.out k hk.symm) i HDk.out A3 c3 (belowIn up (t : Int)) HL.out (by show (P.decks.getD i []).length + _ < 1000; have := HPl.out; omega)).mono ?_
  rintro e w4 ⟨rfl, h4⟩
  have h4' := h4.free
  have H4 := Aside0.mk (h4'.steps_ ((P.steps : Int) + 1))
  have c5 : w4.cell? ⟨g, 5, none⟩ = some (.int .i64 (P.steps : Int)) := cell_blk h4.blk 5
  have f5 : w4.frozen? ⟨g, 5, none⟩ = false := free_blk h4.blk 5
  have hst : (P.steps : Int) < 1000 := HPs.out
  have hst0 : (0 : Int) ≤ (P.steps : Int) := by omega
  clear h4 h4'
  have H5 : Aside0 (SpW (fun _ => False) w0 (w4.setCell ⟨g, 5, none⟩ (.int .i64 ((P.steps : Int) + 1))) g dv lv (.slice (some ⟨gp, 0, none⟩) N cap) qv tv2 uA uc nA nc (WS.of up draws (PoolModel.begun up P (t : Int) (i : Int)))) := ⟨by rw [← begun_ws]; exact H4.out⟩
  clear H4
  generalize hM : (belowIn up (t : Int)).length = M at *
  obtain rfl : M = 0 := by rw [← hM, HNE.out]; rfl
  clear hM
  go_wp2_with fail
  generalize hW : (w4.setCell ⟨g, 5, none⟩ (.int .i64 ((P.steps : Int) + 1))) = w5 at H5 ⊢
  clear hW
  go_loopg [4] up.length (fun kq v4 w' => ∃ (t' : Nat) (p' : PSt) (tv' : Value), v4 = .int .i64 (t' : Int) ∧ t' < kq ∧ kq ≤ up.length ∧ Aside0 (SpW (fun _ => False) w0 w' g dv lv (.slice (some ⟨gp, 0, none⟩) N cap) qv tv' uA uc nA nc (WS.of up draws p')) ∧ Aside0 (Inv up workers p') ∧ Aside0 (At up p' t') ∧ Aside0 (posts kq up p' (t' : Int) (i : Int) = posts up.length up (PoolModel.begun up P (t : Int) (i : Int)) (t : Int) (i : Int)))
  case atStart => exact ⟨t, _, tv2, rfl, htl, Nat.le_refl _, H5, HI2, HAt, ⟨rfl⟩⟩
  case round =>
    obtain ⟨t', p', tv', rfl, htk, hkl, HS', HI', HA', HE'⟩ := hrel
    obtain ⟨k, rfl⟩ : ∃ k, gk = k + 1 := ⟨gk - 1, by omega⟩
    have hpl' : t' < (WS.of up draws p').post.length := by show t' < p'.post.length; rw [HI'.out.hq]; exact HA'.out.lt
    have htl' := HA'.out.lt
    obtain ⟨gq, cq, rfl, hqc, hqf, hql, hqgg, hS1⟩ := HS'.out.post_ t' hpl'
    have HS1 := Aside0.mk hS1
    have c3' : wr.cell? ⟨g, 3, none⟩ = some (.slice (some ⟨gq, 0, none⟩) (WS.of up draws p').post.length cq) := cell_blk HS'.out.blk 3
    have hn1' : (t' : Int) < ((WS.of up draws p').post.length : Int) := by omega
    have hn0' : (0 : Int) ≤ (t' : Int) := by omega
    have HT5 : Aside0 (p'.told.length < 995) := ⟨by
      have h1 := HI'.out.ht
      have h2 := PoolModel.count_le (l := p'.pre)
      have h3 := PoolModel.count_le (l := p'.post)
      rw [HI'.out.hp] at h2
      rw [HI'.out.hq] at h3
      omega⟩
    clear hS1
    generalize hQ : (WS.of up draws p').post.length = NQ at *
    have HQ := Aside0.mk hQ
    clear hQ
    go_wp2_with fail
    refine (tell_calls HS1.out (by show (p'.told.map evS).length < 1000; rw [List.length_map]; have := HT5.out; omega) 2 (t' : Int) (i : Int)).mono ?_
    rintro e w6 ⟨rfl, tv6, h6⟩
    have H6 : Aside0 (SpW (fun _ => False) w0 w6 g dv lv (.slice (some ⟨gp, 0, none⟩) N cap) (.slice (some ⟨gq, 0, none⟩) NQ cq) tv6 uA uc nA nc (WS.of up draws (told1 p' (t' : Int) (i : Int)))) := ⟨by rw [← told1_ws]; exact h6⟩
    have c6' : w6.cell? ⟨g, 6, none⟩ = some (.slice uA up.length uc) := cell_blk h6.blk 6
    obtain ⟨adU, hAU, cU⟩ := Kd.at_int (Kd.C_below h6.up h6.bel) (t' : Int) (by omega) (by show (t' : Int) < ((up.length : Nat) : Int); omega)
    have hut1 : (t' : Int) < (up.length : Int) := by omega
    simp only [Int.toNat_natCast] at cU
    have hrdu : rd (WS.of up draws p').up (t' : Int) = up.getD t' 0 := by unfold rd; simp [WS.of]
    have hAU2 := hAU
    clear h6
    subst hAU
    by_cases hu : up.getD t' 0 < 0
    · have cU2 : ∃ x : Int, x < 0 ∧ w6.cell? (adU.add t') = some (.int .i64 x) := ⟨_, hu, by rw [← hrdu]; exact cU⟩
      obtain ⟨x, hx, cU2⟩ := cU2
      have HU := Aside0.mk hu
      clear cU hu hrdu
      go_wp2_with fail
      refine bodyPost_ret (results_none rfl _ _ _) rfl ?_
      refine ⟨rfl, tv6, ?_⟩
      have q := HE'.out
      rw [posts_lt HU.out] at q
      rw [← q, HN.out, HQ.out]
      exact H6.out
    · obtain ⟨u, hu2⟩ : ∃ u : Nat, up.getD t' 0 = (u : Int) := ⟨(up.getD t' 0).toNat, by omega⟩
      rw [hrdu, hu2] at cU
      obtain ⟨hI3, hut, hA3⟩ := posts_step (w := (i : Int)) HF.out HI'.out HA'.out hu2
      have hul : u < up.length := by omega
      have hxb := Inv.left_lt HI'.out HF.out hul
      obtain ⟨gl, cl, rfl, hlc, hlf, hll, hlgg, hSl⟩ := H6.out.left_ u (by show u < p'.left.length; rw [HI'.out.hl]; exact hul)
      have c1' : w6.cell? ⟨g, 1, none⟩ = some (.slice (some ⟨gl, 0, none⟩) (WS.of up draws (told1 p' (t' : Int) (i : Int))).left.length cl) := cell_blk H6.out.blk 1
      have hxe : rdOf 0 (WS.of up draws (told1 p' (t' : Int) (i : Int))).left (u : Int) = p'.left.getD u 0 := by unfold rdOf; simp [WS.of, told1]
      rw [hxe] at hlc
      have hul1 : (u : Int) < ((WS.of up draws (told1 p' (t' : Int) (i : Int))).left.length : Int) := by show (u : Int) < ((p'.left.length : Nat) : Int); rw [HI'.out.hl]; omega
      have hul0 : (0 : Int) ≤ (u : Int) := by omega
      have hSl2 := hSl (p'.left.getD u 0 - 1)
      have HSl : Aside0 (SpW (fun _ => False) w0 (w6.setCell ⟨gl, u, none⟩ (.int .i64 (p'.left.getD u 0 - 1))) g dv (.slice (some ⟨gl, 0, none⟩) (WS.of up draws (told1 p' (t' : Int) (i : Int))).left.length cl) (.slice (some ⟨gp, 0, none⟩) N cap) (.slice (some ⟨gq, 0, none⟩) NQ cq) tv6 (some adU) uc nA nc (WS.of up draws { told1 p' (t' : Int) (i : Int) with left := p'.left.set u (p'.left.getD u 0 - 1) })) := ⟨hSl2⟩
      have HU2 := Aside0.mk hu2
      have HI3 := Aside0.mk hI3
      have HA3 := Aside0.mk hA3
      clear hSl hSl2 hxe hI3 hA3 hu2 hrdu hu
      generalize hX : p'.left.getD u 0 = x at *
      generalize hNL : (WS.of up draws (told1 p' (t' : Int) (i : Int))).left.length = NL at *
      have HX3 := Aside0.mk hX
      have HNL := Aside0.mk hNL
      clear hX hNL
      by_cases hpos : 0 < x - 1
      · go_wp2_with fail
        refine bodyPost_ret (results_none rfl _ _ _) rfl ?_
        refine ⟨rfl, tv6, ?_⟩
        have q := HE'.out
        rw [posts_stop HU2.out (by rw [HX3.out]; exact hpos), HX3.out] at q
        rw [← q, HN.out, HQ.out, HNL.out]
        exact HSl.out
      · go_wp2_with fail
        go_roundg k
        case measure => omega
        case rel =>
          have q := HE'.out
          have hnp : ¬ 0 < x - 1 := by omega
          rw [posts_on HU2.out (by rw [HX3.out]; exact hnp), HX3.out] at q
          exact ⟨u, _, tv6, rfl, by omega, by omega, HSl, HI3, ⟨HA3.out hpos⟩, ⟨q⟩⟩

end Go.Proofs.Ytoaimlpbliabdaa.QFnExactEventsOf
namespace Go.Proofs.Ytoaimlpbliabdaa.QFnExactEventsOf
open Go.RowKit Go.Proofs.YtoaimlpbliabdaaW.PrintWords Go.Proofs.YtoaimlpbliabdaaW.PrintLast Go.Proofs.YtoaimlpbliabdaaW.PrintMore PoolModel
set_option linter.unusedVariables false
set_option linter.unusedSimpArgs false

theorem step_calls {w0 w : World} {g : Nat} {dv lv pv qv tv : Value} {uA : Option Addr} {uc : Nat} {nA : Option Addr} {nc : Nat} {up draws : List Int} {p : PSt} {workers : Nat} (h : SpW (fun _ => False) w0 w g dv lv pv qv tv uA uc nA nc (WS.of up draws p))
    (hF : Forest up) (hG : PoolModel.Good up workers p) (hb : busy p = true) (hdr : Drawn draws) (hdb : p.drawn < 2000000) (i : Nat) (hi : i < workers) (hwb : workers < 1000) :
    Calls Try.prog 121 #[.pointer (some ⟨g, 0, none⟩), .int .i64 (i : Int)] w fun e w' => e = .returned (.tuple #[]) ∧ ∃ tv', SpW (fun _ => False) w0 w' g dv lv pv qv tv' uA uc nA nc (WS.of up draws (stepBy up draws p (i : Int))) := by
  have hT := taken_spec (draws := draws) hb (w := i) (by rw [hG.inv.hd]; exact hi)
  obtain ⟨t, ht, htl, _⟩ := begun_inv hF hG.inv hG.done hT hi
  by_cases hne : belowIn up (t : Int) = []
  · have := step_end h hF hG hb hdr hdb i hi hwb t ht htl hne
    unfold stepBy
    simp only
    rw [ht, if_pos hne]
    exact this
  · have := step_mid h hF hG hb hdr hdb i hi hwb t ht htl hne
    unfold stepBy
    simp only
    rw [ht, if_neg hne]
    exact this

end Go.Proofs.Ytoaimlpbliabdaa.QFnExactEventsOf
namespace Go.Proofs.Ytoaimlpbliabdaa.QFnExactEventsOf
open Go.RowKit Go.Proofs.YtoaimlpbliabdaaW.PrintWords Go.Proofs.YtoaimlpbliabdaaW.PrintLast Go.Proofs.YtoaimlpbliabdaaW.PrintMore PoolModel
set_option linter.unusedVariables false
set_option linter.unusedSimpArgs false

/-- A block of zeros is a row of its own. -/
theorem R_zeros {α : Type} (d : Kd α) {w : World} {base e b m : Nat} {z : Value} {z0 : α} {ok : Nat → Prop} (hb : w.heap[b]? = some (.cells (madeCells z.cells (m * d.sz)) e (0, 0))) (hz : z.cells.size = d.sz) (hs0 : 0 < d.sz)
    (hzero : d.M w base (fun _ => False) z0 z.cells.toList) (hbase : base ≤ b) (hok : ok b) (hm : m ≤ 2000000) : d.R e w base ok (.slice (some ⟨b, 0, none⟩) m m) (List.replicate m z0) := by
  have hsz : (madeCells z.cells (m * d.sz)).size = m * d.sz := size_madeCells _ _
  refine ⟨fun k hk => ?_, (madeCells z.cells (m * d.sz)).toList, ⟨?_, .inr ⟨b, m, _, ?_, hbase, hb, ?_, ?_, hsz, ?_⟩⟩, ?_⟩
  · have : b = k := by simpa [Value.ownBlock] using hk
    subst this; exact hok
  · simp [hsz]
  · simp
  · simp
  · unfold maxLen; omega
  · rw [List.length_replicate, List.take_of_length_le (by rw [Array.length_toList, hsz]; exact Nat.le_refl _)]
  · exact Kd.reps_made hz hs0 (d.M_mono (fun _ h => h.elim) hzero) m

def ws0 (up draws : List Int) (workers : Nat) : WS := { decks := List.replicate workers [], left := List.replicate up.length 0, pre := List.replicate up.length false, post := List.replicate up.length false, told := [], steps := 0, up := up, draws := draws, drawn := 0 }

theorem SpW.begin {w w' : World} {g b1 b2 b3 b4 workers : Nat} {uA nA : Option Addr} {uc nc : Nat} {up draws : List Int}
    (hg : w'.heap[g]? = some (.cells #[.slice (some ⟨b1, 0, none⟩) workers workers, .slice (some ⟨b2, 0, none⟩) up.length up.length, .slice (some ⟨b3, 0, none⟩) up.length up.length, .slice (some ⟨b4, 0, none⟩) up.length up.length, .slice none 0 0, .int .i64 0, .slice uA up.length uc, .slice nA draws.length nc, .int .i64 0] 91 (0, 0)))
    (h1 : w'.heap[b1]? = some (.cells (madeCells #[.slice none 0 0] workers) 32 (0, 0))) (h2 : w'.heap[b2]? = some (.cells (madeCells #[.int .i64 0] up.length) 3 (0, 0))) (h3 : w'.heap[b3]? = some (.cells (madeCells #[.bool false] up.length) 4 (0, 0))) (h4 : w'.heap[b4]? = some (.cells (madeCells #[.bool false] up.length) 4 (0, 0)))
    (hne : b3 ≠ b4) (g0 : w.heap.size ≤ g) (l1 : w.heap.size ≤ b1) (l2 : w.heap.size ≤ b2) (l3 : w.heap.size ≤ b3) (l4 : w.heap.size ≤ b4) (hB : Below w.heap.size w w')
    (hu : Kd.C (Kd.int .i64) w uA up.length up) (huc : up.length ≤ uc) (hd : Kd.C (Kd.int .i64) w nA draws.length draws) (hdc : draws.length ≤ nc) (hw : workers ≤ 2000000) (hul : up.length ≤ 2000000) :
    SpW (fun _ => False) w w' g (.slice (some ⟨b1, 0, none⟩) workers workers) (.slice (some ⟨b2, 0, none⟩) up.length up.length) (.slice (some ⟨b3, 0, none⟩) up.length up.length) (.slice (some ⟨b4, 0, none⟩) up.length up.length) (.slice none 0 0) uA uc nA nc (ws0 up draws workers) := by
  have h12 : b1 ≠ b2 := by
    rintro rfl
    rw [h1] at h2
    injection h2 with h2
    injection h2 with _ h2 _
    exact absurd h2 (by decide)
  refine ⟨hg, g0, ?_, ?_, ?_, ?_, Kd.R_nil _ _ _ _ _, hu, huc, hd, hdc, hB⟩
  · refine Kd.S_bare (R_zeros (Kd.bare sliceQ) (z := .slice none 0 0) (by rw [show workers * (Kd.bare sliceQ).sz = workers from Nat.mul_one _]; exact h1) rfl (by decide) ?_ l1 ⟨?_, fun h => h⟩ hw)
    · exact ⟨_, rfl, Kd.Q_nil _ _ _ _ _⟩
    · intro h
      injection h with h
      exact h12 h
  · exact R_zeros (Kd.int .i64) (z := .int .i64 0) (by rw [show up.length * (Kd.int .i64).sz = up.length from Nat.mul_one _]; exact h2) rfl (by decide) rfl l2 trivial hul
  · refine R_zeros Kd.bool (z := .bool false) (by rw [show up.length * Kd.bool.sz = up.length from Nat.mul_one _]; exact h3) rfl (by decide) rfl l3 ?_ hul
    intro h
    injection h with h
    exact hne h
  · exact R_zeros Kd.bool (z := .bool false) (by rw [show up.length * Kd.bool.sz = up.length from Nat.mul_one _]; exact h4) rfl (by decide) rfl l4 trivial hul

theorem pl_new {w : World} {o : Obj} {k : Nat} (h : w.heap.size = k) : (w.alloc o).heap[k]? = some o := by subst h; exact heap_alloc_new w o
theorem pl_old {w : World} {o o' : Obj} {k : Nat} (h : w.heap[k]? = some o) : (w.alloc o').heap[k]? = some o := by
  have hlt := (Array.getElem?_eq_some_iff.1 h).1
  rw [← h]
  exact (below_alloc (Below.refl w.heap.size w) o').block k hlt
theorem pl_drew {w : World} {o : Obj} {k : Nat} (h : w.heap[k]? = some o) : w.drew.heap[k]? = some o := h
theorem pl_size {w : World} {o : Obj} {k : Nat} (h : w.heap.size = k) : (w.alloc o).heap.size = k + 1 := by
  show (w.heap.push o).size = k + 1
  rw [Array.size_push, h]
theorem pl_below {w W : World} {o : Obj} (h : Below w.heap.size w W) : Below w.heap.size w (W.alloc o) := below_alloc h o
theorem pl_belowd {w W : World} (h : Below w.heap.size w W) : Below w.heap.size w W.drew := below_drew h

end Go.Proofs.Ytoaimlpbliabdaa.QFnExactEventsOf
