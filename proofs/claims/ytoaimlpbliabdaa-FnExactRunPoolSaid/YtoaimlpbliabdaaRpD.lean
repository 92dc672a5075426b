/- Marking a pool, and what the marks' readers say. No conditions but those of each lemma. -/
import Derived.Test.YtoaimlpbliabdaaMkA
import Derived.Test.YtoaimlpbliabdaaRpS
import Derived.Test.YtoaimlpbliabdaaRpB
import Derived.Test.YtoaimlpbliabdaaRpC
import Derived.Test.YtoaimlpbliabdaaPuB
import Derived.Test.YtoaimlpbliabdaaPuC
namespace Go.Proofs.Ytoaimlpbliabdaa.QFnExactEventsOf
open Go.RowKit Go.Proofs.YtoaimlpbliabdaaW.PrintWords Go.Proofs.YtoaimlpbliabdaaW.PrintLast Go.Proofs.YtoaimlpbliabdaaW.PrintMore
set_option linter.unusedVariables false
set_option linter.unusedSimpArgs false

theorem rdb_at {l : List Bool} {i : Nat} (h : i < l.length) : rdOf false l (i : Int) = l[i] := by
  unfold rdOf
  rw [Int.toNat_natCast, List.getD_eq_getElem?_getD, List.getElem?_eq_getElem h]; rfl
theorem rdL_at {l : List (List Int)} {i : Nat} (h : i < l.length) : rd_L1 l (i : Int) = l[i] := by
  unfold rd_L1
  rw [Int.toNat_natCast, List.getD_eq_getElem?_getD, List.getElem?_eq_getElem h]; rfl
theorem eqBoolS_l0 (l : List Bool) (hn : l.length ≤ 2000000) : ∀ (d i k : Nat), i ≤ l.length → l.length - i = d → d < k → laws_eqBoolS.l0 k l l (i : Int) = some true := by
  intro d
  induction d with
  | zero =>
    intro i k hi hd hk
    obtain ⟨k, rfl⟩ : ∃ m, k = m + 1 := ⟨k - 1, by omega⟩
    simp only [laws_eqBoolS.l0]
    rw [if_neg (by omega)]
  | succ d ih =>
    intro i k hi hd hk
    obtain ⟨k, rfl⟩ : ∃ m, k = m + 1 := ⟨k - 1, by omega⟩
    have hlt : i < l.length := by omega
    simp only [laws_eqBoolS.l0, bne_self_eq_false, Bool.false_eq_true, if_false]
    rw [if_pos (by omega), if_pos (by omega), if_pos (by omega), wrap_up hlt hn]
    exact ih (i + 1) k (by omega) (by omega) (by omega)
theorem eqBoolS_ev {l : List Bool} (h : l.length ≤ 1048576) : Ev (fun k => laws_eqBoolS.f k l l) true := by
  refine ⟨l.length + 1, fun k hk => ?_⟩
  show laws_eqBoolS.f k l l = some true
  unfold laws_eqBoolS.f
  rw [if_pos rfl]
  exact eqBoolS_l0 l (by omega) l.length 0 k (by omega) (by omega) (by omega)
theorem eqIntSS_l0 (l : List (List Int)) (hn : l.length ≤ 2000000) (ht : tl l ≤ 1048576) : ∀ (d i k : Nat), i ≤ l.length → l.length - i = d → d + tl l + 1 < k → laws_eqIntSS.l0 k l l (i : Int) = some true := by
  intro d
  induction d with
  | zero =>
    intro i k hi hd hk
    obtain ⟨k, rfl⟩ : ∃ m, k = m + 1 := ⟨k - 1, by omega⟩
    simp only [laws_eqIntSS.l0]
    rw [if_neg (by omega)]
  | succ d ih =>
    intro i k hi hd hk
    obtain ⟨k, rfl⟩ : ∃ m, k = m + 1 := ⟨k - 1, by omega⟩
    have hlt : i < l.length := by omega
    have hr := len_le_tl (List.getElem_mem hlt)
    have he : laws_eqIntS.f k l[i] l[i] = some true := by
      unfold laws_eqIntS.f
      rw [if_pos rfl]
      exact eqIntS_l0 l[i] (by omega) l[i].length 0 k (by omega) (by omega) (by omega)
    simp only [laws_eqIntSS.l0]
    rw [if_pos (by omega), if_pos (by omega), if_pos (by omega), rdL_at hlt, he, wrap_up hlt hn]
    simp only [Option.bind_some, if_true]
    exact ih (i + 1) k (by omega) (by omega) (by omega)
theorem eqIntSS_ev {l : List (List Int)} (h : l.length ≤ 1048576) (ht : tl l ≤ 1048576) : Ev (fun k => laws_eqIntSS.f k l l) true := by
  refine ⟨l.length + tl l + 3, fun k hk => ?_⟩
  show laws_eqIntSS.f k l l = some true
  unfold laws_eqIntSS.f
  rw [if_pos rfl]
  exact eqIntSS_l0 l (by omega) ht l.length 0 k (by omega) (by omega) (by omega)
/-- Which of the numbers from a on three divides. -/
def marksB (a : Int) (n : Nat) : List Bool := (List.range n).map fun (i : Nat) => Int.tmod (a + (i : Int)) 3 == 0
theorem marksB_len (a : Int) (n : Nat) : (marksB a n).length = n := by simp [marksB]
theorem marksB_get (a : Int) {n i : Nat} (h : i < (marksB a n).length) : (marksB a n)[i] = (Int.tmod (a + (i : Int)) 3 == 0) := by simp [marksB]
theorem markBoolS_l0 (n : Nat) (hn : n ≤ 2000000) (a : Int) (h0 : 0 ≤ a) (h1 : a ≤ 1000000000000) : ∀ (d i k : Nat) (acc : List Bool), i ≤ n → n - i = d → d < k → acc.length = n → acc.take i = (marksB a n).take i → laws_markBoolS.l0 k acc (a + (i : Int)) (i : Int) = some (a + (n : Int), marksB a n) := by
  intro d
  induction d with
  | zero =>
    intro i k acc hi hd hk ha he
    obtain ⟨k, rfl⟩ : ∃ m, k = m + 1 := ⟨k - 1, by omega⟩
    simp only [laws_markBoolS.l0]
    rw [if_neg (by omega)]
    rw [List.take_of_length_le (by omega), List.take_of_length_le (by rw [marksB_len]; omega)] at he
    rw [he, show i = n by omega]
  | succ d ih =>
    intro i k acc hi hd hk ha he
    obtain ⟨k, rfl⟩ : ∃ m, k = m + 1 := ⟨k - 1, by omega⟩
    have hlt : i < n := by omega
    simp only [laws_markBoolS.l0]
    rw [if_pos (by omega), if_pos (by omega), wrap_up hlt hn, Int.toNat_natCast, w64 (by omega) (by omega)]
    rw [show a + (i : Int) + 1 = a + ((i + 1 : Nat) : Int) by omega]
    refine ih (i + 1) k _ (by omega) (by omega) (by omega) (by simpa using ha) ?_
    rw [List.take_succ_eq_append_getElem (by simpa [ha] using hlt), List.take_succ_eq_append_getElem (by rw [marksB_len]; exact hlt), marksB_get, List.getElem_set_self, List.take_set_of_le (Nat.le_refl _), he]
theorem markBoolS_ev {l : List Bool} (h : l.length ≤ 2000000) {a : Int} (h0 : 0 ≤ a) (h1 : a ≤ 1000000000000) : Ev (fun k => laws_markBoolS.f k l a) (a + (l.length : Int), marksB a l.length) := by
  refine ⟨l.length + 1, fun k hk => ?_⟩
  show laws_markBoolS.f k l a = some (a + (l.length : Int), marksB a l.length)
  unfold laws_markBoolS.f
  have := markBoolS_l0 l.length h a h0 h1 l.length 0 k l (by omega) (by omega) (by omega) rfl (by simp)
  simpa using this
theorem heldBoolS_l0 (n : Nat) (hn : n ≤ 2000000) (a : Int) (h0 : 0 ≤ a) (h1 : a ≤ 1000000000000) : ∀ (d i k : Nat), i ≤ n → n - i = d → d < k → laws_heldBoolS.l0 k (marksB a n) (a + (i : Int)) (i : Int) = some (a + (n : Int)) := by
  intro d
  induction d with
  | zero =>
    intro i k hi hd hk
    obtain ⟨k, rfl⟩ : ∃ m, k = m + 1 := ⟨k - 1, by omega⟩
    simp only [laws_heldBoolS.l0]
    rw [if_neg (by rw [marksB_len]; omega), show i = n by omega]
  | succ d ih =>
    intro i k hi hd hk
    obtain ⟨k, rfl⟩ : ∃ m, k = m + 1 := ⟨k - 1, by omega⟩
    have hlt : i < n := by omega
    have hla : i < (marksB a n).length := by rw [marksB_len]; exact hlt
    simp only [laws_heldBoolS.l0]
    rw [rdb_at hla, marksB_get, if_pos (by omega), if_pos (by omega), if_neg (by simp), wrap_up hlt hn, w64 (by omega) (by omega)]
    rw [show a + (i : Int) + 1 = a + ((i + 1 : Nat) : Int) by omega]
    exact ih (i + 1) k (by omega) (by omega) (by omega)
theorem heldBoolS_ev {n : Nat} (h : n ≤ 2000000) {a : Int} (h0 : 0 ≤ a) (h1 : a ≤ 1000000000000) : Ev (fun k => laws_heldBoolS.f k (marksB a n) a) (a + (n : Int)) := by
  refine ⟨n + 1, fun k hk => ?_⟩
  show laws_heldBoolS.f k (marksB a n) a = some (a + (n : Int))
  unfold laws_heldBoolS.f
  have := heldBoolS_l0 n h a h0 h1 n 0 k (by omega) (by omega) (by omega)
  simpa using this
theorem heldIntSS_tail : ∀ (l pre : List (List Int)) (a : Int) (k : Nat), 0 ≤ a → a + (tl l : Int) ≤ 200000000000 → pre.length + l.length ≤ 2000000 → tl l ≤ 2000000 → l.length + tl l + 1 < k → laws_heldIntSS.l0 k (pre ++ marksSS a l) a (pre.length : Int) = some (a + (tl l : Int)) := by
  intro l
  induction l with
  | nil =>
    intro pre a k h0 h1 hn ht hk
    obtain ⟨k, rfl⟩ : ∃ m, k = m + 1 := ⟨k - 1, by omega⟩
    simp only [laws_heldIntSS.l0, marksSS, List.append_nil]
    rw [if_neg (by omega)]
    simp [tl]
  | cons r l ih =>
    intro pre a k h0 h1 hn ht hk
    obtain ⟨k, rfl⟩ : ∃ m, k = m + 1 := ⟨k - 1, by omega⟩
    rw [tl_cons] at h1 ht hk ⊢
    simp only [List.length_cons] at hn hk
    have hlen : (pre ++ marksSS a (r :: l)).length = pre.length + (l.length + 1) := by rw [List.length_append, marksSS_len]; simp
    have hlt : pre.length < (pre ++ marksSS a (r :: l)).length := by omega
    have hrd : rd_L1 (pre ++ marksSS a (r :: l)) (pre.length : Int) = marks a r.length := by
      rw [rdL_at hlt, List.getElem_append_right (Nat.le_refl _)]
      simp [marksSS]
    have hh : laws_heldIntS.f k (marks a r.length) a = some (a + (r.length : Int)) := by
      unfold laws_heldIntS.f
      have := heldIntS_l0 r.length (by omega) a h0 (by omega) r.length 0 k (by omega) (by omega) (by omega)
      simpa using this
    simp only [laws_heldIntSS.l0]
    rw [if_pos (by omega), if_pos (by omega), hrd, hh, wrap_up hlt (by omega)]
    simp only [Option.bind_some]
    rw [if_neg (by omega)]
    have := ih (pre ++ [marks a r.length]) (a + (r.length : Int)) k (by omega) (by omega) (by simp; omega) (by omega) (by omega)
    simp only [marksSS]
    rw [List.append_assoc, List.length_append] at this
    simp only [List.singleton_append, List.length_singleton] at this
    rw [this]
    congr 1
    omega
theorem heldIntSS_ev {l : List (List Int)} (h : l.length ≤ 2000000) (ht : tl l ≤ 2000000) {a : Int} (h0 : 0 ≤ a) (h1 : a ≤ 100000000000) : Ev (fun k => laws_heldIntSS.f k (marksSS a l) a) (a + (tl l : Int)) := by
  refine ⟨l.length + tl l + 2, fun k hk => ?_⟩
  show laws_heldIntSS.f k (marksSS a l) a = some (a + (tl l : Int))
  unfold laws_heldIntSS.f
  exact heldIntSS_tail l [] a k h0 (by omega) (by simpa using h) ht (by omega)

/-! ### marks in a pool's parts -/
theorem typed_ne {w : World} {k : Nat} {c1 c2 : Array Value} {q1 q2 : TypeId} (h1 : w.heap[k]? = some (.cells c1 q1 (0, 0))) (h2 : w.heap[k]? = some (.cells c2 q2 (0, 0))) : q1 = q2 := by
  have := h1.symm.trans h2
  injection this with this
  injection this with _ h _
section
variable {α β : Type} {d1 : Kd α} {d2 : Kd β} {e1 e2 : TypeId} {w w1 : World} {b1 b2 : Nat} {ok1 ok2 : Nat → Prop} {u v : Value} {xs : List α} {ys : List β}
theorem own_apart (h1 : d1.R e1 w b1 ok1 u xs) (h2 : d2.R e2 w b2 ok2 v ys) (he : e1 ≠ e2) : ∀ k, some k = u.ownBlock → ¬ some k = v.ownBlock := by
  intro k hu hv
  obtain ⟨c1, t1⟩ := Kd.R_typed h1 k hu.symm
  obtain ⟨c2, t2⟩ := Kd.R_typed h2 k hv.symm
  exact he (typed_ne t1 t2)
/-- A flat row stays where another own row (of another type) is written. -/
theorem R_stay (hE : d1.E = []) (h1 : d1.R e1 w b1 ok1 u xs) (h2 : d2.R e2 w b2 ok2 v ys) (he : e1 ≠ e2) (hk : Kept w w1 (fun k => some k = v.ownBlock)) : d1.R e1 w1 b1 ok1 u xs :=
  Kd.R_mono (Kd.R_kept (Kd.R_tight hE h1) hk (own_apart h1 h2 he)) (fun k hk => h1.1 k hk.symm)
theorem R_stay' (hE : d1.E = []) (h1 : d1.R e1 w b1 ok1 u xs) (hne : ∀ k, some k = u.ownBlock → ¬ some k = v.ownBlock) (hk : Kept w w1 (fun k => some k = v.ownBlock)) : d1.R e1 w1 b1 ok1 u xs :=
  Kd.R_mono (Kd.R_kept (Kd.R_tight hE h1) hk hne) (fun k hk => h1.1 k hk.symm)
end
section
variable {lo hi base : Nat} {w w1 : World} {v0 v1 v2 v3 v4 : Value} {r1 : List (List Int)} {r2 : List Int} {r3 r4 : List Bool} {r5 : List S93}
theorem PoolX.set1 (h : PoolX (Kd.slice 3 (Kd.int .i64)) lo hi base w v0 v1 v2 v3 v4 r1 r2 r3 r4 r5) {r2' : List Int} (hR : Kd.R (Kd.int .i64) 3 w1 base (fun k => some k = v1.ownBlock) v1 r2') (hk : Kept w w1 (fun k => some k = v1.ownBlock)) : PoolX (Kd.slice 3 (Kd.int .i64)) lo hi base w1 v0 v1 v2 v3 v4 r1 r2' r3 r4 r5 :=
  ⟨Kd.S_kept h.1 hk (fun k hh he => hh.1 he), Kd.R_mono hR (fun k e => h.2.1.1 k e.symm), R_stay rfl h.2.2.1 h.2.1 (by decide) hk, R_stay rfl h.2.2.2.1 h.2.1 (by decide) hk, R_stay rfl h.2.2.2.2 h.2.1 (by decide) hk⟩
theorem S_stay {d1 : Kd (List Int)} (h : Kd.S d1 32 w base (fun k => some k ≠ v1.ownBlock ∧ lo ≤ k ∧ k < hi) v0 r1) {β : Type} {d2 : Kd β} {e2 : TypeId} {b2 : Nat} {ok2 : Nat → Prop} {v : Value} {ys : List β} (h2 : d2.R e2 w b2 ok2 v ys) (he : ∀ q, q ∈ 32 :: d1.E → q ≠ e2) (hk : Kept w w1 (fun k => some k = v.ownBlock)) : Kd.S d1 32 w1 base (fun k => some k ≠ v1.ownBlock ∧ lo ≤ k ∧ k < hi) v0 r1 := by
  refine Kd.S_mono (Kd.S_kept (Kd.S_bound h) hk (fun k hh e => ?_)) (fun k hh => hh.1)
  obtain ⟨q, hq, c1, t1⟩ := hh.2.2.2
  obtain ⟨c2, t2⟩ := Kd.R_typed h2 k e.symm
  exact he q hq (typed_ne t1 t2)
theorem PoolX.set2 (h : PoolX (Kd.slice 3 (Kd.int .i64)) lo hi base w v0 v1 v2 v3 v4 r1 r2 r3 r4 r5) {r3' : List Bool} (hR : Kd.R Kd.bool 4 w1 base (fun k => some k = v2.ownBlock) v2 r3') (hk : Kept w w1 (fun k => some k = v2.ownBlock)) : PoolX (Kd.slice 3 (Kd.int .i64)) lo hi base w1 v0 v1 v2 v3 v4 r1 r2 r3' r4 r5 :=
  ⟨S_stay h.1 h.2.2.1 (by decide) hk, R_stay rfl h.2.1 h.2.2.1 (by decide) hk, Kd.R_mono hR (fun k e => h.2.2.1.1 k e.symm), R_stay' rfl h.2.2.2.1 (fun k e => (h.2.2.2.1.1 k e.symm).1) hk, R_stay rfl h.2.2.2.2 h.2.2.1 (by decide) hk⟩
theorem PoolX.set3 (h : PoolX (Kd.slice 3 (Kd.int .i64)) lo hi base w v0 v1 v2 v3 v4 r1 r2 r3 r4 r5) {r4' : List Bool} (hR : Kd.R Kd.bool 4 w1 base (fun k => some k = v3.ownBlock) v3 r4') (hk : Kept w w1 (fun k => some k = v3.ownBlock)) : PoolX (Kd.slice 3 (Kd.int .i64)) lo hi base w1 v0 v1 v2 v3 v4 r1 r2 r3 r4' r5 :=
  ⟨S_stay h.1 h.2.2.2.1 (by decide) hk, R_stay rfl h.2.1 h.2.2.2.1 (by decide) hk, R_stay' rfl h.2.2.1 (fun k e => (h.2.2.1.1 k e.symm).1) hk, Kd.R_mono hR (fun k e => h.2.2.2.1.1 k e.symm), R_stay rfl h.2.2.2.2 h.2.2.2.1 (by decide) hk⟩
theorem PoolX.set4 (h : PoolX (Kd.slice 3 (Kd.int .i64)) lo hi base w v0 v1 v2 v3 v4 r1 r2 r3 r4 r5) {r5' : List S93} (hR : Kd.R k93 93 w1 base (fun k => some k = v4.ownBlock) v4 r5') (hk : Kept w w1 (fun k => some k = v4.ownBlock)) : PoolX (Kd.slice 3 (Kd.int .i64)) lo hi base w1 v0 v1 v2 v3 v4 r1 r2 r3 r4 r5' :=
  ⟨S_stay h.1 h.2.2.2.2 (by decide) hk, R_stay rfl h.2.1 h.2.2.2.2 (by decide) hk, R_stay rfl h.2.2.1 h.2.2.2.2 (by decide) hk, R_stay rfl h.2.2.2.1 h.2.2.2.2 (by decide) hk, Kd.R_mono hR (fun k e => h.2.2.2.2.1 k e.symm)⟩
/-- The blocks of the decks, and no others. -/
def DeckB (w : World) (v1 : Value) (lo hi base : Nat) (k : Nat) : Prop := (some k ≠ v1.ownBlock ∧ lo ≤ k ∧ k < hi) ∧ base ≤ k ∧ k < w.heap.size ∧ ∃ q, q ∈ 32 :: (Kd.slice 3 (Kd.int .i64)).E ∧ ∃ cells, w.heap[k]? = some (.cells cells q (0, 0))
theorem R_deck {β : Type} {d2 : Kd β} {e2 : TypeId} {b2 : Nat} {ok2 : Nat → Prop} {v : Value} {ys : List β} (hE : d2.E = []) (h2 : d2.R e2 w b2 ok2 v ys) (he : ∀ q, q ∈ 32 :: (Kd.slice 3 (Kd.int .i64)).E → q ≠ e2) (hk : Kept w w1 (DeckB w v1 lo hi base)) : d2.R e2 w1 b2 ok2 v ys := by
  refine Kd.R_mono (Kd.R_kept (Kd.R_tight hE h2) hk (fun k e hh => ?_)) (fun k e => h2.1 k e.symm)
  obtain ⟨q, hq, c1, t1⟩ := hh.2.2.2
  obtain ⟨c2, t2⟩ := Kd.R_typed h2 k e.symm
  exact he q hq (typed_ne t1 t2)
theorem PoolX.set0 (h : PoolX (Kd.slice 3 (Kd.int .i64)) lo hi base w v0 v1 v2 v3 v4 r1 r2 r3 r4 r5) {r1' : List (List Int)} (hS : Kd.S (Kd.slice 3 (Kd.int .i64)) 32 w1 base (DeckB w v1 lo hi base) v0 r1') (hk : Kept w w1 (DeckB w v1 lo hi base)) : PoolX (Kd.slice 3 (Kd.int .i64)) lo hi base w1 v0 v1 v2 v3 v4 r1' r2 r3 r4 r5 :=
  ⟨Kd.S_mono hS (fun k hh => hh.1), Kd.R_mono (Kd.R_kept (Kd.R_tight rfl h.2.1) hk (fun k e hh => hh.1.1 e)) (fun k e => h.2.1.1 k e.symm), R_deck rfl h.2.2.1 (by decide) hk, R_deck rfl h.2.2.2.1 (by decide) hk, R_deck rfl h.2.2.2.2 (by decide) hk⟩
theorem kept_in {S S' : Nat → Prop} (hk : Kept w w1 S) (h : ∀ k, S k → S' k) : Kept w w1 S' := ⟨hk.1, fun i hi hn => hk.2 i hi (fun hs => hn (h i hs))⟩
theorem kept_then {w2 : World} {S : Nat → Prop} (h1 : Kept w w1 S) (h2 : Kept w1 w2 S) : Kept w w2 S := ⟨Nat.le_trans h1.1 h2.1, fun i hi hn => (h2.2 i (Nat.lt_of_lt_of_le hi h1.1) hn).trans (h1.2 i hi hn)⟩
end
end Go.Proofs.Ytoaimlpbliabdaa.QFnExactEventsOf
