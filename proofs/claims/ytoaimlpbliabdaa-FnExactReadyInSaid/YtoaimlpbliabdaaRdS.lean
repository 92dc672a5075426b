import Derived.Test.YtoaimlpbliabdaaPlF
namespace Go.Proofs.Ytoaimlpbliabdaa.QFnExactEventsOf
open Go.RowKit Go.Proofs.YtoaimlpbliabdaaW.PrintWords Go.Proofs.YtoaimlpbliabdaaW.PrintLast Go.Proofs.YtoaimlpbliabdaaW.PrintMore PoolModel
set_option linter.unusedVariables false
set_option linter.unusedSimpArgs false

theorem readyTo_readyL {p : PSt} {n : Nat} (hn : p.decks.length = n) : readyTo p.decks (fun k => victims p.decks (k : Int)) n = readyL p.decks := by
  by_cases hb : busy p = true
  · rw [ready_busy hb, readyL_busy hb, hn]; rfl
  · have hb : busy p = false := by simpa using hb
    rw [ready_idle hb, readyL_idle hb]

/-! ### spec_ReadyInH: function 23 -/
def spec_ReadyInH.f (k : Nat) (l0 : List Int) (a1 : Int) (l2 : List Int) (l3 : List Int) (a4 : Int) : Option (List Int × Bool) :=
  if l0.length ≤ 2000000 then (spec_l13Asked.f k l0 a1 l2 l3).bind fun t => if t = true then (if 0 ≤ a4 then some (readyL (run l0 a1.toNat l2 l3 a4.toNat (PoolModel.start l0 a1.toNat)).decks, true) else some ([], false)) else some ([], false) else none
theorem spec_ReadyInH.mono : ∀ a0 a1 a2 a3 a4 k, LeO (spec_ReadyInH.f k a0 a1 a2 a3 a4) (spec_ReadyInH.f (k + 1) a0 a1 a2 a3 a4) := by
  intro a0 a1 a2 a3 a4 k
  unfold spec_ReadyInH.f
  refine LeO.ite ?_ (LeO.refl _)
  exact LeO.bind (spec_l13Asked.mono _ _ _ _ _) (fun _ => LeO.refl _)
set_option maxRecDepth 100000 in
set_option maxHeartbeats 2000000 in
theorem spec_ReadyInH.calls (k : Nat) (A0 : Option Addr) (c0 : Nat) (l0 : List Int) (a1 : Int) (A2 : Option Addr) (c2 : Nat) (l2 : List Int) (A3 : Option Addr) (c3 : Nat) (l3 : List Int) (a4 : Int) (r1 : List Int) (r2 : Bool) (w : World) (hr0 : Kd.C (Kd.int .i64) w A0 l0.length l0) (hc0 : l0.length ≤ c0) (hr2 : Kd.C (Kd.int .i64) w A2 l2.length l2) (hc2 : l2.length ≤ c2) (hr3 : Kd.C (Kd.int .i64) w A3 l3.length l3) (hc3 : l3.length ≤ c3) (h : spec_ReadyInH.f k l0 a1 l2 l3 a4 = some (r1, r2)) :
    Calls Try.prog 23 #[.slice A0 l0.length c0, .int .i64 a1, .slice A2 l2.length c2, .slice A3 l3.length c3, .int .i64 a4] w fun e w' => ∃ v0_ : Value, e = .returned (.tuple #[v0_, .bool r2]) ∧ Kd.R (Kd.int .i64) 3 w' w.heap.size (fun _ => True) v0_ r1 ∧ Below w.heap.size w w' := by
  unfold spec_ReadyInH.f at h
  split at h
  · rename_i hl0
    obtain ⟨t, ht, h⟩ := Option.bind_eq_some_iff.1 h
    have HA := Aside0.mk (spec_l13Asked.calls k A0 c0 l0 a1 A2 c2 l2 A3 c3 l3 t w hr0 hc0 hr2 hc2 hr3 hc3 ht)
    cases t with
    | false =>
      simp at h
      obtain ⟨rfl, rfl⟩ := h
      clear hr0 hc0 hr2 hc2 hr3 hc3 ht
      go_enter Try.func23, Try.ntmps23
      go_wp2_with fail
      refine HA.out.mono ?_
      rintro e w1 ⟨rfl, hw1⟩
      have HB := Aside0.mk hw1.below
      clear hw1
      go_wp2_with fail
      go_ret2
      exact ⟨_, rfl, Kd.R_nil _ _ _ _ _, HB.out⟩
    | true =>
      have hA := asked_true hl0 ht
      rw [if_pos rfl] at h
      obtain ⟨n, rfl⟩ : ∃ n : Nat, a1 = (n : Int) := ⟨a1.toNat, by have := hA.w1; omega⟩
      have hn1 := hA.w1
      have hn8 := hA.w8
      have HAS := Aside0.mk hA
      have HR0 := Aside0.mk hr0
      have HR2 := Aside0.mk hr2
      have HR3 := Aside0.mk hr3
      have HC0 := Aside0.mk hc0
      have HC2 := Aside0.mk hc2
      have HC3 := Aside0.mk hc3
      clear hr0 hr2 hr3 ht hA hc0 hc2 hc3
      by_cases hs : 0 ≤ a4
      · rw [if_pos hs] at h
        simp only [Option.some.injEq, Prod.mk.injEq, Int.toNat_natCast] at h
        obtain ⟨rfl, rfl⟩ := h
        have hG := run_good (picks := l2) (draws := l3) HAS.out.forest (show 0 < n by omega) a4.toNat (PoolModel.Good.start HAS.out.forest (by omega))
        generalize hp : run l0 n l2 l3 a4.toNat (PoolModel.start l0 n) = p at *
        generalize hrl : readyL p.decks = rl at *
        have HPE := Aside0.mk hp
        have HRL := Aside0.mk hrl
        have HG := Aside0.mk hG
        clear hp hrl hG
        go_enter Try.func23, Try.ntmps23
        go_wp2_with fail
        refine HA.out.mono ?_
        rintro e w1 ⟨rfl, hw1⟩
        have HB := Aside0.mk hw1.below
        clear hw1 HA
        go_wp2_with fail
        refine (run_calls n a4 hs (by omega) (by omega) HAS.out.forest HAS.out.dr HAS.out.pk (by have := HAS.out.pl; omega) (Kd.C_below HR0.out HB.out) HC0.out (Kd.C_below HR2.out HB.out) HC2.out (Kd.C_below HR3.out HB.out) HC3.out).mono ?_
        rintro e w2 ⟨g, dv, lv, pv, qv, tv, rfl, h2⟩
        rw [HPE.out] at h2
        have hG := HG.out
        have hF1 := HAS.out.forest.1
        have hcall := ready_calls h2 n hG.inv.hd (by omega) (by omega) 2000001 (fun k => victims p.decks (k : Int)) (fun k hk => victims_f _ (by show p.decks.length ≤ _; rw [hG.inv.hd]; omega) (by show p.decks.length < _; rw [hG.inv.hd]; omega)) (fun k => by have : (victims p.decks (k : Int)).length ≤ p.decks.length := idx_length; rw [hG.inv.hd] at this; omega) (fun k => by have := hG.inv.deck_le k; show (p.decks.getD k []).length < 1000; omega)
        rw [show (WS.of l0 l3 p).decks = p.decks from rfl, readyTo_readyL hG.inv.hd, HRL.out] at hcall
        have HC := Aside0.mk hcall
        have HB2 := Aside0.mk (below_then HB.out HB.out.size h2.bel)
        clear hcall hG h2
        go_wp2_with fail
        refine HC.out.mono ?_
        rintro e w3 ⟨v, rfl, hR, hB⟩
        obtain ⟨A5, c5, L5, hL5, rfl⟩ : ∃ A c m, Aside0 (m = rl.length) ∧ v = .slice A m c := by obtain ⟨A, c, e⟩ := Kd.R_slice hR; exact ⟨A, c, _, ⟨rfl⟩, e⟩
        have HR := Aside0.mk (Kd.R_lower hR (below_size HB2.out))
        have HB3 := Aside0.mk (below_then HB2.out HB2.out.size hB)
        clear hR hB HC
        go_wp2_with fail
        go_ret2
        exact ⟨_, rfl, HR.out, HB3.out⟩
      · rw [if_neg hs] at h
        simp only [Option.some.injEq, Prod.mk.injEq] at h
        obtain ⟨rfl, rfl⟩ := h
        go_enter Try.func23, Try.ntmps23
        go_wp2_with fail
        refine HA.out.mono ?_
        rintro e w1 ⟨rfl, hw1⟩
        have HB := Aside0.mk hw1.below
        clear hw1 HA
        go_wp2_with fail
        go_ret2
        exact ⟨_, rfl, Kd.R_nil _ _ _ _ _, HB.out⟩
  · cases h

/-! ### impl_ReadyInH: function 25 -/
def impl_ReadyInH.f (k : Nat) (l0 : List Int) (a1 : Int) (l2 : List Int) (l3 : List Int) (a4 : Int) : Option (List Int × Bool) :=
  if l0.length ≤ 2000000 then (if l2.length ≤ 2000000 then (if l3.length ≤ 2000000 then (spec_l13Asked.f k l0 a1 l2 l3).bind fun t => if t = true then (if 0 ≤ a4 then some (readyL (run l0 a1.toNat l2 l3 a4.toNat (PoolModel.start l0 a1.toNat)).decks, true) else some ([], false)) else some ([], false) else none) else none) else none
theorem impl_ReadyInH.mono : ∀ a0 a1 a2 a3 a4 k, LeO (impl_ReadyInH.f k a0 a1 a2 a3 a4) (impl_ReadyInH.f (k + 1) a0 a1 a2 a3 a4) := by
  intro a0 a1 a2 a3 a4 k
  unfold impl_ReadyInH.f
  refine LeO.ite (LeO.ite (LeO.ite ?_ (LeO.refl _)) (LeO.refl _)) (LeO.refl _)
  exact LeO.bind (spec_l13Asked.mono _ _ _ _ _) (fun _ => LeO.refl _)
set_option maxRecDepth 100000 in
set_option maxHeartbeats 2000000 in
theorem ireadyin_no {w : World} {uA pA nA : Option Addr} {uc pc nc ul pl nl : Nat} (a1 steps : Int)
    (hC : Calls Try.prog 37 #[.slice uA ul uc, .int .i64 a1, .slice pA pl pc, .slice nA nl nc, .int .i64 steps] w fun e w' => e = .returned (.tuple #[.agg #[.slice none 0 0, .slice none 0 0, .slice none 0 0, .slice none 0 0, .slice none 0 0, .int .i64 0], .bool false]) ∧ Below w.heap.size w w') :
    Calls Try.prog 25 #[.slice uA ul uc, .int .i64 a1, .slice pA pl pc, .slice nA nl nc, .int .i64 steps] w fun e w' => e = .returned (.tuple #[.slice none 0 0, .bool false]) ∧ Below w.heap.size w w' := by
  have HC := Aside0.mk hC
  clear hC
  go_enter Try.func25, Try.ntmps25
  go_wp2_with fail
  refine HC.out.mono ?_
  rintro e w1 ⟨rfl, h1⟩
  have HB := Aside0.mk h1
  clear h1 HC
  go_wp2_with fail
  go_ret2
  exact ⟨rfl, below_alloc HB.out _⟩
set_option maxRecDepth 100000 in
set_option maxHeartbeats 2000000 in
theorem ireadyin_on {w : World} {uA pA nA : Option Addr} {uc pc nc ul pl nl : Nat} (a1 steps : Int) (p : PSt) (n : Nat) (hn : p.decks.length = n) (hn0 : 0 < n) (hnb : n < 1000) (hdb : ∀ k, (p.decks.getD k []).length < 1000)
    (hC : Calls Try.prog 37 #[.slice uA ul uc, .int .i64 a1, .slice pA pl pc, .slice nA nl nc, .int .i64 steps] w (PoolPost w p)) :
    Calls Try.prog 25 #[.slice uA ul uc, .int .i64 a1, .slice pA pl pc, .slice nA nl nc, .int .i64 steps] w fun e w' => ∃ v, e = .returned (.tuple #[v, .bool true]) ∧ Kd.R (Kd.int .i64) 3 w' w.heap.size (fun _ => True) v (readyL p.decks) ∧ Below w.heap.size w w' := by
  have HC := Aside0.mk hC
  have HN := Aside0.mk hn
  have HDB := Aside0.mk hdb
  clear hC hn hdb
  go_enter Try.func25, Try.ntmps25
  go_wp2_with fail
  refine HC.out.mono ?_
  rintro e w1 ⟨v0, v1, v2, v3, v4, rfl, hP, hB⟩
  obtain ⟨D0, k0, L0, hL0, rfl⟩ : ∃ A c m, Aside0 (m = p.decks.length) ∧ v0 = .slice A m c := by obtain ⟨A, c, e⟩ := Kd.S_slice hP.1; exact ⟨A, c, _, ⟨rfl⟩, e⟩
  obtain ⟨D1, k1, L1, hL1, rfl⟩ : ∃ A c m, Aside0 (m = p.left.length) ∧ v1 = .slice A m c := by obtain ⟨A, c, e⟩ := Kd.R_slice hP.2.1; exact ⟨A, c, _, ⟨rfl⟩, e⟩
  obtain ⟨D2, k2, L2, hL2, rfl⟩ : ∃ A c m, Aside0 (m = p.pre.length) ∧ v2 = .slice A m c := by obtain ⟨A, c, e⟩ := Kd.R_slice hP.2.2.1; exact ⟨A, c, _, ⟨rfl⟩, e⟩
  obtain ⟨D3, k3, L3, hL3, rfl⟩ : ∃ A c m, Aside0 (m = p.post.length) ∧ v3 = .slice A m c := by obtain ⟨A, c, e⟩ := Kd.R_slice hP.2.2.2.1; exact ⟨A, c, _, ⟨rfl⟩, e⟩
  obtain ⟨D4, k4, L4, hL4, rfl⟩ : ∃ A c m, Aside0 (m = (p.told.map evS).length) ∧ v4 = .slice A m c := by obtain ⟨A, c, e⟩ := Kd.R_slice hP.2.2.2.2; exact ⟨A, c, _, ⟨rfl⟩, e⟩
  have HP := Aside0.mk hP
  have HB := Aside0.mk hB
  clear hP hB HC
  go_wp2_with fail
  have hb2 := below_alloc (below_alloc (Below.refl w1.heap.size w1) (.cells #[.slice D0 L0 k0, .slice D1 L1 k1, .slice D2 L2 k2, .slice D3 L3 k3, .slice D4 L4 k4, .int .i64 (p.steps : Int)] 48)) (.cells #[.slice none 0 0, .slice D0 L0 k0, .slice D1 L1 k1, .slice D2 L2 k2, .slice D3 L3 k3, .slice D4 L4 k4, .int .i64 (p.steps : Int), .slice none 0 0, .slice none 0 0] 89)
  have hI : ImW (fun _ => False) w ((w1.alloc (.cells #[.slice D0 L0 k0, .slice D1 L1 k1, .slice D2 L2 k2, .slice D3 L3 k3, .slice D4 L4 k4, .int .i64 (p.steps : Int)] 48)).alloc (.cells #[.slice none 0 0, .slice D0 L0 k0, .slice D1 L1 k1, .slice D2 L2 k2, .slice D3 L3 k3, .slice D4 L4 k4, .int .i64 (p.steps : Int), .slice none 0 0, .slice none 0 0] 89)) (w1.heap.size + 1) (.slice D0 L0 k0) (.slice D1 L1 k1) (.slice D2 L2 k2) (.slice D3 L3 k3) (.slice D4 L4 k4) (.slice none 0 0) (.slice none 0 0) none 0 { decks := p.decks, left := p.left, pre := p.pre, post := p.post, told := p.told.map evS, steps := (p.steps : Int), up := [], picks := [], draws := [] } :=
    ⟨pl_new (pl_size rfl), by have := HB.out.size; omega, Kd.S_mono (Kd.S_below HP.out.1 hb2) (fun _ hk => ⟨hk, fun h => h⟩), Kd.R_below HP.out.2.1 hb2, Kd.R_below HP.out.2.2.1 hb2, Kd.R_mono (Kd.R_below HP.out.2.2.2.1 hb2) (fun _ _ => trivial), Kd.R_below HP.out.2.2.2.2 hb2, Kd.C_nil _ _, Nat.le_refl _, ⟨none, 0, rfl, Nat.le_refl _, Kd.C_nil _ _⟩, ⟨none, 0, rfl, Nat.le_refl _, Kd.C_nil _ _⟩, below_then HB.out HB.out.size hb2⟩
  refine (iready_calls hI n HN.out hn0 hnb HDB.out).mono ?_
  rintro e w3 ⟨v, rfl, hR, hB3⟩
  have hbz := below_then HB.out HB.out.size hb2
  have HR := Aside0.mk (Kd.R_lower hR hbz.size)
  have HB4 := Aside0.mk (below_then hbz hbz.size hB3)
  obtain ⟨A5, c5, L5, hL5, rfl⟩ : ∃ A c m, Aside0 (m = (readyL p.decks).length) ∧ v = .slice A m c := by obtain ⟨A, c, e⟩ := Kd.R_slice hR; exact ⟨A, c, _, ⟨rfl⟩, e⟩
  clear hR hB3 hI hb2 hbz
  go_wp2_with fail
  go_ret2
  exact ⟨_, rfl, HR.out, HB4.out⟩
theorem impl_ReadyInH.calls (k : Nat) (A0 : Option Addr) (c0 : Nat) (l0 : List Int) (a1 : Int) (A2 : Option Addr) (c2 : Nat) (l2 : List Int) (A3 : Option Addr) (c3 : Nat) (l3 : List Int) (a4 : Int) (r1 : List Int) (r2 : Bool) (w : World) (hr0 : Kd.C (Kd.int .i64) w A0 l0.length l0) (hc0 : l0.length ≤ c0) (hr2 : Kd.C (Kd.int .i64) w A2 l2.length l2) (hc2 : l2.length ≤ c2) (hr3 : Kd.C (Kd.int .i64) w A3 l3.length l3) (hc3 : l3.length ≤ c3) (h : impl_ReadyInH.f k l0 a1 l2 l3 a4 = some (r1, r2)) :
    Calls Try.prog 25 #[.slice A0 l0.length c0, .int .i64 a1, .slice A2 l2.length c2, .slice A3 l3.length c3, .int .i64 a4] w fun e w' => ∃ v0_ : Value, e = .returned (.tuple #[v0_, .bool r2]) ∧ Kd.R (Kd.int .i64) 3 w' w.heap.size (fun _ => True) v0_ r1 ∧ Below w.heap.size w w' := by
  unfold impl_ReadyInH.f at h
  split at h
  · rename_i hl0
    split at h
    · rename_i hl2
      split at h
      · rename_i hl3
        obtain ⟨t, ht, h⟩ := Option.bind_eq_some_iff.1 h
        obtain ⟨bF, hgf, hte⟩ := asked_parts hl2 hl3 ht
        cases t with
        | false =>
          rw [if_neg (by decide)] at h
          simp only [Option.some.injEq, Prod.mk.injEq] at h
          obtain ⟨rfl, rfl⟩ := h
          refine (ireadyin_no a1 a4 (irun_no a1 a4 k bF hgf hl2 hl3 hte.symm hr0 hc0 hr2 hc2 hr3 hc3)).mono ?_
          rintro e w' ⟨rfl, hb⟩
          exact ⟨_, rfl, Kd.R_nil _ _ _ _ _, hb⟩
        | true =>
          have hA := asked_true hl0 ht
          rw [if_pos rfl] at h
          obtain ⟨n, rfl⟩ : ∃ n : Nat, a1 = (n : Int) := ⟨a1.toNat, by have := hA.w1; omega⟩
          have hparts := hte.symm
          simp only [Bool.and_eq_true] at hparts
          obtain ⟨⟨⟨rfl, -⟩, hdp⟩, hdd⟩ := hparts
          split at h
          · rename_i hs
            simp only [Option.some.injEq, Prod.mk.injEq, Int.toNat_natCast] at h
            obtain ⟨rfl, rfl⟩ := h
            have hn1 := hA.w1
            have hn8 := hA.w8
            have hG := run_good (picks := l2) (draws := l3) hA.forest (show 0 < n by omega) a4.toNat (PoolModel.Good.start hA.forest (by omega))
            have hF1 := hA.forest.1
            exact ireadyin_on (n : Int) a4 _ n hG.inv.hd (by omega) (by omega) (fun k => by have := hG.inv.deck_le k; omega) (irun_calls n a4 hs k hgf hdp hdd hA hr0 hc0 hr2 hc2 hr3 hc3)
          · rename_i hs
            simp only [Option.some.injEq, Prod.mk.injEq] at h
            obtain ⟨rfl, rfl⟩ := h
            refine (ireadyin_no (n : Int) a4 (irun_neg n a4 (by omega) k hgf hdp hdd hA hr0 hc0 hr2 hc2 hr3 hc3)).mono ?_
            rintro e w' ⟨rfl, hb⟩
            exact ⟨_, rfl, Kd.R_nil _ _ _ _ _, hb⟩
      · cases h
    · cases h
  · cases h
end Go.Proofs.Ytoaimlpbliabdaa.QFnExactEventsOf
