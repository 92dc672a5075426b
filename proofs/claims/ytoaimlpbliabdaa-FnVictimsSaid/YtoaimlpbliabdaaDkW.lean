/- The draws walked. No conditions but those of each lemma. -/
import Derived.Test.YtoaimlpbliabdaaDkR
namespace Go.Proofs.Ytoaimlpbliabdaa.DFnExactPushTo
open Go.RowKit Go.Proofs.YtoaimlpbliabdaaW.PrintWords Go.Proofs.YtoaimlpbliabdaaW.PrintLast Go.Proofs.YtoaimlpbliabdaaW.PrintMore
set_option linter.unusedVariables false
set_option linter.unusedSimpArgs false

/-- Drawn decks with two numbers. -/
def Drawn2 (w : World) (e : Ending) (w' : World) : Prop := ∃ (gd n : Nat) (d : List (List Int)) (a b : Int), e = .returned (.tuple #[.slice (some ⟨gd, 0, none⟩) n n, .int .i64 a, .int .i64 b]) ∧ d.length = n ∧ 1 ≤ n ∧ n ≤ 4 ∧ tl d ≤ 20 ∧ Kd.S (Kd.slice 3 (Kd.int .i64)) 32 w' w.heap.size (fun _ => True) (.slice (some ⟨gd, 0, none⟩) n n) d ∧ -1000 ≤ a ∧ a ≤ 1000 ∧ -1000 ≤ b ∧ b ≤ 1000 ∧ Below w.heap.size w w'
theorem quo19 (r : Int) (h0 : 0 ≤ r) (h1 : r < 20) : 0 ≤ Int.tdiv r 19 ∧ Int.tdiv r 19 ≤ 1 := by
  rw [Int.tdiv_eq_ediv_of_nonneg h0]
  omega
set_option maxRecDepth 100000 in
set_option maxHeartbeats 4000000 in
theorem drawV_c {w : World} {A : Option Addr} {c : Nat} {l : List Int} (hr : Kd.C (Kd.int .u8) w A l.length l) (hl : ∀ x ∈ l, 0 ≤ x ∧ x ≤ 255) :
    Calls Try.prog 57 #[.slice A l.length c] w (Drawn2 w) := by
  have HP := Aside0.mk (fun (W : World) (K' : Int) (hI : CurAt w W w.heap.size l K') (hB : Below w.heap.size w W) (hK : K' ≤ 100000000000) (n : Int) (h1 : 1 ≤ n) (h2 : n ≤ 200) => pick_c hI hB hl hK n h1 h2)
  have HDD := Aside0.mk (fun (W : World) (hI : CurAt w W w.heap.size l 0) (hB : Below w.heap.size w W) => decks_c hI hB hl (by omega))
  have HI : Aside0 (CurAt w (w.alloc (.cells #[.slice A l.length c, .int .i64 0, .int .u64 0] 103)) w.heap.size l 0) := ⟨⟨0, 0, IsS103.new w w A c l 0 0 (Below.refl _ _) hr, by omega, by omega⟩⟩
  have HB : Aside0 (Below w.heap.size w (w.alloc (.cells #[.slice A l.length c, .int .i64 0, .int .u64 0] 103))) := ⟨below_alloc (Below.refl _ _) _⟩
  generalize hn : l.length = ln at *
  clear hr hl hn
  go_enter Try.func57, Try.ntmps57
  go_wp2_with fail
  generalize w.alloc (.cells #[.slice A ln c, .int .i64 0, .int .u64 0] 103) = w1 at *
  refine (HDD.out w1 HI.out HB.out).mono ?_
  rintro e w2 ⟨gd, n, d, rfl, hdn, hn1, hn4, htl, hS, hI, hb⟩
  have HI2 := Aside0.mk hI
  have HB2 := Aside0.mk hb
  have HS2 := Aside0.mk hS
  have HD := Aside0.mk (And.intro hdn htl)
  have hwn : wrap64 ((n : Int) + 1) = (n : Int) + 1 := w64 (by omega) (by omega)
  clear hI hb hS hdn htl HDD HI HB
  go_wp2_with fail
  refine (HP.out w2 _ HI2.out HB2.out (by omega) ((n : Int) + 1) (by omega) (by omega)).mono ?_
  rintro e w3 ⟨a, rfl, ha0, ha1, hI, hb, hk⟩
  have HI3 := Aside0.mk hI
  have HB3 := Aside0.mk hb
  have HS3 := Aside0.mk (Kd.S_keep HS2.out hk (fun k hk => hk))
  clear hI hb hk HI2 HB2 HS2
  go_wp2_with fail
  refine (HP.out w3 _ HI3.out HB3.out (by omega) 9 (by omega) (by omega)).mono ?_
  rintro e w4 ⟨b, rfl, hb0, hb1, hI, hb, hk⟩
  have HI4 := Aside0.mk hI
  have HB4 := Aside0.mk hb
  have HS4 := Aside0.mk (Kd.S_keep HS3.out hk (fun k hk => hk))
  clear hI hb hk HI3 HB3 HS3
  go_wp2_with fail
  refine (HP.out w4 _ HI4.out HB4.out (by omega) 20 (by omega) (by omega)).mono ?_
  rintro e w5 ⟨z, rfl, hz0, hz1, hI, hb, hk⟩
  have HI5 := Aside0.mk hI
  have HB5 := Aside0.mk hb
  have HS5 := Aside0.mk (Kd.S_keep HS4.out hk (fun k hk => hk))
  clear hI hb hk HI4 HB4 HS4
  have hz : 0 ≤ z / 19 ∧ z / 19 ≤ 1 := by omega
  have hbz : wrap64 (b - z / 19) = b - z / 19 := w64 (by omega) (by omega)
  go_wp2_with fail
  go_ret3
  exact ⟨gd, n, d, a, b - z / 19, rfl, HD.out.1, hn1, hn4, HD.out.2, Kd.S_mono HS5.out (fun _ _ => trivial), by omega, by omega, by omega, by omega, HB5.out⟩
set_option maxRecDepth 100000 in
set_option maxHeartbeats 4000000 in
theorem drawP_c {w : World} {A : Option Addr} {c : Nat} {l : List Int} (hr : Kd.C (Kd.int .u8) w A l.length l) (hl : ∀ x ∈ l, 0 ≤ x ∧ x ≤ 255) :
    Calls Try.prog 65 #[.slice A l.length c] w (Drawn2 w) := by
  have HP := Aside0.mk (fun (W : World) (K' : Int) (hI : CurAt w W w.heap.size l K') (hB : Below w.heap.size w W) (hK : K' ≤ 100000000000) (n : Int) (h1 : 1 ≤ n) (h2 : n ≤ 200) => pick_c hI hB hl hK n h1 h2)
  have HDD := Aside0.mk (fun (W : World) (hI : CurAt w W w.heap.size l 0) (hB : Below w.heap.size w W) => decks_c hI hB hl (by omega))
  have HI : Aside0 (CurAt w (w.alloc (.cells #[.slice A l.length c, .int .i64 0, .int .u64 0] 103)) w.heap.size l 0) := ⟨⟨0, 0, IsS103.new w w A c l 0 0 (Below.refl _ _) hr, by omega, by omega⟩⟩
  have HB : Aside0 (Below w.heap.size w (w.alloc (.cells #[.slice A l.length c, .int .i64 0, .int .u64 0] 103))) := ⟨below_alloc (Below.refl _ _) _⟩
  generalize hn : l.length = ln at *
  clear hr hl hn
  go_enter Try.func65, Try.ntmps65
  go_wp2_with fail
  generalize w.alloc (.cells #[.slice A ln c, .int .i64 0, .int .u64 0] 103) = w1 at *
  refine (HDD.out w1 HI.out HB.out).mono ?_
  rintro e w2 ⟨gd, n, d, rfl, hdn, hn1, hn4, htl, hS, hI, hb⟩
  have HI2 := Aside0.mk hI
  have HB2 := Aside0.mk hb
  have HS2 := Aside0.mk hS
  have HD := Aside0.mk (And.intro hdn htl)
  have hwn : wrap64 ((n : Int) + 1) = (n : Int) + 1 := w64 (by omega) (by omega)
  clear hI hb hS hdn htl HDD HI HB
  go_wp2_with fail
  refine (HP.out w2 _ HI2.out HB2.out (by omega) ((n : Int) + 1) (by omega) (by omega)).mono ?_
  rintro e w3 ⟨a, rfl, ha0, ha1, hI, hb, hk⟩
  have HI3 := Aside0.mk hI
  have HB3 := Aside0.mk hb
  have HS3 := Aside0.mk (Kd.S_keep HS2.out hk (fun k hk => hk))
  clear hI hb hk HI2 HB2 HS2
  go_wp2_with fail
  refine (HP.out w3 _ HI3.out HB3.out (by omega) 20 (by omega) (by omega)).mono ?_
  rintro e w4 ⟨z, rfl, hz0, hz1, hI, hb, hk⟩
  have HI4 := Aside0.mk hI
  have HB4 := Aside0.mk hb
  have HS4 := Aside0.mk (Kd.S_keep HS3.out hk (fun k hk => hk))
  clear hI hb hk HI3 HB3 HS3
  have hz : 0 ≤ z / 19 ∧ z / 19 ≤ 1 := by omega
  have hbz : wrap64 (a - z / 19) = a - z / 19 := w64 (by omega) (by omega)
  go_wp2_with fail
  refine (HP.out w4 _ HI4.out HB4.out (by omega) 25 (by omega) (by omega)).mono ?_
  rintro e w5 ⟨b, rfl, hb0, hb1, hI, hb, hk⟩
  have HI5 := Aside0.mk hI
  have HB5 := Aside0.mk hb
  have HS5 := Aside0.mk (Kd.S_keep HS4.out hk (fun k hk => hk))
  clear hI hb hk HI4 HB4 HS4
  go_wp2_with fail
  go_ret3
  exact ⟨gd, n, d, a - z / 19, b, rfl, HD.out.1, hn1, hn4, HD.out.2, Kd.S_mono HS5.out (fun _ _ => trivial), by omega, by omega, by omega, by omega, HB5.out⟩
/-- Drawn decks with one number. -/
def Drawn1 (w : World) (e : Ending) (w' : World) : Prop := ∃ (gd n : Nat) (d : List (List Int)) (a : Int), e = .returned (.tuple #[.slice (some ⟨gd, 0, none⟩) n n, .int .i64 a]) ∧ d.length = n ∧ 1 ≤ n ∧ n ≤ 4 ∧ tl d ≤ 20 ∧ Kd.S (Kd.slice 3 (Kd.int .i64)) 32 w' w.heap.size (fun _ => True) (.slice (some ⟨gd, 0, none⟩) n n) d ∧ -1000 ≤ a ∧ a ≤ 1000 ∧ Below w.heap.size w w'
/-- Drawn decks. -/
def Drawn0D (w : World) (e : Ending) (w' : World) : Prop := ∃ (gd n : Nat) (d : List (List Int)), e = .returned (.slice (some ⟨gd, 0, none⟩) n n) ∧ d.length = n ∧ 1 ≤ n ∧ n ≤ 4 ∧ tl d ≤ 20 ∧ Kd.S (Kd.slice 3 (Kd.int .i64)) 32 w' w.heap.size (fun _ => True) (.slice (some ⟨gd, 0, none⟩) n n) d ∧ Below w.heap.size w w'
/-- A drawn number. -/
def DrawnI (w : World) (e : Ending) (w' : World) : Prop := ∃ a : Int, e = .returned (.int .i64 a) ∧ -1 ≤ a ∧ a ≤ 9 ∧ Below w.heap.size w w'
set_option maxRecDepth 100000 in
set_option maxHeartbeats 4000000 in
theorem drawN_c {w : World} {A : Option Addr} {c : Nat} {l : List Int} (hr : Kd.C (Kd.int .u8) w A l.length l) (hl : ∀ x ∈ l, 0 ≤ x ∧ x ≤ 255) :
    Calls Try.prog 61 #[.slice A l.length c] w (DrawnI w) := by
  have HP := Aside0.mk (fun (W : World) (K' : Int) (hI : CurAt w W w.heap.size l K') (hB : Below w.heap.size w W) (hK : K' ≤ 100000000000) (n : Int) (h1 : 1 ≤ n) (h2 : n ≤ 200) => pick_c hI hB hl hK n h1 h2)
  have HDD := Aside0.mk (fun (W : World) (hI : CurAt w W w.heap.size l 0) (hB : Below w.heap.size w W) => decks_c hI hB hl (by omega))
  have HI : Aside0 (CurAt w (w.alloc (.cells #[.slice A l.length c, .int .i64 0, .int .u64 0] 103)) w.heap.size l 0) := ⟨⟨0, 0, IsS103.new w w A c l 0 0 (Below.refl _ _) hr, by omega, by omega⟩⟩
  have HB : Aside0 (Below w.heap.size w (w.alloc (.cells #[.slice A l.length c, .int .i64 0, .int .u64 0] 103))) := ⟨below_alloc (Below.refl _ _) _⟩
  generalize hn : l.length = ln at *
  clear hr hl hn
  go_enter Try.func61, Try.ntmps61
  go_wp2_with fail
  generalize w.alloc (.cells #[.slice A ln c, .int .i64 0, .int .u64 0] 103) = w1 at *
  refine (HP.out w1 _ HI.out HB.out (by omega) 11 (by omega) (by omega)).mono ?_
  rintro e w2 ⟨a, rfl, ha0, ha1, hI, hb, hk⟩
  have hw : wrap64 (a - 1) = a - 1 := w64 (by omega) (by omega)
  have HB2 := Aside0.mk hb
  clear hI hb hk HI HB HDD
  go_wp2_with fail
  go_ret
  exact ⟨a - 1, rfl, by omega, by omega, HB2.out⟩
set_option maxRecDepth 100000 in
set_option maxHeartbeats 4000000 in
theorem drawG_c {w : World} {A : Option Addr} {c : Nat} {l : List Int} (hr : Kd.C (Kd.int .u8) w A l.length l) (hl : ∀ x ∈ l, 0 ≤ x ∧ x ≤ 255) :
    Calls Try.prog 112 #[.slice A l.length c] w (Drawn0D w) := by
  have HP := Aside0.mk (fun (W : World) (K' : Int) (hI : CurAt w W w.heap.size l K') (hB : Below w.heap.size w W) (hK : K' ≤ 100000000000) (n : Int) (h1 : 1 ≤ n) (h2 : n ≤ 200) => pick_c hI hB hl hK n h1 h2)
  have HDD := Aside0.mk (fun (W : World) (hI : CurAt w W w.heap.size l 0) (hB : Below w.heap.size w W) => decks_c hI hB hl (by omega))
  have HI : Aside0 (CurAt w (w.alloc (.cells #[.slice A l.length c, .int .i64 0, .int .u64 0] 103)) w.heap.size l 0) := ⟨⟨0, 0, IsS103.new w w A c l 0 0 (Below.refl _ _) hr, by omega, by omega⟩⟩
  have HB : Aside0 (Below w.heap.size w (w.alloc (.cells #[.slice A l.length c, .int .i64 0, .int .u64 0] 103))) := ⟨below_alloc (Below.refl _ _) _⟩
  generalize hn : l.length = ln at *
  clear hr hl hn
  go_enter Try.func112, Try.ntmps112
  go_wp2_with fail
  generalize w.alloc (.cells #[.slice A ln c, .int .i64 0, .int .u64 0] 103) = w1 at *
  refine (HDD.out w1 HI.out HB.out).mono ?_
  rintro e w2 ⟨gd, n, d, rfl, hdn, hn1, hn4, htl, hS, hI, hb⟩
  have HB2 := Aside0.mk hb
  have HS2 := Aside0.mk hS
  have HD := Aside0.mk (And.intro hdn htl)
  clear hI hb hS hdn htl HDD HI HB HP
  go_wp2_with fail
  go_ret
  exact ⟨gd, n, d, rfl, HD.out.1, hn1, hn4, HD.out.2, Kd.S_mono HS2.out (fun _ _ => trivial), HB2.out⟩
set_option maxRecDepth 100000 in
theorem drawT_c {w : World} {A : Option Addr} {c : Nat} {l : List Int} (hr : Kd.C (Kd.int .u8) w A l.length l) (hl : ∀ x ∈ l, 0 ≤ x ∧ x ≤ 255) :
    Calls Try.prog 71 #[.slice A l.length c] w (Drawn0D w) := by
  have H := Aside0.mk (drawG_c (c := c) hr hl)
  generalize l.length = ln at *
  clear hr hl
  go_enter Try.func71, Try.ntmps71
  go_wp2_with fail
  refine H.out.mono ?_
  rintro e w2 ⟨gd, n, d, rfl, hx⟩
  have HX := Aside0.mk hx
  clear hx H
  go_wp2_with fail
  go_ret
  exact ⟨gd, n, d, rfl, HX.out⟩
set_option maxRecDepth 100000 in
theorem drawQ_c {w : World} {A : Option Addr} {c : Nat} {l : List Int} (hr : Kd.C (Kd.int .u8) w A l.length l) (hl : ∀ x ∈ l, 0 ≤ x ∧ x ≤ 255) :
    Calls Try.prog 69 #[.slice A l.length c] w (Drawn1 w) := by
  have H := Aside0.mk (drawP_c (c := c) hr hl)
  generalize l.length = ln at *
  clear hr hl
  go_enter Try.func69, Try.ntmps69
  go_wp2_with fail
  refine H.out.mono ?_
  rintro e w2 ⟨gd, n, d, a, b, rfl, hx⟩
  have HX := Aside0.mk hx
  clear hx H
  go_wp2_with fail
  go_ret2
  obtain ⟨x1, x2, x3, x4, x5, x6, x7, x8, x9, x10⟩ := HX.out
  exact ⟨gd, n, d, a, rfl, x1, x2, x3, x4, x5, x6, x7, x10⟩
end Go.Proofs.Ytoaimlpbliabdaa.DFnExactPushTo
