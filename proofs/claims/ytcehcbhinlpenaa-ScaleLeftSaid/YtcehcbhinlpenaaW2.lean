/-
  The reference's wide numbers: word, power, Of.
-/
import Derived.Test.YtcehcbhinlpenaaM
import Derived.Lib.Zigzag
namespace Go.Proofs.Ytcehcbhinlpenaa
open Go.RowKit

theorem below_undrew {w w' : World} (h : Below w.drew.heap.size w.drew w') : Below w.heap.size w w' := ⟨h.os, h.tape, h.output, h.size, h.block⟩

/-- A Big that is stored into the result's cell and handed back. -/
theorem bigIs_back {N g : Nat} {w : World} {A : Option Addr} {c : Nat} {xs : List Int} {b : Bool} {z : Int} {L : Nat} (hb : b = decide (z < 0)) (h : Can xs ∧ val xs = z.natAbs ∧ xs.length ≤ L ∧ xs.length ≤ c ∧ c ≤ maxLen ∧ RowS (fun x => N ≤ x) w A (ivals xs)) (hg : g < N) (u u' : Value) {i i' : Nat} {M : Nat} (hM : M ≤ N) :
    BigIs (fun x => M ≤ x) ((w.setCell ⟨g, i, none⟩ u).setCell ⟨g, i', none⟩ u') (.agg #[.bool b, .slice A xs.length c]) z L := by
  obtain ⟨g1, g2, g3, g4, g5, g6⟩ := h
  exact ⟨A, c, xs, by rw [hb], g1, g2, g3, g4, g5, ((g6.setCell (by omega) _).setCell (by omega) _).mono (fun b _ h => by omega)⟩

set_option maxHeartbeats 1000000 in
theorem power_any (w : World) :
    Calls Try.prog 45 #[] w fun e w' => ∃ v, e = .returned v ∧ BigIs (fun x => w.heap.size ≤ x) w' v 18446744073709551616 38 ∧ Below w.heap.size w w' := by
  have O := Lib.hid fun w => of_any 4294967296 w (by omega) (by omega)
  have T := Lib.hid fun (w : World) S S' va vb (ha : BigIs S w va 4294967296 19) (hb : BigIs S' w vb 4294967296 19) => times_any ha hb (by omega)
  rw [show (4294967296 : Int) * 4294967296 = 18446744073709551616 by omega] at T
  go_enter Try.func45, Try.ntmps45
  go_wp2_with fail
  refine (O.out _).mono ?_
  rintro e w1 ⟨v1, rfl, m1, b1⟩
  go_wp2_with fail
  refine (O.out _).mono ?_
  rintro e w2 ⟨v2, rfl, m2, b2⟩
  have m1 := m1.below b2 (Nat.le_refl _)
  go_wp2_with fail
  refine (T.out _ _ _ _ _ m1 m2).mono ?_
  rintro e w3 ⟨v3, rfl, ⟨A3, c3, x3, rfl, m3⟩, b3⟩
  have M3 := Lib.hid m3
  have hb1 := (Box.new w 24 #[.bool false, .slice none 0 0])
  have hb3 := ((hb1.later b1).later b2).later b3
  have cc := hb3.cells
  have cf := hb3.free
  have s1 := b1.size
  simp at s1
  have s2 := b2.size
  have B2 := (below_up b1).trans (b2.mono (by omega))
  have B3 := Lib.hid (B2.trans (b3.mono B2.size))
  clear m1 m2 m3 hb1 hb3 b1 b2 b3 B2
  go_wp2
  refine bodyPost_ret (by unfold results; simp only [Try.results45]; go_simp; rfl) rfl ?_
  exact ⟨_, rfl, bigIs_back rfl M3.out (by omega) _ _ (by omega), (B3.out.setCell (Nat.le_refl _) _).setCell (Nat.le_refl _) _⟩

set_option maxHeartbeats 1000000 in
theorem word_any {u : Int} {w : World} (h1 : 0 ≤ u) (h2 : u < 18446744073709551616) :
    Calls Try.prog 46 #[.int .u64 u] w fun e w' => ∃ v, e = .returned v ∧ BigIs (fun x => w.heap.size ≤ x) w' v u 39 ∧ Below w.heap.size w w' := by
  have O := Lib.hid fun a w h1 h2 => of_any a w h1 h2
  have T := Lib.hid fun (w : World) S S' va vb a b (ha : BigIs S w va a 19) (hb : BigIs S' w vb b 19) => times_any ha hb (by omega)
  have P : Hid (∀ (w : World) S S' va vb, BigIs S w va (u / 2 * 2) 38 → BigIs S' w vb (u % 2) 19 → Calls Try.prog 24 #[va, vb] w fun e w' => ∃ v, e = .returned v ∧ BigIs (fun x => w.heap.size ≤ x) w' v u 39 ∧ Below w.heap.size w w') := by
    intro w S S' va vb ha hb
    have := plus_any ha hb (by omega) (by omega)
    rw [show u / 2 * 2 + u % 2 = u by omega] at this
    exact this
  have hand : bits BinOp.and IntKind.u64 u 1 = u % 2 := Lib.u64_and1 u h1 h2
  go_enter Try.func46, Try.ntmps46
  go_wp2_with fail
  refine (O.out _ _ (by omega) (by omega)).mono ?_
  rintro e w1 ⟨v1, rfl, m1, b1⟩
  go_wp2_with fail
  refine (O.out _ _ (by omega) (by omega)).mono ?_
  rintro e w2 ⟨v2, rfl, m2, b2⟩
  have m1 := m1.below b2 (Nat.le_refl _)
  go_wp2_with fail
  refine (T.out _ _ _ _ _ _ _ m1 m2).mono ?_
  rintro e w3 ⟨v3, rfl, m3, b3⟩
  go_wp2_with fail
  refine (O.out _ _ (by omega) (by omega)).mono ?_
  rintro e w4 ⟨v4, rfl, m4, b4⟩
  have m3 := m3.below b4 (Nat.le_refl _)
  go_wp2_with fail
  refine (P.out _ _ _ _ _ m3 m4).mono ?_
  rintro e w5 ⟨v5, rfl, ⟨A5, c5, x5, rfl, m5⟩, b5⟩
  have M5 := Lib.hid m5
  have hb1 := (Box.new w 24 #[.bool false, .slice none 0 0])
  have hb5 := ((((hb1.later b1).later b2).later b3).later b4).later b5
  have cc := hb5.cells
  have cf := hb5.free
  have s1 := b1.size
  simp at s1
  have s2 := b2.size
  have s3 := b3.size
  have s4 := b4.size
  have B5 := Lib.hid ((((below_up b1).trans (b2.mono (by omega))).trans (b3.mono (by omega))).trans (b4.mono (by omega)) |>.trans (b5.mono (by omega)))
  clear m1 m2 m3 m4 m5 hb1 hb5 b1 b2 b3 b4 b5
  go_wp2
  refine bodyPost_ret (by unfold results; simp only [Try.results46]; go_simp; rfl) rfl ?_
  exact ⟨_, rfl, bigIs_back (by first | rfl | simp; omega) M5.out (by omega) _ _ (by omega), (B5.out.setCell (Nat.le_refl _) _).setCell (Nat.le_refl _) _⟩

/-- A wide number. -/
def WC (z : Int) : Array Value := #[.int .i64 (z / 18446744073709551616), .int .u64 (z % 18446744073709551616)]
def WV (z : Int) : Value := .agg (WC z)
theorem WV_out (z : Int) : WV z = .agg #[.int .i64 (z / 18446744073709551616), .int .u64 (z % 18446744073709551616)] := rfl

set_option maxHeartbeats 1000000 in
theorem rof_any {h l : Int} {w : World} (h1 : -9223372036854775808 ≤ h) (h2 : h ≤ 9223372036854775807) (l1 : 0 ≤ l) (l2 : l < 18446744073709551616) :
    Calls Try.prog 17 #[.agg #[.int .i64 h, .int .u64 l]] w fun e w' => ∃ v, e = .returned v ∧ BigIs (fun x => w.heap.size ≤ x) w' v (h * 18446744073709551616 + l) 58 ∧ Below w.heap.size w w' := by
  have O := Lib.hid fun w => of_any h w h1 h2
  have W := Lib.hid fun w => word_any (u := l) (w := w) l1 l2
  have Q := Lib.hid fun w => power_any w
  have T := Lib.hid fun (w : World) S S' va vb (ha : BigIs S w va h 19) (hb : BigIs S' w vb 18446744073709551616 38) => times_any ha hb (by omega)
  have P := Lib.hid fun (w : World) S S' va vb (ha : BigIs S w va (h * 18446744073709551616) 57) (hb : BigIs S' w vb l 39) => plus_any ha hb (by omega) (by omega)
  go_enter Try.func17, Try.ntmps17
  go_wp2
  obtain ⟨W0, hW0⟩ : ∃ W0, W0 = ((w.alloc (.cells #[.int .i64 h, .int .u64 l] 28)).alloc (.cells #[.bool false, .slice none 0 0] 24)) := ⟨_, rfl⟩
  have x0 : Box W0 w.heap.size 28 #[.int .i64 h, .int .u64 l] := by rw [hW0]; exact (Box.new _ _ _).alloc _
  have x1 : Box W0 (w.heap.size + 1) 24 #[.bool false, .slice none 0 0] := by rw [hW0]; exact Box.new' (by simp)
  have hb : Below w.heap.size w W0 := by rw [hW0]; exact ((Below.refl _ _).alloc (Nat.le_refl _) _).alloc (by simp) _
  have hs0 : w.heap.size + 1 < W0.heap.size := by rw [hW0]; simp
  rewrite [← hW0]
  clear hW0
  have y0 := x0.drew
  have k0 := y0.cells
  have z0 := x1.drew
  go_region_held3 (fun w' => w'.cell? ⟨w.heap.size, 0, none⟩ = some (.int .i64 h) ∧ w'.cell? ⟨w.heap.size, 1, none⟩ = some (.int .u64 l)) (go_keep)
    (first
      | (go_at_call 11; refine (O.out _).mono ?_; rintro e w1 ⟨v1, rfl, m1, b1⟩; have y1 := y0.later b1; have k1 := y1.cells; have z1 := z0.later b1)
      | (go_at_call 45; refine (Q.out _).mono ?_; rintro e w2 ⟨v2, rfl, m2, b2⟩; have y2 := y1.later b2; have k2 := y2.cells; have z2 := z1.later b2)
      | (go_at_call 15; refine (T.out _ _ _ _ _ (m1.below b2 (Nat.le_refl _)) m2).mono ?_; rintro e w3 ⟨v3, rfl, m3, b3⟩; have y3 := y2.later b3; have k3 := y3.cells; have z3 := z2.later b3)
      | (go_at_call 46; refine (W.out _).mono ?_; rintro e w4 ⟨v4, rfl, m4, b4⟩; have y4 := y3.later b4; have k4 := y4.cells; have z4 := z3.later b4)
      | (go_at_call 24; refine (P.out _ _ _ _ _ (m3.below b4 (Nat.le_refl _)) m4).mono ?_; rintro e w5 ⟨v5, rfl, ⟨A5, c5, xs5, rfl, m5⟩, b5⟩; have y5 := y4.later b5; have k5 := y5.cells; have z5 := z4.later b5; have kc := z5.cells; have kf := z5.free))
  have M5 := Lib.hid m5
  have s1 : W0.heap.size ≤ w1.heap.size := b1.size
  have s2 := b2.size
  have s3 := b3.size
  have s4 := b4.size
  have B5 := Lib.hid (((((hb.trans ((below_undrew b1).mono (by omega))).trans (b2.mono (by omega))).trans (b3.mono (by omega))).trans (b4.mono (by omega))).trans (b5.mono (by omega)))
  clear m1 m2 m3 m4 m5 b1 b2 b3 b4 b5 x0 x1 hb y0 y1 y2 y3 y4 y5 z0 z1 z2 z3 z4 z5 k1 k2 k3 k4 k5 k0
  have kc' := kc
  go_wp2
  refine bodyPost_ret (by unfold results; simp only [Try.results17]; go_simp; rfl) rfl ?_
  exact ⟨_, rfl, bigIs_back rfl M5.out (by omega) _ _ (by omega), (B5.out.setCell (by simp) _).setCell (by simp) _⟩
end Go.Proofs.Ytcehcbhinlpenaa
