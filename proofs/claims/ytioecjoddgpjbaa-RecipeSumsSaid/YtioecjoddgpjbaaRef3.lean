/-
  The reference of chapter 3: Even, Scale, Floor.
-/
import Derived.Test.YtioecjoddgpjbaaNear
import Derived.Test.YtioecjoddgpjbaaScP
namespace Go.Proofs.Ytioecjoddgpjbaa
open Go.RowKit

set_option maxHeartbeats 1000000 in
theorem reven_any {S : Nat → Prop} {w : World} {v : Value} {z d : Int} {L : Nat} (hz : BigIs S w v z L) (hL : L ≤ 80000) (hL2 : 19 ≤ L + 2) (d2 : d ≤ 9223372036854775807) :
    Calls Try.prog 64 #[v, .int .i64 d] w fun e w' => e = .returned (.tuple #[.int .i64 (evenI z d).1, .int .i64 (evenI z d).2]) ∧ Below w.heap.size w w' := by
  obtain ⟨s, A, n, c, rfl⟩ := hz.form2
  by_cases h : d < 1
  · unfold evenI
    rw [if_pos h]
    go_enter Try.func64, Try.ntmps64
    go_wp2
    go_ret2
    exact ⟨rfl, (Below.refl _ _).alloc (Nat.le_refl _) _⟩
  · have NE := Lib.hid (near_any (hz.alloc (.cells #[.bool s, .slice A n c] 52)) hL hL2 (show 1 ≤ d by omega) d2)
    have TD := Lib.hid fun (w : World) S va (ha : BigIs S w va (nearI z d) (L + 3)) => told_any ha (by omega)
    unfold evenI
    rw [if_neg h]
    generalize toldI (nearI z d) = p at *
    clear hz
    go_enter Try.func64, Try.ntmps64
    go_wp2_with fail
    refine NE.out.mono ?_
    rintro e w1 ⟨v1, rfl, m1, b1⟩
    have b1 := below_up b1
    go_wp2_with fail
    refine (TD.out _ _ _ m1).mono ?_
    rintro e w2 ⟨rfl, b2⟩
    have B := b1.trans (b2.mono b1.size)
    go_wp2_with fail
    go_ret2
    exact ⟨rfl, B⟩

set_option maxHeartbeats 1000000 in
theorem rscale_any {x n d : Int} (x1 : -9223372036854775808 ≤ x) (x2 : x ≤ 9223372036854775807) (n1 : -9223372036854775808 ≤ n) (n2 : n ≤ 9223372036854775807) (d2 : d ≤ 9223372036854775807) (w : World) :
    Calls Try.prog 57 #[.int .i64 x, .int .i64 n, .int .i64 d] w fun e w' => e = .returned (.tuple #[.int .i64 (evenI (x * n) d).1, .int .i64 (evenI (x * n) d).2]) ∧ Below w.heap.size w w' := by
  have OX := Lib.hid fun (w : World) => of_any x w x1 x2
  have ON := Lib.hid fun (w : World) => of_any n w n1 n2
  have TM := Lib.hid fun (w : World) S S' va vb (ha : BigIs S w va x 19) (hb : BigIs S' w vb n 19) => times_any ha hb (by omega)
  have EV := Lib.hid fun (w : World) S va (ha : BigIs S w va (x * n) 38) => reven_any ha (by omega) (by omega) d2
  clear x1 x2 n1 n2 d2
  generalize evenI (x * n) d = p at *
  go_enter Try.func57, Try.ntmps57
  have B0 := Below.refl w.heap.size w
  go_wp2_with fail
  refine (OX.out _).mono ?_
  rintro e w1 ⟨v1, rfl, m1, b1⟩
  have B1 := B0.trans (b1.mono B0.size)
  clear b1 B0
  obtain ⟨t1, A1, n1, c1, rfl⟩ := m1.form2
  go_wp2_with fail
  refine (ON.out _).mono ?_
  rintro e w2 ⟨v2, rfl, m2, b2⟩
  replace m1 := m1.below b2 (Nat.le_refl _)
  have B2 := B1.trans (b2.mono B1.size)
  clear b2 B1
  obtain ⟨t2, A2, n2, c2, rfl⟩ := m2.form2
  go_wp2_with fail
  refine (TM.out _ _ _ _ _ m1 m2).mono ?_
  rintro e w3 ⟨v3, rfl, m3, b3⟩
  replace m1 := m1.below b3 (Nat.le_refl _)
  replace m2 := m2.below b3 (Nat.le_refl _)
  have B3 := B2.trans (b3.mono B2.size)
  clear b3 B2
  obtain ⟨t3, A3, n3, c3, rfl⟩ := m3.form2
  go_wp2_with fail
  refine (EV.out _ _ _ m3).mono ?_
  rintro e w4 ⟨rfl, b4⟩
  replace m1 := m1.below b4 (Nat.le_refl _)
  replace m2 := m2.below b4 (Nat.le_refl _)
  replace m3 := m3.below b4 (Nat.le_refl _)
  have B4 := B3.trans (b4.mono B3.size)
  clear b4 B3
  go_wp2_with fail
  go_ret2
  exact ⟨rfl, B4⟩

end Go.Proofs.Ytioecjoddgpjbaa
