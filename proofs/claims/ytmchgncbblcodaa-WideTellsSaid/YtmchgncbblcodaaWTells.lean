/-
  WideTells: the walk.
-/
import Derived.Test.YtmchgncbblcodaaWAwake
namespace Go.Proofs.Ytmchgncbblcodaa
open Go.RowKit

set_option maxRecDepth 100000 in
set_option maxHeartbeats 4000000 in
theorem wtells_law (a b : Int) (w : World) (a1 : -9223372036854775808 ≤ a) (a2 : a ≤ 9223372036854775807) (b1 : -9223372036854775808 ≤ b) (b2 : b ≤ 9223372036854775807) :
    Calls Try.prog 3 #[.int .i64 a, .int .i64 b] w fun e w' => e = .returned (.bool true) ∧ Below w.heap.size w w' := by
  have AW := Lib.hid fun w => wawake_any w
  have OA := Lib.hid fun w => of_any a w a1 a2
  have OB := Lib.hid fun w => of_any b w b1 b2
  have hz : W128 (a * b) := by
    have h1 := Int.natAbs_mul a b
    have h2 := Nat.mul_le_mul (show a.natAbs ≤ 9223372036854775808 by omega) (show b.natAbs ≤ 9223372036854775808 by omega)
    generalize a * b = z at *
    exact ⟨by omega, by omega⟩
  have ML := Lib.hid fun w => wmul_any (w := w) a1 a2 b1 b2
  have WI := Lib.hid fun w => wint_any (w := w) hz
  have WO := Lib.hid fun w => wof_any (w := w) a1 a2
  have RA := Lib.hid fun w => rofz_any (w := w) (show W128 a from ⟨by omega, by omega⟩)
  have RZ := Lib.hid fun w => rofz_any (w := w) hz
  have TM := Lib.hid fun (w : World) S S' va vb (ha : BigIs S w va a 19) (hb : BigIs S' w vb b 19) => times_any ha hb (by omega)
  have TD := Lib.hid fun (w : World) S va (ha : BigIs S w va (a * b) 38) => told_any ha (by omega)
  have CA := Lib.hid fun (w : World) S S' va vb (ha : BigIs S w va a 58) (hb : BigIs S' w vb a 19) => cmp_any ha hb (by omega) (by omega)
  have CZ := Lib.hid fun (w : World) S S' va vb (ha : BigIs S w va (a * b) 58) (hb : BigIs S' w vb (a * b) 38) => cmp_any ha hb (by omega) (by omega)
  rw [cmpI_eq rfl] at CA CZ
  simp only [WV_out] at ML WI WO RA RZ
  clear hz a1 a2 b1 b2
  generalize (toldI (a * b)).1 = p at *
  generalize (toldI (a * b)).2 = q at *
  generalize a / 18446744073709551616 = ah at *
  generalize a % 18446744073709551616 = al at *
  generalize a * b / 18446744073709551616 = zh at *
  generalize a * b % 18446744073709551616 = zl at *
  go_enter Try.func3, Try.ntmps3
  have B0 := Below.refl w.heap.size w
  go_wp2_with fail
  refine (OA.out _).mono ?_
  rintro e w1 ⟨v1, rfl, m1, b1⟩
  have B1 := B0.trans (b1.mono B0.size)
  clear b1 B0
  obtain ⟨t1, A1, n1, c1, rfl⟩ := m1.form2
  go_wp2_with fail
  refine (OB.out _).mono ?_
  rintro e w2 ⟨v2, rfl, m2, b2⟩
  replace m1 := m1.below b2 (Nat.le_refl _)
  have B2 := B1.trans (b2.mono B1.size)
  clear b2 B1
  obtain ⟨t2, A2, n2, c2, rfl⟩ := m2.form2
  go_wp2_with fail
  refine (ML.out _).mono ?_
  rintro e w3 ⟨rfl, b3⟩
  have x5 := ((Box.new w2 24 #[.bool t1, .slice A1 n1 c1]).alloc _).later b3
  have x6 := (Box.new' (w := w2.alloc (.cells #[.bool t1, .slice A1 n1 c1] 24)) (g := w2.heap.size + 1) (t := 24) (cs := #[.bool t2, .slice A2 n2 c2]) (by simp)).later b3
  replace m1 := ((m1.alloc _).alloc _).below b3 (Nat.le_refl _)
  replace m2 := ((m2.alloc _).alloc _).below b3 (Nat.le_refl _)
  have b3 := below_up b3
  have b3 := below_up b3
  have B3 := B2.trans (b3.mono B2.size)
  clear b3 B2
  go_wp2_with fail
  refine (WI.out _).mono ?_
  rintro e w4 ⟨rfl, b4⟩
  have x7 := (Box.new w3 28 #[.int .i64 zh, .int .u64 zl]).later b4
  replace m1 := (m1.alloc _).below b4 (Nat.le_refl _)
  replace m2 := (m2.alloc _).below b4 (Nat.le_refl _)
  replace x5 := (x5.alloc _).later b4
  replace x6 := (x6.alloc _).later b4
  have b4 := below_up b4
  have B4 := B3.trans (b4.mono B3.size)
  clear b4 B3
  have k5 := x5.cells
  have k6 := x6.cells
  go_wp2_with fail
  refine (TM.out _ _ _ _ _ m1 m2).mono ?_
  rintro e w5 ⟨v3, rfl, m3, b5⟩
  replace m1 := m1.below b5 (Nat.le_refl _)
  replace m2 := m2.below b5 (Nat.le_refl _)
  replace x5 := x5.later b5
  replace x6 := x6.later b5
  replace x7 := x7.later b5
  have B5 := B4.trans (b5.mono B4.size)
  clear b5 B4
  clear k5 k6
  go_wp2_with fail
  refine (TD.out _ _ _ m3).mono ?_
  rintro e w6 ⟨rfl, b6⟩
  replace m1 := m1.below b6 (Nat.le_refl _)
  replace m2 := m2.below b6 (Nat.le_refl _)
  replace x5 := x5.later b6
  replace x6 := x6.later b6
  replace x7 := x7.later b6
  replace m3 := m3.below b6 (Nat.le_refl _)
  have B6 := B5.trans (b6.mono B5.size)
  clear b6 B5
  clear m3
  go_wp2
  have kkx5 := x5.cells
  have kkx6 := x6.cells
  have kkx7 := x7.cells
  go_region_held3 (fun w' => w'.cell? ⟨w2.heap.size, 0, none⟩ = some (.bool t1) ∧ w'.cell? ⟨w2.heap.size, 1, none⟩ = some (.slice A1 n1 c1) ∧ w'.cell? ⟨w2.heap.size + 1, 0, none⟩ = some (.bool t2) ∧ w'.cell? ⟨w2.heap.size + 1, 1, none⟩ = some (.slice A2 n2 c2) ∧ w'.cell? ⟨w3.heap.size, 0, none⟩ = some (.int .i64 zh) ∧ w'.cell? ⟨w3.heap.size, 1, none⟩ = some (.int .u64 zl)) (go_keep)
    (first
      | (go_at_call 18; (with_reducible refine (WO.out _).mono ?_); rintro e w60 ⟨rfl, b60⟩; have yx5 : Box w60 (w2.heap.size) 24 #[.bool t1, .slice A1 n1 c1] := (by first | exact (x5).drew.later b60); have kyx5 := yx5.cells; have yx6 : Box w60 (w2.heap.size + 1) 24 #[.bool t2, .slice A2 n2 c2] := (by first | exact (x6).drew.later b60); have kyx6 := yx6.cells; have yx7 : Box w60 (w3.heap.size) 28 #[.int .i64 zh, .int .u64 zl] := (by first | exact (x7).drew.later b60); have kyx7 := yx7.cells; have cb : Below w6.heap.size w6 w60 := (by first | exact (below_undrew b60)); have m1 := m1.drew.below b60 (Nat.le_refl _); have m2 := m2.drew.below b60 (Nat.le_refl _))
      | (go_at_call 17; (with_reducible refine (RA.out _).mono ?_); rintro e w61 ⟨v4, rfl, m4, b61⟩; have yx5 : Box w61 (w2.heap.size) 24 #[.bool t1, .slice A1 n1 c1] := (by first | exact (yx5).later b61); have kyx5 := yx5.cells; have yx6 : Box w61 (w2.heap.size + 1) 24 #[.bool t2, .slice A2 n2 c2] := (by first | exact (yx6).later b61); have kyx6 := yx6.cells; have yx7 : Box w61 (w3.heap.size) 28 #[.int .i64 zh, .int .u64 zl] := (by first | exact (yx7).later b61); have kyx7 := yx7.cells; have cb : Below w6.heap.size w6 w61 := (by first | exact cb.trans (b61.mono cb.size)); have m1 := m1.below b61 (Nat.le_refl _); have m2 := m2.below b61 (Nat.le_refl _))
      | (go_at_call 16; (with_reducible refine (CA.out _ _ _ _ _ m4 m1).mono ?_); rintro e w62 ⟨rfl, b62⟩; have yx5 : Box w62 (w2.heap.size) 24 #[.bool t1, .slice A1 n1 c1] := (by first | exact (yx5).later b62); have kyx5 := yx5.cells; have yx6 : Box w62 (w2.heap.size + 1) 24 #[.bool t2, .slice A2 n2 c2] := (by first | exact (yx6).later b62); have kyx6 := yx6.cells; have yx7 : Box w62 (w3.heap.size) 28 #[.int .i64 zh, .int .u64 zl] := (by first | exact (yx7).later b62); have kyx7 := yx7.cells; have cb : Below w6.heap.size w6 w62 := (by first | exact cb.trans (b62.mono cb.size)); have m1 := m1.below b62 (Nat.le_refl _); have m2 := m2.below b62 (Nat.le_refl _))
      | (go_at_call 17; (with_reducible refine (RZ.out _).mono ?_); rintro e w63 ⟨v5, rfl, m5, b63⟩; have yx5 : Box w63 (w2.heap.size) 24 #[.bool t1, .slice A1 n1 c1] := (by first | exact (yx5).later b63); have kyx5 := yx5.cells; have yx6 : Box w63 (w2.heap.size + 1) 24 #[.bool t2, .slice A2 n2 c2] := (by first | exact (yx6).later b63); have kyx6 := yx6.cells; have yx7 : Box w63 (w3.heap.size) 28 #[.int .i64 zh, .int .u64 zl] := (by first | exact (yx7).later b63); have kyx7 := yx7.cells; have cb : Below w6.heap.size w6 w63 := (by first | exact cb.trans (b63.mono cb.size)); have m1 := m1.below b63 (Nat.le_refl _); have m2 := m2.below b63 (Nat.le_refl _))
      | (go_at_call 15; (with_reducible refine (TM.out _ _ _ _ _ m1 m2).mono ?_); rintro e w64 ⟨v6, rfl, m6, b64⟩; have yx5 : Box w64 (w2.heap.size) 24 #[.bool t1, .slice A1 n1 c1] := (by first | exact (yx5).later b64); have kyx5 := yx5.cells; have yx6 : Box w64 (w2.heap.size + 1) 24 #[.bool t2, .slice A2 n2 c2] := (by first | exact (yx6).later b64); have kyx6 := yx6.cells; have yx7 : Box w64 (w3.heap.size) 28 #[.int .i64 zh, .int .u64 zl] := (by first | exact (yx7).later b64); have kyx7 := yx7.cells; have cb : Below w6.heap.size w6 w64 := (by first | exact cb.trans (b64.mono cb.size)); have m1 := m1.below b64 (Nat.le_refl _); have m2 := m2.below b64 (Nat.le_refl _); have m5 := m5.below b64 (Nat.le_refl _))
      | (go_at_call 16; (with_reducible refine (CZ.out _ _ _ _ _ m5 m6).mono ?_); rintro e w65 ⟨rfl, b65⟩; have yx5 : Box w65 (w2.heap.size) 24 #[.bool t1, .slice A1 n1 c1] := (by first | exact (yx5).later b65); have kyx5 := yx5.cells; have yx6 : Box w65 (w2.heap.size + 1) 24 #[.bool t2, .slice A2 n2 c2] := (by first | exact (yx6).later b65); have kyx6 := yx6.cells; have yx7 : Box w65 (w3.heap.size) 28 #[.int .i64 zh, .int .u64 zl] := (by first | exact (yx7).later b65); have kyx7 := yx7.cells; have cb : Below w6.heap.size w6 w65 := (by first | exact cb.trans (b65.mono cb.size)); have m1 := m1.below b65 (Nat.le_refl _); have m2 := m2.below b65 (Nat.le_refl _))
      | (go_at_call 19; (with_reducible refine (AW.out _).mono ?_); rintro e w66 ⟨rfl, b66⟩; have yx5 : Box w66 (w2.heap.size) 24 #[.bool t1, .slice A1 n1 c1] := (by first | exact (yx5).later b66); have kyx5 := yx5.cells; have yx6 : Box w66 (w2.heap.size + 1) 24 #[.bool t2, .slice A2 n2 c2] := (by first | exact (yx6).later b66); have kyx6 := yx6.cells; have yx7 : Box w66 (w3.heap.size) 28 #[.int .i64 zh, .int .u64 zl] := (by first | exact (yx7).later b66); have kyx7 := yx7.cells; have cb : Below w6.heap.size w6 w66 := (by first | exact cb.trans (b66.mono cb.size)); have m1 := m1.below b66 (Nat.le_refl _); have m2 := m2.below b66 (Nat.le_refl _)))
  go_wp2
  go_ret
  exact ⟨rfl, B6.trans (cb.mono B6.size)⟩
end Go.Proofs.Ytmchgncbblcodaa
