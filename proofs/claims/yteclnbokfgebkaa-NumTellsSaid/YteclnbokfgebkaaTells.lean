/-
  NumTells: the walk.
-/
import Derived.Test.YteclnbokfgebkaaZ
namespace Go.Proofs.Yteclnbokfgebkaa
open Go.RowKit

theorem BigIs.abs {S : Nat → Prop} {w : World} {s : Bool} {v : Value} {z : Int} {L : Nat} (h : BigIs S w (.agg #[.bool s, v]) z L) : BigIs S w (.agg #[.bool false, v]) z.natAbs L := by
  obtain ⟨A, c, xs, e, h1, h2, h3, h4, h5, h6⟩ := h
  simp only [Value.agg.injEq, Array.mk.injEq, List.cons.injEq, and_true] at e
  obtain ⟨_, rfl⟩ := e
  exact ⟨A, c, xs, by simp, h1, by simpa using h2, h3, h4, h5, h6⟩
theorem BigIs.form {S : Nat → Prop} {w : World} {v : Value} {z : Int} {L : Nat} (h : BigIs S w v z L) : ∃ A n c, v = .agg #[.bool (decide (z < 0)), .slice A n c] := by
  obtain ⟨A, c, xs, e, _⟩ := h
  exact ⟨A, _, c, e⟩

set_option maxHeartbeats 4000000 in
theorem tells_law (a b : Int) (w : World) (a1 : -9223372036854775808 ≤ a) (a2 : a ≤ 9223372036854775807) (b1 : -9223372036854775808 ≤ b) (b2 : b ≤ 9223372036854775807) :
    Calls Try.prog 3 #[.int .i64 a, .int .i64 b] w fun e w' => e = .returned (.bool true) ∧ Below w.heap.size w w' := by
  have W := Lib.hid fun w => awake_any w
  have FA := Lib.hid fun w => add_any (w := w) a1 a2 b1 b2
  have FS := Lib.hid fun w => sub_any (w := w) a1 a2 b1 b2
  have FN := Lib.hid fun w => neg_any (w := w) a1 a2
  have FB := Lib.hid fun w => abs_any (w := w) a1 a2
  have OA := Lib.hid fun w => of_any a w a1 a2
  have OB := Lib.hid fun w => of_any b w b1 b2
  have TA : Hid (∀ w v S, BigIs S w v (a + b) 20 → Calls Try.prog 8 #[v] w fun e w' => e = .returned (.tuple #[.int .i64 (toldI (a + b)).1, .int .i64 (toldI (a + b)).2]) ∧ Below w.heap.size w w') := Lib.hid fun w v S h => told_any h (by omega)
  have TS : Hid (∀ w v S, BigIs S w v (a - b) 20 → Calls Try.prog 8 #[v] w fun e w' => e = .returned (.tuple #[.int .i64 (toldI (a - b)).1, .int .i64 (toldI (a - b)).2]) ∧ Below w.heap.size w w') := Lib.hid fun w v S h => told_any h (by omega)
  have TN : Hid (∀ w v S, BigIs S w v (-a) 19 → Calls Try.prog 8 #[v] w fun e w' => e = .returned (.tuple #[.int .i64 (toldI (-a)).1, .int .i64 (toldI (-a)).2]) ∧ Below w.heap.size w w') := Lib.hid fun w v S h => told_any h (by omega)
  have TB : Hid (∀ w v S, BigIs S w v (a.natAbs : Int) 19 → Calls Try.prog 8 #[v] w fun e w' => e = .returned (.tuple #[.int .i64 (toldI a.natAbs).1, .int .i64 (toldI a.natAbs).2]) ∧ Below w.heap.size w w') := Lib.hid fun w v S h => told_any h (by omega)
  have FD : ∀ (s : Bool) A n c w, (Instr.field 29 (.agg #[.bool s, .slice A n c]) 1).run Try.prog w = .ok (.slice A n c) w := by
    intro s A n c w
    simp [Instr.field, run_underlying Try.underlying29, part, isAgg, asAgg, run_underlying Try.underlying27]
  generalize (toldI (a + b)).1 = r0 at *
  generalize (toldI (a + b)).2 = r1 at *
  generalize (toldI (a - b)).1 = r2 at *
  generalize (toldI (a - b)).2 = r3 at *
  generalize (toldI (-a)).1 = r4 at *
  generalize (toldI (-a)).2 = r5 at *
  generalize (toldI a.natAbs).1 = r6 at *
  generalize (toldI a.natAbs).2 = r7 at *
  clear a1 a2 b1 b2
  go_enter Try.func3, Try.ntmps3
  have B0 := Below.refl w.heap.size w
  go_wp2_with fail
  refine (FA.out _).mono ?_
  rintro e _ ⟨rfl, rfl⟩
  go_wp2_with fail
  refine (OA.out _).mono ?_
  rintro e w1 ⟨v1, rfl, m1, b1⟩
  have B1 := B0.trans (b1.mono B0.size)
  go_wp2_with fail
  refine (OB.out _).mono ?_
  rintro e w2 ⟨v2, rfl, m2, b2⟩
  have B2 := B1.trans (b2.mono B1.size)
  go_wp2_with fail
  refine (plus_any (m1.below b2 (Nat.le_refl _)) m2 (by omega) (by omega)).mono ?_
  rintro e w3 ⟨v3, rfl, m3, b3⟩
  have B3 := B2.trans (b3.mono B2.size)
  go_wp2_with fail
  refine (TA.out _ _ _ m3).mono ?_
  rintro e w4 ⟨rfl, b4⟩
  have B4 := B3.trans (b4.mono B3.size)
  go_wp2_with fail
  refine (FS.out _).mono ?_
  rintro e _ ⟨rfl, rfl⟩
  go_wp2_with fail
  refine (OA.out _).mono ?_
  rintro e w5 ⟨v4, rfl, m4, b5⟩
  have B5 := B4.trans (b5.mono B4.size)
  go_wp2_with fail
  refine (OB.out _).mono ?_
  rintro e w6 ⟨v5, rfl, m5, b6⟩
  have B6 := B5.trans (b6.mono B5.size)
  go_wp2_with fail
  refine (minus_any (m4.below b6 (Nat.le_refl _)) m5 (by omega) (by omega)).mono ?_
  rintro e w7 ⟨v6, rfl, m6, b7⟩
  have B7 := B6.trans (b7.mono B6.size)
  go_wp2_with fail
  refine (TS.out _ _ _ m6).mono ?_
  rintro e w8 ⟨rfl, b8⟩
  have B8 := B7.trans (b8.mono B7.size)
  go_wp2_with fail
  refine (FN.out _).mono ?_
  rintro e _ ⟨rfl, rfl⟩
  go_wp2_with fail
  refine (OA.out _).mono ?_
  rintro e w9 ⟨v7, rfl, m7, b9⟩
  have B9 := B8.trans (b9.mono B8.size)
  go_wp2_with fail
  refine (flip_any m7).mono ?_
  rintro e w10 ⟨v8, rfl, m8, b10⟩
  have B10 := B9.trans (b10.mono B9.size)
  go_wp2_with fail
  refine (TN.out _ _ _ m8).mono ?_
  rintro e w11 ⟨rfl, b11⟩
  have B11 := B10.trans (b11.mono B10.size)
  go_wp2_with fail
  refine (FB.out _).mono ?_
  rintro e _ ⟨rfl, rfl⟩
  go_wp2_with fail
  refine (OA.out _).mono ?_
  rintro e w12 ⟨v9, rfl, m9, b12⟩
  have B12 := B11.trans (b12.mono B11.size)
  obtain ⟨A9, n9, c9, rfl⟩ := m9.form
  go_wp2_with fail
  refine (TB.out _ _ _ m9.abs).mono ?_
  rintro e w13 ⟨rfl, b13⟩
  have B13 := B12.trans (b13.mono B12.size)
  go_wp2_with fail
  refine (ncmp_any).mono ?_
  rintro e _ ⟨rfl, rfl⟩
  go_wp2_with fail
  refine (OA.out _).mono ?_
  rintro e w14 ⟨v10, rfl, m10, b14⟩
  have B14 := B13.trans (b14.mono B13.size)
  go_wp2_with fail
  refine (OB.out _).mono ?_
  rintro e w15 ⟨v11, rfl, m11, b15⟩
  have B15 := B14.trans (b15.mono B14.size)
  go_wp2_with fail
  refine (cmp_any (m10.below b15 (Nat.le_refl _)) m11 (by omega) (by omega)).mono ?_
  rintro e w16 ⟨rfl, b16⟩
  have B16 := B15.trans (b16.mono B15.size)
  go_wp2_with fail
  refine (W.out _).mono ?_
  rintro e w17 ⟨rfl, b17⟩
  have B17 := B16.trans (b17.mono B16.size)
  go_wp2
  go_ret
  exact ⟨rfl, B17⟩
end Go.Proofs.Yteclnbokfgebkaa
