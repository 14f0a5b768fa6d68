/-
  ScaleNear: the walk.
-/
import Derived.Test.YtcehcbhinlpenaaSAwake
import Derived.Test.YtcehcbhinlpenaaK2
namespace Go.Proofs.Ytcehcbhinlpenaa
open Go.RowKit

theorem two_of {xs : List Int} (h : xs.length = 2) : ∃ a b, xs = [a, b] := by
  match xs, h with
  | [a, b], _ => exact ⟨a, b, rfl⟩

theorem bigIs_abs {S : Nat → Prop} {w : World} {t : Bool} {A : Option Addr} {m c : Nat} {z : Int} {L : Nat} (h : BigIs S w (.agg #[.bool t, .slice A m c]) z L) : BigIs S w (.agg #[.bool false, .slice A m c]) (z.natAbs : Int) L := by
  obtain ⟨A', c', xs, hv, h2, h3, h4, h5, h6, h7⟩ := h
  injection hv with hv
  injection hv with hv
  simp only [List.cons.injEq, Value.bool.injEq, Value.slice.injEq, and_true] at hv
  obtain ⟨_, rfl, rfl, rfl⟩ := hv
  refine ⟨_, _, xs, ?_, h2, by omega, h4, h5, h6, h7⟩
  rw [decide_eq_false (by omega : ¬ (z.natAbs : Int) < 0)]

set_option maxRecDepth 100000 in
set_option maxHeartbeats 4000000 in
theorem snear_bad (a b n d u f : Int) (w : World) (d0 : d < 1) (S1 : Hid (∀ w, Calls Try.prog 34 #[.int .i64 (a), .int .i64 n, .int .i64 d] w fun e w' => e = .returned (.tuple #[.int .i64 0, .int .i64 2]) ∧ Below w.heap.size w w')) (S2 : Hid (∀ w, Calls Try.prog 34 #[.int .i64 (b), .int .i64 n, .int .i64 d] w fun e w' => e = .returned (.tuple #[.int .i64 u, .int .i64 f]) ∧ Below w.heap.size w w')) :
    Calls Try.prog 10 #[.agg #[.int .i64 a, .int .i64 b], .int .i64 n, .int .i64 d] w fun e w' => e = .returned (.bool true) ∧ Below w.heap.size w w' := by
  have AW := Lib.hid fun w => sawake_any w
  go_enter Try.func10, Try.ntmps10
  have B0 := Below.refl w.heap.size w
  go_wp2_with fail
  refine (S1.out _).mono ?_
  rintro e w1 ⟨rfl, b1⟩
  have x3 := (Box.new w 60 #[.int .i64 a, .int .i64 b]).later b1
  have b1 := below_up b1
  have B1 := B0.trans (b1.mono B0.size)
  clear b1 B0
  have k3 := x3.cells
  have l3 := x3.lt
  go_wp2_with fail
  refine (S2.out _).mono ?_
  rintro e w2 ⟨rfl, b2⟩
  replace x3 := x3.later b2
  have B2 := B1.trans (b2.mono B1.size)
  clear b2 B1
  clear k3 l3
  have k3 := x3.cells
  have l3 := x3.lt
  go_wp2_with fail
  refine (AW.out _).mono ?_
  rintro e w9 ⟨rfl, b9⟩
  have B9 := B2.trans (b9.mono B2.size)
  go_wp2
  go_ret
  exact ⟨rfl, B9⟩

set_option maxRecDepth 100000 in
set_option maxHeartbeats 4000000 in
theorem snear_over (a b n d u f : Int) (w : World) (d0 : 1 ≤ d) (S1 : Hid (∀ w, Calls Try.prog 34 #[.int .i64 (a), .int .i64 n, .int .i64 d] w fun e w' => e = .returned (.tuple #[.int .i64 0, .int .i64 10]) ∧ Below w.heap.size w w')) (S2 : Hid (∀ w, Calls Try.prog 34 #[.int .i64 (b), .int .i64 n, .int .i64 d] w fun e w' => e = .returned (.tuple #[.int .i64 u, .int .i64 f]) ∧ Below w.heap.size w w')) :
    Calls Try.prog 10 #[.agg #[.int .i64 a, .int .i64 b], .int .i64 n, .int .i64 d] w fun e w' => e = .returned (.bool true) ∧ Below w.heap.size w w' := by
  have AW := Lib.hid fun w => sawake_any w
  go_enter Try.func10, Try.ntmps10
  have dd : decide (d < 1) = false := by simp; omega
  have B0 := Below.refl w.heap.size w
  go_wp2_with fail
  refine (S1.out _).mono ?_
  rintro e w1 ⟨rfl, b1⟩
  have x3 := (Box.new w 60 #[.int .i64 a, .int .i64 b]).later b1
  have b1 := below_up b1
  have B1 := B0.trans (b1.mono B0.size)
  clear b1 B0
  have k3 := x3.cells
  have l3 := x3.lt
  go_wp2_with fail
  refine (S2.out _).mono ?_
  rintro e w2 ⟨rfl, b2⟩
  replace x3 := x3.later b2
  have B2 := B1.trans (b2.mono B1.size)
  clear b2 B1
  clear k3 l3
  have k3 := x3.cells
  have l3 := x3.lt
  go_wp2_with fail
  refine (AW.out _).mono ?_
  rintro e w9 ⟨rfl, b9⟩
  have B9 := B2.trans (b9.mono B2.size)
  go_wp2
  go_ret
  exact ⟨rfl, B9⟩

set_option maxRecDepth 100000 in
set_option maxHeartbeats 4000000 in
theorem snear_good (a b n d v u f : Int) (w : World) (a1 : -9223372036854775808 ≤ a) (a2 : a ≤ 9223372036854775807) (n1 : -9223372036854775808 ≤ n) (n2 : n ≤ 9223372036854775807) (v1 : -9223372036854775808 ≤ v) (v2 : v ≤ 9223372036854775807) (d1 : 1 ≤ d) (d2 : d ≤ 9223372036854775807) (S1 : Hid (∀ w, Calls Try.prog 34 #[.int .i64 (a), .int .i64 n, .int .i64 d] w fun e w' => e = .returned (.tuple #[.int .i64 v, .int .i64 0]) ∧ Below w.heap.size w w')) (S2 : Hid (∀ w, Calls Try.prog 34 #[.int .i64 (b), .int .i64 n, .int .i64 d] w fun e w' => e = .returned (.tuple #[.int .i64 u, .int .i64 f]) ∧ Below w.heap.size w w')) (S3 : Hid (-9223372036854775808 < a → -9223372036854775808 < v → ∀ w, Calls Try.prog 34 #[.int .i64 (-a), .int .i64 n, .int .i64 d] w fun e w' => e = .returned (.tuple #[.int .i64 (-v), .int .i64 0]) ∧ Below w.heap.size w w')) (hoff : Hid (2 * ((a * n - v * d).natAbs : Int) ≤ d ∧ (2 * ((a * n - v * d).natAbs : Int) = d → v % 2 = 0))) (hfin : Hid (f = 0 → 0 ≤ n → (a < b ∧ v ≤ u) ∨ (a = b ∧ u = v) ∨ (b < a ∧ u ≤ v))) :
    Calls Try.prog 10 #[.agg #[.int .i64 a, .int .i64 b], .int .i64 n, .int .i64 d] w fun e w' => e = .returned (.bool true) ∧ Below w.heap.size w w' := by
  have AW := Lib.hid fun w => sawake_any w
  have OA := Lib.hid fun (w : World) => of_any a w a1 a2
  have ON := Lib.hid fun (w : World) => of_any n w n1 n2
  have OV := Lib.hid fun (w : World) => of_any v w v1 v2
  have OD := Lib.hid fun (w : World) => of_any d w (by omega) d2
  have TA := Lib.hid fun (w : World) S S' va vb (ha : BigIs S w va a 19) (hb : BigIs S' w vb n 19) => times_any ha hb (by omega)
  have TV := Lib.hid fun (w : World) S S' va vb (ha : BigIs S w va v 19) (hb : BigIs S' w vb d 19) => times_any ha hb (by omega)
  have MI := Lib.hid fun (w : World) S S' va vb (ha : BigIs S w va (a * n) 38) (hb : BigIs S' w vb (v * d) 38) => minus_any ha hb (by omega) (by omega)
  have AB := Lib.hid fun (w : World) S t A m c (h : BigIs S w (.agg #[.bool t, .slice A m c]) (a * n - v * d) (max 38 38 + 1)) => bigIs_abs h
  have PL := Lib.hid fun (w : World) S S' va vb (ha : BigIs S w va ((a * n - v * d).natAbs : Int) (max 38 38 + 1)) (hb : BigIs S' w vb ((a * n - v * d).natAbs : Int) (max 38 38 + 1)) => plus_any ha hb (by omega) (by omega)
  have CM := Lib.hid fun (w : World) S S' va vb (ha : BigIs S w va (((a * n - v * d).natAbs : Int) + ((a * n - v * d).natAbs : Int)) (max (max 38 38 + 1) (max 38 38 + 1) + 1)) (hb : BigIs S' w vb d 19) => cmp_any ha hb (by omega) (by omega)
  have hc : cmpI (((a * n - v * d).natAbs : Int) + ((a * n - v * d).natAbs : Int)) d = -1 ∨ (cmpI (((a * n - v * d).natAbs : Int) + ((a * n - v * d).natAbs : Int)) d = 0 ∧ v % 2 = 0) := by
    obtain ⟨h1, h2⟩ := hoff.out
    rcases (by omega : 2 * ((a * n - v * d).natAbs : Int) < d ∨ 2 * ((a * n - v * d).natAbs : Int) = d) with h | h
    · exact .inl (cmpI_lt (by omega))
    · exact .inr ⟨cmpI_eq (by omega), h2 h⟩
  have HC := Lib.hid hc
  clear hc hoff
  generalize ((a * n - v * d).natAbs : Int) = off at *
  generalize cmpI (off + off) d = cc at *
  go_enter Try.func10, Try.ntmps10
  have B0 := Below.refl w.heap.size w
  go_wp2_with fail
  refine (S1.out _).mono ?_
  rintro e w1 ⟨rfl, b1⟩
  have x3 := (Box.new w 60 #[.int .i64 a, .int .i64 b]).later b1
  have b1 := below_up b1
  have B1 := B0.trans (b1.mono B0.size)
  clear b1 B0
  have k3 := x3.cells
  have l3 := x3.lt
  go_wp2_with fail
  refine (S2.out _).mono ?_
  rintro e w2 ⟨rfl, b2⟩
  replace x3 := x3.later b2
  have B2 := B1.trans (b2.mono B1.size)
  clear b2 B1
  clear k3 l3
  have k3 := x3.cells
  have l3 := x3.lt
  go_upto_if 32 with fail
  go_cut [11, 12, 13, 14] from 33 to 87 (fun s11 s12 s13 s14 wx => Below w2.heap.size w2 wx)
  case first =>
    have B20 := Below.refl w2.heap.size w2
    go_wp2_with fail
    refine (OA.out _).mono ?_
    rintro e w21 ⟨q1, rfl, m1, b21⟩
    replace x3 := x3.later b21
    have B21 := B20.trans (b21.mono B20.size)
    clear b21 B20
    obtain ⟨t1, A1, j1, c1, rfl⟩ := m1.form2
    go_wp2_with fail
    refine (ON.out _).mono ?_
    rintro e w22 ⟨q2, rfl, m2, b22⟩
    replace x3 := x3.later b22
    replace m1 := m1.below b22 (Nat.le_refl _)
    have B22 := B21.trans (b22.mono B21.size)
    clear b22 B21
    obtain ⟨t2, A2, j2, c2, rfl⟩ := m2.form2
    go_wp2_with fail
    refine (TA.out _ _ _ _ _ m1 m2).mono ?_
    rintro e w23 ⟨q3, rfl, m3, b23⟩
    replace x3 := x3.later b23
    replace m1 := m1.below b23 (Nat.le_refl _)
    replace m2 := m2.below b23 (Nat.le_refl _)
    have B23 := B22.trans (b23.mono B22.size)
    clear b23 B22
    obtain ⟨t3, A3, j3, c3, rfl⟩ := m3.form2
    clear m1 m2
    go_wp2_with fail
    refine (OV.out _).mono ?_
    rintro e w24 ⟨q4, rfl, m4, b24⟩
    replace x3 := x3.later b24
    replace m3 := m3.below b24 (Nat.le_refl _)
    have B24 := B23.trans (b24.mono B23.size)
    clear b24 B23
    obtain ⟨t4, A4, j4, c4, rfl⟩ := m4.form2
    go_wp2_with fail
    refine (OD.out _).mono ?_
    rintro e w25 ⟨q5, rfl, m5, b25⟩
    replace x3 := x3.later b25
    replace m3 := m3.below b25 (Nat.le_refl _)
    replace m4 := m4.below b25 (Nat.le_refl _)
    have B25 := B24.trans (b25.mono B24.size)
    clear b25 B24
    obtain ⟨t5, A5, j5, c5, rfl⟩ := m5.form2
    go_wp2_with fail
    refine (TV.out _ _ _ _ _ m4 m5).mono ?_
    rintro e w26 ⟨q6, rfl, m6, b26⟩
    replace x3 := x3.later b26
    replace m3 := m3.below b26 (Nat.le_refl _)
    replace m4 := m4.below b26 (Nat.le_refl _)
    replace m5 := m5.below b26 (Nat.le_refl _)
    have B26 := B25.trans (b26.mono B25.size)
    clear b26 B25
    obtain ⟨t6, A6, j6, c6, rfl⟩ := m6.form2
    clear m4 m5
    go_wp2_with fail
    refine (MI.out _ _ _ _ _ m3 m6).mono ?_
    rintro e w27 ⟨q7, rfl, m7, b27⟩
    replace x3 := x3.later b27
    replace m3 := m3.below b27 (Nat.le_refl _)
    replace m6 := m6.below b27 (Nat.le_refl _)
    have B27 := B26.trans (b27.mono B26.size)
    clear b27 B26
    obtain ⟨t7, A7, j7, c7, rfl⟩ := m7.form2
    clear m3 m6
    replace m7 := AB.out _ _ _ _ _ _ m7
    clear k3 l3
    go_wp2_with fail
    refine (PL.out _ _ _ _ _ (m7.alloc _) (m7.alloc _)).mono ?_
    rintro e w28 ⟨q8, rfl, m8, b28⟩
    replace x3 := (x3.alloc _).later b28
    replace m7 := (m7.alloc _).below b28 (Nat.le_refl _)
    have b28 := below_up b28
    have B28 := B27.trans (b28.mono B27.size)
    clear b28 B27
    obtain ⟨t8, A8, j8, c8, rfl⟩ := m8.form2
    go_wp2_with fail
    refine (OD.out _).mono ?_
    rintro e w29 ⟨q9, rfl, m9, b29⟩
    replace x3 := x3.later b29
    replace m7 := m7.below b29 (Nat.le_refl _)
    replace m8 := m8.below b29 (Nat.le_refl _)
    have B29 := B28.trans (b29.mono B28.size)
    clear b29 B28
    obtain ⟨t9, A9, j9, c9, rfl⟩ := m9.form2
    clear OA ON OV OD TA TV MI AB PL
    rcases HC.out with rfl | ⟨rfl, hv⟩
    rotate_left
    have hvm : (v.tmod 2 != 0) = false := by
      have : v.tmod 2 = 0 := Int.tmod_eq_zero_of_dvd (Int.dvd_of_emod_eq_zero hv)
      simp [this]
    clear hv
    all_goals
      go_wp2_with fail
      refine (CM.out _ _ _ _ _ m8 m9).mono ?_
      rintro e w30 ⟨rfl, b30⟩
      replace x3 := x3.later b30
      replace m7 := m7.below b30 (Nat.le_refl _)
      replace m8 := m8.below b30 (Nat.le_refl _)
      replace m9 := m9.below b30 (Nat.le_refl _)
      have B30 := B29.trans (b30.mono B29.size)
      clear b30 B29
      clear CM HC m7 m8 m9
      have k3 := x3.cells
      have l3 := x3.lt
      by_cases ha : -9223372036854775808 < a
      · by_cases hv' : -9223372036854775808 < v
        · have S4 := Lib.hid (S3.out ha hv')
          clear S3
          go_wp2_with fail
          refine (S4.out _).mono ?_
          rintro e w99 ⟨rfl, b99⟩
          have B99 := B30.trans (b99.mono B30.size)
          go_wp2
          go_meet
          exact B99
        · go_wp2
          go_meet
          exact B30
      · go_wp2
        go_meet
        exact B30
  case rest =>
    have bc := hcut
    clear hcut S3 OA ON OV OD TA TV MI AB PL CM HC k3 l3
    obtain ⟨w50, rfl⟩ : ∃ w0 : World, w0 = wc := ⟨_, rfl⟩
    replace x3 := x3.later bc
    have B3 := B2.trans (bc.mono B2.size)
    clear bc B2
    have k3 := x3.cells
    have l3 := x3.lt
    have dd : decide (d < 1) = false := by simp; omega
    by_cases hf : f = 0
    · subst hf
      by_cases hn : 0 ≤ n
      · rcases hfin.out rfl hn with ⟨h1, h2⟩ | ⟨rfl, rfl⟩ | ⟨h1, h2⟩
        · have h3 : ¬ b < a := by omega
          go_wp2_with fail
          refine (AW.out _).mono ?_
          rintro e w9 ⟨rfl, b9⟩
          have B9 := B3.trans (b9.mono B3.size)
          go_wp2
          go_ret
          exact ⟨rfl, B9⟩
        · go_wp2_with fail
          refine (AW.out _).mono ?_
          rintro e w9 ⟨rfl, b9⟩
          have B9 := B3.trans (b9.mono B3.size)
          go_wp2
          go_ret
          exact ⟨rfl, B9⟩
        · have h3 : ¬ a < b := by omega
          go_wp2_with fail
          refine (AW.out _).mono ?_
          rintro e w9 ⟨rfl, b9⟩
          have B9 := B3.trans (b9.mono B3.size)
          go_wp2
          go_ret
          exact ⟨rfl, B9⟩
      · go_wp2_with fail
        refine (AW.out _).mono ?_
        rintro e w9 ⟨rfl, b9⟩
        have B9 := B3.trans (b9.mono B3.size)
        go_wp2
        go_ret
        exact ⟨rfl, B9⟩
    · have f1 : (f == 0) = false := beq_eq_false_iff_ne.2 hf
      have f2 : (f != 0) = true := bne_iff_ne.2 hf
      clear hf
      go_wp2_with fail
      refine (AW.out _).mono ?_
      rintro e w9 ⟨rfl, b9⟩
      have B9 := B3.trans (b9.mono B3.size)
      go_wp2
      go_ret
      exact ⟨rfl, B9⟩

theorem snear_law (a b n d : Int) (w : World) (a1 : -9223372036854775808 ≤ a) (a2 : a ≤ 9223372036854775807) (b1 : -9223372036854775808 ≤ b) (b2 : b ≤ 9223372036854775807) (n1 : -9223372036854775808 ≤ n) (n2 : n ≤ 9223372036854775807) (d2 : d ≤ 9223372036854775807) :
    Calls Try.prog 10 #[.agg #[.int .i64 a, .int .i64 b], .int .i64 n, .int .i64 d] w fun e w' => e = .returned (.bool true) ∧ Below w.heap.size w w' := by
  have S1 := fun w => scale_any a1 a2 n1 n2 d2 w
  have S2 := Lib.hid fun w => scale_any b1 b2 n1 n2 d2 w
  by_cases h : d < 1
  · have e : evenI (a * n) d = (0, 2) := by unfold evenI; rw [if_pos h]
    rw [e] at S1
    exact snear_bad a b n d _ _ w h (Lib.hid S1) S2
  · by_cases h2 : (evenI (a * n) d).2 = 0
    · obtain ⟨e1, e2, e3, e4⟩ := even_ok.1 h2
      rw [leastI_eq] at e3
      rw [mostI_eq] at e4
      have S3 : Hid (-9223372036854775808 < a → -9223372036854775808 < (evenI (a * n) d).1 → ∀ w, Calls Try.prog 34 #[.int .i64 (-a), .int .i64 n, .int .i64 d] w fun e w' => e = .returned (.tuple #[.int .i64 (-(evenI (a * n) d).1), .int .i64 0]) ∧ Below w.heap.size w w') := Lib.hid fun h3 h4 w => by
        have := scale_any (x := -a) (by omega) (by omega) n1 n2 d2 w
        rw [Int.neg_mul, even_neg h2 (by rw [leastI_eq]; exact h4)] at this
        exact this
      have hfin : Hid ((evenI (b * n) d).2 = 0 → 0 ≤ n → (a < b ∧ (evenI (a * n) d).1 ≤ (evenI (b * n) d).1) ∨ (a = b ∧ (evenI (b * n) d).1 = (evenI (a * n) d).1) ∨ (b < a ∧ (evenI (b * n) d).1 ≤ (evenI (a * n) d).1)) := Lib.hid fun hf hn => by
        obtain ⟨_, g2, _⟩ := even_ok.1 hf
        rcases (by omega : a < b ∨ a = b ∨ b < a) with h3 | h3 | h3
        · refine .inl ⟨h3, ?_⟩
          rw [e2, g2]
          exact near_mono e1 (Int.mul_le_mul_of_nonneg_right (by omega) hn)
        · exact .inr (.inl ⟨h3, by rw [h3]⟩)
        · refine .inr (.inr ⟨h3, ?_⟩)
          rw [e2, g2]
          exact near_mono e1 (Int.mul_le_mul_of_nonneg_right (by omega) hn)
      have hoff := Lib.hid (near_off (z := a * n) e1)
      rw [← e2] at hoff
      have S1' : Hid (∀ w, Calls Try.prog 34 #[.int .i64 a, .int .i64 n, .int .i64 d] w fun e w' => e = .returned (.tuple #[.int .i64 (evenI (a * n) d).1, .int .i64 0]) ∧ Below w.heap.size w w') := Lib.hid fun w => by
        have := S1 w
        rw [h2] at this
        exact this
      exact snear_good a b n d _ _ _ w a1 a2 n1 n2 (by omega) (by omega) e1 d2 S1' S2 S3 hoff hfin
    · have e : evenI (a * n) d = (0, 10) := by
        unfold evenI toldI at *
        rw [if_neg h] at *
        split at h2
        · exact absurd rfl h2
        · rename_i h3
          rw [if_neg h3]
      rw [e] at S1
      exact snear_over a b n d _ _ w (by omega) (Lib.hid S1) S2
end Go.Proofs.Ytcehcbhinlpenaa
