/-
  The program's wide: numbers of 128 bits.
-/
import Derived.Test.YtioecjoddgpjbaaW2
import Derived.Test.YtioecjoddgpjbaaBits
import Derived.Laws.StructEq
namespace Go.Proofs.Ytioecjoddgpjbaa
open Go.RowKit

theorem wrapU (x : Int) : IntKind.u64.wrap x = x % 18446744073709551616 := IntKind.wrap_u64 x

set_option maxHeartbeats 1000000 in
theorem size_any {n : Int} {w : World} (h1 : -9223372036854775808 ≤ n) (h2 : n ≤ 9223372036854775807) :
    Calls Try.prog 75 #[.int .i64 n] w fun e w' => e = .returned (.int .u64 n.natAbs) ∧ w = w' := by
  by_cases h : n < 0
  · have e := Lib.hid (show IntKind.u64.wrap (-IntKind.u64.wrap n) = (n.natAbs : Int) by rw [wrapU, wrapU]; omega)
    go_enter Try.func75, Try.ntmps75
    go_wp2
    go_ret
    exact ⟨by rw [← e.out]; rfl, rfl⟩
  · rw [show (n.natAbs : Int) = n by omega]
    go_enter Try.func75, Try.ntmps75
    go_wp2
    go_ret
    exact ⟨rfl, rfl⟩

theorem wof_any {n : Int} {w : World} (h1 : -9223372036854775808 ≤ n) (h2 : n ≤ 9223372036854775807) :
    Calls Try.prog 72 #[.int .i64 n] w fun e w' => e = .returned (WV n) ∧ Below w.heap.size w w' := by
  have e := Lib.hid (show WV n = .agg #[.int .i64 (n / 9223372036854775808), .int .u64 (IntKind.u64.wrap n)] by rw [WV_out, wrapU, show n / 18446744073709551616 = n / 9223372036854775808 by omega])
  rw [e.out]
  go_enter Try.func72, Try.ntmps72
  go_wp2
  refine bodyPost_ret (by unfold results; simp only [Try.results72]; go_simp; rfl) rfl ?_
  exact ⟨rfl, (Below.refl _ _).alloc (Nat.le_refl _) _⟩

set_option maxHeartbeats 1000000 in
theorem wflip_any {z : Int} {w : World} (h1 : -170141183460469231731687303715884105728 < z) (h2 : z < 170141183460469231731687303715884105728) :
    Calls Try.prog 77 #[WV z] w fun e w' => e = .returned (WV (-z)) ∧ Below w.heap.size w w' := by
  rw [WV_out, WV_out]
  have A1 : ∀ w, (callFunc 63 #[.int .u64 0, .int .u64 (z % 18446744073709551616), .int .u64 0]).run Try.prog w = .ok (.value (.tuple #[.int .u64 ((-z) % 18446744073709551616), .int .u64 (if 0 < z % 18446744073709551616 then 1 else 0)])) w := by
    intro w
    have := sub64 0 (z % 18446744073709551616) 0 (by omega) (by omega) (by omega) (by omega) (by omega) w
    rw [Int.add_zero, show (0 - z % 18446744073709551616 - 0) % 18446744073709551616 = (-z) % 18446744073709551616 by omega] at this
    exact this
  obtain ⟨q, hq⟩ : ∃ q, (if 0 < z % 18446744073709551616 then (1 : Int) else 0) = q := ⟨_, rfl⟩
  have q0 : 0 ≤ q ∧ q ≤ 1 := by rw [← hq]; split <;> omega
  have q1 : (0 - (z / 18446744073709551616) % 18446744073709551616 - q) % 18446744073709551616 = ((-z) / 18446744073709551616) % 18446744073709551616 := by rw [← hq]; split <;> omega
  rw [hq] at A1
  clear hq
  obtain ⟨u, hu⟩ : ∃ u, IntKind.u64.wrap (z / 18446744073709551616) = u := ⟨_, rfl⟩
  have hu' : u = (z / 18446744073709551616) % 18446744073709551616 := by rw [← hu, wrapU]
  obtain ⟨r, hr⟩ : ∃ r : Int, (if 0 < u + q then (1 : Int) else 0) = r := ⟨_, rfl⟩
  have A2 : ∀ w, (callFunc 63 #[.int .u64 0, .int .u64 u, .int .u64 q]).run Try.prog w = .ok (.value (.tuple #[.int .u64 (((-z) / 18446744073709551616) % 18446744073709551616), .int .u64 r])) w := by
    intro w
    have := sub64 0 u q (by omega) (by omega) (by omega) q0.1 q0.2 w
    rw [hr, hu', q1] at this
    rw [hu']
    exact this
  have e : wrap64 ((-z) / 18446744073709551616 % 18446744073709551616) = (-z) / 18446744073709551616 := by unfold wrap64; omega
  clear hr q1 q0 hu' h1 h2
  generalize z / 18446744073709551616 = zh at *
  generalize z % 18446744073709551616 = zl at *
  generalize (-z) / 18446744073709551616 % 18446744073709551616 = nv at *
  generalize (-z) / 18446744073709551616 = nh at *
  generalize (-z) % 18446744073709551616 = nl at *
  go_enter Try.func77, Try.ntmps77
  go_wp2_with (first | simp only [A1] | simp only [A2])
  refine bodyPost_ret (by unfold results; simp only [Try.results77]; go_simp; rfl) rfl ?_
  exact ⟨rfl, ((Below.refl _ _).alloc (Nat.le_refl _) _).alloc (by simp) _⟩
theorem wsame_any {z : Int} {w : World} :
    Calls Try.prog 76 #[WV z] w fun e w' => e = .returned (WV z) ∧ Below w.heap.size w w' := by
  rw [WV_out]
  generalize z / 18446744073709551616 = zh at *
  generalize z % 18446744073709551616 = zl at *
  go_enter Try.func76, Try.ntmps76
  go_wp2
  refine bodyPost_ret (by unfold results; simp only [Try.results76]; go_simp; rfl) rfl ?_
  exact ⟨rfl, ((Below.refl _ _).alloc (Nat.le_refl _) _).alloc (by simp) _⟩

set_option maxHeartbeats 1000000 in
theorem wmul_any {a b : Int} {w : World} (a1 : -9223372036854775808 ≤ a) (a2 : a ≤ 9223372036854775807) (b1 : -9223372036854775808 ≤ b) (b2 : b ≤ 9223372036854775807) :
    Calls Try.prog 67 #[.int .i64 a, .int .i64 b] w fun e w' => e = .returned (WV (a * b)) ∧ Below w.heap.size w w' := by
  have Sa := Lib.hid fun w => size_any (w := w) a1 a2
  have Sb := Lib.hid fun w => size_any (w := w) b1 b2
  have M := Lib.hid fun w => mul64_any (x := a.natAbs) (y := b.natAbs) (w := w) (by omega) (by omega) (by omega) (by omega)
  have hp : (a.natAbs : Int) * (b.natAbs : Int) = ((a * b).natAbs : Int) := (natAbs_mul' a b).symm
  have hb : (a.natAbs : Int) * (b.natAbs : Int) ≤ 85070591730234615865843651857942052864 := by
    have := Int.mul_le_mul (show (a.natAbs : Int) ≤ 9223372036854775808 by omega) (show (b.natAbs : Int) ≤ 9223372036854775808 by omega) (by omega) (by omega)
    omega
  have hs := mul_neg_iff a b
  generalize (a.natAbs : Int) = na at *
  generalize (b.natAbs : Int) = nb at *
  rw [hp] at M hb
  clear hp
  generalize a * b = z at *
  have e1 : wrap64 ((z.natAbs : Int) / 18446744073709551616) = (z.natAbs : Int) / 18446744073709551616 := by unfold wrap64; omega
  have F := Lib.hid fun w => wflip_any (z := z.natAbs) (w := w) (by omega) (by omega)
  have I := Lib.hid fun w => wsame_any (z := z.natAbs) (w := w)
  simp only [WV_out] at F I
  rcases (by omega : (a < 0 ∧ 0 ≤ b) ∨ (0 ≤ a ∧ b < 0) ∨ (a < 0 ∧ b < 0) ∨ (0 ≤ a ∧ 0 ≤ b)) with ⟨ha, hb'⟩ | ⟨ha, hb'⟩ | ⟨ha, hb'⟩ | ⟨ha, hb'⟩
  · have hz : z = -(z.natAbs : Int) := by
      rw [decide_eq_true ha, decide_eq_false (show ¬ b < 0 by omega)] at hs
      have hs2 := decide_eq_decide.1 (show decide (z < 0) = decide (z ≠ 0) from hs)
      omega
    have n1 : decide (a < 0) = true := decide_eq_true ha
    have n2 : decide (b < 0) = false := decide_eq_false (by omega)
    have hW := Lib.hid (show WV z = .agg #[.int .i64 (-(z.natAbs : Int) / 18446744073709551616), .int .u64 (-(z.natAbs : Int) % 18446744073709551616)] by rw [WV_out, ← hz])
    clear hz hs hb I
    go_enter Try.func67, Try.ntmps67
    go_wp2_with fail
    refine (Sa.out _).mono ?_
    rintro e _ ⟨rfl, rfl⟩
    go_wp2_with fail
    refine (Sb.out _).mono ?_
    rintro e _ ⟨rfl, rfl⟩
    go_wp2_with fail
    refine (M.out _).mono ?_
    rintro e _ ⟨rfl, rfl⟩
    go_wp2_with fail
    refine (F.out _).mono ?_
    rintro e w1 ⟨rfl, b1⟩
    have B := (Box.new w 104 #[.int .i64 0, .int .u64 0]).later b1
    have cc := B.cells
    have cf := B.free
    go_wp2
    refine bodyPost_ret (by unfold results; simp only [Try.results67]; go_simp; rfl) rfl ?_
    exact ⟨by rw [hW.out], ((below_up b1).setCell (Nat.le_refl _) _).setCell (Nat.le_refl _) _⟩
  · have hz : z = -(z.natAbs : Int) := by
      rw [decide_eq_true hb', decide_eq_false (show ¬ a < 0 by omega)] at hs
      have hs2 := decide_eq_decide.1 (show decide (z < 0) = decide (z ≠ 0) from hs)
      omega
    have n1 : decide (a < 0) = false := decide_eq_false (by omega)
    have n2 : decide (b < 0) = true := decide_eq_true hb'
    have hW := Lib.hid (show WV z = .agg #[.int .i64 (-(z.natAbs : Int) / 18446744073709551616), .int .u64 (-(z.natAbs : Int) % 18446744073709551616)] by rw [WV_out, ← hz])
    clear hz hs hb I
    go_enter Try.func67, Try.ntmps67
    go_wp2_with fail
    refine (Sa.out _).mono ?_
    rintro e _ ⟨rfl, rfl⟩
    go_wp2_with fail
    refine (Sb.out _).mono ?_
    rintro e _ ⟨rfl, rfl⟩
    go_wp2_with fail
    refine (M.out _).mono ?_
    rintro e _ ⟨rfl, rfl⟩
    go_wp2_with fail
    refine (F.out _).mono ?_
    rintro e w1 ⟨rfl, b1⟩
    have B := (Box.new w 104 #[.int .i64 0, .int .u64 0]).later b1
    have cc := B.cells
    have cf := B.free
    go_wp2
    refine bodyPost_ret (by unfold results; simp only [Try.results67]; go_simp; rfl) rfl ?_
    exact ⟨by rw [hW.out], ((below_up b1).setCell (Nat.le_refl _) _).setCell (Nat.le_refl _) _⟩
  · have hz : z = (z.natAbs : Int) := by
      rw [decide_eq_true ha, decide_eq_true hb'] at hs
      have hs2 := of_decide_eq_false (show decide (z < 0) = false from hs)
      omega
    have n1 : decide (a < 0) = true := decide_eq_true ha
    have n2 : decide (b < 0) = true := decide_eq_true hb'
    have hW := Lib.hid (show WV z = .agg #[.int .i64 ((z.natAbs : Int) / 18446744073709551616), .int .u64 ((z.natAbs : Int) % 18446744073709551616)] by rw [WV_out, ← hz])
    clear hz hs hb F
    go_enter Try.func67, Try.ntmps67
    go_wp2_with fail
    refine (Sa.out _).mono ?_
    rintro e _ ⟨rfl, rfl⟩
    go_wp2_with fail
    refine (Sb.out _).mono ?_
    rintro e _ ⟨rfl, rfl⟩
    go_wp2_with fail
    refine (M.out _).mono ?_
    rintro e _ ⟨rfl, rfl⟩
    go_wp2_with fail
    refine (I.out _).mono ?_
    rintro e w1 ⟨rfl, b1⟩
    have B := (Box.new w 104 #[.int .i64 0, .int .u64 0]).later b1
    have cc := B.cells
    have cf := B.free
    go_wp2
    refine bodyPost_ret (by unfold results; simp only [Try.results67]; go_simp; rfl) rfl ?_
    exact ⟨by rw [hW.out], ((below_up b1).setCell (Nat.le_refl _) _).setCell (Nat.le_refl _) _⟩
  · have hz : z = (z.natAbs : Int) := by
      rw [decide_eq_false (show ¬ a < 0 by omega), decide_eq_false (show ¬ b < 0 by omega)] at hs
      have hs2 := of_decide_eq_false (show decide (z < 0) = false from hs)
      omega
    have n1 : decide (a < 0) = false := decide_eq_false (by omega)
    have n2 : decide (b < 0) = false := decide_eq_false (by omega)
    have hW := Lib.hid (show WV z = .agg #[.int .i64 ((z.natAbs : Int) / 18446744073709551616), .int .u64 ((z.natAbs : Int) % 18446744073709551616)] by rw [WV_out, ← hz])
    clear hz hs hb F
    go_enter Try.func67, Try.ntmps67
    go_wp2_with fail
    refine (Sa.out _).mono ?_
    rintro e _ ⟨rfl, rfl⟩
    go_wp2_with fail
    refine (Sb.out _).mono ?_
    rintro e _ ⟨rfl, rfl⟩
    go_wp2_with fail
    refine (M.out _).mono ?_
    rintro e _ ⟨rfl, rfl⟩
    go_wp2_with fail
    refine (I.out _).mono ?_
    rintro e w1 ⟨rfl, b1⟩
    have B := (Box.new w 104 #[.int .i64 0, .int .u64 0]).later b1
    have cc := B.cells
    have cf := B.free
    go_wp2
    refine bodyPost_ret (by unfold results; simp only [Try.results67]; go_simp; rfl) rfl ?_
    exact ⟨by rw [hW.out], ((below_up b1).setCell (Nat.le_refl _) _).setCell (Nat.le_refl _) _⟩

/-- A number as a wide one, or the error. -/
def toldW (z : Int) : Int × Int := if -170141183460469231731687303715884105728 ≤ z ∧ z ≤ 170141183460469231731687303715884105727 then (z, 0) else (0, 10)
theorem toldW_in {z : Int} (h1 : -170141183460469231731687303715884105728 ≤ z) (h2 : z ≤ 170141183460469231731687303715884105727) : toldW z = (z, 0) := if_pos ⟨h1, h2⟩
theorem toldW_out {z : Int} (h : z < -170141183460469231731687303715884105728 ∨ 170141183460469231731687303715884105727 < z) : toldW z = (0, 10) := if_neg (by omega)
/-- A wide number's range. -/
def W128 (z : Int) : Prop := -170141183460469231731687303715884105728 ≤ z ∧ z ≤ 170141183460469231731687303715884105727

set_option maxHeartbeats 2000000 in
theorem wadd_any {x y : Int} {w : World} (hx : W128 x) (hy : W128 y) :
    Calls Try.prog 71 #[WV x, WV y] w fun e w' => e = .returned (.tuple #[WV (toldW (x + y)).1, .int .i64 (toldW (x + y)).2]) ∧ Below w.heap.size w w' := by
  obtain ⟨x1, x2⟩ := hx
  obtain ⟨y1, y2⟩ := hy
  rw [WV_out, WV_out, WV_out]
  obtain ⟨q, hq⟩ : ∃ q, (x % 18446744073709551616 + y % 18446744073709551616) / 18446744073709551616 = q := ⟨_, rfl⟩
  have q0 : 0 ≤ q ∧ q ≤ 1 := by rw [← hq]; omega
  have ez : (x + y) / 18446744073709551616 = x / 18446744073709551616 + y / 18446744073709551616 + q := by rw [← hq]; omega
  have el : (x + y) % 18446744073709551616 = (x % 18446744073709551616 + y % 18446744073709551616) % 18446744073709551616 := by omega
  have A1 : ∀ w, (callFunc 62 #[.int .u64 (x % 18446744073709551616), .int .u64 (y % 18446744073709551616), .int .u64 0]).run Try.prog w = .ok (.value (.tuple #[.int .u64 ((x + y) % 18446744073709551616), .int .u64 q])) w := by
    intro w
    have := add64 (x % 18446744073709551616) (y % 18446744073709551616) 0 (by omega) (by omega) (by omega) (by omega) w
    rw [Int.add_zero] at this
    rw [hq, ← el] at this
    exact this
  clear hq el
  obtain ⟨u, hu⟩ : ∃ u, IntKind.u64.wrap (x / 18446744073709551616) = u := ⟨_, rfl⟩
  have hu' : u = (x / 18446744073709551616) % 18446744073709551616 := by rw [← hu, wrapU]
  obtain ⟨v, hv⟩ : ∃ v, IntKind.u64.wrap (y / 18446744073709551616) = v := ⟨_, rfl⟩
  have hv' : v = (y / 18446744073709551616) % 18446744073709551616 := by rw [← hv, wrapU]
  obtain ⟨r, hr⟩ : ∃ r : Int, (u + v + q) / 18446744073709551616 = r := ⟨_, rfl⟩
  obtain ⟨t, ht⟩ : ∃ t : Int, (u + v + q) % 18446744073709551616 = t := ⟨_, rfl⟩
  have A2 : ∀ w, (callFunc 62 #[.int .u64 u, .int .u64 v, .int .u64 q]).run Try.prog w = .ok (.value (.tuple #[.int .u64 t, .int .u64 r])) w := by
    intro w
    have := add64 u v q (by omega) (by omega) q0.1 q0.2 w
    rw [hr, ht] at this
    exact this
  have e : wrap64 t = if x / 18446744073709551616 + y / 18446744073709551616 + q < -9223372036854775808 then x / 18446744073709551616 + y / 18446744073709551616 + q + 18446744073709551616 else if 9223372036854775807 < x / 18446744073709551616 + y / 18446744073709551616 + q then x / 18446744073709551616 + y / 18446744073709551616 + q - 18446744073709551616 else x / 18446744073709551616 + y / 18446744073709551616 + q := by
    unfold wrap64
    split
    · omega
    · split <;> omega
  clear hr ht hu' hv'
  obtain ⟨sh, hsh⟩ : ∃ sh, wrap64 t = sh := ⟨_, rfl⟩
  rw [hsh] at e
  by_cases hin : -170141183460469231731687303715884105728 ≤ x + y ∧ x + y ≤ 170141183460469231731687303715884105727
  · rw [toldW_in hin.1 hin.2]
    have e' : sh = (x + y) / 18446744073709551616 := by rw [e, ez, if_neg (by omega), if_neg (by omega)]
    show Calls _ _ _ _ fun e w' => e = .returned (.tuple #[.agg #[.int .i64 ((x + y) / 18446744073709551616), .int .u64 ((x + y) % 18446744073709551616)], .int .i64 0]) ∧ Below w.heap.size w w'
    rw [← e']
    rw [← e'] at ez
    clear e e'
    generalize (x + y) % 18446744073709551616 = zl at *
    by_cases c1 : x / 18446744073709551616 < 0 <;> by_cases c2 : y / 18446744073709551616 < 0 <;> by_cases c3 : sh < 0
    all_goals first
      | (exfalso; omega)
      | (clear hin ez x1 x2 y1 y2 q0
         generalize x / 18446744073709551616 = xh at *
         generalize x % 18446744073709551616 = xl at *
         generalize y / 18446744073709551616 = yh at *
         generalize y % 18446744073709551616 = yl at *
         go_enter Try.func71, Try.ntmps71
         go_wp2_with (first | simp only [A1] | simp only [A2])
         refine bodyPost_ret (by unfold results; simp only [Try.results71]; go_simp; rfl) rfl ?_
         exact ⟨rfl, (((Below.refl _ _).alloc (Nat.le_refl _) _).alloc (by simp) _).alloc (by simp; omega) _⟩)
  · rw [toldW_out (by omega)]
    have hs : sh = x / 18446744073709551616 + y / 18446744073709551616 + q + 18446744073709551616 ∧ x / 18446744073709551616 + y / 18446744073709551616 + q < -9223372036854775808 ∨ sh = x / 18446744073709551616 + y / 18446744073709551616 + q - 18446744073709551616 ∧ 9223372036854775807 < x / 18446744073709551616 + y / 18446744073709551616 + q := by
      rcases (by omega : x / 18446744073709551616 + y / 18446744073709551616 + q < -9223372036854775808 ∨ 9223372036854775807 < x / 18446744073709551616 + y / 18446744073709551616 + q) with h | h
      · left; rw [e, if_pos h]; exact ⟨rfl, h⟩
      · right; rw [e, if_neg (by omega), if_pos h]; exact ⟨rfl, h⟩
    clear e hin
    show Calls _ _ _ _ fun e w' => e = .returned (.tuple #[.agg #[.int .i64 0, .int .u64 0], .int .i64 10]) ∧ Below w.heap.size w w'
    generalize (x + y) % 18446744073709551616 = zl at *
    by_cases c1 : x / 18446744073709551616 < 0 <;> by_cases c2 : y / 18446744073709551616 < 0 <;> by_cases c3 : sh < 0
    all_goals first
      | (exfalso; omega)
      | (clear hs ez x1 x2 y1 y2 q0
         generalize x / 18446744073709551616 = xh at *
         generalize x % 18446744073709551616 = xl at *
         generalize y / 18446744073709551616 = yh at *
         generalize y % 18446744073709551616 = yl at *
         go_enter Try.func71, Try.ntmps71
         go_wp2_with (first | simp only [A1] | simp only [A2])
         refine bodyPost_ret (by unfold results; simp only [Try.results71]; go_simp; rfl) rfl ?_
         exact ⟨rfl, (((Below.refl _ _).alloc (Nat.le_refl _) _).alloc (by simp) _).alloc (by simp; omega) _⟩)

end Go.Proofs.Ytioecjoddgpjbaa
