/-
  Chapter 3: Quo, Even, Scale, Floor.
-/
import Derived.Test.YtioecjoddgpjbaaSc
namespace Go.Proofs.Ytioecjoddgpjbaa
open Go.RowKit

theorem words_n (n d : Nat) (hd : 0 < d) (hd' : d < 18446744073709551616) (hn : n < 340282366920938463463374607431768211456) (w : World) :
    Calls Try.prog 79 #[.agg #[.int .u64 ((n / 18446744073709551616 : Nat) : Int), .int .u64 ((n % 18446744073709551616 : Nat) : Int)], .int .u64 d] w fun e w' => e = .returned (.tuple #[.agg #[.int .u64 ((n / d / 18446744073709551616 : Nat) : Int), .int .u64 ((n / d % 18446744073709551616 : Nat) : Int)], .int .u64 ((n % d : Nat) : Int)]) ∧ Below w.heap.size w w' := by
  have hhi : n / 18446744073709551616 < 18446744073709551616 := by omega
  have hlo : n % 18446744073709551616 < 18446744073709551616 := by omega
  have h := words_any _ _ d hd hd' hhi hlo w
  obtain ⟨e1, e2, e3⟩ := words_div (n / 18446744073709551616) (n % 18446744073709551616) d hd hlo
  have e : n / 18446744073709551616 * 18446744073709551616 + n % 18446744073709551616 = n := by omega
  rw [e] at e1 e2 h
  have e4 : n / d / 18446744073709551616 = n / 18446744073709551616 / d := by rw [Nat.div_div_eq_div_mul, Nat.div_div_eq_div_mul, Nat.mul_comm]
  have e5 : n / d % 18446744073709551616 = (n / 18446744073709551616 % d * 18446744073709551616 + n % 18446744073709551616) / d := by rw [e1]; omega
  rw [e4, e5]
  exact h

theorem quo_any {z d : Int} (hz : W128 z) (d1 : 1 ≤ d) (d2 : d ≤ 9223372036854775807) (w : World) :
    Calls Try.prog 69 #[WV z, .int .i64 d] w fun e w' => e = .returned (.tuple #[WV (z / d), .int .i64 (z % d), .int .i64 0]) ∧ Below w.heap.size w w' := by
  rw [WV_out, WV_out]
  have S := Lib.hid fun w => ssize_any hz w
  obtain ⟨h1, h2⟩ := hz
  obtain ⟨D, rfl⟩ : ∃ D : Nat, d = D := ⟨d.toNat, by omega⟩
  have W := Lib.hid fun w => words_n z.natAbs D (by omega) (by omega) (by omega) w
  have em := Nat.div_add_mod z.natAbs D
  have hm := Nat.mod_lt z.natAbs (y := D) (by omega)
  have hle : z.natAbs / D ≤ z.natAbs := Nat.div_le_self _ _
  have emz : ((z.natAbs : Nat) : Int) = (z.natAbs / D : Nat) * (D : Int) + (z.natAbs % D : Nat) := by
    rw [Int.mul_comm, ← Int.natCast_mul, ← Int.natCast_add, em]
  have hpos : (0 : Int) < D := by omega
  generalize hQ : z.natAbs / D = Q at *
  generalize hR : z.natAbs % D = R at *
  by_cases h0 : 0 ≤ z / 18446744073709551616
  · have hd := div_pos (z := z) hpos (q := (Q : Int)) (r := (R : Int)) (by omega) (by omega) (by omega)
    have h := quo_pos (w := w) h0 d1 d2 (by omega : (0 : Int) ≤ R) (by omega) S W
    rw [hd.1, hd.2, show (Q : Int) / 18446744073709551616 = wrap64 ((Q / 18446744073709551616 : Nat) : Int) by unfold wrap64; omega, show (Q : Int) % 18446744073709551616 = ((Q % 18446744073709551616 : Nat) : Int) by omega]
    exact h
  · rcases Nat.eq_zero_or_pos R with r0 | r0
    · subst r0
      have B := Lib.hid fun w => sbelow_any Q false (by simp; omega) w
      have hd := div_neg0 (z := z) hpos (q := (Q : Int)) (by omega)
      rw [hd.1, hd.2]
      have h := quo_neg0 (w := w) (by omega) d1 d2 rfl S W B
      simpa using h
    · have hlt : Q + 1 ≤ 170141183460469231731687303715884105728 := by
        have : Q < z.natAbs := by
          have : Q * 1 ≤ Q * D := Nat.mul_le_mul_left _ (by omega)
          rw [Nat.mul_comm] at em
          omega
        omega
      have B := Lib.hid fun w => sbelow_any Q true (by simpa using hlt) w
      have hd := div_neg (z := z) hpos (q := (Q : Int)) (r := (R : Int)) (by omega) (by omega) (by omega)
      rw [hd.1, hd.2, show -((Q : Int) + 1) = -(Q : Int) - 1 by omega]
      have h := quo_neg (w := w) (by omega) d1 d2 (by omega : (0 : Int) < R) (by omega) S W B
      simpa using h

/-- The nearest whole number, of two that are as near the even one. -/
def upI (z d : Int) : Bool := decide (d < 2 * (z % d)) || decide (2 * (z % d) = d) && decide (z / d % 2 = 1)
def nearI (z d : Int) : Int := if upI z d then z / d + 1 else z / d

theorem and1_u64 {l : Int} (l0 : 0 ≤ l) (l1 : l < 18446744073709551616) : bits .and .u64 l 1 = l % 2 := by
  obtain ⟨n, rfl⟩ : ∃ n : Nat, l = n := ⟨l.toNat, by omega⟩
  have h := bits_and_u64_nat n 1 (by omega) (by omega)
  rw [Nat.and_one_is_mod] at h
  rw [show (1 : Int) = ((1 : Nat) : Int) from rfl, h]
  omega
theorem beq_dec (a b : Int) : (a == b) = decide (a = b) := by
  by_cases h : a = b
  · rw [decide_eq_true h, beq_iff_eq]; exact h
  · rw [decide_eq_false h, beq_eq_false_iff_ne]; exact h

set_option maxHeartbeats 1000000 in
theorem even1_any {r d h l : Int} {gr gd gq : Nat} {w : World} (hr : Box w gr 3 #[.int .i64 r]) (hd : Box w gd 3 #[.int .i64 d]) (hq : Box w gq 104 #[.int .i64 h, .int .u64 l]) (r0 : 0 ≤ r) (r1 : r < d) (d2 : d ≤ 9223372036854775807) (l0 : 0 ≤ l) (l1 : l < 18446744073709551616) :
    Calls Try.prog 70 #[.pointer (some ⟨gr, 0, none⟩), .pointer (some ⟨gd, 0, none⟩), .pointer (some ⟨gq, 0, none⟩)] w fun e w' => e = .returned (.bool (decide (d < 2 * r) || decide (2 * r = d) && decide (l % 2 = 1))) ∧ w = w' := by
  have kr := hr.cells
  have kd := hd.cells
  have kq := hq.cells
  by_cases c1 : d < 2 * r
  · have c1' : d - r < r := by omega
    rw [decide_eq_true c1]
    go_enter Try.func70, Try.ntmps70
    go_wp2
    go_ret
    exact ⟨rfl, rfl⟩
  · rw [decide_eq_false c1]
    by_cases c2 : 2 * r = d
    · rw [decide_eq_true c2]
      have c1' : ¬ d - r < r := by omega
      have c2' : (r == d - r) = true := by rw [beq_iff_eq]; omega
      go_enter Try.func70, Try.ntmps70
      go_wp2
      go_ret
      have e : (bits .and .u64 l 1 == 1) = (false || true && decide (l % 2 = 1)) := by rw [and1_u64 l0 l1, beq_dec]; rfl
      exact ⟨congrArg (fun b => Ending.returned (.bool b)) e, rfl⟩
    · rw [decide_eq_false c2]
      have c1' : ¬ d - r < r := by omega
      have c2' : (r == d - r) = false := by rw [beq_eq_false_iff_ne]; omega
      go_enter Try.func70, Try.ntmps70
      go_wp2
      go_ret
      exact ⟨rfl, rfl⟩

set_option maxRecDepth 100000 in
set_option maxHeartbeats 1000000 in
theorem even_bad {h l d qh ql r : Int} {w : World} (QU : Hid (∀ w, Calls Try.prog 69 #[.agg #[.int .i64 h, .int .u64 l], .int .i64 d] w fun e w' => e = .returned (.tuple #[.agg #[.int .i64 qh, .int .u64 ql], .int .i64 r, .int .i64 2]) ∧ Below w.heap.size w w')) :
    Calls Try.prog 66 #[.agg #[.int .i64 h, .int .u64 l], .int .i64 d] w fun e w' => e = .returned (.tuple #[.int .i64 0, .int .i64 2]) ∧ Below w.heap.size w w' := by
  have B0 := Below.refl w.heap.size w
  go_enter Try.func66, Try.ntmps66
  go_wp2_with fail
  refine (QU.out _).mono ?_
  rintro e w1 ⟨rfl, b1⟩
  have x3 := (Box.new' (w := w.alloc (.cells #[.int .i64 h, .int .u64 l] 104)) (g := w.heap.size + 1) (t := 3) (cs := #[.int .i64 d]) (by simp)).later b1
  have b1 := below_up (below_up b1)
  have B1 := B0.trans (b1.mono B0.size)
  clear b1 B0
  go_wp2
  go_ret2
  exact ⟨rfl, (B1.alloc B1.size _).alloc (by simp; have := B1.size; omega) _⟩

set_option maxRecDepth 100000 in
set_option maxHeartbeats 1000000 in
theorem even_down {h l d qh ql r n ne : Int} {w : World} (QU : Hid (∀ w, Calls Try.prog 69 #[.agg #[.int .i64 h, .int .u64 l], .int .i64 d] w fun e w' => e = .returned (.tuple #[.agg #[.int .i64 qh, .int .u64 ql], .int .i64 r, .int .i64 0]) ∧ Below w.heap.size w w')) (CL : Hid (∀ (gr gd gq : Nat) (w : World), Box w gr 3 #[.int .i64 r] → Box w gd 3 #[.int .i64 d] → Box w gq 104 #[.int .i64 qh, .int .u64 ql] → Calls Try.prog 70 #[.pointer (some ⟨gr, 0, none⟩), .pointer (some ⟨gd, 0, none⟩), .pointer (some ⟨gq, 0, none⟩)] w fun e w' => e = .returned (.bool false) ∧ w = w')) (IN : Hid (∀ w, Calls Try.prog 73 #[.agg #[.int .i64 qh, .int .u64 ql]] w fun e w' => e = .returned (.tuple #[.int .i64 n, .int .i64 ne]) ∧ Below w.heap.size w w')) :
    Calls Try.prog 66 #[.agg #[.int .i64 h, .int .u64 l], .int .i64 d] w fun e w' => e = .returned (.tuple #[.int .i64 n, .int .i64 ne]) ∧ Below w.heap.size w w' := by
  have B0 := Below.refl w.heap.size w
  go_enter Try.func66, Try.ntmps66
  go_wp2_with fail
  refine (QU.out _).mono ?_
  rintro e w1 ⟨rfl, b1⟩
  have x3 := (Box.new' (w := w.alloc (.cells #[.int .i64 h, .int .u64 l] 104)) (g := w.heap.size + 1) (t := 3) (cs := #[.int .i64 d]) (by simp)).later b1
  have b1 := below_up (below_up b1)
  have B1 := B0.trans (b1.mono B0.size)
  clear b1 B0
  go_wp2_with fail
  have hs1 := B1.size
  obtain ⟨W1, hW1⟩ : ∃ W1, W1 = (w1.alloc (.cells #[.int .i64 qh, .int .u64 ql] 104)).alloc (.cells #[.int .i64 r] 3) := ⟨_, rfl⟩
  have x7 : Box W1 (w1.heap.size + 1) 3 #[.int .i64 r] := by rw [hW1]; exact Box.new' (by simp)
  have x6 : Box W1 w1.heap.size 104 #[.int .i64 qh, .int .u64 ql] := by rw [hW1]; exact (Box.new _ _ _).alloc _
  replace x3 : Box W1 (w.heap.size + 1) 3 #[.int .i64 d] := by rw [hW1]; exact (x3.alloc _).alloc _
  replace B1 : Below w.heap.size w W1 := by rw [hW1]; exact (B1.alloc B1.size _).alloc (by simp; have := B1.size; omega) _
  have hw1 : w.heap.size ≤ w1.heap.size := hs1
  rewrite [← hW1]
  clear hW1
  refine (CL.out _ _ _ _ x7 x3 x6).mono ?_
  rintro e _ ⟨rfl, rfl⟩
  have k6 := x6.cells
  have f6 := x6.free
  have l6 := x6.lt
  go_wp2_with fail
  refine (IN.out _).mono ?_
  rintro e w2 ⟨rfl, b2⟩
  have B2 := B1.trans (b2.mono B1.size)
  go_wp2_with fail
  go_ret2
  exact ⟨rfl, B2⟩

set_option maxRecDepth 100000 in
set_option maxHeartbeats 1000000 in
theorem even_up {h l d qh ql r n ne ah al ae : Int} {w : World} (QU : Hid (∀ w, Calls Try.prog 69 #[.agg #[.int .i64 h, .int .u64 l], .int .i64 d] w fun e w' => e = .returned (.tuple #[.agg #[.int .i64 qh, .int .u64 ql], .int .i64 r, .int .i64 0]) ∧ Below w.heap.size w w')) (CL : Hid (∀ (gr gd gq : Nat) (w : World), Box w gr 3 #[.int .i64 r] → Box w gd 3 #[.int .i64 d] → Box w gq 104 #[.int .i64 qh, .int .u64 ql] → Calls Try.prog 70 #[.pointer (some ⟨gr, 0, none⟩), .pointer (some ⟨gd, 0, none⟩), .pointer (some ⟨gq, 0, none⟩)] w fun e w' => e = .returned (.bool true) ∧ w = w')) (OF : Hid (∀ w, Calls Try.prog 72 #[.int .i64 1] w fun e w' => e = .returned (.agg #[.int .i64 0, .int .u64 1]) ∧ Below w.heap.size w w')) (AD : Hid (∀ w, Calls Try.prog 71 #[.agg #[.int .i64 qh, .int .u64 ql], .agg #[.int .i64 0, .int .u64 1]] w fun e w' => e = .returned (.tuple #[.agg #[.int .i64 ah, .int .u64 al], .int .i64 ae]) ∧ Below w.heap.size w w')) (IN : Hid (∀ w, Calls Try.prog 73 #[.agg #[.int .i64 ah, .int .u64 al]] w fun e w' => e = .returned (.tuple #[.int .i64 n, .int .i64 ne]) ∧ Below w.heap.size w w')) :
    Calls Try.prog 66 #[.agg #[.int .i64 h, .int .u64 l], .int .i64 d] w fun e w' => e = .returned (.tuple #[.int .i64 n, .int .i64 ne]) ∧ Below w.heap.size w w' := by
  have B0 := Below.refl w.heap.size w
  go_enter Try.func66, Try.ntmps66
  go_wp2_with fail
  refine (QU.out _).mono ?_
  rintro e w1 ⟨rfl, b1⟩
  have x3 := (Box.new' (w := w.alloc (.cells #[.int .i64 h, .int .u64 l] 104)) (g := w.heap.size + 1) (t := 3) (cs := #[.int .i64 d]) (by simp)).later b1
  have b1 := below_up (below_up b1)
  have B1 := B0.trans (b1.mono B0.size)
  clear b1 B0
  go_wp2_with fail
  have hs1 := B1.size
  obtain ⟨W1, hW1⟩ : ∃ W1, W1 = (w1.alloc (.cells #[.int .i64 qh, .int .u64 ql] 104)).alloc (.cells #[.int .i64 r] 3) := ⟨_, rfl⟩
  have x7 : Box W1 (w1.heap.size + 1) 3 #[.int .i64 r] := by rw [hW1]; exact Box.new' (by simp)
  have x6 : Box W1 w1.heap.size 104 #[.int .i64 qh, .int .u64 ql] := by rw [hW1]; exact (Box.new _ _ _).alloc _
  replace x3 : Box W1 (w.heap.size + 1) 3 #[.int .i64 d] := by rw [hW1]; exact (x3.alloc _).alloc _
  replace B1 : Below w.heap.size w W1 := by rw [hW1]; exact (B1.alloc B1.size _).alloc (by simp; have := B1.size; omega) _
  have hw1 : w.heap.size ≤ w1.heap.size := hs1
  rewrite [← hW1]
  clear hW1
  refine (CL.out _ _ _ _ x7 x3 x6).mono ?_
  rintro e _ ⟨rfl, rfl⟩
  have k6 := x6.cells
  have f6 := x6.free
  have l6 := x6.lt
  go_wp2_with fail
  clear CL QU
  go_region_with (first
    | (go_at_call 72; (with_reducible refine (OF.out _).mono ?_); rintro e w2 ⟨rfl, b2⟩; have y6 := x6.drew.later b2; have ky6 := y6.cells; have fy6 := y6.free; have ly6 := y6.lt; have b2 := below_undrew b2)
    | (go_at_call 71; (with_reducible refine (AD.out _).mono ?_); rintro e w3 ⟨rfl, b3⟩; have z6 := y6.later b3; have kz6 := z6.cells; have fz6 := z6.free; have lz6 := z6.lt))
  all_goals
    have B3 := B1.trans ((b2.trans (b3.mono b2.size)).mono B1.size)
    clear OF AD ky6 fy6 ly6 k6 f6 l6
    have q6 := (z6.set 0 (.int .i64 ah)).set 1 (.int .u64 al)
    have B4 := (B3.setCell (p := ⟨w1.heap.size, 0, none⟩) (hw1) (.int .i64 ah)).setCell (p := ⟨w1.heap.size, 1, none⟩) (hw1) (.int .u64 al)
    clear kz6 fz6 lz6
    have k6 := q6.cells
    go_wp2_with fail
    refine (IN.out _).mono ?_
    rintro e w4 ⟨rfl, b4⟩
    have B5 := B4.trans (b4.mono B4.size)
    go_wp2_with fail
    go_ret2
    exact ⟨rfl, B5⟩

theorem half_lt {z d : Int} (hz : W128 z) (d1 : 1 ≤ d) (h : upI z d = true) : W128 (z / d + 1) := by
  obtain ⟨h1, h2⟩ := hz
  have m0 := Int.emod_nonneg z (by omega : d ≠ 0)
  have m1 := Int.emod_lt_of_pos z (by omega : 0 < d)
  have e := Int.emod_add_mul_ediv z d
  have d2 : 2 ≤ d := by
    rcases (by omega : d = 1 ∨ 2 ≤ d) with rfl | h'
    · unfold upI at h
      simp at h
    · exact h'
  rcases (by omega : z / d < 0 ∨ 0 ≤ z / d) with hq | hq
  · refine ⟨?_, by omega⟩
    have : d * (z / d) ≤ 1 * (z / d) := Int.mul_le_mul_of_nonpos_right (by omega) (by omega)
    have hlow : -170141183460469231731687303715884105728 ≤ z / d := by
      rw [Int.le_ediv_iff_mul_le (by omega)]
      have : (-170141183460469231731687303715884105728 : Int) * d ≤ -170141183460469231731687303715884105728 * 1 := Int.mul_le_mul_of_nonpos_left (by omega) (by omega)
      omega
    omega
  · refine ⟨by omega, ?_⟩
    have : 2 * (z / d) ≤ d * (z / d) := Int.mul_le_mul_of_nonneg_right d2 hq
    omega
theorem quo_range {z d : Int} (hz : W128 z) (d1 : 1 ≤ d) : W128 (z / d) := by
  obtain ⟨h1, h2⟩ := hz
  constructor
  · rw [Int.le_ediv_iff_mul_le (by omega)]
    have : (-170141183460469231731687303715884105728 : Int) * d ≤ -170141183460469231731687303715884105728 * 1 := Int.mul_le_mul_of_nonpos_left (by omega) (by omega)
    omega
  · have : z / d < 170141183460469231731687303715884105728 := by
      rw [Int.ediv_lt_iff_lt_mul (by omega)]
      have : (170141183460469231731687303715884105728 : Int) * 1 ≤ 170141183460469231731687303715884105728 * d := Int.mul_le_mul_of_nonneg_left d1 (by omega)
      omega
    omega

def quoI (z d : Int) : Int × Int × Int := if d < 1 then (0, 0, 2) else (z / d, z % d, 0)
def evenI (z d : Int) : Int × Int := if d < 1 then (0, 2) else toldI (nearI z d)
def floorI (z d : Int) : Int × Int := if d < 1 then (0, 2) else toldI (z / d)

theorem quo_all {z d : Int} (hz : W128 z) (d2 : d ≤ 9223372036854775807) (w : World) :
    Calls Try.prog 69 #[WV z, .int .i64 d] w fun e w' => e = .returned (.tuple #[WV (quoI z d).1, .int .i64 (quoI z d).2.1, .int .i64 (quoI z d).2.2]) ∧ Below w.heap.size w w' := by
  unfold quoI
  by_cases h : d < 1
  · rw [if_pos h]
    exact quo_bad h
  · rw [if_neg h]
    exact quo_any hz (by omega) d2 w

theorem even_all {z d : Int} (hz : W128 z) (d2 : d ≤ 9223372036854775807) (w : World) :
    Calls Try.prog 66 #[WV z, .int .i64 d] w fun e w' => e = .returned (.tuple #[.int .i64 (evenI z d).1, .int .i64 (evenI z d).2]) ∧ Below w.heap.size w w' := by
  have QU := Lib.hid fun w => quo_all hz d2 w
  unfold evenI quoI at *
  by_cases h : d < 1
  · rw [if_pos h]
    rw [if_pos h] at QU
    exact even_bad QU
  · rw [if_neg h]
    rw [if_neg h] at QU
    have d1 : 1 ≤ d := by omega
    have CL := Lib.hid fun (gr gd gq : Nat) (w : World) (hr : Box w gr 3 #[.int .i64 (z % d)]) (hd : Box w gd 3 #[.int .i64 d]) (hq : Box w gq 104 #[.int .i64 (z / d / 18446744073709551616), .int .u64 (z / d % 18446744073709551616)]) => even1_any hr hd hq (Int.emod_nonneg z (by omega)) (Int.emod_lt_of_pos z (by omega)) d2 (by omega) (by omega)
    have hb : (decide (d < 2 * (z % d)) || decide (2 * (z % d) = d) && decide (z / d % 18446744073709551616 % 2 = 1)) = upI z d := by
      unfold upI
      rw [show z / d % 18446744073709551616 % 2 = z / d % 2 by omega]
    rw [hb] at CL
    have hq := quo_range hz d1
    unfold nearI
    cases hu : upI z d
    · rw [hu] at CL
      exact even_down QU CL (Lib.hid fun w => wint_any hq)
    · rw [hu] at CL
      have hup := half_lt hz d1 hu
      have AD := Lib.hid fun (w : World) => wadd_any (w := w) hq (show W128 1 from ⟨by omega, by omega⟩)
      rw [toldW_in hup.1 hup.2] at AD
      exact even_up QU CL (Lib.hid fun w => wof_any (n := 1) (by omega) (by omega)) AD (Lib.hid fun w => wint_any hup)

theorem W128.mul {a b : Int} (a1 : -9223372036854775808 ≤ a) (a2 : a ≤ 9223372036854775807) (b1 : -9223372036854775808 ≤ b) (b2 : b ≤ 9223372036854775807) : W128 (a * b) := by
  have h1 := Int.natAbs_mul a b
  have h2 := Nat.mul_le_mul (show a.natAbs ≤ 9223372036854775808 by omega) (show b.natAbs ≤ 9223372036854775808 by omega)
  generalize a * b = z at *
  exact ⟨by omega, by omega⟩

set_option maxHeartbeats 1000000 in
theorem scale_any {x n d : Int} (x1 : -9223372036854775808 ≤ x) (x2 : x ≤ 9223372036854775807) (n1 : -9223372036854775808 ≤ n) (n2 : n ≤ 9223372036854775807) (d2 : d ≤ 9223372036854775807) (w : World) :
    Calls Try.prog 61 #[.int .i64 x, .int .i64 n, .int .i64 d] w fun e w' => e = .returned (.tuple #[.int .i64 (evenI (x * n) d).1, .int .i64 (evenI (x * n) d).2]) ∧ Below w.heap.size w w' := by
  have hz := W128.mul x1 x2 n1 n2
  have ML := Lib.hid fun w => wmul_any (w := w) x1 x2 n1 n2
  have EV := Lib.hid fun w => even_all hz d2 w
  simp only [WV_out] at ML EV
  generalize evenI (x * n) d = p at *
  generalize x * n / 18446744073709551616 = zh at *
  generalize x * n % 18446744073709551616 = zl at *
  clear hz
  go_enter Try.func61, Try.ntmps61
  go_wp2_with fail
  refine (ML.out _).mono ?_
  rintro e w1 ⟨rfl, b1⟩
  go_wp2_with fail
  refine (EV.out _).mono ?_
  rintro e w2 ⟨rfl, b2⟩
  have B := b1.trans (b2.mono b1.size)
  go_wp2_with fail
  go_ret2
  exact ⟨rfl, B⟩

end Go.Proofs.Ytioecjoddgpjbaa
