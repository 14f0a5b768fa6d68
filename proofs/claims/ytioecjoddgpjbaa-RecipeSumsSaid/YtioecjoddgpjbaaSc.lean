/-
  Chapter 3: quotients of wide numbers: words, size, below, Quo.
-/
import Derived.Test.YtioecjoddgpjbaaDiv64
import Derived.Test.YtioecjoddgpjbaaWide3
import Derived.WalkMore
import Derived.ScopeJumps
namespace Go.Proofs.Ytioecjoddgpjbaa
open Go.RowKit

theorem div64_any (hi lo y : Nat) (h1 : hi < y) (hlo : lo < 18446744073709551616) (hy : y < 18446744073709551616) (w : World) :
    Calls Try.prog 82 #[.int .u64 hi, .int .u64 lo, .int .u64 y] w fun e w' => e = .returned (.tuple #[.int .u64 (((hi * 18446744073709551616 + lo) / y : Nat) : Int), .int .u64 (((hi * 18446744073709551616 + lo) % y : Nat) : Int)]) ∧ Below w.heap.size w w' := by
  rcases Nat.eq_zero_or_pos hi with rfl | h0
  · have := div64_low lo y h1 hlo hy w
    rw [Nat.zero_mul, Nat.zero_add]
    exact this
  · exact div64_high hi lo y h0 h1 hlo hy w

/-- Two words by one: the high word's quotient and what is left of it make the quotient. -/
theorem words_div (hi lo d : Nat) (hd : 0 < d) (hlo : lo < 18446744073709551616) :
    (hi * 18446744073709551616 + lo) / d = hi / d * 18446744073709551616 + (hi % d * 18446744073709551616 + lo) / d ∧ (hi * 18446744073709551616 + lo) % d = (hi % d * 18446744073709551616 + lo) % d ∧ (hi % d * 18446744073709551616 + lo) / d < 18446744073709551616 := by
  have e := Nat.div_add_mod hi d
  have hm := Nat.mod_lt hi hd
  have e2 : hi * 18446744073709551616 + lo = hi % d * 18446744073709551616 + lo + d * (hi / d * 18446744073709551616) := by
    have : d * (hi / d) * 18446744073709551616 + hi % d * 18446744073709551616 = hi * 18446744073709551616 := by rw [← Nat.add_mul, e]
    rw [Nat.mul_assoc] at this
    omega
  refine ⟨?_, ?_, ?_⟩
  · rw [e2, Nat.add_mul_div_left _ _ hd, Nat.add_comm]
  · rw [e2, Nat.add_mul_mod_self_left]
  · rw [Nat.div_lt_iff_lt_mul hd]
    have : (hi % d + 1) * 18446744073709551616 ≤ d * 18446744073709551616 := Nat.mul_le_mul_right _ hm
    rw [Nat.mul_comm 18446744073709551616 d]
    omega

set_option maxRecDepth 100000 in
set_option maxHeartbeats 1000000 in
theorem words_core (hi lo d q1 r1 q0 r0 : Nat) (w : World)
    (C1 : Hid (∀ w, Calls Try.prog 82 #[.int .u64 0, .int .u64 hi, .int .u64 d] w fun e w' => e = .returned (.tuple #[.int .u64 q1, .int .u64 r1]) ∧ Below w.heap.size w w'))
    (C2 : Hid (∀ w, Calls Try.prog 82 #[.int .u64 r1, .int .u64 lo, .int .u64 d] w fun e w' => e = .returned (.tuple #[.int .u64 q0, .int .u64 r0]) ∧ Below w.heap.size w w')) :
    Calls Try.prog 79 #[.agg #[.int .u64 hi, .int .u64 lo], .int .u64 d] w fun e w' => e = .returned (.tuple #[.agg #[.int .u64 q1, .int .u64 q0], .int .u64 r0]) ∧ Below w.heap.size w w' := by
  go_enter Try.func79, Try.ntmps79
  go_wp2
  refine wp_scope_jumps 0 (fun a' W => (∃ u9 u10 u11 u12 u13 u14 u15 u16 u17 u18 u19 u20 u21 u22 u23 u24 u25 : Value, a' = { tmps := #[.agg #[.int .u64 hi, .int .u64 lo], .int .u64 d, .pointer (some ⟨w.heap.size, 0, none⟩), undef, .pointer (some ⟨w.heap.size + 1, 0, none⟩), .int .u64 0, .pointer (some ⟨w.heap.size + 2, 0, none⟩), .int .u64 r1, .int .i64 1, u9, u10, u11, u12, u13, u14, u15, u16, u17, u18, u19, u20, u21, u22, u23, u24, u25], defers := [] }) ∧
      Box W w.heap.size 87 #[.int .u64 hi, .int .u64 lo] ∧ Box W (w.heap.size + 1) 87 #[.int .u64 0, .int .u64 0] ∧ Box W (w.heap.size + 2) 87 #[.int .u64 q1, .int .u64 0] ∧ Below w.heap.size w W) (fun _ _ => 0) rfl ?_ ?_
  · go_wp2
    go_step3
    go_wp2_with fail
    refine (C1.out _).mono ?_
    rintro e w1 ⟨rfl, b1⟩
    have x2 := (((Box.new w 87 #[.int .u64 hi, .int .u64 lo]).alloc (.cells #[.int .u64 0, .int .u64 0] 87)).alloc (.cells #[.int .u64 0, .int .u64 0] 87)).later b1
    have x4 := ((Box.new' (w := w.alloc (.cells #[.int .u64 hi, .int .u64 lo] 87)) (g := w.heap.size + 1) (t := 87) (cs := #[.int .u64 0, .int .u64 0]) (by simp)).alloc (.cells #[.int .u64 0, .int .u64 0] 87)).later b1
    have x6 := (Box.new' (w := (w.alloc (.cells #[.int .u64 hi, .int .u64 lo] 87)).alloc (.cells #[.int .u64 0, .int .u64 0] 87)) (g := w.heap.size + 2) (t := 87) (cs := #[.int .u64 0, .int .u64 0]) (by simp)).later b1
    have b1 := below_up (below_up (below_up b1))
    have k6 := x6.cells
    have f6 := x6.free
    have hs := b1.size
    clear C2
    go_wp2_with fail
    go_step3
    refine ⟨rfl, ⟨_, _, _, _, _, _, _, _, _, _, _, _, _, _, _, _, _, rfl⟩, x2.far' (by omega) _, x4.far' (by omega) _, x6.set 0 _, b1.setCell (by simp; omega) _⟩
  · rintro a' W ⟨⟨u9, u10, u11, u12, u13, u14, u15, u16, u17, u18, u19, u20, u21, u22, u23, u24, u25, rfl⟩, x2, x4, x6, b1⟩
    have k2 := x2.cells
    have C1 := 0
    have hs := x6.lt
    go_wp2_with fail
    refine (C2.out _).mono ?_
    rintro e w1 ⟨rfl, b2⟩
    replace x2 := x2.later b2
    replace x4 := x4.later b2
    replace x6 := x6.later b2
    have k6 := x6.cells
    have f6 := x6.free
    have k4 := x4.cells
    have f4 := x4.free
    go_wp2_with fail
    simp only [Exit.jump]
    have b3 := (((b1.trans (b2.mono b1.size)).setCell (p := ⟨w.heap.size + 2, 1, none⟩) (by simp) (.int .u64 q0)).setCell (p := ⟨w.heap.size + 1, 0, none⟩) (by simp) (.int .u64 q1)).setCell (p := ⟨w.heap.size + 1, 1, none⟩) (by simp) (.int .u64 q0)
    refine bodyPost_ret (by unfold results; simp only [Try.results79]; go_simp; rfl) rfl ?_
    exact ⟨rfl, b3⟩

theorem words_any (hi lo d : Nat) (hd : 0 < d) (hd' : d < 18446744073709551616) (hhi : hi < 18446744073709551616) (hlo : lo < 18446744073709551616) (w : World) :
    Calls Try.prog 79 #[.agg #[.int .u64 hi, .int .u64 lo], .int .u64 d] w fun e w' => e = .returned (.tuple #[.agg #[.int .u64 ((hi / d : Nat) : Int), .int .u64 (((hi % d * 18446744073709551616 + lo) / d : Nat) : Int)], .int .u64 (((hi * 18446744073709551616 + lo) % d : Nat) : Int)]) ∧ Below w.heap.size w w' := by
  obtain ⟨_, h2, h3⟩ := words_div hi lo d hd hlo
  have hm := Nat.mod_lt hi hd
  rw [h2]
  refine words_core hi lo d _ _ _ _ w (Lib.hid fun w => ?_) (Lib.hid fun w => div64_any (hi % d) lo d hm hlo hd' w)
  have := div64_any 0 hi d hd hhi hd' w
  rw [Nat.zero_mul, Nat.zero_add] at this
  exact this

theorem ssize_pos {h l u : Int} {w : World} (h0 : 0 ≤ h) (hw : IntKind.u64.wrap h = u) :
    Calls Try.prog 80 #[.agg #[.int .i64 h, .int .u64 l]] w fun e w' => e = .returned (.agg #[.int .u64 u, .int .u64 l]) ∧ Below w.heap.size w w' := by
  go_enter Try.func80, Try.ntmps80
  go_wp2
  refine bodyPost_ret (by unfold results; simp only [Try.results80]; go_simp; rfl) rfl ?_
  exact ⟨rfl, ((Below.refl _ _).alloc (Nat.le_refl _) _).alloc (by simp) _⟩

theorem ssize_neg {h l u lo hi q r : Int} {w : World} (h0 : h < 0) (hw : IntKind.u64.wrap h = u) (A1 : (∀ w, (callFunc 63 #[.int .u64 0, .int .u64 l, .int .u64 0]).run Try.prog w = .ok (.value (.tuple #[.int .u64 lo, .int .u64 q])) w)) (A2 : (∀ w, (callFunc 63 #[.int .u64 0, .int .u64 u, .int .u64 q]).run Try.prog w = .ok (.value (.tuple #[.int .u64 hi, .int .u64 r])) w)) :
    Calls Try.prog 80 #[.agg #[.int .i64 h, .int .u64 l]] w fun e w' => e = .returned (.agg #[.int .u64 hi, .int .u64 lo]) ∧ Below w.heap.size w w' := by
  go_enter Try.func80, Try.ntmps80
  go_wp2
  refine bodyPost_ret (by unfold results; simp only [Try.results80]; go_simp; rfl) rfl ?_
  exact ⟨rfl, ((Below.refl _ _).alloc (Nat.le_refl _) _).alloc (by simp) _⟩

theorem sbelow_true {q1 q0 lo hi q r : Int} {w : World} (A1 : (∀ w, (callFunc 63 #[.int .u64 0, .int .u64 q0, .int .u64 1]).run Try.prog w = .ok (.value (.tuple #[.int .u64 lo, .int .u64 q])) w)) (A2 : (∀ w, (callFunc 63 #[.int .u64 0, .int .u64 q1, .int .u64 q]).run Try.prog w = .ok (.value (.tuple #[.int .u64 hi, .int .u64 r])) w)) :
    Calls Try.prog 81 #[.agg #[.int .u64 q1, .int .u64 q0], .bool true] w fun e w' => e = .returned (.agg #[.int .i64 (wrap64 hi), .int .u64 lo]) ∧ Below w.heap.size w w' := by
  go_enter Try.func81, Try.ntmps81
  go_wp2
  refine bodyPost_ret (by unfold results; simp only [Try.results81]; go_simp; rfl) rfl ?_
  exact ⟨rfl, ((Below.refl _ _).alloc (Nat.le_refl _) _).alloc (by simp) _⟩

set_option maxHeartbeats 1000000 in
theorem quo_pos {h l d s1 s0 q1 q0 r : Int} {w : World} (h0 : 0 ≤ h) (d1 : 1 ≤ d) (d2 : d ≤ 9223372036854775807) (r0 : 0 ≤ r) (r1 : r ≤ 9223372036854775807) (SZ : Hid (∀ w, Calls Try.prog 80 #[.agg #[.int .i64 h, .int .u64 l]] w fun e w' => e = .returned (.agg #[.int .u64 s1, .int .u64 s0]) ∧ Below w.heap.size w w')) (WD : Hid (∀ w, Calls Try.prog 79 #[.agg #[.int .u64 s1, .int .u64 s0], .int .u64 d] w fun e w' => e = .returned (.tuple #[.agg #[.int .u64 q1, .int .u64 q0], .int .u64 r]) ∧ Below w.heap.size w w')) :
    Calls Try.prog 69 #[.agg #[.int .i64 h, .int .u64 l], .int .i64 d] w fun e w' => e = .returned (.tuple #[.agg #[.int .i64 (wrap64 q1), .int .u64 q0], .int .i64 r, .int .i64 0]) ∧ Below w.heap.size w w' := by
  have B0 := Below.refl w.heap.size w
  have wd : IntKind.u64.wrap d = d := by rw [wrapU]; omega
  have wr : wrap64 r = r := by unfold wrap64; omega
  go_enter Try.func69, Try.ntmps69
  go_wp2_with fail
  refine (SZ.out _).mono ?_
  rintro e w1 ⟨rfl, b1⟩
  have x2 := ((Box.new w 104 #[.int .i64 h, .int .u64 l]).alloc (.cells #[.int .i64 0, .int .u64 0] 104)).later b1
  have x4 := (Box.new' (w := w.alloc (.cells #[.int .i64 h, .int .u64 l] 104)) (g := w.heap.size + 1) (t := 104) (cs := #[.int .i64 0, .int .u64 0]) (by simp)).later b1
  have b1 := below_up (below_up b1)
  have B1 := B0.trans (b1.mono B0.size)
  clear b1 B0
  go_wp2_with fail
  refine (WD.out _).mono ?_
  rintro e w2 ⟨rfl, b2⟩
  replace x2 := x2.later b2
  replace x4 := x4.later b2
  have B2 := B1.trans (b2.mono B1.size)
  clear b2 B1
  have k2 := x2.cells
  have l2 := x2.lt
  have k4 := x4.cells
  have f4 := x4.free
  have l4 := x4.lt
  go_wp2_with fail
  refine bodyPost_ret (by unfold results; simp only [Try.results69]; go_simp; rfl) rfl ?_
  exact ⟨rfl, ((B2.setCell (by simp) _).setCell (by simp) _).alloc (by simp; omega) _⟩

set_option maxHeartbeats 1000000 in
theorem quo_neg0 {h l d s1 s0 q1 q0 r zh zl : Int} {w : World} (h0 : h < 0) (d1 : 1 ≤ d) (d2 : d ≤ 9223372036854775807) (r0 : r = 0) (SZ : Hid (∀ w, Calls Try.prog 80 #[.agg #[.int .i64 h, .int .u64 l]] w fun e w' => e = .returned (.agg #[.int .u64 s1, .int .u64 s0]) ∧ Below w.heap.size w w')) (WD : Hid (∀ w, Calls Try.prog 79 #[.agg #[.int .u64 s1, .int .u64 s0], .int .u64 d] w fun e w' => e = .returned (.tuple #[.agg #[.int .u64 q1, .int .u64 q0], .int .u64 r]) ∧ Below w.heap.size w w')) (BL : Hid (∀ w, Calls Try.prog 81 #[.agg #[.int .u64 q1, .int .u64 q0], .bool false] w fun e w' => e = .returned (.agg #[.int .i64 zh, .int .u64 zl]) ∧ Below w.heap.size w w')) :
    Calls Try.prog 69 #[.agg #[.int .i64 h, .int .u64 l], .int .i64 d] w fun e w' => e = .returned (.tuple #[.agg #[.int .i64 zh, .int .u64 zl], .int .i64 0, .int .i64 0]) ∧ Below w.heap.size w w' := by
  subst r0
  have B0 := Below.refl w.heap.size w
  have wd : IntKind.u64.wrap d = d := by rw [wrapU]; omega
  go_enter Try.func69, Try.ntmps69
  go_wp2_with fail
  refine (SZ.out _).mono ?_
  rintro e w1 ⟨rfl, b1⟩
  have x2 := ((Box.new w 104 #[.int .i64 h, .int .u64 l]).alloc (.cells #[.int .i64 0, .int .u64 0] 104)).later b1
  have x4 := (Box.new' (w := w.alloc (.cells #[.int .i64 h, .int .u64 l] 104)) (g := w.heap.size + 1) (t := 104) (cs := #[.int .i64 0, .int .u64 0]) (by simp)).later b1
  have b1 := below_up (below_up b1)
  have B1 := B0.trans (b1.mono B0.size)
  clear b1 B0
  go_wp2_with fail
  refine (WD.out _).mono ?_
  rintro e w2 ⟨rfl, b2⟩
  replace x2 := x2.later b2
  replace x4 := x4.later b2
  have B2 := B1.trans (b2.mono B1.size)
  clear b2 B1
  have k2 := x2.cells
  have l2 := x2.lt
  have k4 := x4.cells
  have f4 := x4.free
  have l4 := x4.lt
  go_wp2_with fail
  refine (BL.out _).mono ?_
  rintro e w3 ⟨rfl, b3⟩
  replace x4 := (x4.alloc (.cells #[.int .u64 q1, .int .u64 q0] 87)).later b3
  have b3 := below_up b3
  have B3 := B2.trans (b3.mono B2.size)
  clear b3 B2 k4 f4 l4 k2 l2
  have k4 := x4.cells
  have f4 := x4.free
  have l4 := x4.lt
  go_wp2_with fail
  refine bodyPost_ret (by unfold results; simp only [Try.results69]; go_simp; rfl) rfl ?_
  exact ⟨rfl, (B3.setCell (by simp) _).setCell (by simp) _⟩

set_option maxHeartbeats 1000000 in
theorem quo_neg {h l d s1 s0 q1 q0 r zh zl : Int} {w : World} (h0 : h < 0) (d1 : 1 ≤ d) (d2 : d ≤ 9223372036854775807) (r0 : 0 < r) (r1 : r < d) (SZ : Hid (∀ w, Calls Try.prog 80 #[.agg #[.int .i64 h, .int .u64 l]] w fun e w' => e = .returned (.agg #[.int .u64 s1, .int .u64 s0]) ∧ Below w.heap.size w w')) (WD : Hid (∀ w, Calls Try.prog 79 #[.agg #[.int .u64 s1, .int .u64 s0], .int .u64 d] w fun e w' => e = .returned (.tuple #[.agg #[.int .u64 q1, .int .u64 q0], .int .u64 r]) ∧ Below w.heap.size w w')) (BL : Hid (∀ w, Calls Try.prog 81 #[.agg #[.int .u64 q1, .int .u64 q0], .bool true] w fun e w' => e = .returned (.agg #[.int .i64 zh, .int .u64 zl]) ∧ Below w.heap.size w w')) :
    Calls Try.prog 69 #[.agg #[.int .i64 h, .int .u64 l], .int .i64 d] w fun e w' => e = .returned (.tuple #[.agg #[.int .i64 zh, .int .u64 zl], .int .i64 (d - r), .int .i64 0]) ∧ Below w.heap.size w w' := by
  have B0 := Below.refl w.heap.size w
  have rz : r ≠ 0 := by omega
  have rzb : (r == 0) = false := beq_eq_false_iff_ne.2 rz
  have wd : IntKind.u64.wrap d = d := by rw [wrapU]; omega
  have wr : wrap64 r = r := by unfold wrap64; omega
  go_enter Try.func69, Try.ntmps69
  go_wp2_with fail
  refine (SZ.out _).mono ?_
  rintro e w1 ⟨rfl, b1⟩
  have x2 := ((Box.new w 104 #[.int .i64 h, .int .u64 l]).alloc (.cells #[.int .i64 0, .int .u64 0] 104)).later b1
  have x4 := (Box.new' (w := w.alloc (.cells #[.int .i64 h, .int .u64 l] 104)) (g := w.heap.size + 1) (t := 104) (cs := #[.int .i64 0, .int .u64 0]) (by simp)).later b1
  have b1 := below_up (below_up b1)
  have B1 := B0.trans (b1.mono B0.size)
  clear b1 B0
  go_wp2_with fail
  refine (WD.out _).mono ?_
  rintro e w2 ⟨rfl, b2⟩
  replace x2 := x2.later b2
  replace x4 := x4.later b2
  have B2 := B1.trans (b2.mono B1.size)
  clear b2 B1
  have k2 := x2.cells
  have l2 := x2.lt
  have k4 := x4.cells
  have f4 := x4.free
  have l4 := x4.lt
  go_wp2_with fail
  refine (BL.out _).mono ?_
  rintro e w3 ⟨rfl, b3⟩
  replace x4 := (x4.alloc (.cells #[.int .u64 q1, .int .u64 q0] 87)).later b3
  have b3 := below_up b3
  have B3 := B2.trans (b3.mono B2.size)
  clear b3 B2 k4 f4 l4 k2 l2
  have k4 := x4.cells
  have f4 := x4.free
  have l4 := x4.lt
  go_wp2_with fail
  refine bodyPost_ret (by unfold results; simp only [Try.results69]; go_simp; rfl) rfl ?_
  exact ⟨rfl, (B3.setCell (by simp) _).setCell (by simp) _⟩

set_option maxHeartbeats 1000000 in
theorem quo_bad {h l d : Int} {w : World} (h0 : d < 1) :
    Calls Try.prog 69 #[.agg #[.int .i64 h, .int .u64 l], .int .i64 d] w fun e w' => e = .returned (.tuple #[.agg #[.int .i64 0, .int .u64 0], .int .i64 0, .int .i64 2]) ∧ Below w.heap.size w w' := by
  go_enter Try.func69, Try.ntmps69
  go_wp2
  refine bodyPost_ret (by unfold results; simp only [Try.results69]; go_simp; rfl) rfl ?_
  exact ⟨rfl, ((Below.refl _ _).alloc (Nat.le_refl _) _).alloc (by simp) _⟩

theorem ssize_any {z : Int} (hz : W128 z) (w : World) : Calls Try.prog 80 #[.agg #[.int .i64 (z / 18446744073709551616), .int .u64 (z % 18446744073709551616)]] w fun e w' => e = .returned (.agg #[.int .u64 ((z.natAbs / 18446744073709551616 : Nat) : Int), .int .u64 ((z.natAbs % 18446744073709551616 : Nat) : Int)]) ∧ Below w.heap.size w w' := by
  obtain ⟨h1, h2⟩ := hz
  by_cases h0 : 0 ≤ z / 18446744073709551616
  · have e1 : ((z.natAbs / 18446744073709551616 : Nat) : Int) = z / 18446744073709551616 := by omega
    have e2 : ((z.natAbs % 18446744073709551616 : Nat) : Int) = z % 18446744073709551616 := by omega
    rw [e1, e2]
    exact ssize_pos h0 (by rw [wrapU]; omega)
  · obtain ⟨q, hq⟩ : ∃ q : Int, (if 0 < z % 18446744073709551616 + 0 then (1 : Int) else 0) = q := ⟨_, rfl⟩
    obtain ⟨r, hr⟩ : ∃ r : Int, (if 0 < z / 18446744073709551616 % 18446744073709551616 + q then (1 : Int) else 0) = r := ⟨_, rfl⟩
    have q0 : 0 ≤ q ∧ q ≤ 1 := by rw [← hq]; split <;> omega
    refine ssize_neg (u := z / 18446744073709551616 % 18446744073709551616) (q := q) (r := r) (by omega) (wrapU _) (fun w => ?_) (fun w => ?_)
    · have := sub64 0 (z % 18446744073709551616) 0 (by omega) (by omega) (by omega) (by omega) (by omega) w
      rw [hq] at this
      rw [this, show (0 - z % 18446744073709551616 - 0) % 18446744073709551616 = ((z.natAbs % 18446744073709551616 : Nat) : Int) by omega]
    · have := sub64 0 (z / 18446744073709551616 % 18446744073709551616) q (by omega) (by omega) (by omega) q0.1 q0.2 w
      rw [hr] at this
      rw [this, show (0 - z / 18446744073709551616 % 18446744073709551616 - q) % 18446744073709551616 = ((z.natAbs / 18446744073709551616 : Nat) : Int) by rw [← hq]; split <;> omega]

theorem sbelow_false {q1 q0 lo hi q r : Int} {w : World} (A1 : (∀ w, (callFunc 63 #[.int .u64 0, .int .u64 q0, .int .u64 0]).run Try.prog w = .ok (.value (.tuple #[.int .u64 lo, .int .u64 q])) w)) (A2 : (∀ w, (callFunc 63 #[.int .u64 0, .int .u64 q1, .int .u64 q]).run Try.prog w = .ok (.value (.tuple #[.int .u64 hi, .int .u64 r])) w)) :
    Calls Try.prog 81 #[.agg #[.int .u64 q1, .int .u64 q0], .bool false] w fun e w' => e = .returned (.agg #[.int .i64 (wrap64 hi), .int .u64 lo]) ∧ Below w.heap.size w w' := by
  go_enter Try.func81, Try.ntmps81
  go_wp2
  refine bodyPost_ret (by unfold results; simp only [Try.results81]; go_simp; rfl) rfl ?_
  exact ⟨rfl, ((Below.refl _ _).alloc (Nat.le_refl _) _).alloc (by simp) _⟩

theorem sbelow_any (n : Nat) (b : Bool) (h : n + (if b then 1 else 0) ≤ 170141183460469231731687303715884105728) (w : World) :
    Calls Try.prog 81 #[.agg #[.int .u64 ((n / 18446744073709551616 : Nat) : Int), .int .u64 ((n % 18446744073709551616 : Nat) : Int)], .bool b] w fun e w' => e = .returned (.agg #[.int .i64 ((-(n : Int) - (if b then 1 else 0)) / 18446744073709551616), .int .u64 ((-(n : Int) - (if b then 1 else 0)) % 18446744073709551616)]) ∧ Below w.heap.size w w' := by
  have go : ∀ o : Nat, o ≤ 1 → n + o ≤ 170141183460469231731687303715884105728 → ∃ lo hi q r : Int, (∀ w, (callFunc 63 #[.int .u64 0, .int .u64 ((n % 18446744073709551616 : Nat) : Int), .int .u64 (o : Nat)]).run Try.prog w = .ok (.value (.tuple #[.int .u64 lo, .int .u64 q])) w) ∧ (∀ w, (callFunc 63 #[.int .u64 0, .int .u64 ((n / 18446744073709551616 : Nat) : Int), .int .u64 q]).run Try.prog w = .ok (.value (.tuple #[.int .u64 hi, .int .u64 r])) w) ∧ wrap64 hi = (-(n : Int) - o) / 18446744073709551616 ∧ lo = (-(n : Int) - o) % 18446744073709551616 := by
    intro o ho hn
    obtain ⟨q, hq⟩ : ∃ q : Int, (if (0 : Int) < ((n % 18446744073709551616 : Nat) : Int) + (o : Nat) then (1 : Int) else 0) = q := ⟨_, rfl⟩
    have q0 : 0 ≤ q ∧ q ≤ 1 := by rw [← hq]; split <;> omega
    refine ⟨(0 - ((n % 18446744073709551616 : Nat) : Int) - (o : Nat)) % 18446744073709551616, _, q, _, fun w => ?_, fun w => sub64 0 _ q (by omega) (by omega) (by omega) q0.1 q0.2 w, ?_, ?_⟩
    · have := sub64 0 ((n % 18446744073709551616 : Nat) : Int) (o : Nat) (by omega) (by omega) (by omega) (by omega) (by omega) w
      rw [hq] at this
      exact this
    · unfold wrap64
      rw [← hq]
      split <;> omega
    · omega
  cases b
  · obtain ⟨lo, hi, q, r, a1, a2, a3, a4⟩ := go 0 (by omega) h
    have := sbelow_false (w := w) a1 a2
    rw [a3, a4] at this
    exact this
  · obtain ⟨lo, hi, q, r, a1, a2, a3, a4⟩ := go 1 (by omega) h
    have := sbelow_true (w := w) a1 a2
    rw [a3, a4] at this
    exact this
end Go.Proofs.Ytioecjoddgpjbaa
