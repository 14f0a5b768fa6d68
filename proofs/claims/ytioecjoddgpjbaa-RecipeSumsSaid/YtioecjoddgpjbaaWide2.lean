/-
  The program's wide, further: Neg, Cmp, Sign, Int.
-/
import Derived.Test.YtioecjoddgpjbaaWide
namespace Go.Proofs.Ytioecjoddgpjbaa
open Go.RowKit

theorem toldI_in {z : Int} (h1 : -9223372036854775808 ≤ z) (h2 : z ≤ 9223372036854775807) : toldI z = (z, 0) := by unfold toldI; rw [if_pos ⟨h1, h2⟩]
theorem toldI_out {z : Int} (h : z < -9223372036854775808 ∨ 9223372036854775807 < z) : toldI z = (0, 10) := by
  unfold toldI
  rw [if_neg]
  rintro ⟨h1, h2⟩
  rw [leastI_eq] at h1
  rw [mostI_eq] at h2
  omega

/-- Two wide numbers, held against each other. -/
theorem weq (t : TypeId) (ht : t = 104 ∨ t = 117) (a b c d : Int) (w : World) : (Op.equalIn 10000 t (.agg #[.int .i64 a, .int .u64 b]) (.agg #[.int .i64 c, .int .u64 d])).run Try.prog w = .ok ((a == c) && (b == d)) w := by
  have u3 := Try.underlying2
  have a3 := Try.isAgg2
  have z3 := Try.sizeOf2
  have u4 := Try.underlying86
  have a4 := Try.isAgg86
  have z4 := Try.sizeOf86
  rcases ht with rfl | rfl
  · have hS : Try.prog.underlying 104 = some (.struct (Try.prog.fieldsOf 104)) := by kernel_rfl
    have hp : Try.prog.stoodInHeld 104 = false := by kernel_rfl
    rw [show (10000 : Nat) = 9999 + 1 from rfl, run_equalIn_agg w 9999 _ _ _ hS hp]
    simp only [Program.fieldsOf, Try.underlying104]
    go_simp
    by_cases h1 : a = c <;> by_cases h2 : b = d <;> simp [h1, h2]
  · have hS : Try.prog.underlying 117 = some (.struct (Try.prog.fieldsOf 117)) := by kernel_rfl
    have hp : Try.prog.stoodInHeld 117 = false := by kernel_rfl
    rw [show (10000 : Nat) = 9999 + 1 from rfl, run_equalIn_agg w 9999 _ _ _ hS hp]
    simp only [Program.fieldsOf, Try.underlying117]
    go_simp
    by_cases h1 : a = c <;> by_cases h2 : b = d <;> simp [h1, h2]
theorem weqz (x y : Int) (w : World) : (Op.equalIn 10000 104 (.agg #[.int .i64 (x / 18446744073709551616), .int .u64 (x % 18446744073709551616)]) (.agg #[.int .i64 (y / 18446744073709551616), .int .u64 (y % 18446744073709551616)])).run Try.prog w = .ok (decide (x = y)) w := by
  rw [weq _ (.inl rfl)]
  by_cases h : x = y
  · subst h
    simp
  · rw [decide_eq_false h]
    have : ¬ (x / 18446744073709551616 = y / 18446744073709551616 ∧ x % 18446744073709551616 = y % 18446744073709551616) := by omega
    by_cases h1 : x / 18446744073709551616 = y / 18446744073709551616
    · by_cases h2 : x % 18446744073709551616 = y % 18446744073709551616
      · exact absurd ⟨h1, h2⟩ this
      · simp [h2]
    · simp [h1]

set_option maxHeartbeats 1000000 in
theorem wint_any {z : Int} {w : World} (hz : W128 z) :
    Calls Try.prog 73 #[WV z] w fun e w' => e = .returned (.tuple #[.int .i64 (toldI z).1, .int .i64 (toldI z).2]) ∧ Below w.heap.size w w' := by
  obtain ⟨z1, z2⟩ := hz
  obtain ⟨n, hn⟩ : ∃ n, wrap64 (z % 18446744073709551616) = n := ⟨_, rfl⟩
  have hn' : -9223372036854775808 ≤ n ∧ n ≤ 9223372036854775807 ∧ (-9223372036854775808 ≤ z ∧ z ≤ 9223372036854775807 ↔ n = z) := by
    rw [← hn]
    unfold wrap64
    omega
  have O := Lib.hid fun w => wof_any (n := n) (w := w) hn'.1 hn'.2.1
  have E := fun w => weqz n z w
  rw [WV_out]
  simp only [WV_out] at O
  have go : ∀ b : Bool, decide (n = z) = b → (b = true → toldI z = (n, 0)) → (b = false → toldI z = (0, 10)) → Calls Try.prog 73 #[.agg #[.int .i64 (z / 18446744073709551616), .int .u64 (z % 18446744073709551616)]] w fun e w' => e = .returned (.tuple #[.int .i64 (toldI z).1, .int .i64 (toldI z).2]) ∧ Below w.heap.size w w' := by
    intro b hb t1 t2
    rw [hb] at E
    have T1 := Lib.hid t1
    have T2 := Lib.hid t2
    clear hb hn' z1 z2 t1 t2
    generalize toldI z = p at *
    generalize z / 18446744073709551616 = zh at *
    generalize z % 18446744073709551616 = zl at *
    generalize n / 18446744073709551616 = nh at *
    generalize n % 18446744073709551616 = nl at *
    go_enter Try.func73, Try.ntmps73
    go_wp2
    obtain ⟨W0, hW0⟩ : ∃ W0, W0 = w.alloc (.cells #[.int .i64 zh, .int .u64 zl] 104) := ⟨_, rfl⟩
    have x0 : Box W0 w.heap.size 104 #[.int .i64 zh, .int .u64 zl] := by rw [hW0]; exact Box.new _ _ _
    have hB : Below w.heap.size w W0 := by rw [hW0]; exact (Below.refl _ _).alloc (Nat.le_refl _) _
    rewrite [← hW0]
    clear hW0
    have y0 := x0.drew
    have k0 := y0.cells
    go_region_held3 (fun w' => w'.cell? ⟨w.heap.size, 0, none⟩ = some (.int .i64 zh) ∧ w'.cell? ⟨w.heap.size, 1, none⟩ = some (.int .u64 zl)) (go_keep)
      (first
        | (go_at_call 72; refine (O.out _).mono ?_; rintro e w1 ⟨rfl, b1⟩; have y1 := y0.later b1; have k1 := y1.cells))
    have B1 := hB.trans ((below_undrew b1).mono hB.size)
    clear k0 k1 b1 y0 y1 x0 hB
    cases b
    · have q := Lib.hid (T2.out rfl)
      clear T1 T2
      go_wp2
      go_ret2
      exact ⟨by rw [q.out]; rfl, B1⟩
    · have q := Lib.hid (T1.out rfl)
      clear T1 T2
      go_wp2
      go_ret2
      exact ⟨by rw [q.out]; rfl, B1⟩
  refine go _ rfl (fun h => ?_) (fun h => ?_)
  · have := of_decide_eq_true h
    rw [toldI_in (by omega) (by omega), this]
  · have := of_decide_eq_false h
    rw [toldI_out (by omega)]
end Go.Proofs.Ytioecjoddgpjbaa
