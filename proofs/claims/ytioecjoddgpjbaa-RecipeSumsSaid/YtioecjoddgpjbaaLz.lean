/-
  math/bits.LeadingZeros64: so many places that the number, shifted by them, has its highest bit.
-/
import Derived.Test.YtioecjoddgpjbaaK
import Derived.Shelf.Small.Bits
import Derived.Lib.ItoaNum
namespace Go.Proofs.Ytioecjoddgpjbaa
open Go.RowKit Go.Shelf

/-- The shelf's numbers and this program's. -/
def lzRen : Ren where
  f := fun x => if x = 129 then 84 else 83
  t := fun x => if x = 3 then 3 else if x = 4 then 4 else if x = 5 then 5 else if x = 9 then 9 else if x = 46 then 124 else 86
  g := fun x => x

theorem lzLays : Lays.n134 Try.prog lzRen where
  mixed := by kernel_rfl
  f129 := by kernel_rfl
  f134 := by kernel_rfl
  t3 := by kernel_rfl
  a3 := fun w => by kernel_rfl
  z3 := fun w => by kernel_rfl
  v3 := fun w => by kernel_rfl
  t4 := by kernel_rfl
  a4 := fun w => by kernel_rfl
  z4 := fun w => by kernel_rfl
  v4 := fun w => by kernel_rfl
  t5 := by kernel_rfl
  a5 := fun w => by kernel_rfl
  z5 := fun w => by kernel_rfl
  v5 := fun w => by kernel_rfl
  t9 := by kernel_rfl
  a9 := fun w => by kernel_rfl
  z9 := fun w => by kernel_rfl
  v9 := fun w => by kernel_rfl
  t46 := by kernel_rfl
  a46 := fun w => by kernel_rfl
  z46 := fun w => by kernel_rfl
  v46 := fun w => by kernel_rfl
  t53 := by kernel_rfl
  a53 := fun w => by kernel_rfl
  z53 := fun w => by kernel_rfl
  v53 := fun w => by kernel_rfl

theorem lz_shift (y : Nat) (h1 : 1 ≤ y) (h2 : y < 18446744073709551616) : Lib.bitLen y ≤ 64 ∧ 1 ≤ Lib.bitLen y ∧ 9223372036854775808 ≤ y * 2 ^ (64 - Lib.bitLen y) ∧ y * 2 ^ (64 - Lib.bitLen y) < 18446744073709551616 := by
  have hb : Lib.bitLen y ≤ 64 := Lib.bitLen_le y 64 (by omega) (by omega)
  obtain ⟨b1, b2, b3⟩ := Lib.bitLenAux_bounds 64 y (by omega) (by omega)
  change 1 ≤ Lib.bitLen y at b1
  change 2 ^ (Lib.bitLen y - 1) ≤ y at b2
  change y < 2 ^ Lib.bitLen y at b3
  generalize Lib.bitLen y = b at *
  refine ⟨hb, b1, ?_, ?_⟩
  · have h3 := Nat.mul_le_mul_right (2 ^ (64 - b)) b2
    rw [← Nat.pow_add, (by omega : b - 1 + (64 - b) = 63)] at h3
    simpa using h3
  · have h3 := (Nat.mul_lt_mul_right (Nat.two_pow_pos (64 - b))).2 b3
    rw [← Nat.pow_add, (by omega : b + (64 - b) = 64)] at h3
    simpa using h3

theorem lz_any (y : Nat) (h1 : 1 ≤ y) (h2 : y < 18446744073709551616) :
    ∃ s : Nat, s ≤ 63 ∧ 9223372036854775808 ≤ y * 2 ^ s ∧ y * 2 ^ s < 18446744073709551616 ∧ ∀ w, Calls Try.prog 83 #[.int .u64 y] w fun e w' => e = .returned (.int .i64 s) ∧ w = w' := by
  obtain ⟨hb, b1, h3, h4⟩ := lz_shift y h1 h2
  refine ⟨64 - Lib.bitLen y, by omega, h3, h4, fun w => ?_⟩
  have h := Any.bits_LeadingZeros64 lzLays (y : Int) w (by omega) (by omega)
  have h : Calls Try.prog 83 #[.int .u64 y] w fun e w' => e = .returned (.int .i64 (64 - (Lib.bitLen (y : Int).toNat : Int))) ∧ w' = w := h
  refine h.mono ?_
  rintro e w' ⟨rfl, rfl⟩
  refine ⟨?_, rfl⟩
  rw [Int.toNat_natCast]
  congr 2
  omega
end Go.Proofs.Ytioecjoddgpjbaa
