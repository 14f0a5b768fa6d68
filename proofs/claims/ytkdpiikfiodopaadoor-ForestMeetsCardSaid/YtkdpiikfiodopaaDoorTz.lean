/-
  math/bits.TrailingZeros over the library's own table; ratio's common: the greatest common divisor.
-/
import Derived.Test.YtkdpiikfiodopaaDoorWide3
import Derived.Shelf.Spec.TrailingZeros
namespace Go.Proofs.YtkdpiikfiodopaaDoor
open Go.RowKit

/-- The library's table lies in its variable. -/
def Tb (w : World) : Prop := TabAt 1 Lib.deBruijn64tab w
section
variable {w w' : World}
theorem Tb.keep (h : Tb w) (hk : ∀ b, b < w.heap.size → w'.heap[b]? = w.heap[b]?) : Tb w' := fun j hj => by
  have h1 := h j hj
  exact (World.cell?_of_block (w := w) (hk 1 (World.block_lt_of_cell? w _ h1))).trans h1
theorem Tb.below {B : Nat} (h : Tb w) (hb : Below B w w') (hB : w.heap.size ≤ B) : Tb w' := h.keep fun b h => hb.block b (Nat.lt_of_lt_of_le h hB)
theorem Tb.later (h : Tb w) (hb : Below w.heap.size w w') : Tb w' := h.below hb (Nat.le_refl _)
theorem Tb.alloc (h : Tb w) (o : Obj) : Tb (w.alloc o) := h.keep fun b hb => Below.heap_alloc w o b hb
theorem Tb.drew (h : Tb w) : Tb w.drew := h
theorem Tb.drewN (h : Tb w) (n : Nat) : Tb (w.drewN n) := h
end

set_option maxHeartbeats 1000000 in
theorem tz64_core (x k idx : Nat) (w : World) (hx0 : ((x : Int) == 0) = false)
    (key : IntKind.u64.wrap (bits BinOp.and IntKind.u64 (x : Int) (IntKind.u64.wrap (-(x : Int))) * 285870213051353865) / 288230376151711744 = (idx : Int))
    (hi : idx < 64) (hk : k < 64) (hcell : w.cell? ⟨1, idx, none⟩ = some (.int .u8 k)) :
    Calls Tryd.prog 113 #[.int .u64 x] w fun e w' => e = .returned (.int .i64 k) ∧ w = w' := by
  go_enter Tryd.func113, Tryd.ntmps113
  go_wp2_with (simp only [key])
  go_ret
  exact ⟨rfl, rfl⟩
theorem tz64_any (x : Nat) (hx : x < 18446744073709551616) (h0 : x ≠ 0) (w : World) (T : Tb w) :
    Calls Tryd.prog 113 #[.int .u64 x] w fun e w' => e = .returned (.int .i64 (Lib.ctz 64 x)) ∧ w = w' := by
  obtain ⟨hlow, hk⟩ := Lib.lowest_bit 64 x h0 hx
  obtain ⟨hi, htab⟩ := Lib.deBruijn64_at _ hk
  have hcell := T _ hi
  rw [htab] at hcell
  exact tz64_core x _ _ w (by simp; omega) (tz64_key x _ hx h0 hlow) hi hk hcell

theorem tz_any (x : Nat) (hx : x < 18446744073709551616) (h0 : x ≠ 0) (w : World) (T : Tb w) :
    Calls Tryd.prog 97 #[.int .u64 x] w fun e w' => e = .returned (.int .i64 (Lib.ctz 64 x)) ∧ w = w' := by
  have C := Lib.hid (tz64_any x hx h0 w T)
  go_enter Tryd.func97, Tryd.ntmps97
  go_wp2_with fail
  refine C.out.mono ?_
  rintro e _ ⟨rfl, rfl⟩
  go_wp2
  go_ret
  exact ⟨rfl, rfl⟩

theorem ctz_split (x : Nat) (hx : x < 18446744073709551616) (h0 : x ≠ 0) : ∃ m, x = 2 ^ Lib.ctz 64 x * (2 * m + 1) ∧ Lib.ctz 64 x < 64 := by
  have h := Lib.ctzFrom_spec 64 x (by omega) (by omega)
  unfold Lib.ctz
  rw [if_neg h0]
  exact h
theorem gcd_odd_shift {a k m : Nat} (ha : a % 2 = 1) : Nat.gcd a (2 ^ k * m) = Nat.gcd a m := by
  have hc : Nat.Coprime a (2 ^ k) := by
    refine Nat.Coprime.pow_right k ?_
    have : Nat.gcd a 2 ∣ 2 := Nat.gcd_dvd_right a 2
    have h2 : Nat.gcd a 2 ≤ 2 := Nat.le_of_dvd (by decide) this
    have h3 : Nat.gcd a 2 ∣ a := Nat.gcd_dvd_left a 2
    have h4 : 0 < Nat.gcd a 2 := Nat.gcd_pos_of_pos_right a (by decide)
    rcases (by omega : Nat.gcd a 2 = 1 ∨ Nat.gcd a 2 = 2) with h | h
    · exact h
    · rw [h] at h3
      omega
  exact Nat.Coprime.gcd_mul_left_cancel_right m hc.symm
/-- Twos are common as far as both numbers have them. -/
theorem gcd_twos {i j m n : Nat} (hm : m % 2 = 1) (hn : n % 2 = 1) : Nat.gcd (2 ^ i * m) (2 ^ j * n) = Nat.gcd m n * 2 ^ min i j := by
  rcases Nat.le_total i j with h | h
  · rw [Nat.min_eq_left h]
    obtain ⟨d, rfl⟩ : ∃ d, j = i + d := ⟨j - i, by omega⟩
    rw [Nat.pow_add, Nat.mul_assoc, Nat.gcd_mul_left, gcd_odd_shift hm, Nat.mul_comm]
  · rw [Nat.min_eq_right h]
    obtain ⟨d, rfl⟩ : ∃ d, i = j + d := ⟨i - j, by omega⟩
    rw [Nat.pow_add, Nat.mul_assoc, Nat.gcd_mul_left, Nat.gcd_comm (2 ^ d * m), gcd_odd_shift hn, Nat.mul_comm, Nat.gcd_comm n]
/-- One round of common: what is left has the same common divisor. -/
theorem common_round {x p k : Nat} (hx : x % 2 = 1) : (2 * p + 1 < x → Nat.gcd (2 * p + 1) (x - (2 * p + 1)) = Nat.gcd x (2 ^ k * (2 * p + 1))) ∧ (x ≤ 2 * p + 1 → Nat.gcd x (2 * p + 1 - x) = Nat.gcd x (2 ^ k * (2 * p + 1))) := by
  rw [gcd_odd_shift hx]
  exact ⟨fun h => by rw [Nat.gcd_sub_self_right (by omega), Nat.gcd_comm], fun h => Nat.gcd_sub_self_right h⟩

set_option maxRecDepth 100000 in
set_option maxHeartbeats 1000000 in
theorem common_any (a b : Nat) (a1 : 1 ≤ a) (b1 : 1 ≤ b) (a2 : a ≤ 1000000000000) (b2 : b ≤ 1000000000000) (w : World) (T : Tb w) :
    Calls Tryd.prog 77 #[.int .u64 a, .int .u64 b] w fun e w' => e = .returned (.int .i64 (Nat.gcd a b : Nat)) ∧ w = w' := by
  have TZ := Lib.hid fun (x : Nat) (h : x < 18446744073709551616) (h0 : x ≠ 0) => tz_any x h h0 w T
  obtain ⟨m, ea, ia⟩ := ctz_split a (by omega) (by omega)
  obtain ⟨n, eb, ib⟩ := ctz_split b (by omega) (by omega)
  have CA := Lib.hid (TZ.out a (by omega) (by omega))
  have CB := Lib.hid (TZ.out b (by omega) (by omega))
  generalize Lib.ctz 64 a = i at *
  generalize Lib.ctz 64 b = j at *
  have hpos : 0 < 2 ^ i := Nat.two_pow_pos i
  have hm : 2 * m + 1 ≤ a := by
    rw [ea]
    exact Nat.le_mul_of_pos_left _ hpos
  have hsh : (a : Int) / 2 ^ i = ((2 * m + 1 : Nat) : Int) := by
    have : ((a / 2 ^ i : Nat) : Int) = ((2 * m + 1 : Nat) : Int) := by rw [ea, Nat.mul_div_cancel_left _ hpos]
    simpa using this
  have hG : Nat.gcd a b = Nat.gcd (2 * m + 1) b * 2 ^ min i j := by
    have h1 := gcd_twos (i := i) (j := j) (m := 2 * m + 1) (n := 2 * n + 1) (by omega) (by omega)
    have h2 := gcd_odd_shift (k := j) (m := 2 * n + 1) (a := 2 * m + 1) (by omega)
    rw [← ea, ← eb] at h1
    rw [← eb] at h2
    rw [h1, h2]
  have hle : Nat.gcd a b ≤ a := Nat.gcd_le_left b (by omega)
  rw [hG]
  rw [hG] at hle
  generalize hg : Nat.gcd (2 * m + 1) b = g at *
  have GG := Lib.hid hg
  generalize hM : 2 * m + 1 = M at *
  have HM := Lib.hid (show M % 2 = 1 by omega)
  have hM1 : 1 ≤ M := by omega
  have HL := Lib.hid hle
  clear hg hG ea eb T hM hle hpos
  obtain ⟨t, ht, hm2⟩ : ∃ t, min i j = t ∧ ((j < i ∧ t = j) ∨ (i ≤ j ∧ t = i)) := ⟨_, rfl, by omega⟩
  rw [ht] at HL ⊢
  clear ht
  rcases hm2 with ⟨hij, rfl⟩ | ⟨hij, rfl⟩
  all_goals
   go_enter Tryd.func77, Tryd.ntmps77
   go_wp2_with fail
   refine CA.out.mono ?_
   rintro e _ ⟨rfl, rfl⟩
   go_wp2_with fail
   refine CB.out.mono ?_
   rintro e _ ⟨rfl, rfl⟩
   go_wp2_with fail
   refine CA.out.mono ?_
   rintro e _ ⟨rfl, rfl⟩
   go_wp2_with fail
   go_loop [0, 1] (fun s0 s1 => ∃ x y : Nat, s0 = .int .u64 x ∧ s1 = .int .u64 y ∧ Hid (x % 2 = 1) ∧ Hid (Nat.gcd x y = g) ∧ 1 ≤ x ∧ x ≤ 1000000000000 ∧ y ≤ 1000000000000) (fun s0 s1 => (intOf s0 + intOf s1).toNat)
   case atStart => exact ⟨M, b, by first | rfl | rw [hsh], rfl, HM, GG, by omega, by omega, by omega⟩
   case round =>
     clear hsh
     obtain ⟨x, y, rfl, rfl, hx, hxy, x1, x2, y2⟩ := hrel
     by_cases h0 : y = 0
     · subst h0
       go_wp2_with fail
       go_ret
       have hxg : x = g := by
         have := hxy.out
         rw [Nat.gcd_zero_right] at this
         exact this
       have e : wrap64 (IntKind.u64.wrap ((x : Int) * 2 ^ t)) = (g : Int) * 2 ^ t := by
         have h1 := HL.out
         have h2 : (g : Int) * 2 ^ t = ((g * 2 ^ t : Nat) : Int) := by simp
         rw [hxg, h2, wrapU]
         generalize g * 2 ^ t = z at *
         unfold wrap64
         omega
       exact ⟨congrArg (fun z => Ending.returned (.int .i64 z)) e, rfl⟩
     · obtain ⟨p, ey, ik⟩ := ctz_split y (by omega) h0
       have CY := Lib.hid (TZ.out y (by omega) h0)
       have h0b : ((y : Int) == 0) = false := by simp; omega
       have h0c : ((y : Int) != 0) = true := by simp; omega
       generalize Lib.ctz 64 y = k at *
       have hpos : 0 < 2 ^ k := Nat.two_pow_pos k
       have hp : 2 * p + 1 ≤ y := by
         conv => rhs; rw [ey]
         exact Nat.le_mul_of_pos_left _ hpos
       have hsh : (y : Int) / 2 ^ k = ((2 * p + 1 : Nat) : Int) := by
         have : ((y / 2 ^ k : Nat) : Int) = ((2 * p + 1 : Nat) : Int) := by rw [ey, Nat.mul_div_cancel_left _ hpos]
         simpa using this
       have R := Lib.hid (common_round (p := p) (k := k) hx.out)
       rw [← ey, hxy.out] at R
       have HO := Lib.hid (show (2 * p + 1) % 2 = 1 by omega)
       generalize 2 * p + 1 = q at *
       have hq1 : 1 ≤ q := by have := HO.out; omega
       clear ey hpos TZ CA CB
       by_cases hlt : q < x
       · have ws : IntKind.u64.wrap ((x : Int) - (q : Int)) = ((x - q : Nat) : Int) := by rw [wrapU]; omega
         have hlt' : (q : Int) < x := by omega
         go_wp2_with fail
         refine CY.out.mono ?_
         rintro e _ ⟨rfl, rfl⟩
         go_wp2_with fail
         go_round
         case rel => exact ⟨q, x - q, rfl, by first | rfl | rw [ws], HO, Lib.hid (R.out.1 hlt), hq1, by omega, by omega⟩
         case measure => simp [intOf] <;> omega
       · have ws : IntKind.u64.wrap ((q : Int) - (x : Int)) = ((q - x : Nat) : Int) := by rw [wrapU]; omega
         have hlt' : ¬ (q : Int) < x := by omega
         go_wp2_with fail
         refine CY.out.mono ?_
         rintro e _ ⟨rfl, rfl⟩
         go_wp2_with fail
         go_round
         case rel => exact ⟨x, q - x, rfl, by first | rfl | rw [ws], hx, Lib.hid (R.out.2 (by omega)), x1, by omega, by omega⟩
         case measure => simp [intOf] <;> omega
end Go.Proofs.YtkdpiikfiodopaaDoor
