/-
  math/bits.Div64: the quotient of two words by one, and what is left.
-/
import Derived.Test.YtioecjoddgpjbaaLz
import Derived.Test.YtioecjoddgpjbaaDv
import Derived.Test.YtioecjoddgpjbaaBits
import Derived.BigQuiet
import Derived.Deep.CutBlock
namespace Go.Proofs.Ytioecjoddgpjbaa
open Go.RowKit

theorem ret_u64 {a b c d : Int} (h1 : a = c) (h2 : b = d) : Ending.returned (.tuple #[.int .u64 a, .int .u64 b]) = .returned (.tuple #[.int .u64 c, .int .u64 d]) := by rw [h1, h2]

set_option maxHeartbeats 1000000 in
theorem div64_low (lo y : Nat) (h1 : 0 < y) (hlo : lo < 18446744073709551616) (hy : y < 18446744073709551616) (w : World) :
    Calls Try.prog 82 #[.int .u64 0, .int .u64 lo, .int .u64 y] w fun e w' => e = .returned (.tuple #[.int .u64 ((lo / y : Nat) : Int), .int .u64 ((lo % y : Nat) : Int)]) ∧ Below w.heap.size w w' := by
  have hy0 : y ≠ 0 := by omega
  have hy1 : (y : Int) ≠ 0 := by omega
  go_enter Try.func82, Try.ntmps82
  go_wp2_with fail
  go_quiet (fail)
  go_wp2
  go_ret2
  have e1 : IntKind.u64.wrap ((lo : Int) / y) = ((lo / y : Nat) : Int) := by
    have e : ((lo / y : Nat) : Int) = (lo : Int) / y := by simp
    rw [← e]
    exact Mul64.wrapN _ (Nat.lt_of_le_of_lt (Nat.div_le_self lo y) hlo)
  have e2 : ((lo : Int) % y) = ((lo % y : Nat) : Int) := by simp
  rw [← e1, ← e2]
  exact ⟨rfl, below_drewN (Below.refl _ _) _⟩

set_option maxRecDepth 100000 in
set_option maxHeartbeats 4000000 in
theorem div64_high (hi lo y : Nat) (h0 : 0 < hi) (h1 : hi < y) (hlo : lo < 18446744073709551616) (hy : y < 18446744073709551616) (w : World) :
    Calls Try.prog 82 #[.int .u64 hi, .int .u64 lo, .int .u64 y] w fun e w' => e = .returned (.tuple #[.int .u64 (((hi * 18446744073709551616 + lo) / y : Nat) : Int), .int .u64 (((hi * 18446744073709551616 + lo) % y : Nat) : Int)]) ∧ Below w.heap.size w w' := by
  obtain ⟨s, hs, hs1, hs2, C⟩ := lz_any y (by omega) hy
  have hy0 : y ≠ 0 := by omega
  have hh0 : hi ≠ 0 := by omega
  have hh1 : ¬ y ≤ hi := by omega
  have hmono : hi * 2 ^ s < y * 2 ^ s := (Nat.mul_lt_mul_right (Nat.two_pow_pos s)).2 h1
  obtain ⟨hsh, hlow⟩ := kn_shift (hi := hi) hs hlo
  have hU0 : hi * 2 ^ s + lo / 2 ^ (64 - s) < y * 2 ^ s := by
    have h3 : (hi + 1) * 2 ^ s ≤ y * 2 ^ s := Nat.mul_le_mul_right _ h1
    rw [Nat.add_mul, Nat.one_mul] at h3
    omega
  have eY : IntKind.u64.wrap ((y : Int) * 2 ^ s) = ((y * 2 ^ s : Nat) : Int) := by
    have := Mul64.wrapN (y * 2 ^ s) hs2
    rw [← this]
    simp
  have eH : IntKind.u64.wrap ((hi : Int) * 2 ^ s) = ((hi * 2 ^ s : Nat) : Int) := by
    have := Mul64.wrapN (hi * 2 ^ s) (by omega)
    rw [← this]
    simp
  have eO : (lo : Int) / 2 ^ (64 - s) = ((lo / 2 ^ (64 - s) : Nat) : Int) := by simp
  have eU : bits .or .u64 ((hi * 2 ^ s : Nat) : Int) ((lo / 2 ^ (64 - s) : Nat) : Int) = ((hi * 2 ^ s + lo / 2 ^ (64 - s) : Nat) : Int) := by
    rw [bits_or_u64_nat _ _ (by omega) (by omega), Nat.mul_comm hi, Nat.two_pow_add_eq_or_of_lt hlow]
  have eL : IntKind.u64.wrap ((lo : Int) * 2 ^ s) = ((lo * 2 ^ s % 18446744073709551616 : Nat) : Int) := by
    have := Mul64.wrapM (lo * 2 ^ s)
    rw [← this]
    simp
  have hL : lo * 2 ^ s % 18446744073709551616 < 18446744073709551616 := Nat.mod_lt _ (by decide)
  have hz : ¬ (IntKind.u64.wrap ((y : Int) * 2 ^ s) / 4294967296 = 0) := by
    rw [eY, Mul64.divN]
    omega
  have hzb : (IntKind.u64.wrap ((y : Int) * 2 ^ s) / 4294967296 == 0) = false := beq_eq_false_iff_ne.2 hz
  have EY := Lib.hid (And.intro eY (And.intro eH (And.intro eO (And.intro eU eL))))
  have EB := Lib.hid (And.intro hs1 (And.intro hs2 (And.intro hmono (And.intro hsh (And.intro hU0 (And.intro hL hlow))))))
  clear eY eH eO eU eL hs1 hs2 hmono hsh hU0 hL hlow
  go_enter Try.func82, Try.ntmps82
  go_wp2_with fail
  refine (C w).mono ?_
  rintro e w1 ⟨rfl, rfl⟩
  go_upto_block 0 with fail
  obtain ⟨eY, eH, eO, eU, eL⟩ := EY.out
  obtain ⟨hs1, hs2, hmono, hsh, hU0, hL, hlow⟩ := EB.out
  simp only [eY, eH, eO, eU, eL, Mul64.divN, Mul64.maskN _ hs2, Mul64.maskN _ hL]
  clear eY eH eO eU eL EY EB C
  generalize hYd : y * 2 ^ s = Y at *
  generalize hUd : hi * 2 ^ s + lo / 2 ^ (64 - s) = U at *
  generalize hLd : lo * 2 ^ s % 18446744073709551616 = L at *
  generalize hy1 : Y / 4294967296 = y1 at *
  generalize hy2 : Y % 4294967296 = y0 at *
  generalize hu1 : L / 4294967296 = u1 at *
  generalize hu2 : L % 4294967296 = u0 at *
  have eYY : Y = y1 * 4294967296 + y0 := by omega
  have eLL : L = u1 * 4294967296 + u0 := by omega
  have b1 : 2147483648 ≤ y1 ∧ y1 < 4294967296 ∧ y0 < 4294967296 ∧ u1 < 4294967296 ∧ u0 < 4294967296 := by omega
  obtain ⟨b1, b2, b3, b4, b5⟩ := b1
  obtain ⟨k1, k2, k3, k4⟩ := kn_first (u := u1) b4 (eYY ▸ hU0) b3 b1 b2
  have e1 : IntKind.u64.wrap ((U : Int).tdiv (y1 : Int)) = ((U / y1 : Nat) : Int) := by
    rw [Int.tdiv_eq_ediv_of_nonneg (by omega), ← Int.natCast_ediv]
    exact Mul64.wrapN _ (by omega)
  have e2 : IntKind.u64.wrap ((U : Int) - IntKind.u64.wrap (((U / y1 : Nat) : Int) * (y1 : Int))) = ((U % y1 : Nat) : Int) := by
    rw [Mul64.mulN, Mul64.wrapN _ (by omega), (by omega : (U : Int) - ((U / y1 * y1 : Nat) : Int) = ((U % y1 : Nat) : Int))]
    exact Mul64.wrapN _ (by omega)
  simp only [e1, e2]
  clear e1 e2
  generalize U / y1 = q at *
  generalize U % y1 = r at *
  obtain ⟨Q, hQ⟩ : ∃ Q, (U * 4294967296 + u1) / (y1 * 4294967296 + y0) = Q := ⟨_, rfl⟩
  rw [hQ] at k4
  have D := Lib.hid hQ
  have hM := Lib.hid (fun (q r : Nat) (h : q * y1 + r = U) (hc : 4294967296 ≤ q ∨ 4294967296 * r + u1 < q * y0) => hQ ▸ kn_more h b4 (eYY ▸ hU0) hc)
  have K := Lib.hid (And.intro k1 (And.intro k4 (And.intro k3 (by omega : r < 4294967296))))
  clear k1 k2 k3 k4 hQ
  have EE := Lib.hid (And.intro eYY.symm (And.intro eLL (And.intro hYd (And.intro hUd (And.intro hLd hsh)))))
  clear eYY eLL hYd hUd hLd hy1 hy2 hu1 hu2 hsh hz
  go_cut [15] from 67 to 85 (fun sq w' => sq = .int .u64 (Q : Nat) ∧ w' = w)
  case first =>
    go_wp2_with fail
    go_loop [15, 16] (fun sq sr => ∃ q r : Nat, sq = .int .u64 q ∧ sr = .int .u64 r ∧ Hid (q * y1 + r = U) ∧ Q ≤ q ∧ q ≤ 4294967297 ∧ r < 4294967296) (fun sq _ => (intOf sq).toNat)
    case atStart => exact ⟨q, r, rfl, rfl, K.out.1, K.out.2.1, K.out.2.2.1, K.out.2.2.2⟩
    case round =>
      clear K
      obtain ⟨q, r, rfl, rfl, i1, i2, i3, i4⟩ := hrel
      by_cases hc1 : 4294967296 ≤ q
      · have hQ : Q < q := hM.out q r i1.out (.inl hc1)
        clear hM
        obtain ⟨k, rfl⟩ : ∃ k, q = k + 1 := ⟨q - 1, by omega⟩
        have hc1' : (4294967296 : Int) ≤ (k : Int) + 1 := by omega
        have w1 : IntKind.u64.wrap (k : Int) = (k : Int) := Mul64.wrapN _ (by omega)
        have w2 : IntKind.u64.wrap ((r : Int) + (y1 : Int)) = (r : Int) + (y1 : Int) := by
          have := Mul64.wrapN (r + y1) (by omega)
          rw [Int.natCast_add] at this
          exact this
        have j1 : k * y1 + (r + y1) = U := by
          have := i1.out
          rw [Nat.add_mul, Nat.one_mul] at this
          omega
        have j2 : Q ≤ k := by omega
        by_cases hr : 4294967296 ≤ r + y1
        · have hr' : (4294967296 : Int) ≤ (r : Int) + y1 := by omega
          have e : k = Q := by
            have := kn_exit (u := u1) (y0 := y0) j1 (kn_break (by omega) b3 hr) (by omega) (by rw [D.out]; exact j2)
            rw [D.out] at this
            exact this.symm
          have E := Lib.hid e
          clear e D i1 i2 j1 hQ
          go_wp2_with fail
          go_meet
          exact ⟨congrArg (fun n : Nat => Value.int .u64 (n : Int)) E.out, rfl⟩
        · have hr' : ¬ (4294967296 : Int) ≤ (r : Int) + y1 := by omega
          have J1 := Lib.hid j1
          clear j1
          go_wp2_with fail
          go_round
          case rel => exact ⟨k, r + y1, rfl, (by first | rfl | rw [Int.natCast_add]), J1.out, j2, by omega, by omega⟩
          case measure => simp [intOf] <;> omega
      · by_cases hc2 : 4294967296 * r + u1 < q * y0
        · have hQ : Q < q := hM.out q r i1.out (.inr hc2)
          clear hM
          obtain ⟨k, rfl⟩ : ∃ k, q = k + 1 := ⟨q - 1, by omega⟩
          have hc1' : ¬ (4294967296 : Int) ≤ (k : Int) + 1 := by omega
          have hq0 : (k + 1) * y0 < 18446744073709551616 := by
            have h1 : (k + 1) * y0 ≤ 4294967295 * y0 := Nat.mul_le_mul_right _ (by omega)
            omega
          have w3 : IntKind.u64.wrap (((k : Int) + 1) * (y0 : Int)) = ((k : Int) + 1) * (y0 : Int) := by
            have := Mul64.wrapN ((k + 1) * y0) hq0
            rw [Int.natCast_mul, Int.natCast_add] at this
            exact this
          have w4 : IntKind.u64.wrap (4294967296 * (r : Int)) = 4294967296 * (r : Int) := by
            have := Mul64.wrapN (4294967296 * r) (by omega)
            rw [Int.natCast_mul] at this
            exact this
          have w5 : IntKind.u64.wrap (4294967296 * (r : Int) + (u1 : Int)) = 4294967296 * (r : Int) + (u1 : Int) := by
            have := Mul64.wrapN (4294967296 * r + u1) (by omega)
            rw [Int.natCast_add, Int.natCast_mul] at this
            exact this
          have hc2' : 4294967296 * (r : Int) + (u1 : Int) < ((k : Int) + 1) * (y0 : Int) := by
            have : ((4294967296 * r + u1 : Nat) : Int) < (((k + 1) * y0 : Nat) : Int) := by omega
            rw [Int.natCast_add, Int.natCast_mul, Int.natCast_mul, Int.natCast_add] at this
            exact this
          clear hc2 hq0
          have w1 : IntKind.u64.wrap (k : Int) = (k : Int) := Mul64.wrapN _ (by omega)
          have w2 : IntKind.u64.wrap ((r : Int) + (y1 : Int)) = (r : Int) + (y1 : Int) := by
            have := Mul64.wrapN (r + y1) (by omega)
            rw [Int.natCast_add] at this
            exact this
          have j1 : k * y1 + (r + y1) = U := by
            have := i1.out
            rw [Nat.add_mul, Nat.one_mul] at this
            omega
          have j2 : Q ≤ k := by omega
          by_cases hr : 4294967296 ≤ r + y1
          · have hr' : (4294967296 : Int) ≤ (r : Int) + y1 := by omega
            have e : k = Q := by
              have := kn_exit (u := u1) (y0 := y0) j1 (kn_break (by omega) b3 hr) (by omega) (by rw [D.out]; exact j2)
              rw [D.out] at this
              exact this.symm
            have E := Lib.hid e
            clear e D i1 i2 j1 hQ
            go_wp2_with fail
            go_meet
            exact ⟨congrArg (fun n : Nat => Value.int .u64 (n : Int)) E.out, rfl⟩
          · have hr' : ¬ (4294967296 : Int) ≤ (r : Int) + y1 := by omega
            have J1 := Lib.hid j1
            clear j1
            go_wp2_with fail
            go_round
            case rel => exact ⟨k, r + y1, rfl, (by first | rfl | rw [Int.natCast_add]), J1.out, j2, by omega, by omega⟩
            case measure => simp [intOf] <;> omega
        · have hq0 : q * y0 < 18446744073709551616 := by
            have h1 : q * y0 ≤ 4294967295 * y0 := Nat.mul_le_mul_right _ (by omega)
            omega
          have hc1' : ¬ (4294967296 : Int) ≤ (q : Int) := by omega
          have w3 : IntKind.u64.wrap ((q : Int) * (y0 : Int)) = (q : Int) * (y0 : Int) := by
            have := Mul64.wrapN (q * y0) hq0
            rw [Int.natCast_mul] at this
            exact this
          have w4 : IntKind.u64.wrap (4294967296 * (r : Int)) = 4294967296 * (r : Int) := by
            have := Mul64.wrapN (4294967296 * r) (by omega)
            rw [Int.natCast_mul] at this
            exact this
          have w5 : IntKind.u64.wrap (4294967296 * (r : Int) + (u1 : Int)) = 4294967296 * (r : Int) + (u1 : Int) := by
            have := Mul64.wrapN (4294967296 * r + u1) (by omega)
            rw [Int.natCast_add, Int.natCast_mul] at this
            exact this
          have hc2' : ¬ 4294967296 * (r : Int) + (u1 : Int) < (q : Int) * (y0 : Int) := by
            have : ((q * y0 : Nat) : Int) ≤ ((4294967296 * r + u1 : Nat) : Int) := by omega
            rw [Int.natCast_add, Int.natCast_mul, Int.natCast_mul] at this
            exact Int.not_lt.2 this
          have e : q = Q := by
            have := kn_exit (u := u1) (y0 := y0) i1.out (by omega) (by omega) (by rw [D.out]; exact i2)
            rw [D.out] at this
            exact this.symm
          have E := Lib.hid e
          clear e D i1 hq0 hc2 hM
          go_wp2_with fail
          go_meet
          exact ⟨congrArg (fun n : Nat => Value.int .u64 (n : Int)) E.out, rfl⟩
  case rest =>
    obtain ⟨rfl, rfl⟩ := hcut
    clear K hM
    have D2 : (U * 4294967296 + u1) / Y = Q := EE.out.1 ▸ D.out
    obtain ⟨m1, m2, m3⟩ := kn_left D2 (by omega) hs2
    obtain ⟨R, hR⟩ : ∃ R, U * 4294967296 + u1 - Q * Y = R := ⟨_, rfl⟩
    rw [hR] at m1 m3
    have hq1 := kn_digit (u := u1) b4 hU0
    rw [D2] at hq1
    have hsum : U * 4294967296 + u1 = Q * Y + R := by omega
    have EW := Lib.hid (kn_wrap hsum (by omega))
    have E1 := Lib.hid hsum
    clear hsum hR m1 m2 D2 D
    go_upto_block 2 with fail
    simp only [EW.out]
    clear EW
    have hR' : R < y1 * 4294967296 + y0 := EE.out.1.symm ▸ m3
    obtain ⟨k1, k2, k3, k4⟩ := kn_first (u := u0) b5 hR' b3 b1 b2
    have e1 : IntKind.u64.wrap ((R : Int).tdiv (y1 : Int)) = ((R / y1 : Nat) : Int) := by
      rw [Int.tdiv_eq_ediv_of_nonneg (by omega), ← Int.natCast_ediv]
      exact Mul64.wrapN _ (by omega)
    have e2 : IntKind.u64.wrap ((R : Int) - IntKind.u64.wrap (((R / y1 : Nat) : Int) * (y1 : Int))) = ((R % y1 : Nat) : Int) := by
      rw [Mul64.mulN, Mul64.wrapN _ (by omega), (by omega : (R : Int) - ((R / y1 * y1 : Nat) : Int) = ((R % y1 : Nat) : Int))]
      exact Mul64.wrapN _ (by omega)
    simp only [e1, e2]
    clear e1 e2
    generalize R / y1 = q at *
    generalize R % y1 = r at *
    obtain ⟨Q0, hQ0⟩ : ∃ Q0, (R * 4294967296 + u0) / (y1 * 4294967296 + y0) = Q0 := ⟨_, rfl⟩
    rw [hQ0] at k4
    have D := Lib.hid hQ0
    have hM := Lib.hid (fun (q r : Nat) (h : q * y1 + r = R) (hc : 4294967296 ≤ q ∨ 4294967296 * r + u0 < q * y0) => hQ0 ▸ kn_more h b5 (EE.out.1.symm ▸ m3) hc)
    have K := Lib.hid (And.intro k1 (And.intro k4 (And.intro k3 (by omega : r < 4294967296))))
    clear k1 k2 k3 k4 hQ0
    go_cut [18] from 102 to 120 (fun sq w' => sq = .int .u64 (Q0 : Nat) ∧ w' = wc)
    case first =>
      go_wp2_with fail
      go_loop [18, 16] (fun sq sr => ∃ q r : Nat, sq = .int .u64 q ∧ sr = .int .u64 r ∧ Hid (q * y1 + r = R) ∧ Q0 ≤ q ∧ q ≤ 4294967297 ∧ r < 4294967296) (fun sq _ => (intOf sq).toNat)
      case atStart => exact ⟨q, r, rfl, rfl, K.out.1, K.out.2.1, K.out.2.2.1, K.out.2.2.2⟩
      case round =>
        clear K
        obtain ⟨q, r, rfl, rfl, i1, i2, i3, i4⟩ := hrel
        by_cases hc1 : 4294967296 ≤ q
        · have hQ : Q0 < q := hM.out q r i1.out (.inl hc1)
          clear hM
          obtain ⟨k, rfl⟩ : ∃ k, q = k + 1 := ⟨q - 1, by omega⟩
          have hc1' : (4294967296 : Int) ≤ (k : Int) + 1 := by omega
          have w1 : IntKind.u64.wrap (k : Int) = (k : Int) := Mul64.wrapN _ (by omega)
          have w2 : IntKind.u64.wrap ((r : Int) + (y1 : Int)) = (r : Int) + (y1 : Int) := by
            have := Mul64.wrapN (r + y1) (by omega)
            rw [Int.natCast_add] at this
            exact this
          have j1 : k * y1 + (r + y1) = R := by
            have := i1.out
            rw [Nat.add_mul, Nat.one_mul] at this
            omega
          have j2 : Q0 ≤ k := by omega
          by_cases hr : 4294967296 ≤ r + y1
          · have hr' : (4294967296 : Int) ≤ (r : Int) + y1 := by omega
            have e : k = Q0 := by
              have := kn_exit (u := u0) (y0 := y0) j1 (kn_break (by omega) b3 hr) (by omega) (by rw [D.out]; exact j2)
              rw [D.out] at this
              exact this.symm
            have E := Lib.hid e
            clear e D i1 i2 j1 hQ
            go_wp2_with fail
            go_meet
            exact ⟨congrArg (fun n : Nat => Value.int .u64 (n : Int)) E.out, rfl⟩
          · have hr' : ¬ (4294967296 : Int) ≤ (r : Int) + y1 := by omega
            have J1 := Lib.hid j1
            clear j1
            go_wp2_with fail
            go_round
            case rel => exact ⟨k, r + y1, rfl, (by first | rfl | rw [Int.natCast_add]), J1.out, j2, by omega, by omega⟩
            case measure => simp [intOf] <;> omega
        · by_cases hc2 : 4294967296 * r + u0 < q * y0
          · have hQ : Q0 < q := hM.out q r i1.out (.inr hc2)
            clear hM
            obtain ⟨k, rfl⟩ : ∃ k, q = k + 1 := ⟨q - 1, by omega⟩
            have hc1' : ¬ (4294967296 : Int) ≤ (k : Int) + 1 := by omega
            have hq0 : (k + 1) * y0 < 18446744073709551616 := by
              have h1 : (k + 1) * y0 ≤ 4294967295 * y0 := Nat.mul_le_mul_right _ (by omega)
              omega
            have w3 : IntKind.u64.wrap (((k : Int) + 1) * (y0 : Int)) = ((k : Int) + 1) * (y0 : Int) := by
              have := Mul64.wrapN ((k + 1) * y0) hq0
              rw [Int.natCast_mul, Int.natCast_add] at this
              exact this
            have w4 : IntKind.u64.wrap (4294967296 * (r : Int)) = 4294967296 * (r : Int) := by
              have := Mul64.wrapN (4294967296 * r) (by omega)
              rw [Int.natCast_mul] at this
              exact this
            have w5 : IntKind.u64.wrap (4294967296 * (r : Int) + (u0 : Int)) = 4294967296 * (r : Int) + (u0 : Int) := by
              have := Mul64.wrapN (4294967296 * r + u0) (by omega)
              rw [Int.natCast_add, Int.natCast_mul] at this
              exact this
            have hc2' : 4294967296 * (r : Int) + (u0 : Int) < ((k : Int) + 1) * (y0 : Int) := by
              have : ((4294967296 * r + u0 : Nat) : Int) < (((k + 1) * y0 : Nat) : Int) := by omega
              rw [Int.natCast_add, Int.natCast_mul, Int.natCast_mul, Int.natCast_add] at this
              exact this
            clear hc2 hq0
            have w1 : IntKind.u64.wrap (k : Int) = (k : Int) := Mul64.wrapN _ (by omega)
            have w2 : IntKind.u64.wrap ((r : Int) + (y1 : Int)) = (r : Int) + (y1 : Int) := by
              have := Mul64.wrapN (r + y1) (by omega)
              rw [Int.natCast_add] at this
              exact this
            have j1 : k * y1 + (r + y1) = R := by
              have := i1.out
              rw [Nat.add_mul, Nat.one_mul] at this
              omega
            have j2 : Q0 ≤ k := by omega
            by_cases hr : 4294967296 ≤ r + y1
            · have hr' : (4294967296 : Int) ≤ (r : Int) + y1 := by omega
              have e : k = Q0 := by
                have := kn_exit (u := u0) (y0 := y0) j1 (kn_break (by omega) b3 hr) (by omega) (by rw [D.out]; exact j2)
                rw [D.out] at this
                exact this.symm
              have E := Lib.hid e
              clear e D i1 i2 j1 hQ
              go_wp2_with fail
              go_meet
              exact ⟨congrArg (fun n : Nat => Value.int .u64 (n : Int)) E.out, rfl⟩
            · have hr' : ¬ (4294967296 : Int) ≤ (r : Int) + y1 := by omega
              have J1 := Lib.hid j1
              clear j1
              go_wp2_with fail
              go_round
              case rel => exact ⟨k, r + y1, rfl, (by first | rfl | rw [Int.natCast_add]), J1.out, j2, by omega, by omega⟩
              case measure => simp [intOf] <;> omega
          · have hq0 : q * y0 < 18446744073709551616 := by
              have h1 : q * y0 ≤ 4294967295 * y0 := Nat.mul_le_mul_right _ (by omega)
              omega
            have hc1' : ¬ (4294967296 : Int) ≤ (q : Int) := by omega
            have w3 : IntKind.u64.wrap ((q : Int) * (y0 : Int)) = (q : Int) * (y0 : Int) := by
              have := Mul64.wrapN (q * y0) hq0
              rw [Int.natCast_mul] at this
              exact this
            have w4 : IntKind.u64.wrap (4294967296 * (r : Int)) = 4294967296 * (r : Int) := by
              have := Mul64.wrapN (4294967296 * r) (by omega)
              rw [Int.natCast_mul] at this
              exact this
            have w5 : IntKind.u64.wrap (4294967296 * (r : Int) + (u0 : Int)) = 4294967296 * (r : Int) + (u0 : Int) := by
              have := Mul64.wrapN (4294967296 * r + u0) (by omega)
              rw [Int.natCast_add, Int.natCast_mul] at this
              exact this
            have hc2' : ¬ 4294967296 * (r : Int) + (u0 : Int) < (q : Int) * (y0 : Int) := by
              have : ((q * y0 : Nat) : Int) ≤ ((4294967296 * r + u0 : Nat) : Int) := by omega
              rw [Int.natCast_add, Int.natCast_mul, Int.natCast_mul] at this
              exact Int.not_lt.2 this
            have e : q = Q0 := by
              have := kn_exit (u := u0) (y0 := y0) i1.out (by omega) (by omega) (by rw [D.out]; exact i2)
              rw [D.out] at this
              exact this.symm
            have E := Lib.hid e
            clear e D i1 hq0 hc2 hM
            go_wp2_with fail
            go_meet
            exact ⟨congrArg (fun n : Nat => Value.int .u64 (n : Int)) E.out, rfl⟩
    case rest =>
      obtain ⟨rfl, rfl⟩ := hcut
      have D3 : (R * 4294967296 + u0) / Y = Q0 := EE.out.1 ▸ D.out
      obtain ⟨p1, p2, p3⟩ := kn_left D3 (by omega) hs2
      obtain ⟨T, hT⟩ : ∃ T, R * 4294967296 + u0 - Q0 * Y = T := ⟨_, rfl⟩
      rw [hT] at p1 p3
      have hq0 := kn_digit (u := u0) b5 m3
      rw [D3] at hq0
      have hsum : R * 4294967296 + u0 = Q0 * Y + T := by omega
      have EW := Lib.hid (kn_wrap hsum (by omega))
      have E0 := Lib.hid hsum
      clear hsum hT p1 p2 D3 D
      go_wp2_with fail
      go_ret2
      obtain ⟨c1, c2, c3, c4, c5, c6⟩ := EE.out
      have hN : (hi * 18446744073709551616 + lo) * 2 ^ s = U * 18446744073709551616 + (u1 * 4294967296 + u0) := by rw [c6, c2]
      have hb := kn_both (Nat.two_pow_pos s) (by omega : 0 < y) hN (by rw [c3]; exact E1.out) (by rw [c3]; exact E0.out) (by rw [c3]; exact p3)
      have f1 : (Q : Int) * 4294967296 + Q0 = (((hi * 18446744073709551616 + lo) / y : Nat) : Int) := by rw [hb.1]; simp
      have f2 : IntKind.u64.wrap (IntKind.u64.wrap (IntKind.u64.wrap ((R : Int) * 4294967296) + (u0 : Int)) - IntKind.u64.wrap ((Q0 : Int) * (Y : Int))) / 2 ^ s = (((hi * 18446744073709551616 + lo) % y : Nat) : Int) := by rw [EW.out, hb.2]; simp
      exact ⟨ret_u64 f1 f2, by first | exact Below.refl _ _ | exact below_drewN (Below.refl _ _) _⟩
end Go.Proofs.Ytioecjoddgpjbaa
