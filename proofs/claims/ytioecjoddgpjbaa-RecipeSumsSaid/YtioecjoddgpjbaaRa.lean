/-
  Chapter 4: Check, Norm, Same.
-/
import Derived.Test.YtioecjoddgpjbaaTz
namespace Go.Proofs.Ytioecjoddgpjbaa
open Go.RowKit

theorem below_drew {B : Nat} {a w : World} (h : Below B a w) : Below B a w.drew := ⟨h.os, h.tape, h.output, h.size, h.block⟩

/-- A rate that may be. -/
def okR (n d : Int) : Bool := decide (1 ≤ n) && decide (1 ≤ d) && decide (n ≤ 1000000000000) && decide (d ≤ 1000000000000)
theorem okR_iff (n d : Int) : okR n d = true ↔ 1 ≤ n ∧ 1 ≤ d ∧ n ≤ 1000000000000 ∧ d ≤ 1000000000000 := by
  unfold okR
  simp [and_assoc]
def chkI (n d : Int) : Int := if okR n d = true then 0 else 11
theorem chkI_in {n d : Int} (h : 1 ≤ n ∧ 1 ≤ d ∧ n ≤ 1000000000000 ∧ d ≤ 1000000000000) : chkI n d = 0 := if_pos ((okR_iff n d).2 h)
theorem chkI_out {n d : Int} (h : ¬ (1 ≤ n ∧ 1 ≤ d ∧ n ≤ 1000000000000 ∧ d ≤ 1000000000000)) : chkI n d = 11 := if_neg fun h' => h ((okR_iff n d).1 h')
def gcdI (n d : Int) : Int := (Nat.gcd n.toNat d.toNat : Nat)
/-- The lowest terms of a rate that may be. -/
def lowI (n d : Int) : Int × Int := (n / gcdI n d, d / gcdI n d)
def normI (n d : Int) : Int × Int := if okR n d = true then lowI n d else (0, 0)

set_option maxHeartbeats 1000000 in
theorem check_any (n d : Int) (w : World) :
    Calls Try.prog 60 #[.agg #[.int .i64 n, .int .i64 d]] w fun e w' => e = .returned (.int .i64 (chkI n d)) ∧ Below w.heap.size w w' := by
  obtain ⟨q, hq⟩ : ∃ q, chkI n d = q := ⟨_, rfl⟩
  have h1 := fun h => hq ▸ chkI_in (n := n) (d := d) h
  have h2 := fun h => hq ▸ chkI_out (n := n) (d := d) h
  rw [hq]
  have H := Lib.hid (And.intro h1 h2)
  clear h1 h2 hq
  have B := (Below.refl w.heap.size w).alloc (Nat.le_refl _) (.cells #[.int .i64 n, .int .i64 d] 29)
  rcases (by omega : n < d ∨ n = d ∨ d < n) with h | rfl | h
  all_goals
    go_enter Try.func60, Try.ntmps60
    go_wp2
    all_goals
      go_ret
      first
        | exact ⟨congrArg (fun z => Ending.returned (.int .i64 z)) (H.out.1 (by omega)).symm, B⟩
        | exact ⟨congrArg (fun z => Ending.returned (.int .i64 z)) (H.out.2 (by omega)).symm, B⟩

/-- Two rates, held against each other. -/
theorem req (a b c d : Int) (w : World) : (Op.equalIn 10000 29 (.agg #[.int .i64 a, .int .i64 b]) (.agg #[.int .i64 c, .int .i64 d])).run Try.prog w = .ok ((a == c) && (b == d)) w := by
  have u3 := Try.underlying3
  have a3 := Try.isAgg3
  have z3 := Try.sizeOf3
  have hS : Try.prog.underlying 29 = some (.struct (Try.prog.fieldsOf 29)) := by kernel_rfl
  have hp : Try.prog.stoodInHeld 29 = false := by kernel_rfl
  rw [show (10000 : Nat) = 9999 + 1 from rfl, run_equalIn_agg w 9999 _ _ _ hS hp]
  simp only [Program.fieldsOf, Try.underlying29]
  go_simp
  by_cases h1 : a = c <;> by_cases h2 : b = d <;> simp [h1, h2]

theorem gcdI_spec {n d : Int} (h1 : 1 ≤ n) (h2 : 1 ≤ d) : 1 ≤ gcdI n d ∧ gcdI n d ≤ n ∧ gcdI n d ≤ d ∧ 1 ≤ n / gcdI n d ∧ 1 ≤ d / gcdI n d ∧ n / gcdI n d ≤ n ∧ d / gcdI n d ≤ d := by
  unfold gcdI
  have g1 := Nat.gcd_pos_of_pos_left d.toNat (show 0 < n.toNat by omega)
  have g2 := Nat.gcd_le_left d.toNat (show 0 < n.toNat by omega)
  have g3 := Nat.gcd_le_right n.toNat (show 0 < d.toNat by omega)
  generalize Nat.gcd n.toNat d.toNat = g at *
  have e1 : (1 : Int) ≤ (g : Int) := by omega
  refine ⟨e1, by omega, by omega, ?_, ?_, Int.ediv_le_self _ (by omega), Int.ediv_le_self _ (by omega)⟩
  · rw [Int.le_ediv_iff_mul_le (by omega)]
    omega
  · rw [Int.le_ediv_iff_mul_le (by omega)]
    omega

end Go.Proofs.Ytioecjoddgpjbaa
