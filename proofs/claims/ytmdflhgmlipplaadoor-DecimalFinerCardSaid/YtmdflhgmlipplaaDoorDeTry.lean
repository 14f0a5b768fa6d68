/-
  Chapter 6: may, Tens, Rescale, in the program and in the document.
-/
import Derived.Test.YtmdflhgmlipplaaDoorDeP
namespace Go.Proofs.YtmdflhgmlipplaaDoor
open Go.RowKit

/-- May there be so many decimals? -/
def mayD (d : Int) : Bool := decide (0 ≤ d) && decide (d ≤ 6)
theorem mayD_iff {d : Int} : mayD d = true ↔ 0 ≤ d ∧ d ≤ 6 := by unfold mayD; simp
theorem dmay_any (d : Int) (w : World) : Calls Tryd.prog 20 #[.int .i64 d] w fun e w' => e = .returned (.bool (mayD d)) ∧ w = w' := by
  unfold mayD
  by_cases h : 0 ≤ d
  · rw [decide_eq_true h]
    go_enter Tryd.func20, Tryd.ntmps20
    go_wp2
    go_ret
    exact ⟨rfl, rfl⟩
  · have h1 : d < 0 := by omega
    rw [decide_eq_false h]
    clear h
    go_enter Tryd.func20, Tryd.ntmps20
    go_wp2
    go_ret
    exact ⟨rfl, rfl⟩
theorem rmay_any (d : Int) (w : World) : Calls Tryd.prog 23 #[.int .i64 d] w fun e w' => e = .returned (.bool (mayD d)) ∧ w = w' := by
  unfold mayD
  by_cases h : 0 ≤ d
  · rw [decide_eq_true h]
    go_enter Tryd.func23, Tryd.ntmps23
    go_wp2
    go_ret
    exact ⟨rfl, rfl⟩
  · have h1 : d < 0 := by omega
    rw [decide_eq_false h]
    clear h
    go_enter Tryd.func23, Tryd.ntmps23
    go_wp2
    go_ret
    exact ⟨rfl, rfl⟩

theorem ten_le6 {k : Nat} (h : k ≤ 6) : 1 ≤ ten k ∧ ten k ≤ 1000000 := by
  refine ⟨ten_pos k, ?_⟩
  have := ten_mono h
  simpa [ten] using this
set_option maxHeartbeats 400000 in
theorem dtens_any (n : Nat) (w : World) (hn : n ≤ 6) : Calls Tryd.prog 26 #[.int .i64 n] w fun e w' => e = .returned (.int .i64 (ten n)) ∧ w = w' := by
  go_enter Tryd.func26, Tryd.ntmps26
  go_wp2
  go_loop [3, 5] (fun t i => ∃ k : Nat, k ≤ n ∧ i = .int .i64 k ∧ t = .int .i64 (ten k)) (fun _ i => n - (intOf i).toNat)
  case atStart => exact ⟨0, by omega, rfl, rfl⟩
  case round =>
    obtain ⟨k, hk, rfl, rfl⟩ := hrel
    by_cases hlt : k < n
    · have hb := ten_le6 (k := k) (by omega)
      have hs := Lib.hid (show ten (k + 1) = ten k * 10 by rw [ten, Int.mul_comm])
      generalize ten k = t at *
      go_wp2
      go_round
      case rel => exact ⟨k + 1, by omega, by go_num, by rw [hs.out]⟩
      case measure => simp [intOf]; omega
    · obtain rfl : k = n := by omega
      go_wp2
      go_ret
      exact ⟨rfl, rfl⟩
set_option maxHeartbeats 400000 in
theorem rtens_any (n : Nat) (w : World) (hn : n ≤ 6) : Calls Tryd.prog 15 #[.int .i64 n] w fun e w' => e = .returned (.int .i64 (ten n)) ∧ w = w' := by
  go_enter Tryd.func15, Tryd.ntmps15
  go_wp2
  go_loop [3, 4] (fun t i => ∃ k : Nat, k ≤ n ∧ i = .int .i64 k ∧ t = .int .i64 (ten k)) (fun _ i => n - (intOf i).toNat)
  case atStart => exact ⟨0, by omega, rfl, rfl⟩
  case round =>
    obtain ⟨k, hk, rfl, rfl⟩ := hrel
    by_cases hlt : k < n
    · have hb := ten_le6 (k := k) (by omega)
      have hs := Lib.hid (show ten (k + 1) = ten k * 10 by rw [ten, Int.mul_comm])
      generalize ten k = t at *
      go_wp2
      go_round
      case rel => exact ⟨k + 1, by omega, by go_num, by rw [hs.out]⟩
      case measure => simp [intOf]; omega
    · obtain rfl : k = n := by omega
      go_wp2
      go_ret
      exact ⟨rfl, rfl⟩

end Go.Proofs.YtmdflhgmlipplaaDoor
