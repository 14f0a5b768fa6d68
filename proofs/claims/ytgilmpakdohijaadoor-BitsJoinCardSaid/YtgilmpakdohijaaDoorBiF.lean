/-
  bits: the document's Drop, Put of a number out of range, or of one that is there.
-/
import Derived.Test.YtgilmpakdohijaaDoorBiM
import Derived.Test.YtgilmpakdohijaaDoorHas
namespace Go.Proofs.YtgilmpakdohijaaDoor
open Go.RowKit

section
variable {A : Option Addr} {c : Nat} {l : List Int} {w : World}
set_option maxHeartbeats 1000000 in
theorem rdrop_out (n : Int) (hin : n < 0 ∨ 65536 ≤ n) : Calls Tryd.prog 31 #[.slice A l.length c, .int .i64 n] w fun e w' => e = .returned (.tuple #[.slice A l.length c, .int .i64 2]) ∧ w = w' := by
  by_cases h1 : n < 0
  · have hd : decide (n < 0) = true := decide_eq_true h1
    clear hin h1
    go_enter Tryd.func31, Tryd.ntmps31
    go_wp2
    go_ret2
    exact ⟨rfl, rfl⟩
  · have hd : decide (n < 0) = false := decide_eq_false h1
    have hd2 : decide (65535 < n) = true := decide_eq_true (by omega)
    clear hin h1
    go_enter Tryd.func31, Tryd.ntmps31
    go_wp2
    go_ret2
    exact ⟨rfl, rfl⟩
set_option maxHeartbeats 1000000 in
theorem rput_out (n : Int) (hin : n < 0 ∨ 65536 ≤ n) : Calls Tryd.prog 30 #[.slice A l.length c, .int .i64 n] w fun e w' => e = .returned (.tuple #[.slice A l.length c, .int .i64 2]) ∧ w = w' := by
  by_cases h1 : n < 0
  · have hd : decide (n < 0) = true := decide_eq_true h1
    clear hin h1
    go_enter Tryd.func30, Tryd.ntmps30
    go_wp2
    go_ret2
    exact ⟨rfl, rfl⟩
  · have hd : decide (n < 0) = false := decide_eq_false h1
    have hd2 : decide (65535 < n) = true := decide_eq_true (by omega)
    clear hin h1
    go_enter Tryd.func30, Tryd.ntmps30
    go_wp2
    go_ret2
    exact ⟨rfl, rfl⟩
set_option maxHeartbeats 1000000 in
theorem rput_has (n : Int) (hl : l.length ≤ 1000000) (hr : RowAt w A (ivals l)) (hin : ¬ (n < 0 ∨ 65536 ≤ n)) (hm : n ∈ l) : Calls Tryd.prog 30 #[.slice A l.length c, .int .i64 n] w fun e w' => e = .returned (.tuple #[.slice A l.length c, .int .i64 35]) ∧ w = w' := by
  have HA := has_any (c := c) (n := n) (by unfold maxLen; omega) hr
  rw [decide_eq_true hm] at HA
  replace HA := Lib.hid HA
  have hd : decide (n < 0) = false := decide_eq_false (by omega)
  have hd2 : decide (65535 < n) = false := decide_eq_false (by omega)
  clear hin hm
  go_enter Tryd.func30, Tryd.ntmps30
  go_wp2_with fail
  refine HA.out.mono ?_
  rintro e _ ⟨rfl, rfl⟩
  go_wp2
  go_ret2
  exact ⟨rfl, rfl⟩
end
end Go.Proofs.YtgilmpakdohijaaDoor
