/-
  The reference of chapter 5: Check.
-/
import Derived.Test.YtkdpiikfiodopaaDoorSh
namespace Go.Proofs.YtkdpiikfiodopaaDoor
open Go.RowKit

theorem r5check_any (s : Int) (w : World) : Calls Tryd.prog 60 #[.int .i64 s] w fun e w' => e = .returned (.int .i64 (chkS s)) ∧ w = w' := by
  by_cases h1 : s < 0
  · rw [show chkS s = 12 from if_neg (by omega)]
    go_enter Tryd.func60, Tryd.ntmps60
    go_wp2
    go_ret
    exact ⟨rfl, rfl⟩
  · by_cases h2 : 10000 < s
    · rw [show chkS s = 12 from if_neg (by omega)]
      go_enter Tryd.func60, Tryd.ntmps60
      go_wp2
      go_ret
      exact ⟨rfl, rfl⟩
    · rw [show chkS s = 0 from if_pos (by omega)]
      go_enter Tryd.func60, Tryd.ntmps60
      go_wp2
      go_ret
      exact ⟨rfl, rfl⟩
end Go.Proofs.YtkdpiikfiodopaaDoor
