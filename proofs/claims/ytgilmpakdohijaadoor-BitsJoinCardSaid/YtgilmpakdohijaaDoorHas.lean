/-
  The contract of the reference's Has: is a number in a list?
-/
import Derived.Test.YtgilmpakdohijaaDoorFirst
namespace Go.Proofs.YtgilmpakdohijaaDoor
open Go.RowKit

set_option maxHeartbeats 400000 in
theorem has_any {A : Option Addr} {c : Nat} {l : List Int} {n : Int} {w : World} (hm : l.length ≤ maxLen) (hr : RowAt w A (ivals l)) :
    Calls Tryd.prog 14 #[.slice A l.length c, .int .i64 n] w fun e w' => e = .returned (.bool (decide (n ∈ l))) ∧ w = w' := by
  unfold maxLen at hm
  have M := Lib.hid (firstOf_mem (v := n) (l := l))
  go_enter Tryd.func14, Tryd.ntmps14
  go_wp2
  go_loop [5] (fun i => ∃ k : Nat, k ≤ l.length ∧ i = .int .i64 k ∧ Hid (k ≤ firstOf (fun x => x == n) l)) (fun i => l.length - (intOf i).toNat)
  case atStart => exact ⟨0, by omega, rfl, Nat.zero_le _⟩
  case round =>
    obtain ⟨k, hk, rfl, hf⟩ := hrel
    by_cases hkn : k < l.length
    · obtain ⟨b, off, rfl, _, hc⟩ := hr.iget (by omega)
      have h1 := hc k hkn
      clear hc
      by_cases hx : l[k] = n
      · have H := Lib.hid (firstOf_hit hkn hf.out (by simp [hx]))
        have hb : (l[k] == n) = true := by simpa using hx
        generalize l[k] = x at *
        clear hf hx
        go_wp2
        go_ret
        exact ⟨by rw [decide_eq_true (M.out.1 (by have := H.out; omega))]; rfl, rfl⟩
      · have hb : (l[k] == n) = false := by simpa using hx
        have H := Lib.hid (firstOf_step hkn hf.out hb)
        generalize l[k] = x at *
        clear hf hx
        go_wp2
        go_round
        case rel => exact ⟨k + 1, by omega, by go_num, H.out⟩
        case measure => simp [intOf]; omega
    · obtain rfl : k = l.length := by omega
      have H := Lib.hid (firstOf_end hf.out)
      clear hf
      go_wp2
      go_ret
      exact ⟨by rw [decide_eq_false (fun h => by have := M.out.2 h; have := H.out; omega)]; rfl, rfl⟩
end Go.Proofs.YtgilmpakdohijaaDoor
