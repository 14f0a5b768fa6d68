/-
  The contract of the reference's SameInts: two lists of ints are held against each other.
-/
import Derived.Test.YtgilmpakdohijaaDoorK
namespace Go.Proofs.YtgilmpakdohijaaDoor
open Go.RowKit

theorem take_eq_succ {xs ys : List Int} {k : Nat} (hx : k < xs.length) (hy : k < ys.length) (h : xs.take k = ys.take k) (e : xs[k] = ys[k]) : xs.take (k + 1) = ys.take (k + 1) := by
  rw [List.take_succ_eq_append_getElem hx, List.take_succ_eq_append_getElem hy, h, e]
theorem ne_of_getElem {xs ys : List Int} {k : Nat} (hx : k < xs.length) (hy : k < ys.length) (e : xs[k] ≠ ys[k]) : ¬ xs = ys := by
  rintro rfl
  exact e rfl

set_option maxHeartbeats 400000 in
theorem sameInts_any (A : Option Addr) (c : Nat) (xs : List Int) (A' : Option Addr) (c' : Nat) (ys : List Int) (w : World) (hm : xs.length ≤ maxLen) (hm' : ys.length ≤ maxLen) (hr : RowAt w A (ivals xs)) (hr' : RowAt w A' (ivals ys)) :
    Calls Tryd.prog 13 #[.slice A xs.length c, .slice A' ys.length c'] w fun e w' => e = .returned (.bool (decide (xs = ys))) ∧ ∃ n, w.drewN n = w' := by
  unfold maxLen at hm hm'
  by_cases hl : xs.length = ys.length
  · generalize hn : xs.length = n at hm hl
    have Hn := Lib.hid hn
    have Hn' := Lib.hid hl
    clear hn hl
    rw [← Hn'.out]
    go_enter Tryd.func13, Tryd.ntmps13
    go_wp2
    go_loopw [5] (fun i wr => ∃ k m : Nat, k ≤ n ∧ i = .int .i64 k ∧ wr = w.drewN m ∧ Hid (xs.take k = ys.take k)) (fun i _ => n - (intOf i).toNat)
    case atStart => exact ⟨0, 0, by omega, rfl, rfl, rfl⟩
    case round =>
      obtain ⟨k, m, hk, rfl, rfl, ht⟩ := hrel
      by_cases hkn : k < n
      · have hkx : k < xs.length := by rw [Hn.out]; exact hkn
        have hky : k < ys.length := by rw [← Hn'.out]; exact hkn
        obtain ⟨b, off, rfl, _, hc⟩ := hr.iget (by omega)
        obtain ⟨b', off', rfl, _, hc'⟩ := hr'.iget (by omega)
        have h1 := hc k hkx
        have h2 := hc' k hky
        clear hc hc' hr hr'
        by_cases he : xs[k] = ys[k]
        · have Ht := Lib.hid (take_eq_succ hkx hky ht.out he)
          generalize xs[k] = x at *
          generalize ys[k] = y at *
          subst he
          clear ht
          have hlt : (k : Int) < (n : Int) := by omega
          go_wp2
          go_quiet (fail)
          go_wp2
          go_roundw
          case rel => exact ⟨k + 1, _, by omega, by go_num, rfl, Ht.out⟩
          case measure => simp [intOf]; omega
        · have Hf := Lib.hid (ne_of_getElem hkx hky he)
          generalize xs[k] = x at *
          generalize ys[k] = y at *
          have hlt : (k : Int) < (n : Int) := by omega
          clear ht
          go_wp2
          go_quiet (fail)
          go_wp2
          go_ret
          exact ⟨by rw [decide_eq_false Hf.out]; rfl, _, (World.drewN_drewN _ _ _).symm⟩
      · obtain rfl : k = n := by omega
        have Hf : Hid (xs = ys) := by
          have h := ht.out
          rw [List.take_of_length_le (by rw [Hn.out]; omega), List.take_of_length_le (by rw [← Hn'.out]; omega)] at h
          exact h
        clear ht
        go_wp2
        go_ret
        exact ⟨by rw [decide_eq_true Hf.out]; rfl, _, rfl⟩
  · have Hf := Lib.hid (show ¬ xs = ys from fun e => hl (by rw [e]))
    have hl' : ((xs.length : Int) != (ys.length : Int)) = true := by rw [bne_iff_ne]; omega
    go_enter Tryd.func13, Tryd.ntmps13
    go_wp2
    go_ret
    exact ⟨by rw [decide_eq_false Hf.out]; rfl, 0, rfl⟩
end Go.Proofs.YtgilmpakdohijaaDoor
