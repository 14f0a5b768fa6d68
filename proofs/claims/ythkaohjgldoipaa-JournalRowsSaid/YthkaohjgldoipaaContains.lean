/-
  The library's slices.Contains and slices.Clone, of ints.
-/
import Derived.Test.YthkaohjgldoipaaHas
import Derived.Lib.SliceRun
namespace Go.Proofs.Ythkaohjgldoipaa
open Go.RowKit

set_option maxHeartbeats 400000 in
theorem sindex_any {A : Option Addr} {c : Nat} {l : List Int} {n : Int} {w : World} (hm : l.length ≤ maxLen) (hr : RowAt w A (ivals l)) :
    Calls Try.prog 83 #[.slice A l.length c, .int .i64 n] w fun e w' => e = .returned (.int .i64 (idxI (firstOf (fun x => x == n) l) l.length)) ∧ w = w' := by
  unfold maxLen at hm
  go_enter Try.func83, Try.ntmps83
  go_wp2
  go_loop [8] (fun i => ∃ k : Nat, k ≤ l.length ∧ i = .int .i64 k ∧ Hid (k ≤ firstOf (fun x => x == n) l)) (fun i => l.length - (intOf i).toNat)
  case atStart => exact ⟨0, by omega, rfl, Nat.zero_le _⟩
  case round =>
    obtain ⟨k, hk, rfl, hf⟩ := hrel
    by_cases hkn : k < l.length
    · obtain ⟨b, off, rfl, _, hc⟩ := hr.iget (by omega)
      have h1 := hc k hkn
      clear hc
      by_cases hx : l[k] = n
      · have H := Lib.hid (firstOf_hit (p := fun x => x == n) hkn hf.out (by simp [hx]))
        have hb : (n == l[k]) = true := by simpa using hx.symm
        generalize l[k] = x at *
        clear hf hx
        go_wp2
        go_ret
        exact ⟨by rw [H.out, idxI_hit hkn]; try rfl, rfl⟩
      · have H := Lib.hid (firstOf_step (p := fun x => x == n) hkn hf.out (by simpa using hx))
        have hb : (n == l[k]) = false := by simpa using fun h => hx h.symm
        generalize l[k] = x at *
        clear hf hx
        go_wp2
        go_round
        case rel => exact ⟨k + 1, by omega, by go_num, H.out⟩
        case measure => simp [intOf]; omega
    · obtain rfl : k = l.length := by omega
      have H := Lib.hid (firstOf_end hf.out)
      clear hf
      go_wp2
      go_ret
      exact ⟨by rw [H.out, idxI_none]; try rfl, rfl⟩

theorem scontains_any {A : Option Addr} {c : Nat} {l : List Int} {n : Int} {w : World} (hm : l.length ≤ maxLen) (hr : RowAt w A (ivals l)) :
    Calls Try.prog 73 #[.slice A l.length c, .int .i64 n] w fun e w' => e = .returned (.bool (decide (n ∈ l))) ∧ w = w' := by
  have C := Lib.hid (fun w (h : RowAt w A (ivals l)) => sindex_any (c := c) (n := n) hm h)
  have M := firstOf_mem (v := n) (l := l)
  by_cases h : n ∈ l
  · rw [decide_eq_true h]
    have h1 := M.2 h
    rw [idxI_hit h1] at C
    generalize firstOf (fun x => x == n) l = k at *
    clear M h
    go_enter Try.func73, Try.ntmps73
    go_wp2_with fail
    refine (C.out _ hr).mono ?_
    rintro e _ ⟨rfl, rfl⟩
    go_wp2
    go_ret
    exact ⟨rfl, rfl⟩
  · rw [decide_eq_false h]
    have h1 : ¬ firstOf (fun x => x == n) l < l.length := fun hh => h (M.1 hh)
    unfold idxI at C
    rw [if_neg h1] at C
    clear M h h1
    go_enter Try.func73, Try.ntmps73
    go_wp2_with fail
    refine (C.out _ hr).mono ?_
    rintro e _ ⟨rfl, rfl⟩
    go_wp2
    go_ret
    exact ⟨rfl, rfl⟩

theorem Try.infoInt' : (Try.prog.info? 3).map (fun i => (i.zero, i.size, i.bytes)) = some (some (.int .i64 0), 1, 8) := by kernel_rfl

/-- A list in a row of the call's own, as a result. -/
def NewRow (zs : List Int) (w : World) (e : Ending) (w' : World) : Prop :=
  ∃ A c, e = .returned (.slice A zs.length c) ∧ zs.length ≤ c ∧ c ≤ maxLen ∧ w'.ownsRow w.heap.size 3 1 (.slice A zs.length c) zs.length (ivals zs) ∧ Below w.heap.size w w'

end Go.Proofs.Ythkaohjgldoipaa
