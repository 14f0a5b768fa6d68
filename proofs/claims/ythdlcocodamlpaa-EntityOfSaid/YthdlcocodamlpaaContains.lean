/-
  The library's slices.Contains and slices.Clone, of ints.
-/
import Derived.Test.YthdlcocodamlpaaHas
import Derived.Lib.SliceRun
namespace Go.Proofs.Ythdlcocodamlpaa
open Go.RowKit

set_option maxHeartbeats 400000 in
theorem sindex_any {A : Option Addr} {c : Nat} {l : List Int} {n : Int} {w : World} (hm : l.length ≤ maxLen) (hr : RowAt w A (ivals l)) :
    Calls Try.prog 23 #[.slice A l.length c, .int .i64 n] w fun e w' => e = .returned (.int .i64 (idxI (firstOf (fun x => x == n) l) l.length)) ∧ w = w' := by
  unfold maxLen at hm
  go_enter Try.func23, Try.ntmps23
  go_wp2
  go_loop [8] (fun i => ∃ k : Nat, k ≤ l.length ∧ i = .int .i64 k ∧ Hid (k ≤ firstOf (fun x => x == n) l)) (fun i => l.length - (intOf i).toNat)
  case atStart => exact ⟨0, by omega, rfl, Nat.zero_le _⟩
  case round =>
    obtain ⟨k, hk, rfl, hf⟩ := hrel
    by_cases hkn : k < l.length
    · obtain ⟨b, off, rfl, _, hc⟩ := hr.iget (by omega)
      have h1 := hc k hkn
      clear hc
      by_cases hx : l[k] = n
      · have H := Lib.hid (firstOf_hit (p := fun x => x == n) hkn hf.out (by simp [hx]))
        have hb : (n == l[k]) = true := by simpa using hx.symm
        generalize l[k] = x at *
        clear hf hx
        go_wp2
        go_ret
        exact ⟨by rw [H.out, idxI_hit hkn]; try rfl, rfl⟩
      · have H := Lib.hid (firstOf_step (p := fun x => x == n) hkn hf.out (by simpa using hx))
        have hb : (n == l[k]) = false := by simpa using fun h => hx h.symm
        generalize l[k] = x at *
        clear hf hx
        go_wp2
        go_round
        case rel => exact ⟨k + 1, by omega, by go_num, H.out⟩
        case measure => simp [intOf]; omega
    · obtain rfl : k = l.length := by omega
      have H := Lib.hid (firstOf_end hf.out)
      clear hf
      go_wp2
      go_ret
      exact ⟨by rw [H.out, idxI_none]; try rfl, rfl⟩

theorem scontains_any {A : Option Addr} {c : Nat} {l : List Int} {n : Int} {w : World} (hm : l.length ≤ maxLen) (hr : RowAt w A (ivals l)) :
    Calls Try.prog 22 #[.slice A l.length c, .int .i64 n] w fun e w' => e = .returned (.bool (decide (n ∈ l))) ∧ w = w' := by
  have C := Lib.hid (fun w (h : RowAt w A (ivals l)) => sindex_any (c := c) (n := n) hm h)
  have M := firstOf_mem (v := n) (l := l)
  by_cases h : n ∈ l
  · rw [decide_eq_true h]
    have h1 := M.2 h
    rw [idxI_hit h1] at C
    generalize firstOf (fun x => x == n) l = k at *
    clear M h
    go_enter Try.func22, Try.ntmps22
    go_wp2_with fail
    refine (C.out _ hr).mono ?_
    rintro e _ ⟨rfl, rfl⟩
    go_wp2
    go_ret
    exact ⟨rfl, rfl⟩
  · rw [decide_eq_false h]
    have h1 : ¬ firstOf (fun x => x == n) l < l.length := fun hh => h (M.1 hh)
    unfold idxI at C
    rw [if_neg h1] at C
    clear M h h1
    go_enter Try.func22, Try.ntmps22
    go_wp2_with fail
    refine (C.out _ hr).mono ?_
    rintro e _ ⟨rfl, rfl⟩
    go_wp2
    go_ret
    exact ⟨rfl, rfl⟩

theorem Try.infoInt' : (Try.prog.info? 3).map (fun i => (i.zero, i.size, i.bytes)) = some (some (.int .i64 0), 1, 8) := by kernel_rfl

/-- A list in a row of the call's own, as a result. -/
def NewRow (zs : List Int) (w : World) (e : Ending) (w' : World) : Prop :=
  ∃ A c, e = .returned (.slice A zs.length c) ∧ zs.length ≤ c ∧ c ≤ maxLen ∧ w'.ownsRow w.heap.size 3 1 (.slice A zs.length c) zs.length (ivals zs) ∧ Below w.heap.size w w'

/-- A nil slice, or one that is not nil. -/
theorem sclone_any {A : Option Addr} {c : Nat} {l : List Int} {w : World} (hm : l.length ≤ 1000000) (hr : RowAt w A (ivals l)) :
    Calls Try.prog 21 #[.slice A l.length c] w (NewRow l w) := by
  obtain ⟨i0, hi, hz0, hz1, hz2⟩ := info_parts Try.infoInt'
  rcases A with _ | a
  · obtain rfl : l = [] := by
      rcases Nat.eq_zero_or_pos l.length with h | h
      · exact List.eq_nil_of_length_eq_zero h
      · obtain ⟨b, off, h, _⟩ := hr (by rw [ivals_len]; exact h)
        cases h
    have hE := fun (w : World) (n c : Nat) => Lib.run_eql_slice_nil (P := Try.prog) w 22 3 none n c 0 0 Try.underlying22
    rw [Option.isNone_none] at hE
    go_enter Try.func21, Try.ntmps21
    go_wp2
    go_ret
    exact ⟨none, 0, rfl, Nat.le_refl _, by unfold maxLen; omega, World.ownsRow_nil _ _ _ _, Below.refl _ _⟩
  · have hE := fun (w : World) (n c : Nat) => Lib.run_eql_slice_nil (P := Try.prog) w 22 3 (some a) n c 0 0 Try.underlying22
    rw [Option.isNone_some] at hE
    go_enter Try.func21, Try.ntmps21
    go_wp2_with (at_builtin; refine wpList_append_row rfl _ _ 22 rfl w.heap.size 3 i0 (.int .i64 0) 8 Try.underlying22 hi hz0 hz1 hz2 rfl _ 0 [] rfl (own_empty (Nat.le_refl _) rfl) (some a) _ _ (ivals l) rfl (ivals_len l) (hr.alloc _) (ivals_one l) (by unfold maxLen; omega) (by omega) (by simp) ?_)
    intro A7 c7 w7 hown7 hr7 hs7 hg7
    have B7 : Below w.heap.size w w7 := ((Below.refl _ _).alloc (Nat.le_refl _) _).grown hr7 (by simp) (by simp [Value.ownBlock])
    clear hr7 hg7
    go_wp2
    go_ret
    have hc := own_cap hown7
    exact ⟨A7, c7, rfl, hc.1, hc.2, hown7, B7⟩
end Go.Proofs.Ythdlcocodamlpaa
