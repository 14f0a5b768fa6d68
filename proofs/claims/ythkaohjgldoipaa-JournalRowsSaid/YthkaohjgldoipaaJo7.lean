/-
  journal: Neg, Clone of lines, both Opposites, both Reverseds, both Mays, Few, one.
-/
import Derived.Test.YthkaohjgldoipaaJo6
namespace Go.Proofs.Ythkaohjgldoipaa
open Go.RowKit

def leastJ : Int := -9223372036854775808
/-- A number turned round. -/
def negJ (m : Int) : Int × Int := if m = leastJ then (0, 10) else (-m, 0)
theorem negJ_least : negJ leastJ = (0, 10) := if_pos rfl
theorem negJ_in {m : Int} (h : m ≠ leastJ) : negJ m = (-m, 0) := if_neg h
theorem wrap_least : wrap64 (-leastJ) = leastJ := by unfold leastJ wrap64; omega
theorem wrap_neg {m : Int} (h : m ≠ leastJ) (h1 : -9223372036854775808 ≤ m) (h2 : m ≤ 9223372036854775807) : wrap64 (-m) = -m := by unfold leastJ at h; unfold wrap64; omega
section
variable {w : World}
set_option maxHeartbeats 1000000 in
theorem jsub_any {m : Int} (h1 : -9223372036854775808 ≤ m) (h2 : m ≤ 9223372036854775807) : Calls Try.prog 84 #[.int .i64 0, .int .i64 m] w fun e w' => e = .returned (.tuple #[.int .i64 (negJ m).1, .int .i64 (negJ m).2]) ∧ w' = w := by
  by_cases h : m = leastJ
  · rw [h]
    have T := Lib.hid negJ_least
    have hw := wrap_least
    have hl : leastJ < 0 := by unfold leastJ; omega
    have n1 : decide (leastJ < 0) = true := decide_eq_true hl
    have n2 : decide (0 < leastJ) = false := decide_eq_false (by omega)
    have n3 : (leastJ != 0) = true := by rw [bne_iff_ne]; omega
    rw [T.out]
    clear h h1 h2
    generalize leastJ = b at *
    go_enter Try.func84, Try.ntmps84
    go_wp2
    go_ret2
    exact ⟨rfl, rfl⟩
  · have T := Lib.hid (negJ_in h)
    have hw := wrap_neg h h1 h2
    rw [T.out]
    clear h
    rcases (by omega : 0 < m ∨ m = 0 ∨ m < 0) with hb | hb | hb
    · have n1 : decide (-m < 0) = true := decide_eq_true (by omega)
      have n2 : decide (0 < m) = true := decide_eq_true hb
      replace hw : wrap64 (-m) = -m := hw
      obtain ⟨c, hc⟩ : ∃ c, wrap64 (-m) = c := ⟨_, rfl⟩
      rw [hc] at hw
      subst hw
      clear h1 h2
      go_enter Try.func84, Try.ntmps84
      go_wp2
      go_ret2
      exact ⟨by show Ending.returned (.tuple #[.int .i64 (wrap64 (-m)), .int .i64 0]) = _; rw [hc], rfl⟩
    · subst hb
      clear hw
      go_enter Try.func84, Try.ntmps84
      go_wp2
      go_ret2
      exact ⟨rfl, rfl⟩
    · have n1 : decide (-m < 0) = false := decide_eq_false (by omega)
      have n2 : decide (0 < m) = false := decide_eq_false (by omega)
      replace hw : wrap64 (-m) = -m := hw
      obtain ⟨c, hc⟩ : ∃ c, wrap64 (-m) = c := ⟨_, rfl⟩
      rw [hc] at hw
      subst hw
      clear h1 h2
      go_enter Try.func84, Try.ntmps84
      go_wp2
      go_ret2
      exact ⟨by show Ending.returned (.tuple #[.int .i64 (wrap64 (-m)), .int .i64 0]) = _; rw [hc], rfl⟩
set_option maxHeartbeats 1000000 in
theorem jneg_any {m : Int} (h1 : -9223372036854775808 ≤ m) (h2 : m ≤ 9223372036854775807) : Calls Try.prog 80 #[.int .i64 m] w fun e w' => e = .returned (.tuple #[.int .i64 (negJ m).1, .int .i64 (negJ m).2]) ∧ w' = w := by
  have C := Lib.hid (jsub_any (w := w) h1 h2)
  clear h1 h2
  generalize negJ m = r at *
  obtain ⟨r1, r2⟩ := r
  go_enter Try.func80, Try.ntmps80
  go_wp2_with fail
  refine C.out.mono ?_
  rintro e _ ⟨rfl, rfl⟩
  go_wp2
  go_ret2
  exact ⟨rfl, rfl⟩
end
/-- Lines of the call's own. -/
def NewL (l : List Ln) (w : World) (e : Ending) (w' : World) : Prop :=
  ∃ A c, e = .returned (.slice A l.length c) ∧ w'.ownsRow w.heap.size 32 4 (.slice A l.length c) l.length (lvs l) ∧ Below w.heap.size w w'
set_option maxHeartbeats 2000000 in
theorem jclone_any {A : Option Addr} {c : Nat} {l : List Ln} {w : World} (hm : l.length ≤ 1000000) (hr : RowAt w A (lvs l)) : Calls Try.prog 79 #[.slice A l.length c] w (NewL l w) := by
  obtain ⟨i0, hi, hz0, hz1, hz2⟩ := info_parts Try.infoLine
  rcases A with _ | a
  · obtain rfl : l = [] := by
      rcases Nat.eq_zero_or_pos l.length with h | h
      · exact List.eq_nil_of_length_eq_zero h
      · obtain ⟨b, off, h, _⟩ := hr.lines h
        cases h
    have hE := fun (w : World) (n c : Nat) => Lib.run_eql_slice_nil (P := Try.prog) w 47 32 none n c 0 0 Try.underlying47
    rw [Option.isNone_none] at hE
    go_enter Try.func79, Try.ntmps79
    go_wp2
    go_ret
    exact ⟨none, 0, rfl, World.ownsRow_nil _ _ _ _, Below.refl _ _⟩
  · have hE := fun (w : World) (n c : Nat) => Lib.run_eql_slice_nil (P := Try.prog) w 47 32 (some a) n c 0 0 Try.underlying47
    rw [Option.isNone_some] at hE
    go_enter Try.func79, Try.ntmps79
    go_wp2_with (at_builtin; refine wpList_append_rowN rfl _ _ 47 rfl w.heap.size 32 i0 (.agg #[.int .i64 0, .int .i64 0, .int .i64 0, .int .i64 0]) 4 32 Try.underlying47 hi hz0 hz1 hz2 rfl (by decide) _ 0 [] rfl (own_empty (Nat.le_refl _) rfl) (some a) l.length c (lvs l) rfl (lvs_len l) (hr.alloc _) (fm_one lv_one l) (by unfold maxLen; omega) (by omega) (by simp) ?_)
    intro A7 c7 w7 hown7 hr7
    have B7 : Below w.heap.size w w7 := ((Below.refl _ _).alloc (Nat.le_refl _) _).grown hr7 (by simp) (by simp [Value.ownBlock])
    clear hr7
    go_wp2
    go_ret
    exact ⟨A7, c7, rfl, hown7, B7⟩
end Go.Proofs.Ythkaohjgldoipaa
