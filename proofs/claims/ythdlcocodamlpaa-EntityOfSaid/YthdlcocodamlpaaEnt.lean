/-
  The contracts of entity and of its reference: what each tells of a list of currencies.
-/
import Derived.Test.YthdlcocodamlpaaContains
import Derived.Test.YthdlcocodamlpaaSame
namespace Go.Proofs.Ythdlcocodamlpaa
open Go.RowKit

/-- Is a number a currency? -/
def moneyB (c : Int) : Bool := decide (1 ≤ c) && decide (c ≤ 8)
def noMoney (c : Int) : Bool := !moneyB c

theorem money_any (c : Int) (w : World) : Calls Try.prog 18 #[.int .i64 c] w fun e w' => e = .returned (.bool (moneyB c)) ∧ w = w' := by
  rcases (by omega : c < 1 ∨ 8 < c ∨ (1 ≤ c ∧ c ≤ 8)) with h | h | h
  · have T := Lib.hid (show moneyB c = false by unfold moneyB; rw [decide_eq_false (show ¬ 1 ≤ c by omega)]; rfl)
    have h1 : decide (1 ≤ c) = false := decide_eq_false (by omega)
    go_enter Try.func18, Try.ntmps18
    go_wp2
    go_ret
    exact ⟨by rw [T.out]; rfl, rfl⟩
  · have T := Lib.hid (show moneyB c = false by unfold moneyB; rw [decide_eq_false (show ¬ c ≤ 8 by omega), Bool.and_false])
    have h1 : decide (1 ≤ c) = true := decide_eq_true (by omega)
    have h2 : decide (c ≤ 8) = false := decide_eq_false (by omega)
    go_enter Try.func18, Try.ntmps18
    go_wp2
    go_ret
    exact ⟨by rw [T.out]; rfl, rfl⟩
  · have T := Lib.hid (show moneyB c = true by unfold moneyB; rw [decide_eq_true h.1, decide_eq_true h.2]; rfl)
    have h1 : decide (1 ≤ c) = true := decide_eq_true h.1
    have h2 : decide (c ≤ 8) = true := decide_eq_true h.2
    go_enter Try.func18, Try.ntmps18
    go_wp2
    go_ret
    exact ⟨by rw [T.out]; rfl, rfl⟩

theorem rmoney_any (c : Int) (w : World) : Calls Try.prog 20 #[.int .i64 c] w fun e w' => e = .returned (.bool (moneyB c)) ∧ w = w' := by
  rcases (by omega : c < 1 ∨ 8 < c ∨ (1 ≤ c ∧ c ≤ 8)) with h | h | h
  · have T := Lib.hid (show moneyB c = false by unfold moneyB; rw [decide_eq_false (show ¬ 1 ≤ c by omega)]; rfl)
    have h1 : decide (1 ≤ c) = false := decide_eq_false (by omega)
    go_enter Try.func20, Try.ntmps20
    go_wp2
    go_ret
    exact ⟨by rw [T.out]; rfl, rfl⟩
  · have T := Lib.hid (show moneyB c = false by unfold moneyB; rw [decide_eq_false (show ¬ c ≤ 8 by omega), Bool.and_false])
    have h1 : decide (1 ≤ c) = true := decide_eq_true (by omega)
    have h2 : decide (c ≤ 8) = false := decide_eq_false (by omega)
    go_enter Try.func20, Try.ntmps20
    go_wp2
    go_ret
    exact ⟨by rw [T.out]; rfl, rfl⟩
  · have T := Lib.hid (show moneyB c = true by unfold moneyB; rw [decide_eq_true h.1, decide_eq_true h.2]; rfl)
    have h1 : decide (1 ≤ c) = true := decide_eq_true h.1
    have h2 : decide (c ≤ 8) = true := decide_eq_true h.2
    go_enter Try.func20, Try.ntmps20
    go_wp2
    go_ret
    exact ⟨by rw [T.out]; rfl, rfl⟩

theorem wrong_any (c : Int) (w : World) : Calls Try.prog 17 #[.int .i64 c] w fun e w' => e = .returned (.bool (noMoney c)) ∧ w = w' := by
  have M := Lib.hid (money_any c)
  unfold noMoney
  generalize moneyB c = b at *
  go_enter Try.func17, Try.ntmps17
  go_wp2_with fail
  refine (M.out _).mono ?_
  rintro e _ ⟨rfl, rfl⟩
  go_wp2
  go_ret
  exact ⟨rfl, rfl⟩

set_option maxHeartbeats 400000 in
theorem indexFunc_any {A : Option Addr} {c : Nat} {l : List Int} {w : World} (hm : l.length ≤ 1000000) (hr : RowAt w A (ivals l)) :
    Calls Try.prog 19 #[.slice A l.length c, .func (.func 17) #[] #[]] w fun e w' => e = .returned (.int .i64 (idxI (firstOf noMoney l) l.length)) ∧ w = w' := by
  have C := Lib.hid wrong_any
  go_enter Try.func19, Try.ntmps19
  go_wp2
  go_loop [8] (fun i => ∃ k : Nat, k ≤ l.length ∧ i = .int .i64 k ∧ Hid (k ≤ firstOf noMoney l)) (fun i => l.length - (intOf i).toNat)
  case atStart => exact ⟨0, by omega, rfl, Nat.zero_le _⟩
  case round =>
    obtain ⟨k, hk, rfl, hf⟩ := hrel
    by_cases hkn : k < l.length
    · obtain ⟨b, off, rfl, _, hc⟩ := hr.iget (by omega)
      have h1 := hc k hkn
      clear hc
      have C1 := Lib.hid fun w => C.out l[k] w
      have H1 := Lib.hid fun h => firstOf_hit (p := noMoney) hkn hf.out h
      have H2 := Lib.hid fun h => firstOf_step (p := noMoney) hkn hf.out h
      generalize noMoney l[k] = q at *
      generalize l[k] = x at *
      go_wp2_with fail
      refine (C1.out _).mono ?_
      rintro e _ ⟨rfl, rfl⟩
      cases q
      · have H := Lib.hid (H2.out rfl)
        clear H1 H2 hf C1
        go_wp2
        go_round
        case rel => exact ⟨k + 1, by omega, by go_num, H.out⟩
        case measure => simp [intOf]; omega
      · have H := Lib.hid (H1.out rfl)
        clear H1 H2 hf C1
        go_wp2
        go_ret
        exact ⟨by rw [H.out, idxI_hit hkn]; try rfl, rfl⟩
    · obtain rfl : k = l.length := by omega
      have H := Lib.hid (firstOf_end hf.out)
      clear hf
      go_wp2
      go_ret
      exact ⟨by rw [H.out, idxI_none]; try rfl, rfl⟩

/-- What Check tells. -/
def chkI (l : List Int) : Int × Int := if 40 < l.length then (0, 3) else if firstOf noMoney l < l.length then ((firstOf noMoney l : Int), 23) else ((l.length : Int), 0)
theorem chkI_full {l : List Int} (h : 40 < l.length) : chkI l = (0, 3) := if_pos h
theorem chkI_bad {l : List Int} (h : ¬ 40 < l.length) (h2 : firstOf noMoney l < l.length) : chkI l = ((firstOf noMoney l : Int), 23) := by unfold chkI; rw [if_neg h, if_pos h2]
theorem chkI_ok {l : List Int} (h : ¬ 40 < l.length) (h2 : ¬ firstOf noMoney l < l.length) : chkI l = ((l.length : Int), 0) := by unfold chkI; rw [if_neg h, if_neg h2]

set_option maxHeartbeats 400000 in
theorem check_any {A : Option Addr} {c : Nat} {l : List Int} {w : World} (hm : l.length ≤ 1000000) (hr : RowAt w A (ivals l)) :
    Calls Try.prog 7 #[.slice A l.length c] w fun e w' => e = .returned (.tuple #[.int .i64 (chkI l).1, .int .i64 (chkI l).2]) ∧ w = w' := by
  have I := Lib.hid fun w (h : RowAt w A (ivals l)) => indexFunc_any (c := c) hm h
  by_cases h : 40 < l.length
  · rw [chkI_full h]
    go_enter Try.func7, Try.ntmps7
    go_wp2
    go_ret2
    exact ⟨rfl, rfl⟩
  · by_cases h2 : firstOf noMoney l < l.length
    · rw [chkI_bad h h2]
      rw [idxI_hit h2] at I
      generalize firstOf noMoney l = k at *
      go_enter Try.func7, Try.ntmps7
      go_wp2_with fail
      refine (I.out _ hr).mono ?_
      rintro e _ ⟨rfl, rfl⟩
      go_wp2
      go_ret2
      exact ⟨rfl, rfl⟩
    · rw [chkI_ok h h2]
      unfold idxI at I
      rw [if_neg h2] at I
      clear h2
      go_enter Try.func7, Try.ntmps7
      go_wp2_with fail
      refine (I.out _ hr).mono ?_
      rintro e _ ⟨rfl, rfl⟩
      go_wp2
      go_ret2
      exact ⟨rfl, rfl⟩

set_option maxHeartbeats 400000 in
theorem rcheck_any {A : Option Addr} {c : Nat} {l : List Int} {w : World} (hm : l.length ≤ 1000000) (hr : RowAt w A (ivals l)) :
    Calls Try.prog 8 #[.slice A l.length c] w fun e w' => e = .returned (.tuple #[.int .i64 (chkI l).1, .int .i64 (chkI l).2]) ∧ w = w' := by
  have C := Lib.hid rmoney_any
  by_cases h : 40 < l.length
  · rw [chkI_full h]
    go_enter Try.func8, Try.ntmps8
    go_wp2
    go_ret2
    exact ⟨rfl, rfl⟩
  · have G1 := Lib.hid fun h2 => chkI_bad (l := l) h h2
    have G2 := Lib.hid fun h2 => chkI_ok (l := l) h h2
    generalize chkI l = r at *
    go_enter Try.func8, Try.ntmps8
    go_wp2
    go_loop [4] (fun i => ∃ k : Nat, k ≤ l.length ∧ i = .int .i64 k ∧ Hid (k ≤ firstOf noMoney l)) (fun i => l.length - (intOf i).toNat)
    case atStart => exact ⟨0, by omega, rfl, Nat.zero_le _⟩
    case round =>
      obtain ⟨k, hk, rfl, hf⟩ := hrel
      by_cases hkn : k < l.length
      · obtain ⟨b, off, rfl, _, hc⟩ := hr.iget (by omega)
        have h1 := hc k hkn
        clear hc
        have C1 := Lib.hid fun w => C.out l[k] w
        have H1 := Lib.hid fun h => firstOf_hit (p := noMoney) hkn hf.out h
        have H2 := Lib.hid fun h => firstOf_step (p := noMoney) hkn hf.out h
        have hq : noMoney l[k] = !moneyB l[k] := rfl
        rw [hq] at H1 H2
        clear hq
        generalize moneyB l[k] = q at *
        generalize l[k] = x at *
        go_wp2_with fail
        refine (C1.out _).mono ?_
        rintro e _ ⟨rfl, rfl⟩
        cases q
        · have H := Lib.hid (H1.out rfl)
          clear H1 H2 hf C1
          go_wp2
          go_ret2
          exact ⟨by rw [G1.out (by have := H.out; omega), H.out]; try rfl, rfl⟩
        · have H := Lib.hid (H2.out rfl)
          clear H1 H2 hf C1
          go_wp2
          go_round
          case rel => exact ⟨k + 1, by omega, by go_num, H.out⟩
          case measure => simp [intOf]; omega
      · obtain rfl : k = l.length := by omega
        have H := Lib.hid (G2.out (by have := hf.out; omega))
        clear hf
        go_wp2
        go_ret2
        exact ⟨by rw [H.out]; try rfl, rfl⟩

/-- An entity's currency. -/
def curI (l : List Int) (n : Int) : Int × Int := if n < 1 ∨ (l.length : Int) < n then (0, 20) else (l.getD (n - 1).toNat 0, 0)

theorem cur_any {A : Option Addr} {c : Nat} {l : List Int} {n : Int} {w : World} (hm : l.length ≤ 1000000) (hr : RowAt w A (ivals l)) :
    Calls Try.prog 9 #[.slice A l.length c, .int .i64 n] w fun e w' => e = .returned (.tuple #[.int .i64 (curI l n).1, .int .i64 (curI l n).2]) ∧ w = w' := by
  rcases (by omega : n < 1 ∨ (l.length : Int) < n ∨ (1 ≤ n ∧ n ≤ l.length)) with h | h | h
  · rw [show curI l n = (0, 20) from if_pos (.inl h)]
    go_enter Try.func9, Try.ntmps9
    go_wp2
    go_ret2
    exact ⟨rfl, rfl⟩
  · rw [show curI l n = (0, 20) from if_pos (.inr h)]
    have h1 : decide (n < 1) = false := decide_eq_false (by omega)
    go_enter Try.func9, Try.ntmps9
    go_wp2
    go_ret2
    exact ⟨rfl, rfl⟩
  · obtain ⟨k, rfl⟩ : ∃ k : Nat, n = (k : Int) + 1 := ⟨(n - 1).toNat, by omega⟩
    have hk : k < l.length := by omega
    rw [show curI l (k + 1) = (l[k], 0) from by unfold curI; rw [if_neg (by omega), show ((k : Int) + 1 - 1).toNat = k by omega]; simp [hk]]
    obtain ⟨b, off, rfl, _, hc⟩ := hr.iget (by omega)
    have h1 := hc k hk
    clear hc
    generalize l[k] = x at *
    go_enter Try.func9, Try.ntmps9
    go_wp2
    go_ret2
    exact ⟨rfl, rfl⟩

theorem rcur_any {A : Option Addr} {c : Nat} {l : List Int} {n : Int} {w : World} (hm : l.length ≤ 1000000) (hr : RowAt w A (ivals l)) :
    Calls Try.prog 10 #[.slice A l.length c, .int .i64 n] w fun e w' => e = .returned (.tuple #[.int .i64 (curI l n).1, .int .i64 (curI l n).2]) ∧ w = w' := by
  rcases (by omega : n < 1 ∨ (l.length : Int) < n ∨ (1 ≤ n ∧ n ≤ l.length)) with h | h | h
  · rw [show curI l n = (0, 20) from if_pos (.inl h)]
    go_enter Try.func10, Try.ntmps10
    go_wp2
    go_ret2
    exact ⟨rfl, rfl⟩
  · rw [show curI l n = (0, 20) from if_pos (.inr h)]
    have h1 : decide (n < 1) = false := decide_eq_false (by omega)
    go_enter Try.func10, Try.ntmps10
    go_wp2
    go_ret2
    exact ⟨rfl, rfl⟩
  · obtain ⟨k, rfl⟩ : ∃ k : Nat, n = (k : Int) + 1 := ⟨(n - 1).toNat, by omega⟩
    have hk : k < l.length := by omega
    rw [show curI l (k + 1) = (l[k], 0) from by unfold curI; rw [if_neg (by omega), show ((k : Int) + 1 - 1).toNat = k by omega]; simp [hk]]
    obtain ⟨b, off, rfl, _, hc⟩ := hr.iget (by omega)
    have h1 := hc k hk
    clear hc
    generalize l[k] = x at *
    go_enter Try.func10, Try.ntmps10
    go_wp2
    go_ret2
    exact ⟨rfl, rfl⟩
end Go.Proofs.Ythdlcocodamlpaa
