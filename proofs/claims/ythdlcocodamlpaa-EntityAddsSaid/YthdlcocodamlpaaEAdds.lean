/-
  EntityAdds: the walk.
-/
import Derived.Test.YthdlcocodamlpaaEAwake
namespace Go.Proofs.Ythdlcocodamlpaa
open Go.RowKit

theorem firstOf_app_lt {p : Int → Bool} {l : List Int} {c : Int} (h : firstOf p l < l.length) : firstOf p (l ++ [c]) = firstOf p l := by
  induction l with
  | nil => simp at h
  | cons x r ih =>
    rw [List.cons_append]
    unfold firstOf at h ⊢
    split
    · rfl
    · rename_i hx
      rw [if_neg hx] at h
      rw [ih (by simpa using h)]
theorem firstOf_app_end {p : Int → Bool} {l : List Int} {c : Int} (h : ¬ firstOf p l < l.length) (hc : p c = false) : firstOf p (l ++ [c]) = l.length + 1 := by
  induction l with
  | nil => simp [firstOf, hc]
  | cons x r ih =>
    rw [List.cons_append]
    unfold firstOf at h ⊢
    split
    · rename_i hx
      rw [if_pos hx] at h
      simp at h
    · rename_i hx
      rw [if_neg hx] at h
      rw [ih (by simpa using h)]
      simp
theorem cur_app {l : List Int} {c n : Int} (h : n ≠ (l.length : Int) + 1) : curI (l ++ [c]) n = curI l n := by
  unfold curI
  rw [List.length_append]
  simp only [List.length_cons, List.length_nil, Nat.zero_add]
  by_cases h1 : n < 1 ∨ (l.length : Int) < n
  · rw [if_pos (by push_cast; omega), if_pos h1]
  · rw [if_neg (by push_cast; omega), if_neg h1]
    have : (n - 1).toNat < l.length := by omega
    rw [List.getD_eq_getElem?_getD, List.getD_eq_getElem?_getD, List.getElem?_append_left this]
theorem cur_last {l : List Int} {c : Int} : curI (l ++ [c]) ((l.length : Int) + 1) = (c, 0) := by
  unfold curI
  rw [if_neg (by simp; omega), show ((l.length : Int) + 1 - 1).toNat = l.length by omega]
  simp

set_option maxRecDepth 100000 in
set_option maxHeartbeats 2000000 in
theorem adds_cur (A : Option Addr) (cap : Nat) (l : List Int) (c n : Int) (w : World) (hl : l.length ≤ 200) (hr : RowAt w A (ivals l)) (hq : moneyB c = false) :
    Calls Try.prog 4 #[.slice A l.length cap, .int .i64 c, .int .i64 n] w fun e w' => e = .returned (.bool true) ∧ Below w.heap.size w w' := by
  have W := Lib.hid fun w => awake_any w
  have K1 := Lib.hid fun w (h : RowAt w A (ivals l)) => check_any (c := cap) (by omega) h
  have D1 := Lib.hid fun w (h : RowAt w A (ivals l)) => add_any (cap := cap) (c := c) (by omega) h
  unfold PairRow at D1
  rw [addI_cur hq] at D1
  clear hq
  generalize (chkI l).1 = p1 at *
  generalize (chkI l).2 = p2 at *
  go_enter Try.func4, Try.ntmps4
  go_wp2_with fail
  refine (K1.out _ hr).mono ?_
  rintro e _ ⟨rfl, rfl⟩
  go_wp2_with fail
  refine (D1.out _ hr).mono ?_
  rintro e w1 ⟨A1, c1, rfl, _, _, ra, b1⟩
  go_wp2_with fail
  refine (W.out _).mono ?_
  rintro e w7 ⟨rfl, b7⟩
  go_wp2
  go_ret
  exact ⟨rfl, b1.trans (b7.mono b1.size)⟩

set_option maxRecDepth 100000 in
set_option maxHeartbeats 2000000 in
theorem adds_full (A : Option Addr) (cap : Nat) (l : List Int) (c n : Int) (w : World) (hl : l.length ≤ 200) (hr : RowAt w A (ivals l)) (hq : moneyB c = true) (h40 : 40 ≤ l.length) :
    Calls Try.prog 4 #[.slice A l.length cap, .int .i64 c, .int .i64 n] w fun e w' => e = .returned (.bool true) ∧ Below w.heap.size w w' := by
  have W := Lib.hid fun w => awake_any w
  have K1 := Lib.hid fun w (h : RowAt w A (ivals l)) => check_any (c := cap) (by omega) h
  have D1 := Lib.hid fun w (h : RowAt w A (ivals l)) => add_any (cap := cap) (c := c) (by omega) h
  unfold PairRow at D1
  rw [addI_full hq h40] at D1
  clear hq
  clear h40
  generalize (chkI l).1 = p1 at *
  generalize (chkI l).2 = p2 at *
  go_enter Try.func4, Try.ntmps4
  go_wp2_with fail
  refine (K1.out _ hr).mono ?_
  rintro e _ ⟨rfl, rfl⟩
  go_wp2_with fail
  refine (D1.out _ hr).mono ?_
  rintro e w1 ⟨A1, c1, rfl, _, _, ra, b1⟩
  go_wp2_with fail
  refine (W.out _).mono ?_
  rintro e w7 ⟨rfl, b7⟩
  go_wp2
  go_ret
  exact ⟨rfl, b1.trans (b7.mono b1.size)⟩

set_option maxRecDepth 100000 in
set_option maxHeartbeats 2000000 in
theorem adds_ok_b_l (A : Option Addr) (cap : Nat) (l : List Int) (c n : Int) (w : World) (hl : l.length ≤ 200) (hr : RowAt w A (ivals l)) (hq : moneyB c = true) (h40 : ¬ 40 ≤ l.length) (hb : firstOf noMoney l < l.length) (hn : n = (l.length : Int) + 1) :
    Calls Try.prog 4 #[.slice A l.length cap, .int .i64 c, .int .i64 n] w fun e w' => e = .returned (.bool true) ∧ Below w.heap.size w w' := by
  have W := Lib.hid fun w => awake_any w
  have K1 := Lib.hid fun w (h : RowAt w A (ivals l)) => check_any (c := cap) (by omega) h
  have D1 := Lib.hid fun w (h : RowAt w A (ivals l)) => add_any (cap := cap) (c := c) (by omega) h
  unfold PairRow at D1
  have hlen : (l ++ [c]).length = l.length + 1 := by simp
  have K2 := Lib.hid fun w A cap (h : RowAt w A (ivals (l ++ [c]))) => check_any (c := cap) (by omega) h
  have U0 := Lib.hid fun w A cap (h : RowAt w A (ivals (l ++ [c]))) => cur_any (c := cap) (n := (l.length : Int) + 1) (by omega) h
  have U1 := Lib.hid fun w (h : RowAt w A (ivals l)) => cur_any (c := cap) (n := n) (by omega) h
  have U2 := Lib.hid fun w A cap (h : RowAt w A (ivals (l ++ [c]))) => cur_any (c := cap) (n := n) (by omega) h
  rw [addI_ok hq h40] at D1
  rw [cur_last] at U0
  rw [chkI_bad (by omega) hb] at K1
  have hb2 := firstOf_app_lt (c := c) hb
  rw [chkI_bad (l := l ++ [c]) (by omega) (by omega), hb2] at K2
  clear hb2
  generalize firstOf noMoney l = k at *
  subst hn
  generalize curI l ((l.length : Int) + 1) = r1 at *
  rw [cur_last] at U2
  simp only [hlen] at D1 K2 U0 U2
  generalize hm : l ++ [c] = m at *
  clear hm hlen hq h40 hb 
  go_enter Try.func4, Try.ntmps4
  go_wp2_with fail
  refine (K1.out _ hr).mono ?_
  rintro e _ ⟨rfl, rfl⟩
  go_wp2_with fail
  refine (D1.out _ hr).mono ?_
  rintro e w1 ⟨A1, c1, rfl, _, _, ra, b1⟩
  have B1 := b1
  have r2 := hr.below b1 (Nat.le_refl _)
  clear b1
  go_wp2_with fail
  refine (K2.out _ _ _ ra).mono ?_
  rintro e _ ⟨rfl, rfl⟩
  go_wp2_with fail
  refine (U0.out _ _ _ ra).mono ?_
  rintro e _ ⟨rfl, rfl⟩
  go_wp2_with fail
  refine (U1.out _ r2).mono ?_
  rintro e _ ⟨rfl, rfl⟩
  go_wp2_with fail
  refine (U2.out _ _ _ ra).mono ?_
  rintro e _ ⟨rfl, rfl⟩
  go_wp2_with fail
  refine (W.out _).mono ?_
  rintro e w7 ⟨rfl, b7⟩
  go_wp2
  go_ret
  exact ⟨rfl, B1.trans (b7.mono B1.size)⟩

set_option maxRecDepth 100000 in
set_option maxHeartbeats 2000000 in
theorem adds_ok_b_n (A : Option Addr) (cap : Nat) (l : List Int) (c n : Int) (w : World) (hl : l.length ≤ 200) (hr : RowAt w A (ivals l)) (hq : moneyB c = true) (h40 : ¬ 40 ≤ l.length) (hb : firstOf noMoney l < l.length) (hn : n ≠ (l.length : Int) + 1) :
    Calls Try.prog 4 #[.slice A l.length cap, .int .i64 c, .int .i64 n] w fun e w' => e = .returned (.bool true) ∧ Below w.heap.size w w' := by
  have W := Lib.hid fun w => awake_any w
  have K1 := Lib.hid fun w (h : RowAt w A (ivals l)) => check_any (c := cap) (by omega) h
  have D1 := Lib.hid fun w (h : RowAt w A (ivals l)) => add_any (cap := cap) (c := c) (by omega) h
  unfold PairRow at D1
  have hlen : (l ++ [c]).length = l.length + 1 := by simp
  have K2 := Lib.hid fun w A cap (h : RowAt w A (ivals (l ++ [c]))) => check_any (c := cap) (by omega) h
  have U0 := Lib.hid fun w A cap (h : RowAt w A (ivals (l ++ [c]))) => cur_any (c := cap) (n := (l.length : Int) + 1) (by omega) h
  have U1 := Lib.hid fun w (h : RowAt w A (ivals l)) => cur_any (c := cap) (n := n) (by omega) h
  have U2 := Lib.hid fun w A cap (h : RowAt w A (ivals (l ++ [c]))) => cur_any (c := cap) (n := n) (by omega) h
  rw [addI_ok hq h40] at D1
  rw [cur_last] at U0
  rw [chkI_bad (by omega) hb] at K1
  have hb2 := firstOf_app_lt (c := c) hb
  rw [chkI_bad (l := l ++ [c]) (by omega) (by omega), hb2] at K2
  clear hb2
  generalize firstOf noMoney l = k at *
  rw [cur_app hn] at U2
  generalize curI l n = r1 at *
  have n1 : (n == (l.length : Int) + 1) = false := by simpa using hn
  have n2 : (n != (l.length : Int) + 1) = true := by simpa using hn
  simp only [hlen] at D1 K2 U0 U2
  generalize hm : l ++ [c] = m at *
  clear hm hlen hq h40 hb hn
  go_enter Try.func4, Try.ntmps4
  go_wp2_with fail
  refine (K1.out _ hr).mono ?_
  rintro e _ ⟨rfl, rfl⟩
  go_wp2_with fail
  refine (D1.out _ hr).mono ?_
  rintro e w1 ⟨A1, c1, rfl, _, _, ra, b1⟩
  have B1 := b1
  have r2 := hr.below b1 (Nat.le_refl _)
  clear b1
  go_wp2_with fail
  refine (K2.out _ _ _ ra).mono ?_
  rintro e _ ⟨rfl, rfl⟩
  go_wp2_with fail
  refine (U0.out _ _ _ ra).mono ?_
  rintro e _ ⟨rfl, rfl⟩
  go_wp2_with fail
  refine (U1.out _ r2).mono ?_
  rintro e _ ⟨rfl, rfl⟩
  go_wp2_with fail
  refine (U2.out _ _ _ ra).mono ?_
  rintro e _ ⟨rfl, rfl⟩
  go_wp2_with fail
  refine (W.out _).mono ?_
  rintro e w7 ⟨rfl, b7⟩
  go_wp2
  go_ret
  exact ⟨rfl, B1.trans (b7.mono B1.size)⟩

set_option maxRecDepth 100000 in
set_option maxHeartbeats 2000000 in
theorem adds_ok_g_l (A : Option Addr) (cap : Nat) (l : List Int) (c n : Int) (w : World) (hl : l.length ≤ 200) (hr : RowAt w A (ivals l)) (hq : moneyB c = true) (h40 : ¬ 40 ≤ l.length) (hb : ¬ firstOf noMoney l < l.length) (hn : n = (l.length : Int) + 1) :
    Calls Try.prog 4 #[.slice A l.length cap, .int .i64 c, .int .i64 n] w fun e w' => e = .returned (.bool true) ∧ Below w.heap.size w w' := by
  have W := Lib.hid fun w => awake_any w
  have K1 := Lib.hid fun w (h : RowAt w A (ivals l)) => check_any (c := cap) (by omega) h
  have D1 := Lib.hid fun w (h : RowAt w A (ivals l)) => add_any (cap := cap) (c := c) (by omega) h
  unfold PairRow at D1
  have hlen : (l ++ [c]).length = l.length + 1 := by simp
  have K2 := Lib.hid fun w A cap (h : RowAt w A (ivals (l ++ [c]))) => check_any (c := cap) (by omega) h
  have U0 := Lib.hid fun w A cap (h : RowAt w A (ivals (l ++ [c]))) => cur_any (c := cap) (n := (l.length : Int) + 1) (by omega) h
  have U1 := Lib.hid fun w (h : RowAt w A (ivals l)) => cur_any (c := cap) (n := n) (by omega) h
  have U2 := Lib.hid fun w A cap (h : RowAt w A (ivals (l ++ [c]))) => cur_any (c := cap) (n := n) (by omega) h
  rw [addI_ok hq h40] at D1
  rw [cur_last] at U0
  rw [chkI_ok (by omega) hb] at K1
  have hb2 := firstOf_app_end (c := c) hb (show noMoney c = false by unfold noMoney; rw [hq]; rfl)
  rw [chkI_ok (l := l ++ [c]) (by omega) (by omega)] at K2
  clear hb2
  subst hn
  generalize curI l ((l.length : Int) + 1) = r1 at *
  rw [cur_last] at U2
  simp only [hlen] at D1 K2 U0 U2
  generalize hm : l ++ [c] = m at *
  clear hm hlen hq h40 hb 
  go_enter Try.func4, Try.ntmps4
  go_wp2_with fail
  refine (K1.out _ hr).mono ?_
  rintro e _ ⟨rfl, rfl⟩
  go_wp2_with fail
  refine (D1.out _ hr).mono ?_
  rintro e w1 ⟨A1, c1, rfl, _, _, ra, b1⟩
  have B1 := b1
  have r2 := hr.below b1 (Nat.le_refl _)
  clear b1
  go_wp2_with fail
  refine (K2.out _ _ _ ra).mono ?_
  rintro e _ ⟨rfl, rfl⟩
  go_wp2_with fail
  refine (U0.out _ _ _ ra).mono ?_
  rintro e _ ⟨rfl, rfl⟩
  go_wp2_with fail
  refine (U1.out _ r2).mono ?_
  rintro e _ ⟨rfl, rfl⟩
  go_wp2_with fail
  refine (U2.out _ _ _ ra).mono ?_
  rintro e _ ⟨rfl, rfl⟩
  go_wp2_with fail
  refine (W.out _).mono ?_
  rintro e w7 ⟨rfl, b7⟩
  go_wp2
  go_ret
  exact ⟨rfl, B1.trans (b7.mono B1.size)⟩

set_option maxRecDepth 100000 in
set_option maxHeartbeats 2000000 in
theorem adds_ok_g_n (A : Option Addr) (cap : Nat) (l : List Int) (c n : Int) (w : World) (hl : l.length ≤ 200) (hr : RowAt w A (ivals l)) (hq : moneyB c = true) (h40 : ¬ 40 ≤ l.length) (hb : ¬ firstOf noMoney l < l.length) (hn : n ≠ (l.length : Int) + 1) :
    Calls Try.prog 4 #[.slice A l.length cap, .int .i64 c, .int .i64 n] w fun e w' => e = .returned (.bool true) ∧ Below w.heap.size w w' := by
  have W := Lib.hid fun w => awake_any w
  have K1 := Lib.hid fun w (h : RowAt w A (ivals l)) => check_any (c := cap) (by omega) h
  have D1 := Lib.hid fun w (h : RowAt w A (ivals l)) => add_any (cap := cap) (c := c) (by omega) h
  unfold PairRow at D1
  have hlen : (l ++ [c]).length = l.length + 1 := by simp
  have K2 := Lib.hid fun w A cap (h : RowAt w A (ivals (l ++ [c]))) => check_any (c := cap) (by omega) h
  have U0 := Lib.hid fun w A cap (h : RowAt w A (ivals (l ++ [c]))) => cur_any (c := cap) (n := (l.length : Int) + 1) (by omega) h
  have U1 := Lib.hid fun w (h : RowAt w A (ivals l)) => cur_any (c := cap) (n := n) (by omega) h
  have U2 := Lib.hid fun w A cap (h : RowAt w A (ivals (l ++ [c]))) => cur_any (c := cap) (n := n) (by omega) h
  rw [addI_ok hq h40] at D1
  rw [cur_last] at U0
  rw [chkI_ok (by omega) hb] at K1
  have hb2 := firstOf_app_end (c := c) hb (show noMoney c = false by unfold noMoney; rw [hq]; rfl)
  rw [chkI_ok (l := l ++ [c]) (by omega) (by omega)] at K2
  clear hb2
  rw [cur_app hn] at U2
  generalize curI l n = r1 at *
  have n1 : (n == (l.length : Int) + 1) = false := by simpa using hn
  have n2 : (n != (l.length : Int) + 1) = true := by simpa using hn
  simp only [hlen] at D1 K2 U0 U2
  generalize hm : l ++ [c] = m at *
  clear hm hlen hq h40 hb hn
  go_enter Try.func4, Try.ntmps4
  go_wp2_with fail
  refine (K1.out _ hr).mono ?_
  rintro e _ ⟨rfl, rfl⟩
  go_wp2_with fail
  refine (D1.out _ hr).mono ?_
  rintro e w1 ⟨A1, c1, rfl, _, _, ra, b1⟩
  have B1 := b1
  have r2 := hr.below b1 (Nat.le_refl _)
  clear b1
  go_wp2_with fail
  refine (K2.out _ _ _ ra).mono ?_
  rintro e _ ⟨rfl, rfl⟩
  go_wp2_with fail
  refine (U0.out _ _ _ ra).mono ?_
  rintro e _ ⟨rfl, rfl⟩
  go_wp2_with fail
  refine (U1.out _ r2).mono ?_
  rintro e _ ⟨rfl, rfl⟩
  go_wp2_with fail
  refine (U2.out _ _ _ ra).mono ?_
  rintro e _ ⟨rfl, rfl⟩
  go_wp2_with fail
  refine (W.out _).mono ?_
  rintro e w7 ⟨rfl, b7⟩
  go_wp2
  go_ret
  exact ⟨rfl, B1.trans (b7.mono B1.size)⟩

theorem adds_law (A : Option Addr) (cap : Nat) (l : List Int) (c n : Int) (w : World) (hr : RowAt w A (ivals l)) (hm1 : l.length ≤ 9223372036854775807) :
    Calls Try.prog 4 #[.slice A l.length cap, .int .i64 c, .int .i64 n] w fun e w' => e = .returned (.bool true) ∧ Below w.heap.size w w' := by
  by_cases h1 : 200 < l.length
  · have W := Lib.hid fun w => awake_any w
    clear hr
    go_enter Try.func4, Try.ntmps4
    go_wp2_with fail
    refine (W.out _).mono ?_
    rintro e w1 ⟨rfl, b1⟩
    go_wp2
    go_ret
    exact ⟨rfl, b1⟩
  · have hl : l.length ≤ 200 := by omega
    rcases hq : moneyB c with _ | _
    · exact adds_cur A cap l c n w hl hr hq
    · by_cases h40 : 40 ≤ l.length
      · exact adds_full A cap l c n w hl hr hq h40
      · by_cases hb : firstOf noMoney l < l.length <;> by_cases hn : n = (l.length : Int) + 1
        · exact adds_ok_b_l A cap l c n w hl hr hq h40 hb hn
        · exact adds_ok_b_n A cap l c n w hl hr hq h40 hb hn
        · exact adds_ok_g_l A cap l c n w hl hr hq h40 hb hn
        · exact adds_ok_g_n A cap l c n w hl hr hq h40 hb hn
end Go.Proofs.Ythdlcocodamlpaa
