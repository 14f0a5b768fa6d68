/-
  account: New, place, kind, may.
-/
import Derived.Test.YthkaohjgldoipaaAc6
namespace Go.Proofs.Ythkaohjgldoipaa
open Go.RowKit

/-- Are two accounts unlike? -/
def neA (x y : Acc) : Bool := !decide (x = y)
theorem neA_of {x y : Acc} (h : ¬ x = y) : neA x y = true := by unfold neA; rw [decide_eq_false h]; rfl
theorem neA_same (x : Acc) : neA x x = false := by unfold neA; rw [decide_eq_true rfl]; rfl
theorem neA_if (p1 d1 : Int) (s1 q1 : Bool) (p2 d2 : Int) (s2 q2 : Bool) (w : World) :
    (if p1 = p2 then if d1 = d2 then if s1 = s2 then if q1 = q2 then Result.ok (Next.value (Value.bool false)) w else Result.ok (Next.value (Value.bool true)) w else Result.ok (Next.value (Value.bool true)) w else Result.ok (Next.value (Value.bool true)) w else Result.ok (Next.value (Value.bool true)) w) = Result.ok (Next.value (Value.bool (neA ⟨p1, d1, s1, q1⟩ ⟨p2, d2, s2, q2⟩))) w := by
  by_cases h1 : p1 = p2
  · by_cases h2 : d1 = d2
    · by_cases h3 : s1 = s2
      · by_cases h4 : q1 = q2
        · subst h1 h2 h3 h4
          rw [neA_same, if_pos rfl, if_pos rfl, if_pos rfl, if_pos rfl]
        · rw [if_pos h1, if_pos h2, if_pos h3, if_neg h4, neA_of (fun h => h4 (by injection h))]
      · rw [if_pos h1, if_pos h2, if_neg h3, neA_of (fun h => h3 (by injection h))]
    · rw [if_pos h1, if_neg h2, neA_of (fun h => h2 (by injection h))]
  · rw [if_neg h1, neA_of (fun h => h1 (by injection h))]
theorem new_row (w : World) (xs : List Acc) : RowC (w.alloc (.cells (avs xs).toArray 60)) (some ⟨w.heap.size, 0, none⟩) xs := by
  refine RowAt.of_cells fun j u hj => ?_
  rw [addr_add, Nat.zero_add]
  exact ((Box.new _ _ _).cells j).trans (by rw [List.getElem?_toArray]; exact hj)
theorem new_own (w : World) (xs : List Acc) (n : Nat) (h : xs.length = n) (hm : n ≤ 1000000) : (w.alloc (.cells (avs xs).toArray 60)).ownsRow w.heap.size 60 4 (.slice (some ⟨w.heap.size, 0, none⟩) n n) n (avs xs) := by
  have := World.ownsRow_lit (base := w.heap.size) (e := 60) (size := 4) w (avs xs).toArray n (Nat.le_refl _) (by unfold maxLen; omega) (by simp [avs_len]; omega)
  simpa using this
set_option maxHeartbeats 1000000 in
theorem anew_any (w : World) : Calls Try.prog 57 #[] w fun e w' => ∃ a, e = .returned (.slice (some a) 3 3) ∧ RowC w' (some a) newA ∧ Below w.heap.size w w' := by
  go_enter Try.func57, Try.ntmps57
  go_wp2
  go_ret
  refine ⟨_, rfl, ?_, ?_⟩
  · have h := new_row ((w.alloc (.cells #[.int .i64 0, .int .i64 1, .bool false, .bool false] 60)).alloc (.cells #[.int .i64 0, .int .i64 1, .bool true, .bool false] 60)) newA
    rw [World.size_alloc, World.size_alloc] at h
    exact h
  · exact (((Below.refl _ _).alloc (Nat.le_refl _) _).alloc (by simp) _).alloc (by simp; omega) _
set_option maxHeartbeats 1000000 in
theorem rnew_any (w : World) : Calls Try.prog 58 #[] w fun e w' => e = .returned (.slice (some ⟨w.heap.size, 0, none⟩) 3 3) ∧ w'.ownsRow w.heap.size 60 4 (.slice (some ⟨w.heap.size, 0, none⟩) 3 3) 3 (avs newA) ∧ Below w.heap.size w w' := by
  go_enter Try.func58, Try.ntmps58
  go_wp2
  go_ret
  exact ⟨rfl, new_own w newA 3 rfl (by omega), (Below.refl _ _).alloc (Nat.le_refl _) _⟩
theorem rnew_row (w : World) : Calls Try.prog 58 #[] w fun e w' => ∃ a, e = .returned (.slice (some a) 3 3) ∧ RowC w' (some a) newA ∧ Below w.heap.size w w' :=
  (rnew_any w).mono fun _ _ ⟨h1, h2, h3⟩ => ⟨_, h1, RowC.of_own h2, h3⟩
set_option maxHeartbeats 1000000 in
theorem place_any (p n : Int) (w : World) : Calls Try.prog 60 #[.int .i64 p, .int .i64 n] w fun e w' => e = .returned (.int .i64 (placeI p n)) ∧ w = w' := by
  unfold placeI
  rcases (by omega : p < 0 ∨ (0 ≤ p ∧ n < p) ∨ (0 ≤ p ∧ p ≤ n ∧ 1 ≤ p ∧ p ≤ 3) ∨ (0 ≤ p ∧ p ≤ n ∧ p < 1) ∨ (0 ≤ p ∧ p ≤ n ∧ 1 ≤ p ∧ 3 < p)) with h | ⟨h1, h2⟩ | ⟨h1, h2, h3, h4⟩ | ⟨h1, h2, h3⟩ | ⟨h1, h2, h3, h4⟩
  · rw [if_pos (.inl h)]
    go_enter Try.func60, Try.ntmps60
    go_wp2
    go_ret
    exact ⟨rfl, rfl⟩
  · rw [if_pos (.inr h2)]
    go_enter Try.func60, Try.ntmps60
    go_wp2
    go_ret
    exact ⟨rfl, rfl⟩
  · rw [if_neg (by omega), if_pos ⟨h3, h4⟩]
    go_enter Try.func60, Try.ntmps60
    go_wp2
    go_ret
    exact ⟨rfl, rfl⟩
  · rw [if_neg (by omega), if_neg (by omega)]
    go_enter Try.func60, Try.ntmps60
    go_wp2
    go_ret
    exact ⟨rfl, rfl⟩
  · rw [if_neg (by omega), if_neg (by omega)]
    go_enter Try.func60, Try.ntmps60
    go_wp2
    go_ret
    exact ⟨rfl, rfl⟩
set_option maxHeartbeats 2000000 in
theorem kind_any (x : Acc) (w : World) : Calls Try.prog 61 #[.agg #[.int .i64 x.p, .int .i64 x.k, .bool x.s, .bool x.q]] w fun e w' => e = .returned (.int .i64 (if badK x = true then 25 else 0)) ∧ Below w.heap.size w w' := by
  unfold badK
  generalize x.p = p0 at *
  generalize x.k = k0 at *
  generalize x.s = s0 at *
  generalize x.q = q0 at *
  rcases (by omega : k0 < 1 ∨ (1 ≤ k0 ∧ 3 < k0) ∨ (1 ≤ k0 ∧ k0 ≤ 3)) with h | ⟨h1, h2⟩ | ⟨h1, h2⟩
  · rw [if_pos (by simp [h])]
    go_enter Try.func61, Try.ntmps61
    go_wp2
    go_ret
    exact ⟨rfl, (Below.refl _ _).alloc (Nat.le_refl _) _⟩
  · rw [if_pos (by simp [h2])]
    go_enter Try.func61, Try.ntmps61
    go_wp2
    go_ret
    exact ⟨rfl, (Below.refl _ _).alloc (Nat.le_refl _) _⟩
  · rw [decide_eq_false (by omega : ¬ k0 < 1), decide_eq_false (by omega : ¬ 3 < k0), Bool.false_or, Bool.false_or]
    cases s0 <;> cases q0
    all_goals
      go_enter Try.func61, Try.ntmps61
      go_wp2
      go_ret
      exact ⟨rfl, (Below.refl _ _).alloc (Nat.le_refl _) _⟩
set_option maxHeartbeats 4000000 in
theorem rmay_any (x : Acc) (n : Int) (w : World) : Calls Try.prog 64 #[.agg #[.int .i64 x.p, .int .i64 x.k, .bool x.s, .bool x.q], .int .i64 n] w fun e w' => e = .returned (.int .i64 (mayI x n)) ∧ Below w.heap.size w w' := by
  unfold mayI badK
  generalize x.p = p at *
  generalize x.k = k0 at *
  generalize x.s = s0 at *
  generalize x.q = q0 at *
  rcases (by omega : p < 0 ∨ (0 ≤ p ∧ n < p) ∨ (0 ≤ p ∧ p ≤ n ∧ 1 ≤ p ∧ p ≤ 3) ∨ (0 ≤ p ∧ p ≤ n ∧ (p < 1 ∨ (1 ≤ p ∧ 3 < p)))) with h | ⟨h1, h2⟩ | ⟨h1, h2, h3, h4⟩ | ⟨h1, h2, hp⟩
  · rw [show placeI p n = 21 from if_pos (.inl h), if_pos (by decide)]
    go_enter Try.func64, Try.ntmps64
    go_wp2
    go_ret
    exact ⟨rfl, (Below.refl _ _).alloc (Nat.le_refl _) _⟩
  · rw [show placeI p n = 21 from if_pos (.inr h2), if_pos (by decide)]
    go_enter Try.func64, Try.ntmps64
    go_wp2
    go_ret
    exact ⟨rfl, (Below.refl _ _).alloc (Nat.le_refl _) _⟩
  · rw [show placeI p n = 28 by unfold placeI; rw [if_neg (by omega), if_pos ⟨h3, h4⟩], if_pos (by decide)]
    go_enter Try.func64, Try.ntmps64
    go_wp2
    go_ret
    exact ⟨rfl, (Below.refl _ _).alloc (Nat.le_refl _) _⟩
  · rw [show placeI p n = 0 by unfold placeI; rw [if_neg (by omega), if_neg (by omega)], if_neg (by decide)]
    rcases hp with hp | ⟨hp1, hp2⟩
    all_goals
      rcases (by omega : k0 < 1 ∨ (1 ≤ k0 ∧ 3 < k0) ∨ (1 ≤ k0 ∧ k0 ≤ 3)) with h | ⟨h3, h4⟩ | ⟨h3, h4⟩
      · rw [if_pos (by simp [h])]
        go_enter Try.func64, Try.ntmps64
        go_wp2
        go_ret
        exact ⟨rfl, (Below.refl _ _).alloc (Nat.le_refl _) _⟩
      · rw [if_pos (by simp [h4])]
        go_enter Try.func64, Try.ntmps64
        go_wp2
        go_ret
        exact ⟨rfl, (Below.refl _ _).alloc (Nat.le_refl _) _⟩
      · rw [decide_eq_false (by omega : ¬ k0 < 1), decide_eq_false (by omega : ¬ 3 < k0), Bool.false_or, Bool.false_or]
        cases s0 <;> cases q0
        all_goals
          go_enter Try.func64, Try.ntmps64
          go_wp2
          go_ret
          exact ⟨rfl, (Below.refl _ _).alloc (Nat.le_refl _) _⟩
end Go.Proofs.Ythkaohjgldoipaa
