/-
  RatioTells: the walk.
-/
import Derived.Test.YtkjdkhcpeaepoaaDoorRf
namespace Go.Proofs.YtkjdkhcpeaepoaaDoor
open Go.RowKit

set_option maxRecDepth 100000 in
set_option maxHeartbeats 4000000 in
theorem rtells_walk (a b c d q x y : Int) (s l : Bool) (w : World) (T : Tb w) (AW : Hid (∀ w, Tb w → Calls Tryd.prog 19 #[] w fun e w' => e = .returned (.bool true) ∧ Below w.heap.size w w')) (C1 : Hid (∀ w, Calls Tryd.prog 11 #[.agg #[.int .i64 a, .int .i64 b]] w fun e w' => e = .returned (.int .i64 q) ∧ Below w.heap.size w w')) (C2 : Hid (∀ w, Calls Tryd.prog 12 #[.agg #[.int .i64 a, .int .i64 b]] w fun e w' => e = .returned (.int .i64 q) ∧ Below w.heap.size w w')) (N1 : Hid (∀ w, Tb w → Calls Tryd.prog 13 #[.agg #[.int .i64 a, .int .i64 b]] w fun e w' => e = .returned (.agg #[.int .i64 x, .int .i64 y]) ∧ Below w.heap.size w w')) (N2 : Hid (∀ w, Calls Tryd.prog 14 #[.agg #[.int .i64 a, .int .i64 b]] w fun e w' => e = .returned (.agg #[.int .i64 x, .int .i64 y]) ∧ Below w.heap.size w w')) (S1 : Hid (∀ w, Tb w → Calls Tryd.prog 15 #[.agg #[.int .i64 a, .int .i64 b], .agg #[.int .i64 c, .int .i64 d]] w fun e w' => e = .returned (.bool s) ∧ Below w.heap.size w w')) (S2 : Hid (∀ w, Calls Tryd.prog 16 #[.agg #[.int .i64 a, .int .i64 b], .agg #[.int .i64 c, .int .i64 d]] w fun e w' => e = .returned (.bool s) ∧ Below w.heap.size w w')) (L1 : Hid (∀ w, Calls Tryd.prog 17 #[.agg #[.int .i64 a, .int .i64 b], .agg #[.int .i64 c, .int .i64 d]] w fun e w' => e = .returned (.bool l) ∧ Below w.heap.size w w')) (L2 : Hid (∀ w, Calls Tryd.prog 18 #[.agg #[.int .i64 a, .int .i64 b], .agg #[.int .i64 c, .int .i64 d]] w fun e w' => e = .returned (.bool l) ∧ Below w.heap.size w w')) :
    Calls Tryd.prog 3 #[.agg #[.int .i64 a, .int .i64 b], .agg #[.int .i64 c, .int .i64 d]] w fun e w' => e = .returned (.bool true) ∧ Below w.heap.size w w' := by
  have EQ : ∀ w, (Op.equalIn 10000 23 (.agg #[.int .i64 x, .int .i64 y]) (.agg #[.int .i64 x, .int .i64 y])).run Tryd.prog w = .ok true w := fun w => by rw [req]; simp
  go_enter Tryd.func3, Tryd.ntmps3
  go_wp2
  obtain ⟨W1, hW1⟩ : ∃ W1, W1 = (w.alloc (.cells #[.int .i64 a, .int .i64 b] 23)).alloc (.cells #[.int .i64 c, .int .i64 d] 23) := ⟨_, rfl⟩
  have x2 : Box W1 w.heap.size 23 #[.int .i64 a, .int .i64 b] := by rw [hW1]; exact (Box.new _ _ _).alloc _
  have x3 : Box W1 (w.heap.size + 1) 23 #[.int .i64 c, .int .i64 d] := by rw [hW1]; exact Box.new' (by simp)
  have B1 : Below w.heap.size w W1 := by rw [hW1]; exact ((Below.refl _ _).alloc (Nat.le_refl _) _).alloc (by simp) _
  replace T : Tb W1 := by rw [hW1]; exact (T.alloc _).alloc _
  rewrite [← hW1]
  clear hW1
  have kkx2 := x2.cells
  have kkx3 := x3.cells
  first | go_region_held3 (fun w' => w'.cell? ⟨w.heap.size, 0, none⟩ = some (.int .i64 a) ∧ w'.cell? ⟨w.heap.size, 1, none⟩ = some (.int .i64 b) ∧ w'.cell? ⟨w.heap.size + 1, 0, none⟩ = some (.int .i64 c) ∧ w'.cell? ⟨w.heap.size + 1, 1, none⟩ = some (.int .i64 d)) (go_keep)
    (first
      | (go_at_call 11; (with_reducible refine (C1.out _).mono ?_); rintro e w60 ⟨rfl, b60⟩; have yx2 : Box w60 (w.heap.size) 23 #[.int .i64 a, .int .i64 b] := (by first | exact (x2).drew.later b60); have kyx2 := yx2.cells; have yx3 : Box w60 (w.heap.size + 1) 23 #[.int .i64 c, .int .i64 d] := (by first | exact (x3).drew.later b60); have kyx3 := yx3.cells; have cb : Below W1.heap.size W1 w60 := (by first | exact (below_undrew b60)); have T := T.drew.below b60 (Nat.le_refl _))
      | (go_at_call 12; (with_reducible refine (C2.out _).mono ?_); rintro e w61 ⟨rfl, b61⟩; have yx2 : Box w61 (w.heap.size) 23 #[.int .i64 a, .int .i64 b] := (by first | exact (yx2).later b61); have kyx2 := yx2.cells; have yx3 : Box w61 (w.heap.size + 1) 23 #[.int .i64 c, .int .i64 d] := (by first | exact (yx3).later b61); have kyx3 := yx3.cells; have cb : Below W1.heap.size W1 w61 := (by first | exact cb.trans (b61.mono cb.size)); have T := T.below b61 (Nat.le_refl _))
      | (go_at_call 13; (with_reducible refine (N1.out _ T).mono ?_); rintro e w62 ⟨rfl, b62⟩; have yx2 : Box w62 (w.heap.size) 23 #[.int .i64 a, .int .i64 b] := (by first | exact (yx2).later b62); have kyx2 := yx2.cells; have yx3 : Box w62 (w.heap.size + 1) 23 #[.int .i64 c, .int .i64 d] := (by first | exact (yx3).later b62); have kyx3 := yx3.cells; have cb : Below W1.heap.size W1 w62 := (by first | exact cb.trans (b62.mono cb.size)); have T := T.below b62 (Nat.le_refl _))
      | (go_at_call 14; (with_reducible refine (N2.out _).mono ?_); rintro e w63 ⟨rfl, b63⟩; have yx2 : Box w63 (w.heap.size) 23 #[.int .i64 a, .int .i64 b] := (by first | exact (yx2).later b63); have kyx2 := yx2.cells; have yx3 : Box w63 (w.heap.size + 1) 23 #[.int .i64 c, .int .i64 d] := (by first | exact (yx3).later b63); have kyx3 := yx3.cells; have cb : Below W1.heap.size W1 w63 := (by first | exact cb.trans (b63.mono cb.size)); have T := T.below b63 (Nat.le_refl _))
      | (go_at_call 15; (with_reducible refine (S1.out _ T).mono ?_); rintro e w64 ⟨rfl, b64⟩; have yx2 : Box w64 (w.heap.size) 23 #[.int .i64 a, .int .i64 b] := (by first | exact (yx2).later b64); have kyx2 := yx2.cells; have yx3 : Box w64 (w.heap.size + 1) 23 #[.int .i64 c, .int .i64 d] := (by first | exact (yx3).later b64); have kyx3 := yx3.cells; have cb : Below W1.heap.size W1 w64 := (by first | exact cb.trans (b64.mono cb.size)); have T := T.below b64 (Nat.le_refl _))
      | (go_at_call 16; (with_reducible refine (S2.out _).mono ?_); rintro e w65 ⟨rfl, b65⟩; have yx2 : Box w65 (w.heap.size) 23 #[.int .i64 a, .int .i64 b] := (by first | exact (yx2).later b65); have kyx2 := yx2.cells; have yx3 : Box w65 (w.heap.size + 1) 23 #[.int .i64 c, .int .i64 d] := (by first | exact (yx3).later b65); have kyx3 := yx3.cells; have cb : Below W1.heap.size W1 w65 := (by first | exact cb.trans (b65.mono cb.size)); have T := T.below b65 (Nat.le_refl _))
      | (go_at_call 17; (with_reducible refine (L1.out _).mono ?_); rintro e w66 ⟨rfl, b66⟩; have yx2 : Box w66 (w.heap.size) 23 #[.int .i64 a, .int .i64 b] := (by first | exact (yx2).later b66); have kyx2 := yx2.cells; have yx3 : Box w66 (w.heap.size + 1) 23 #[.int .i64 c, .int .i64 d] := (by first | exact (yx3).later b66); have kyx3 := yx3.cells; have cb : Below W1.heap.size W1 w66 := (by first | exact cb.trans (b66.mono cb.size)); have T := T.below b66 (Nat.le_refl _))
      | (go_at_call 18; (with_reducible refine (L2.out _).mono ?_); rintro e w67 ⟨rfl, b67⟩; have yx2 : Box w67 (w.heap.size) 23 #[.int .i64 a, .int .i64 b] := (by first | exact (yx2).later b67); have kyx2 := yx2.cells; have yx3 : Box w67 (w.heap.size + 1) 23 #[.int .i64 c, .int .i64 d] := (by first | exact (yx3).later b67); have kyx3 := yx3.cells; have cb : Below W1.heap.size W1 w67 := (by first | exact cb.trans (b67.mono cb.size)); have T := T.below b67 (Nat.le_refl _))
      | (go_at_call 19; (with_reducible refine (AW.out _ T).mono ?_); rintro e w68 ⟨rfl, b68⟩; have yx2 : Box w68 (w.heap.size) 23 #[.int .i64 a, .int .i64 b] := (by first | exact (yx2).later b68); have kyx2 := yx2.cells; have yx3 : Box w68 (w.heap.size + 1) 23 #[.int .i64 c, .int .i64 d] := (by first | exact (yx3).later b68); have kyx3 := yx3.cells; have cb : Below W1.heap.size W1 w68 := (by first | exact cb.trans (b68.mono cb.size)); have T := T.below b68 (Nat.le_refl _)))
  go_wp2
  go_ret
  exact ⟨rfl, B1.trans (cb.mono B1.size)⟩

theorem rtells_law (a b c d : Int) (w : World) (T : Tb w) :
    Calls Tryd.prog 3 #[.agg #[.int .i64 a, .int .i64 b], .agg #[.int .i64 c, .int .i64 d]] w fun e w' => e = .returned (.bool true) ∧ Below w.heap.size w w' := by
  have hs : ∀ w, Calls Tryd.prog 16 #[.agg #[.int .i64 a, .int .i64 b], .agg #[.int .i64 c, .int .i64 d]] w fun e' w' => e' = .returned (.bool (sameI a b c d)) ∧ Below w.heap.size w w' := fun w => by
    refine r4same_any a b c d w _ (Lib.hid fun h1 h2 => ?_) (Lib.hid fun h => ?_)
    · have q := same_iff h1 h2
      rcases (by omega : a * d < c * b ∨ a * d = c * b ∨ c * b < a * d) with h | h | h
      · rw [cmpI_lt h, show sameI a b c d = false from Bool.eq_false_iff.2 fun h' => by have := q.1 h'; omega]; rfl
      · rw [cmpI_eq h, q.2 h]; rfl
      · rw [cmpI_gt h, show sameI a b c d = false from Bool.eq_false_iff.2 fun h' => by have := q.1 h'; omega]; rfl
    · cases h1 : okR a b
      · unfold sameI; rw [h1]; rfl
      · rcases h with h | h
        · rw [h1] at h; cases h
        · obtain ⟨b1, b2, _, _⟩ := (okR_iff a b).1 h1
          obtain ⟨g1, g2, g3, e1, e2, e3, e4⟩ := gcdI_spec b1 b2
          unfold sameI normI
          rw [h1, h, if_pos rfl, if_neg (by decide)]
          have : ¬ ((lowI a b).1 = 0) := by unfold lowI; simp only; omega
          simp [this]
  have hl : ∀ w, Calls Tryd.prog 18 #[.agg #[.int .i64 a, .int .i64 b], .agg #[.int .i64 c, .int .i64 d]] w fun e' w' => e' = .returned (.bool (lessI a b c d)) ∧ Below w.heap.size w w' := fun w => by
    refine r4less_any a b c d w _ (Lib.hid fun h1 h2 => ?_) (Lib.hid fun h => ?_)
    · have q := less_iff h1 h2
      rcases (by omega : a * d < c * b ∨ a * d = c * b ∨ c * b < a * d) with h | h | h
      · rw [cmpI_lt h, q.2 h]; rfl
      · rw [cmpI_eq h, show lessI a b c d = false from Bool.eq_false_iff.2 fun h' => by have := q.1 h'; omega]; rfl
      · rw [cmpI_gt h, show lessI a b c d = false from Bool.eq_false_iff.2 fun h' => by have := q.1 h'; omega]; rfl
    · unfold lessI
      rcases h with h | h <;> rw [h] <;> simp
  exact rtells_walk a b c d _ _ _ _ _ w T (Lib.hid fun w T => rawake_any w T) (Lib.hid fun w => check_any a b w) (Lib.hid fun w => r4check_any a b w) (Lib.hid fun w T => norm_any a b w T) (Lib.hid fun w => r4norm_any a b w) (Lib.hid fun w T => same_any a b c d w T) (Lib.hid hs) (Lib.hid fun w => less_any a b c d w) (Lib.hid hl)
end Go.Proofs.YtkjdkhcpeaepoaaDoor
