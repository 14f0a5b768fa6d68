/-
  The program's wide.Cmp, Sign; the reference's Fits, Told.
-/
import Derived.Test.YtioecjoddgpjbaaWide2
namespace Go.Proofs.Ytioecjoddgpjbaa
open Go.RowKit

theorem RowAt.lit {w : World} {t : TypeId} (l : List Int) (cs : Array Value) (h : cs = (ivals l).toArray) : RowAt (w.alloc (.cells cs t)) (some ⟨w.heap.size, 0, none⟩) (ivals l) := by
  subst h
  refine RowAt.of_cells fun j u hj => ?_
  rw [addr_add, (Box.new w t _).cells]
  simpa using hj

def orI (p q : Int) : Int := if p = 0 then q else p
theorem cmpI_lt {a b : Int} (h : a < b) : cmpI a b = -1 := by unfold cmpI; rw [if_pos h]
theorem cmpI_gt {a b : Int} (h : b < a) : cmpI a b = 1 := by unfold cmpI; rw [if_neg (by omega), if_pos h]
theorem cmpI_eq {a b : Int} (h : a = b) : cmpI a b = 0 := by unfold cmpI; rw [if_neg (by omega), if_neg (by omega)]
theorem orI_cmp (x y : Int) : orI (cmpI (x / 18446744073709551616) (y / 18446744073709551616)) (cmpI (x % 18446744073709551616) (y % 18446744073709551616)) = cmpI x y := by
  unfold orI
  rcases (by omega : x / 18446744073709551616 < y / 18446744073709551616 ∨ y / 18446744073709551616 < x / 18446744073709551616 ∨ x / 18446744073709551616 = y / 18446744073709551616) with h | h | h
  · rw [cmpI_lt h, cmpI_lt (show x < y by omega), if_neg (by omega)]
  · rw [cmpI_gt h, cmpI_gt (show y < x by omega), if_neg (by omega)]
  · rw [cmpI_eq h, if_pos rfl]
    rcases (by omega : x % 18446744073709551616 < y % 18446744073709551616 ∨ y % 18446744073709551616 < x % 18446744073709551616 ∨ x % 18446744073709551616 = y % 18446744073709551616) with g | g | g
    · rw [cmpI_lt g, cmpI_lt (show x < y by omega)]
    · rw [cmpI_gt g, cmpI_gt (show y < x by omega)]
    · rw [cmpI_eq g, cmpI_eq (show x = y by omega)]

section
variable {S : Nat → Prop} {w : World} {v : Value} {z : Int} {L : Nat}
theorem BigIs.form2 (h : BigIs S w v z L) : ∃ t A n c, v = .agg #[.bool t, .slice A n c] := by
  obtain ⟨A, c, xs, e, _⟩ := h
  exact ⟨_, A, _, c, e⟩

/-- Does a number fit? -/
def fitsB (z : Int) : Bool := decide (-170141183460469231731687303715884105728 ≤ z) && decide (z ≤ 170141183460469231731687303715884105727)
theorem fitsB_in {z : Int} (h : W128 z) : fitsB z = true := by unfold fitsB; rw [decide_eq_true h.1, decide_eq_true h.2]; rfl
theorem fitsB_out {z : Int} (h : z < -170141183460469231731687303715884105728 ∨ 170141183460469231731687303715884105727 < z) : fitsB z = false := by
  unfold fitsB
  rcases h with h | h
  · rw [decide_eq_false (by omega)]; rfl
  · rw [decide_eq_false (show ¬ z ≤ 170141183460469231731687303715884105727 by omega), Bool.and_false]
theorem cmpI_range (a b : Int) : -1 ≤ cmpI a b ∧ cmpI a b ≤ 1 := by
  unfold cmpI
  split
  · omega
  · split <;> omega

end
end Go.Proofs.Ytioecjoddgpjbaa
