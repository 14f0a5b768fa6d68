/-
  The first place of a list where something holds; plain Lean.
-/
import Derived.Test.YtioecjoddgpjbaaK
namespace Go.Proofs.Ytioecjoddgpjbaa

/-- The first place at which p holds; the length if there is none. -/
def firstOf (p : Int → Bool) : List Int → Nat
  | [] => 0
  | c :: r => if p c then 0 else firstOf p r + 1
theorem firstOf_le (p : Int → Bool) (l : List Int) : firstOf p l ≤ l.length := by
  induction l with
  | nil => exact Nat.le_refl _
  | cons c r ih => unfold firstOf; split <;> simp <;> omega
theorem firstOf_step {p : Int → Bool} {l : List Int} {k : Nat} (hk : k < l.length) (h : k ≤ firstOf p l) (hp : p l[k] = false) : k + 1 ≤ firstOf p l := by
  induction l generalizing k with
  | nil => simp at hk
  | cons c r ih =>
    unfold firstOf at h ⊢
    cases k with
    | zero => simp at hp; simp [hp]
    | succ k =>
      split at h
      · omega
      · rename_i hc
        rw [if_neg hc]
        have := ih (k := k) (by simpa using hk) (by omega) (by simpa using hp)
        omega
theorem firstOf_hit {p : Int → Bool} {l : List Int} {k : Nat} (hk : k < l.length) (h : k ≤ firstOf p l) (hp : p l[k] = true) : firstOf p l = k := by
  induction l generalizing k with
  | nil => simp at hk
  | cons c r ih =>
    unfold firstOf at h ⊢
    cases k with
    | zero => simp at hp; simp [hp]
    | succ k =>
      split at h
      · omega
      · rename_i hc
        rw [if_neg hc, ih (k := k) (by simpa using hk) (by omega) (by simpa using hp)]
theorem firstOf_end {p : Int → Bool} {l : List Int} (h : l.length ≤ firstOf p l) : firstOf p l = l.length := by
  have := firstOf_le p l
  omega
theorem firstOf_mem {v : Int} {l : List Int} : firstOf (fun x => x == v) l < l.length ↔ v ∈ l := by
  induction l with
  | nil => simp [firstOf]
  | cons c r ih =>
    unfold firstOf
    by_cases h : c = v
    · simp [h]
    · have : (c == v) = false := by simpa using h
      simp only [this, Bool.false_eq_true, if_false, List.length_cons, List.mem_cons]
      rw [show (firstOf (fun x => x == v) r + 1 < r.length + 1) ↔ v ∈ r by rw [← ih]; omega]
      constructor
      · exact Or.inr
      · rintro (h1 | h1)
        · exact absurd h1.symm h
        · exact h1
/-- What an index function tells. -/
def idxI (n len : Nat) : Int := if n < len then n else -1
theorem idxI_hit {n len : Nat} (h : n < len) : idxI n len = n := if_pos h
theorem idxI_none {len : Nat} : idxI len len = -1 := if_neg (by omega)
end Go.Proofs.Ytioecjoddgpjbaa
