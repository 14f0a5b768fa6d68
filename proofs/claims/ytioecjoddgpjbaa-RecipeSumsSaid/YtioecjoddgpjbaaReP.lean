/-
  Chapters 28 and 29 in plain lists: net sums of values, what recipes come to; nothing of the program is in sight.
-/
import Derived.Test.YtioecjoddgpjbaaReC
import Derived.Test.YtioecjoddgpjbaaRb
import Derived.Test.YtioecjoddgpjbaaY
namespace Go.Proofs.Ytioecjoddgpjbaa

/-- A value of a number, or an error. -/
def toldV (n e : Int) : Vl := if e ≠ 0 then ⟨0, e⟩ else ⟨n, 0⟩
/-- The first error of values; 0: there is none. -/
def faultV : List Vl → Int
  | [] => 0
  | x :: r => if x.e ≠ 0 then x.e else faultV r
theorem faultV_append (l m : List Vl) : faultV (l ++ m) = if faultV l ≠ 0 then faultV l else faultV m := by
  induction l with
  | nil => simp [faultV]
  | cons x r ih =>
    rw [List.cons_append]
    show (if x.e ≠ 0 then x.e else faultV (r ++ m)) = if (if x.e ≠ 0 then x.e else faultV r) ≠ 0 then (if x.e ≠ 0 then x.e else faultV r) else faultV m
    by_cases h : x.e = 0
    · rw [if_neg (show ¬ x.e ≠ 0 from fun h2 => h2 h), if_neg (show ¬ x.e ≠ 0 from fun h2 => h2 h)]; exact ih
    · rw [if_pos h, if_pos h, if_pos h]
/-- The first error while it is being looked for. -/
def fstE (f : Int) (x : Vl) : Int := if f = 0 then x.e else f
theorem fold_fst (l : List Vl) (f : Int) : l.foldl fstE f = if f ≠ 0 then f else faultV l := by
  induction l generalizing f with
  | nil => by_cases h : f = 0 <;> simp [faultV, h]
  | cons x r ih =>
    rw [List.foldl_cons, ih]
    unfold fstE
    by_cases h : f = 0
    · rw [if_pos h, if_neg (show ¬ f ≠ 0 from fun h2 => h2 h)]; rfl
    · rw [if_neg h]
      rw [if_pos h, if_pos h]
def amts (l : List Vl) : List Int := l.map (·.n)
theorem amts_len (l : List Vl) : (amts l).length = l.length := by simp [amts]
theorem amts_append (l m : List Vl) : amts (l ++ m) = amts l ++ amts m := by simp [amts]
def netV (p m : List Vl) : Vl := if faultV (p ++ m) ≠ 0 then ⟨0, faultV (p ++ m)⟩ else toldV (toldI (sumI (amts p) - sumI (amts m))).1 (toldI (sumI (amts p) - sumI (amts m))).2
def scaleV (v : Vl) (num den : Int) (has : Bool) : Vl := if v.e ≠ 0 then ⟨0, v.e⟩ else if v.n = 0 then ⟨0, 0⟩ else if has = false then ⟨0, 40⟩ else toldV (applyI v.n num den).1 (applyI v.n num den).2
def plusV (r : Rcp) (l : List Cel) (i : List Vl) : List Vl := r.base :: r.plus.map (ofV l i) ++ if r.rt = true then [scaleV (ofV l i r.sc) r.num r.den r.has] else []
def evalR (r : Rcp) (i : List Vl) : Vl := if (readsR r).length ≠ i.length then ⟨0, 2⟩ else netV (plusV r (readsR r) i) (r.minus.map (ofV (readsR r) i))
end Go.Proofs.Ytioecjoddgpjbaa
