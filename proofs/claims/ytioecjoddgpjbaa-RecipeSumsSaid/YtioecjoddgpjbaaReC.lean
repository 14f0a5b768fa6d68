/-
  Chapter 29 in plain lists: cells, values, recipes, what they read; nothing of the program is in sight.
-/
import Derived.Test.YtioecjoddgpjbaaEn
namespace Go.Proofs.Ytioecjoddgpjbaa

structure Cel where
  r : Int
  e : Int
  a : Int
  p : Int
  c : Int
  q : Int
deriving DecidableEq
structure Vl where
  n : Int
  e : Int
deriving DecidableEq
structure Rcp where
  base : Vl
  plus : List Cel
  minus : List Cel
  sc : Cel
  rt : Bool
  num : Int
  den : Int
  has : Bool
deriving DecidableEq
def CelE : Enc Cel where
  v c := [.int .i64 c.r, .int .i64 c.e, .int .i64 c.a, .int .i64 c.p, .int .i64 c.c, .int .i64 c.q]
  n := 6
  pos := by decide
  len _ := rfl
  one _ := by simp [Value.oneCell']
def VlE : Enc Vl where
  v x := [.int .i64 x.n, .int .i64 x.e]
  n := 2
  pos := by decide
  len _ := rfl
  one _ := by simp [Value.oneCell']
/-- A row without what it had already. -/
def unqS (out : List Cel) (x : Cel) : List Cel := if x ∈ out then out else out ++ [x]
def unq (l : List Cel) : List Cel := l.foldl unqS []
def allC (r : Rcp) : List Cel := r.plus ++ r.minus ++ if r.rt = true then [r.sc] else []
def readsR (r : Rcp) : List Cel := unq (allC r)
theorem unq_snoc (l : List Cel) (x : Cel) : unq (l ++ [x]) = unqS (unq l) x := by unfold unq; rw [List.foldl_append]; rfl
theorem mem_fold {x : Cel} : ∀ (l a : List Cel), x ∈ l.foldl unqS a ↔ x ∈ l ∨ x ∈ a
  | [], a => by simp
  | y :: r, a => by
    rw [List.foldl_cons, mem_fold r]
    unfold unqS
    split
    · rename_i h
      constructor
      · rintro (h1 | h1)
        · exact .inl (List.mem_cons_of_mem _ h1)
        · exact .inr h1
      · rintro (h1 | h1)
        · rcases List.mem_cons.1 h1 with rfl | h1
          · exact .inr h
          · exact .inl h1
        · exact .inr h1
    · rw [List.mem_append, List.mem_singleton, List.mem_cons]
      constructor
      · rintro (h1 | h1 | h1)
        · exact .inl (.inr h1)
        · exact .inr h1
        · exact .inl (.inl h1)
      · rintro ((h1 | h1) | h1)
        · exact .inr (.inr h1)
        · exact .inl h1
        · exact .inr (.inl h1)
theorem mem_unq {x : Cel} {l : List Cel} : x ∈ unq l ↔ x ∈ l := by unfold unq; rw [mem_fold]; simp
theorem fold_nodup : ∀ (l : List Cel) {a : List Cel}, a.Nodup → (l.foldl unqS a).Nodup
  | [], _, h => h
  | y :: r, a, h => by
    rw [List.foldl_cons]
    refine fold_nodup r ?_
    unfold unqS
    split
    · exact h
    · rename_i hy
      exact List.nodup_append.2 ⟨h, by simp, fun x hx z hz => by rw [List.mem_singleton.1 hz]; exact fun e => hy (e ▸ hx)⟩
theorem unq_nodup (l : List Cel) : (unq l).Nodup := fold_nodup l List.nodup_nil
theorem fold_len : ∀ (l a : List Cel), (l.foldl unqS a).length ≤ a.length + l.length
  | [], _ => Nat.le_refl _
  | y :: r, a => by
    rw [List.foldl_cons, List.length_cons]
    have h1 := fold_len r (unqS a y)
    have h2 : (unqS a y).length ≤ a.length + 1 := by unfold unqS; split <;> simp
    omega
theorem unq_len (l : List Cel) : (unq l).length ≤ l.length := by have := fold_len l []; simpa [unq] using this
/-- The value of a cell among those of some. -/
def ofV : List Cel → List Vl → Cel → Vl
  | c :: r, v :: m, x => if c = x then v else ofV r m x
  | _, _, _ => ⟨0, 0⟩
theorem ofV_get : ∀ {l : List Cel} {i : List Vl} {k : Nat} (hl : k < l.length) (hi : k < i.length) {x : Cel}, l[k] = x → (∀ j (hj : j < k), l[j] ≠ x) → ofV l i x = i[k]
  | c :: r, v :: m, 0, hl, hi, x, h, _ => by unfold ofV; rw [if_pos (show c = x from h)]; rfl
  | c :: r, v :: m, k + 1, hl, hi, x, h, hn => by
    unfold ofV
    rw [if_neg (show ¬ c = x from hn 0 (by omega))]
    exact ofV_get (by simpa using hl) (by simpa using hi) h fun j hj => hn (j + 1) (by omega)
theorem ofV_none : ∀ {l : List Cel} {i : List Vl} {x : Cel}, x ∉ l → ofV l i x = ⟨0, 0⟩
  | [], _, _, _ => by unfold ofV; rfl
  | c :: r, [], _, _ => by unfold ofV; rfl
  | c :: r, v :: m, x, h => by
    unfold ofV
    rw [if_neg (fun e => h (by rw [e]; exact List.mem_cons_self)), ofV_none fun e => h (List.mem_cons_of_mem _ e)]
theorem ofV_snoc : ∀ {l : List Cel} {i : List Vl} {c x : Cel} {v : Vl}, l.length = i.length → ofV (l ++ [c]) (i ++ [v]) x = if x ∈ l then ofV l i x else if c = x then v else ⟨0, 0⟩
  | [], [], c, x, v, _ => by simp [ofV]
  | [], _ :: _, _, _, _, h => by simp at h
  | _ :: _, [], _, _, _, h => by simp at h
  | d :: r, u :: m, c, x, v, h => by
    have ih := ofV_snoc (l := r) (i := m) (c := c) (x := x) (v := v) (by simpa using h)
    rw [List.cons_append, List.cons_append]
    unfold ofV
    by_cases hd : d = x
    · rw [if_pos hd, if_pos (by rw [hd]; exact List.mem_cons_self), if_pos hd]
    · rw [if_neg hd, ih]
      by_cases hx : x ∈ r
      · rw [if_pos hx, if_pos (List.mem_cons_of_mem _ hx), if_neg hd]
      · rw [if_neg hx, if_neg (fun hm => (List.mem_cons.1 hm).elim (fun e => hd e.symm) hx)]
end Go.Proofs.Ytioecjoddgpjbaa
