/-
  Chapter 24 in plain lists: the journal's lines, the first and last line of an entry, what reverses what; nothing of the program is in sight.
-/
import Derived.Test.YthkaohjgldoipaaK3
namespace Go.Proofs.Ythkaohjgldoipaa

structure Ln where
  e : Int
  a : Int
  q : Int
  m : Int
deriving DecidableEq
structure Pst where
  id : Int
  en : Int
  pe : Int
  ln : Ln
deriving DecidableEq
/-- An entry; A, c: where its lines lie. -/
structure Ent where
  p : Int
  r : Int
  A : Option Addr
  c : Nat
  ls : List Ln
/-- Lines of an entry as they are posted; n stand ahead. -/
def postL (pe en : Int) : Nat → List Ln → List Pst
  | _, [] => []
  | n, x :: r => ⟨(n : Int) + 1, en, pe, x⟩ :: postL pe en (n + 1) r
theorem postL_len {pe en : Int} {ls : List Ln} : ∀ {n : Nat}, (postL pe en n ls).length = ls.length := by
  induction ls with
  | nil => intro n; rfl
  | cons x r ih => intro n; simp [postL, ih]
theorem postL_append {pe en : Int} {ls ms : List Ln} : ∀ {n : Nat}, postL pe en n (ls ++ ms) = postL pe en n ls ++ postL pe en (n + ls.length) ms := by
  induction ls with
  | nil => intro n; rfl
  | cons x r ih => intro n; simp only [List.cons_append, postL, ih, List.length_cons]; rw [show n + 1 + r.length = n + (r.length + 1) by omega]
/-- Entries as they are posted: i entries and n lines stand ahead. -/
def postE : Nat → Nat → List Ent → List Pst
  | _, _, [] => []
  | i, n, e :: r => postL e.p ((i : Int) + 1) n e.ls ++ postE (i + 1) (n + e.ls.length) r
theorem postE_append {l m : List Ent} : ∀ {i n : Nat}, postE i n (l ++ m) = postE i n l ++ postE (i + l.length) (n + (postE i n l).length) m := by
  induction l with
  | nil => intro i n; rfl
  | cons e r ih =>
    intro i n
    simp only [List.cons_append, postE, ih, List.append_assoc, List.length_append, List.length_cons, postL_len]
    rw [show i + 1 + r.length = i + (r.length + 1) by omega, Nat.add_assoc]
def linesJ (l : List Ent) : List Pst := postE 0 0 l
/-- So far: all lines of the first i entries, and j of the next one. -/
def outJ (l : List Ent) (i j : Nat) : List Pst :=
  linesJ (l.take i) ++ match l[i]? with
    | some e => postL e.p ((i : Int) + 1) (linesJ (l.take i)).length (e.ls.take j)
    | none => []
theorem outJ_get {l : List Ent} {i j : Nat} (h : i < l.length) : outJ l i j = linesJ (l.take i) ++ postL l[i].p ((i : Int) + 1) (linesJ (l.take i)).length (l[i].ls.take j) := by
  unfold outJ
  rw [List.getElem?_eq_getElem h]
theorem outJ_zero (l : List Ent) (i : Nat) : outJ l i 0 = linesJ (l.take i) := by
  unfold outJ
  cases l[i]? <;> simp [postL]
theorem linesJ_succ {l : List Ent} {i : Nat} (h : i < l.length) : linesJ (l.take (i + 1)) = linesJ (l.take i) ++ postL l[i].p ((i : Int) + 1) (linesJ (l.take i)).length l[i].ls := by
  rw [List.take_succ_eq_append_getElem h]
  unfold linesJ
  rw [postE_append]
  simp only [postE, List.append_nil, List.length_take, Nat.min_eq_left (Nat.le_of_lt h), Nat.zero_add]
theorem outJ_all {l : List Ent} {i : Nat} (h : i < l.length) : outJ l i l[i].ls.length = outJ l (i + 1) 0 := by
  rw [outJ_get h, List.take_length, outJ_zero, linesJ_succ h]
theorem outJ_step {l : List Ent} {i j : Nat} (h : i < l.length) (hj : j < l[i].ls.length) : outJ l i (j + 1) = outJ l i j ++ [⟨((outJ l i j).length : Int) + 1, (i : Int) + 1, l[i].p, l[i].ls[j]⟩] := by
  rw [outJ_get h, outJ_get h, List.take_succ_eq_append_getElem hj, postL_append, List.append_assoc]
  simp only [postL, List.length_append, postL_len, List.length_take, Nat.min_eq_left (Nat.le_of_lt hj)]
theorem outJ_end (l : List Ent) : outJ l l.length 0 = linesJ l := by rw [outJ_zero, List.take_length]
theorem linesJ_pre (l : List Ent) (i : Nat) : linesJ (l.take i) <+: linesJ l := by
  conv => rhs; rw [← List.take_append_drop i l]
  unfold linesJ
  rw [postE_append]
  exact List.prefix_append _ _
theorem outJ_pre {l : List Ent} {i j : Nat} (h : i < l.length) : outJ l i j <+: linesJ l := by
  refine List.IsPrefix.trans ?_ (linesJ_pre l (i + 1))
  rw [outJ_get h, linesJ_succ h]
  conv => rhs; rw [← List.take_append_drop j l[i].ls, postL_append]
  rw [← List.append_assoc]
  exact List.prefix_append _ _
theorem outJ_le {l : List Ent} {i j : Nat} (h : i < l.length) : (outJ l i j).length ≤ (linesJ l).length := (outJ_pre h).length_le
theorem outJ_ls {l : List Ent} {i : Nat} (h : i < l.length) : l[i].ls.length ≤ (linesJ l).length := by
  have := outJ_le (j := l[i].ls.length) h
  rw [outJ_get h, List.length_append, postL_len, List.take_length] at this
  omega
theorem outJ_lt {l : List Ent} {i j : Nat} (h : i < l.length) (hj : j < l[i].ls.length) : (outJ l i j).length < (linesJ l).length := by
  have := outJ_le (j := j + 1) h
  rw [outJ_step h hj] at this
  simp at this
  omega
/-- The numbers are 1, 2, 3 and so on. -/
theorem postL_id {pe en : Int} {ls : List Ln} : ∀ {n k : Nat} (h : k < (postL pe en n ls).length), (postL pe en n ls)[k].id = ((n + k : Nat) : Int) + 1 := by
  induction ls with
  | nil => intro n k h; simp [postL] at h
  | cons x r ih =>
    intro n k h
    cases k with
    | zero => rfl
    | succ k =>
      have h' : k < (postL pe en (n + 1) r).length := by simpa [postL] using h
      have := ih h'
      simp only [postL, List.getElem_cons_succ]
      rw [this]
      omega
theorem postE_id {l : List Ent} : ∀ {i n k : Nat} (h : k < (postE i n l).length), (postE i n l)[k].id = ((n + k : Nat) : Int) + 1 := by
  induction l with
  | nil => intro i n k h; simp [postE] at h
  | cons e r ih =>
    intro i n k h
    by_cases hk : k < e.ls.length
    · have h' : k < (postL e.p ((i : Int) + 1) n e.ls).length := by rw [postL_len]; exact hk
      simp only [postE]
      rw [List.getElem_append_left h']
      exact postL_id h'
    · have hk' : k - e.ls.length < (postE (i + 1) (n + e.ls.length) r).length := by
        simp only [postE, List.length_append, postL_len] at h
        omega
      simp only [postE]
      rw [List.getElem_append_right (by rw [postL_len]; omega)]
      simp only [postL_len]
      rw [ih hk']
      omega
theorem linesJ_id {l : List Ent} {k : Nat} (h : k < (linesJ l).length) : (linesJ l)[k].id = (k : Int) + 1 := by
  have := postE_id (i := 0) (n := 0) h
  rw [Nat.zero_add] at this
  exact this
/-- The line of a number. -/
def noP : Pst := ⟨0, 0, 0, ⟨0, 0, 0, 0⟩⟩
def lineJ (l : List Ent) (n : Int) : Pst × Bool := if 1 ≤ n then match (linesJ l)[n.toNat - 1]? with | some p => (p, true) | none => (noP, false) else (noP, false)
theorem lineJ_some {l : List Ent} {k : Nat} (h : k < (linesJ l).length) : lineJ l ((k : Int) + 1) = ((linesJ l)[k], true) := by
  unfold lineJ
  rw [if_pos (by omega), show ((k : Int) + 1).toNat - 1 = k by omega, List.getElem?_eq_getElem h]
theorem lineJ_none {l : List Ent} {n : Int} (h : n < 1 ∨ ((linesJ l).length : Int) < n) : lineJ l n = (noP, false) := by
  unfold lineJ
  split
  · rw [List.getElem?_eq_none (by omega)]
  · rfl
/-- The program's search. -/
theorem lineJ_hit {l : List Ent} {pre : List Pst} {x : Pst} {n : Int} (h : pre ++ [x] <+: linesJ l) (hx : x.id = n) : lineJ l n = (x, true) := by
  have hk : pre.length < (linesJ l).length := by have := h.length_le; simp at this; omega
  have he : (linesJ l)[pre.length] = x := by
    have := h.getElem (i := pre.length) (by simp)
    rw [← this]; simp
  have hid := linesJ_id hk
  rw [he, hx] at hid
  subst hid
  rw [lineJ_some hk, he]
theorem lineJ_miss {l : List Ent} {n : Int} (h : ∀ x ∈ linesJ l, x.id ≠ n) : lineJ l n = (noP, false) := by
  unfold lineJ
  split
  · rename_i h1
    cases he : (linesJ l)[n.toNat - 1]? with
    | none => rfl
    | some p =>
      obtain ⟨hk, hp⟩ := List.getElem?_eq_some_iff.1 he
      have := linesJ_id hk
      exact absurd (by omega) (h _ (List.getElem_mem hk))
  · rfl

/-- The first and the last line of an entry, as the program gathers them. -/
def idStep (n : Int) (s : Int × Int) (x : Pst) : Int × Int := if x.en ≠ n then s else (if s.1 = 0 then x.id else s.1, x.id)
def idsF (n : Int) (xs : List Pst) : Int × Int := xs.foldl (idStep n) (0, 0)
theorem idsF_snoc (n : Int) (xs : List Pst) (x : Pst) : idsF n (xs ++ [x]) = idStep n (idsF n xs) x := by simp [idsF]
/-- The document's. -/
def idsJ (l : List Ent) (n : Int) : Int × Int :=
  if n < 1 then (0, 0) else match l[n.toNat - 1]? with
  | none => (0, 0)
  | some e => if e.ls = [] then (0, 0) else ((((linesJ (l.take (n.toNat - 1))).length : Nat) : Int) + 1, (((linesJ (l.take (n.toNat - 1))).length + e.ls.length : Nat) : Int))
theorem foldl_other {n : Int} {xs : List Pst} {s : Int × Int} (h : ∀ x ∈ xs, x.en ≠ n) : xs.foldl (idStep n) s = s := by
  induction xs generalizing s with
  | nil => rfl
  | cons x r ih =>
    rw [List.foldl_cons, show idStep n s x = s from if_pos (h x (by simp))]
    exact ih fun y hy => h y (by simp [hy])
theorem postL_en {pe en : Int} {ls : List Ln} : ∀ {n : Nat}, ∀ x ∈ postL pe en n ls, x.en = en := by
  induction ls with
  | nil => intro n x h; simp [postL] at h
  | cons y r ih =>
    intro n x h
    rcases List.mem_cons.1 h with rfl | h
    · rfl
    · exact ih x h
theorem postE_en {l : List Ent} : ∀ {i n : Nat}, ∀ x ∈ postE i n l, (i : Int) + 1 ≤ x.en ∧ x.en ≤ i + l.length := by
  induction l with
  | nil => intro i n x h; simp [postE] at h
  | cons e r ih =>
    intro i n x h
    simp only [postE, List.mem_append] at h
    rcases h with h | h
    · have := postL_en x h; simp; omega
    · have := ih x h; simp at this ⊢; omega
theorem foldl_same {pe en : Int} {ls : List Ln} : ∀ {n : Nat} {s : Int × Int}, 0 < s.1 → ls ≠ [] → (postL pe en n ls).foldl (idStep en) s = (s.1, ((n + ls.length : Nat) : Int)) := by
  induction ls with
  | nil => intro n s _ h; exact absurd rfl h
  | cons x r ih =>
    intro n s hs _
    simp only [postL, List.foldl_cons]
    rw [show idStep en s ⟨(n : Int) + 1, en, pe, x⟩ = (s.1, (n : Int) + 1) by simp [idStep]; omega]
    by_cases hr : r = []
    · subst hr; simp [postL]
    · have h0 : (0 : Int) < (s.1, (n : Int) + 1).1 := hs
      rw [ih h0 hr]
      simp only [List.length_cons]
      rw [show n + 1 + r.length = n + (r.length + 1) by omega]
theorem foldl_new {pe en : Int} {ls : List Ln} {n : Nat} (h : ls ≠ []) : (postL pe en n ls).foldl (idStep en) (0, 0) = ((n : Int) + 1, ((n + ls.length : Nat) : Int)) := by
  cases ls with
  | nil => exact absurd rfl h
  | cons x r =>
    simp only [postL, List.foldl_cons]
    rw [show idStep en (0, 0) ⟨(n : Int) + 1, en, pe, x⟩ = ((n : Int) + 1, (n : Int) + 1) by simp [idStep]]
    by_cases hr : r = []
    · subst hr; simp [postL]
    · rw [foldl_same (by simp) hr]
      simp only [List.length_cons]
      rw [show n + 1 + r.length = n + (r.length + 1) by omega]
theorem idsF_lines (l : List Ent) (n : Int) : idsF n (linesJ l) = idsJ l n := by
  unfold idsJ
  split
  · rename_i h
    exact foldl_other fun x hx => by have := postE_en x hx; omega
  · rename_i h
    split
    · rename_i hn
      have := List.getElem?_eq_none_iff.1 hn
      exact foldl_other fun x hx => by have := postE_en x hx; omega
    · rename_i e he
      obtain ⟨k, rfl⟩ : ∃ k : Nat, n = (k : Int) + 1 := ⟨n.toNat - 1, by omega⟩
      rw [show ((k : Int) + 1).toNat - 1 = k by omega] at he ⊢
      obtain ⟨hk, hp⟩ := List.getElem?_eq_some_iff.1 he
      have hsplit : linesJ l = linesJ (l.take k) ++ (postL e.p ((k : Int) + 1) (linesJ (l.take k)).length e.ls ++ postE (k + 1) ((linesJ (l.take k)).length + e.ls.length) (l.drop (k + 1))) := by
        conv => lhs; rw [← List.take_append_drop k l, List.drop_eq_getElem_cons hk, hp]
        unfold linesJ
        rw [postE_append]
        simp only [postE, List.length_take, Nat.min_eq_left (Nat.le_of_lt hk), Nat.zero_add]
      unfold idsF
      rw [hsplit, List.foldl_append, List.foldl_append]
      rw [foldl_other (xs := linesJ (l.take k)) fun x hx => by have := postE_en x hx; simp at this; omega]
      rw [foldl_other (xs := postE (k + 1) _ _) fun x hx => by have := postE_en x hx; omega]
      split
      · rename_i h0; rw [h0]; rfl
      · rename_i h0; exact foldl_new h0

/-- By which entry an entry is reversed. -/
def revG (n : Int) : List Ent → Nat → Int
  | [], _ => 0
  | e :: r, k => if e.r = n then (k : Int) + 1 else revG n r (k + 1)
def revJ (l : List Ent) (n : Int) : Int := if 1 ≤ n ∧ n ≤ l.length then revG n l 0 else 0
theorem revG_drop {n : Int} {l : List Ent} {k : Nat} (h : k < l.length) : revG n (l.drop k) k = if l[k].r = n then (k : Int) + 1 else revG n (l.drop (k + 1)) (k + 1) := by
  rw [List.drop_eq_getElem_cons h]; rfl
theorem revG_end {n : Int} {l : List Ent} {k : Nat} (h : l.length ≤ k) : revG n (l.drop k) k = 0 := by
  rw [List.drop_eq_nil_of_le h]; rfl
theorem revG_le {n : Int} {l : List Ent} : ∀ {k : Nat}, 0 ≤ revG n l k ∧ revG n l k ≤ k + l.length := by
  induction l with
  | nil => intro k; simp [revG]
  | cons e r ih =>
    intro k
    unfold revG
    split
    · simp; omega
    · have := ih (k := k + 1); simp at this ⊢; omega
theorem revG_snoc {n : Int} {l : List Ent} {e : Ent} (he : e.r = n) : ∀ {k : Nat}, revG n (l ++ [e]) k = if revG n l k = 0 then (k : Int) + l.length + 1 else revG n l k := by
  induction l with
  | nil => intro k; simp [revG, he]
  | cons x r ih =>
    intro k
    simp only [List.cons_append, revG]
    split
    · rw [if_neg (by omega)]
    · rw [ih]
      split
      · simp; omega
      · rfl
theorem revG_at {n : Int} {l : List Ent} : ∀ {k : Nat}, revG n l k ≠ 0 → ∃ j, ∃ h : j < l.length, revG n l k = ((k + j : Nat) : Int) + 1 ∧ l[j].r = n := by
  induction l with
  | nil => intro k h; simp [revG] at h
  | cons x r ih =>
    intro k h
    unfold revG at h ⊢
    split
    · rename_i hx; exact ⟨0, by simp, by simp, hx⟩
    · rename_i hx
      rw [if_neg hx] at h
      obtain ⟨j, hj, h1, h2⟩ := ih h
      exact ⟨j + 1, by simpa using hj, by rw [h1]; omega, by simpa using h2⟩
/-- Can each amount be turned round? -/
def oppJ (ls : List Ln) : Bool := ls.all fun x => x.m != -9223372036854775808
def mayJ (l : List Ent) (n : Int) : Int :=
  if n < 1 then 34 else match l[n.toNat - 1]? with
  | none => 34
  | some e => if e.r ≠ 0 ∨ revJ l n ≠ 0 then 35 else if oppJ e.ls = true then 0 else 10
def fewJ (l : List Ent) : Bool := decide (l.length ≤ 30) && l.all fun e => decide (e.ls.length ≤ 60)
theorem postE_len {l : List Ent} (h : ∀ e ∈ l, e.ls.length ≤ 60) : ∀ {i n : Nat}, (postE i n l).length ≤ 60 * l.length := by
  induction l with
  | nil => intro i n; simp [postE]
  | cons e r ih =>
    intro i n
    have h1 := h e (by simp)
    have h2 := ih (fun x hx => h x (by simp [hx])) (i := i + 1) (n := n + e.ls.length)
    simp only [postE, List.length_append, postL_len, List.length_cons]
    omega
theorem few_len {l : List Ent} (h : fewJ l = true) : l.length ≤ 30 ∧ (∀ e ∈ l, e.ls.length ≤ 60) ∧ (linesJ l).length ≤ 1800 := by
  unfold fewJ at h
  rw [Bool.and_eq_true, List.all_eq_true] at h
  have h1 : l.length ≤ 30 := of_decide_eq_true h.1
  have h2 : ∀ e ∈ l, e.ls.length ≤ 60 := fun e he => of_decide_eq_true (h.2 e he)
  exact ⟨h1, h2, Nat.le_trans (postE_len h2) (by omega)⟩
end Go.Proofs.Ythkaohjgldoipaa
