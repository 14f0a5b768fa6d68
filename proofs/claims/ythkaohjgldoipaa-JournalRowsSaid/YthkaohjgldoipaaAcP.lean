/-
  Chapter 20 in plain lists: accounts, ways up and round, which may be, leaves, the walk over the tree; nothing of the program is in sight.
-/
import Derived.Test.YthkaohjgldoipaaFoP
namespace Go.Proofs.Ythkaohjgldoipaa

structure Acc where
  p : Int
  k : Int
  s : Bool
  q : Bool
deriving DecidableEq
/-- Is a number an account? -/
def isA (l : List Acc) (x : Int) : Bool := decide (1 ≤ x) && decide (x ≤ l.length)
theorem isA_iff {l : List Acc} {x : Int} : isA l x = true ↔ 1 ≤ x ∧ x ≤ l.length := by unfold isA; simp
def prA (l : List Acc) (x : Int) : Int := match l[x.toNat - 1]? with | some a => a.p | none => 0
/-- The account above one; 0: there is none, or it is no account. -/
def fA (l : List Acc) (x : Int) : Int := if isA l x = true then prA l x else 0
theorem prA_get {l : List Acc} {k : Nat} (h : k < l.length) : prA l ((k : Int) + 1) = l[k].p := by
  unfold prA
  rw [show ((k : Int) + 1).toNat - 1 = k by omega, List.getElem?_eq_getElem h]
theorem isA_get {l : List Acc} {k : Nat} (h : k < l.length) : isA l ((k : Int) + 1) = true := isA_iff.2 (by omega)
theorem fA_get {l : List Acc} {k : Nat} (h : k < l.length) : fA l ((k : Int) + 1) = l[k].p := by unfold fA; rw [if_pos (isA_get h), prA_get h]
theorem isA_cast {l : List Acc} {x : Int} (h : isA l x = true) : ∃ k, k < l.length ∧ x = (k : Int) + 1 := ⟨(x - 1).toNat, by have := isA_iff.1 h; omega, by have := isA_iff.1 h; omega⟩
theorem fA_zero (l : List Acc) : fA l 0 = 0 := if_neg (by rw [isA_iff]; omega)
theorem fA_out {l : List Acc} {x : Int} (h : ¬ isA l x = true) : fA l x = 0 := if_neg h
/-- The way up, until it leaves the accounts, comes back, or to one that stood there. -/
def upAG (l : List Acc) (a : Int) : Nat → List Int → Int → List Int
  | 0, out, _ => out
  | k + 1, out, b => if isA l b = true ∧ b ≠ a ∧ b ∉ out then upAG l a k (out ++ [b]) (fA l b) else out
def upA (l : List Acc) (a : Int) : List Int := if isA l a = true then upAG l a (l.length + 1) [] (fA l a) else []
/-- The program's way round. -/
def rndAG (l : List Acc) (a : Int) : Nat → Int → Bool
  | 0, b => b == a
  | k + 1, b => if fA l b = a ∨ ¬ isA l (fA l b) = true then fA l b == a else rndAG l a k (fA l b)
def rndA (l : List Acc) (a : Int) : Bool := rndAG l a l.length a
/-- The document's. -/
def rndD (l : List Acc) (a : Int) : Bool := fA l ((upA l a).getLast?.getD a) == a

theorem cycA_short {l : List Acc} {a : Int} (ha : isA l a = true) (h : Cyc (fA l) a) : ∃ c, 1 ≤ c ∧ c ≤ l.length ∧ it (fA l) c a = a ∧ ∀ i, i < c → isA l (it (fA l) i a) = true ∧ (1 ≤ i → it (fA l) i a ≠ a) := by
  obtain ⟨c, h1, h2, h3⟩ := least_cyc h
  have ha' := isA_iff.1 ha
  have hA : ∀ i, isA l (it (fA l) i a) = true := by
    intro i
    cases hi : isA l (it (fA l) i a)
    · exfalso
      have h4 : it (fA l) (i + 1) a = 0 := by rw [it_succ]; exact fA_out (by rw [hi]; decide)
      exact not_cyc_zero (fA_zero l) (by omega) h4 h
    · rfl
  refine ⟨c, h1, ?_, h2, fun i hi => ⟨hA i, fun h4 => h3 i h4 hi⟩⟩
  have hn := map_nodup (g := fun i => it (fA l) i a) (m := c) (fun i j h4 h5 => iter_ne h2 h3 h4 (by omega) (.inr h5))
  have hl := nodup_le (m := upto l.length) hn (fun x hx => by
    obtain ⟨i, _, rfl⟩ := List.mem_map.1 hx
    exact mem_upto.2 (isA_iff.1 (hA i)))
  rw [upto_len] at hl
  simpa using hl
theorem rndA_cyc {l : List Acc} {a : Int} {k : Nat} : ∀ {s : Nat}, (k = 0 → 1 ≤ s) → rndAG l a k (it (fA l) s a) = true → Cyc (fA l) a := by
  induction k with
  | zero => intro s hs h; exact ⟨s, hs rfl, by simpa [rndAG] using h⟩
  | succ k ih =>
    intro s hs h
    unfold rndAG at h
    rw [← it_succ (fA l) s a] at h
    split at h
    · exact ⟨s + 1, by omega, by simpa using h⟩
    · exact ih (fun _ => by omega) h
theorem rndA_of {l : List Acc} {a : Int} {c : Nat} (hc : it (fA l) c a = a) (h : ∀ i, i < c → isA l (it (fA l) i a) = true ∧ (1 ≤ i → it (fA l) i a ≠ a)) {k : Nat} : ∀ {s : Nat}, s < c → c ≤ s + k → rndAG l a k (it (fA l) s a) = true := by
  induction k with
  | zero => intro s h1 h2; omega
  | succ k ih =>
    intro s h1 h2
    unfold rndAG
    rw [← it_succ (fA l) s a]
    by_cases hs : s + 1 = c
    · subst hs
      rw [hc]; simp
    · have := h (s + 1) (by omega)
      rw [if_neg (by rintro (h3 | h3); · exact this.2 (by omega) h3
                     · exact h3 this.1)]
      exact ih (by omega) (by omega)
theorem rndA_iff {l : List Acc} {a : Int} (ha : isA l a = true) : rndA l a = true ↔ Cyc (fA l) a := by
  constructor
  · intro h
    exact rndA_cyc (s := 0) (fun h0 => by have := isA_iff.1 ha; omega) h
  · intro h
    obtain ⟨c, h1, h2, h3, h4⟩ := cycA_short ha h
    exact rndA_of (s := 0) h3 h4 (by omega) (by omega)
/-- Where the way up ends. -/
def endA (l : List Acc) (a : Int) : Nat → List Int → Int → Int
  | 0, _, b => b
  | k + 1, out, b => if isA l b = true ∧ b ≠ a ∧ b ∉ out then endA l a k (out ++ [b]) (fA l b) else b
theorem upA_end {l : List Acc} {a : Int} {k : Nat} : ∀ {out : List Int} {b : Int}, fA l (out.getLast?.getD a) = b → fA l ((upAG l a k out b).getLast?.getD a) = endA l a k out b := by
  induction k with
  | zero => intro out b h; exact h
  | succ k ih =>
    intro out b h
    unfold upAG endA
    split
    · exact ih (by simp)
    · exact h
theorem endA_cyc {l : List Acc} {a : Int} {k : Nat} : ∀ {s : Nat} {out : List Int}, 1 ≤ s → endA l a k out (it (fA l) s a) = a → Cyc (fA l) a := by
  induction k with
  | zero => intro s out hs h; exact ⟨s, hs, h⟩
  | succ k ih =>
    intro s out hs h
    unfold endA at h
    split at h
    · rw [← it_succ (fA l) s a] at h
      exact ih (by omega) h
    · exact ⟨s, hs, h⟩
theorem endA_of {l : List Acc} {a : Int} {c : Nat} (hc : it (fA l) c a = a) (h : ∀ i, i < c → isA l (it (fA l) i a) = true ∧ (1 ≤ i → it (fA l) i a ≠ a)) {k : Nat} : ∀ {s : Nat} {out : List Int}, 1 ≤ s → s ≤ c → c < s + k → (∀ y ∈ out, ∃ i, 1 ≤ i ∧ i < s ∧ it (fA l) i a = y) → endA l a k out (it (fA l) s a) = a := by
  induction k with
  | zero => intro s out h1 h2 h3; omega
  | succ k ih =>
    intro s out h1 h2 h3 ho
    unfold endA
    by_cases hs : s = c
    · subst hs
      rw [if_neg (by rw [hc]; simp), hc]
    · have hh := h s (by omega)
      have hno : it (fA l) s a ∉ out := by
        intro hm
        obtain ⟨i, hi1, hi2, hi3⟩ := ho _ hm
        exact iter_ne hc (fun i h1 h2 => (h i h2).2 h1) hi2 h2 (.inl hi1) hi3
      rw [if_pos ⟨hh.1, hh.2 h1, hno⟩, ← it_succ (fA l) s a]
      refine ih (by omega) (by omega) (by omega) fun y hy => ?_
      rcases List.mem_append.1 hy with hy | hy
      · obtain ⟨i, a1, b1, d1⟩ := ho y hy
        exact ⟨i, a1, by omega, d1⟩
      · simp at hy; exact ⟨s, h1, by omega, hy.symm⟩
theorem rnd_same {l : List Acc} {a : Int} (ha : isA l a = true) : rndD l a = rndA l a := by
  have e : fA l ((upA l a).getLast?.getD a) = endA l a (l.length + 1) [] (fA l a) := by
    unfold upA
    rw [if_pos ha]
    exact upA_end rfl
  rw [Bool.eq_iff_iff, rndA_iff ha]
  unfold rndD
  rw [e, beq_iff_eq]
  constructor
  · intro h
    exact endA_cyc (s := 1) (Nat.le_refl _) h
  · intro h
    obtain ⟨c, h1, h2, h3, h4⟩ := cycA_short ha h
    exact endA_of h3 h4 (s := 1) (Nat.le_refl _) h1 (by omega) (fun y hy => absurd hy (by simp))

/-- Why an account can't be, by itself, among n. -/
def placeI (p n : Int) : Int := if p < 0 ∨ n < p then 21 else if 1 ≤ p ∧ p ≤ 3 then 28 else 0
def badK (x : Acc) : Bool := decide (x.k < 1) || decide (3 < x.k) || (x.s && x.q)
def mayI (x : Acc) (n : Int) : Int := if placeI x.p n ≠ 0 then placeI x.p n else if badK x = true then 25 else 0
def newA : List Acc := [⟨0, 1, true, false⟩, ⟨0, 1, false, false⟩, ⟨0, 1, false, false⟩]
def mayG (n : Int) : List Acc → Nat → Option (Int × Int)
  | [], _ => none
  | x :: r, k => if mayI x n ≠ 0 then some (k, mayI x n) else mayG n r (k + 1)
def chkA (l : List Acc) : Int × Int :=
  if 60 < l.length then (0, 3) else if l.take 3 ≠ newA then (0, 28) else
  match mayG l.length l 0 with
  | some e => e
  | none => match (upto l.length).find? (rndA l) with
    | some a => (a - 1, 26)
    | none => (l.length, 0)
theorem mayG_none {n : Int} {l : List Acc} : ∀ {k : Nat}, mayG n l k = none ↔ ∀ x ∈ l, mayI x n = 0 := by
  induction l with
  | nil => intro k; simp [mayG]
  | cons a t ih =>
    intro k
    unfold mayG
    by_cases h : mayI a n = 0
    · rw [if_neg (by simpa using h), ih]
      simp [h]
    · rw [if_pos h]
      simp [h]
theorem mayI_ok {x : Acc} {n : Int} : mayI x n = 0 ↔ (0 ≤ x.p ∧ x.p ≤ n ∧ (x.p = 0 ∨ 3 < x.p)) ∧ badK x = false := by
  unfold mayI placeI
  cases badK x <;> simp <;> (split <;> (try split) <;> simp <;> omega)
/-- Accounts that may be. -/
def OkA (l : List Acc) : Prop := l.length ≤ 60 ∧ l.take 3 = newA ∧ (∀ x ∈ l, mayI x l.length = 0) ∧ ∀ a, isA l a = true → ¬ Cyc (fA l) a
theorem chkA_ok {l : List Acc} : (chkA l).2 = 0 ↔ OkA l := by
  unfold chkA OkA
  by_cases h1 : 60 < l.length
  · rw [if_pos h1]; simp; omega
  rw [if_neg h1]
  by_cases h2 : l.take 3 = newA
  · rw [if_neg (by simpa using h2)]
    cases hm : mayG l.length l 0 with
    | some e =>
      have hne : e.2 ≠ 0 := by
        have key : ∀ (t : List Acc) (k : Nat), mayG l.length t k = some e → e.2 ≠ 0 := by
          intro t
          induction t with
          | nil => intro k h; cases h
          | cons a t ih =>
            intro k h
            unfold mayG at h
            split at h
            · rename_i h3
              injection h with h
              rw [← h]; exact h3
            · exact ih _ h
        exact key l 0 hm
      refine ⟨fun h => absurd h hne, fun h => ?_⟩
      have := (mayG_none (k := 0)).2 h.2.2.1
      rw [hm] at this
      cases this
    | none =>
      have hall := mayG_none.1 hm
      cases hf : (upto l.length).find? (rndA l) with
      | some a =>
        have h3 := List.find?_some hf
        have h4 := mem_upto.1 (List.mem_of_find?_eq_some hf)
        exact ⟨(fun h => by cases h), fun h => absurd ((rndA_iff (isA_iff.2 h4)).1 h3) (h.2.2.2 a (isA_iff.2 h4))⟩
      | none =>
        have hn := List.find?_eq_none.1 hf
        refine ⟨fun _ => ⟨by omega, h2, hall, fun a ha hc => ?_⟩, fun _ => rfl⟩
        exact hn a (mem_upto.2 (isA_iff.1 ha)) ((rndA_iff ha).2 hc)
  · rw [if_pos h2]
    simp [h2]
theorem chkA_at {l : List Acc} (h : (chkA l).2 = 0) : chkA l = ((l.length : Int), 0) := by
  have ho := chkA_ok.1 h
  unfold chkA
  rw [if_neg (by have := ho.1; omega), if_neg (by simpa using ho.2.1), mayG_none.2 ho.2.2.1]
  have : (upto l.length).find? (rndA l) = none := List.find?_eq_none.2 fun a ha hr => ho.2.2.2 a (isA_iff.2 (mem_upto.1 ha)) ((rndA_iff (isA_iff.2 (mem_upto.1 ha))).1 hr)
  simp only [this]
theorem acy_of_nocyc {f : Int → Int} {n : Nat} (h0 : f 0 = 0) (hr : InR n f) (hc : ∀ a : Int, 1 ≤ a → a ≤ n → ¬ Cyc f a) : Acy f := by
  intro x
  by_cases h : it f (n + 1) x = 0
  · exact ⟨_, h⟩
  · exfalso
    have hnz : ∀ i, i ≤ n + 1 → it f i x ≠ 0 := fun i hi hz => h (it_late h0 hz hi)
    have hg : ∀ i, i ≤ n → 1 ≤ it f (i + 1) x ∧ it f (i + 1) x ≤ n := by
      intro i hi
      have h1 := hnz (i + 1) (by omega)
      rw [it_succ] at h1 ⊢
      have := hr (it f i x)
      omega
    have hnd := map_nodup (g := fun i => it f (i + 1) x) (m := n + 1) (fun i j hij hj he => by
      have h2 := hg i (by omega)
      refine hc _ h2.1 h2.2 ⟨j - i, by omega, ?_⟩
      rw [← it_add, show i + 1 + (j - i) = j + 1 by omega]
      exact he.symm)
    have := nodup_le (m := upto n) hnd (fun y hy => by
      obtain ⟨i, hi, rfl⟩ := List.mem_map.1 hy
      have := List.mem_range.1 hi
      exact mem_upto.2 (hg i (by omega)))
    rw [upto_len, List.length_map, List.length_range] at this
    omega
theorem OkA.tree {l : List Acc} (h : OkA l) : Tree l.length (fA l) := by
  have hr : InR l.length (fA l) := by
    intro x
    cases hx : isA l x
    · rw [fA_out (by rw [hx]; decide)]; omega
    · obtain ⟨k, hk, rfl⟩ := isA_cast hx
      rw [fA_get hk]
      have := (mayI_ok.1 (h.2.2.1 l[k] (List.getElem_mem _))).1
      omega
  exact ⟨by have := h.1; omega, fA_zero l, acy_of_nocyc (fA_zero l) hr (fun a h1 h2 => h.2.2.2 a (isA_iff.2 ⟨h1, h2⟩)), hr⟩
theorem Tree.upAG {l : List Acc} (h : Tree l.length (fA l)) {x : Int} (hx : isA l x = true) : ∀ (k : Nat) (out : List Int) (a : Int), (a = 0 ∨ isA l a = true) → out ++ (if a = 0 then [] else a :: up (fA l) a) = up (fA l) x → (up (fA l) x).length < out.length + k → upAG l x k out a = up (fA l) x := by
  intro k
  induction k with
  | zero =>
    intro out a _ he hl
    rw [← he, List.length_append] at hl
    omega
  | succ k ih =>
    intro out a hA he hl
    unfold Go.Proofs.Ythkaohjgldoipaa.upAG
    by_cases ha : a = 0
    · rw [if_pos ha, List.append_nil] at he
      rw [if_neg (by rw [isA_iff]; omega), he]
    · rw [if_neg ha] at he
      have hno : a ∉ out := by
        intro hm
        have hn := h.up_nodup x
        rw [← he] at hn
        exact (List.nodup_append.1 hn).2.2 a hm a (by simp) rfl
      have hne : a ≠ x := by
        rintro rfl
        exact h.self (x := a) (by rw [← he]; simp)
      rw [if_pos ⟨hA.resolve_left ha, hne, hno⟩]
      refine ih _ _ ?_ ?_ ?_
      · have := h.rng a
        rw [isA_iff]; omega
      · rw [← he, List.append_assoc]
        conv => rhs; rw [h.up_eq a]
        split <;> simp
      · simp; omega
theorem Tree.upA {l : List Acc} (h : Tree l.length (fA l)) {x : Int} (hx : isA l x = true) : upA l x = up (fA l) x := by
  unfold Go.Proofs.Ythkaohjgldoipaa.upA
  rw [if_pos hx]
  refine h.upAG hx _ _ _ ?_ ?_ ?_
  · have := h.rng x
    rw [isA_iff]; omega
  · rw [h.up_eq x]; simp
  · have := h.up_len x
    simp; omega

theorem upAG_sub {l : List Acc} {a z : Int} {k : Nat} : ∀ {out : List Int} {b : Int}, z ∈ out → z ∈ upAG l a k out b := by
  induction k with
  | zero => intro out b h; exact h
  | succ k ih =>
    intro out b h
    unfold upAG
    split
    · exact ih (by simp [h])
    · exact h
theorem mayI_more {x : Acc} {n : Int} (h : mayI x n = 0) : mayI x (n + 1) = 0 := by
  rw [mayI_ok] at *
  exact ⟨by omega, h.2⟩
theorem isA_snoc {l : List Acc} {x : Acc} {y : Int} : isA (l ++ [x]) y = true ↔ isA l y = true ∨ y = (l.length : Int) + 1 := by
  rw [isA_iff, isA_iff]; simp; omega
theorem fA_snoc {l : List Acc} {x : Acc} {y : Int} (h : y ≠ (l.length : Int) + 1) : fA (l ++ [x]) y = fA l y := by
  by_cases hy : isA l y = true
  · obtain ⟨k, hk, rfl⟩ := isA_cast hy
    rw [fA_get (l := l ++ [x]) (k := k) (by simp; omega), fA_get hk, List.getElem_append_left hk]
  · rw [fA_out hy, fA_out (fun h' => (isA_snoc.1 h').elim hy h)]
theorem OkA.add {l : List Acc} (h : OkA l) {x : Acc} (hl : l.length < 60) (hx : mayI x l.length = 0) : OkA (l ++ [x]) := by
  have t := h.tree
  have h3 : 3 ≤ l.length := by
    have := congrArg List.length h.2.1
    simp [newA] at this
    omega
  refine ⟨by simp; omega, ?_, ?_, ?_⟩
  · rw [List.take_append_of_le_length h3]; exact h.2.1
  · intro y hy
    simp only [List.length_append, List.length_singleton, Int.natCast_add, Int.natCast_one]
    rcases List.mem_append.1 hy with hy | hy
    · exact mayI_more (h.2.2.1 y hy)
    · simp at hy; subst hy; exact mayI_more hx
  · intro a ha
    have hp := (mayI_ok.1 hx).1
    have hlast : fA (l ++ [x]) ((l.length : Int) + 1) = x.p := by
      rw [fA_get (l := l ++ [x]) (k := l.length) (by simp)]; simp
    have hacy : Acy (fA (l ++ [x])) := by
      refine acy_update (e := (l.length : Int) + 1) t.acy (fun y hy => fA_snoc hy) ?_
      rintro ⟨c, hc, he⟩
      have key : ∀ i, it (fA (l ++ [x])) i x.p ≤ l.length := by
        intro i
        induction i with
        | zero => show x.p ≤ _; omega
        | succ i ih =>
          rw [it_succ, fA_snoc (by omega)]
          exact (t.rng _).2
      obtain ⟨d, rfl⟩ : ∃ d, c = d + 1 := ⟨c - 1, by omega⟩
      rw [it, hlast] at he
      have := key d
      omega
    exact hacy.no (fA_zero _) (by have := isA_iff.1 ha; omega)
/-- An account moved. -/
def moveA (l : List Acc) (a : Nat) (p : Int) : List Acc := l.set a { l.getD a ⟨0, 0, false, false⟩ with p := p }
theorem moveA_len (l : List Acc) (a : Nat) (p : Int) : (moveA l a p).length = l.length := by simp [moveA]
theorem moveA_get {l : List Acc} {a : Nat} {p : Int} {k : Nat} (hk : k < l.length) : (moveA l a p)[k]'(by rw [moveA_len]; exact hk) = if k = a then { l[k] with p := p } else l[k] := by
  unfold moveA
  rw [List.getElem_set]
  split
  · rename_i h
    subst h
    rw [if_pos rfl, List.getD_eq_getElem?_getD, List.getElem?_eq_getElem hk]; rfl
  · rename_i h
    rw [if_neg (fun e => h e.symm)]
theorem OkA.move {l : List Acc} (h : OkA l) {a : Nat} {p : Int} (ha : a < l.length) (h3 : 3 ≤ a) (hp : 0 ≤ p ∧ p ≤ l.length ∧ (p = 0 ∨ 3 < p)) (hne : p ≠ (a : Int) + 1) (hno : (a : Int) + 1 ∉ upA l p) : OkA (moveA l a p) := by
  have t := h.tree
  have hfo : ∀ y, y ≠ (a : Int) + 1 → fA (moveA l a p) y = fA l y := by
    intro y hy
    by_cases hA : isA l y = true
    · obtain ⟨k, hk, rfl⟩ := isA_cast hA
      rw [fA_get (by rw [moveA_len]; exact hk), fA_get hk, moveA_get hk, if_neg (by omega)]
    · rw [fA_out hA, fA_out (by rw [isA_iff, moveA_len, ← isA_iff]; exact hA)]
  have hfa : fA (moveA l a p) ((a : Int) + 1) = p := by
    rw [fA_get (by rw [moveA_len]; exact ha), moveA_get ha, if_pos rfl]
  have hacy : Acy (fA (moveA l a p)) := by
    refine acy_update (e := (a : Int) + 1) t.acy hfo ?_
    rintro ⟨c, hc, he⟩
    -- the way up from p does not come to a
    have hup : ∀ i, it (fA l) i p ≠ (a : Int) + 1 := by
      intro i hi
      by_cases h0 : i = 0
      · subst h0; exact hne hi
      · by_cases hpA : isA l p = true
        · apply hno
          rw [t.upA hpA]
          exact t.mem.2 ⟨by omega, i, by omega, hi⟩
        · have : p = 0 := by rw [isA_iff] at hpA; omega
          subst this
          rw [it_zero t.root] at hi
          omega
    have hsame : ∀ i, it (fA (moveA l a p)) i p = it (fA l) i p := by
      intro i
      induction i with
      | zero => rfl
      | succ i ih => rw [it_succ, it_succ, ih, hfo _ (hup i)]
    obtain ⟨d, rfl⟩ : ∃ d, c = d + 1 := ⟨c - 1, by omega⟩
    rw [it, hfa, hsame] at he
    exact hup d he
  refine ⟨by rw [moveA_len]; exact h.1, ?_, ?_, fun b hb => hacy.no (fA_zero _) (by have := isA_iff.1 hb; omega)⟩
  · unfold moveA
    rw [List.take_set_of_le h3]
    exact h.2.1
  · intro x hx
    rw [moveA_len]
    obtain ⟨k, hk, rfl⟩ := List.getElem_of_mem hx
    rw [moveA_len] at hk
    rw [moveA_get hk]
    have hm := mayI_ok.1 (h.2.2.1 l[k] (List.getElem_mem _))
    split
    · refine mayI_ok.2 ⟨hp, ?_⟩
      exact hm.2
    · exact h.2.2.1 _ (List.getElem_mem _)

def kidA (l : List Acc) (a : Int) : List Int := if isA l a = true then (upto l.length).filter (fun x => fA l x == a) else []
def leafA (l : List Acc) (x : Int) : Bool := isA l x && !(l.any fun y => y.p == x)
def leavesA (l : List Acc) : List Int := (upto l.length).filter (leafA l)
def undB (l : List Acc) (a x : Int) : Bool := leafA l x && (x == a || decide (a ∈ upA l x))
def undA (l : List Acc) (a : Int) : List Int := if isA l a = true then (upto l.length).filter (undB l a) else []
theorem mem_kidA {l : List Acc} {a x : Int} (ha : isA l a = true) : x ∈ kidA l a ↔ isA l x = true ∧ fA l x = a := by
  unfold kidA
  rw [if_pos ha, List.mem_filter, mem_upto, isA_iff]
  simp
theorem leaf_kid {l : List Acc} {a : Int} (ha : isA l a = true) : leafA l a = decide ((kidA l a).length = 0) := by
  rw [Bool.eq_iff_iff, decide_eq_true_iff]
  unfold leafA
  rw [ha, Bool.true_and]
  simp only [Bool.not_eq_true', List.any_eq_false, beq_iff_eq, List.length_eq_zero_iff, List.eq_nil_iff_forall_not_mem]
  constructor
  · intro h x hx
    obtain ⟨h1, h2⟩ := (mem_kidA ha).1 hx
    obtain ⟨k, hk, rfl⟩ := isA_cast h1
    rw [fA_get hk] at h2
    exact h _ (List.getElem_mem hk) h2
  · intro h y hy he
    obtain ⟨k, hk, rfl⟩ := List.getElem_of_mem hy
    exact h ((k : Int) + 1) ((mem_kidA ha).2 ⟨isA_get hk, by rw [fA_get hk, he]⟩)
theorem upto_nodup (n : Nat) : (upto n).Nodup := by
  unfold upto
  exact map_nodup fun i j h _ => by omega
theorem sum_filter {α β : Type} (p : α → β → Bool) (K : List α) : ∀ U : List β, (K.map fun k => (U.filter (p k)).length).sum = (U.map fun x => (K.filter fun k => p k x).length).sum := by
  intro U
  induction U with
  | nil =>
    induction K with
    | nil => rfl
    | cons k r ih => rw [List.map_cons, List.sum_cons, ih]; rfl
  | cons x t ih =>
    rw [List.map_cons, List.sum_cons, ← ih]
    clear ih
    induction K with
    | nil => simp
    | cons k r ih2 =>
      rw [List.map_cons, List.sum_cons, ih2, List.map_cons, List.sum_cons]
      cases h : p k x
      · rw [List.filter_cons_of_neg (by rw [h]; decide), List.filter_cons_of_neg (by rw [h]; decide)]; omega
      · rw [List.filter_cons_of_pos h, List.filter_cons_of_pos (by rw [h]), List.length_cons, List.length_cons]; omega
theorem sum_indicator {β : Type} (q : β → Bool) (c : β → Nat) : ∀ U : List β, (∀ x ∈ U, c x = if q x = true then 1 else 0) → (U.map c).sum = (U.filter q).length := by
  intro U
  induction U with
  | nil => intro _; simp
  | cons x t ih =>
    intro h
    rw [List.map_cons, List.sum_cons, ih (fun y hy => h y (by simp [hy])), h x (by simp), List.filter_cons]
    split <;> simp <;> omega
theorem filter_one {α : Type} {p : α → Bool} {a : α} : ∀ {l : List α}, l.Nodup → a ∈ l → (∀ x ∈ l, p x = true ↔ x = a) → l.filter p = [a] := by
  intro l
  induction l with
  | nil => intro _ h; cases h
  | cons b t ih =>
    intro hn hm hp
    have hn' := List.nodup_cons.1 hn
    rw [List.filter_cons]
    by_cases hb : b = a
    · subst hb
      rw [if_pos ((hp b (by simp)).2 rfl)]
      have : t.filter p = [] := List.filter_eq_nil_iff.2 fun x hx hpx => by
        have := (hp x (by simp [hx])).1 hpx
        subst this
        exact hn'.1 hx
      rw [this]
    · rw [if_neg (fun h => hb ((hp b (by simp)).1 h))]
      exact ih hn'.2 (by rcases List.mem_cons.1 hm with h | h; · exact absurd h.symm hb
                         · exact h) (fun x hx => hp x (by simp [hx]))
/-- The one, of those that a holds, under which x is. -/
theorem Tree.kid_of {n : Nat} {f : Int → Int} (h : Tree n f) : ∀ (k : Nat) (x a : Int), a ∈ up f x → (up f x).length ≤ k → ∃ c, f c = a ∧ aeq f c x = true ∧ c ≠ 0 := by
  intro k
  induction k with
  | zero =>
    intro x a hm hl
    have : up f x = [] := List.eq_nil_of_length_eq_zero (by omega)
    rw [this] at hm; cases hm
  | succ k ih =>
    intro x a hm hl
    rw [h.up_eq] at hm hl
    by_cases h0 : f x = 0
    · rw [if_pos h0] at hm; cases hm
    · rw [if_neg h0] at hm hl
      have hx0 : x ≠ 0 := fun e => h0 (by rw [e]; exact h.root)
      rcases List.mem_cons.1 hm with rfl | hm
      · exact ⟨x, rfl, aeq_iff.2 (.inl rfl), hx0⟩
      · obtain ⟨c, c1, c2, c3⟩ := ih (f x) a hm (by simpa using hl)
        refine ⟨c, c1, ?_, c3⟩
        refine h.aeq_trans (y := f x) (aeq_iff.2 (.inr ?_)) c2
        rw [h.up_eq, if_neg h0]; simp
theorem Tree.kid_unique {n : Nat} {f : Int → Int} (h : Tree n f) {x a c c' : Int} (ha : a ≠ 0) (h1 : f c = a) (h2 : f c' = a) (h3 : aeq f c x = true) (h4 : aeq f c' x = true) : c = c' := by
  have key : ∀ c c', f c = a → f c' = a → c' ∉ up f c := by
    intro c c' h1 h2 hm
    rw [h.up_eq, h1, if_neg ha] at hm
    have hc' : a ∈ up f c' := by rw [h.up_eq, h2, if_neg ha]; simp
    rcases List.mem_cons.1 hm with e | hm
    · rw [e] at hc'; exact h.self hc'
    · exact h.asym hm hc'
  rcases h.aeq_chain h3 h4 with h5 | h5
  · rcases aeq_iff.1 h5 with h6 | h6
    · exact h6
    · exact absurd h6 (key _ _ h2 h1)
  · rcases aeq_iff.1 h5 with h6 | h6
    · exact h6.symm
    · exact absurd h6 (key _ _ h1 h2)
theorem undB_iff {l : List Acc} (t : Tree l.length (fA l)) {a x : Int} : undB l a x = (leafA l x && aeq (fA l) a x) := by
  unfold undB
  cases hx : leafA l x
  · rfl
  · have hA : isA l x = true := by unfold leafA at hx; rw [Bool.and_eq_true] at hx; exact hx.1
    rw [t.upA hA]
    unfold aeq
    simp only [Bool.true_and]
    congr 1
    rw [Bool.eq_iff_iff, beq_iff_eq, decide_eq_true_iff]; exact ⟨fun h => h.symm, fun h => h.symm⟩
/-- Under each account there is a leaf. -/
theorem under_some {l : List Acc} (t : Tree l.length (fA l)) : ∀ (k : Nat) (a : Int), isA l a = true → l.length ≤ (up (fA l) a).length + k → ∃ x, leafA l x = true ∧ aeq (fA l) a x = true := by
  intro k
  induction k with
  | zero =>
    intro a ha hl
    refine ⟨a, ?_, aeq_iff.2 (.inl rfl)⟩
    rw [leaf_kid ha, decide_eq_true_iff]
    by_cases h : (kidA l a).length = 0
    · exact h
    · exfalso
      have hn : kidA l a ≠ [] := by intro e; rw [e] at h; exact h rfl
      obtain ⟨c, r, e⟩ := List.exists_cons_of_ne_nil hn
      have hc := (mem_kidA ha).1 (show c ∈ kidA l a by rw [e]; simp)
      have h1 := t.up_len c
      rw [t.up_eq c, hc.2, if_neg (by have := isA_iff.1 ha; omega)] at h1
      simp at h1
      omega
  | succ k ih =>
    intro a ha hl
    by_cases h : (kidA l a).length = 0
    · exact ⟨a, by rw [leaf_kid ha, decide_eq_true_iff]; exact h, aeq_iff.2 (.inl rfl)⟩
    · have hn : kidA l a ≠ [] := by intro e; rw [e] at h; exact h rfl
      obtain ⟨c, r, e⟩ := List.exists_cons_of_ne_nil hn
      have hc := (mem_kidA ha).1 (show c ∈ kidA l a by rw [e]; simp)
      have hup : up (fA l) c = a :: up (fA l) a := by rw [t.up_eq c, hc.2, if_neg (by have := isA_iff.1 ha; omega)]
      obtain ⟨x, h1, h2⟩ := ih c hc.1 (by rw [hup]; simp; omega)
      exact ⟨x, h1, t.aeq_trans h2 (aeq_iff.2 (.inr (by rw [hup]; simp)))⟩
theorem und_ne {l : List Acc} (t : Tree l.length (fA l)) {a : Int} (ha : isA l a = true) : (undA l a).length ≠ 0 := by
  obtain ⟨x, h1, h2⟩ := under_some t l.length a ha (by omega)
  have hx : isA l x = true := by unfold leafA at h1; rw [Bool.and_eq_true] at h1; exact h1.1
  have : x ∈ undA l a := by
    unfold undA
    rw [if_pos ha, List.mem_filter, mem_upto, undB_iff t, h1, h2]
    exact ⟨isA_iff.1 hx, rfl⟩
  intro e
  rw [List.eq_nil_of_length_eq_zero e] at this
  cases this
theorem und_leaf {l : List Acc} (t : Tree l.length (fA l)) {a : Int} (ha : isA l a = true) (hl : leafA l a = true) : undA l a = [a] := by
  unfold undA
  rw [if_pos ha]
  refine filter_one (upto_nodup _) (mem_upto.2 (isA_iff.1 ha)) fun x hx => ?_
  rw [undB_iff t]
  constructor
  · intro h
    simp only [Bool.and_eq_true] at h
    rcases aeq_iff.1 h.2 with h1 | h1
    · exact h1.symm
    · exfalso
      obtain ⟨c, c1, c2, c3⟩ := t.kid_of _ x a h1 (Nat.le_refl _)
      have hcA : isA l c = true := by
        cases hc : isA l c
        · rw [fA_out (by rw [hc]; decide)] at c1
          have := isA_iff.1 ha; omega
        · rfl
      rw [leaf_kid ha, decide_eq_true_iff] at hl
      have := (mem_kidA ha).2 ⟨hcA, c1⟩
      rw [List.eq_nil_of_length_eq_zero hl] at this
      cases this
  · rintro rfl
    rw [hl]
    exact aeq_iff.2 (.inl rfl)
theorem und_kid {l : List Acc} (t : Tree l.length (fA l)) {a k x : Int} (ha : isA l a = true) (hk : k ∈ kidA l a) (hx : x ∈ undA l k) : x ∈ undA l a := by
  have hk' := (mem_kidA ha).1 hk
  unfold undA at hx ⊢
  rw [if_pos hk'.1, List.mem_filter, undB_iff t, Bool.and_eq_true] at hx
  rw [if_pos ha, List.mem_filter, undB_iff t, Bool.and_eq_true]
  refine ⟨hx.1, hx.2.1, t.aeq_trans hx.2.2 (aeq_iff.2 (.inr ?_))⟩
  rw [t.up_eq k, hk'.2, if_neg (by have := isA_iff.1 ha; omega)]; simp
theorem und_sum {l : List Acc} (t : Tree l.length (fA l)) {a : Int} (ha : isA l a = true) (hl : leafA l a = false) : ((kidA l a).map fun k => (undA l k).length).sum = (undA l a).length := by
  have h0 : a ≠ 0 := by have := isA_iff.1 ha; omega
  have e1 : (kidA l a).map (fun k => (undA l k).length) = (kidA l a).map (fun k => ((upto l.length).filter (undB l k)).length) :=
    List.map_congr_left fun k hk => by unfold undA; rw [if_pos ((mem_kidA ha).1 hk).1]
  rw [e1, sum_filter]
  unfold undA
  rw [if_pos ha]
  refine sum_indicator _ _ _ fun x hx => ?_
  by_cases hq : undB l a x = true
  · rw [if_pos hq]
    rw [undB_iff t, Bool.and_eq_true] at hq
    rcases aeq_iff.1 hq.2 with h1 | h1
    · rw [h1, hq.1] at hl; cases hl
    · obtain ⟨c, c1, c2, c3⟩ := t.kid_of _ x a h1 (Nat.le_refl _)
      have hcA : isA l c = true := by
        cases hc : isA l c
        · rw [fA_out (by rw [hc]; decide)] at c1; omega
        · rfl
      have : (kidA l a).filter (fun k => undB l k x) = [c] := by
        refine filter_one ?_ ((mem_kidA ha).2 ⟨hcA, c1⟩) fun k hk => ?_
        · unfold kidA; rw [if_pos ha]; exact (upto_nodup _).filter _
        · rw [undB_iff t, hq.1, Bool.true_and]
          constructor
          · intro h3
            exact t.kid_unique h0 ((mem_kidA ha).1 hk).2 c1 h3 c2
          · rintro rfl
            exact c2
      rw [this]; rfl
  · rw [if_neg hq]
    have : (kidA l a).filter (fun k => undB l k x) = [] := List.filter_eq_nil_iff.2 fun k hk hkx => by
      apply hq
      have hxA : x ∈ undA l k := by
        unfold undA
        rw [if_pos ((mem_kidA ha).1 hk).1, List.mem_filter]
        exact ⟨hx, hkx⟩
      have := und_kid t ha hk hxA
      unfold undA at this
      rw [if_pos ha, List.mem_filter] at this
      exact this.2
    rw [this]; rfl

/-- The account above one; what stands under no account of these stands under itself. -/
def gA (l : List Acc) (x : Int) : Int := if isA l x = true then (if 0 ≤ prA l x ∧ prA l x ≤ l.length then prA l x else x) else 0
theorem gA_out {l : List Acc} {x : Int} (h : ¬ isA l x = true) : gA l x = 0 := if_neg h
theorem gA_cases {l : List Acc} {x : Int} (h : isA l x = true) : gA l x = prA l x ∨ gA l x = x := by
  unfold gA
  rw [if_pos h]
  split
  · exact .inl rfl
  · exact .inr rfl
theorem gA_zero (l : List Acc) : gA l 0 = 0 := gA_out (by rw [isA_iff]; omega)
/-- Those right under a (0: under none). -/
def belA (l : List Acc) (a : Int) : List Int := (upto l.length).filter fun x => prA l x == a
def walkG (l : List Acc) : Nat → Int → Nat → List (Int × Nat)
  | 0, _, _ => []
  | k + 1, a, d => (belA l a).flatMap fun x => (x, d) :: walkG l k x (d + 1)
def walkA (l : List Acc) : List (Int × Nat) := walkG l (l.length + 1) 0 0
/-- The way up from a comes to none after d steps, and not before. -/
def Lvl (l : List Acc) (a : Int) (d : Nat) : Prop := it (gA l) d a = 0 ∧ ∀ i, i < d → isA l (it (gA l) i a) = true
theorem mem_belA {l : List Acc} {a x : Int} : x ∈ belA l a ↔ isA l x = true ∧ prA l x = a := by
  unfold belA
  rw [List.mem_filter, mem_upto, isA_iff, beq_iff_eq]
theorem belA_nodup (l : List Acc) (a : Int) : (belA l a).Nodup := (upto_nodup _).filter _
theorem Lvl.ge {l : List Acc} {a : Int} {d : Nat} (h : Lvl l a d) : a = 0 ∧ d = 0 ∨ isA l a = true ∧ 1 ≤ d := by
  by_cases h0 : d = 0
  · subst h0; exact .inl ⟨h.1, rfl⟩
  · exact .inr ⟨h.2 0 (by omega), by omega⟩
theorem Lvl.kid {l : List Acc} {a x : Int} {d : Nat} (h : Lvl l a d) (hx : x ∈ belA l a) : Lvl l x (d + 1) ∧ gA l x = a := by
  obtain ⟨h1, h2⟩ := mem_belA.1 hx
  have hg : gA l x = a := by
    unfold gA
    rw [if_pos h1, h2]
    refine if_pos ?_
    rcases h.ge with ⟨rfl, _⟩ | ⟨ha, _⟩
    · omega
    · have := isA_iff.1 ha; omega
  refine ⟨⟨?_, fun i hi => ?_⟩, hg⟩
  · rw [it, hg]; exact h.1
  · cases i with
    | zero => exact h1
    | succ i => rw [it, hg]; exact h.2 i (by omega)
theorem Lvl.unique {l : List Acc} {a : Int} {d e : Nat} (h1 : Lvl l a d) (h2 : Lvl l a e) : d = e := by
  have key : ∀ {d e}, Lvl l a d → Lvl l a e → ¬ d < e := by
    intro d e h1 h2 hlt
    have := isA_iff.1 (h2.2 d hlt)
    rw [h1.1] at this
    omega
  exact Nat.le_antisymm (Nat.not_lt.1 (key h2 h1)) (Nat.not_lt.1 (key h1 h2))
/-- No way up is longer than there are accounts. -/
theorem Lvl.le {l : List Acc} {a : Int} {d : Nat} (h : Lvl l a d) : d ≤ l.length := by
  have hnd := map_nodup (g := fun i => it (gA l) i a) (m := d) (fun i j hij hj he => by
    have h1 : it (gA l) (d - j + i) a = 0 := by
      rw [Nat.add_comm, it_add, he, ← it_add, show j + (d - j) = d by omega, h.1]
    have := isA_iff.1 (h.2 (d - j + i) (by omega))
    rw [h1] at this
    omega)
  have := nodup_le (m := upto l.length) hnd (fun y hy => by
    obtain ⟨i, hi, rfl⟩ := List.mem_map.1 hy
    exact mem_upto.2 (isA_iff.1 (h.2 i (List.mem_range.1 hi))))
  rw [upto_len, List.length_map, List.length_range] at this
  exact this
/-- What is told under a: that is under a, with its depth. -/
theorem mem_walkG {l : List Acc} {k : Nat} : ∀ {a : Int} {d x e}, Lvl l a d → (x, e) ∈ walkG l k a d → Lvl l x (e + 1) ∧ d ≤ e ∧ it (gA l) (e + 1 - d) x = a := by
  induction k with
  | zero => intro a d x e _ h; cases h
  | succ k ih =>
    intro a d x e hL h
    unfold walkG at h
    obtain ⟨c, hc, hm⟩ := List.mem_flatMap.1 h
    obtain ⟨hk, hg⟩ := hL.kid hc
    rcases List.mem_cons.1 hm with he | hm
    · injection he with h1 h2
      subst h1 h2
      refine ⟨hk, Nat.le_refl _, ?_⟩
      rw [show e + 1 - e = 1 by omega]; exact hg
    · obtain ⟨h1, h2, h3⟩ := ih hk hm
      refine ⟨h1, by omega, ?_⟩
      rw [show e + 1 - d = (e + 1 - (d + 1)) + 1 by omega, it_succ, h3, hg]
theorem walkG_of {l : List Acc} {k : Nat} : ∀ {a : Int} {d x e}, Lvl l a d → Lvl l x (e + 1) → d ≤ e → e < d + k → it (gA l) (e + 1 - d) x = a → (x, e) ∈ walkG l k a d := by
  induction k with
  | zero => intro a d x e _ _ _ h; omega
  | succ k ih =>
    intro a d x e hL hx hd hk hi
    unfold walkG
    rw [List.mem_flatMap]
    have hy : it (gA l) (e + 1 - d) x = gA l (it (gA l) (e - d) x) := by rw [show e + 1 - d = (e - d) + 1 by omega, it_succ]
    have hA := hx.2 (e - d) (by omega)
    have hc : it (gA l) (e - d) x ∈ belA l a := by
      rw [hy] at hi
      refine mem_belA.2 ⟨hA, ?_⟩
      rcases gA_cases hA with hs | hs
      · rw [← hs]; exact hi
      · exfalso
        -- under itself: the way up would not end
        have : ∀ m, it (gA l) (e - d + m) x = it (gA l) (e - d) x := by
          intro m
          induction m with
          | zero => rfl
          | succ m ihm => rw [← Nat.add_assoc, it_succ, ihm, hs]
        have h1 := this (d + 1)
        rw [show e - d + (d + 1) = e + 1 by omega, hx.1] at h1
        rw [← h1] at hA
        have := isA_iff.1 hA
        omega
    refine ⟨_, hc, ?_⟩
    by_cases hed : e = d
    · subst hed
      rw [Nat.sub_self]
      exact List.mem_cons_self
    · refine List.mem_cons_of_mem _ (ih (hL.kid hc).1 hx (by omega) (by omega) ?_)
      rw [show e + 1 - (d + 1) = e - d by omega]
theorem walkG_nodup {l : List Acc} {k : Nat} : ∀ {a : Int} {d}, Lvl l a d → ((walkG l k a d).map (·.1)).Nodup := by
  induction k with
  | zero => intro a d _; exact List.nodup_nil
  | succ k ih =>
    intro a d hL
    unfold walkG
    have key : ∀ K : List Int, K.Nodup → (∀ c ∈ K, c ∈ belA l a) → ((K.flatMap fun x => (x, d) :: walkG l k x (d + 1)).map (·.1)).Nodup := by
      intro K
      induction K with
      | nil => intro _ _; exact List.nodup_nil
      | cons c r ihK =>
        intro hn hs
        have hn' := List.nodup_cons.1 hn
        obtain ⟨hc, hg⟩ := hL.kid (hs c (by simp))
        rw [List.flatMap_cons, List.map_append]
        refine List.nodup_append.2 ⟨?_, ihK hn'.2 fun x hx => hs x (by simp [hx]), ?_⟩
        · rw [List.map_cons]
          refine List.nodup_cons.2 ⟨fun hm => ?_, ih hc⟩
          obtain ⟨⟨x, e⟩, hx, he⟩ := List.mem_map.1 hm
          simp only at he
          subst he
          obtain ⟨h1, h2, _⟩ := mem_walkG hc hx
          have := h1.unique hc
          omega
        · intro x hx y hy hxy
          subst hxy
          obtain ⟨⟨x1, e1⟩, hx1, rfl⟩ := List.mem_map.1 hx
          obtain ⟨⟨x2, e2⟩, hx2, he⟩ := List.mem_map.1 hy
          simp only at he
          subst he
          obtain ⟨c', hc', hx2⟩ := List.mem_flatMap.1 hx2
          obtain ⟨hk', hg'⟩ := hL.kid (hs c' (by simp [hc']))
          have below : ∀ {c : Int} {e : Nat}, Lvl l c (d + 1) → (x2, e) ∈ (c, d) :: walkG l k c (d + 1) → Lvl l x2 (e + 1) ∧ it (gA l) (e - d) x2 = c := by
            intro c e hl hm
            rcases List.mem_cons.1 hm with he | hm
            · injection he with h1 h2
              subst h1 h2
              exact ⟨hl, by rw [Nat.sub_self]; rfl⟩
            · obtain ⟨h1, h2, h3⟩ := mem_walkG hl hm
              exact ⟨h1, by rw [show e - d = e + 1 - (d + 1) by omega]; exact h3⟩
          obtain ⟨a1, a2⟩ := below hc hx1
          obtain ⟨b1, b2⟩ := below hk' hx2
          have := a1.unique b1
          obtain rfl : e1 = e2 := by omega
          rw [a2] at b2
          subst b2
          exact hn'.1 hc'
    exact key _ (belA_nodup l a) fun c hc => hc
theorem lvl_zero (l : List Acc) : Lvl l 0 0 := ⟨rfl, fun i hi => by omega⟩
theorem walkA_nodup (l : List Acc) : ((walkA l).map (·.1)).Nodup := walkG_nodup (lvl_zero l)
theorem walkG_len {l : List Acc} {k : Nat} {a : Int} {d : Nat} (h : Lvl l a d) : (walkG l k a d).length ≤ l.length := by
  have := nodup_le (m := upto l.length) (walkG_nodup (k := k) h) (fun x hx => by
    obtain ⟨⟨y, e⟩, hy, rfl⟩ := List.mem_map.1 hx
    exact mem_upto.2 (isA_iff.1 ((mem_walkG h hy).1.2 0 (by omega))))
  rw [upto_len, List.length_map] at this
  exact this
/-- Each is told behind the one above it, if that is not a. -/
def Behind (l : List Acc) (a : Int) (L : List (Int × Nat)) : Prop := ∀ i (h : i < L.length), gA l L[i].1 = a ∨ gA l L[i].1 ∈ (L.take i).map (·.1)
theorem Behind.append {l : List Acc} {a : Int} {L M : List (Int × Nat)} (h1 : Behind l a L) (h2 : Behind l a M) : Behind l a (L ++ M) := by
  intro i hi
  by_cases h : i < L.length
  · rw [List.getElem_append_left h, List.take_append_of_le_length (by omega)]
    exact h1 i h
  · rw [List.getElem_append_right (by omega)]
    rcases h2 (i - L.length) (by simp at hi; omega) with h3 | h3
    · exact .inl h3
    · refine .inr ?_
      rw [List.take_append, List.map_append]
      exact List.mem_append_right _ h3
theorem walkG_behind {l : List Acc} {k : Nat} : ∀ {a : Int} {d}, Lvl l a d → Behind l a (walkG l k a d) := by
  induction k with
  | zero => intro a d _ i h; simp [walkG] at h
  | succ k ih =>
    intro a d hL
    unfold walkG
    have key : ∀ K : List Int, (∀ c ∈ K, c ∈ belA l a) → Behind l a (K.flatMap fun x => (x, d) :: walkG l k x (d + 1)) := by
      intro K
      induction K with
      | nil => intro _ i h; simp at h
      | cons c r ihK =>
        intro hs
        obtain ⟨hc, hg⟩ := hL.kid (hs c (by simp))
        rw [List.flatMap_cons]
        refine Behind.append ?_ (ihK fun x hx => hs x (by simp [hx]))
        intro i hi
        cases i with
        | zero => exact .inl hg
        | succ i =>
          simp only [List.getElem_cons_succ, List.take_succ_cons, List.map_cons]
          rcases ih hc i (by simpa using hi) with h | h
          · exact .inr (by rw [h]; simp)
          · exact .inr (List.mem_cons_of_mem _ h)
    exact key _ fun c hc => hc
theorem gA_ok {l : List Acc} (h : OkA l) (x : Int) : gA l x = fA l x := by
  unfold gA fA
  split
  · rename_i hx
    obtain ⟨k, hk, rfl⟩ := isA_cast hx
    rw [prA_get hk]
    have := (mayI_ok.1 (h.2.2.1 l[k] (List.getElem_mem _))).1
    rw [if_pos (by omega)]
  · rfl
theorem up_lvl {n : Nat} {f : Int → Int} (t : Tree n f) : ∀ (d : Nat) (x : Int), it f d x = 0 → (∀ i, i < d → it f i x ≠ 0) → (up f x).length = d - 1 := by
  intro d
  induction d with
  | zero => intro x h _; rw [t.up_eq, show x = 0 from h, if_pos t.root]; rfl
  | succ d ih =>
    intro x h h1
    rw [t.up_eq]
    by_cases h0 : f x = 0
    · rw [if_pos h0]
      by_cases hd : d = 0
      · subst hd; rfl
      · exact absurd h0 (h1 1 (by omega))
    · rw [if_neg h0, List.length_cons, ih (f x) h (fun i hi => h1 (i + 1) (by omega))]
      have : d ≠ 0 := by rintro rfl; exact h0 h
      omega
/-- Of accounts that may be each is told once, with as many above it as its depth says, behind the one above it. -/
theorem walk_ok {l : List Acc} (h : OkA l) : (walkA l).length = l.length ∧ ∀ i (hi : i < (walkA l).length), isA l (walkA l)[i].1 = true ∧ (walkA l)[i].1 ∉ ((walkA l).take i).map (·.1) ∧ (upA l (walkA l)[i].1).length = (walkA l)[i].2 ∧ ∀ p r, upA l (walkA l)[i].1 = p :: r → p ∈ ((walkA l).take i).map (·.1) := by
  have t := h.tree
  have hit : ∀ k x, it (gA l) k x = it (fA l) k x := by
    intro k
    induction k with
    | zero => intro x; rfl
    | succ k ih => intro x; rw [it, it, gA_ok h, ih]
  have hlvl : ∀ x, isA l x = true → ∃ e, Lvl l x (e + 1) := by
    intro x hx
    have hA : ∀ k, it (fA l) k x = 0 → ∃ e, e < k ∧ it (fA l) (e + 1) x = 0 ∧ ∀ i, i ≤ e → it (fA l) i x ≠ 0 := by
      intro k
      induction k with
      | zero => intro h0; have := isA_iff.1 hx; rw [show x = 0 from h0] at this; omega
      | succ k ih =>
        intro h0
        by_cases hk : it (fA l) k x = 0
        · obtain ⟨e, h1, h2, h3⟩ := ih hk
          exact ⟨e, by omega, h2, h3⟩
        · exact ⟨k, by omega, h0, fun i hi hz => hk (it_late t.root hz hi)⟩
    obtain ⟨k, hk⟩ := t.acy x
    obtain ⟨e, _, h2, h3⟩ := hA k hk
    refine ⟨e, by rw [hit]; exact h2, fun i hi => ?_⟩
    rw [hit]
    cases i with
    | zero => exact hx
    | succ i =>
      have h4 := h3 (i + 1) (by omega)
      rw [it_succ] at h4 ⊢
      have := t.rng (it (fA l) i x)
      exact isA_iff.2 (by omega)
  have hsub : ∀ x, isA l x = true → x ∈ (walkA l).map (·.1) := by
    intro x hx
    obtain ⟨e, he⟩ := hlvl x hx
    have hle := he.le
    exact List.mem_map.2 ⟨(x, e), walkG_of (lvl_zero l) he (by omega) (by omega) he.1, rfl⟩
  have hlen : (walkA l).length = l.length := by
    refine Nat.le_antisymm (walkG_len (lvl_zero l)) ?_
    have := nodup_le (m := (walkA l).map (·.1)) (upto_nodup l.length) (fun x hx => hsub x (isA_iff.2 (mem_upto.1 hx)))
    rw [upto_len, List.length_map] at this
    exact this
  refine ⟨hlen, fun i hi => ?_⟩
  obtain ⟨h1, h2, h3⟩ := mem_walkG (lvl_zero l) (show ((walkA l)[i].1, (walkA l)[i].2) ∈ walkG l (l.length + 1) 0 0 from List.getElem_mem hi)
  have hx := h1.2 0 (by omega)
  rw [it] at hx
  have hup : (upA l (walkA l)[i].1).length = (walkA l)[i].2 := by
    rw [t.upA hx, up_lvl t ((walkA l)[i].2 + 1) _ (by rw [← hit]; exact h1.1) (fun j hj => by
      have := isA_iff.1 (h1.2 j hj)
      rw [hit] at this
      omega)]
    rfl
  refine ⟨hx, fun hm => ?_, hup, fun p r he => ?_⟩
  · have hn := walkA_nodup l
    rw [← List.take_append_drop i (walkA l), List.map_append, List.drop_eq_getElem_cons hi, List.map_cons] at hn
    exact (List.nodup_append.1 hn).2.2 _ hm _ List.mem_cons_self rfl
  · rw [t.upA hx, t.up_eq] at he
    split at he
    · cases he
    · rename_i h0
      injection he with he _
      subst he
      rcases walkG_behind (k := l.length + 1) (lvl_zero l) i hi with hb | hb
      · rw [gA_ok h] at hb
        exact absurd hb h0
      · rw [gA_ok h] at hb
        exact hb
end Go.Proofs.Ythkaohjgldoipaa
