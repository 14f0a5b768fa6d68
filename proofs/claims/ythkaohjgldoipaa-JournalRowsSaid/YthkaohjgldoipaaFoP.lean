/-
  Chapters 18 and 19 in plain lists: stakes, who is above whom, trees, where two meet; nothing of the program is in sight.
-/
import Derived.Test.YthkaohjgldoipaaK
namespace Go.Proofs.Ythkaohjgldoipaa

def it (f : Int → Int) : Nat → Int → Int
  | 0, x => x
  | k + 1, x => it f k (f x)
theorem it_succ (f : Int → Int) (k : Nat) : ∀ x, it f (k + 1) x = f (it f k x) := by
  induction k with
  | zero => intro x; rfl
  | succ k ih => intro x; rw [it, ih]; rfl
theorem it_add (f : Int → Int) (a b : Nat) : ∀ x, it f (a + b) x = it f b (it f a x) := by
  induction b with
  | zero => intro x; rfl
  | succ b ih => intro x; rw [← Nat.add_assoc, it_succ, ih, it_succ]
theorem it_zero {f : Int → Int} (h0 : f 0 = 0) (k : Nat) : it f k 0 = 0 := by
  induction k with
  | zero => rfl
  | succ k ih => rw [it, h0, ih]
theorem it_late {f : Int → Int} (h0 : f 0 = 0) {x : Int} {k m : Nat} (h : it f k x = 0) (hm : k ≤ m) : it f m x = 0 := by
  obtain ⟨d, rfl⟩ := Nat.exists_eq_add_of_le hm
  rw [it_add, h, it_zero h0]
theorem it_round {f : Int → Int} {x : Int} {c : Nat} (h : it f c x = x) (m : Nat) : it f (m * c) x = x := by
  induction m with
  | zero => simp [it]
  | succ m ih => rw [Nat.succ_mul, it_add, ih, h]
/-- From everywhere the way up ends. -/
def Acy (f : Int → Int) : Prop := ∀ x, ∃ k, it f k x = 0
/-- It comes back to itself. -/
def Cyc (f : Int → Int) (e : Int) : Prop := ∃ k, 1 ≤ k ∧ it f k e = e
theorem Acy.no {f : Int → Int} (h0 : f 0 = 0) (h : Acy f) {x : Int} (hx : x ≠ 0) : ¬ Cyc f x := by
  rintro ⟨c, hc, hr⟩
  obtain ⟨k, hk⟩ := h x
  have h1 := it_late h0 hk (show k ≤ k * c from Nat.le_mul_of_pos_right k hc)
  rw [it_round hr] at h1
  exact hx h1

/-- Distinct things among some are no more than these. -/
theorem nodup_le {l : List Int} : ∀ {m : List Int}, l.Nodup → (∀ x ∈ l, x ∈ m) → l.length ≤ m.length := by
  induction l with
  | nil => intro m _ _; simp
  | cons a t ih =>
    intro m hn hs
    have ha : a ∈ m := hs a (by simp)
    have hn' := List.nodup_cons.1 hn
    have h1 := ih (m := m.erase a) hn'.2 (fun x hx => by
      have hne : x ≠ a := fun e => hn'.1 (e ▸ hx)
      exact (List.mem_erase_of_ne hne).2 (hs x (by simp [hx])))
    rw [List.length_erase_of_mem ha] at h1
    have : 0 < m.length := List.length_pos_of_mem ha
    simp; omega
/-- The numbers from 1 to n. -/
def upto (n : Nat) : List Int := (List.range n).map fun (i : Nat) => (i : Int) + 1
theorem mem_upto {n : Nat} {x : Int} : x ∈ upto n ↔ 1 ≤ x ∧ x ≤ n := by
  unfold upto
  rw [List.mem_map]
  constructor
  · rintro ⟨i, hi, rfl⟩
    have := List.mem_range.1 hi
    omega
  · intro h
    exact ⟨(x - 1).toNat, List.mem_range.2 (by omega), by omega⟩
theorem upto_len (n : Nat) : (upto n).length = n := by simp [upto]

/-- Those above x, from the nearest on, at most k. -/
def upK (f : Int → Int) : Nat → Int → List Int
  | 0, _ => []
  | k + 1, x => if f x = 0 then [] else f x :: upK f k (f x)
theorem mem_upK {f : Int → Int} {k : Nat} : ∀ {x z : Int}, z ∈ upK f k x → z ≠ 0 ∧ ∃ i, 1 ≤ i ∧ it f i x = z := by
  induction k with
  | zero => intro x z h; cases h
  | succ k ih =>
    intro x z h
    unfold upK at h
    split at h
    · cases h
    · rename_i h0
      rcases List.mem_cons.1 h with rfl | h
      · exact ⟨h0, 1, by omega, rfl⟩
      · obtain ⟨h1, i, h2, h3⟩ := ih h
        exact ⟨h1, i + 1, by omega, h3⟩
theorem upK_nodup {f : Int → Int} (h0 : f 0 = 0) (ha : Acy f) {k : Nat} : ∀ x, (upK f k x).Nodup := by
  induction k with
  | zero => intro x; exact List.nodup_nil
  | succ k ih =>
    intro x
    unfold upK
    split
    · exact List.nodup_nil
    · rename_i hx
      refine List.nodup_cons.2 ⟨fun hm => ?_, ih _⟩
      obtain ⟨_, i, h1, h2⟩ := mem_upK hm
      exact ha.no h0 hx ⟨i, h1, h2⟩
/-- Parents are entities, or none. -/
def InR (n : Nat) (f : Int → Int) : Prop := ∀ x, 0 ≤ f x ∧ f x ≤ n
theorem upK_len {f : Int → Int} (h0 : f 0 = 0) (ha : Acy f) {n : Nat} (hr : InR n f) (k : Nat) (x : Int) : (upK f k x).length ≤ n := by
  rw [← upto_len n]
  refine nodup_le (upK_nodup h0 ha x) fun z hz => mem_upto.2 ?_
  obtain ⟨h1, i, h2, h3⟩ := mem_upK hz
  obtain ⟨j, rfl⟩ : ∃ j, i = j + 1 := ⟨i - 1, by omega⟩
  rw [it_succ] at h3
  have := hr (it f j x)
  omega
theorem upK_more {f : Int → Int} {k : Nat} : ∀ {x : Int}, (upK f k x).length < k → ∀ m, upK f (k + m) x = upK f k x := by
  induction k with
  | zero => intro x h; simp [upK] at h
  | succ k ih =>
    intro x h m
    rw [show k + 1 + m = (k + m) + 1 by omega]
    unfold upK at h ⊢
    split
    · rfl
    · rename_i h0
      rw [if_neg h0] at h
      rw [ih (by simpa using h) m]
/-- All those above x. -/
def up (f : Int → Int) (x : Int) : List Int := upK f 100 x
/-- A tree of at most 90. -/
structure Tree (n : Nat) (f : Int → Int) : Prop where
  few : n ≤ 90
  root : f 0 = 0
  acy : Acy f
  rng : InR n f
theorem Tree.up_eq {n : Nat} {f : Int → Int} (h : Tree n f) (x : Int) : up f x = if f x = 0 then [] else f x :: up f (f x) := by
  unfold up
  conv => lhs; unfold upK
  split
  · rfl
  · have h1 := upK_len h.root h.acy h.rng 99 (f x)
    rw [upK_more (k := 99) (by have := h.few; omega) 1]
theorem Tree.up_len {n : Nat} {f : Int → Int} (h : Tree n f) (x : Int) : (up f x).length ≤ n := upK_len h.root h.acy h.rng 100 x
theorem Tree.up_nodup {n : Nat} {f : Int → Int} (h : Tree n f) (x : Int) : (up f x).Nodup := upK_nodup h.root h.acy x
theorem Tree.up_rng {n : Nat} {f : Int → Int} (h : Tree n f) {x z : Int} (hz : z ∈ up f x) : 1 ≤ z ∧ z ≤ n := by
  obtain ⟨h1, i, h2, h3⟩ := mem_upK hz
  obtain ⟨j, rfl⟩ : ∃ j, i = j + 1 := ⟨i - 1, by omega⟩
  rw [it_succ] at h3
  have := h.rng (it f j x)
  omega
theorem Tree.self {n : Nat} {f : Int → Int} (h : Tree n f) {x : Int} : x ∉ up f x := by
  intro hm
  obtain ⟨h1, i, h2, h3⟩ := mem_upK hm
  exact h.acy.no h.root h1 ⟨i, h2, h3⟩
/-- What is above x, seen by its iterates. -/
theorem Tree.mem {n : Nat} {f : Int → Int} (h : Tree n f) {x z : Int} : z ∈ up f x ↔ z ≠ 0 ∧ ∃ i, 1 ≤ i ∧ it f i x = z := by
  refine ⟨mem_upK, ?_⟩
  rintro ⟨hz, i, hi, he⟩
  have key : ∀ i x, 1 ≤ i → it f i x = z → z ∈ up f x := by
    intro i
    induction i with
    | zero => intro x h1; omega
    | succ i ih =>
      intro x _ he
      rw [h.up_eq]
      by_cases h0 : f x = 0
      · rw [it, h0, it_zero h.root] at he
        exact absurd he.symm hz
      · rw [if_neg h0]
        by_cases hi : i = 0
        · subst hi
          rw [it, it] at he
          rw [he]; simp
        · exact List.mem_cons_of_mem _ (ih _ (by omega) he)
  exact key i x hi he
/-- What is above one that is above x is above x. -/
theorem Tree.trans {n : Nat} {f : Int → Int} (h : Tree n f) {x y z : Int} (h1 : y ∈ up f x) (h2 : z ∈ up f y) : z ∈ up f x := by
  obtain ⟨_, i, hi, rfl⟩ := h.mem.1 h1
  obtain ⟨hz, j, hj, rfl⟩ := h.mem.1 h2
  exact h.mem.2 ⟨hz, i + j, by omega, it_add f i j x⟩
/-- Of two that are above x one is above the other. -/
theorem Tree.chain {n : Nat} {f : Int → Int} (h : Tree n f) {x y z : Int} (h1 : y ∈ up f x) (h2 : z ∈ up f x) : y = z ∨ z ∈ up f y ∨ y ∈ up f z := by
  obtain ⟨hy, i, hi, e1⟩ := h.mem.1 h1
  obtain ⟨hz, j, hj, e2⟩ := h.mem.1 h2
  rcases Nat.lt_trichotomy i j with hl | hl | hl
  · refine .inr (.inl (h.mem.2 ⟨hz, j - i, by omega, ?_⟩))
    rw [← e1, ← it_add, show i + (j - i) = j by omega, e2]
  · subst hl
    exact .inl (e1.symm.trans e2)
  · refine .inr (.inr (h.mem.2 ⟨hy, i - j, by omega, ?_⟩))
    rw [← e2, ← it_add, show j + (i - j) = i by omega, e1]
theorem Tree.asym {n : Nat} {f : Int → Int} (h : Tree n f) {x y : Int} (h1 : y ∈ up f x) : x ∉ up f y := fun h2 => h.self (h.trans h1 h2)

structure Stk where
  e : Int
  p : Int
  s : Int
  f : Int
def better (b : Option Stk) (s : Stk) : Bool := match b with | none => true | some c => decide (c.f ≤ s.f)
def hit (x q : Int) (b : Option Stk) (s : Stk) : Option Stk := if s.e = x ∧ s.f ≤ q ∧ better b s = true then some s else b
def pickL (l : List Stk) (x q : Int) : Option Stk := l.foldl (hit x q) none
def atB (b : Option Stk) : Int × Int := match b with | none => (0, 10000) | some s => (s.p, s.s)
def atL (l : List Stk) (x q : Int) : Int × Int := atB (pickL l x q)
def parL (l : List Stk) (q x : Int) : Int := (atL l x q).1
def shaL (l : List Stk) (q x : Int) : Int := (atL l x q).2
theorem pick_snoc (l : List Stk) (s : Stk) (x q : Int) : pickL (l ++ [s]) x q = hit x q (pickL l x q) s := by unfold pickL; rw [List.foldl_append]; rfl
theorem pick_take {l : List Stk} {k : Nat} (h : k < l.length) (x q : Int) : pickL (l.take (k + 1)) x q = hit x q (pickL (l.take k) x q) l[k] := by
  rw [List.take_succ_eq_append_getElem h, pick_snoc]
theorem pick_mem {l : List Stk} {x q : Int} {s : Stk} (h : pickL l x q = some s) : s ∈ l ∧ s.e = x ∧ s.f ≤ q := by
  have key : ∀ k, k ≤ l.length → ∀ s, pickL (l.take k) x q = some s → s ∈ l ∧ s.e = x ∧ s.f ≤ q := by
    intro k
    induction k with
    | zero => intro _ s h; simp [pickL] at h
    | succ k ih =>
      intro hk s h
      rw [pick_take (by omega)] at h
      unfold hit at h
      split at h
      · rename_i hc
        injection h with h
        subst h
        exact ⟨List.getElem_mem _, hc.1, hc.2.1⟩
      · exact ih (by omega) s h
  exact key l.length (Nat.le_refl _) s (by rw [List.take_length]; exact h)
theorem par_some {l : List Stk} {q x : Int} (h : parL l q x ≠ 0) : ∃ s ∈ l, s.e = x ∧ s.p = parL l q x := by
  unfold parL atL at h ⊢
  cases hp : pickL l x q with
  | none => rw [hp] at h; exact absurd rfl h
  | some s =>
    rw [hp] at h
    exact ⟨s, (pick_mem hp).1, (pick_mem hp).2.1, rfl⟩
theorem par_none {l : List Stk} {q x : Int} (h : ∀ s ∈ l, s.e ≠ x) : parL l q x = 0 := by
  by_cases h0 : parL l q x = 0
  · exact h0
  · obtain ⟨s, h1, h2, _⟩ := par_some h0
    exact absurd h2 (h s h1)
theorem sha_cases (l : List Stk) (q x : Int) : shaL l q x = 10000 ∨ ∃ s ∈ l, s.e = x ∧ s.s = shaL l q x := by
  unfold shaL atL
  cases hp : pickL l x q with
  | none => exact .inl rfl
  | some s => exact .inr ⟨s, (pick_mem hp).1, (pick_mem hp).2.1, rfl⟩

/-- The program's way round: at most as many steps as there are stakes, and one. -/
def rndG (f : Int → Int) (e : Int) : Nat → Int → Bool
  | 0, at_ => at_ == e
  | k + 1, at_ => if at_ ≠ e ∧ at_ ≠ 0 then rndG f e k (f at_) else at_ == e
def rndP (l : List Stk) (e q : Int) : Bool := rndG (parL l q) e l.length (parL l q e)
/-- The document's way up: until it comes to none, or to one that stood there. -/
def abvG (f : Int → Int) : Nat → List Int → Int → List Int
  | 0, out, _ => out
  | k + 1, out, at_ => if at_ ≠ 0 ∧ at_ ∉ out then abvG f k (out ++ [at_]) (f at_) else out
def abvL (l : List Stk) (x q : Int) : List Int := abvG (parL l q) (l.length + 1) [] (parL l q x)
theorem not_cyc_zero {f : Int → Int} (h0 : f 0 = 0) {e : Int} (he : e ≠ 0) {k : Nat} (h : it f k e = 0) : ¬ Cyc f e := by
  rintro ⟨c, hc, hr⟩
  have h1 := it_late h0 h (show k ≤ k * c from Nat.le_mul_of_pos_right k hc)
  rw [it_round hr] at h1
  exact he h1
theorem least_cyc {f : Int → Int} {e : Int} (h : Cyc f e) : ∃ c, 1 ≤ c ∧ it f c e = e ∧ ∀ i, 1 ≤ i → i < c → it f i e ≠ e := by
  obtain ⟨c, hc, hr⟩ := h
  induction c using Nat.strongRecOn with
  | _ c ih =>
    by_cases h : ∃ i, 1 ≤ i ∧ i < c ∧ it f i e = e
    · obtain ⟨i, h1, h2, h3⟩ := h
      exact ih i h2 h1 h3
    · exact ⟨c, hc, hr, fun i h1 h2 h3 => h ⟨i, h1, h2, h3⟩⟩
/-- Iterates within the first way round are distinct. -/
theorem iter_ne {f : Int → Int} {e : Int} {c : Nat} (hc : it f c e = e) (h : ∀ i, 1 ≤ i → i < c → it f i e ≠ e) {i j : Nat} (hij : i < j) (hj : j ≤ c) (h1 : 1 ≤ i ∨ j < c) : it f i e ≠ it f j e := by
  intro he
  have h2 : it f (c - j + i) e = e := by
    rw [Nat.add_comm, it_add, he, ← it_add, show j + (c - j) = c by omega, hc]
  exact h _ (by omega) (by omega) h2
theorem map_nodup {g : Nat → Int} {m : Nat} (h : ∀ i j, i < j → j < m → g i ≠ g j) : ((List.range m).map g).Nodup := by
  induction m with
  | zero => exact List.nodup_nil
  | succ m ih =>
    rw [List.range_succ, List.map_append]
    refine List.nodup_append.2 ⟨ih fun i j h1 h2 => h i j h1 (by omega), by simp, ?_⟩
    intro a ha b hb
    obtain ⟨i, hi, rfl⟩ := List.mem_map.1 ha
    simp only [List.map_cons, List.map_nil, List.mem_singleton] at hb
    subst hb
    exact h i m (List.mem_range.1 hi) (by omega)
theorem par_zero {l : List Stk} {q : Int} (h : ∀ s ∈ l, 1 ≤ s.e) : parL l q 0 = 0 := par_none fun s hs => by have := h s hs; omega
/-- A way round goes over no more than the stakes. -/
theorem cyc_short {l : List Stk} {q e : Int} (h0 : parL l q 0 = 0) (he : e ≠ 0) (h : Cyc (parL l q) e) : ∃ c, 1 ≤ c ∧ c ≤ l.length ∧ it (parL l q) c e = e ∧ ∀ i, i < c → it (parL l q) i e ≠ 0 ∧ (1 ≤ i → it (parL l q) i e ≠ e) := by
  obtain ⟨c, h1, h2, h3⟩ := least_cyc h
  have hz : ∀ i, it (parL l q) i e ≠ 0 := fun i hi => not_cyc_zero h0 he hi h
  refine ⟨c, h1, ?_, h2, fun i hi => ⟨hz i, fun h4 => h3 i h4 hi⟩⟩
  have hn := map_nodup (g := fun i => it (parL l q) i e) (m := c) (fun i j h4 h5 => iter_ne h2 h3 h4 (by omega) (.inr h5))
  have hl := nodup_le (m := l.map (·.e)) hn (fun x hx => by
    obtain ⟨i, _, rfl⟩ := List.mem_map.1 hx
    have h4 := hz (i + 1)
    rw [it_succ] at h4
    obtain ⟨s, hs, h5, _⟩ := par_some h4
    exact List.mem_map.2 ⟨s, hs, h5⟩)
  simpa using hl
theorem rnd_cyc {f : Int → Int} {e : Int} {k : Nat} : ∀ {s : Nat}, 1 ≤ s → rndG f e k (it f s e) = true → Cyc f e := by
  induction k with
  | zero => intro s hs h; exact ⟨s, hs, by simpa [rndG] using h⟩
  | succ k ih =>
    intro s hs h
    unfold rndG at h
    split at h
    · rw [← it_succ f _ e] at h
      exact ih (by omega) h
    · exact ⟨s, hs, by simpa using h⟩
theorem rnd_of {f : Int → Int} {e : Int} {c : Nat} (hc : it f c e = e) (h : ∀ i, i < c → it f i e ≠ 0 ∧ (1 ≤ i → it f i e ≠ e)) {k : Nat} : ∀ {s : Nat}, 1 ≤ s → s ≤ c → c ≤ s + k → rndG f e k (it f s e) = true := by
  induction k with
  | zero => intro s h1 h2 h3; obtain rfl : s = c := by omega
            unfold rndG; rw [hc]; simp
  | succ k ih =>
    intro s h1 h2 h3
    unfold rndG
    by_cases hs : s = c
    · subst hs
      rw [hc]; simp
    · have := h s (by omega)
      rw [if_pos ⟨this.2 h1, this.1⟩, ← it_succ f _ e]
      exact ih (by omega) (by omega) (by omega)
theorem rndP_iff {l : List Stk} {q e : Int} (h0 : parL l q 0 = 0) (he : e ≠ 0) : rndP l e q = true ↔ Cyc (parL l q) e := by
  constructor
  · intro h
    exact rnd_cyc (s := 1) (Nat.le_refl _) h
  · intro h
    obtain ⟨c, h1, h2, h3, h4⟩ := cyc_short h0 he h
    exact rnd_of (s := 1) h3 h4 (Nat.le_refl _) h1 (by omega)
/-- What the way up holds already stays in it. -/
theorem abv_grows {f : Int → Int} {k : Nat} : ∀ {out : List Int} {a z : Int}, z ∈ out → z ∈ abvG f k out a := by
  induction k with
  | zero => intro out a z h; exact h
  | succ k ih =>
    intro out a z h
    unfold abvG
    split
    · exact ih (by simp [h])
    · exact h
theorem abv_cyc {f : Int → Int} {e z : Int} {k : Nat} : ∀ {out : List Int} {s : Nat}, 1 ≤ s → (∀ y ∈ out, ∃ i, 1 ≤ i ∧ it f i e = y) → z ∈ abvG f k out (it f s e) → ∃ i, 1 ≤ i ∧ it f i e = z := by
  induction k with
  | zero => intro out s _ ho h; exact ho z h
  | succ k ih =>
    intro out s hs ho h
    unfold abvG at h
    split at h
    · rw [← it_succ f _ e] at h
      refine ih (by omega) (fun y hy => ?_) h
      rcases List.mem_append.1 hy with hy | hy
      · exact ho y hy
      · simp at hy; exact ⟨s, hs, hy.symm⟩
    · exact ho z h
theorem abv_of {f : Int → Int} {e : Int} {c : Nat} (hc : it f c e = e) (hz : ∀ i, i < c → it f i e ≠ 0 ∧ (1 ≤ i → it f i e ≠ e)) {k : Nat} : ∀ {s : Nat} {out : List Int}, 1 ≤ s → s ≤ c → c < s + k → (∀ y ∈ out, ∃ i, 1 ≤ i ∧ i < s ∧ it f i e = y) → e ∈ abvG f k out (it f s e) := by
  induction k with
  | zero => intro s out h1 h2 h3 _; omega
  | succ k ih =>
    intro s out h1 h2 h3 ho
    have hne : it f s e ≠ 0 := by
      by_cases hs : s = c
      · subst hs
        rw [hc]
        have := (hz 0 (by omega)).1
        exact this
      · exact (hz s (by omega)).1
    have hno : it f s e ∉ out := by
      intro hm
      obtain ⟨i, hi1, hi2, hi3⟩ := ho _ hm
      exact iter_ne hc (fun i h1 h2 => (hz i h2).2 h1) hi2 h2 (.inl hi1) hi3
    unfold abvG
    rw [if_pos ⟨hne, hno⟩]
    by_cases hs : s = c
    · subst hs
      rw [hc]
      exact abv_grows (by simp)
    · rw [← it_succ f _ e]
      refine ih (by omega) (by omega) (by omega) fun y hy => ?_
      rcases List.mem_append.1 hy with hy | hy
      · obtain ⟨i, a, b, d⟩ := ho y hy
        exact ⟨i, a, by omega, d⟩
      · simp at hy; exact ⟨s, h1, by omega, hy.symm⟩
theorem abvL_iff {l : List Stk} {q e : Int} (h0 : parL l q 0 = 0) (he : e ≠ 0) : e ∈ abvL l e q ↔ Cyc (parL l q) e := by
  constructor
  · intro h
    exact abv_cyc (s := 1) (out := []) (Nat.le_refl _) (fun y hy => absurd hy (by simp)) h
  · intro h
    obtain ⟨c, h1, h2, h3, h4⟩ := cyc_short h0 he h
    exact abv_of h3 h4 (s := 1) (out := []) (Nat.le_refl _) h1 (by omega) (fun y hy => absurd hy (by simp))
theorem round_same {l : List Stk} {q e : Int} (h0 : parL l q 0 = 0) (he : e ≠ 0) : rndP l e q = decide (e ∈ abvL l e q) := by
  rw [Bool.eq_iff_iff, rndP_iff h0 he, ← abvL_iff h0 he]
  simp

/-- In a tree the document's way up is all above. -/
theorem Tree.abv {n : Nat} {f : Int → Int} (h : Tree n f) {x : Int} : ∀ (k : Nat) (out : List Int) (a : Int), out ++ (if a = 0 then [] else a :: up f a) = up f x → (up f x).length < out.length + k → abvG f k out a = up f x := by
  intro k
  induction k with
  | zero =>
    intro out a he hl
    rw [← he, List.length_append] at hl
    omega
  | succ k ih =>
    intro out a he hl
    unfold abvG
    by_cases ha : a = 0
    · rw [if_pos ha, List.append_nil] at he
      rw [if_neg (by simp [ha]), he]
    · rw [if_neg ha] at he
      have hno : a ∉ out := by
        intro hm
        have hn := h.up_nodup x
        rw [← he] at hn
        exact (List.nodup_append.1 hn).2.2 a hm a (by simp) rfl
      rw [if_pos ⟨ha, hno⟩]
      refine ih _ _ ?_ ?_
      · rw [← he, List.append_assoc]
        conv => rhs; rw [h.up_eq a]
        split <;> simp
      · simp; omega
theorem Tree.above {n : Nat} {l : List Stk} {q : Int} (h : Tree n (parL l q)) (x : Int) : abvL l x q = up (parL l q) x := by
  unfold abvL
  refine h.abv _ _ _ ?_ ?_
  · rw [h.up_eq x]; simp
  · have hl := nodup_le (m := l.map (·.p)) (h.up_nodup x) (fun z hz => by
      obtain ⟨h1, i, h2, h3⟩ := h.mem.1 hz
      obtain ⟨j, rfl⟩ : ∃ j, i = j + 1 := ⟨i - 1, by omega⟩
      rw [it_succ] at h3
      obtain ⟨s, hs, _, h5⟩ := par_some (l := l) (q := q) (x := it (parL l q) j x) (by rw [h3]; exact h1)
      exact List.mem_map.2 ⟨s, hs, by rw [h5, h3]⟩)
    simp at hl ⊢
    omega

def badP (s : Stk) (n : Int) : Bool := decide (s.e < 1) || decide (n < s.e) || decide (s.p < 0) || decide (n < s.p)
def bdS (s : Stk) : Bool := decide (s.s < 0) || decide (10000 < s.s) || (decide (s.p = 0) && !decide (s.s = 10000))
def badF (s : Stk) : Bool := decide (s.f < 0) || decide (24 ≤ s.f)
def cirL (l : List Stk) (e : Int) : Bool := (List.range 24).any fun (p : Nat) => rndP l e (p : Int)
/-- What is wrong with the last one, s, of stakes. -/
def lastS (l : List Stk) (s : Stk) (n : Int) : Int := if badP s n = true then 20 else if bdS s = true then 12 else if badF s = true then 22 else if cirL l s.e = true then 26 else 0
/-- From the k-th on. -/
def chkG (l : List Stk) (n : Int) : List Stk → Nat → Int × Int
  | [], k => (k, 0)
  | s :: r, k => if lastS (l.take (k + 1)) s n ≠ 0 then (k, lastS (l.take (k + 1)) s n) else chkG l n r (k + 1)
def chkL (l : List Stk) (n : Int) : Int × Int := if 400 < l.length then (0, 3) else chkG l n l 0
theorem chkG_drop {l : List Stk} {n : Int} {k : Nat} (h : k < l.length) : chkG l n (l.drop k) k = if lastS (l.take (k + 1)) l[k] n ≠ 0 then ((k : Int), lastS (l.take (k + 1)) l[k] n) else chkG l n (l.drop (k + 1)) (k + 1) := by
  rw [List.drop_eq_getElem_cons h]; rfl
theorem chkG_all {l : List Stk} {n : Int} : ∀ {k : Nat}, k ≤ l.length → (chkG l n (l.drop k) k).2 = 0 → ∀ i, k ≤ i → (h : i < l.length) → lastS (l.take (i + 1)) l[i] n = 0 := by
  intro k hk
  generalize hd : l.length - k = d
  induction d generalizing k with
  | zero => intro _ i h1 h2; omega
  | succ d ih =>
    intro h i h1 h2
    rw [chkG_drop (by omega)] at h
    split at h
    · rename_i hne
      exact absurd h hne
    · rename_i hz
      by_cases hi : i = k
      · subst hi
        exact Decidable.of_not_not hz
      · exact ih (k := k + 1) (by omega) (by omega) h i (by omega) h2

/-- A way up that does not go through one that has moved is what it was. -/
theorem acy_update {f g : Int → Int} {e : Int} (ha : Acy f) (hg : ∀ y, y ≠ e → g y = f y) (hc : ¬ Cyc g e) : Acy g := by
  have hv : ∀ k, it g k (g e) = it f k (g e) := by
    intro k
    induction k with
    | zero => rfl
    | succ k ih =>
      rw [it_succ, it_succ, ← ih]
      refine hg _ fun he => hc ⟨k + 1, by omega, ?_⟩
      exact he
  have he : ∃ k, it g k e = 0 := by
    obtain ⟨k, hk⟩ := ha (g e)
    refine ⟨k + 1, ?_⟩
    show it g k (g e) = 0
    rw [hv, hk]
  have key : ∀ k x, it f k x = 0 → ∃ m, it g m x = 0 := by
    intro k
    induction k with
    | zero => intro x hx; exact ⟨0, hx⟩
    | succ k ih =>
      intro x hx
      by_cases hxe : x = e
      · subst hxe; exact he
      · obtain ⟨m, hm⟩ := ih (f x) hx
        exact ⟨m + 1, by show it g m (g x) = 0; rw [hg x hxe]; exact hm⟩
  intro x
  obtain ⟨k, hk⟩ := ha x
  exact key k x hk
theorem hit_other {x q : Int} {b : Option Stk} {s : Stk} (h : x ≠ s.e) : hit x q b s = b := if_neg fun hh => h hh.1.symm
theorem par_snoc_other {l : List Stk} {s : Stk} {q y : Int} (h : y ≠ s.e) : parL (l ++ [s]) q y = parL l q y := by
  unfold parL atL; rw [pick_snoc, hit_other h]
theorem lastS_ok {l : List Stk} {s : Stk} {n : Int} (h : lastS l s n = 0) : (1 ≤ s.e ∧ s.e ≤ n ∧ 0 ≤ s.p ∧ s.p ≤ n) ∧ (0 ≤ s.s ∧ s.s ≤ 10000) ∧ (s.p = 0 → s.s = 10000) ∧ (0 ≤ s.f ∧ s.f < 24) ∧ ∀ p : Nat, p < 24 → rndP l s.e p = false := by
  unfold lastS at h
  split at h
  · cases h
  rename_i h1
  split at h
  · cases h
  rename_i h2
  split at h
  · cases h
  rename_i h3
  split at h
  · cases h
  rename_i h4
  simp [badP] at h1
  simp [bdS] at h2
  simp [badF] at h3
  refine ⟨by omega, by omega, fun hp => by have := h2.2 hp; omega, by omega, fun p hp => ?_⟩
  cases hr : rndP l s.e p
  · rfl
  · exact absurd (List.any_eq_true.2 ⟨p, List.mem_range.2 hp, hr⟩) h4
theorem tree_prefix {l : List Stk} {n : Nat} (hn : n ≤ 40) (h : ∀ i (hi : i < l.length), lastS (l.take (i + 1)) l[i] n = 0) (q : Nat) (hq : q < 24) : ∀ k, k ≤ l.length → Tree n (parL (l.take k) q) := by
  intro k
  induction k with
  | zero =>
    intro _
    have hz : ∀ x, parL (l.take 0) q x = 0 := fun x => par_none fun s hs => absurd hs (by simp)
    exact ⟨by omega, hz 0, fun x => ⟨1, hz x⟩, fun x => by rw [hz]; omega⟩
  | succ k ih =>
    intro hk
    have t := ih (by omega)
    have hl := h k (by omega)
    obtain ⟨a1, a2, a3, a4, a5⟩ := lastS_ok hl
    have e : l.take (k + 1) = l.take k ++ [l[k]] := List.take_succ_eq_append_getElem (by omega)
    have h0 : parL (l.take (k + 1)) q 0 = 0 := by rw [e, par_snoc_other (by omega)]; exact t.root
    refine ⟨by omega, h0, ?_, ?_⟩
    · refine acy_update (e := l[k].e) t.acy (fun y hy => by rw [e, par_snoc_other hy]) fun hc => ?_
      have := (rndP_iff h0 (by omega)).2 hc
      rw [a5 q hq] at this
      cases this
    · intro x
      by_cases hx : parL (l.take (k + 1)) q x = 0
      · rw [hx]; omega
      · obtain ⟨s, hs, h1, h2⟩ := par_some hx
        obtain ⟨i, hi, rfl⟩ := List.getElem_of_mem (List.mem_of_mem_take hs)
        have := (lastS_ok (h i hi)).1
        omega
/-- Stakes that may be make a tree, in each period. -/
theorem chk_tree {l : List Stk} {n : Nat} (hn : n ≤ 40) (h : (chkL l n).2 = 0) {q : Nat} (hq : q < 24) : Tree n (parL l q) ∧ (∀ s ∈ l, 1 ≤ s.e) ∧ ∀ x, 0 ≤ shaL l q x ∧ shaL l q x ≤ 10000 := by
  unfold chkL at h
  split at h
  · cases h
  have h1 := chkG_all (k := 0) (by omega) h
  have h1' : ∀ i (hi : i < l.length), lastS (l.take (i + 1)) l[i] n = 0 := fun i hi => h1 i (by omega) hi
  have h2 := tree_prefix hn h1' q hq l.length (Nat.le_refl _)
  rw [List.take_length] at h2
  refine ⟨h2, fun s hs => ?_, fun x => ?_⟩
  · obtain ⟨i, hi, rfl⟩ := List.getElem_of_mem hs
    exact (lastS_ok (h1' i hi)).1.1
  · rcases sha_cases l q x with h3 | ⟨s, hs, _, h3⟩
    · rw [h3]; omega
    · obtain ⟨i, hi, rfl⟩ := List.getElem_of_mem hs
      rw [← h3]
      exact (lastS_ok (h1' i hi)).2.1

/-- Is top x, or above it? -/
def aeq (f : Int → Int) (top x : Int) : Bool := decide (top = x) || decide (top ∈ up f x)
theorem aeq_iff {f : Int → Int} {t x : Int} : aeq f t x = true ↔ t = x ∨ t ∈ up f x := by unfold aeq; simp
theorem Tree.aeq_trans {n : Nat} {f : Int → Int} (h : Tree n f) {x y z : Int} (h1 : aeq f y x = true) (h2 : aeq f z y = true) : aeq f z x = true := by
  rw [aeq_iff] at *
  rcases h1 with rfl | h1
  · exact h2
  · rcases h2 with rfl | h2
    · exact .inr h1
    · exact .inr (h.trans h1 h2)
theorem Tree.aeq_anti {n : Nat} {f : Int → Int} (h : Tree n f) {x y : Int} (h1 : aeq f y x = true) (h2 : aeq f x y = true) : x = y := by
  rw [aeq_iff] at *
  rcases h1 with rfl | h1
  · rfl
  · rcases h2 with h2 | h2
    · exact h2
    · exact absurd h2 (h.asym h1)
theorem Tree.aeq_chain {n : Nat} {f : Int → Int} (h : Tree n f) {x y z : Int} (h1 : aeq f y x = true) (h2 : aeq f z x = true) : aeq f y z = true ∨ aeq f z y = true := by
  rw [aeq_iff] at *
  rw [aeq_iff]
  rcases h1 with rfl | h1
  · exact .inr h2
  · rcases h2 with rfl | h2
    · exact .inl (.inr h1)
    · rcases h.chain h1 h2 with rfl | h3 | h3
      · exact .inl (.inl rfl)
      · exact .inr (.inr h3)
      · exact .inl (.inr h3)
/-- m is the lowest one at or above both, or 0: there is none. -/
def Lowest (n : Nat) (f : Int → Int) (a b m : Int) : Prop :=
  (m = 0 → ∀ t : Int, 1 ≤ t → t ≤ n → ¬ (aeq f t a = true ∧ aeq f t b = true)) ∧ (m ≠ 0 → 1 ≤ m ∧ m ≤ n ∧ aeq f m a = true ∧ aeq f m b = true ∧ ∀ t : Int, 1 ≤ t → t ≤ n → aeq f t a = true → aeq f t b = true → aeq f t m = true)
theorem Tree.lowest_unique {n : Nat} {f : Int → Int} (h : Tree n f) {a b m m' : Int} (h1 : Lowest n f a b m) (h2 : Lowest n f a b m') : m = m' := by
  by_cases hm : m = 0
  · by_cases hm' : m' = 0
    · rw [hm, hm']
    · obtain ⟨r1, r2, r3, r4, _⟩ := h2.2 hm'
      exact absurd ⟨r3, r4⟩ (h1.1 hm m' r1 r2)
  · obtain ⟨r1, r2, r3, r4, r5⟩ := h1.2 hm
    by_cases hm' : m' = 0
    · exact absurd ⟨r3, r4⟩ (h2.1 hm' m r1 r2)
    · obtain ⟨s1, s2, s3, s4, s5⟩ := h2.2 hm'
      exact h.aeq_anti (r5 m' s1 s2 s3 s4) (s5 m r1 r2 r3 r4)
/-- The program's: the first one, from a up, that is at or above b. -/
def meetP (f : Int → Int) (a b : Int) : Int := ((a :: up f a).find? fun t => aeq f t b).getD 0
theorem Tree.way_sorted {n : Nat} {f : Int → Int} (h : Tree n f) : ∀ (k : Nat) (a : Int), (up f a).length ≤ k → (a :: up f a).Pairwise fun x y => aeq f y x = true := by
  intro k
  induction k with
  | zero =>
    intro a hl
    have : up f a = [] := List.eq_nil_of_length_eq_zero (by omega)
    rw [this]; simp
  | succ k ih =>
    intro a hl
    refine List.pairwise_cons.2 ⟨fun y hy => aeq_iff.2 (.inr hy), ?_⟩
    rw [h.up_eq a] at hl ⊢
    split
    · exact List.Pairwise.nil
    · rename_i h0
      rw [if_neg h0] at hl
      exact ih _ (by simpa using hl)
theorem Tree.meetP_lowest {n : Nat} {f : Int → Int} (h : Tree n f) {a b : Int} (ha : 1 ≤ a ∧ a ≤ n) : Lowest n f a b (meetP f a b) := by
  have hmem : ∀ t, aeq f t a = true ↔ t ∈ a :: up f a := fun t => by rw [aeq_iff]; simp
  have hrng : ∀ t ∈ a :: up f a, 1 ≤ t ∧ t ≤ n := by
    intro t ht
    rcases List.mem_cons.1 ht with rfl | ht
    · exact ha
    · exact h.up_rng ht
  unfold meetP
  cases hf : (a :: up f a).find? (fun t => aeq f t b) with
  | none =>
    have hn := List.find?_eq_none.1 hf
    refine ⟨fun _ t _ _ hh => ?_, fun hne => absurd rfl hne⟩
    exact hn t ((hmem t).1 hh.1) hh.2
  | some m =>
    obtain ⟨hb, l1, l2, hl, hno⟩ := List.find?_eq_some_iff_append.1 hf
    have hm : m ∈ a :: up f a := by rw [hl]; simp
    have hr := hrng m hm
    refine ⟨fun e => absurd e (by simp; omega), fun _ => ⟨hr.1, hr.2, (hmem m).2 hm, hb, fun t _ _ h1 h2 => ?_⟩⟩
    have ht := (hmem t).1 h1
    rw [hl] at ht
    have hs := h.way_sorted _ a (Nat.le_refl _)
    rw [hl] at hs
    rcases List.mem_append.1 ht with ht | ht
    · have := hno t ht
      rw [h2] at this
      cases this
    · rcases List.mem_cons.1 ht with rfl | ht
      · exact aeq_iff.2 (.inl rfl)
      · exact (List.pairwise_cons.1 (List.pairwise_append.1 hs).2.1).1 t ht
/-- The document's: of those at or above both, one by one, the lowest. -/
def meetS (f : Int → Int) (a b best i : Int) : Int := if aeq f i a = true ∧ aeq f i b = true ∧ (best = 0 ∨ aeq f best i = true) then i else best
def meetR (n : Nat) (f : Int → Int) (a b : Int) : Int := (upto n).foldl (meetS f a b) 0
theorem upto_succ (k : Nat) : upto (k + 1) = upto k ++ [(k : Int) + 1] := by unfold upto; rw [List.range_succ, List.map_append]; rfl
theorem meetR_succ (f : Int → Int) (a b : Int) (k : Nat) : meetR (k + 1) f a b = meetS f a b (meetR k f a b) (k + 1) := by unfold meetR; rw [upto_succ, List.foldl_append]; rfl
theorem Tree.meetR_lowest {n : Nat} {f : Int → Int} (h : Tree n f) {a b : Int} : ∀ k, k ≤ n → Lowest k f a b (meetR k f a b) := by
  intro k
  induction k with
  | zero => intro _; exact ⟨fun _ t h1 h2 => by omega, fun hne => absurd rfl hne⟩
  | succ k ih =>
    intro hk
    obtain ⟨i1, i2⟩ := ih (by omega)
    rw [meetR_succ]
    generalize meetR k f a b = m at *
    unfold meetS
    split
    · rename_i hc
      obtain ⟨c1, c2, c3⟩ := hc
      refine ⟨fun e => by omega, fun _ => ⟨by omega, by omega, c1, c2, fun t t1 t2 t3 t4 => ?_⟩⟩
      by_cases ht : t = (k : Int) + 1
      · exact aeq_iff.2 (.inl ht)
      · by_cases hm : m = 0
        · exact absurd ⟨t3, t4⟩ (i1 hm t t1 (by omega))
        · obtain ⟨r1, r2, r3, r4, r5⟩ := i2 hm
          exact h.aeq_trans (c3.resolve_left hm) (r5 t t1 (by omega) t3 t4)
    · rename_i hc
      refine ⟨fun hm t t1 t2 hh => ?_, fun hm => ?_⟩
      · by_cases ht : t = (k : Int) + 1
        · subst ht
          exact hc ⟨hh.1, hh.2, .inl hm⟩
        · exact i1 hm t t1 (by omega) hh
      · obtain ⟨r1, r2, r3, r4, r5⟩ := i2 hm
        refine ⟨r1, by omega, r3, r4, fun t t1 t2 t3 t4 => ?_⟩
        by_cases ht : t = (k : Int) + 1
        · subst ht
          rcases h.aeq_chain t3 r3 with h5 | h5
          · exact h5
          · exact absurd ⟨t3, t4, .inr h5⟩ hc
        · exact r5 t t1 (by omega) t3 t4
theorem Tree.meet_same {n : Nat} {f : Int → Int} (h : Tree n f) {a b : Int} (ha : 1 ≤ a ∧ a ≤ n) : meetR n f a b = meetP f a b :=
  h.lowest_unique (h.meetR_lowest n (Nat.le_refl _)) (h.meetP_lowest ha)
theorem Lowest.symm {n : Nat} {f : Int → Int} {a b m : Int} (h : Lowest n f a b m) : Lowest n f b a m :=
  ⟨fun hm t t1 t2 hh => h.1 hm t t1 t2 hh.symm, fun hm => by
    obtain ⟨r1, r2, r3, r4, r5⟩ := h.2 hm
    exact ⟨r1, r2, r4, r3, fun t t1 t2 t3 t4 => r5 t t1 t2 t4 t3⟩⟩
theorem Tree.meetP_comm {n : Nat} {f : Int → Int} (h : Tree n f) {a b : Int} (ha : 1 ≤ a ∧ a ≤ n) (hb : 1 ≤ b ∧ b ≤ n) : meetP f a b = meetP f b a :=
  h.lowest_unique (h.meetP_lowest ha) (h.meetP_lowest hb).symm
theorem meetP_self (f : Int → Int) (a : Int) : meetP f a a = a := by
  unfold meetP
  have : (a :: up f a).find? (fun t => aeq f t a) = some a := List.find?_cons_of_pos (aeq_iff.2 (.inl rfl))
  rw [this]
  rfl
end Go.Proofs.Ythkaohjgldoipaa
