/-
  Chapter 6 in plain lists: the text of a number with so many decimals, and which texts are that of a number; nothing of the program is in sight.
-/
import Derived.Test.YtmdflhgmlipplaaDoorDM
namespace Go.Proofs.YtmdflhgmlipplaaDoor

/-- The digits of a number, the last one first. -/
def digs (n : Nat) : List Int := if h : n = 0 then [] else ((n % 10 : Nat) : Int) :: digs (n / 10)
termination_by n
theorem digs_zero : digs 0 = [] := by unfold digs; rfl
theorem digs_pos {n : Nat} (h : n ≠ 0) : digs n = ((n % 10 : Nat) : Int) :: digs (n / 10) := by
  conv => lhs; unfold digs
  rw [dif_neg h]
theorem digs_val (n : Nat) : val (digs n) = n := by
  induction n using Nat.strongRecOn with
  | _ n ih =>
    by_cases h : n = 0
    · subst h; rw [digs_zero]; rfl
    · rw [digs_pos h, val, ih (n / 10) (by omega)]; omega
theorem digs_can (n : Nat) : Can (digs n) := by
  induction n using Nat.strongRecOn with
  | _ n ih =>
    by_cases h : n = 0
    · subst h; rw [digs_zero]; exact can_nil
    · rw [digs_pos h]
      have hi := ih (n / 10) (by omega)
      refine ⟨fun d hd => ?_, fun hne => ?_⟩
      · rcases List.mem_cons.1 hd with rfl | hd
        · omega
        · exact hi.1 d hd
      · by_cases h2 : n / 10 = 0
        · have e : digs (n / 10) = [] := by rw [h2, digs_zero]
          simp only [e, List.getLast_singleton]
          omega
        · have e : digs (n / 10) ≠ [] := by rw [digs_pos h2]; simp
          rw [List.getLast_cons e]
          exact hi.2 e
theorem can_tail {d : Int} {r : List Int} (h : Can (d :: r)) : Can r := by
  refine ⟨h.1.cons.2, fun hne => ?_⟩
  have := h.2 (by simp)
  rwa [List.getLast_cons hne] at this
theorem can_unique {l : List Int} : ∀ {m : List Int}, Can l → Can m → val l = val m → l = m := by
  induction l with
  | nil =>
    intro m hl hm hv
    cases m with
    | nil => rfl
    | cons d r =>
      exfalso
      have h1 := hm.1.cons
      have h2 := val_nonneg h1.2
      simp only [val] at hv
      have h3 : val r = 0 := by omega
      have h4 : d = 0 := by omega
      cases r with
      | nil => exact hm.2 (by simp) (by simpa using h4)
      | cons d' r' =>
        -- all zero: the last one is not
        clear hl
        have : ∀ l : List Int, Can l → val l = 0 → l = [] := by
          intro l
          induction l with
          | nil => intro _ _; rfl
          | cons x t ih =>
            intro hc hv
            exfalso
            have g1 := hc.1.cons
            have g2 := val_nonneg g1.2
            simp only [val] at hv
            have e := ih (can_tail hc) (by omega)
            subst e
            exact hc.2 (by simp) (by simp only [val] at hv; simpa using (by omega : x = 0))
        have := this _ (can_tail hm) h3
        cases this
  | cons a t ih =>
    intro m hl hm hv
    cases m with
    | nil =>
      exfalso
      have : ∀ l : List Int, Can l → val l = 0 → l = [] := by
        intro l
        induction l with
        | nil => intro _ _; rfl
        | cons x t ih =>
          intro hc hv
          exfalso
          have g1 := hc.1.cons
          have g2 := val_nonneg g1.2
          simp only [val] at hv
          have e := ih (can_tail hc) (by omega)
          subst e
          exact hc.2 (by simp) (by simp only [val] at hv; simpa using (by omega : x = 0))
      have := this _ hl hv
      cases this
    | cons b s =>
      have h1 := hl.1.cons
      have h2 := hm.1.cons
      simp only [val] at hv
      have e1 : a = b := by omega
      have e2 : val t = val s := by omega
      rw [e1, ih (can_tail hl) (can_tail hm) e2]
theorem digs_of {l : List Int} (h : Can l) {n : Nat} (hv : val l = n) : l = digs n := can_unique h (digs_can n) (by rw [hv, digs_val])

/-- Digits as bytes; with a point ahead of the last d; the last one first. -/
def dgB (x : Int) : UInt8 := UInt8.ofNat (48 + x.toNat)
def revT (d : Nat) (l : List Int) : List UInt8 := (l.take d).map dgB ++ ((if 0 < d then [46] else []) ++ (l.drop d).map dgB)
def uT (d : Nat) (l : List Int) : List UInt8 := (revT d l).reverse
def padD (d : Nat) (l : List Int) : List Int := l ++ List.replicate (d + 1 - l.length) 0
/-- The text of a number with d decimals. -/
def textZ (d : Nat) (z : Int) : List UInt8 := if z < 0 then 45 :: uT d (padD d (digs z.natAbs)) else uT d (padD d (digs z.natAbs))
/-- At least d + 1 digits, and no nought at the top but where there are just so many. -/
def Pad (d : Nat) (l : List Int) : Prop := Dg l ∧ d < l.length ∧ (l.length = d + 1 ∨ ∀ h : l ≠ [], l.getLast h ≠ 0)
theorem pad_padD (d n : Nat) : Pad d (padD d (digs n)) := by
  have hc := digs_can n
  unfold padD
  refine ⟨fun x hx => ?_, by simp; omega, ?_⟩
  · rcases List.mem_append.1 hx with hx | hx
    · exact hc.1 x hx
    · rw [List.eq_of_mem_replicate hx]; omega
  · by_cases h : (digs n).length ≤ d + 1
    · left; simp; omega
    · right
      have e : d + 1 - (digs n).length = 0 := by omega
      rw [e]
      simpa using hc.2
theorem val_append' (l : List Int) (n : Nat) : val (l ++ List.replicate n 0) = val l := by
  induction l with
  | nil => simpa [val] using val_zeros n
  | cons a t ih => simp only [List.cons_append, val, ih]
theorem padD_val (d n : Nat) : val (padD d (digs n)) = n := by unfold padD; rw [val_append', digs_val]
theorem pad_ext {l m : List Int} (hl : Dg l) (hm : Dg m) (hlen : l.length = m.length) (hv : val l = val m) : l = m := by
  induction l generalizing m with
  | nil => cases m with
    | nil => rfl
    | cons b s => simp at hlen
  | cons a t ih => cases m with
    | nil => simp at hlen
    | cons b s =>
      have h1 := hl.cons
      have h2 := hm.cons
      simp only [val] at hv
      have e1 : a = b := by omega
      rw [e1, ih h1.2 h2.2 (by simpa using hlen) (by omega)]
theorem ten_val_lt {l : List Int} (h : Dg l) : val l < 10 ^ l.length := by
  induction l with
  | nil => simp [val]
  | cons a t ih => have := ih h.cons.2; have := h.cons.1; simp only [val, List.length_cons, Int.pow_succ]; omega
theorem last_val_ge {l : List Int} (h : Dg l) (hne : l ≠ []) (hl : l.getLast hne ≠ 0) : 10 ^ (l.length - 1) ≤ val l := by
  induction l with
  | nil => exact absurd rfl hne
  | cons a t ih =>
    have h1 := h.cons
    cases t with
    | nil => simp only [val, List.length_singleton, Nat.sub_self]; simp at hl; omega
    | cons b s =>
      have := ih h1.2 (by simp) (by simpa using hl)
      simp only [val, List.length_cons, Nat.add_sub_cancel] at this ⊢
      rw [Int.pow_succ]; omega
theorem pow10_mono {a b : Nat} (h : a ≤ b) : (10 : Int) ^ a ≤ 10 ^ b := by
  obtain ⟨k, rfl⟩ := Nat.exists_eq_add_of_le h
  rw [Int.pow_add]
  have h1 : (0 : Int) < 10 ^ k := Int.pow_pos (by omega)
  have h2 : (0 : Int) < 10 ^ a := Int.pow_pos (by omega)
  calc (10 : Int) ^ a = 10 ^ a * 1 := by omega
    _ ≤ 10 ^ a * 10 ^ k := Int.mul_le_mul_of_nonneg_left (by omega) (by omega)
/-- Such digits are told by their value. -/
theorem pad_unique {d : Nat} {l m : List Int} (hl : Pad d l) (hm : Pad d m) (hv : val l = val m) : l = m := by
  have key : ∀ {l m : List Int}, Pad d l → Pad d m → val l = val m → l.length ≤ m.length := by
    intro l m hl hm hv
    by_cases h : l.length ≤ m.length
    · exact h
    · exfalso
      have hn : l.length ≠ d + 1 := by have := hm.2.1; omega
      have hne : l ≠ [] := by rintro rfl; simp at h
      have h3 := last_val_ge hl.1 hne ((hl.2.2.resolve_left hn) hne)
      have h4 := ten_val_lt hm.1
      have h5 := pow10_mono (show m.length ≤ l.length - 1 by omega)
      omega
  exact pad_ext hl.1 hm.1 (Nat.le_antisymm (key hl hm hv) (key hm hl hv.symm)) hv
theorem padD_of {d : Nat} {l : List Int} (hl : Pad d l) {n : Nat} (hv : val l = n) : padD d (digs n) = l := pad_unique (pad_padD d n) hl (by rw [padD_val, hv])

theorem dgB_toNat {x : Int} (h : 0 ≤ x ∧ x ≤ 9) : (dgB x).toNat = 48 + x.toNat := by
  unfold dgB
  rw [UInt8.toNat_ofNat']
  exact Nat.mod_eq_of_lt (by omega)
def isD (c : UInt8) : Bool := 48 ≤ c.toNat && c.toNat ≤ 57
theorem isD_dgB {x : Int} (h : 0 ≤ x ∧ x ≤ 9) : isD (dgB x) = true := by unfold isD; rw [dgB_toNat h]; simp; omega
def numB (c : UInt8) : Int := (c.toNat : Int) - 48
theorem numB_dgB {x : Int} (h : 0 ≤ x ∧ x ≤ 9) : numB (dgB x) = x := by unfold numB; rw [dgB_toNat h]; omega
theorem dgB_numB {c : UInt8} (h : isD c = true) : dgB (numB c) = c ∧ 0 ≤ numB c ∧ numB c ≤ 9 := by
  unfold isD at h
  simp at h
  refine ⟨?_, by unfold numB; omega, by unfold numB; omega⟩
  apply UInt8.toNat_inj.1
  rw [dgB_toNat (by unfold numB; omega)]
  unfold numB; omega
theorem map_dgB_isD {l : List Int} (h : Dg l) : ∀ c ∈ l.map dgB, isD c = true := by
  intro c hc
  obtain ⟨x, hx, rfl⟩ := List.mem_map.1 hc
  exact isD_dgB (h x hx)
/-- The digits of a text with a point are its digits. -/
theorem filter_uT {d : Nat} {l : List Int} (h : Dg l) : (uT d l).filter isD = (l.map dgB).reverse := by
  have h1 : ∀ m : List Int, Dg m → (m.map dgB).filter isD = m.map dgB := fun m hm => List.filter_eq_self.2 (map_dgB_isD hm)
  unfold uT revT
  rw [List.filter_reverse, List.filter_append, List.filter_append, h1 _ (fun x hx => h x (List.mem_of_mem_take hx)), h1 _ (fun x hx => h x (List.mem_of_mem_drop hx))]
  have e : (if 0 < d then [46] else [] : List UInt8).filter isD = [] := by split <;> rfl
  rw [e, List.nil_append, ← List.map_append, List.take_append_drop]
/-- What a text's digits come to. -/
def accD (l : List UInt8) : Int := l.foldl (fun b c => 10 * b + numB c) 0
theorem accD_snoc (l : List UInt8) (c : UInt8) : accD (l ++ [c]) = 10 * accD l + numB c := by unfold accD; rw [List.foldl_append]; rfl
theorem accD_rev {l : List Int} (h : Dg l) : accD (l.map dgB).reverse = val l := by
  induction l with
  | nil => rfl
  | cons a t ih =>
    rw [List.map_cons, List.reverse_cons, accD_snoc, ih h.cons.2, numB_dgB h.cons.1]
    simp only [val]; omega
theorem accD_nonneg {l : List UInt8} (h : ∀ c ∈ l, isD c = true) : 0 ≤ accD l := by
  have : l = ((l.map numB).reverse.map dgB).reverse := by
    rw [List.map_reverse, List.reverse_reverse, List.map_map]
    conv => lhs; rw [← List.map_id l]
    exact List.map_congr_left fun c hc => ((dgB_numB (h c hc)).1).symm
  have hd : Dg (l.map numB).reverse := by
    intro x hx
    obtain ⟨c, hc, rfl⟩ := List.mem_map.1 (List.mem_reverse.1 hx)
    exact (dgB_numB (h c hc)).2
  rw [this, accD_rev hd]
  exact val_nonneg hd

/-- What the program asks of a text without its sign: the point at its place, digits, no nought at the top. -/
def cutP (d : Nat) (s : List UInt8) : Option (List UInt8) := if 0 < d then (if d + 2 ≤ s.length ∧ s[s.length - 1 - d]? = some 46 then some (s.take (s.length - 1 - d) ++ s.drop (s.length - d)) else none) else some s
def okP (d : Nat) (o : List UInt8) : Bool := o.all isD && (decide (o.length = d + 1) || (decide (d + 1 < o.length) && (o[0]? != some 48)))
theorem plain_uT {d : Nat} {l : List Int} (h : Pad d l) : cutP d (uT d l) = some (l.map dgB).reverse ∧ okP d (l.map dgB).reverse = true := by
  obtain ⟨hd, hlen, htop⟩ := h
  constructor
  · unfold cutP
    by_cases h0 : 0 < d
    · rw [if_pos h0]
      have e1 : uT d l = ((l.drop d).map dgB).reverse ++ (46 :: ((l.take d).map dgB).reverse) := by
        unfold uT revT; rw [if_pos h0]; simp
      have e2 : (uT d l).length = l.length + 1 := by rw [e1]; simp <;> omega
      have hk : (((l.drop d).map dgB).reverse).length = l.length - d := by simp
      rw [e2, if_pos ⟨by omega, by rw [e1, List.getElem?_append_right (by omega), show l.length + 1 - 1 - d - (((l.drop d).map dgB).reverse).length = 0 by omega]; rfl⟩]
      congr 1
      rw [e1]
      generalize hA : ((l.drop d).map dgB).reverse = A at *
      generalize hB : ((l.take d).map dgB).reverse = B at *
      have t1 : (A ++ 46 :: B).take (l.length + 1 - 1 - d) = A := by rw [List.take_append_of_le_length (by omega), List.take_of_length_le (by omega)]
      have t2 : (A ++ 46 :: B).drop (l.length + 1 - d) = B := by
        rw [List.drop_append, List.drop_eq_nil_of_le (by omega), show l.length + 1 - d - A.length = 1 by omega]; rfl
      rw [t1, t2, ← hA, ← hB, ← List.reverse_append, ← List.map_append, List.take_append_drop]
    · rw [if_neg h0]
      obtain rfl : d = 0 := by omega
      unfold uT revT
      simp
  · unfold okP
    have h1 : (l.map dgB).reverse.all isD = true := List.all_eq_true.2 fun c hc => map_dgB_isD hd c (List.mem_reverse.1 hc)
    rw [h1, Bool.true_and]
    rcases htop with h2 | h2
    · simp [h2]
    · by_cases h3 : l.length = d + 1
      · simp [h3]
      · have hne : l ≠ [] := by rintro rfl; simp at hlen
        have h4 := h2 hne
        have h5 : (l.map dgB).reverse[0]? = some (dgB (l.getLast hne)) := by
          rw [← List.head?_eq_getElem?, List.head?_reverse, List.getLast?_map, List.getLast?_eq_some_getLast hne]; rfl
        rw [h5]
        have h6 : dgB (l.getLast hne) ≠ 48 := by
          intro e
          have := dgB_toNat (hd _ (List.getLast_mem hne))
          rw [e] at this
          have h7 := hd _ (List.getLast_mem hne)
          have : (48 : UInt8).toNat = 48 := rfl
          omega
        simp [h6]
        omega
theorem plain_back {d : Nat} {s o : List UInt8} (hc : cutP d s = some o) (ho : okP d o = true) : ∃ l, Pad d l ∧ s = uT d l ∧ o = (l.map dgB).reverse := by
  unfold okP at ho
  simp only [Bool.and_eq_true, Bool.or_eq_true, decide_eq_true_eq, List.all_eq_true] at ho
  obtain ⟨hall, htop⟩ := ho
  have ho' : o = ((o.reverse.map numB).map dgB).reverse := by
    rw [List.map_map, List.map_reverse, List.reverse_reverse]
    conv => lhs; rw [← List.map_id o]
    exact List.map_congr_left fun c hc => ((dgB_numB (hall c hc)).1).symm
  refine ⟨o.reverse.map numB, ⟨?_, ?_, ?_⟩, ?_, ho'⟩
  · intro x hx
    obtain ⟨c, hc, rfl⟩ := List.mem_map.1 hx
    exact (dgB_numB (hall c (List.mem_reverse.1 hc))).2
  · simp; omega
  · rcases htop with h | ⟨h1, h2⟩
    · left; simpa using h
    · right
      intro hne
      have hne' : o ≠ [] := by rintro rfl; simp at hne
      rw [List.getLast_map, List.getLast_reverse]
      intro e
      have h3 := dgB_numB (hall _ (List.head_mem hne'))
      rw [e] at h3
      have h4 : o[0]? = some (o.head hne') := by rw [← List.head?_eq_getElem?, List.head?_eq_some_head hne']
      rw [h4, ← h3.1] at h2
      exact absurd h2 (by decide)
  · have hs : s = if 0 < d then o.take (o.length - d) ++ (46 :: o.drop (o.length - d)) else o := by
      unfold cutP at hc
      split at hc
      · rename_i h0
        split at hc
        · rename_i h1
          obtain ⟨h1, h2⟩ := h1
          injection hc with hc
          have hl : o.length = s.length - 1 := by rw [← hc]; simp; omega
          rw [if_pos h0, hl, ← hc]
          have ht : (s.take (s.length - 1 - d)).length = s.length - 1 - d := by simp; omega
          rw [List.take_append_of_le_length (by omega), List.take_of_length_le (by omega), List.drop_append, List.drop_eq_nil_of_le (by omega), ht, Nat.sub_self, List.drop_zero, List.nil_append]
          conv => lhs; rw [← List.take_append_drop (s.length - 1 - d) s]
          congr 1
          have hlt : s.length - 1 - d < s.length := by omega
          rw [List.drop_eq_getElem_cons hlt]
          rw [List.getElem?_eq_getElem hlt] at h2
          injection h2 with h2
          rw [h2, show s.length - 1 - d + 1 = s.length - d by omega]
        · cases hc
      · rename_i h0
        injection hc with hc
        rw [if_neg h0, hc]
    rw [hs]
    unfold uT revT
    have e : ∀ n, (o.reverse.map numB).take n = ((o.drop (o.length - n)).reverse).map numB := fun n => by rw [← List.map_take, List.take_reverse]
    have e' : ∀ n, (o.reverse.map numB).drop n = ((o.take (o.length - n)).reverse).map numB := fun n => by rw [← List.map_drop, List.drop_reverse]
    have m : ∀ q : List UInt8, (∀ c ∈ q, isD c = true) → (q.reverse.map numB).map dgB = q.reverse := by
      intro q hq
      rw [List.map_map]
      conv => rhs; rw [← List.map_id q.reverse]
      exact List.map_congr_left fun c hc => (dgB_numB (hq c (List.mem_reverse.1 hc))).1
    rw [e, e', m _ (fun c hc => hall c (List.mem_of_mem_drop hc)), m _ (fun c hc => hall c (List.mem_of_mem_take hc))]
    split
    · simp
    · rename_i h0
      obtain rfl : d = 0 := by omega
      simp

theorem uT_head {d : Nat} {l : List Int} (hd : Dg l) (hlen : d < l.length) : (uT d l).head? ≠ some 45 := by
  unfold uT revT
  have hne : (l.drop d).map dgB ≠ [] := by simp; omega
  rw [List.head?_reverse, List.getLast?_append, List.getLast?_append, List.getLast?_eq_some_getLast hne]
  simp only [Option.some_or]
  intro e
  injection e with e
  have := map_dgB_isD (fun x hx => hd x (List.mem_of_mem_drop hx)) _ (List.getLast_mem hne)
  rw [e] at this
  exact absurd this (by decide)
def accS (s : List UInt8) : Int := accD (s.filter isD)
/-- The number that a text's digits are, with its sign. -/
def zS (s : List UInt8) : Int := if s.head? = some 45 then -accS s else accS s
theorem accS_nonneg (s : List UInt8) : 0 ≤ accS s := accD_nonneg fun _ hc => (List.mem_filter.1 hc).2
theorem accS_uT {d : Nat} {l : List Int} (h : Pad d l) : accS (uT d l) = val l := by unfold accS; rw [filter_uT h.1, accD_rev h.1]
theorem zS_minus (r : List UInt8) : zS (45 :: r) = -accS (45 :: r) := if_pos rfl
theorem accS_minus (r : List UInt8) : accS (45 :: r) = accS r := by unfold accS; rw [List.filter_cons_of_neg (by decide)]
theorem textZ_nonneg {d : Nat} {l : List Int} (h : Pad d l) : textZ d (val l) = uT d l := by
  have h0 := val_nonneg h.1
  unfold textZ
  rw [if_neg (by omega), padD_of h (by omega)]
theorem textZ_neg {d : Nat} {l : List Int} (h : Pad d l) (h0 : val l ≠ 0) : textZ d (-val l) = 45 :: uT d l := by
  have h1 := val_nonneg h.1
  unfold textZ
  rw [if_pos (by omega), padD_of h (by omega)]
theorem parse_plus {d : Nat} {s o : List UInt8} (hs : s.head? ≠ some 45) (hc : cutP d s = some o) (ho : okP d o = true) : textZ d (zS s) = s ∧ zS s = accD o := by
  obtain ⟨l, hl, rfl, rfl⟩ := plain_back hc ho
  unfold zS
  rw [if_neg hs, accS_uT hl, accD_rev hl.1]
  exact ⟨textZ_nonneg hl, rfl⟩
theorem parse_minus {d : Nat} {r o : List UInt8} (hc : cutP d r = some o) (ho : okP d o = true) (h0 : accD o ≠ 0) : textZ d (zS (45 :: r)) = 45 :: r ∧ zS (45 :: r) = -accD o := by
  obtain ⟨l, hl, rfl, rfl⟩ := plain_back hc ho
  rw [accD_rev hl.1] at h0 ⊢
  rw [zS_minus, accS_minus, accS_uT hl]
  exact ⟨textZ_neg hl h0, rfl⟩
/-- A text is that of a number just where the program takes it. -/
theorem text_plus {d : Nat} {s : List UInt8} (hs : s.head? ≠ some 45) (h : textZ d (zS s) = s) : ∃ o, cutP d s = some o ∧ okP d o = true := by
  unfold zS at h
  rw [if_neg hs] at h
  have h0 := accS_nonneg s
  unfold textZ at h
  rw [if_neg (by omega)] at h
  have := plain_uT (pad_padD d (accS s).natAbs)
  rw [h] at this
  exact ⟨_, this⟩
theorem text_minus {d : Nat} {r : List UInt8} (h : textZ d (zS (45 :: r)) = 45 :: r) : ∃ o, cutP d r = some o ∧ okP d o = true ∧ accD o ≠ 0 := by
  rw [zS_minus, accS_minus] at h
  have h0 := accS_nonneg r
  unfold textZ at h
  have hp := pad_padD d (-accS r).natAbs
  split at h
  · rename_i hn
    injection h with _ h
    have := plain_uT hp
    rw [h] at this
    refine ⟨_, this.1, this.2, ?_⟩
    rw [accD_rev hp.1, padD_val]
    omega
  · exfalso
    have := uT_head hp.1 hp.2.1
    rw [h] at this
    exact this rfl
theorem zS_text (d : Nat) (z : Int) : zS (textZ d z) = z := by
  have hp := pad_padD d z.natAbs
  unfold textZ
  split
  · rw [zS_minus, accS_minus, accS_uT hp, padD_val]; omega
  · unfold zS
    rw [if_neg (uT_head hp.1 hp.2.1), accS_uT hp, padD_val]; omega

/-- Digits with the point, place by place from j on. -/
def rv (d : Nat) : Nat → List Int → List UInt8
  | _, [] => []
  | j, x :: r => (if j = d ∧ 0 < d then [46] else []) ++ dgB x :: rv d (j + 1) r
theorem rv_append (d : Nat) (l m : List Int) : ∀ j, rv d j (l ++ m) = rv d j l ++ rv d (j + l.length) m := by
  induction l with
  | nil => intro j; rfl
  | cons a t ih => intro j; simp only [List.cons_append, rv, ih, List.length_cons, List.append_assoc]; rw [show j + 1 + t.length = j + (t.length + 1) by omega]
theorem rv_low (d : Nat) (l : List Int) : ∀ j, j + l.length ≤ d → rv d j l = l.map dgB := by
  induction l with
  | nil => intro j _; rfl
  | cons a t ih => intro j h; simp only [List.length_cons] at h; rw [rv, if_neg (by omega), ih _ (by omega)]; rfl
theorem rv_high (d : Nat) (l : List Int) : ∀ j, d < j → rv d j l = l.map dgB := by
  induction l with
  | nil => intro j _; rfl
  | cons a t ih => intro j h; rw [rv, if_neg (by omega), ih _ (by omega)]; rfl
theorem rv_all {d : Nat} {l : List Int} (h : d < l.length) : rv d 0 l = revT d l := by
  conv => lhs; rw [← List.take_append_drop d l]
  have ht : (l.take d).length = d := by simp; omega
  rw [rv_append, rv_low _ _ _ (by omega), ht, Nat.zero_add, List.drop_eq_getElem_cons h, rv, rv_high _ _ _ (by omega)]
  unfold revT
  rw [List.drop_eq_getElem_cons h, List.map_cons]
  by_cases h0 : 0 < d <;> simp [h0]
theorem rv_take {d i : Nat} {l : List Int} (h : i < l.length) : rv d 0 (l.take (i + 1)) = rv d 0 (l.take i) ++ ((if i = d ∧ 0 < d then [46] else []) ++ [dgB l[i]]) := by
  rw [List.take_succ_eq_append_getElem h, rv_append, List.length_take, Nat.min_eq_left (by omega), Nat.zero_add, rv, rv]
theorem rv_drop {d i : Nat} {l : List Int} (h : i < l.length) : (rv d i (l.drop i)).reverse = (rv d (i + 1) (l.drop (i + 1))).reverse ++ (dgB l[i] :: (if i = d ∧ 0 < d then [46] else [])) := by
  rw [List.drop_eq_getElem_cons h, rv]
  by_cases h0 : i = d ∧ 0 < d
  · rw [if_pos h0]; simp
  · rw [if_neg h0]; simp
/-- Digits, at least r of them. -/
def padR (r n : Nat) : List Int := digs n ++ List.replicate (r - (digs n).length) 0
theorem padR_end : padR 0 0 = [] := by unfold padR; rw [digs_zero]; rfl
theorem padR_step {r n : Nat} (h : n ≠ 0 ∨ r ≠ 0) : padR r n = ((n % 10 : Nat) : Int) :: padR (r - 1) (n / 10) := by
  unfold padR
  by_cases h0 : n = 0
  · subst h0
    obtain ⟨k, rfl⟩ : ∃ k, r = k + 1 := ⟨r - 1, by omega⟩
    simp [digs_zero, List.replicate_succ]
  · rw [digs_pos h0]
    simp only [List.cons_append, List.length_cons]
    rw [show r - ((digs (n / 10)).length + 1) = r - 1 - (digs (n / 10)).length by omega]
theorem padR_len (r n : Nat) : (padR r n).length = max r (digs n).length := by unfold padR; simp; omega
theorem digs_len {n k : Nat} (h : n < 10 ^ k) : (digs n).length ≤ k := by
  induction k generalizing n with
  | zero => have : n = 0 := by simp at h; omega
            subst this; rw [digs_zero]; simp
  | succ k ih =>
    by_cases h0 : n = 0
    · subst h0; rw [digs_zero]; simp
    · rw [digs_pos h0]
      have := ih (n := n / 10) (by rw [Nat.pow_succ] at h; omega)
      simp; omega
theorem textZ_len {d : Nat} (z : Int) (h : z.natAbs < 10 ^ 40) (hd : d ≤ 6) : (textZ d z).length ≤ 60 := by
  have h1 := digs_len h
  have h2 : (uT d (padD d (digs z.natAbs))).length ≤ 48 := by
    unfold uT revT padD
    simp only [List.length_reverse, List.length_append, List.length_map, List.length_take, List.length_drop, List.length_replicate]
    split <;> simp <;> omega
  unfold textZ
  split <;> simp <;> omega
end Go.Proofs.YtmdflhgmlipplaaDoor
