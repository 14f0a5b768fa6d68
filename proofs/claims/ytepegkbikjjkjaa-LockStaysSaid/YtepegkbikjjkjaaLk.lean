/-
  lock: Last, Locked, may.
-/
import Derived.Test.YtepegkbikjjkjaaK2
import Derived.Test.YtepegkbikjjkjaaFirst
namespace Go.Proofs.Ytepegkbikjjkjaa
open Go.RowKit

/-- Locks as cells. -/
def lks : List (Int × Int) → List Int
  | [] => []
  | x :: r => x.1 :: x.2 :: lks r
theorem lks_len (l : List (Int × Int)) : (lks l).length = 2 * l.length := by
  induction l with
  | nil => rfl
  | cons x r ih => simp [lks, ih]; omega
theorem lks_append (l m : List (Int × Int)) : lks (l ++ m) = lks l ++ lks m := by
  induction l with
  | nil => rfl
  | cons x r ih => simp [lks, ih]
theorem lks_get (l : List (Int × Int)) (k : Nat) (hk : k < l.length) : (lks l)[k * 2]? = some l[k].1 ∧ (lks l)[k * 2 + 1]? = some l[k].2 := by
  induction l generalizing k with
  | nil => simp at hk
  | cons x r ih =>
    cases k with
    | zero => simp [lks]
    | succ k =>
      have := ih k (by simpa using hk)
      simpa [lks, Nat.succ_mul] using this
theorem lks_of (n : Nat) : ∀ xs : List Int, xs.length = n * 2 → ∃ l : List (Int × Int), lks l = xs ∧ l.length = n := by
  induction n with
  | zero => intro xs h; exact ⟨[], (List.eq_nil_of_length_eq_zero (by omega)).symm, rfl⟩
  | succ n ih =>
    intro xs h
    match xs, h with
    | [], h => exfalso; simp at h
    | [a], h => exfalso; simp at h; omega
    | a :: b :: r, h =>
      obtain ⟨l, h1, h2⟩ := ih r (by simp at h; omega)
      exact ⟨(a, b) :: l, by simp [lks, h1], by simp [h2]⟩
/-- A row of locks. -/
def RowL (w : World) (A : Option Addr) (l : List (Int × Int)) : Prop := RowAt w A (ivals (lks l))
theorem RowL.below {w w' : World} {A : Option Addr} {l : List (Int × Int)} {B : Nat} (h : RowL w A l) (hb : Below B w w') (hB : w.heap.size ≤ B) : RowL w' A l := RowAt.below h hb hB
theorem RowL.alloc {w : World} {A : Option Addr} {l : List (Int × Int)} (h : RowL w A l) (o : Obj) : RowL (w.alloc o) A l := RowAt.alloc h o
theorem RowL.drew {w : World} {A : Option Addr} {l : List (Int × Int)} (h : RowL w A l) : RowL w.drew A l := h
theorem RowL.get {w : World} {A : Option Addr} {l : List (Int × Int)} (h : RowL w A l) (hn : 0 < l.length) :
    ∃ b off, A = some ⟨b, off, none⟩ ∧ b < w.heap.size ∧ ∀ k (hk : k < l.length), w.cell? ⟨b, off + k * 2, none⟩ = some (.int .i64 l[k].1) ∧ w.cell? ⟨b, off + k * 2 + 1, none⟩ = some (.int .i64 l[k].2) := by
  obtain ⟨b, off, rfl, hb, hc⟩ := h (by rw [ivals_len, lks_len]; omega)
  refine ⟨b, off, rfl, hb, fun k hk => ?_⟩
  obtain ⟨h1, h2⟩ := lks_get l k hk
  exact ⟨hc _ _ (by unfold ivals; rw [List.getElem?_map, h1]; rfl), by rw [Nat.add_assoc]; exact hc _ _ (by unfold ivals; rw [List.getElem?_map, h2]; rfl)⟩

/-- Up to which period an entity's books are locked. -/
def lastI (l : List (Int × Int)) (e : Int) : Int := l.foldl (fun m x => if x.1 = e then max m x.2 else m) (-1)
theorem lastI_snoc (l : List (Int × Int)) (x : Int × Int) (e : Int) : lastI (l ++ [x]) e = if x.1 = e then max (lastI l e) x.2 else lastI l e := by simp [lastI]
theorem lastI_step {l : List (Int × Int)} {k : Nat} (hk : k < l.length) (e : Int) : lastI (l.take (k + 1)) e = if l[k].1 = e then max (lastI (l.take k) e) l[k].2 else lastI (l.take k) e := by
  rw [List.take_succ_eq_append_getElem hk, lastI_snoc]

set_option maxHeartbeats 1000000 in
theorem last_any {A : Option Addr} {c : Nat} {l : List (Int × Int)} {e : Int} {w : World} (hm : l.length ≤ 1000000) (hr : RowL w A l) :
    Calls Try.prog 7 #[.slice A l.length c, .int .i64 e] w fun e' w' => e' = .returned (.int .i64 (lastI l e)) ∧ Below w.heap.size w w' := by
  have R := Lib.hid hr
  clear hr
  go_enter Try.func7, Try.ntmps7
  go_wp2
  go_loopw [5, 10] (fun v i wr => ∃ k : Nat, k ≤ l.length ∧ i = .int .i64 k ∧ v = .int .i64 (lastI (l.take k) e) ∧ Below w.heap.size w wr) (fun _ i _ => l.length - (intOf i).toNat)
  case atStart => exact ⟨0, by omega, rfl, rfl, Below.refl _ _⟩
  case round =>
    obtain ⟨k, hk, rfl, rfl, hb⟩ := hrel
    by_cases hkn : k < l.length
    · obtain ⟨b, off, rfl, hbl, hc⟩ := R.out.get (by omega)
      have hS := Lib.hid (lastI_step hkn e)
      have g1 := (hb.cell (p := ⟨b, off + k * 2, none⟩) hbl).trans (hc k hkn).1
      have g2 := (hb.cell (p := ⟨b, off + k * 2 + 1, none⟩) hbl).trans (hc k hkn).2
      have hlt : b < wr.heap.size := Nat.lt_of_lt_of_le hbl hb.size
      have hsz := hb.size
      clear hc
      generalize l[k].1 = p at *
      generalize l[k].2 = q at *
      generalize lastI (l.take k) e = m at *
      by_cases hpe : p = e
      · rw [if_pos hpe] at hS
        have hb1 : (p == e) = true := by simpa using hpe
        by_cases hmq : m ≤ q
        · rw [Int.max_eq_right hmq] at hS
          clear hpe
          go_wp2
          go_roundw
          case rel => exact ⟨k + 1, by omega, by go_num, by rw [hS.out]; exact congrArg (Value.int .i64) (by split <;> omega), hb.alloc hsz _⟩
          case measure => simp [intOf]; omega
        · rw [Int.max_eq_left (by omega)] at hS
          clear hpe
          go_wp2
          go_roundw
          case rel => exact ⟨k + 1, by omega, by go_num, by rw [hS.out]; exact congrArg (Value.int .i64) (by split <;> omega), hb.alloc hsz _⟩
          case measure => simp [intOf]; omega
      · rw [if_neg hpe] at hS
        have hb1 : (p == e) = false := by simpa using hpe
        clear hpe
        go_wp2
        go_roundw
        case rel => exact ⟨k + 1, by omega, by go_num, by rw [hS.out], hb.alloc hsz _⟩
        case measure => simp [intOf]; omega
    · obtain rfl : k = l.length := by omega
      rw [List.take_length]
      go_wp2
      go_ret
      exact ⟨rfl, hb⟩

/-- Is an entity locked in a period? -/
def lockB (l : List (Int × Int)) (p : Int) (n : Int) : Bool := decide (p ≤ lastI l n)

set_option maxHeartbeats 1000000 in
theorem locked1_any {A : Option Addr} {c : Nat} {l : List (Int × Int)} {p n : Int} {g g' : Nat} {w : World} (hm : l.length ≤ 1000000) (hr : RowL w A l) (bp : Box w g 3 #[.int .i64 p]) (bl : Box w g' 22 #[.slice A l.length c]) :
    Calls Try.prog 14 #[.int .i64 n, .pointer (some ⟨g, 0, none⟩), .pointer (some ⟨g', 0, none⟩)] w fun e' w' => e' = .returned (.bool (lockB l p n)) ∧ Below w.heap.size w w' := by
  have L := Lib.hid fun w (h : RowL w A l) => last_any (c := c) (e := n) hm h
  unfold lockB
  generalize lastI l n = m at *
  have kp := bp.cells
  have kl := bl.cells
  go_enter Try.func14, Try.ntmps14
  go_wp2
  go_region_held3 (fun w' => w'.cell? ⟨g, 0, none⟩ = some (.int .i64 p) ∧ w'.cell? ⟨g', 0, none⟩ = some (.slice A l.length c)) (go_keep)
    (first
      | (go_at_call 7; refine (L.out _ hr.drew).mono ?_; rintro e' w1 ⟨rfl, b1⟩; have k1 := (bp.drew.later b1).cells; have k2 := (bl.drew.later b1).cells))
  have B1 : Below w.heap.size w w1 := ⟨b1.os, b1.tape, b1.output, b1.size, b1.block⟩
  clear k1 k2 b1 kp kl
  go_wp2
  go_ret
  exact ⟨rfl, B1⟩

theorem idx_any (p : Int → Bool) (es : List Int) : decide (0 ≤ idxI (firstOf p es) es.length) = decide (firstOf p es < es.length) := by
  unfold idxI
  split
  · rename_i h
    rw [decide_eq_true h, decide_eq_true (by omega)]
  · rename_i h
    rw [decide_eq_false h, decide_eq_false (by omega)]

set_option maxHeartbeats 1000000 in
theorem indexFunc_any {A A' : Option Addr} {c c' : Nat} {l : List (Int × Int)} {es : List Int} {p : Int} {g g' : Nat} {w : World} (hm : l.length ≤ 1000000) (hm' : es.length ≤ 1000000) (hr : RowL w A l) (hr' : RowAt w A' (ivals es)) (bp : Box w g 3 #[.int .i64 p]) (bl : Box w g' 22 #[.slice A l.length c]) :
    Calls Try.prog 15 #[.slice A' es.length c', .func (.func 14) #[] #[.pointer (some ⟨g, 0, none⟩), .pointer (some ⟨g', 0, none⟩)]] w fun e' w' => e' = .returned (.int .i64 (idxI (firstOf (lockB l p) es) es.length)) ∧ Below w.heap.size w w' := by
  have C := Lib.hid fun n w (h : RowL w A l) (bp : Box w g 3 #[.int .i64 p]) (bl : Box w g' 22 #[.slice A l.length c]) => locked1_any (n := n) hm h bp bl
  have R := Lib.hid hr
  have P := Lib.hid bp
  have L := Lib.hid bl
  clear hr bp bl
  go_enter Try.func15, Try.ntmps15
  go_wp2
  go_loopw [8] (fun i wr => ∃ k : Nat, k ≤ es.length ∧ i = .int .i64 k ∧ Hid (k ≤ firstOf (lockB l p) es) ∧ Below w.heap.size w wr) (fun i _ => es.length - (intOf i).toNat)
  case atStart => exact ⟨0, by omega, rfl, Nat.zero_le _, Below.refl _ _⟩
  case round =>
    obtain ⟨k, hk, rfl, hf, hb⟩ := hrel
    by_cases hkn : k < es.length
    · obtain ⟨b, off, rfl, hbl, hc⟩ := hr'.iget (by omega)
      have h1 : wr.cell? ⟨b, off + k, none⟩ = some (.int .i64 es[k]) := (hb.cell (by exact hbl)).trans (hc k hkn)
      have C1 := Lib.hid (C.out es[k] wr (R.out.below hb (Nat.le_refl _)) (P.out.later hb) (L.out.later hb))
      have H1 := Lib.hid fun h => firstOf_hit (p := lockB l p) hkn hf.out h
      have H2 := Lib.hid fun h => firstOf_step (p := lockB l p) hkn hf.out h
      clear hc
      generalize lockB l p es[k] = q at *
      generalize es[k] = x at *
      go_wp2_with fail
      refine C1.out.mono ?_
      rintro e' w1 ⟨rfl, b1⟩
      have hb1 := hb.trans (b1.mono hb.size)
      cases q
      · have H := Lib.hid (H2.out rfl)
        clear H1 H2 hf C1 h1 hb b1
        go_wp2
        go_roundw
        case rel => exact ⟨k + 1, by omega, by go_num, H.out, hb1⟩
        case measure => simp [intOf]; omega
      · have H := Lib.hid (H1.out rfl)
        clear H1 H2 hf C1 h1 hb b1
        go_wp2
        go_ret
        exact ⟨by rw [H.out, idxI_hit hkn]; try rfl, hb1⟩
    · obtain rfl : k = es.length := by omega
      have H := Lib.hid (firstOf_end hf.out)
      clear hf
      go_wp2
      go_ret
      exact ⟨by rw [H.out, idxI_none]; try rfl, hb⟩

/-- Is one of some entities locked? -/
def anyB (l : List (Int × Int)) (p : Int) (es : List Int) : Bool := decide (firstOf (lockB l p) es < es.length)
theorem anyB_one (l : List (Int × Int)) (p n : Int) : anyB l p [n] = lockB l p n := by
  unfold anyB
  simp only [firstOf, List.length_cons, List.length_nil]
  by_cases h : lockB l p n = true
  · simp [h]
  · simp [h]

theorem containsFunc_any {A A' : Option Addr} {c c' : Nat} {l : List (Int × Int)} {es : List Int} {p : Int} {g g' : Nat} {w : World} (hm : l.length ≤ 1000000) (hm' : es.length ≤ 1000000) (hr : RowL w A l) (hr' : RowAt w A' (ivals es)) (bp : Box w g 3 #[.int .i64 p]) (bl : Box w g' 22 #[.slice A l.length c]) :
    Calls Try.prog 13 #[.slice A' es.length c', .func (.func 14) #[] #[.pointer (some ⟨g, 0, none⟩), .pointer (some ⟨g', 0, none⟩)]] w fun e' w' => e' = .returned (.bool (anyB l p es)) ∧ Below w.heap.size w w' := by
  have C := Lib.hid (indexFunc_any (c' := c') hm hm' hr hr' bp bl)
  unfold anyB
  rw [← idx_any]
  generalize idxI (firstOf (lockB l p) es) es.length = m at *
  clear hr hr' bp bl
  go_enter Try.func13, Try.ntmps13
  go_wp2_with fail
  refine C.out.mono ?_
  rintro e' w1 ⟨rfl, b1⟩
  go_wp2
  go_ret
  exact ⟨rfl, b1⟩

theorem below_up {w w' : World} {o : Obj} (h : Below (w.alloc o).heap.size (w.alloc o) w') : Below w.heap.size w w' :=
  ((Below.refl _ _).alloc (Nat.le_refl _) o).trans (h.mono (by simp))

theorem locked_any {A A' : Option Addr} {c c' : Nat} {l : List (Int × Int)} {es : List Int} {p : Int} {w : World} (hm : l.length ≤ 1000000) (hm' : es.length ≤ 1000000) (hr : RowL w A l) (hr' : RowAt w A' (ivals es)) :
    Calls Try.prog 6 #[.slice A l.length c, .int .i64 p, .slice A' es.length c'] w fun e' w' => e' = .returned (.bool (anyB l p es)) ∧ Below w.heap.size w w' := by
  have hmf : ∀ (fn : Fn) (first cap : Array Value) (w : World), (Instr.makeFunc fn first cap).run Try.prog w = .ok (.func fn first cap) w := fun _ _ _ _ => rfl
  have b0 : Box ((w.alloc (.cells #[.slice A l.length c] 22)).alloc (.cells #[.int .i64 p] 3)) w.heap.size 22 #[.slice A l.length c] := (Box.new _ _ _).alloc _
  have b1 : Box ((w.alloc (.cells #[.slice A l.length c] 22)).alloc (.cells #[.int .i64 p] 3)) (w.heap.size + 1) 3 #[.int .i64 p] := Box.new' (by simp)
  have C := Lib.hid (containsFunc_any (c' := c') hm hm' ((hr.alloc (.cells #[.slice A l.length c] 22)).alloc (.cells #[.int .i64 p] 3)) ((hr'.alloc (.cells #[.slice A l.length c] 22)).alloc (.cells #[.int .i64 p] 3)) b1 b0)
  clear b0 b1 hr hr'
  go_enter Try.func6, Try.ntmps6
  go_wp2_with fail
  refine C.out.mono ?_
  rintro e' w1 ⟨rfl, b1⟩
  go_wp2
  go_ret
  exact ⟨rfl, below_up (below_up b1)⟩

theorem RowAt.lit {w : World} {t : TypeId} (l : List Int) (cs : Array Value) (h : cs = (ivals l).toArray) : RowAt (w.alloc (.cells cs t)) (some ⟨w.heap.size, 0, none⟩) (ivals l) := by
  subst h
  refine RowAt.of_cells fun j u hj => ?_
  rw [addr_add, (Box.new w t _).cells]
  simpa using hj
theorem RowAt.lit1 (w : World) (t : TypeId) (a : Int) : RowAt (w.alloc (.cells #[.int .i64 a] t)) (some ⟨w.heap.size, 0, none⟩) (ivals [a]) := RowAt.lit [a] _ rfl

/-- Why a lock can't be added. -/
def mayI (l : List (Int × Int)) (a b n : Int) : Int := if a < 1 ∨ n < a then 20 else if b < 0 ∨ 24 ≤ b then 22 else if b ≤ lastI l a then 35 else 0

set_option maxHeartbeats 1000000 in
theorem may_any {A : Option Addr} {c : Nat} {l : List (Int × Int)} {a b n : Int} {w : World} (hm : l.length ≤ 1000000) (hr : RowL w A l) :
    Calls Try.prog 11 #[.slice A l.length c, .agg #[.int .i64 a, .int .i64 b], .int .i64 n] w fun e' w' => e' = .returned (.int .i64 (mayI l a b n)) ∧ Below w.heap.size w w' := by
  rcases (by omega : a < 1 ∨ (1 ≤ a ∧ n < a) ∨ (1 ≤ a ∧ a ≤ n)) with h | h | h
  · rw [show mayI l a b n = 20 from if_pos (.inl h)]
    have n1 : decide (a < 1) = true := decide_eq_true h
    go_enter Try.func11, Try.ntmps11
    go_wp2
    go_ret
    exact ⟨rfl, (Below.refl _ _).alloc (Nat.le_refl _) _⟩
  · rw [show mayI l a b n = 20 from if_pos (.inr h.2)]
    have n1 : decide (a < 1) = false := decide_eq_false (by omega)
    have n2 : decide (n < a) = true := decide_eq_true h.2
    go_enter Try.func11, Try.ntmps11
    go_wp2
    go_ret
    exact ⟨rfl, (Below.refl _ _).alloc (Nat.le_refl _) _⟩
  · have n1 : decide (a < 1) = false := decide_eq_false (by omega)
    have n2 : decide (n < a) = false := decide_eq_false (by omega)
    have e0 : ∀ q : Int, (if b < 0 ∨ 24 ≤ b then 22 else if b ≤ lastI l a then 35 else 0) = q → mayI l a b n = q := by intro q hq; unfold mayI; rw [if_neg (by omega), hq]
    rcases (by omega : b < 0 ∨ 24 ≤ b ∨ (0 ≤ b ∧ b < 24)) with g | g | g
    · rw [e0 22 (if_pos (.inl g))]
      have n3 : decide (b < 0) = true := decide_eq_true g
      clear e0
      go_enter Try.func11, Try.ntmps11
      go_wp2
      go_ret
      exact ⟨rfl, (Below.refl _ _).alloc (Nat.le_refl _) _⟩
    · rw [e0 22 (if_pos (.inr g))]
      have n3 : decide (b < 0) = false := decide_eq_false (by omega)
      have n4 : decide (24 ≤ b) = true := decide_eq_true g
      clear e0
      go_enter Try.func11, Try.ntmps11
      go_wp2
      go_ret
      exact ⟨rfl, (Below.refl _ _).alloc (Nat.le_refl _) _⟩
    · have n3 : decide (b < 0) = false := decide_eq_false (by omega)
      have n4 : decide (24 ≤ b) = false := decide_eq_false (by omega)
      have r1 := RowAt.lit1 (w.alloc (.cells #[.int .i64 a, .int .i64 b] 24)) 3 a
      rw [show (w.alloc (.cells #[.int .i64 a, .int .i64 b] 24)).heap.size = w.heap.size + 1 by simp] at r1
      have C := Lib.hid (locked_any (c := c) (c' := 1) (p := b) hm (by simp) ((hr.alloc (.cells #[.int .i64 a, .int .i64 b] 24)).alloc (.cells #[.int .i64 a] 3)) r1)
      rw [anyB_one] at C
      unfold lockB at C
      clear r1 hr
      by_cases f : b ≤ lastI l a
      · rw [e0 35 (by rw [if_neg (by omega), if_pos f])]
        rw [decide_eq_true f] at C
        clear e0 f
        go_enter Try.func11, Try.ntmps11
        go_wp2_with fail
        refine C.out.mono ?_
        rintro e' w1 ⟨rfl, b1⟩
        go_wp2
        go_ret
        exact ⟨rfl, below_up (below_up b1)⟩
      · rw [e0 0 (by rw [if_neg (by omega), if_neg f])]
        rw [decide_eq_false f] at C
        clear e0 f
        go_enter Try.func11, Try.ntmps11
        go_wp2_with fail
        refine C.out.mono ?_
        rintro e' w1 ⟨rfl, b1⟩
        go_wp2
        go_ret
        exact ⟨rfl, below_up (below_up b1)⟩
end Go.Proofs.Ytepegkbikjjkjaa
