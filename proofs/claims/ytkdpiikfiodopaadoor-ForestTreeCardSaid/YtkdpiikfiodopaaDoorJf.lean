/-
  forest.At: the forest of a period, in a block of its own.
-/
import Derived.Test.YtkdpiikfiodopaaDoorJe
import Derived.Test.YtkdpiikfiodopaaDoorW2
namespace Go.Proofs.YtkdpiikfiodopaaDoor
open Go.RowKit

/-- A forest of n entities: who holds each, and its share. -/
def ForAt (w : World) (g : Nat) (n : Nat) (f s : Int → Int) : Prop :=
  g < w.heap.size ∧ n ≤ 40 ∧ w.cell? ⟨g, 0, none⟩ = some (.int .i64 n) ∧ ∀ i : Nat, 1 ≤ i → i ≤ n → w.cell? ⟨g, 1 + i * 2, none⟩ = some (.int .i64 (f i)) ∧ w.cell? ⟨g, 1 + i * 2 + 1, none⟩ = some (.int .i64 (s i))
theorem ForAt.later {w w' : World} {g n : Nat} {f s : Int → Int} (h : ForAt w g n f s) (hb : Below w.heap.size w w') : ForAt w' g n f s := by
  obtain ⟨h1, h2, h3, h4⟩ := h
  refine ⟨Nat.lt_of_lt_of_le h1 hb.size, h2, (hb.cell (p := ⟨g, 0, none⟩) h1).trans h3, fun i hi hi' => ?_⟩
  obtain ⟨h5, h6⟩ := h4 i hi hi'
  exact ⟨(hb.cell (p := ⟨g, 1 + i * 2, none⟩) h1).trans h5, (hb.cell (p := ⟨g, 1 + i * 2 + 1, none⟩) h1).trans h6⟩
theorem ForAt.drew {w : World} {g n : Nat} {f s : Int → Int} (h : ForAt w g n f s) : ForAt w.drew g n f s := h
theorem ForAt.alloc {w : World} {g n : Nat} {f s : Int → Int} (h : ForAt w g n f s) (o : Obj) : ForAt (w.alloc o) g n f s :=
  h.later ((Below.refl _ _).alloc (Nat.le_refl _) _)

/-- What At has filled in. -/
def Fil (cs : Array Value) (n : Int) (f s : Int → Int) (k : Nat) : Prop :=
  cs.size = 83 ∧ cs[0]? = some (.int .i64 n) ∧ ∀ i : Nat, 1 ≤ i → i < k → cs[1 + i * 2]? = some (.int .i64 (f i)) ∧ cs[1 + i * 2 + 1]? = some (.int .i64 (s i))
theorem Fil.step {cs : Array Value} {n : Int} {f s : Int → Int} {k : Nat} (h : Fil cs n f s k) (hk : 1 ≤ k) (hk2 : k ≤ 40) :
    Fil ((cs.setIfInBounds (1 + k * 2) (.int .i64 (f k))).setIfInBounds (1 + k * 2 + 1) (.int .i64 (s k))) n f s (k + 1) := by
  obtain ⟨h1, h2, h3⟩ := h
  refine ⟨by simp [h1], ?_, fun i hi hik => ?_⟩
  · rw [Array.getElem?_setIfInBounds_ne (by omega), Array.getElem?_setIfInBounds_ne (by omega)]
    exact h2
  · rcases (by omega : i < k ∨ i = k) with h | rfl
    · obtain ⟨h4, h5⟩ := h3 i hi h
      constructor
      · rw [Array.getElem?_setIfInBounds_ne (by omega), Array.getElem?_setIfInBounds_ne (by omega)]
        exact h4
      · rw [Array.getElem?_setIfInBounds_ne (by omega), Array.getElem?_setIfInBounds_ne (by omega)]
        exact h5
    · constructor
      · rw [Array.getElem?_setIfInBounds_ne (by omega), Array.getElem?_setIfInBounds_self_of_lt (by omega)]
      · rw [Array.getElem?_setIfInBounds_self_of_lt (by simp; omega)]

set_option maxRecDepth 100000 in
set_option maxHeartbeats 2000000 in
theorem fat_fill {A : Option Addr} {c : Nat} {l : List Stk} {n : Nat} {q : Int} {w : World} (hn : n ≤ 40) (q0 : 0 ≤ q) (q1 : q < 24) (hm : l.length ≤ 1000000) (hc : l.length ≤ c) (hc2 : c ≤ maxLen) (hr : RowT w A l) (h0 : (chkL l n).2 = 0) :
    Calls Tryd.prog 20 #[.slice A l.length c, .int .i64 n, .int .i64 q] w fun e w' => ∃ g, e = .returned (.tuple #[.pointer (some ⟨g, 0, none⟩), .int .i64 0]) ∧ w.heap.size ≤ g ∧ ForAt w' g n (parL l q) (shaL l q) ∧ Below w.heap.size w w' := by
  have CH := Lib.hid fun w (hr : RowT w A l) => kcheck_any (n := n) hm hc hc2 hr
  rw [h0] at CH
  have AT := Lib.hid fun (x : Int) (w : World) (hr : RowT w A l) => sat_any (c := c) (x := x) (q := q) hm hr
  have R := Lib.hid hr
  clear hr h0
  go_enter Tryd.func20, Tryd.ntmps20
  go_wp2_with fail
  refine (CH.out _ R.out).mono ?_
  rintro e w1 ⟨rfl, b1⟩
  go_wp2
  go_loopw [11] (fun i wr => ∃ (k : Nat) (cs : Array Value), i = .int .i64 k ∧ 1 ≤ k ∧ k ≤ n + 1 ∧ Box wr w1.heap.size 90 cs ∧ Hid (Fil cs n (parL l q) (shaL l q) k) ∧ Below w.heap.size w wr) (fun i _ => n + 1 - (intOf i).toNat)
  case atStart => exact ⟨1, _, rfl, by omega, by omega, Box.new _ _ _, ⟨rfl, rfl, fun i h1 h2 => by omega⟩, b1.alloc b1.size _⟩
  case round =>
    obtain ⟨k, cs, rfl, hk1, hk, x10, hF, hb⟩ := hrel
    have k10 := x10.cells
    have l10 := x10.lt
    have f10 := x10.free
    by_cases hkn : k ≤ n
    · have HF2 := Lib.hid (hF.out.step hk1 (by omega))
      have C1 := Lib.hid (AT.out k wr.drew (R.out.below hb (Nat.le_refl _)).drew)
      obtain ⟨v1, e1⟩ : ∃ v, cs[1 + k * 2]? = some v := ⟨cs[1 + k * 2]'(by have := hF.out.1; omega), Array.getElem?_eq_getElem _⟩
      obtain ⟨v2, e2⟩ : ∃ v, cs[1 + k * 2 + 1]? = some v := ⟨cs[1 + k * 2 + 1]'(by have := hF.out.1; omega), Array.getElem?_eq_getElem _⟩
      go_upto_region 12 with fail
      go_region_with (first | (go_at_call 63; refine C1.out.mono ?_; rintro e w2 ⟨rfl, b2⟩; have x11 := x10.drew.later b2; have k11 := x11.cells; have f11 := x11.free; have l11 := x11.lt))
      have x12 := (x11.set (1 + k * 2) (.int .i64 (atL l k q).1)).set (1 + k * 2 + 1) (.int .i64 (atL l k q).2)
      have hb2 := hb.trans ((below_undrew b2).mono hb.size)
      have hb3 := (hb2.setCell (p := ⟨w1.heap.size, 1 + k * 2, none⟩) (by have := b1.size; dsimp only; omega) (.int .i64 (atL l k q).1)).setCell (p := ⟨w1.heap.size, 1 + k * 2 + 1, none⟩) (by have := b1.size; dsimp only; omega) (.int .i64 (atL l k q).2)
      clear k10 l10 f10 k11 l11 f11 e1 e2 x10 x11 hb hb2 b2 C1
      go_wp2
      go_roundw
      case rel => exact ⟨k + 1, _, by go_num, by omega, by omega, x12, HF2, hb3⟩
      case measure => simp [intOf]; omega
    · obtain rfl : k = n + 1 := by omega
      obtain ⟨hs, hc0, hall⟩ := hF.out
      go_wp2
      go_ret2
      refine ⟨w1.heap.size, rfl, b1.size, ⟨x10.lt, hn, (x10.cells 0).trans hc0, fun i hi hin => ?_⟩, hb⟩
      obtain ⟨h1, h2⟩ := hall i hi (by omega)
      exact ⟨(x10.cells _).trans h1, (x10.cells _).trans h2⟩

/-- What At answers: its error. -/
def atE (l : List Stk) (n q : Int) : Int := if n < 0 ∨ 40 < n then 20 else if q < 0 ∨ 24 ≤ q then 22 else (chkL l n).2
set_option maxRecDepth 100000 in
set_option maxHeartbeats 2000000 in
theorem fat_err {A : Option Addr} {c : Nat} {l : List Stk} {n q : Int} {w : World} (hm : l.length ≤ 1000000) (hc : l.length ≤ c) (hc2 : c ≤ maxLen) (hr : RowT w A l) (he : atE l n q ≠ 0) :
    Calls Tryd.prog 20 #[.slice A l.length c, .int .i64 n, .int .i64 q] w fun e w' => e = .returned (.tuple #[.pointer none, .int .i64 (atE l n q)]) ∧ Below w.heap.size w w' := by
  have CH := Lib.hid fun w (hr : RowT w A l) => kcheck_any (n := n) hm hc hc2 hr
  have R := Lib.hid hr
  have B0 := Below.refl w.heap.size w
  clear hr
  rcases (by omega : n < 0 ∨ (0 ≤ n ∧ 40 < n) ∨ (0 ≤ n ∧ n ≤ 40)) with h | ⟨h1, h⟩ | ⟨h1, h2⟩
  · have HO := Lib.hid (show atE l n q = 20 from if_pos (by omega))
    clear he
    go_enter Tryd.func20, Tryd.ntmps20
    go_wp2
    go_ret2
    exact ⟨by rw [HO.out]; rfl, B0⟩
  · have HO := Lib.hid (show atE l n q = 20 from if_pos (by omega))
    clear he
    go_enter Tryd.func20, Tryd.ntmps20
    go_wp2
    go_ret2
    exact ⟨by rw [HO.out]; rfl, B0⟩
  · rcases (by omega : q < 0 ∨ (0 ≤ q ∧ 24 ≤ q) ∨ (0 ≤ q ∧ q < 24)) with h | ⟨h3, h⟩ | ⟨h3, h4⟩
    · have HO := Lib.hid (show atE l n q = 22 by unfold atE; rw [if_neg (by omega), if_pos (by omega)])
      clear he
      go_enter Tryd.func20, Tryd.ntmps20
      go_wp2
      go_ret2
      exact ⟨by rw [HO.out]; rfl, B0⟩
    · have HO := Lib.hid (show atE l n q = 22 by unfold atE; rw [if_neg (by omega), if_pos (by omega)])
      clear he
      go_enter Tryd.func20, Tryd.ntmps20
      go_wp2
      go_ret2
      exact ⟨by rw [HO.out]; rfl, B0⟩
    · have hE : atE l n q = (chkL l n).2 := by unfold atE; rw [if_neg (by omega), if_neg (by omega)]
      rw [hE] at he ⊢
      clear hE
      generalize chkL l n = r at *
      have hne : (r.2 != 0) = true := by simpa using he
      clear he
      go_enter Tryd.func20, Tryd.ntmps20
      go_wp2_with fail
      refine (CH.out _ R.out).mono ?_
      rintro e w1 ⟨rfl, b1⟩
      go_wp2
      go_ret2
      exact ⟨rfl, b1⟩
end Go.Proofs.YtkdpiikfiodopaaDoor
/-
  forest: is, Parent, Share, Up, under.
-/
namespace Go.Proofs.YtkdpiikfiodopaaDoor
open Go.RowKit

/-- Is x an entity of n? -/
def isN (n : Nat) (x : Int) : Bool := decide (1 ≤ x) && decide (x ≤ n)
theorem isN_iff {n : Nat} {x : Int} : isN n x = true ↔ 1 ≤ x ∧ x ≤ n := by unfold isN; simp
theorem isN_not {n : Nat} {x : Int} (h : isN n x = false) : x < 1 ∨ (1 ≤ x ∧ (n : Int) < x) := by
  have : ¬ (1 ≤ x ∧ x ≤ n) := fun hh => by rw [isN_iff.2 hh] at h; cases h
  omega
section
variable {w : World} {g n : Nat} {f s : Int → Int} {x : Int}
theorem ForAt.n_cell (h : ForAt w g n f s) : w.cell? ⟨g, 0, none⟩ = some (.int .i64 n) := h.2.2.1

set_option maxHeartbeats 1000000 in
theorem fis_any (x : Int) (h : ForAt w g n f s) : Calls Tryd.prog 65 #[.pointer (some ⟨g, 0, none⟩), .int .i64 x] w fun e w' => e = .returned (.bool (isN n x)) ∧ w = w' := by
  have c0 := h.n_cell
  have l0 := h.1
  have hn := h.2.1
  clear h
  cases hi : isN n x
  · rcases isN_not hi with h | ⟨h1, h⟩
    · clear hi
      go_enter Tryd.func65, Tryd.ntmps65
      go_wp2
      go_ret
      exact ⟨rfl, rfl⟩
    · have hd : decide (x ≤ (n : Int)) = false := decide_eq_false (by omega)
      clear hi h
      go_enter Tryd.func65, Tryd.ntmps65
      go_wp2
      go_ret
      exact ⟨by rw [← hd]; rfl, rfl⟩
  · obtain ⟨h1, h2⟩ := isN_iff.1 hi
    clear hi
    go_enter Tryd.func65, Tryd.ntmps65
    go_wp2
    go_ret
    exact ⟨rfl, rfl⟩
theorem fis_nil (x : Int) (w : World) : Calls Tryd.prog 65 #[.pointer none, .int .i64 x] w fun e w' => e = .returned (.bool false) ∧ w = w' := by
  go_enter Tryd.func65, Tryd.ntmps65
  go_wp2
  go_ret
  exact ⟨rfl, rfl⟩

set_option maxHeartbeats 1000000 in
theorem fpar_any (x : Int) (h : ForAt w g n f s) : Calls Tryd.prog 22 #[.pointer (some ⟨g, 0, none⟩), .int .i64 x] w fun e w' => e = .returned (.int .i64 (if isN n x = true then f x else 0)) ∧ w = w' := by
  have IS := Lib.hid (fis_any x h)
  cases hi : isN n x
  · rw [hi] at IS
    rw [if_neg (by decide)]
    clear hi h
    go_enter Tryd.func22, Tryd.ntmps22
    go_wp2_with fail
    refine IS.out.mono ?_
    rintro e _ ⟨rfl, rfl⟩
    go_wp2
    go_ret
    exact ⟨rfl, rfl⟩
  · rw [hi] at IS
    rw [if_pos rfl]
    obtain ⟨h1, h2⟩ := isN_iff.1 hi
    obtain ⟨i, rfl⟩ : ∃ i : Nat, x = i := ⟨x.toNat, by omega⟩
    obtain ⟨l0, hn, _, hall⟩ := h
    obtain ⟨c1, c2⟩ := hall i (by omega) (by omega)
    have hi41 : i < 41 := by omega
    clear hi hall
    generalize f i = fi at *
    generalize s i = si at *
    go_enter Tryd.func22, Tryd.ntmps22
    go_wp2_with fail
    refine IS.out.mono ?_
    rintro e _ ⟨rfl, rfl⟩
    go_wp2
    go_ret
    exact ⟨rfl, rfl⟩
theorem fpar_nil (x : Int) (w : World) : Calls Tryd.prog 22 #[.pointer none, .int .i64 x] w fun e w' => e = .returned (.int .i64 0) ∧ w = w' := by
  have IS := Lib.hid (fis_nil x w)
  go_enter Tryd.func22, Tryd.ntmps22
  go_wp2_with fail
  refine IS.out.mono ?_
  rintro e _ ⟨rfl, rfl⟩
  go_wp2
  go_ret
  exact ⟨rfl, rfl⟩

set_option maxHeartbeats 1000000 in
theorem fsha_any (x : Int) (h : ForAt w g n f s) : Calls Tryd.prog 24 #[.pointer (some ⟨g, 0, none⟩), .int .i64 x] w fun e w' => e = .returned (.int .i64 (if isN n x = true then s x else 0)) ∧ w = w' := by
  have IS := Lib.hid (fis_any x h)
  cases hi : isN n x
  · rw [hi] at IS
    rw [if_neg (by decide)]
    clear hi h
    go_enter Tryd.func24, Tryd.ntmps24
    go_wp2_with fail
    refine IS.out.mono ?_
    rintro e _ ⟨rfl, rfl⟩
    go_wp2
    go_ret
    exact ⟨rfl, rfl⟩
  · rw [hi] at IS
    rw [if_pos rfl]
    obtain ⟨h1, h2⟩ := isN_iff.1 hi
    obtain ⟨i, rfl⟩ : ∃ i : Nat, x = i := ⟨x.toNat, by omega⟩
    obtain ⟨l0, hn, _, hall⟩ := h
    obtain ⟨c1, c2⟩ := hall i (by omega) (by omega)
    have hi41 : i < 41 := by omega
    clear hi hall
    generalize f i = fi at *
    generalize s i = si at *
    go_enter Tryd.func24, Tryd.ntmps24
    go_wp2_with fail
    refine IS.out.mono ?_
    rintro e _ ⟨rfl, rfl⟩
    go_wp2
    go_ret
    exact ⟨rfl, rfl⟩
theorem fsha_nil (x : Int) (w : World) : Calls Tryd.prog 24 #[.pointer none, .int .i64 x] w fun e w' => e = .returned (.int .i64 0) ∧ w = w' := by
  have IS := Lib.hid (fis_nil x w)
  go_enter Tryd.func24, Tryd.ntmps24
  go_wp2_with fail
  refine IS.out.mono ?_
  rintro e _ ⟨rfl, rfl⟩
  go_wp2
  go_ret
  exact ⟨rfl, rfl⟩

/-- Nothing holds what is no entity. -/
def Out (n : Nat) (f : Int → Int) : Prop := ∀ x, isN n x = false → f x = 0
theorem fpar_out (x : Int) (ho : Out n f) (h : ForAt w g n f s) : Calls Tryd.prog 22 #[.pointer (some ⟨g, 0, none⟩), .int .i64 x] w fun e w' => e = .returned (.int .i64 (f x)) ∧ w = w' := by
  refine (fpar_any x h).mono fun e w' hh => ?_
  cases hi : isN n x
  · rw [hi, if_neg (by decide)] at hh
    rw [ho x hi]
    exact hh
  · rw [hi, if_pos rfl] at hh
    exact hh

set_option maxRecDepth 100000 in
set_option maxHeartbeats 1000000 in
theorem fup_any (x : Int) (ht : Tree n f) (ho : Out n f) (h : ForAt w g n f s) : Calls Tryd.prog 29 #[.pointer (some ⟨g, 0, none⟩), .int .i64 x] w (NewRow (up f x) w) := by
  obtain ⟨i0, hi, hz0, hz1, hz2⟩ := info_parts Tryd.infoInt'
  have PA := Lib.hid fun (x : Int) (w : World) (h : ForAt w g n f s) => fpar_out x ho h
  have H := Lib.hid h
  have hlen := ht.up_len x
  have hn := ht.few
  have I0 : Hid (up f x = [] ++ (if f x = 0 then [] else f x :: up f (f x))) := ht.up_eq x
  generalize up f x = tot at *
  clear h
  go_enter Tryd.func29, Tryd.ntmps29
  go_wp2_with fail
  refine (PA.out _ _ H.out).mono ?_
  rintro e _ ⟨rfl, rfl⟩
  generalize f x = a0 at *
  go_wp2
  go_loopw [5, 6] (fun o t wr => ∃ (out : List Int) (a : Int) (A' : Option Addr) (c' : Nat), o = .slice A' out.length c' ∧ t = .int .i64 a ∧ Hid (tot = out ++ (if a = 0 then [] else a :: up f a)) ∧ out.length ≤ c' ∧ c' ≤ maxLen ∧ wr.ownsRow w.heap.size 3 1 (.slice A' out.length c') out.length (ivals out) ∧ Below w.heap.size w wr)
    (fun o _ _ => tot.length + 1 - lenS o)
  case atStart => exact ⟨[], a0, none, 0, rfl, rfl, I0, by simp, by unfold maxLen; omega, World.ownsRow_nil _ _ _ _, Below.refl _ _⟩
  case round =>
    obtain ⟨out, a, A', c', rfl, rfl, hI, hl, hmx, hown, hb⟩ := hrel
    by_cases ha : a = 0
    · subst ha
      have HE : Hid (tot = out) := by have := hI.out; rw [if_pos rfl, List.append_nil] at this; exact this
      clear I0 hI
      go_wp2
      go_ret
      exact ⟨A', c', by rw [HE.out]; rfl, by rw [HE.out]; exact hl, hmx, by rw [HE.out]; exact hown, hb⟩
    · have ha' : (a != 0) = true := by simpa using ha
      have HI : Hid (tot = (out ++ [a]) ++ (if f a = 0 then [] else f a :: up f (f a))) := by
        have := hI.out
        rw [if_neg ha, ht.up_eq a] at this
        exact Lib.hid (by rw [this]; simp)
      have hlt : out.length + 1 ≤ tot.length := by have := congrArg List.length hI.out; rw [if_neg ha] at this; simp at this; omega
      have hN : out.length + 1 ≤ 1099511627776 := by omega
      have hsz := hb.size
      clear I0 hI ha
      go_wp2_with (at_builtin; refine wpList_append_int rfl _ _ 37 rfl w.heap.size 3 i0 Tryd.underlying37 hi hz0 hz1 hz2 _ _ _ rfl hown a rfl hN hsz ?_)
      intro g3 c3 w4 hown4 hr4 hc3 hm3 hg3 hg3' hsz3
      have hb4 := hb.grown hr4 hsz (fun k hk => (hown.lt k hk).1)
      clear hown hr4 hb
      go_wp2_with fail
      refine (PA.out _ _ (H.out.later hb4)).mono ?_
      rintro e _ ⟨rfl, rfl⟩
      generalize f a = a1 at *
      go_wp2
      go_roundw
      case rel => exact ⟨out ++ [a], a1, some ⟨g3, 0, none⟩, c3, by simp, rfl, HI, by simp; exact hc3, hm3, by rw [ivals_append, List.length_append]; exact hown4, hb4⟩
      case measure => simp [lenS]; omega

set_option maxRecDepth 100000 in
set_option maxHeartbeats 1000000 in
theorem funder_any (top x : Int) (ht : Tree n f) (ho : Out n f) (h : ForAt w g n f s) : Calls Tryd.prog 72 #[.pointer (some ⟨g, 0, none⟩), .int .i64 top, .int .i64 x] w fun e w' => e = .returned (.bool (aeq f top x)) ∧ Below w.heap.size w w' := by
  have UP := Lib.hid (fup_any x ht ho h)
  have hlen := ht.up_len x
  have hn := ht.few
  have HS := Lib.hid fun (A : Option Addr) (c : Nat) (zs : List Int) (n : Int) (w : World) (hm : zs.length ≤ maxLen) (hr : RowAt w A (ivals zs)) => scontains_any (A := A) (c := c) (l := zs) (n := n) hm hr
  clear h
  unfold aeq
  generalize up f x = zs at *
  by_cases hx : top = x
  · have hx' : (top == x) = true := by simpa using hx
    rw [decide_eq_true hx, Bool.true_or]
    clear hx
    go_enter Tryd.func72, Tryd.ntmps72
    go_wp2
    go_ret
    exact ⟨rfl, Below.refl _ _⟩
  · have hx' : (top == x) = false := by simpa using hx
    rw [decide_eq_false hx, Bool.false_or]
    clear hx
    go_enter Tryd.func72, Tryd.ntmps72
    go_wp2_with fail
    refine UP.out.mono ?_
    rintro e w1 ⟨A1, c1, rfl, hl1, hm1, hown, b1⟩
    have HC := Lib.hid (HS.out A1 c1 zs top w1 (by unfold maxLen; omega) (RowAt.of_own hown))
    clear hown
    go_wp2_with fail
    refine HC.out.mono ?_
    rintro e _ ⟨rfl, rfl⟩
    go_wp2
    go_ret
    exact ⟨rfl, b1⟩
end
end Go.Proofs.YtkdpiikfiodopaaDoor
/-
  forest: those, Children, Under, Roots.
-/
namespace Go.Proofs.YtkdpiikfiodopaaDoor
open Go.RowKit

theorem NewRow.up {zs : List Int} {w w' : World} {o : Obj} {e : Ending} (h : NewRow zs (w.alloc o) e w') : NewRow zs w e w' := by
  obtain ⟨A, c, h1, h2, h3, h4, h5⟩ := h
  exact ⟨A, c, h1, h2, h3, own_base h4 (by simp), below_up h5⟩
theorem flt_step (p : Int → Bool) {k : Nat} (hk : 1 ≤ k) : (upto k).filter p = (upto (k - 1)).filter p ++ if p k = true then [(k : Int)] else [] := by
  obtain ⟨j, rfl⟩ : ∃ j, k = j + 1 := ⟨k - 1, by omega⟩
  rw [upto_succ, List.filter_append, show j + 1 - 1 = j by omega]
  congr 1
  rw [List.filter_cons, List.filter_nil, show ((j + 1 : Nat) : Int) = (j : Int) + 1 by omega]
theorem flt_len (p : Int → Bool) (k : Nat) : ((upto k).filter p).length ≤ k := by
  have := List.length_filter_le p (upto k)
  rw [upto_len] at this
  exact this
section
variable {w : World} {g n : Nat} {f s : Int → Int} {x : Int}

set_option maxHeartbeats 1000000 in
theorem fchild1 (i : Int) {g5 g3 : Nat} (ho : Out n f) (h : ForAt w g n f s) (b5 : Box w g5 49 #[.func (.func 22) #[.pointer (some ⟨g, 0, none⟩)] #[]]) (b3 : Box w g3 3 #[.int .i64 x]) :
    Calls Tryd.prog 69 #[.int .i64 i, .pointer (some ⟨g5, 0, none⟩), .pointer (some ⟨g3, 0, none⟩)] w fun e w' => e = .returned (.bool (f i == x)) ∧ Below w.heap.size w w' := by
  have PA := Lib.hid fun (w : World) (h : ForAt w g n f s) => fpar_out i ho h
  have H := Lib.hid h
  have k5 := b5.cells
  have k3 := b3.cells
  have l5 := b5.lt
  have l3 := b3.lt
  clear h
  generalize f i = y at *
  go_enter Tryd.func69, Tryd.ntmps69
  go_upto_region 1 with fail
  go_region_held3 (fun w' => w'.cell? ⟨g5, 0, none⟩ = some (.func (.func 22) #[.pointer (some ⟨g, 0, none⟩)] #[]) ∧ w'.cell? ⟨g3, 0, none⟩ = some (.int .i64 x)) (go_keep)
    (first
      | (go_at_call 22; refine (PA.out _ H.out.drew).mono ?_; rintro e _ ⟨rfl, rfl⟩))
  go_wp2
  go_ret
  exact ⟨rfl, below_drewN (Below.refl _ _) 1⟩
set_option maxHeartbeats 1000000 in
theorem funder1 (i : Int) {g2 g3 : Nat} (ht : Tree n f) (ho : Out n f) (h : ForAt w g n f s) (b2 : Box w g2 42 #[.pointer (some ⟨g, 0, none⟩)]) (b3 : Box w g3 3 #[.int .i64 x]) :
    Calls Tryd.prog 71 #[.int .i64 i, .pointer (some ⟨g2, 0, none⟩), .pointer (some ⟨g3, 0, none⟩)] w fun e w' => e = .returned (.bool (aeq f x i)) ∧ Below w.heap.size w w' := by
  have UN := Lib.hid (funder_any x i ht ho h)
  have k2 := b2.cells
  have k3 := b3.cells
  clear h
  generalize aeq f x i = y at *
  go_enter Tryd.func71, Tryd.ntmps71
  go_wp2_with fail
  refine UN.out.mono ?_
  rintro e w1 ⟨rfl, b1⟩
  clear k2 k3
  go_wp2
  go_ret
  exact ⟨rfl, b1⟩
set_option maxHeartbeats 1000000 in
theorem froot1 (i : Int) {g1 : Nat} (ho : Out n f) (h : ForAt w g n f s) (b1 : Box w g1 42 #[.pointer (some ⟨g, 0, none⟩)]) :
    Calls Tryd.prog 74 #[.int .i64 i, .pointer (some ⟨g1, 0, none⟩)] w fun e w' => e = .returned (.bool (f i == 0)) ∧ Below w.heap.size w w' := by
  have PA := Lib.hid (fpar_out i ho h)
  have k1 := b1.cells
  clear h
  generalize f i = y at *
  go_enter Tryd.func74, Tryd.ntmps74
  go_wp2_with fail
  refine PA.out.mono ?_
  rintro e _ ⟨rfl, rfl⟩
  go_wp2
  go_ret
  exact ⟨rfl, Below.refl _ _⟩

set_option maxRecDepth 100000 in
set_option maxHeartbeats 1000000 in
theorem those_child {g5 g3 : Nat} (ho : Out n f) (h : ForAt w g n f s) (b5 : Box w g5 49 #[.func (.func 22) #[.pointer (some ⟨g, 0, none⟩)] #[]]) (b3 : Box w g3 3 #[.int .i64 x]) :
    Calls Tryd.prog 68 #[.pointer (some ⟨g, 0, none⟩), .func (.func 69) #[] #[.pointer (some ⟨g5, 0, none⟩), .pointer (some ⟨g3, 0, none⟩)]] w (NewRow ((upto n).filter (fun i => (f i == x))) w) := by
  obtain ⟨i0, hi, hz0, hz1, hz2⟩ := info_parts Tryd.infoInt'
  have C := Lib.hid fun (i : Int) (w : World) (h : ForAt w g n f s) (b5 : Box w g5 49 #[.func (.func 22) #[.pointer (some ⟨g, 0, none⟩)] #[]]) (b3 : Box w g3 3 #[.int .i64 x]) => fchild1 i ho h b5 b3
  have IS := Lib.hid fun (x : Int) (w : World) (h : ForAt w g n f s) => fis_any x h
  have hn := h.2.1
  have H := Lib.hid h
  have B5 := Lib.hid b5
  have B3 := Lib.hid b3
  clear h b5 b3
  have hp : ∃ p : Int → Bool, p = (fun i => (f i == x)) := ⟨_, rfl⟩
  obtain ⟨p, hp⟩ := hp
  rw [← hp]
  have hpi : ∀ i, (f i == x) = p i := fun i => by rw [hp]
  simp only [hpi] at C
  clear hp hpi
  go_enter Tryd.func68, Tryd.ntmps68
  go_wp2
  go_loopw [5, 6] (fun o t wr => ∃ (k : Nat) (A' : Option Addr) (c' : Nat), 1 ≤ k ∧ k ≤ n + 1 ∧ o = .slice A' ((upto (k - 1)).filter p).length c' ∧ t = .int .i64 k ∧ ((upto (k - 1)).filter p).length ≤ c' ∧ c' ≤ maxLen ∧ wr.ownsRow w.heap.size 3 1 (.slice A' ((upto (k - 1)).filter p).length c') ((upto (k - 1)).filter p).length (ivals ((upto (k - 1)).filter p)) ∧ Below w.heap.size w wr)
    (fun _ t _ => n + 1 - (intOf t).toNat)
  case atStart => exact ⟨1, none, 0, by omega, by omega, rfl, rfl, by simp [upto], by unfold maxLen; omega, World.ownsRow_nil _ _ _ _, Below.refl _ _⟩
  case round =>
    obtain ⟨k, A', c', hk1, hk, rfl, rfl, hl, hmx, hown, hb⟩ := hrel
    have ISk := IS.out k wr (H.out.later hb)
    by_cases hkn : k ≤ n
    · rw [isN_iff.2 ⟨by omega, by omega⟩] at ISk
      have ISk' := Lib.hid ISk
      have Ck := Lib.hid (C.out k wr (H.out.later hb) (B5.out.later hb) (B3.out.later hb))
      have hst := Lib.hid (flt_step p hk1)
      have hlen := flt_len p (k - 1)
      clear ISk
      generalize (upto (k - 1)).filter p = out at *
      cases hq : p k
      · rw [hq] at Ck hst
        rw [if_neg (by decide), List.append_nil] at hst
        clear hq
        go_wp2_with fail
        refine ISk'.out.mono ?_
        rintro e _ ⟨rfl, rfl⟩
        go_wp2_with fail
        refine Ck.out.mono ?_
        rintro e w2 ⟨rfl, b2⟩
        have hown2 := own_below hown b2 (Nat.le_refl _)
        have hb2 := hb.trans (b2.mono hb.size)
        clear hown hb b2
        go_wp2
        go_roundw
        case rel => exact ⟨k + 1, A', c', by omega, by omega, by rw [show k + 1 - 1 = k by omega, hst.out], by go_num, by rw [show k + 1 - 1 = k by omega, hst.out]; exact hl, hmx, by rw [show k + 1 - 1 = k by omega, hst.out]; exact hown2, hb2⟩
        case measure => simp [intOf]; omega
      · rw [hq] at Ck hst
        rw [if_pos rfl] at hst
        clear hq
        go_wp2_with fail
        refine ISk'.out.mono ?_
        rintro e _ ⟨rfl, rfl⟩
        go_wp2_with fail
        refine Ck.out.mono ?_
        rintro e w2 ⟨rfl, b2⟩
        have hown2 := own_below hown b2 (Nat.le_refl _)
        have hb2 := hb.trans (b2.mono hb.size)
        clear hown hb b2
        have hN : out.length + 1 ≤ 1099511627776 := by omega
        have hsz := hb2.size
        go_wp2_with (at_builtin; refine wpList_append_int rfl _ _ 37 rfl w.heap.size 3 i0 Tryd.underlying37 hi hz0 hz1 hz2 _ _ _ rfl hown2 (k : Int) rfl hN hsz ?_)
        intro g3' c3 w4 hown4 hr4 hc3 hm3 hg3 hg3' hsz3
        have hb4 := hb2.grown hr4 hsz (fun k hk => (hown2.lt k hk).1)
        clear hown2 hr4 hb2
        go_wp2
        go_roundw
        case rel => exact ⟨k + 1, some ⟨g3', 0, none⟩, c3, by omega, by omega, by rw [show k + 1 - 1 = k by omega, hst.out]; simp, by go_num, by rw [show k + 1 - 1 = k by omega, hst.out]; simp; exact hc3, hm3, by rw [show k + 1 - 1 = k by omega, hst.out, ivals_append, List.length_append]; exact hown4, hb4⟩
        case measure => simp [intOf]; omega
    · obtain rfl : k = n + 1 := by omega
      have hE : isN n ((n + 1 : Nat) : Int) = false := by
        cases hq : isN n ((n + 1 : Nat) : Int)
        · rfl
        · have := (isN_iff.1 hq).2; omega
      rw [hE] at ISk
      have ISk' := Lib.hid ISk
      rw [show n + 1 - 1 = n by omega] at hown hl ⊢
      generalize (upto n).filter p = out at *
      clear ISk hE
      go_wp2_with fail
      refine ISk'.out.mono ?_
      rintro e _ ⟨rfl, rfl⟩
      go_wp2
      go_ret
      exact ⟨A', c', rfl, hl, hmx, hown, hb⟩

set_option maxRecDepth 100000 in
set_option maxHeartbeats 1000000 in
theorem those_under {g2 g3 : Nat} (ht : Tree n f) (ho : Out n f) (h : ForAt w g n f s) (b2 : Box w g2 42 #[.pointer (some ⟨g, 0, none⟩)]) (b3 : Box w g3 3 #[.int .i64 x]) :
    Calls Tryd.prog 68 #[.pointer (some ⟨g, 0, none⟩), .func (.func 71) #[] #[.pointer (some ⟨g2, 0, none⟩), .pointer (some ⟨g3, 0, none⟩)]] w (NewRow ((upto n).filter (fun i => aeq f x i)) w) := by
  obtain ⟨i0, hi, hz0, hz1, hz2⟩ := info_parts Tryd.infoInt'
  have C := Lib.hid fun (i : Int) (w : World) (h : ForAt w g n f s) (b2 : Box w g2 42 #[.pointer (some ⟨g, 0, none⟩)]) (b3 : Box w g3 3 #[.int .i64 x]) => funder1 i ht ho h b2 b3
  have IS := Lib.hid fun (x : Int) (w : World) (h : ForAt w g n f s) => fis_any x h
  have hn := h.2.1
  have H := Lib.hid h
  have B2 := Lib.hid b2
  have B3 := Lib.hid b3
  clear h b2 b3
  have hp : ∃ p : Int → Bool, p = (fun i => aeq f x i) := ⟨_, rfl⟩
  obtain ⟨p, hp⟩ := hp
  rw [← hp]
  have hpi : ∀ i, (aeq f x i) = p i := fun i => by rw [hp]
  simp only [hpi] at C
  clear hp hpi
  go_enter Tryd.func68, Tryd.ntmps68
  go_wp2
  go_loopw [5, 6] (fun o t wr => ∃ (k : Nat) (A' : Option Addr) (c' : Nat), 1 ≤ k ∧ k ≤ n + 1 ∧ o = .slice A' ((upto (k - 1)).filter p).length c' ∧ t = .int .i64 k ∧ ((upto (k - 1)).filter p).length ≤ c' ∧ c' ≤ maxLen ∧ wr.ownsRow w.heap.size 3 1 (.slice A' ((upto (k - 1)).filter p).length c') ((upto (k - 1)).filter p).length (ivals ((upto (k - 1)).filter p)) ∧ Below w.heap.size w wr)
    (fun _ t _ => n + 1 - (intOf t).toNat)
  case atStart => exact ⟨1, none, 0, by omega, by omega, rfl, rfl, by simp [upto], by unfold maxLen; omega, World.ownsRow_nil _ _ _ _, Below.refl _ _⟩
  case round =>
    obtain ⟨k, A', c', hk1, hk, rfl, rfl, hl, hmx, hown, hb⟩ := hrel
    have ISk := IS.out k wr (H.out.later hb)
    by_cases hkn : k ≤ n
    · rw [isN_iff.2 ⟨by omega, by omega⟩] at ISk
      have ISk' := Lib.hid ISk
      have Ck := Lib.hid (C.out k wr (H.out.later hb) (B2.out.later hb) (B3.out.later hb))
      have hst := Lib.hid (flt_step p hk1)
      have hlen := flt_len p (k - 1)
      clear ISk
      generalize (upto (k - 1)).filter p = out at *
      cases hq : p k
      · rw [hq] at Ck hst
        rw [if_neg (by decide), List.append_nil] at hst
        clear hq
        go_wp2_with fail
        refine ISk'.out.mono ?_
        rintro e _ ⟨rfl, rfl⟩
        go_wp2_with fail
        refine Ck.out.mono ?_
        rintro e w2 ⟨rfl, b2⟩
        have hown2 := own_below hown b2 (Nat.le_refl _)
        have hb2 := hb.trans (b2.mono hb.size)
        clear hown hb b2
        go_wp2
        go_roundw
        case rel => exact ⟨k + 1, A', c', by omega, by omega, by rw [show k + 1 - 1 = k by omega, hst.out], by go_num, by rw [show k + 1 - 1 = k by omega, hst.out]; exact hl, hmx, by rw [show k + 1 - 1 = k by omega, hst.out]; exact hown2, hb2⟩
        case measure => simp [intOf]; omega
      · rw [hq] at Ck hst
        rw [if_pos rfl] at hst
        clear hq
        go_wp2_with fail
        refine ISk'.out.mono ?_
        rintro e _ ⟨rfl, rfl⟩
        go_wp2_with fail
        refine Ck.out.mono ?_
        rintro e w2 ⟨rfl, b2⟩
        have hown2 := own_below hown b2 (Nat.le_refl _)
        have hb2 := hb.trans (b2.mono hb.size)
        clear hown hb b2
        have hN : out.length + 1 ≤ 1099511627776 := by omega
        have hsz := hb2.size
        go_wp2_with (at_builtin; refine wpList_append_int rfl _ _ 37 rfl w.heap.size 3 i0 Tryd.underlying37 hi hz0 hz1 hz2 _ _ _ rfl hown2 (k : Int) rfl hN hsz ?_)
        intro g3' c3 w4 hown4 hr4 hc3 hm3 hg3 hg3' hsz3
        have hb4 := hb2.grown hr4 hsz (fun k hk => (hown2.lt k hk).1)
        clear hown2 hr4 hb2
        go_wp2
        go_roundw
        case rel => exact ⟨k + 1, some ⟨g3', 0, none⟩, c3, by omega, by omega, by rw [show k + 1 - 1 = k by omega, hst.out]; simp, by go_num, by rw [show k + 1 - 1 = k by omega, hst.out]; simp; exact hc3, hm3, by rw [show k + 1 - 1 = k by omega, hst.out, ivals_append, List.length_append]; exact hown4, hb4⟩
        case measure => simp [intOf]; omega
    · obtain rfl : k = n + 1 := by omega
      have hE : isN n ((n + 1 : Nat) : Int) = false := by
        cases hq : isN n ((n + 1 : Nat) : Int)
        · rfl
        · have := (isN_iff.1 hq).2; omega
      rw [hE] at ISk
      have ISk' := Lib.hid ISk
      rw [show n + 1 - 1 = n by omega] at hown hl ⊢
      generalize (upto n).filter p = out at *
      clear ISk hE
      go_wp2_with fail
      refine ISk'.out.mono ?_
      rintro e _ ⟨rfl, rfl⟩
      go_wp2
      go_ret
      exact ⟨A', c', rfl, hl, hmx, hown, hb⟩

set_option maxRecDepth 100000 in
set_option maxHeartbeats 1000000 in
theorem those_root {g2 : Nat} (ho : Out n f) (h : ForAt w g n f s) (b2 : Box w g2 42 #[.pointer (some ⟨g, 0, none⟩)]) :
    Calls Tryd.prog 68 #[.pointer (some ⟨g, 0, none⟩), .func (.func 74) #[] #[.pointer (some ⟨g2, 0, none⟩)]] w (NewRow ((upto n).filter (fun i => (f i == 0))) w) := by
  obtain ⟨i0, hi, hz0, hz1, hz2⟩ := info_parts Tryd.infoInt'
  have C := Lib.hid fun (i : Int) (w : World) (h : ForAt w g n f s) (b2 : Box w g2 42 #[.pointer (some ⟨g, 0, none⟩)]) => froot1 i ho h b2
  have IS := Lib.hid fun (x : Int) (w : World) (h : ForAt w g n f s) => fis_any x h
  have hn := h.2.1
  have H := Lib.hid h
  have B2 := Lib.hid b2
  clear h b2
  have hp : ∃ p : Int → Bool, p = (fun i => (f i == 0)) := ⟨_, rfl⟩
  obtain ⟨p, hp⟩ := hp
  rw [← hp]
  have hpi : ∀ i, ((f i == 0)) = p i := fun i => by rw [hp]
  simp only [hpi] at C
  clear hp hpi
  go_enter Tryd.func68, Tryd.ntmps68
  go_wp2
  go_loopw [5, 6] (fun o t wr => ∃ (k : Nat) (A' : Option Addr) (c' : Nat), 1 ≤ k ∧ k ≤ n + 1 ∧ o = .slice A' ((upto (k - 1)).filter p).length c' ∧ t = .int .i64 k ∧ ((upto (k - 1)).filter p).length ≤ c' ∧ c' ≤ maxLen ∧ wr.ownsRow w.heap.size 3 1 (.slice A' ((upto (k - 1)).filter p).length c') ((upto (k - 1)).filter p).length (ivals ((upto (k - 1)).filter p)) ∧ Below w.heap.size w wr)
    (fun _ t _ => n + 1 - (intOf t).toNat)
  case atStart => exact ⟨1, none, 0, by omega, by omega, rfl, rfl, by simp [upto], by unfold maxLen; omega, World.ownsRow_nil _ _ _ _, Below.refl _ _⟩
  case round =>
    obtain ⟨k, A', c', hk1, hk, rfl, rfl, hl, hmx, hown, hb⟩ := hrel
    have ISk := IS.out k wr (H.out.later hb)
    by_cases hkn : k ≤ n
    · rw [isN_iff.2 ⟨by omega, by omega⟩] at ISk
      have ISk' := Lib.hid ISk
      have Ck := Lib.hid (C.out k wr (H.out.later hb) (B2.out.later hb))
      have hst := Lib.hid (flt_step p hk1)
      have hlen := flt_len p (k - 1)
      clear ISk
      generalize (upto (k - 1)).filter p = out at *
      cases hq : p k
      · rw [hq] at Ck hst
        rw [if_neg (by decide), List.append_nil] at hst
        clear hq
        go_wp2_with fail
        refine ISk'.out.mono ?_
        rintro e _ ⟨rfl, rfl⟩
        go_wp2_with fail
        refine Ck.out.mono ?_
        rintro e w2 ⟨rfl, b2⟩
        have hown2 := own_below hown b2 (Nat.le_refl _)
        have hb2 := hb.trans (b2.mono hb.size)
        clear hown hb b2
        go_wp2
        go_roundw
        case rel => exact ⟨k + 1, A', c', by omega, by omega, by rw [show k + 1 - 1 = k by omega, hst.out], by go_num, by rw [show k + 1 - 1 = k by omega, hst.out]; exact hl, hmx, by rw [show k + 1 - 1 = k by omega, hst.out]; exact hown2, hb2⟩
        case measure => simp [intOf]; omega
      · rw [hq] at Ck hst
        rw [if_pos rfl] at hst
        clear hq
        go_wp2_with fail
        refine ISk'.out.mono ?_
        rintro e _ ⟨rfl, rfl⟩
        go_wp2_with fail
        refine Ck.out.mono ?_
        rintro e w2 ⟨rfl, b2⟩
        have hown2 := own_below hown b2 (Nat.le_refl _)
        have hb2 := hb.trans (b2.mono hb.size)
        clear hown hb b2
        have hN : out.length + 1 ≤ 1099511627776 := by omega
        have hsz := hb2.size
        go_wp2_with (at_builtin; refine wpList_append_int rfl _ _ 37 rfl w.heap.size 3 i0 Tryd.underlying37 hi hz0 hz1 hz2 _ _ _ rfl hown2 (k : Int) rfl hN hsz ?_)
        intro g3' c3 w4 hown4 hr4 hc3 hm3 hg3 hg3' hsz3
        have hb4 := hb2.grown hr4 hsz (fun k hk => (hown2.lt k hk).1)
        clear hown2 hr4 hb2
        go_wp2
        go_roundw
        case rel => exact ⟨k + 1, some ⟨g3', 0, none⟩, c3, by omega, by omega, by rw [show k + 1 - 1 = k by omega, hst.out]; simp, by go_num, by rw [show k + 1 - 1 = k by omega, hst.out]; simp; exact hc3, hm3, by rw [show k + 1 - 1 = k by omega, hst.out, ivals_append, List.length_append]; exact hown4, hb4⟩
        case measure => simp [intOf]; omega
    · obtain rfl : k = n + 1 := by omega
      have hE : isN n ((n + 1 : Nat) : Int) = false := by
        cases hq : isN n ((n + 1 : Nat) : Int)
        · rfl
        · have := (isN_iff.1 hq).2; omega
      rw [hE] at ISk
      have ISk' := Lib.hid ISk
      rw [show n + 1 - 1 = n by omega] at hown hl ⊢
      generalize (upto n).filter p = out at *
      clear ISk hE
      go_wp2_with fail
      refine ISk'.out.mono ?_
      rintro e _ ⟨rfl, rfl⟩
      go_wp2
      go_ret
      exact ⟨A', c', rfl, hl, hmx, hown, hb⟩
end
end Go.Proofs.YtkdpiikfiodopaaDoor
/-
  forest: Children, Under, Roots.
-/
namespace Go.Proofs.YtkdpiikfiodopaaDoor
open Go.RowKit
section
variable {w : World} {g n : Nat} {f s : Int → Int}

/-- What Children and Under tell. -/
def chI (n : Nat) (f : Int → Int) (x : Int) : List Int := if isN n x = true then (upto n).filter (fun i => (f i == x)) else []
def unI (n : Nat) (f : Int → Int) (x : Int) : List Int := if isN n x = true then (upto n).filter (fun i => aeq f x i) else []
def rtI (n : Nat) (f : Int → Int) : List Int := (upto n).filter (fun i => (f i == 0))

set_option maxHeartbeats 1000000 in
theorem fchildren_any (x : Int) (ho : Out n f) (h : ForAt w g n f s) : Calls Tryd.prog 27 #[.pointer (some ⟨g, 0, none⟩), .int .i64 x] w (NewRow (chI n f x) w) := by
  have hmf : ∀ (fn : Fn) (first cap : Array Value) (w : World), (Instr.makeFunc fn first cap).run Tryd.prog w = .ok (.func fn first cap) w := fun _ _ _ _ => rfl
  have hsf := fun (w : World) (a : Addr) (fn : Fn) (x y : Array Value) (m : Mode) => run_store Tryd.prog w a (.func fn x y) m rfl
  have IS := fis_any x (h.alloc (.cells #[.int .i64 x] 3))
  have b3 : Box ((w.alloc (.cells #[.int .i64 x] 3)).alloc (.cells #[.func (.func 22) #[.pointer (some ⟨g, 0, none⟩)] #[]] 49)) w.heap.size 3 #[.int .i64 x] := (Box.new _ _ _).alloc _
  have b5 : Box ((w.alloc (.cells #[.int .i64 x] 3)).alloc (.cells #[.func (.func 22) #[.pointer (some ⟨g, 0, none⟩)] #[]] 49)) (w.heap.size + 1) 49 #[.func (.func 22) #[.pointer (some ⟨g, 0, none⟩)] #[]] := Box.new' (by simp)
  have T := Lib.hid (those_child ho ((h.alloc (.cells #[.int .i64 x] 3)).alloc (.cells #[.func (.func 22) #[.pointer (some ⟨g, 0, none⟩)] #[]] 49)) b5 b3)
  have BN : Below w.heap.size w (w.alloc (.cells #[.int .i64 x] 3)) := (Below.refl _ _).alloc (Nat.le_refl _) _
  have l0 := h.1
  unfold chI
  cases hi : isN n x
  · rw [hi] at IS
    have IS' := Lib.hid IS
    rw [if_neg (by decide)]
    clear hi IS h b3 b5
    go_enter Tryd.func27, Tryd.ntmps27
    go_wp2_with fail
    refine IS'.out.mono ?_
    rintro e _ ⟨rfl, rfl⟩
    go_wp2
    go_ret
    exact ⟨none, 0, rfl, Nat.le_refl _, by unfold maxLen; omega, World.ownsRow_nil _ _ _ _, BN⟩
  · rw [hi] at IS
    have IS' := Lib.hid IS
    rw [if_pos rfl]
    clear hi IS h b3 b5 BN
    generalize (upto n).filter _ = zs at *
    go_enter Tryd.func27, Tryd.ntmps27
    go_wp2_with fail
    refine IS'.out.mono ?_
    rintro e _ ⟨rfl, rfl⟩
    go_wp2_with fail
    refine T.out.mono ?_
    rintro e w1 hr
    obtain ⟨A, c, rfl, h2, h3, h4, h5⟩ := hr.up.up
    clear hr
    go_wp2
    go_ret
    exact ⟨A, c, rfl, h2, h3, h4, h5⟩

set_option maxHeartbeats 1000000 in
theorem funders_any (x : Int) (ht : Tree n f) (ho : Out n f) (h : ForAt w g n f s) : Calls Tryd.prog 31 #[.pointer (some ⟨g, 0, none⟩), .int .i64 x] w (NewRow (unI n f x) w) := by
  have hmf : ∀ (fn : Fn) (first cap : Array Value) (w : World), (Instr.makeFunc fn first cap).run Tryd.prog w = .ok (.func fn first cap) w := fun _ _ _ _ => rfl
  have IS := fis_any x ((h.alloc (.cells #[.pointer (some ⟨g, 0, none⟩)] 42)).alloc (.cells #[.int .i64 x] 3))
  have b2 : Box ((w.alloc (.cells #[.pointer (some ⟨g, 0, none⟩)] 42)).alloc (.cells #[.int .i64 x] 3)) w.heap.size 42 #[.pointer (some ⟨g, 0, none⟩)] := (Box.new _ _ _).alloc _
  have b3 : Box ((w.alloc (.cells #[.pointer (some ⟨g, 0, none⟩)] 42)).alloc (.cells #[.int .i64 x] 3)) (w.heap.size + 1) 3 #[.int .i64 x] := Box.new' (by simp)
  have T := Lib.hid (those_under ht ho ((h.alloc (.cells #[.pointer (some ⟨g, 0, none⟩)] 42)).alloc (.cells #[.int .i64 x] 3)) b2 b3)
  have BN : Below w.heap.size w ((w.alloc (.cells #[.pointer (some ⟨g, 0, none⟩)] 42)).alloc (.cells #[.int .i64 x] 3)) := ((Below.refl _ _).alloc (Nat.le_refl _) _).alloc (by simp) _
  have l0 := h.1
  unfold unI
  cases hi : isN n x
  · rw [hi] at IS
    have IS' := Lib.hid IS
    rw [if_neg (by decide)]
    clear hi IS h b2 b3
    go_enter Tryd.func31, Tryd.ntmps31
    go_wp2_with fail
    refine IS'.out.mono ?_
    rintro e _ ⟨rfl, rfl⟩
    go_wp2
    go_ret
    exact ⟨none, 0, rfl, Nat.le_refl _, by unfold maxLen; omega, World.ownsRow_nil _ _ _ _, BN⟩
  · rw [hi] at IS
    have IS' := Lib.hid IS
    rw [if_pos rfl]
    clear hi IS h b2 b3 BN
    generalize (upto n).filter _ = zs at *
    go_enter Tryd.func31, Tryd.ntmps31
    go_wp2_with fail
    refine IS'.out.mono ?_
    rintro e _ ⟨rfl, rfl⟩
    go_wp2_with fail
    refine T.out.mono ?_
    rintro e w1 hr
    obtain ⟨A, c, rfl, h2, h3, h4, h5⟩ := hr.up.up
    clear hr
    go_wp2
    go_ret
    exact ⟨A, c, rfl, h2, h3, h4, h5⟩

set_option maxHeartbeats 1000000 in
theorem froots_any (ho : Out n f) (h : ForAt w g n f s) : Calls Tryd.prog 33 #[.pointer (some ⟨g, 0, none⟩)] w (NewRow (rtI n f) w) := by
  have hmf : ∀ (fn : Fn) (first cap : Array Value) (w : World), (Instr.makeFunc fn first cap).run Tryd.prog w = .ok (.func fn first cap) w := fun _ _ _ _ => rfl
  have b2 : Box (w.alloc (.cells #[.pointer (some ⟨g, 0, none⟩)] 42)) w.heap.size 42 #[.pointer (some ⟨g, 0, none⟩)] := Box.new _ _ _
  have T := Lib.hid (those_root ho (h.alloc (.cells #[.pointer (some ⟨g, 0, none⟩)] 42)) b2)
  have l0 := h.1
  unfold rtI
  clear h b2
  generalize (upto n).filter _ = zs at *
  go_enter Tryd.func33, Tryd.ntmps33
  go_wp2_with fail
  refine T.out.mono ?_
  rintro e w1 hr
  obtain ⟨A, c, rfl, h2, h3, h4, h5⟩ := hr.up
  clear hr
  go_wp2
  go_ret
  exact ⟨A, c, rfl, h2, h3, h4, h5⟩
end
end Go.Proofs.YtkdpiikfiodopaaDoor
