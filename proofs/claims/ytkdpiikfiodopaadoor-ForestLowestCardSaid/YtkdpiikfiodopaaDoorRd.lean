/-
  The reference of chapter 4: Check, divisor.
-/
import Derived.Test.YtkdpiikfiodopaaDoorRp
import Derived.Test.YtkdpiikfiodopaaDoorNear
namespace Go.Proofs.YtkdpiikfiodopaaDoor
open Go.RowKit

set_option maxHeartbeats 1000000 in
theorem r4check_any (n d : Int) (w : World) :
    Calls Tryd.prog 43 #[.agg #[.int .i64 n, .int .i64 d]] w fun e w' => e = .returned (.int .i64 (chkI n d)) ∧ Below w.heap.size w w' := by
  obtain ⟨q, hq⟩ : ∃ q, chkI n d = q := ⟨_, rfl⟩
  have h1 := fun h => hq ▸ chkI_in (n := n) (d := d) h
  have h2 := fun h => hq ▸ chkI_out (n := n) (d := d) h
  rw [hq]
  have H := Lib.hid (And.intro h1 h2)
  clear h1 h2 hq
  have B := (Below.refl w.heap.size w).alloc (Nat.le_refl _) (.cells #[.int .i64 n, .int .i64 d] 23)
  go_enter Tryd.func43, Tryd.ntmps43
  go_wp2
  all_goals
    go_ret
    first
      | exact ⟨congrArg (fun z => Ending.returned (.int .i64 z)) (H.out.1 (by omega)).symm, B⟩
      | exact ⟨congrArg (fun z => Ending.returned (.int .i64 z)) (H.out.2 (by omega)).symm, B⟩

theorem BigIs.len {S : Nat → Prop} {w : World} {t : Bool} {A : Option Addr} {n c : Nat} {z : Int} {L : Nat} (h : BigIs S w (.agg #[.bool t, .slice A n c]) z L) : 0 < n ↔ z ≠ 0 := by
  obtain ⟨A', c', xs, hv, h2, h3, _⟩ := h
  injection hv with hv
  injection hv with hv
  simp only [List.cons.injEq, Value.bool.injEq, Value.slice.injEq, and_true] at hv
  obtain ⟨_, rfl, rfl, rfl⟩ := hv
  rw [sd_len h2 h3]
  omega

set_option maxRecDepth 100000 in
set_option maxHeartbeats 1000000 in
theorem divisor_any {S S' : Nat → Prop} {w : World} {va vb : Value} {a b : Int} {L : Nat} (ha : BigIs S w va a L) (hb : BigIs S' w vb b L) (a1 : 1 ≤ a) (b0 : 0 ≤ b) (hL : L ≤ 40000) :
    Calls Tryd.prog 83 #[va, vb] w fun e w' => ∃ v, e = .returned v ∧ BigIs (fun _ => True) w' v (Nat.gcd a.toNat b.toNat : Nat) L ∧ Below w.heap.size w w' := by
  obtain ⟨t1, A1, n1, c1, rfl⟩ := ha.form2
  obtain ⟨t2, A2, n2, c2, rfl⟩ := hb.form2
  obtain ⟨G, hG⟩ : ∃ G, Nat.gcd a.toNat b.toNat = G := ⟨_, rfl⟩
  rw [hG]
  have HG := Lib.hid hG
  clear hG
  have mA := ha.mono (S' := fun g => g ≠ w.heap.size ∧ g ≠ w.heap.size + 1 ∧ g ≠ w.heap.size + 2) (fun g hg _ => by omega) (Nat.le_refl _)
  have mB := hb.mono (S' := fun g => g ≠ w.heap.size ∧ g ≠ w.heap.size + 1 ∧ g ≠ w.heap.size + 2) (fun g hg _ => by omega) (Nat.le_refl _)
  clear ha hb
  go_enter Tryd.func83, Tryd.ntmps83
  go_wp2_with fail
  go_loopg [5] b.toNat (fun k _ wr => ∃ (x y : Int) (t : Bool) (A : Option Addr) (n c : Nat) (t' : Bool) (A' : Option Addr) (n' c' : Nat), Box wr w.heap.size 74 #[.bool t, .slice A n c] ∧ Box wr (w.heap.size + 1) 74 #[.bool t', .slice A' n' c'] ∧ Box wr (w.heap.size + 2) 74 #[.bool false, .slice none 0 0] ∧
      BigIs (fun g => g ≠ w.heap.size ∧ g ≠ w.heap.size + 1 ∧ g ≠ w.heap.size + 2) wr (.agg #[.bool t, .slice A n c]) x L ∧ BigIs (fun g => g ≠ w.heap.size ∧ g ≠ w.heap.size + 1 ∧ g ≠ w.heap.size + 2) wr (.agg #[.bool t', .slice A' n' c']) y L ∧
      1 ≤ x ∧ 0 ≤ y ∧ y.toNat ≤ k ∧ Hid (Nat.gcd x.toNat y.toNat = G) ∧ Below w.heap.size w wr)
  case atStart =>
    exact ⟨a, b, t1, A1, n1, c1, t2, A2, n2, c2, ((Box.new _ _ _).alloc _).alloc _, (Box.new' (by simp)).alloc _, Box.new' (by simp), ((mA.alloc _).alloc _).alloc _, ((mB.alloc _).alloc _).alloc _, a1, b0, Nat.le_refl _, HG, (((Below.refl _ _).alloc (Nat.le_refl _) _).alloc (by simp) _).alloc (by simp; omega) _⟩
  case round =>
    clear HG mA mB a1 b0
    obtain ⟨x, y, t, A, n, c, t', A', n', c', x2, x3, x4, mx, my, x1, y0, hk, hg, hb⟩ := hrel
    have hlen := my.len
    have k2 := x2.cells
    have k3 := x3.cells
    have k4 := x4.cells
    have l2 := x2.lt
    have l3 := x3.lt
    have l4 := x4.lt
    have f4 := x4.free
    by_cases hy : y = 0
    · have hn : ¬ 0 < n' := fun h => (hlen.1 h) hy
      subst hy
      have hG : x = (G : Int) := by
        have := hg.out
        simp only [Int.toNat_zero, Nat.gcd_zero_right] at this
        omega
      have HX := Lib.hid hG
      clear hG hlen hg my
      go_wp2
      refine bodyPost_ret (by unfold results; simp only [Tryd.results83]; go_simp; rfl) rfl ?_
      rw [← HX.out]
      exact ⟨_, rfl, ((mx.setCell (g := w.heap.size + 2) (i := 0) (by omega) _).setCell (g := w.heap.size + 2) (i := 1) (by omega) _).mono (fun _ _ _ => trivial) (Nat.le_refl _), (hb.setCell (by simp; omega) _).setCell (by simp; omega) _⟩
    · have hn : 0 < n' := hlen.2 hy
      have y1 : 0 < y := by omega
      have hs := hb.size
      have DV := Lib.hid (div_any mx my y1 (by omega))
      have m0 := Int.emod_nonneg x hy
      have m1 := Int.emod_lt_of_pos x y1
      have hg2 : Nat.gcd y.toNat (x % y).toNat = G := by
        rw [← hg.out, Nat.gcd_comm x.toNat, Nat.gcd_rec y.toNat x.toNat, Nat.gcd_comm]
        congr 1
        have e : (x % y) = ((x.toNat % y.toNat : Nat) : Int) := by rw [Int.natCast_emod, show ((x.toNat : Nat) : Int) = x by omega, show ((y.toNat : Nat) : Int) = y by omega]
        omega
      have HG := Lib.hid hg2
      clear hlen hg hg2 hy
      generalize x % y = r at *
      generalize x / y = q at *
      go_wp2_with fail
      refine DV.out.mono ?_
      rintro e w1 ⟨v5, v6, rfl, m5, m6, b1⟩
      obtain ⟨t5, A5, n5, c5, rfl⟩ := m5.form2
      obtain ⟨t6, A6, n6, c6, rfl⟩ := m6.form2
      replace m6 := m6.mono (S' := fun g => g ≠ w.heap.size ∧ g ≠ w.heap.size + 1 ∧ g ≠ w.heap.size + 2) (fun g _ hg => by omega) (Nat.le_refl _)
      replace my := my.later b1
      replace x2 := x2.later b1
      replace x3 := x3.later b1
      replace x4 := x4.later b1
      replace hb := hb.trans (b1.mono hs)
      clear DV b1 m5 mx k2 k3 k4 l2 l3 l4 f4 hs
      have k2 := x2.cells
      have k3 := x3.cells
      have l2 := x2.lt
      have l3 := x3.lt
      have f2 := x2.free
      have f3 := x3.free
      have hs := hb.size
      go_wp2
      go_roundg r.toNat
      case measure => omega
      case rel =>
        exact ⟨y, r, t', A', n', c', t6, A6, n6, c6, ((((box2 x2 _ _).far' (by omega) _).far' (by omega) _).alloc _).alloc _, ((box2 ((x3.far' (by omega) _).far' (by omega) _) _ _).alloc _).alloc _, (((((x4.far' (by omega) _).far' (by omega) _).far' (by omega) _).far' (by omega) _).alloc _).alloc _,
          ((((((my.setCell (g := w.heap.size) (i := 0) (by first | omega | simp) _).setCell (g := w.heap.size) (i := 1) (by first | omega | simp) _).setCell (g := w.heap.size + 1) (i := 0) (by first | omega | simp) _).setCell (g := w.heap.size + 1) (i := 1) (by first | omega | simp) _).alloc _).alloc _), ((((((m6.setCell (g := w.heap.size) (i := 0) (by first | omega | simp) _).setCell (g := w.heap.size) (i := 1) (by first | omega | simp) _).setCell (g := w.heap.size + 1) (i := 0) (by first | omega | simp) _).setCell (g := w.heap.size + 1) (i := 1) (by first | omega | simp) _).alloc _).alloc _), by omega, m0, Nat.le_refl _, HG, (((((hb.setCell (by simp) _).setCell (by simp) _).setCell (by simp) _).setCell (by simp) _).alloc (by simpa [World.setCell] using hs) _).alloc (by simp [World.setCell]; omega) _⟩
end Go.Proofs.YtkdpiikfiodopaaDoor
