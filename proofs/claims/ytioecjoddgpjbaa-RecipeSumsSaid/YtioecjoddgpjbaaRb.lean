/-
  Chapter 4: Same, Less, Inverse, Apply.
-/
import Derived.Test.YtioecjoddgpjbaaRa
import Derived.Test.YtioecjoddgpjbaaSc2
namespace Go.Proofs.Ytioecjoddgpjbaa
open Go.RowKit

def sameI (n d m e : Int) : Bool := okR n d && (((normI n d).1 == (normI m e).1) && ((normI n d).2 == (normI m e).2))
def lessI (n d m e : Int) : Bool := okR n d && (okR m e && decide (n * e < m * d))
theorem okR_false {n d : Int} (h : okR n d = false) : chkI n d = 11 := by
  unfold chkI
  rw [h]
  rfl
theorem okR_true {n d : Int} (h : okR n d = true) : chkI n d = 0 := if_pos h
theorem normI_range (n d : Int) : 0 ≤ (normI n d).1 ∧ (normI n d).1 ≤ 1000000000000 ∧ 0 ≤ (normI n d).2 ∧ (normI n d).2 ≤ 1000000000000 := by
  unfold normI lowI
  split
  · rename_i h
    have h' := (okR_iff n d).1 h
    obtain ⟨g1, g2, g3, e1, e2, e3, e4⟩ := gcdI_spec h'.1 h'.2.1
    simp only
    omega
  · simp

def invI (n d : Int) : (Int × Int) × Int := if okR n d = true then (normI d n, 0) else ((0, 0), 11)
def applyI (x n d : Int) : Int × Int := if okR n d = true then evenI (x * n) d else (0, 11)
set_option maxRecDepth 100000 in
set_option maxHeartbeats 1000000 in
theorem apply_any (x n d : Int) (w : World) (x1 : -9223372036854775808 ≤ x) (x2 : x ≤ 9223372036854775807) :
    Calls Try.prog 48 #[.int .i64 x, .agg #[.int .i64 n, .int .i64 d]] w fun e' w' => e' = .returned (.tuple #[.int .i64 (applyI x n d).1, .int .i64 (applyI x n d).2]) ∧ Below w.heap.size w w' := by
  have CA := Lib.hid fun w => check_any n d w
  unfold applyI
  cases h : okR n d
  · rw [okR_false h] at CA
    rw [if_neg (by decide)]
    go_enter Try.func48, Try.ntmps48
    have B0 := Below.refl w.heap.size w
    go_wp2_with fail
    refine (CA.out _).mono ?_
    rintro e w1 ⟨rfl, b1⟩
    have x3 := (Box.new w 29 #[.int .i64 n, .int .i64 d]).later b1
    have b1 := below_up b1
    have B1 := B0.trans (b1.mono B0.size)
    clear b1 B0
    have k3 := x3.cells
    have l3 := x3.lt
    go_wp2
    go_ret2
    exact ⟨rfl, B1⟩
  · have h' := (okR_iff n d).1 h
    rw [okR_true h] at CA
    rw [if_pos rfl]
    have SC := Lib.hid fun w => scale_any (x := x) (n := n) (d := d) x1 x2 (by omega) (by omega) (by omega) w
    generalize evenI (x * n) d = p at *
    clear h h' x1 x2
    go_enter Try.func48, Try.ntmps48
    have B0 := Below.refl w.heap.size w
    go_wp2_with fail
    refine (CA.out _).mono ?_
    rintro e w1 ⟨rfl, b1⟩
    have x3 := (Box.new w 29 #[.int .i64 n, .int .i64 d]).later b1
    have b1 := below_up b1
    have B1 := B0.trans (b1.mono B0.size)
    clear b1 B0
    have k3 := x3.cells
    have l3 := x3.lt
    clear CA
    go_wp2_with fail
    refine (SC.out _).mono ?_
    rintro e w2 ⟨rfl, b2⟩
    replace x3 := x3.later b2
    have B2 := B1.trans (b2.mono B1.size)
    clear b2 B1
    go_wp2
    go_ret2
    exact ⟨rfl, B2⟩

end Go.Proofs.Ytioecjoddgpjbaa
