/-
  math/bits: OnesCount64, TrailingZeros64 over the library's own table.
-/
import Derived.Test.YtgilmpakdohijaaDoorApN
import Derived.Test.YtgilmpakdohijaaDoorBiP
import Derived.Test.YtgilmpakdohijaaDoorSame
import Derived.Test.YtgilmpakdohijaaDoorHas
import Derived.Shelf.Spec.TrailingZeros
import Derived.Laws.Bits128
namespace Go.Proofs.YtgilmpakdohijaaDoor
open Go.RowKit
theorem u64_add (a b : Nat) (h : a + b < 18446744073709551616) : IntKind.u64.wrap ((a : Int) + (b : Int)) = ((a + b : Nat) : Int) := by rw [IntKind.wrap_u64]; omega
theorem u64_self (a : Nat) (h : a < 18446744073709551616) : IntKind.u64.wrap (a : Int) = (a : Int) := by rw [IntKind.wrap_u64]; omega
theorem and_m0 (a : Nat) (h : a < 18446744073709551616) : bits .and .u64 (a : Int) 6148914691236517205 = ((a &&& 6148914691236517205 : Nat) : Int) := bits_and_u64_nat a 6148914691236517205 h (by decide)
theorem and_m1 (a : Nat) (h : a < 18446744073709551616) : bits .and .u64 (a : Int) 3689348814741910323 = ((a &&& 3689348814741910323 : Nat) : Int) := bits_and_u64_nat a 3689348814741910323 h (by decide)
theorem and_m2 (a : Nat) (h : a < 18446744073709551616) : bits .and .u64 (a : Int) 1085102592571150095 = ((a &&& 1085102592571150095 : Nat) : Int) := bits_and_u64_nat a 1085102592571150095 h (by decide)
theorem div_n (a k : Nat) : (a : Int) / (k : Int) = ((a / k : Nat) : Int) := rfl
theorem ones_k1 {x y : Nat} (hx : x < 18446744073709551616) (h : (x / 2 &&& 6148914691236517205) + (x &&& 6148914691236517205) = y) (hy : y < 18446744073709551616) : IntKind.u64.wrap (bits .and .u64 ((x : Int) / 2) 6148914691236517205 + bits .and .u64 (x : Int) 6148914691236517205) = (y : Int) := by
  rw [show (x : Int) / 2 = ((x / 2 : Nat) : Int) from rfl, and_m0 _ (by omega), and_m0 _ hx, u64_add _ _ (by omega), h]
theorem ones_k2 {x y : Nat} (hx : x < 18446744073709551616) (h : (x / 4 &&& 3689348814741910323) + (x &&& 3689348814741910323) = y) (hy : y < 18446744073709551616) : IntKind.u64.wrap (bits .and .u64 ((x : Int) / 4) 3689348814741910323 + bits .and .u64 (x : Int) 3689348814741910323) = (y : Int) := by
  rw [show (x : Int) / 4 = ((x / 4 : Nat) : Int) from rfl, and_m1 _ (by omega), and_m1 _ hx, u64_add _ _ (by omega), h]
theorem ones_k3 {x y : Nat} (hx : x / 16 + x < 18446744073709551616) (h : (x / 16 + x) &&& 1085102592571150095 = y) : bits .and .u64 (IntKind.u64.wrap ((x : Int) / 16 + (x : Int))) 1085102592571150095 = (y : Int) := by
  rw [show (x : Int) / 16 = ((x / 16 : Nat) : Int) from rfl, u64_add _ _ (by omega), and_m2 _ hx, h]
theorem ones_k4 {x y : Nat} (k : Nat) (h : x + x / k = y) (hy : y < 18446744073709551616) : IntKind.u64.wrap ((x : Int) + (x : Int) / (k : Int)) = (y : Int) := by
  rw [div_n, u64_add _ _ (by omega), h]
set_option maxHeartbeats 1000000 in
theorem ones_any (x : Nat) (hx : x < 18446744073709551616) (w : World) : Calls Tryd.prog 28 #[.int .u64 x] w fun e w' => e = .returned (.int .i64 (onesW x : Int)) ∧ w' = w := by
  obtain ⟨y1, y2, y3, x1, x2, h1, h2, h3, h4, h5, h6, l1, l2, l3, l4, l5, l6⟩ := ones_way x
  have k1 := Lib.hid (ones_k1 hx h1 l1)
  have k2 := Lib.hid (ones_k2 l1 h2 (by omega))
  have k3 := Lib.hid (ones_k3 l2 h3)
  have k4 := Lib.hid (ones_k4 256 h4 l4)
  have k5 := Lib.hid (ones_k4 65536 h5 l5)
  have H6 := Lib.hid h6
  clear h1 h2 h3 h4 h5 h6 l1 l2 l3 l4 l5
  generalize onesW x = z at *
  go_enter Tryd.func28, Tryd.ntmps28
  go_wp2
  go_ret
  refine ⟨?_, rfl⟩
  have e1 := k1.out
  have e2 := k2.out
  have e3 := k3.out
  have e4 := k4.out
  have e5 := k5.out
  rw [show ((256 : Nat) : Int) = 256 from rfl] at e4
  rw [show ((65536 : Nat) : Int) = 65536 from rfl] at e5
  simp [e1, e2, e3, e4, e5]
  rw [i64_and127]
  have h6 := H6.out
  clear e1 e2 e3 e4 e5 k1 k2 k3 k4 k5
  have e7 : IntKind.u64.wrap ((x2 : Int) + (x2 : Int) / 4294967296) = (x2 : Int) + (x2 : Int) / 4294967296 := by rw [IntKind.wrap_u64]; omega
  rw [e7]
  unfold wrap64
  omega
/-- The library's table lies in its variable. -/
def Tb (w : World) : Prop := TabAt 0 Lib.deBruijn64tab w
section
variable {w w' : World}
theorem Tb.keep (h : Tb w) (hk : ∀ b, b < w.heap.size → w'.heap[b]? = w.heap[b]?) : Tb w' := fun j hj => by
  have h1 := h j hj
  exact (World.cell?_of_block (w := w) (hk 0 (World.block_lt_of_cell? w _ h1))).trans h1
theorem Tb.below {B : Nat} (h : Tb w) (hb : Below B w w') (hB : w.heap.size ≤ B) : Tb w' := h.keep fun b h => hb.block b (Nat.lt_of_lt_of_le h hB)
theorem Tb.later (h : Tb w) (hb : Below w.heap.size w w') : Tb w' := h.below hb (Nat.le_refl _)
theorem Tb.alloc (h : Tb w) (o : Obj) : Tb (w.alloc o) := h.keep fun b hb => Below.heap_alloc w o b hb
theorem Tb.drew (h : Tb w) : Tb w.drew := h
end
set_option maxHeartbeats 1000000 in
theorem tz64_core (x k idx : Nat) (w : World) (hx0 : ((x : Int) == 0) = false)
    (key : IntKind.u64.wrap (bits BinOp.and IntKind.u64 (x : Int) (IntKind.u64.wrap (-(x : Int))) * 285870213051353865) / 288230376151711744 = (idx : Int))
    (hi : idx < 64) (hk : k < 64) (hcell : w.cell? ⟨0, idx, none⟩ = some (.int .u8 k)) :
    Calls Tryd.prog 34 #[.int .u64 x] w fun e w' => e = .returned (.int .i64 k) ∧ w = w' := by
  go_enter Tryd.func34, Tryd.ntmps34
  go_wp2_with (simp only [key])
  go_ret
  exact ⟨rfl, rfl⟩
theorem tz64_any (x : Nat) (hx : x < 18446744073709551616) (h0 : x ≠ 0) (w : World) (T : Tb w) :
    Calls Tryd.prog 34 #[.int .u64 x] w fun e w' => e = .returned (.int .i64 (Lib.ctz 64 x)) ∧ w = w' := by
  obtain ⟨hlow, hk⟩ := Lib.lowest_bit 64 x h0 hx
  obtain ⟨hi, htab⟩ := Lib.deBruijn64_at _ hk
  have hcell := T _ hi
  rw [htab] at hcell
  exact tz64_core x _ _ w (by simp; omega) (tz64_key x _ hx h0 hlow) hi hk hcell
end Go.Proofs.YtgilmpakdohijaaDoor
