/-
  The reference's wide numbers: word, power, Of.
-/
import Derived.Test.YtioecjoddgpjbaaM
import Derived.Lib.Zigzag
namespace Go.Proofs.Ytioecjoddgpjbaa
open Go.RowKit

theorem below_undrew {w w' : World} (h : Below w.drew.heap.size w.drew w') : Below w.heap.size w w' := ⟨h.os, h.tape, h.output, h.size, h.block⟩

/-- A Big that is stored into the result's cell and handed back. -/
theorem bigIs_back {N g : Nat} {w : World} {A : Option Addr} {c : Nat} {xs : List Int} {b : Bool} {z : Int} {L : Nat} (hb : b = decide (z < 0)) (h : Can xs ∧ val xs = z.natAbs ∧ xs.length ≤ L ∧ xs.length ≤ c ∧ c ≤ maxLen ∧ RowS (fun x => N ≤ x) w A (ivals xs)) (hg : g < N) (u u' : Value) {i i' : Nat} {M : Nat} (hM : M ≤ N) :
    BigIs (fun x => M ≤ x) ((w.setCell ⟨g, i, none⟩ u).setCell ⟨g, i', none⟩ u') (.agg #[.bool b, .slice A xs.length c]) z L := by
  obtain ⟨g1, g2, g3, g4, g5, g6⟩ := h
  exact ⟨A, c, xs, by rw [hb], g1, g2, g3, g4, g5, ((g6.setCell (by omega) _).setCell (by omega) _).mono (fun b _ h => by omega)⟩

/-- A wide number. -/
def WC (z : Int) : Array Value := #[.int .i64 (z / 18446744073709551616), .int .u64 (z % 18446744073709551616)]
def WV (z : Int) : Value := .agg (WC z)
theorem WV_out (z : Int) : WV z = .agg #[.int .i64 (z / 18446744073709551616), .int .u64 (z % 18446744073709551616)] := rfl

end Go.Proofs.Ytioecjoddgpjbaa
