/-
  What the rows' condition on the library's tables gives the walks: the table of 64 numbers lies in its variable.
-/
import Derived.Test.YtgilmpakdohijaaDoorBi1
import Derived.LaidMore
import Derived.Stop.Joined
import Derived.ProofKit
namespace Go.Proofs.YtgilmpakdohijaaDoor
open Go.RowKit Go.ChangeShapes Go.WideShapes Go.ChangeAt

theorem two_of {xs : List Int} (h : xs.length = 2) : ∃ a b, xs = [a, b] := by
  match xs, h with
  | [a, b], _ => exact ⟨a, b, rfl⟩

/-- The table, as each row of this seat lists it. -/
def laid2 {H : Type} : List (String × DataW H) := [("math/bits.deBruijn64tab", Rows.laid_math_bits_deBruijn64tab)]
theorem g64 : Tryd.prog.globalNamed "math/bits.deBruijn64tab" = some 0 := by kernel_rfl
theorem t64 : (Tryd.prog.globals[0]?).map (·.type) = some 57 := by kernel_rfl

section
variable {H : Type} {enc : TypeId × Value → H} {P : Program} {w : World} {base : Nat} {spare : Nat → Bool} {held : Bool}
theorem trod_array_bytes {t e : TypeId} {n : Nat} {fuel : Nat} {cs : List Value} {x : DataW H × List MemPlace} (tab : List Nat) (ht : P.underlying t = some (.array n e)) (he : P.underlying e = some (.int .u8)) (hc : P.cellsOf e = 1) (hC : P.cellsOf t = n)
    (h : DataW.trod enc P w base spare held fuel t cs = some x) (hx : x.1 = .agg (tab.map fun k : Nat => .lit (.int .u8 (k : Int)))) (hn : tab.length = n) :
    ∀ j, j < n → cs[j]? = some (.int .u8 ((tab.getD j 0 : Nat) : Int)) := by
  obtain ⟨ys, m, _, he2, hlen, hyl, hf⟩ := DataW.trod_array ht h
  rw [he2] at hx
  simp only [DataW.agg.injEq] at hx
  intro j hj
  have h1 := hf j hj
  rw [hc, Nat.mul_one] at h1
  have hjl : j < cs.length := by omega
  have hone' : (cs.drop j).take 1 = [cs[j]] := by
    rw [List.drop_eq_getElem_cons hjl]
    rfl
  rw [hone', List.getElem?_eq_getElem (by omega)] at h1
  obtain ⟨z, hz, hy, hw⟩ := DataW.trod_int he h1
  injection hz with hz _
  rw [List.getElem?_eq_getElem hjl, hz]
  have h2 : (ys.map (·.1))[j]? = (tab.map fun k : Nat => (.lit (.int .u8 (k : Int)) : DataW H))[j]? := by rw [hx]
  rw [List.getElem?_map, List.getElem?_map, List.getElem?_eq_getElem (by omega), List.getElem?_eq_getElem (by omega), hy] at h2
  simp only [Option.map_some, Option.some.injEq, DataW.lit.injEq, Lit.int.injEq, true_and] at h2
  rw [h2, List.getD_eq_getElem?_getD, List.getElem?_eq_getElem (by omega)]
  rfl
end

theorem tb_of_laid {W : World} (h : laidMetH Tryd.prog laid2 W) : Tb W := by
  rw [MakeChecks.laidMetH_plain _ _ _ (by kernel_rfl)] at h
  obtain ⟨ps, ⟨g1, t1, cs1, f1, p1, q1, hg1, ht1, hv1, hd1, _, _⟩, _, _⟩ := h
  obtain rfl := Option.some.inj (g64.symm.trans hg1)
  obtain rfl := Option.some.inj (t64.symm.trans ht1)
  intro j hj
  have hj' : j < 64 := hj
  have hcs := trod_array_bytes Lib.deBruijn64tab Tryd.underlying57 Tryd.underlying5 (by kernel_rfl) (by kernel_rfl) hd1 rfl rfl j hj'
  have := World.var?_cell hg1 hv1 j
  rw [this]
  simpa using hcs

/-- The door's own heap meets the condition. -/
theorem door_met (os : Os) (args : Array Value) : laidMetH Tryd.prog laid2 ((World.doorLaid Tryd.prog 400 os).forCall (fun _ _ => 0) ⟨#[], args, []⟩).memory :=
  laidMetH_of_parts3 (fuel := 8) (laidMet_of_run' 8 (by kernel_rfl) (by kernel_rfl)) (by kernel_rfl) (by kernel_rfl)
end Go.Proofs.YtgilmpakdohijaaDoor
