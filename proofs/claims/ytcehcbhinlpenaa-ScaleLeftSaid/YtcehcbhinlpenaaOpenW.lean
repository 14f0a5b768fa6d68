/-
  A wide number that came in by value.
-/
import Derived.Test.YtcehcbhinlpenaaW2
import Derived.Test.YtcehcbhinlpenaaK2
namespace Go.Proofs.Ytcehcbhinlpenaa
open Go.RowKit Go.ChangeShapes Go.WideShapes Go.ChangeAt Go.Deep

section
variable {H : Type} {enc : TypeId × Value → H} {P : Program} {w : World} {base : Nat} {spare : Nat → Bool} {held : Bool}
/-- A struct of two integers of whatever kinds. -/
theorem trod_struct_two {t : TypeId} {fs : Array Field} {k0 k1 : IntKind} {fuel : Nat} {cs : List Value} {x : DataW H × List MemPlace} (ht : P.underlying t = some (.struct fs)) (hone : oneCellFields P fs = true)
    (hs : fs.size = 2) (h0 : ∀ f, fs[0]? = some f → P.underlying f.type = some (.int k0)) (h1 : ∀ f, fs[1]? = some f → P.underlying f.type = some (.int k1)) (hC : P.cellsOf t = fs.size) (h : DataW.trod enc P w base spare held fuel t cs = some x) :
    ∃ a b : Int, cs = [.int k0 a, .int k1 b] ∧ (Lit.int k0 a).wf = true ∧ (Lit.int k1 b).wf = true := by
  obtain ⟨ys, n, _, _, hlen, hyl, hf⟩ := DataW.trod_struct ht h
  have each : ∀ j k (hj : j < fs.size), (∀ f, fs[j]? = some f → P.underlying f.type = some (.int k)) → ∃ z : Int, cs[j]? = some (.int k z) ∧ (Lit.int k z).wf = true := by
    intro j k hj hk'
    have hfj : fs[j]? = some fs[j] := Array.getElem?_eq_getElem hj
    obtain ⟨ho, hk⟩ := hone_of hone j _ hfj
    have h1 := hf j _ hfj
    rw [ho, hk] at h1
    have hjl : j < cs.length := by omega
    have hone' : (cs.drop j).take 1 = [cs[j]] := by
      rw [List.drop_eq_getElem_cons hjl]
      rfl
    rw [hone', List.getElem?_eq_getElem (by omega)] at h1
    obtain ⟨z, hz, _, hw⟩ := DataW.trod_int (hk' _ hfj) h1
    injection hz with hz _
    exact ⟨z, by rw [List.getElem?_eq_getElem hjl, hz], hw⟩
  obtain ⟨a, ha, wa⟩ := each 0 k0 (by omega) h0
  obtain ⟨b, hb, wb⟩ := each 1 k1 (by omega) h1
  have hl : cs.length = 2 := by omega
  refine ⟨a, b, ?_, wa, wb⟩
  match cs, hl with
  | [u, v], _ => simp at ha hb; rw [ha, hb]
end

/-- A wide number. -/
theorem open_wide {H : Type} {enc : TypeId × Value → H} {w : World} {base : Nat} {spare : Nat → Bool} {held : Bool} {v : Value} {d : DataW H} {p : List MemPlace}
    (hv : Value.okWide Try.prog w .any base 28 v) (h : DataW.Trod enc Try.prog w 0 spare held 28 v d p) : ∃ z : Int, v = WV z ∧ -170141183460469231731687303715884105728 ≤ z ∧ z ≤ 170141183460469231731687303715884105727 := by
  obtain ⟨cs, rfl, _⟩ := okWide_struct Try.underlying28 hv
  obtain ⟨fuel, hf⟩ := h
  obtain ⟨a, b, e, wa, wb⟩ := trod_struct_two (k0 := .i64) (k1 := .u64) Try.underlying28 (by kernel_rfl) rfl (by intro f hf; simp at hf; subst hf; exact Try.underlying2) (by intro f hf; simp at hf; subst hf; exact Try.underlying26) (by kernel_rfl) hf
  have wa := i64_bounds wa
  have wb := u64_bounds wb
  refine ⟨a * 18446744073709551616 + b, ?_, by omega, by omega⟩
  rw [WV_out, show (a * 18446744073709551616 + b) / 18446744073709551616 = a by omega, show (a * 18446744073709551616 + b) % 18446744073709551616 = b by omega]
  have : cs.toList = [.int .i64 a, .int .u64 b] := by simpa [Value.cells] using e
  rw [← this]
end Go.Proofs.Ytcehcbhinlpenaa
