/-
  Chapter 6: Rescale, in the program and in the document.
-/
import Derived.Test.YtmdflhgmlipplaaDoorDeTry
import Derived.Test.YtmdflhgmlipplaaDoorScP
import Derived.Test.YtmdflhgmlipplaaDoorRef3
namespace Go.Proofs.YtmdflhgmlipplaaDoor
open Go.RowKit

/-- An amount with other decimals. -/
def resI (x f t : Int) : Int × Int := if mayD f = true ∧ mayD t = true then evenI (x * ten t.toNat) (ten f.toNat) else (0, 2)
set_option maxHeartbeats 1000000 in
theorem drescale_any (x f t : Int) (w : World) (x1 : -9223372036854775808 ≤ x) (x2 : x ≤ 9223372036854775807) :
    Calls Tryd.prog 9 #[.int .i64 x, .int .i64 f, .int .i64 t] w fun e w' => e = .returned (.tuple #[.int .i64 (resI x f t).1, .int .i64 (resI x f t).2]) ∧ Below w.heap.size w w' := by
  have MF := Lib.hid fun w => dmay_any f w
  have MT := Lib.hid fun w => dmay_any t w
  unfold resI
  cases hf : mayD f
  · rw [hf] at MF
    rw [if_neg (by simp)]
    clear hf x1 x2
    go_enter Tryd.func9, Tryd.ntmps9
    go_wp2_with fail
    refine (MF.out _).mono ?_
    rintro e _ ⟨rfl, rfl⟩
    go_wp2
    go_ret2
    exact ⟨rfl, Below.refl _ _⟩
  · rw [hf] at MF
    cases ht : mayD t
    · rw [ht] at MT
      rw [if_neg (by simp)]
      clear hf ht x1 x2
      go_enter Tryd.func9, Tryd.ntmps9
      go_wp2_with fail
      refine (MF.out _).mono ?_
      rintro e _ ⟨rfl, rfl⟩
      go_wp2_with fail
      refine (MT.out _).mono ?_
      rintro e _ ⟨rfl, rfl⟩
      go_wp2
      go_ret2
      exact ⟨rfl, Below.refl _ _⟩
    · rw [ht] at MT
      rw [if_pos (by simp)]
      have bf := mayD_iff.1 hf
      have bt := mayD_iff.1 ht
      have TF := Lib.hid fun w => dtens_any f.toNat w (by omega)
      have TT := Lib.hid fun w => dtens_any t.toNat w (by omega)
      rw [show ((f.toNat : Nat) : Int) = f by omega] at TF
      rw [show ((t.toNat : Nat) : Int) = t by omega] at TT
      have hF := ten_le6 (k := f.toNat) (by omega)
      have hT := ten_le6 (k := t.toNat) (by omega)
      have SC := Lib.hid fun w => scale_any (x := x) (n := ten t.toNat) (d := ten f.toNat) x1 x2 (by omega) (by omega) (by omega) w
      generalize evenI (x * ten t.toNat) (ten f.toNat) = p at *
      generalize ten f.toNat = a at *
      generalize ten t.toNat = b at *
      clear hf ht x1 x2 hF hT bf bt
      go_enter Tryd.func9, Tryd.ntmps9
      go_wp2_with fail
      refine (MF.out _).mono ?_
      rintro e _ ⟨rfl, rfl⟩
      go_wp2_with fail
      refine (MT.out _).mono ?_
      rintro e _ ⟨rfl, rfl⟩
      go_wp2_with fail
      refine (TT.out _).mono ?_
      rintro e _ ⟨rfl, rfl⟩
      go_wp2_with fail
      refine (TF.out _).mono ?_
      rintro e _ ⟨rfl, rfl⟩
      go_wp2_with fail
      refine (SC.out _).mono ?_
      rintro e w1 ⟨rfl, b1⟩
      go_wp2
      go_ret2
      exact ⟨rfl, b1⟩
set_option maxHeartbeats 1000000 in
theorem rrescale_any (x f t : Int) (w : World) (x1 : -9223372036854775808 ≤ x) (x2 : x ≤ 9223372036854775807) :
    Calls Tryd.prog 10 #[.int .i64 x, .int .i64 f, .int .i64 t] w fun e w' => e = .returned (.tuple #[.int .i64 (resI x f t).1, .int .i64 (resI x f t).2]) ∧ Below w.heap.size w w' := by
  have MF := Lib.hid fun w => rmay_any f w
  have MT := Lib.hid fun w => rmay_any t w
  unfold resI
  cases hf : mayD f
  · rw [hf] at MF
    rw [if_neg (by simp)]
    clear hf x1 x2
    go_enter Tryd.func10, Tryd.ntmps10
    go_wp2_with fail
    refine (MF.out _).mono ?_
    rintro e _ ⟨rfl, rfl⟩
    go_wp2
    go_ret2
    exact ⟨rfl, Below.refl _ _⟩
  · rw [hf] at MF
    cases ht : mayD t
    · rw [ht] at MT
      rw [if_neg (by simp)]
      clear hf ht x1 x2
      go_enter Tryd.func10, Tryd.ntmps10
      go_wp2_with fail
      refine (MF.out _).mono ?_
      rintro e _ ⟨rfl, rfl⟩
      go_wp2_with fail
      refine (MT.out _).mono ?_
      rintro e _ ⟨rfl, rfl⟩
      go_wp2
      go_ret2
      exact ⟨rfl, Below.refl _ _⟩
    · rw [ht] at MT
      rw [if_pos (by simp)]
      have bf := mayD_iff.1 hf
      have bt := mayD_iff.1 ht
      have TF := Lib.hid fun w => rtens_any f.toNat w (by omega)
      have TT := Lib.hid fun w => rtens_any t.toNat w (by omega)
      rw [show ((f.toNat : Nat) : Int) = f by omega] at TF
      rw [show ((t.toNat : Nat) : Int) = t by omega] at TT
      have hF := ten_le6 (k := f.toNat) (by omega)
      have hT := ten_le6 (k := t.toNat) (by omega)
      have SC := Lib.hid fun w => rscale_any (x := x) (n := ten t.toNat) (d := ten f.toNat) x1 x2 (by omega) (by omega) (by omega) w
      generalize evenI (x * ten t.toNat) (ten f.toNat) = p at *
      generalize ten f.toNat = a at *
      generalize ten t.toNat = b at *
      clear hf ht x1 x2 hF hT bf bt
      go_enter Tryd.func10, Tryd.ntmps10
      go_wp2_with fail
      refine (MF.out _).mono ?_
      rintro e _ ⟨rfl, rfl⟩
      go_wp2_with fail
      refine (MT.out _).mono ?_
      rintro e _ ⟨rfl, rfl⟩
      go_wp2_with fail
      refine (TT.out _).mono ?_
      rintro e _ ⟨rfl, rfl⟩
      go_wp2_with fail
      refine (TF.out _).mono ?_
      rintro e _ ⟨rfl, rfl⟩
      go_wp2_with fail
      refine (SC.out _).mono ?_
      rintro e w1 ⟨rfl, b1⟩
      go_wp2
      go_ret2
      exact ⟨rfl, b1⟩
end Go.Proofs.YtmdflhgmlipplaaDoor
