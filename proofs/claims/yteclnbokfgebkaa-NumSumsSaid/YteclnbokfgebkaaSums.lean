/-
  NumSums: the walk.
-/
import Derived.Test.YteclnbokfgebkaaZ
namespace Go.Proofs.Yteclnbokfgebkaa
open Go.RowKit

set_option maxHeartbeats 2000000 in
theorem sums_law (A : Option Addr) (c : Nat) (l : List Int) (A' : Option Addr) (c' : Nat) (m : List Int) (w : World) (hb : I64s l) (hb' : I64s m) (hr : RowAt w A (ivals l)) (hr' : RowAt w A' (ivals m)) (hm1 : l.length ≤ 9223372036854775807) (hm2 : m.length ≤ 9223372036854775807) :
    Calls Try.prog 4 #[.slice A l.length c, .slice A' m.length c'] w fun e w' => e = .returned (.bool true) ∧ Below w.heap.size w w' := by
  have W := Lib.hid fun w => awake_any w
  by_cases h1 : 200 < l.length
  · clear hr hr' hb hb'
    go_enter Try.func4, Try.ntmps4
    go_wp2_with fail
    refine (W.out _).mono ?_
    rintro e w1 ⟨rfl, b1⟩
    go_wp2
    go_ret
    exact ⟨rfl, b1⟩
  by_cases h2 : 200 < m.length
  · clear hr hr' hb hb'
    go_enter Try.func4, Try.ntmps4
    go_wp2_with fail
    refine (W.out _).mono ?_
    rintro e w1 ⟨rfl, b1⟩
    go_wp2
    go_ret
    exact ⟨rfl, b1⟩
  have n1 := Lib.hid hb
  have n2 := Lib.hid hb'
  have a1 := Lib.hid hr
  have a2 := Lib.hid hr'
  have S := Lib.hid fun w (h : RowAt w A (ivals l)) => sum_any (c := c) (by omega : l.length ≤ 10000) hb h
  have R := Lib.hid fun w (h : RowAt w A (ivals l)) => rnet_any (c := c) (A' := none) (c' := 0) (m := []) (w := w) (by omega : l.length ≤ 10000) (by simp) hb (fun _ h => absurd h (by simp)) h (RowAt.nil _ _)
  have N := Lib.hid fun w (h : RowAt w A (ivals l)) (h' : RowAt w A' (ivals m)) => net_any (c := c) (c' := c') (by omega : l.length ≤ 10000) (by omega) hb hb' h h'
  have R' := Lib.hid fun w (h : RowAt w A (ivals l)) (h' : RowAt w A' (ivals m)) => rnet_any (c := c) (c' := c') (by omega : l.length ≤ 10000) (by omega) hb hb' h h'
  rw [sumI_nil, Int.sub_zero] at R
  clear hb hb' hr hr'
  generalize (toldI (sumI l)).1 = p at *
  generalize (toldI (sumI l)).2 = q at *
  generalize (toldI (sumI l - sumI m)).1 = r at *
  generalize (toldI (sumI l - sumI m)).2 = s at *
  go_enter Try.func4, Try.ntmps4
  go_wp2_with fail
  refine (S.out _ a1.out).mono ?_
  rintro e w1 ⟨rfl, b1⟩
  have i1 := b1.size
  go_wp2_with fail
  refine (R.out _ (a1.out.below b1 (Nat.le_refl _))).mono ?_
  rintro e w2 ⟨rfl, b2⟩
  have b2 := b1.trans (b2.mono i1)
  have i2 := b2.size
  go_wp2_with fail
  refine (N.out _ (a1.out.below b2 (Nat.le_refl _)) (a2.out.below b2 (Nat.le_refl _))).mono ?_
  rintro e w3 ⟨rfl, b3⟩
  have b3 := b2.trans (b3.mono i2)
  have i3 := b3.size
  go_wp2_with fail
  refine (R'.out _ (a1.out.below b3 (Nat.le_refl _)) (a2.out.below b3 (Nat.le_refl _))).mono ?_
  rintro e w4 ⟨rfl, b4⟩
  have b4 := b3.trans (b4.mono i3)
  go_wp2_with fail
  refine (W.out _).mono ?_
  rintro e w5 ⟨rfl, b5⟩
  go_wp2
  go_ret
  exact ⟨rfl, b4.trans (b5.mono b4.size)⟩
end Go.Proofs.Yteclnbokfgebkaa
