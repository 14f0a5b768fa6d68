/-
  WideProducts: the walk.
-/
import Derived.Test.YtmchgncbblcodaaWAwake
namespace Go.Proofs.Ytmchgncbblcodaa
open Go.RowKit

set_option maxRecDepth 100000 in
set_option maxHeartbeats 8000000 in
theorem wproducts_law (a b c : Int) (w : World) (a1 : -9223372036854775808 ≤ a) (a2 : a ≤ 9223372036854775807) (b1 : -9223372036854775808 ≤ b) (b2 : b ≤ 9223372036854775807) (c1 : -9223372036854775808 ≤ c) (c2 : c ≤ 9223372036854775807) :
    Calls Try.prog 6 #[.int .i64 a, .int .i64 b, .int .i64 c] w fun e w' => e = .returned (.bool true) ∧ Below w.heap.size w w' := by
  have AW := Lib.hid fun w => wawake_any w
  have bd : ∀ x y : Int, -9223372036854775808 ≤ x → x ≤ 9223372036854775807 → -9223372036854775808 ≤ y → y ≤ 9223372036854775807 → -85070591730234615865843651857942052864 ≤ x * y ∧ x * y ≤ 85070591730234615865843651857942052864 := by
    intro x y x1 x2 y1 y2
    have h1 := Int.natAbs_mul x y
    have h2 := Nat.mul_le_mul (show x.natAbs ≤ 9223372036854775808 by omega) (show y.natAbs ≤ 9223372036854775808 by omega)
    generalize x * y = z at *
    constructor <;> omega
  have MP := Lib.hid fun w => wmul_any (w := w) a1 a2 b1 b2
  have MQ := Lib.hid fun w => wmul_any (w := w) a1 a2 c1 c2
  have MR := Lib.hid fun w => wmul_any (w := w) b1 b2 a1 a2
  rw [Int.mul_comm b a] at MR
  have OA := Lib.hid fun w => wof_any (w := w) a1 a2
  have OB := Lib.hid fun w => wof_any (w := w) b1 b2
  have OC := Lib.hid fun w => wof_any (w := w) c1 c2
  have SP := Lib.hid fun w => wsign_any (x := a * b) (w := w)
  have SA := Lib.hid fun w => wsign_any (x := a) (w := w)
  have SB := Lib.hid fun w => wsign_any (x := b) (w := w)
  have hs : cmpI a 0 * cmpI b 0 = cmpI (a * b) 0 := by
    rcases (by omega : a < 0 ∨ 0 < a ∨ a = 0) with h | h | h <;> rcases (by omega : b < 0 ∨ 0 < b ∨ b = 0) with g | g | g
    · rw [cmpI_lt h, cmpI_lt g, cmpI_gt (Int.mul_pos_of_neg_of_neg h g)]; rfl
    · rw [cmpI_lt h, cmpI_gt g, cmpI_lt (Int.mul_neg_of_neg_of_pos h g)]; rfl
    · rw [g, Int.mul_zero, cmpI_eq (a := 0) rfl, Int.mul_zero]
    · rw [cmpI_gt h, cmpI_lt g, cmpI_lt (Int.mul_neg_of_pos_of_neg h g)]; rfl
    · rw [cmpI_gt h, cmpI_gt g, cmpI_gt (Int.mul_pos h g)]; rfl
    · rw [g, Int.mul_zero, cmpI_eq (a := 0) rfl, Int.mul_zero]
    · rw [h, Int.zero_mul, cmpI_eq (a := 0) rfl, Int.zero_mul]
    · rw [h, Int.zero_mul, cmpI_eq (a := 0) rfl, Int.zero_mul]
    · rw [h, Int.zero_mul, cmpI_eq (a := 0) rfl, Int.zero_mul]
  have sr := cmpI_range (a * b) 0
  have hw : IntKind.i64.wrap (cmpI (a * b) 0) = cmpI (a * b) 0 := IntWalk.i64_in _ (by omega)
  have EP := fun w => weqz (a * b) (a * b) w
  have ES := fun w => weqz (a * b + a * c) (a * b + a * c) w
  rw [decide_eq_true rfl] at EP ES
  have AB := Lib.hid fun w => wadd_any (x := b) (y := c) (w := w) ⟨by omega, by omega⟩ ⟨by omega, by omega⟩
  rw [toldW_in (z := b + c) (by omega) (by omega)] at AB
  have IS := Lib.hid fun w => wint_any (z := b + c) (w := w) ⟨by omega, by omega⟩
  simp only [WV_out] at MP MQ MR OA OB OC SP SA SB AB IS
  have D : Hid (((toldI (b + c)).2 = 0 ∧ (∀ w : World, Calls Try.prog 20 #[.agg #[.int .i64 (a * b / 18446744073709551616), .int .u64 (a * b % 18446744073709551616)], .agg #[.int .i64 (a * c / 18446744073709551616), .int .u64 (a * c % 18446744073709551616)]] w fun e w' => e = .returned (.tuple #[.agg #[.int .i64 ((a * b + a * c) / 18446744073709551616), .int .u64 ((a * b + a * c) % 18446744073709551616)], .int .i64 0]) ∧ Below w.heap.size w w') ∧ ∀ w : World, Calls Try.prog 12 #[.int .i64 a, .int .i64 (toldI (b + c)).1] w fun e w' => e = .returned (.agg #[.int .i64 ((a * b + a * c) / 18446744073709551616), .int .u64 ((a * b + a * c) % 18446744073709551616)]) ∧ Below w.heap.size w w') ∨ (toldI (b + c)).2 = 10) := by
    have p1 := bd a b a1 a2 b1 b2
    have p2 := bd a c a1 a2 c1 c2
    by_cases h : -9223372036854775808 ≤ b + c ∧ b + c ≤ 9223372036854775807
    · left
      rw [toldI_in h.1 h.2]
      refine ⟨rfl, fun w => ?_, fun w => ?_⟩
      · have p3 := bd a (b + c) a1 a2 h.1 h.2
        rw [Int.mul_add] at p3
        have := wadd_any (x := a * b) (y := a * c) (w := w) ⟨by omega, by omega⟩ ⟨by omega, by omega⟩
        rw [toldW_in (z := a * b + a * c) (by omega) (by omega)] at this
        exact this
      · have := wmul_any (w := w) a1 a2 h.1 h.2
        rw [Int.mul_add] at this
        exact this
    · right
      rw [toldI_out (by omega)]
  clear bd a1 a2 b1 b2 c1 c2
  generalize cmpI (a * b) 0 = sg at *
  generalize cmpI a 0 = sa at *
  generalize cmpI b 0 = sb at *
  generalize (toldI (b + c)).1 = n at *
  generalize (toldI (b + c)).2 = f at *
  generalize (a * b + a * c) / 18446744073709551616 = uh at *
  generalize (a * b + a * c) % 18446744073709551616 = ul at *
  generalize a * b / 18446744073709551616 = ph at *
  generalize a * b % 18446744073709551616 = pl at *
  generalize a * c / 18446744073709551616 = qh at *
  generalize a * c % 18446744073709551616 = ql at *
  generalize (b + c) / 18446744073709551616 = sh at *
  generalize (b + c) % 18446744073709551616 = sl at *
  generalize a / 18446744073709551616 = ah at *
  generalize a % 18446744073709551616 = al at *
  generalize b / 18446744073709551616 = bh at *
  generalize b % 18446744073709551616 = bl at *
  generalize c / 18446744073709551616 = ch at *
  generalize c % 18446744073709551616 = cl at *
  go_enter Try.func6, Try.ntmps6
  have B0 := Below.refl w.heap.size w
  go_wp2_with fail
  refine (MP.out _).mono ?_
  rintro e w1 ⟨rfl, b1⟩
  have B1 := B0.trans (b1.mono B0.size)
  clear b1 B0
  go_wp2_with fail
  refine (MQ.out _).mono ?_
  rintro e w2 ⟨rfl, b2⟩
  have B2 := B1.trans (b2.mono B1.size)
  clear b2 B1
  go_upto_region 2 with fail
  obtain ⟨W3, hW3⟩ : ∃ W3, W3 = (w2.alloc (.cells #[.int .i64 ph, .int .u64 pl] 28)).alloc (.cells #[.int .i64 qh, .int .u64 ql] 28) := ⟨_, rfl⟩
  have x7 : Box W3 w2.heap.size 28 #[.int .i64 ph, .int .u64 pl] := by rw [hW3]; exact (Box.new _ _ _).alloc _
  have x8 : Box W3 (w2.heap.size + 1) 28 #[.int .i64 qh, .int .u64 ql] := by rw [hW3]; exact Box.new' (by simp)
  have B10 : Below w.heap.size w W3 := by rw [hW3]; exact (B2.alloc B2.size _).alloc (by have := B2.size; simp; omega) _
  rewrite [← hW3]
  clear hW3 B2
  obtain ⟨g7, hg7⟩ : ∃ g, g = w2.heap.size := ⟨_, rfl⟩
  rewrite [← hg7] at x7 x8 ⊢
  clear hg7
  go_cut [37] from 21 to 36 (fun s37 wx => s37 = .bool false ∧ Below W3.heap.size W3 wx)
  case first =>
    have kkx7 := x7.cells
    go_region_held3 (fun w' => w'.cell? ⟨g7, 0, none⟩ = some (.int .i64 ph) ∧ w'.cell? ⟨g7, 1, none⟩ = some (.int .u64 pl)) (go_keep)
      (first
        | (go_at_call 12; (with_reducible refine (MR.out _).mono ?_); rintro e w60 ⟨rfl, b60⟩; have yx7 : Box w60 (g7) 28 #[.int .i64 ph, .int .u64 pl] := (by first | exact (x7).drew.later b60); have kyx7 := yx7.cells; have cb : Below W3.heap.size W3 w60 := (by first | exact (below_undrew b60)))
        | (go_at_call 28; (with_reducible refine (SP.out _).mono ?_); rintro e w61 ⟨rfl, b61⟩; have yx7 : Box w61 (g7) 28 #[.int .i64 ph, .int .u64 pl] := (by first | exact (yx7).later b61); have kyx7 := yx7.cells; have cb : Below W3.heap.size W3 w61 := (by first | exact cb.trans (b61.mono cb.size)))
        | (go_at_call 18; (with_reducible refine (OA.out _).mono ?_); rintro e w62 ⟨rfl, b62⟩; have yx7 : Box w62 (g7) 28 #[.int .i64 ph, .int .u64 pl] := (by first | exact (yx7).later b62); have kyx7 := yx7.cells; have cb : Below W3.heap.size W3 w62 := (by first | exact cb.trans (b62.mono cb.size)))
        | (go_at_call 28; (with_reducible refine (SA.out _).mono ?_); rintro e w63 ⟨rfl, b63⟩; have yx7 : Box w63 (g7) 28 #[.int .i64 ph, .int .u64 pl] := (by first | exact (yx7).later b63); have kyx7 := yx7.cells; have cb : Below W3.heap.size W3 w63 := (by first | exact cb.trans (b63.mono cb.size)))
        | (go_at_call 18; (with_reducible refine (OB.out _).mono ?_); rintro e w64 ⟨rfl, b64⟩; have yx7 : Box w64 (g7) 28 #[.int .i64 ph, .int .u64 pl] := (by first | exact (yx7).later b64); have kyx7 := yx7.cells; have cb : Below W3.heap.size W3 w64 := (by first | exact cb.trans (b64.mono cb.size)))
        | (go_at_call 28; (with_reducible refine (SB.out _).mono ?_); rintro e w65 ⟨rfl, b65⟩; have yx7 : Box w65 (g7) 28 #[.int .i64 ph, .int .u64 pl] := (by first | exact (yx7).later b65); have kyx7 := yx7.cells; have cb : Below W3.heap.size W3 w65 := (by first | exact cb.trans (b65.mono cb.size))))
    go_wp2_with fail
    go_meet
    exact ⟨rfl, cb⟩
  case rest =>
    obtain ⟨rfl, bc⟩ := hcut
    obtain ⟨w4, rfl⟩ : ∃ w0 : World, w0 = wc := ⟨_, rfl⟩
    replace x7 := x7.later bc
    replace x8 := x8.later bc
    have B11 := B10.trans (bc.mono B10.size)
    clear bc B10
    clear hs hw sr
    go_wp2_with fail
    refine (OB.out _).mono ?_
    rintro e w21 ⟨rfl, b21⟩
    replace x7 := x7.later b21
    replace x8 := x8.later b21
    have B12 := B11.trans (b21.mono B11.size)
    clear b21 B11
    go_wp2_with fail
    refine (OC.out _).mono ?_
    rintro e w22 ⟨rfl, b22⟩
    replace x7 := x7.later b22
    replace x8 := x8.later b22
    have B13 := B12.trans (b22.mono B12.size)
    clear b22 B12
    go_wp2_with fail
    refine (AB.out _).mono ?_
    rintro e w23 ⟨rfl, b23⟩
    replace x7 := x7.later b23
    replace x8 := x8.later b23
    have B14 := B13.trans (b23.mono B13.size)
    clear b23 B13
    go_wp2_with fail
    refine (IS.out _).mono ?_
    rintro e w24 ⟨rfl, b24⟩
    replace x7 := (x7.alloc _).later b24
    replace x8 := (x8.alloc _).later b24
    have b24 := below_up b24
    have B15 := B14.trans (b24.mono B14.size)
    clear b24 B14
    rcases D.out with ⟨rfl, D1, D2⟩ | rfl
    · have D1 := Lib.hid D1
      have D2 := Lib.hid D2
      have k7 := x7.cells
      have k8 := x8.cells
      go_wp2_with fail
      refine (D1.out _).mono ?_
      rintro e w41 ⟨rfl, b41⟩
      replace x7 := x7.later b41
      replace x8 := x8.later b41
      have B41 := B15.trans (b41.mono B15.size)
      clear b41 B15
      clear k7 k8
      go_upto_region 10 with fail
      obtain ⟨W5, hW5⟩ : ∃ W5, W5 = w41.alloc (.cells #[.int .i64 uh, .int .u64 ul] 28) := ⟨_, rfl⟩
      have x13 : Box W5 w41.heap.size 28 #[.int .i64 uh, .int .u64 ul] := by rw [hW5]; exact Box.new _ _ _
      have B60 : Below w.heap.size w W5 := by rw [hW5]; exact B41.alloc B41.size _
      rewrite [← hW5]
      clear hW5
      obtain ⟨g13, hg13⟩ : ∃ g, g = w41.heap.size := ⟨_, rfl⟩
      rewrite [← hg13] at x13 ⊢
      clear hg13
      have kkx13 := x13.cells
      go_region_held3 (fun w' => w'.cell? ⟨g13, 0, none⟩ = some (.int .i64 uh) ∧ w'.cell? ⟨g13, 1, none⟩ = some (.int .u64 ul)) (go_keep)
        (first
          | (go_at_call 12; (with_reducible refine (D2.out _).mono ?_); rintro e w80 ⟨rfl, b80⟩; have yx13 : Box w80 (g13) 28 #[.int .i64 uh, .int .u64 ul] := (by first | exact (x13).drew.later b80); have kyx13 := yx13.cells; have cb : Below W5.heap.size W5 w80 := (by first | exact (below_undrew b80))))
      go_wp2_with fail
      refine (AW.out _).mono ?_
      rintro e w99 ⟨rfl, b99⟩
      have B61 := B60.trans (cb.mono B60.size)
      go_wp2
      go_ret
      exact ⟨rfl, B61.trans (b99.mono B61.size)⟩
    · go_wp2_with fail
      refine (AW.out _).mono ?_
      rintro e w99 ⟨rfl, b99⟩
      go_wp2
      go_ret
      exact ⟨rfl, B15.trans (b99.mono B15.size)⟩
end Go.Proofs.Ytmchgncbblcodaa
