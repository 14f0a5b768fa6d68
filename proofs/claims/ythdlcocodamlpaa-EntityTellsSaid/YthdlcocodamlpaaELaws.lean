/-
  EntityTells, EntityAdds: the walks.
-/
import Derived.Test.YthdlcocodamlpaaEAwake
namespace Go.Proofs.Ythdlcocodamlpaa
open Go.RowKit

theorem two_of {xs : List Int} (h : xs.length = 2) : ∃ a b, xs = [a, b] := by
  match xs, h with
  | [a, b], _ => exact ⟨a, b, rfl⟩

set_option maxRecDepth 100000 in
set_option maxHeartbeats 4000000 in
theorem tells_law (A : Option Addr) (c : Nat) (l : List Int) (x0 x1 : Int) (A' : Option Addr) (c' : Nat) (some' : List Int) (w : World) (hr : RowAt w A (ivals l)) (hr' : RowAt w A' (ivals some')) (hm1 : l.length ≤ 9223372036854775807) (hm2 : some'.length ≤ 9223372036854775807) :
    Calls Try.prog 3 #[.slice A l.length c, .agg #[.int .i64 x0, .int .i64 x1], .slice A' some'.length c'] w fun e w' => e = .returned (.bool true) ∧ Below w.heap.size w w' := by
  have W := Lib.hid fun w => awake_any w
  by_cases h1 : 200 < l.length
  · clear hr hr'
    go_enter Try.func3, Try.ntmps3
    go_wp2_with fail
    refine (W.out _).mono ?_
    rintro e w1 ⟨rfl, b1⟩
    go_wp2
    go_ret
    exact ⟨rfl, below_up b1⟩
  by_cases h2 : 50 < some'.length
  · clear hr hr'
    go_enter Try.func3, Try.ntmps3
    go_wp2_with fail
    refine (W.out _).mono ?_
    rintro e w1 ⟨rfl, b1⟩
    go_wp2
    go_ret
    exact ⟨rfl, below_up b1⟩
  have K1 := Lib.hid fun w (h : RowAt w A (ivals l)) => check_any (c := c) (by omega) h
  have K2 := Lib.hid fun w (h : RowAt w A (ivals l)) => rcheck_any (c := c) (by omega) h
  have U1 := Lib.hid fun w (h : RowAt w A (ivals l)) => cur_any (c := c) (n := x0) (by omega) h
  have U2 := Lib.hid fun w (h : RowAt w A (ivals l)) => rcur_any (c := c) (n := x0) (by omega) h
  have D1 := Lib.hid fun w (h : RowAt w A (ivals l)) => add_any (cap := c) (c := x1) (by omega) h
  have D2 := Lib.hid fun w (h : RowAt w A (ivals l)) => radd_any (cap := c) (c := x1) (by omega) h
  have hal : (addI l x1).1.length ≤ 1000000 := by unfold addI; split; simp; split; simp; simp; omega
  have hol := ofTo_len l some' l.length
  have S1 := Lib.hid fun w A c A' c' (h : RowAt w A (ivals (addI l x1).1)) (h' : RowAt w A' (ivals (addI l x1).1)) => sameInts_any A c _ A' c' _ w (by unfold maxLen; omega) (by unfold maxLen; omega) h h'
  have O1 := Lib.hid fun w (h : RowAt w A (ivals l)) (h' : RowAt w A' (ivals some')) => of_any (c := c) (c' := c') (by omega) (by omega) h h'
  have O2 := Lib.hid fun w (h : RowAt w A (ivals l)) (h' : RowAt w A' (ivals some')) => rof_any (c := c) (c' := c') (by omega) (by omega) h h'
  have S2 := Lib.hid fun w A c A' c' (h : RowAt w A (ivals (ofTo l some' l.length))) (h' : RowAt w A' (ivals (ofTo l some' l.length))) => sameInts_any A c _ A' c' _ w (by unfold maxLen; omega) (by unfold maxLen; omega) h h'
  rw [decide_eq_true rfl] at S1 S2
  clear hal hol
  unfold PairRow at D1 D2
  unfold NewRow at O1 O2
  generalize (chkI l).1 = p1 at *
  generalize (chkI l).2 = p2 at *
  generalize (curI l x0).1 = p3 at *
  generalize (curI l x0).2 = p4 at *
  generalize (addI l x1).2 = p5 at *
  generalize (addI l x1).1 = zs at *
  generalize ofTo l some' l.length = os at *
  have r0 := hr.alloc (.cells #[.int .i64 x0, .int .i64 x1] 23)
  have s0 := hr'.alloc (.cells #[.int .i64 x0, .int .i64 x1] 23)
  clear hr hr'
  go_enter Try.func3, Try.ntmps3
  obtain ⟨W0, hW0⟩ : ∃ W0, W0 = w.alloc (.cells #[.int .i64 x0, .int .i64 x1] 23) := ⟨_, rfl⟩
  have x0' : Box W0 w.heap.size 23 #[.int .i64 x0, .int .i64 x1] := by rw [hW0]; exact Box.new _ _ _
  have B0 : Below w.heap.size w W0 := by rw [hW0]; exact (Below.refl _ _).alloc (Nat.le_refl _) _
  rw [← hW0] at r0 s0
  go_wp2_with fail
  rewrite [← hW0]
  clear hW0
  have k0 := x0'.cells
  refine (K1.out _ r0).mono ?_
  rintro e _ ⟨rfl, rfl⟩
  go_wp2_with fail
  refine (K2.out _ r0).mono ?_
  rintro e _ ⟨rfl, rfl⟩
  go_wp2_with fail
  refine (U1.out _ r0).mono ?_
  rintro e _ ⟨rfl, rfl⟩
  go_wp2_with fail
  refine (U2.out _ r0).mono ?_
  rintro e _ ⟨rfl, rfl⟩
  go_wp2_with fail
  refine (D1.out _ r0).mono ?_
  rintro e w1 ⟨A1, c1, rfl, _, _, ra, b1⟩
  have k1 := (x0'.later b1).cells
  have r1 := r0.below b1 (Nat.le_refl _)
  have s1 := s0.below b1 (Nat.le_refl _)
  have B1 := B0.trans (b1.mono B0.size)
  clear r0 s0 B0 k0
  go_wp2_with fail
  refine (D2.out _ r1).mono ?_
  rintro e w2 ⟨A2, c2, rfl, _, _, rb, b2⟩
  have ra := ra.below b2 (Nat.le_refl _)
  have r2 := r1.below b2 (Nat.le_refl _)
  have s2 := s1.below b2 (Nat.le_refl _)
  have B2 := B1.trans (b2.mono B1.size)
  clear r1 s1 B1 k1 b1 b2 x0'
  go_wp2_with fail
  refine (S1.out _ _ _ _ _ ra rb).mono ?_
  rintro e w3 ⟨rfl, n3, rfl⟩
  have r3 := r2.drewN n3
  have s3 := s2.drewN n3
  have B3 := below_drewN B2 n3
  clear r2 s2 B2 ra rb
  generalize w2.drewN n3 = W3 at *
  go_wp2_with fail
  refine (O1.out _ r3 s3).mono ?_
  rintro e w4 ⟨A4, c4, rfl, _, _, own4, b4⟩
  have r4 := r3.below b4 (Nat.le_refl _)
  have s4 := s3.below b4 (Nat.le_refl _)
  have B4 := B3.trans (b4.mono B3.size)
  have ra := RowAt.of_own own4
  clear r3 s3 B3 b4 own4
  go_wp2_with fail
  refine (O2.out _ r4 s4).mono ?_
  rintro e w5 ⟨A5, c5, rfl, _, _, own5, b5⟩
  have ra := ra.below b5 (Nat.le_refl _)
  have rb := RowAt.of_own own5
  have B5 := B4.trans (b5.mono B4.size)
  clear r4 s4 B4 b5 own5
  go_wp2_with fail
  refine (S2.out _ _ _ _ _ ra rb).mono ?_
  rintro e w6 ⟨rfl, n6, rfl⟩
  have B6 := below_drewN B5 n6
  clear B5 ra rb
  generalize w5.drewN n6 = W6 at *
  go_wp2_with fail
  refine (W.out _).mono ?_
  rintro e w7 ⟨rfl, b7⟩
  go_wp2
  go_ret
  exact ⟨rfl, B6.trans (b7.mono B6.size)⟩
end Go.Proofs.Ythdlcocodamlpaa
