/-
  NumOrders: the walk.
-/
import Derived.Test.YteclnbokfgebkaaZ
namespace Go.Proofs.Yteclnbokfgebkaa
open Go.RowKit

theorem drop_rev_succ (l : List Int) (k : Nat) (h : k - 1 < l.length) (h0 : 0 < k) : (l.drop (k - 1)).reverse = (l.drop k).reverse ++ [l[k - 1]] := by
  rw [List.drop_eq_getElem_cons h, List.reverse_cons, show k - 1 + 1 = k by omega]

/-- What the two net sums, turned round, may be. -/
theorem told_turn (S : Int) : ((toldI S).2 = 0 ∧ (toldI (-S)).2 = 0 ∧ (toldI (-S)).1 = -(toldI S).1 ∧ -9223372036854775807 ≤ (toldI S).1 ∧ (toldI S).1 ≤ 9223372036854775807) ∨ ((toldI S).2 = 0 ∧ (toldI (-S)).2 = 10 ∧ (toldI S).1 = -9223372036854775808) ∨
    ((toldI S).2 = 10 ∧ (toldI (-S)).2 = 0 ∧ (toldI (-S)).1 = -9223372036854775808) ∨ ((toldI S).2 = 10 ∧ (toldI (-S)).2 = 10) := by
  rcases (by omega : (-9223372036854775807 ≤ S ∧ S ≤ 9223372036854775807) ∨ S = -9223372036854775808 ∨ S = 9223372036854775808 ∨ S < -9223372036854775808 ∨ 9223372036854775808 < S) with h | h | h | h | h
  · left
    rw [toldI_in (by omega) (by omega), toldI_in (z := -S) (by omega) (by omega)]
    exact ⟨rfl, rfl, rfl, h.1, h.2⟩
  · right; left
    rw [toldI_in (by omega) (by omega), toldI_out (z := -S) (by omega)]
    exact ⟨rfl, rfl, h⟩
  · right; right; left
    rw [toldI_out (by omega), toldI_in (z := -S) (by omega) (by omega)]
    exact ⟨rfl, rfl, by show -S = _; omega⟩
  · right; right; right
    rw [toldI_out (by omega), toldI_out (z := -S) (by omega)]
    exact ⟨rfl, rfl⟩
  · right; right; right
    rw [toldI_out (by omega), toldI_out (z := -S) (by omega)]
    exact ⟨rfl, rfl⟩
theorem told_two (S : Int) : ((toldI S).2 = 0 ∧ (toldI S).1 = S ∧ -9223372036854775808 ≤ S ∧ S ≤ 9223372036854775807) ∨ (toldI S).2 = 10 := by
  rcases (by omega : (-9223372036854775808 ≤ S ∧ S ≤ 9223372036854775807) ∨ S < -9223372036854775808 ∨ 9223372036854775807 < S) with h | h
  · left
    rw [toldI_in h.1 h.2]
    exact ⟨rfl, rfl, h.1, h.2⟩
  · right
    rw [toldI_out h]

set_option maxRecDepth 100000 in
set_option maxHeartbeats 4000000 in
theorem orders_law (A : Option Addr) (c : Nat) (l : List Int) (A' : Option Addr) (c' : Nat) (m : List Int) (w : World) (hb : I64s l) (hb' : I64s m) (hr : RowAt w A (ivals l)) (hr' : RowAt w A' (ivals m)) (hm1 : l.length ≤ 9223372036854775807) (hm2 : m.length ≤ 9223372036854775807) :
    Calls Try.prog 6 #[.slice A l.length c, .slice A' m.length c'] w fun e w' => e = .returned (.bool true) ∧ Below w.heap.size w w' := by
  have W := Lib.hid fun w => awake_any w
  by_cases h1 : 200 < l.length
  · clear hr hr' hb hb'
    go_enter Try.func6, Try.ntmps6
    go_wp2_with fail
    refine (W.out _).mono ?_
    rintro e w1 ⟨rfl, b1⟩
    go_wp2
    go_ret
    exact ⟨rfl, b1⟩
  by_cases h2 : 200 < m.length
  · clear hr hr' hb hb'
    go_enter Try.func6, Try.ntmps6
    go_wp2_with fail
    refine (W.out _).mono ?_
    rintro e w1 ⟨rfl, b1⟩
    go_wp2
    go_ret
    exact ⟨rfl, b1⟩
  obtain ⟨i0, hi, hz0, hz1, hz2⟩ := info_parts Try.infoInt
  have a1 := Lib.hid hr
  have a2 := Lib.hid hr'
  have hbr : I64s l.reverse := fun x hx => hb x (List.mem_reverse.1 hx)
  have hba : I64s (l ++ m) := fun x hx => (List.mem_append.1 hx).elim (hb x) (hb' x)
  have S := Lib.hid fun w (h : RowAt w A (ivals l)) => sum_any (c := c) (by omega : l.length ≤ 10000) hb h
  have SM := Lib.hid fun w (h : RowAt w A' (ivals m)) => sum_any (c := c') (by omega : m.length ≤ 10000) hb' h
  have SR := Lib.hid fun w Av cv (h : RowAt w Av (ivals l.reverse)) => sum_any (c := cv) (by rw [List.length_reverse]; omega : l.reverse.length ≤ 10000) hbr h
  have SA := Lib.hid fun w Av cv (h : RowAt w Av (ivals (l ++ m))) => sum_any (c := cv) (by rw [List.length_append]; omega : (l ++ m).length ≤ 10000) hba h
  have NL := Lib.hid fun w (h : RowAt w A (ivals l)) => net_any (c := c) (c' := c) (by omega : l.length ≤ 10000) (by omega) hb hb h h
  have NM := Lib.hid fun w (h : RowAt w A (ivals l)) (h' : RowAt w A' (ivals m)) => net_any (c := c) (c' := c') (by omega : l.length ≤ 10000) (by omega) hb hb' h h'
  have NR := Lib.hid fun w (h : RowAt w A (ivals l)) (h' : RowAt w A' (ivals m)) => net_any (c := c') (c' := c) (by omega : m.length ≤ 10000) (by omega) hb' hb h' h
  simp only [List.length_reverse, sumI_reverse] at SR
  simp only [List.length_append, sumI_append] at SA
  simp only [Int.sub_self, toldI_in (z := 0) (by omega) (by omega)] at NL
  rw [show sumI m - sumI l = -(sumI l - sumI m) by omega] at NR
  have D1 := Lib.hid (told_turn (sumI l - sumI m))
  have D2 := Lib.hid (told_two (sumI l))
  have D3 := Lib.hid (told_two (sumI m))
  have FA := Lib.hid fun (a b : Int) w h1 h2 h3 h4 => add_any (a := a) (b := b) (w := w) h1 h2 h3 h4
  have FB := Lib.hid fun w h1 h2 h3 h4 => add_any (a := sumI l) (b := sumI m) (w := w) h1 h2 h3 h4
  clear hb hb' hbr hba
  generalize (toldI (-(sumI l - sumI m))).1 = d1 at *
  generalize (toldI (-(sumI l - sumI m))).2 = d2 at *
  generalize (toldI (sumI l - sumI m)).1 = e1 at *
  generalize (toldI (sumI l - sumI m)).2 = e2 at *
  generalize (toldI (sumI l + sumI m)).1 = z1 at *
  generalize (toldI (sumI l + sumI m)).2 = z2 at *
  go_enter Try.func6, Try.ntmps6
  go_wp2
  go_loopw [5, 6] (fun v i wr => ∃ k : Nat, k ≤ l.length ∧ i = .int .i64 (k - 1) ∧ wr.ownsRow w.heap.size 3 1 v (l.length - k) (ivals (l.drop k).reverse) ∧ Below w.heap.size w wr) (fun _ i _ => (intOf i + 1).toNat)
  case atStart => exact ⟨l.length, by omega, rfl, by rw [Nat.sub_self, List.drop_length]; exact World.ownsRow_nil _ _ _ _, Below.refl _ _⟩
  case round =>
    obtain ⟨k, hk, rfl, hown, hB⟩ := hrel
    have hsz := hB.size
    by_cases hk0 : 0 < k
    · obtain ⟨b, off, rfl, hbl, hcell⟩ := a1.out.iget (by omega)
      have g1 : wr.cell? ⟨b, off + (k - 1), none⟩ = some (.int .i64 l[k - 1]) := (hB.cell (by exact hbl)).trans (hcell (k - 1) (by omega))
      have L := Lib.hid (drop_rev_succ l k (by omega) hk0)
      have hlt : (k : Int) - 1 < (l.length : Int) := by omega
      have hge : (0 : Int) ≤ (k : Int) - 1 := by omega
      have e1 : ((k : Int) - 1).toNat = k - 1 := by omega
      have hN : l.length - k + 1 ≤ 1099511627776 := by omega
      clear hcell
      generalize l[k - 1] = x at *
      go_wp2_with (at_builtin; refine wpList_append_int rfl _ _ 27 rfl w.heap.size 3 i0 Try.underlying27 hi hz0 hz1 hz2 _ _ _ rfl hown x rfl hN hsz ?_)
      intro g3 c3 w4 hown4 hr4 hc3 hm3 hg3 hg3' hsz3
      have hb4 := hB.grown hr4 (by omega) (fun k hk => (hown.lt k hk).1)
      clear hown hr4 hB g1 e1
      go_wp2
      go_roundw
      case rel => exact ⟨k - 1, by omega, by go_num, by rw [L.out, ivals_append, show l.length - (k - 1) = l.length - k + 1 by omega]; exact hown4, hb4⟩
      case measure => simp [intOf]; omega
    · obtain rfl : k = 0 := by omega
      rw [Nat.sub_zero, List.drop_zero] at hown
      obtain ⟨Av, cv, rfl, hAv⟩ := own_form hown
      have hrow := Lib.hid (RowAt.of_own hown)
      clear hown hAv
      go_wp2_with fail
      refine (S.out _ (a1.out.below hB (Nat.le_refl _))).mono ?_
      rintro e w1 ⟨rfl, b1⟩
      have hrow1 := Lib.hid (hrow.out.below b1 (Nat.le_refl _))
      have B1 := hB.trans (b1.mono hB.size)
      go_wp2_with fail
      refine (SR.out _ _ _ hrow1.out).mono ?_
      rintro e w2 ⟨rfl, b2⟩
      have B2 := B1.trans (b2.mono B1.size)
      go_wp2_with fail
      refine (NL.out _ (a1.out.below B2 (Nat.le_refl _))).mono ?_
      rintro e w3 ⟨rfl, b3⟩
      have B3 := B2.trans (b3.mono B2.size)
      go_wp2_with fail
      refine (NM.out _ (a1.out.below B3 (Nat.le_refl _)) (a2.out.below B3 (Nat.le_refl _))).mono ?_
      rintro e w4 ⟨rfl, b4⟩
      have B4 := B3.trans (b4.mono B3.size)
      go_wp2_with fail
      refine (NR.out _ (a1.out.below B4 (Nat.le_refl _)) (a2.out.below B4 (Nat.le_refl _))).mono ?_
      rintro e w5 ⟨rfl, b5⟩
      have B5 := B4.trans (b5.mono B4.size)
      clear b1 b2 b3 b4 b5 hB B1 B2 B3 B4 hrow hrow1
      rcases D1.out with ⟨rfl, rfl, rfl, d3, d4⟩ | ⟨rfl, rfl, rfl⟩ | ⟨rfl, rfl, rfl⟩ | ⟨rfl, rfl⟩
      · have FA1 := Lib.hid fun w => FA.out e1 (-e1) w (by omega) (by omega) (by omega) (by omega)
        simp only [show e1 + -e1 = 0 by omega, toldI_in (z := 0) (by omega) (by omega)] at FA1
        go_wp2_with fail
        refine (FA1.out _).mono ?_
        rintro e _ ⟨rfl, rfl⟩
        clear d3 d4 FA1
        go_wp2_with fail
        refine (SM.out _ (a2.out.below B5 (Nat.le_refl _))).mono ?_
        rintro e w6 ⟨rfl, b6⟩
        have B6 := B5.trans (b6.mono B5.size)
        clear B5 b6
        rcases D2.out with ⟨h5, h6, h7, h8⟩ | h5
        · rcases D3.out with ⟨j5, j6, j7, j8⟩ | j5
          · have FA2 := Lib.hid fun w => FB.out w h7 h8 j7 j8
            clear h7 h8 j7 j8
            rw [h5, h6, j5, j6]
            clear h5 h6 j5 j6
            go_wp2_with fail
            refine (FA2.out _).mono ?_
            rintro e _ ⟨rfl, rfl⟩
            have R6 := a1.out.below B6 (Nat.le_refl _)
            have R6' := a2.out.below B6 (Nat.le_refl _)
            have s6 := B6.size
            go_wp2_with (at_builtin; refine wpList_append_row rfl _ _ 27 rfl w6.heap.size 3 i0 (.int .i64 0) 8 Try.underlying27 hi hz0 hz1 hz2 rfl _ 0 [] rfl (own_empty (Nat.le_refl _) rfl) A _ _ (ivals l) rfl (ivals_len l) (R6.alloc _) (ivals_one l) (by unfold maxLen; omega) (by omega) (by simp) ?_)
            intro A7 c7 w7 hown7 hr7 hs7 hg7
            have B7 : Below w6.heap.size w6 w7 := ((Below.refl _ _).alloc (Nat.le_refl _) _).grown hr7 (by simp) (by simp [Value.ownBlock])
            clear hr7 hg7
            have R7 := R6'.below B7 (Nat.le_refl _)
            go_wp2_with (at_builtin; refine wpList_append_row rfl _ _ 27 rfl w6.heap.size 3 i0 (.int .i64 0) 8 Try.underlying27 hi hz0 hz1 hz2 rfl _ _ _ rfl hown7 A' _ _ (ivals m) rfl (ivals_len m) R7 (ivals_one m) (by unfold maxLen; omega) (by omega) B7.size ?_)
            intro A8 c8 w8 hown8 hr8 hs8 hg8
            have B8 := B7.grown hr8 B7.size (fun k hk => (hown7.lt k hk).1)
            have R8 := RowAt.of_own hown8
            rw [← ivals_append] at R8
            clear hown7 hr8 hg8 R7 R6 R6' hown8 B7
            go_wp2_with fail
            refine (SA.out _ _ _ R8).mono ?_
            rintro e w9 ⟨rfl, b9⟩
            have B9 := (B6.trans (B8.mono s6)).trans (b9.mono (by have := B8.size; omega))
            clear B8 b9
            go_wp2_with fail
            refine (W.out _).mono ?_
            rintro e w10 ⟨rfl, b10⟩
            have B10 := B9.trans (b10.mono B9.size)
            go_wp2
            go_ret
            exact ⟨rfl, B10⟩
          · rw [h5, j5]
            clear h5 h6 h7 h8 j5
            go_wp2_with fail
            refine (W.out _).mono ?_
            rintro e w10 ⟨rfl, b10⟩
            have B10 := B6.trans (b10.mono B6.size)
            go_wp2
            go_ret
            exact ⟨rfl, B10⟩
        · rw [h5]
          clear h5
          go_wp2_with fail
          refine (W.out _).mono ?_
          rintro e w10 ⟨rfl, b10⟩
          have B10 := B6.trans (b10.mono B6.size)
          go_wp2
          go_ret
          exact ⟨rfl, B10⟩
      · have tok : True := trivial
        clear tok
        go_wp2_with fail
        refine (SM.out _ (a2.out.below B5 (Nat.le_refl _))).mono ?_
        rintro e w6 ⟨rfl, b6⟩
        have B6 := B5.trans (b6.mono B5.size)
        clear B5 b6
        rcases D2.out with ⟨h5, h6, h7, h8⟩ | h5
        · rcases D3.out with ⟨j5, j6, j7, j8⟩ | j5
          · have FA2 := Lib.hid fun w => FB.out w h7 h8 j7 j8
            clear h7 h8 j7 j8
            rw [h5, h6, j5, j6]
            clear h5 h6 j5 j6
            go_wp2_with fail
            refine (FA2.out _).mono ?_
            rintro e _ ⟨rfl, rfl⟩
            have R6 := a1.out.below B6 (Nat.le_refl _)
            have R6' := a2.out.below B6 (Nat.le_refl _)
            have s6 := B6.size
            go_wp2_with (at_builtin; refine wpList_append_row rfl _ _ 27 rfl w6.heap.size 3 i0 (.int .i64 0) 8 Try.underlying27 hi hz0 hz1 hz2 rfl _ 0 [] rfl (own_empty (Nat.le_refl _) rfl) A _ _ (ivals l) rfl (ivals_len l) (R6.alloc _) (ivals_one l) (by unfold maxLen; omega) (by omega) (by simp) ?_)
            intro A7 c7 w7 hown7 hr7 hs7 hg7
            have B7 : Below w6.heap.size w6 w7 := ((Below.refl _ _).alloc (Nat.le_refl _) _).grown hr7 (by simp) (by simp [Value.ownBlock])
            clear hr7 hg7
            have R7 := R6'.below B7 (Nat.le_refl _)
            go_wp2_with (at_builtin; refine wpList_append_row rfl _ _ 27 rfl w6.heap.size 3 i0 (.int .i64 0) 8 Try.underlying27 hi hz0 hz1 hz2 rfl _ _ _ rfl hown7 A' _ _ (ivals m) rfl (ivals_len m) R7 (ivals_one m) (by unfold maxLen; omega) (by omega) B7.size ?_)
            intro A8 c8 w8 hown8 hr8 hs8 hg8
            have B8 := B7.grown hr8 B7.size (fun k hk => (hown7.lt k hk).1)
            have R8 := RowAt.of_own hown8
            rw [← ivals_append] at R8
            clear hown7 hr8 hg8 R7 R6 R6' hown8 B7
            go_wp2_with fail
            refine (SA.out _ _ _ R8).mono ?_
            rintro e w9 ⟨rfl, b9⟩
            have B9 := (B6.trans (B8.mono s6)).trans (b9.mono (by have := B8.size; omega))
            clear B8 b9
            go_wp2_with fail
            refine (W.out _).mono ?_
            rintro e w10 ⟨rfl, b10⟩
            have B10 := B9.trans (b10.mono B9.size)
            go_wp2
            go_ret
            exact ⟨rfl, B10⟩
          · rw [h5, j5]
            clear h5 h6 h7 h8 j5
            go_wp2_with fail
            refine (W.out _).mono ?_
            rintro e w10 ⟨rfl, b10⟩
            have B10 := B6.trans (b10.mono B6.size)
            go_wp2
            go_ret
            exact ⟨rfl, B10⟩
        · rw [h5]
          clear h5
          go_wp2_with fail
          refine (W.out _).mono ?_
          rintro e w10 ⟨rfl, b10⟩
          have B10 := B6.trans (b10.mono B6.size)
          go_wp2
          go_ret
          exact ⟨rfl, B10⟩
      · have tok : True := trivial
        clear tok
        go_wp2_with fail
        refine (SM.out _ (a2.out.below B5 (Nat.le_refl _))).mono ?_
        rintro e w6 ⟨rfl, b6⟩
        have B6 := B5.trans (b6.mono B5.size)
        clear B5 b6
        rcases D2.out with ⟨h5, h6, h7, h8⟩ | h5
        · rcases D3.out with ⟨j5, j6, j7, j8⟩ | j5
          · have FA2 := Lib.hid fun w => FB.out w h7 h8 j7 j8
            clear h7 h8 j7 j8
            rw [h5, h6, j5, j6]
            clear h5 h6 j5 j6
            go_wp2_with fail
            refine (FA2.out _).mono ?_
            rintro e _ ⟨rfl, rfl⟩
            have R6 := a1.out.below B6 (Nat.le_refl _)
            have R6' := a2.out.below B6 (Nat.le_refl _)
            have s6 := B6.size
            go_wp2_with (at_builtin; refine wpList_append_row rfl _ _ 27 rfl w6.heap.size 3 i0 (.int .i64 0) 8 Try.underlying27 hi hz0 hz1 hz2 rfl _ 0 [] rfl (own_empty (Nat.le_refl _) rfl) A _ _ (ivals l) rfl (ivals_len l) (R6.alloc _) (ivals_one l) (by unfold maxLen; omega) (by omega) (by simp) ?_)
            intro A7 c7 w7 hown7 hr7 hs7 hg7
            have B7 : Below w6.heap.size w6 w7 := ((Below.refl _ _).alloc (Nat.le_refl _) _).grown hr7 (by simp) (by simp [Value.ownBlock])
            clear hr7 hg7
            have R7 := R6'.below B7 (Nat.le_refl _)
            go_wp2_with (at_builtin; refine wpList_append_row rfl _ _ 27 rfl w6.heap.size 3 i0 (.int .i64 0) 8 Try.underlying27 hi hz0 hz1 hz2 rfl _ _ _ rfl hown7 A' _ _ (ivals m) rfl (ivals_len m) R7 (ivals_one m) (by unfold maxLen; omega) (by omega) B7.size ?_)
            intro A8 c8 w8 hown8 hr8 hs8 hg8
            have B8 := B7.grown hr8 B7.size (fun k hk => (hown7.lt k hk).1)
            have R8 := RowAt.of_own hown8
            rw [← ivals_append] at R8
            clear hown7 hr8 hg8 R7 R6 R6' hown8 B7
            go_wp2_with fail
            refine (SA.out _ _ _ R8).mono ?_
            rintro e w9 ⟨rfl, b9⟩
            have B9 := (B6.trans (B8.mono s6)).trans (b9.mono (by have := B8.size; omega))
            clear B8 b9
            go_wp2_with fail
            refine (W.out _).mono ?_
            rintro e w10 ⟨rfl, b10⟩
            have B10 := B9.trans (b10.mono B9.size)
            go_wp2
            go_ret
            exact ⟨rfl, B10⟩
          · rw [h5, j5]
            clear h5 h6 h7 h8 j5
            go_wp2_with fail
            refine (W.out _).mono ?_
            rintro e w10 ⟨rfl, b10⟩
            have B10 := B6.trans (b10.mono B6.size)
            go_wp2
            go_ret
            exact ⟨rfl, B10⟩
        · rw [h5]
          clear h5
          go_wp2_with fail
          refine (W.out _).mono ?_
          rintro e w10 ⟨rfl, b10⟩
          have B10 := B6.trans (b10.mono B6.size)
          go_wp2
          go_ret
          exact ⟨rfl, B10⟩
      · have tok : True := trivial
        clear tok
        go_wp2_with fail
        refine (SM.out _ (a2.out.below B5 (Nat.le_refl _))).mono ?_
        rintro e w6 ⟨rfl, b6⟩
        have B6 := B5.trans (b6.mono B5.size)
        clear B5 b6
        rcases D2.out with ⟨h5, h6, h7, h8⟩ | h5
        · rcases D3.out with ⟨j5, j6, j7, j8⟩ | j5
          · have FA2 := Lib.hid fun w => FB.out w h7 h8 j7 j8
            clear h7 h8 j7 j8
            rw [h5, h6, j5, j6]
            clear h5 h6 j5 j6
            go_wp2_with fail
            refine (FA2.out _).mono ?_
            rintro e _ ⟨rfl, rfl⟩
            have R6 := a1.out.below B6 (Nat.le_refl _)
            have R6' := a2.out.below B6 (Nat.le_refl _)
            have s6 := B6.size
            go_wp2_with (at_builtin; refine wpList_append_row rfl _ _ 27 rfl w6.heap.size 3 i0 (.int .i64 0) 8 Try.underlying27 hi hz0 hz1 hz2 rfl _ 0 [] rfl (own_empty (Nat.le_refl _) rfl) A _ _ (ivals l) rfl (ivals_len l) (R6.alloc _) (ivals_one l) (by unfold maxLen; omega) (by omega) (by simp) ?_)
            intro A7 c7 w7 hown7 hr7 hs7 hg7
            have B7 : Below w6.heap.size w6 w7 := ((Below.refl _ _).alloc (Nat.le_refl _) _).grown hr7 (by simp) (by simp [Value.ownBlock])
            clear hr7 hg7
            have R7 := R6'.below B7 (Nat.le_refl _)
            go_wp2_with (at_builtin; refine wpList_append_row rfl _ _ 27 rfl w6.heap.size 3 i0 (.int .i64 0) 8 Try.underlying27 hi hz0 hz1 hz2 rfl _ _ _ rfl hown7 A' _ _ (ivals m) rfl (ivals_len m) R7 (ivals_one m) (by unfold maxLen; omega) (by omega) B7.size ?_)
            intro A8 c8 w8 hown8 hr8 hs8 hg8
            have B8 := B7.grown hr8 B7.size (fun k hk => (hown7.lt k hk).1)
            have R8 := RowAt.of_own hown8
            rw [← ivals_append] at R8
            clear hown7 hr8 hg8 R7 R6 R6' hown8 B7
            go_wp2_with fail
            refine (SA.out _ _ _ R8).mono ?_
            rintro e w9 ⟨rfl, b9⟩
            have B9 := (B6.trans (B8.mono s6)).trans (b9.mono (by have := B8.size; omega))
            clear B8 b9
            go_wp2_with fail
            refine (W.out _).mono ?_
            rintro e w10 ⟨rfl, b10⟩
            have B10 := B9.trans (b10.mono B9.size)
            go_wp2
            go_ret
            exact ⟨rfl, B10⟩
          · rw [h5, j5]
            clear h5 h6 h7 h8 j5
            go_wp2_with fail
            refine (W.out _).mono ?_
            rintro e w10 ⟨rfl, b10⟩
            have B10 := B6.trans (b10.mono B6.size)
            go_wp2
            go_ret
            exact ⟨rfl, B10⟩
        · rw [h5]
          clear h5
          go_wp2_with fail
          refine (W.out _).mono ?_
          rintro e w10 ⟨rfl, b10⟩
          have B10 := B6.trans (b10.mono B6.size)
          go_wp2
          go_ret
          exact ⟨rfl, B10⟩
end Go.Proofs.Yteclnbokfgebkaa
