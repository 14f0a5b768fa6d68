/-
  The statements of chapter 6: awake, DecimalReads, DecimalPrints, DecimalBack.
-/
import Derived.Test.YtmdflhgmlipplaaDoorDe8
namespace Go.Proofs.YtmdflhgmlipplaaDoor
open Go.RowKit

theorem dg5 : digs 5 = [5] := (digs_of (l := [5]) ⟨by intro d hd; simp at hd; omega, by intro h; simp⟩ rfl).symm
theorem dg1200 : digs 1200 = [0, 0, 2, 1] := (digs_of (l := [0, 0, 2, 1]) ⟨by intro d hd; simp at hd; omega, by intro h; simp⟩ rfl).symm
theorem pr1 : prI (-5) 2 = ([45, 48, 46, 48, 53], 0) := by
  unfold prI
  rw [if_pos (by decide)]
  unfold textZ
  rw [if_pos (by decide), show (-5 : Int).natAbs = 5 from rfl, dg5]
  decide
theorem pr2 : prI 1200 0 = ([49, 50, 48, 48], 0) := by
  unfold prI
  rw [if_pos (by decide)]
  unfold textZ
  rw [if_neg (by decide), show (1200 : Int).natAbs = 1200 from rfl, dg1200]
  decide
theorem pr3 : prI 1 7 = ([], 2) := if_neg (by decide)
theorem rd1 : rdI [45, 49, 50, 46, 51, 48] 2 = (-1230, 0) := by
  obtain ⟨h1, h2⟩ := parse_minus (d := 2) (r := [49, 50, 46, 51, 48]) (o := [49, 50, 51, 48]) (by decide) (by decide) (by decide)
  unfold rdI
  rw [if_pos (by decide)]
  show rdL 2 _ = _
  unfold rdL
  rw [if_pos h1, h2]
  decide
theorem rd2 : rdI [49, 46, 53] 2 = (0, 5) := by
  unfold rdI
  rw [if_pos (by decide)]
  show rdL 2 _ = _
  unfold rdL
  refine if_neg fun h => ?_
  obtain ⟨o, ho, _⟩ := text_plus (by decide) h
  rw [show cutP 2 [49, 46, 53] = none by decide] at ho
  cases ho
theorem rd3 : rdI [57, 57, 57, 57, 57, 57, 57, 57, 57, 57, 57, 57, 57, 57, 57, 57, 57, 57, 57, 57, 46, 57, 57] 2 = (0, 10) := by
  obtain ⟨h1, h2⟩ := parse_plus (d := 2) (s := [57, 57, 57, 57, 57, 57, 57, 57, 57, 57, 57, 57, 57, 57, 57, 57, 57, 57, 57, 57, 46, 57, 57]) (o := [57, 57, 57, 57, 57, 57, 57, 57, 57, 57, 57, 57, 57, 57, 57, 57, 57, 57, 57, 57, 57, 57]) (by decide) (by decide) (by decide)
  unfold rdI
  rw [if_pos (by decide)]
  show rdL 2 _ = _
  unfold rdL
  rw [if_pos h1, h2]
  decide
theorem parse_below (s : ByteArray) (d : Int) (w : World) (hs : s.size ≤ 100) :
    Calls Tryd.prog 12 #[.string s, .int .i64 d] w fun e w' => e = .returned (.tuple #[.int .i64 (rdI s.data.toList d).1, .int .i64 (rdI s.data.toList d).2]) ∧ Below w.heap.size w w' :=
  (parse_any s d w hs).mono fun e w' ⟨h1, n, h2⟩ => ⟨h1, by rw [← h2]; exact below_drewN (Below.refl _ _) n⟩
theorem rs1 : resI 125 2 1 = (12, 0) := by decide +kernel

set_option maxRecDepth 100000 in
set_option maxHeartbeats 2000000 in
theorem deawake_any (w : World) : Calls Tryd.prog 11 #[] w fun e w' => e = .returned (.bool true) ∧ Below w.heap.size w w' := by
  have P1 := Lib.hid fun w => print_any (-5) 2 w (by omega) (by omega)
  rw [pr1] at P1
  have P2 := Lib.hid fun w => print_any 1200 0 w (by omega) (by omega)
  rw [pr2] at P2
  have P3 := Lib.hid fun w => print_any 1 7 w (by omega) (by omega)
  rw [pr3] at P3
  have R1 := Lib.hid fun w => parse_below ⟨#[45, 49, 50, 46, 51, 48]⟩ 2 w (by decide)
  rw [show (⟨#[45, 49, 50, 46, 51, 48]⟩ : ByteArray).data.toList = [45, 49, 50, 46, 51, 48] from rfl, rd1] at R1
  have R2 := Lib.hid fun w => parse_below ⟨#[49, 46, 53]⟩ 2 w (by decide)
  rw [show (⟨#[49, 46, 53]⟩ : ByteArray).data.toList = [49, 46, 53] from rfl, rd2] at R2
  have R3 := Lib.hid fun w => parse_below ⟨#[57, 57, 57, 57, 57, 57, 57, 57, 57, 57, 57, 57, 57, 57, 57, 57, 57, 57, 57, 57, 46, 57, 57]⟩ 2 w (by decide)
  rw [show (⟨#[57, 57, 57, 57, 57, 57, 57, 57, 57, 57, 57, 57, 57, 57, 57, 57, 57, 57, 57, 57, 46, 57, 57]⟩ : ByteArray).data.toList = [57, 57, 57, 57, 57, 57, 57, 57, 57, 57, 57, 57, 57, 57, 57, 57, 57, 57, 57, 57, 46, 57, 57] from rfl, rd3] at R3
  have S1 := Lib.hid fun w => drescale_any 125 2 1 w (by omega) (by omega)
  rw [rs1] at S1
  go_enter Tryd.func11, Tryd.ntmps11
  have B0 := Below.refl w.heap.size w
  go_wp2_with fail
  refine (P1.out _).mono ?_
  rintro e w1 ⟨rfl, b1⟩
  have B1 := B0.trans (b1.mono B0.size)
  clear b1 B0
  go_wp2_with fail
  refine (P2.out _).mono ?_
  rintro e w2 ⟨rfl, b2⟩
  have B2 := B1.trans (b2.mono B1.size)
  clear b2 B1
  go_wp2_with fail
  refine (P3.out _).mono ?_
  rintro e w3 ⟨rfl, b3⟩
  have B3 := B2.trans (b3.mono B2.size)
  clear b3 B2
  go_wp2_with fail
  refine (R1.out _).mono ?_
  rintro e w4 ⟨rfl, b4⟩
  have B4 := B3.trans (b4.mono B3.size)
  clear b4 B3
  go_wp2_with fail
  refine (R2.out _).mono ?_
  rintro e w5 ⟨rfl, b5⟩
  have B5 := B4.trans (b5.mono B4.size)
  clear b5 B4
  go_wp2_with fail
  refine (R3.out _).mono ?_
  rintro e w6 ⟨rfl, b6⟩
  have B6 := B5.trans (b6.mono B5.size)
  clear b6 B5
  go_wp2_with fail
  refine (S1.out _).mono ?_
  rintro e w7 ⟨rfl, b7⟩
  have B7 := B6.trans (b7.mono B6.size)
  clear b7 B6
  go_wp2
  go_ret
  exact ⟨rfl, B7⟩

set_option maxRecDepth 100000 in
set_option maxHeartbeats 2000000 in
theorem dreads_law (s : ByteArray) (d : Int) (w : World) (hs : s.size ≤ maxLen) : Calls Tryd.prog 4 #[.string s, .int .i64 d] w fun e w' => e = .returned (.bool true) ∧ Below w.heap.size w w' := by
  have AW := Lib.hid fun w => deawake_any w
  unfold maxLen at hs
  by_cases h : 100 < s.size
  · go_enter Tryd.func4, Tryd.ntmps4
    go_wp2_with fail
    refine (AW.out _).mono ?_
    rintro e w1 ⟨rfl, b1⟩
    go_wp2
    go_ret
    exact ⟨rfl, b1⟩
  · have R1 := Lib.hid fun w => parse_below s d w (by omega)
    have R2 := Lib.hid fun w => rparse_any s d w (by omega)
    generalize rdI s.data.toList d = p at *
    go_enter Tryd.func4, Tryd.ntmps4
    have B0 := Below.refl w.heap.size w
    go_wp2_with fail
    refine (R1.out _).mono ?_
    rintro e w1 ⟨rfl, b1⟩
    have B1 := B0.trans (b1.mono B0.size)
    clear b1 B0
    go_wp2_with fail
    refine (R2.out _).mono ?_
    rintro e w2 ⟨rfl, b2⟩
    have B2 := B1.trans (b2.mono B1.size)
    clear b2 B1
    go_wp2_with fail
    refine (AW.out _).mono ?_
    rintro e w3 ⟨rfl, b3⟩
    have B3 := B2.trans (b3.mono B2.size)
    clear b3 B2
    go_wp2
    go_ret
    exact ⟨rfl, B3⟩

set_option maxRecDepth 100000 in
set_option maxHeartbeats 2000000 in
theorem dprints_law (x d0 d1 : Int) (w : World) (x1 : -9223372036854775808 ≤ x) (x2 : x ≤ 9223372036854775807) : Calls Tryd.prog 3 #[.int .i64 x, .agg #[.int .i64 d0, .int .i64 d1]] w fun e w' => e = .returned (.bool true) ∧ Below w.heap.size w w' := by
  have AW := Lib.hid fun w => deawake_any w
  have P1 := Lib.hid fun w => print_any x d0 w x1 x2
  have P2 := Lib.hid fun w => rprint_any x d0 w x1 x2
  have S1 := Lib.hid fun w => drescale_any x d0 d1 w x1 x2
  have S2 := Lib.hid fun w => rrescale_any x d0 d1 w x1 x2
  generalize prI x d0 = p at *
  generalize resI x d0 d1 = q at *
  clear x1 x2
  go_enter Tryd.func3, Tryd.ntmps3
  have B0 := Below.refl w.heap.size w
  go_wp2_with fail
  refine (P1.out _).mono ?_
  rintro e w1 ⟨rfl, b1⟩
  have x3 := (Box.new w 22 #[.int .i64 d0, .int .i64 d1]).later b1
  have b1 := below_up b1
  have B1 := B0.trans (b1.mono B0.size)
  clear b1 B0
  have k_x3 := x3.cells
  have l_x3 := x3.lt
  go_wp2_with fail
  refine (P2.out _).mono ?_
  rintro e w2 ⟨rfl, b2⟩
  replace x3 := x3.later b2
  have B2 := B1.trans (b2.mono B1.size)
  clear b2 B1
  clear k_x3 l_x3
  have k_x3 := x3.cells
  have l_x3 := x3.lt
  go_wp2_with fail
  refine (S1.out _).mono ?_
  rintro e w3 ⟨rfl, b3⟩
  replace x3 := x3.later b3
  have B3 := B2.trans (b3.mono B2.size)
  clear b3 B2
  clear k_x3 l_x3
  have k_x3 := x3.cells
  have l_x3 := x3.lt
  go_wp2_with fail
  refine (S2.out _).mono ?_
  rintro e w4 ⟨rfl, b4⟩
  replace x3 := x3.later b4
  have B4 := B3.trans (b4.mono B3.size)
  clear b4 B3
  clear k_x3 l_x3
  clear x3
  go_wp2_with fail
  refine (AW.out _).mono ?_
  rintro e w5 ⟨rfl, b5⟩
  have B5 := B4.trans (b5.mono B4.size)
  clear b5 B4
  go_wp2
  go_ret
  exact ⟨rfl, B5⟩

theorem rd_text (d : Nat) {x : Int} (x1 : -9223372036854775808 ≤ x) (x2 : x ≤ 9223372036854775807) : rdL d (textZ d x) = (x, 0) := by
  unfold rdL
  rw [zS_text, if_pos rfl]
  exact toldI_in x1 x2
theorem rd_back {d : Nat} {l : List UInt8} (h : (rdL d l).2 = 0) : textZ d (rdL d l).1 = l ∧ -9223372036854775808 ≤ (rdL d l).1 ∧ (rdL d l).1 ≤ 9223372036854775807 := by
  unfold rdL at h ⊢
  split at h
  · rename_i ht
    rw [if_pos ht]
    unfold toldI at h ⊢
    split at h
    · rename_i hr
      rw [if_pos hr]
      rw [leastI_eq, mostI_eq] at hr
      exact ⟨ht, hr.1, hr.2⟩
    · cases h
  · cases h
theorem rd_err {d : Nat} {l : List UInt8} (h : (rdL d l).2 ≠ 0) : (rdL d l).1 = 0 := by
  unfold rdL at h ⊢
  split at h
  · rename_i ht
    rw [if_pos ht]
    unfold toldI at h ⊢
    split at h
    · exact absurd rfl h
    · rename_i hr; rw [if_neg hr]
  · rename_i ht; rw [if_neg ht]
set_option maxRecDepth 100000 in
set_option maxHeartbeats 2000000 in
theorem dback_law (x : Int) (s : ByteArray) (d : Int) (w : World) (hs : s.size ≤ maxLen) (x1 : -9223372036854775808 ≤ x) (x2 : x ≤ 9223372036854775807) : Calls Tryd.prog 5 #[.int .i64 x, .string s, .int .i64 d] w fun e w' => e = .returned (.bool true) ∧ Below w.heap.size w w' := by
  have AW := Lib.hid fun w => deawake_any w
  unfold maxLen at hs
  by_cases h : d < 0 ∨ 6 < d ∨ 100 < s.size
  · rcases (by omega : d < 0 ∨ (0 ≤ d ∧ 6 < d) ∨ (0 ≤ d ∧ d ≤ 6 ∧ 100 < s.size)) with h | ⟨h1, h⟩ | ⟨h1, h2, h⟩
    all_goals
      go_enter Tryd.func5, Tryd.ntmps5
      go_wp2_with fail
      refine (AW.out _).mono ?_
      rintro e w1 ⟨rfl, b1⟩
      go_wp2
      go_ret
      exact ⟨rfl, b1⟩
  · obtain ⟨n, rfl⟩ : ∃ n : Nat, d = n := ⟨d.toNat, by omega⟩
    have hn : n ≤ 6 := by omega
    have hs2 : s.size ≤ 100 := by omega
    have hm : mayD (n : Int) = true := mayD_iff.2 (by omega)
    have P1 := Lib.hid fun w => print_any x n w x1 x2
    rw [show prI x n = (textZ n x, 0) by unfold prI; rw [if_pos hm, Int.toNat_natCast]] at P1
    have htl : (textZ n x).length ≤ 100 := Nat.le_trans (textZ_len x (by omega) hn) (by omega)
    have R1 := Lib.hid fun w => parse_below ⟨(textZ n x).toArray⟩ n w (by show (textZ n x).toArray.size ≤ 100; simpa using htl)
    rw [str_list, show rdI (textZ n x) n = (x, 0) by unfold rdI; rw [if_pos hm, Int.toNat_natCast, rd_text n x1 x2]] at R1
    have R2 := Lib.hid fun w => parse_below s n w hs2
    rw [show rdI s.data.toList n = rdL n s.data.toList by unfold rdI; rw [if_pos hm, Int.toNat_natCast]] at R2
    have hbk := rd_back (d := n) (l := s.data.toList)
    have her := rd_err (d := n) (l := s.data.toList)
    generalize textZ n x = T at *
    obtain ⟨m, hmm⟩ : ∃ m, rdL n s.data.toList = m := ⟨_, rfl⟩
    rw [hmm] at hbk her R2
    clear hmm h htl
    obtain ⟨m, e⟩ := m
    simp only at hbk her R2
    by_cases he : e = 0
    · subst he
      obtain ⟨b1, b2, b3⟩ := hbk rfl
      have P2 := Lib.hid fun w => print_any m n w b2 b3
      rw [show prI m n = (s.data.toList, 0) by unfold prI; rw [if_pos hm, Int.toNat_natCast, b1]] at P2
      have P2' : Hid (∀ w, Calls Tryd.prog 7 #[.int .i64 m, .int .i64 n] w fun e w' => e = .returned (.tuple #[.string s, .int .i64 0]) ∧ Below w.heap.size w w') := Lib.hid fun w => (P2.out w).mono fun e w' ⟨h1, h2⟩ => ⟨by rw [h1], h2⟩
      have g1 : (0 : Int) ≤ (n : Int) := by omega
      have g2 : (n : Int) ≤ 6 := by omega
      have g3 : (s.size : Int) ≤ 100 := by omega
      clear P2 her hbk b1 b2 b3 hm x1 x2 hs hs2 hn
      go_enter Tryd.func5, Tryd.ntmps5
      have B0 := Below.refl w.heap.size w
      go_wp2_with fail
      refine (P1.out _).mono ?_
      rintro e w1 ⟨rfl, b1⟩
      have B1 := B0.trans (b1.mono B0.size)
      clear b1 B0
      go_wp2_with fail
      refine (R1.out _).mono ?_
      rintro e w2 ⟨rfl, b2⟩
      have B2 := B1.trans (b2.mono B1.size)
      clear b2 B1
      go_wp2_with fail
      refine (R2.out _).mono ?_
      rintro e w3 ⟨rfl, b3⟩
      have B3 := B2.trans (b3.mono B2.size)
      clear b3 B2
      go_wp2_with fail
      refine (P2'.out _).mono ?_
      rintro e w4 ⟨rfl, b4⟩
      have B4 := B3.trans (b4.mono B3.size)
      clear b4 B3
      go_wp2_with fail
      refine (AW.out _).mono ?_
      rintro e w5 ⟨rfl, b5⟩
      have B5 := B4.trans (b5.mono B4.size)
      clear b5 B4
      go_wp2
      go_ret
      exact ⟨rfl, B5⟩
    · obtain rfl := her he
      have e0 : (e == 0) = false := beq_eq_false_iff_ne.2 he
      have e1 : (e != 0) = true := bne_iff_ne.2 he
      have g1 : (0 : Int) ≤ (n : Int) := by omega
      have g2 : (n : Int) ≤ 6 := by omega
      have g3 : (s.size : Int) ≤ 100 := by omega
      clear her hbk hm x1 x2 hs hs2 hn he
      go_enter Tryd.func5, Tryd.ntmps5
      have B0 := Below.refl w.heap.size w
      go_wp2_with fail
      refine (P1.out _).mono ?_
      rintro e w1 ⟨rfl, b1⟩
      have B1 := B0.trans (b1.mono B0.size)
      clear b1 B0
      go_wp2_with fail
      refine (R1.out _).mono ?_
      rintro e w2 ⟨rfl, b2⟩
      have B2 := B1.trans (b2.mono B1.size)
      clear b2 B1
      go_wp2_with fail
      refine (R2.out _).mono ?_
      rintro e w3 ⟨rfl, b3⟩
      have B3 := B2.trans (b3.mono B2.size)
      clear b3 B2
      go_wp2_with fail
      refine (AW.out _).mono ?_
      rintro e w4 ⟨rfl, b4⟩
      have B4 := B3.trans (b4.mono B3.size)
      clear b4 B3
      go_wp2
      go_ret
      exact ⟨rfl, B4⟩
end Go.Proofs.YtmdflhgmlipplaaDoor
