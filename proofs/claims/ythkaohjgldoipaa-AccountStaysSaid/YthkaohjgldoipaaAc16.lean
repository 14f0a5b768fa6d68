/-
  account: arguments opened; AccountTells, AccountMakes.
-/
import Derived.Test.YthkaohjgldoipaaAc15
namespace Go.Proofs.Ythkaohjgldoipaa
open Go.RowKit Go.ChangeShapes Go.WideShapes Go.ChangeAt Go.Deep

section
variable {H : Type} {enc : TypeId × Value → H} {w : World} {base : Nat} {spare : Nat → Bool} {held : Bool}
set_option maxRecDepth 100000 in
theorem acc_of {fuel : Nat} {cs : List Value} {x : DataW H × List MemPlace} (h : DataW.trod enc Try.prog w base spare held fuel 60 cs = some x) : ∃ a : Acc, cs = av a ∧ True := by
  obtain ⟨hl, hf⟩ := trod_struct_at Try.underlying60 (by kernel_rfl) (by kernel_rfl) h
  obtain ⟨p, h0, _⟩ := (hf 0 _ rfl).1 rfl
  obtain ⟨k, h1, _⟩ := (hf 1 _ rfl).1 rfl
  obtain ⟨s, h2⟩ := (hf 2 _ rfl).2 rfl
  obtain ⟨q, h3⟩ := (hf 3 _ rfl).2 rfl
  have hl : cs.length = 4 := hl
  refine ⟨⟨p, k, s, q⟩, ?_, trivial⟩
  match cs, hl with
  | [a, b, c, d], _ =>
    simp at h0 h1 h2 h3
    rw [h0, h1, h2, h3]
    rfl
set_option maxRecDepth 100000 in
theorem open_accs {t : TypeId} {v : Value} {d : DataW H} {p : List MemPlace} (ht : Try.prog.underlying t = some (.slice 60)) (hv : Value.okWide Try.prog w .any base t v) (h : DataW.Trod enc Try.prog w 0 (fun _ => true) true t v d p) :
    ∃ (A : Option Addr) (c : Nat) (l : List Acc), v = .slice A l.length c ∧ l.length ≤ c ∧ c ≤ maxLen ∧ RowC w A l := by
  obtain ⟨A, c, l, h1, h2, h3, h4, _⟩ := open_rows_arg av (fun _ => True) ht (fun _ _ _ h => acc_of h) (fun _ => (show 4 = Try.prog.cellsOf 60 by kernel_rfl)) hv h
  exact ⟨A, c, l, h1, h2, h3, h4⟩
set_option maxRecDepth 100000 in
theorem open_acc {v : Value} {d : DataW H} {p : List MemPlace} (hv : Value.okWide Try.prog w .any base 60 v) (h : DataW.Trod enc Try.prog w 0 spare held 60 v d p) :
    ∃ x : Acc, v = .agg #[.int .i64 x.p, .int .i64 x.k, .bool x.s, .bool x.q] := by
  obtain ⟨cs, rfl, _⟩ := okWide_struct Try.underlying60 hv
  obtain ⟨fuel, hf⟩ := h
  obtain ⟨x, h1, _⟩ := acc_of hf
  refine ⟨x, ?_⟩
  have h2 : cs.toList = av x := by simpa [Value.cells] using h1
  rw [show cs = (av x).toArray by rw [← h2]]
  rfl
end
theorem two_of {xs : List Int} (h : xs.length = 2) : ∃ a b, xs = [a, b] := by
  match xs, h with
  | [a, b], _ => exact ⟨a, b, rfl⟩
theorem addA_len (l : List Acc) (x : Acc) : (addA l x).1.length ≤ l.length + 1 := by
  unfold addA
  split
  · simp
  · split <;> simp
theorem moveR_len (l : List Acc) (a p : Int) : (moveR l a p).1.length ≤ l.length := by
  unfold moveR
  split
  · simp
  · split
    · simp
    · split
      · simp
      · simp [moveA_len]
section
variable {A : Option Addr} {c : Nat} {l : List Acc} {w : World}
set_option maxRecDepth 100000 in
set_option maxHeartbeats 4000000 in
theorem tells_law (a : Int) (hc : l.length ≤ c) (hr : RowC w A l) : Calls Try.prog 7 #[.slice A l.length c, .int .i64 a] w fun e w' => e = .returned (.bool true) ∧ Below w.heap.size w w' := by
  have AW := Lib.hid fun w => awake_any w
  by_cases h70 : 70 < l.length
  · clear hr
    go_enter Try.func7, Try.ntmps7
    go_wp2_with fail
    refine (AW.out _).mono ?_
    rintro e w1 ⟨rfl, b1⟩
    go_wp2
    go_ret
    exact ⟨rfl, b1⟩
  · have hm : l.length ≤ 1000000 := by omega
    have P1 := Lib.hid fun (w : World) (hr : RowC w A l) => acheck_any (c := c) hm hc hr
    have P2 := Lib.hid fun (w : World) (hr : RowC w A l) => rcheck_any (c := c) hm hr
    generalize chkA l = ck at *
    obtain ⟨ck1, ck2⟩ := ck
    have K1 := Lib.hid fun (w : World) (hr : RowC w A l) => (achildren_any (c := c) a hm hr).mono fun _ _ h => rowOf rfl h
    have K2 := Lib.hid fun (w : World) (hr : RowC w A l) => (rchildren_any (c := c) a hm hr).mono fun _ _ h => rowOf rfl h
    have zk1 := kid_len l a
    generalize kidA l a = zk at *
    have F1 := Lib.hid fun (w : World) (hr : RowC w A l) => aleafl_any (c := c) a hm hr
    have F2 := Lib.hid fun (w : World) (hr : RowC w A l) => rleaf_any (c := c) a hm hr
    generalize leafA l a = lf at *
    have L1 := Lib.hid fun (w : World) (hr : RowC w A l) => (aleavesl_any (c := c) hm hr).mono fun _ _ h => rowOf rfl h
    have L2 := Lib.hid fun (w : World) (hr : RowC w A l) => (rleaves_any (c := c) hm hr).mono fun _ _ h => rowOf rfl h
    have zl1 := leaves_len l
    generalize leavesA l = zl at *
    have U1 := Lib.hid fun (w : World) (hr : RowC w A l) => (aupl_any (c := c) a hm hr).mono fun _ _ h => rowOf rfl h
    have U2 := Lib.hid fun (w : World) (hr : RowC w A l) => (rup_any (c := c) a hm hr).mono fun _ _ h => rowOf rfl h
    have zu1 := upA_len l a
    generalize upA l a = zu at *
    have D1 := Lib.hid fun (w : World) (hr : RowC w A l) => (aundera_any (c := c) a hm hr).mono fun _ _ h => rowOf rfl h
    have D2 := Lib.hid fun (w : World) (hr : RowC w A l) => (runder_any (c := c) a hm hr).mono fun _ _ h => rowOf rfl h
    have zd1 := und_len l a
    generalize undA l a = zd at *
    have SS := Lib.hid same_self
    go_enter Try.func7, Try.ntmps7
    have B0 := Below.refl w.heap.size w
    go_wp2_with fail
    refine (P1.out _ hr).mono ?_
    rintro e w1 ⟨rfl, b1⟩
    replace hr := hr.below b1 (Nat.le_refl _)
    have B1 := B0.trans (b1.mono B0.size)
    clear b1 B0
    go_wp2_with fail
    refine (P2.out _ hr).mono ?_
    rintro e w2 ⟨rfl, b2⟩
    replace hr := hr.below b2 (Nat.le_refl _)
    have B2 := B1.trans (b2.mono B1.size)
    clear b2 B1
    go_wp2_with fail
    refine (K1.out _ hr).mono ?_
    rintro e w3 ⟨A1, c1, rfl, H1, b3⟩
    replace hr := hr.below b3 (Nat.le_refl _)
    have B3 := B2.trans (b3.mono B2.size)
    clear b3 B2
    go_wp2_with fail
    refine (K2.out _ hr).mono ?_
    rintro e w4 ⟨B1, e1, rfl, J1, b4⟩
    replace hr := hr.below b4 (Nat.le_refl _)
    replace H1 := H1.below b4 (Nat.le_refl _)
    have B4 := B3.trans (b4.mono B3.size)
    clear b4 B3
    go_wp2_with fail
    refine (SS.out zk _ rfl (by omega) _ _ _ _ _ H1 J1).mono ?_
    rintro e w5 ⟨rfl, b5⟩
    clear H1 J1
    replace hr := hr.below b5 (Nat.le_refl _)
    have B5 := B4.trans (b5.mono B4.size)
    clear b5 B4
    go_wp2_with fail
    refine (F1.out _ hr).mono ?_
    rintro e w6 ⟨rfl, b6⟩
    replace hr := hr.below b6 (Nat.le_refl _)
    have B6 := B5.trans (b6.mono B5.size)
    clear b6 B5
    go_wp2_with fail
    refine (F2.out _ hr).mono ?_
    rintro e w7 ⟨rfl, b7⟩
    replace hr := hr.below b7 (Nat.le_refl _)
    have B7 := B6.trans (b7.mono B6.size)
    clear b7 B6
    go_wp2_with fail
    refine (L1.out _ hr).mono ?_
    rintro e w8 ⟨A2, c2, rfl, H2, b8⟩
    replace hr := hr.below b8 (Nat.le_refl _)
    have B8 := B7.trans (b8.mono B7.size)
    clear b8 B7
    go_wp2_with fail
    refine (L2.out _ hr).mono ?_
    rintro e w9 ⟨B2, e2, rfl, J2, b9⟩
    replace hr := hr.below b9 (Nat.le_refl _)
    replace H2 := H2.below b9 (Nat.le_refl _)
    have B9 := B8.trans (b9.mono B8.size)
    clear b9 B8
    go_wp2_with fail
    refine (SS.out zl _ rfl (by omega) _ _ _ _ _ H2 J2).mono ?_
    rintro e w10 ⟨rfl, b10⟩
    clear H2 J2
    replace hr := hr.below b10 (Nat.le_refl _)
    have B10 := B9.trans (b10.mono B9.size)
    clear b10 B9
    go_wp2_with fail
    refine (U1.out _ hr).mono ?_
    rintro e w11 ⟨A3, c3, rfl, H3, b11⟩
    replace hr := hr.below b11 (Nat.le_refl _)
    have B11 := B10.trans (b11.mono B10.size)
    clear b11 B10
    go_wp2_with fail
    refine (U2.out _ hr).mono ?_
    rintro e w12 ⟨B3, e3, rfl, J3, b12⟩
    replace hr := hr.below b12 (Nat.le_refl _)
    replace H3 := H3.below b12 (Nat.le_refl _)
    have B12 := B11.trans (b12.mono B11.size)
    clear b12 B11
    go_wp2_with fail
    refine (SS.out zu _ rfl (by omega) _ _ _ _ _ H3 J3).mono ?_
    rintro e w13 ⟨rfl, b13⟩
    clear H3 J3
    replace hr := hr.below b13 (Nat.le_refl _)
    have B13 := B12.trans (b13.mono B12.size)
    clear b13 B12
    go_wp2_with fail
    refine (D1.out _ hr).mono ?_
    rintro e w14 ⟨A4, c4, rfl, H4, b14⟩
    replace hr := hr.below b14 (Nat.le_refl _)
    have B14 := B13.trans (b14.mono B13.size)
    clear b14 B13
    go_wp2_with fail
    refine (D2.out _ hr).mono ?_
    rintro e w15 ⟨B4, e4, rfl, J4, b15⟩
    replace hr := hr.below b15 (Nat.le_refl _)
    replace H4 := H4.below b15 (Nat.le_refl _)
    have B15 := B14.trans (b15.mono B14.size)
    clear b15 B14
    go_wp2_with fail
    refine (SS.out zd _ rfl (by omega) _ _ _ _ _ H4 J4).mono ?_
    rintro e w16 ⟨rfl, b16⟩
    clear H4 J4
    replace hr := hr.below b16 (Nat.le_refl _)
    have B16 := B15.trans (b16.mono B15.size)
    clear b16 B15
    go_wp2_with fail
    refine (AW.out _).mono ?_
    rintro e w17 ⟨rfl, b17⟩
    replace hr := hr.below b17 (Nat.le_refl _)
    have B17 := B16.trans (b17.mono B16.size)
    clear b17 B16
    clear hr
    go_wp2
    go_ret
    exact ⟨rfl, B17⟩

theorem same_rows (m : List Acc) (hm : m.length ≤ 1000000) (A : Option Addr) (c : Nat) (A' : Option Addr) (c' : Nat) (w : World) (hr : RowC w A m) (hr' : RowC w A' m) :
    Calls Try.prog 44 #[.slice A m.length c, .slice A' m.length c'] w fun e w' => e = .returned (.bool true) ∧ Below w.heap.size w w' := by
  have h := rsame_any (c := c) (c' := c') hm hm hr hr'
  rw [decide_eq_true rfl] at h
  exact h
set_option maxRecDepth 100000 in
set_option maxHeartbeats 4000000 in
theorem makes_law (x : Acc) (n0 n1 : Int) (hr : RowC w A l) : Calls Try.prog 8 #[.slice A l.length c, .agg #[.int .i64 x.p, .int .i64 x.k, .bool x.s, .bool x.q], .agg #[.int .i64 n0, .int .i64 n1]] w fun e w' => e = .returned (.bool true) ∧ Below w.heap.size w w' := by
  have AW := Lib.hid fun w => awake_any w
  by_cases h70 : 70 < l.length
  · clear hr
    go_enter Try.func8, Try.ntmps8
    go_wp2_with fail
    refine (AW.out _).mono ?_
    rintro e w1 ⟨rfl, b1⟩
    go_wp2
    go_ret
    exact ⟨rfl, below_up (below_up b1)⟩
  · have hm : l.length ≤ 1000000 := by omega
    have P1 := Lib.hid fun (w : World) (hr : RowC w A l) => aadd_any (c := c) x hm hr
    have P2 := Lib.hid fun (w : World) (hr : RowC w A l) => radd_any (c := c) x hm hr
    have h1 := addA_len l x
    have SA := Lib.hid (same_rows (addA l x).1 (by omega))
    have M1 := Lib.hid fun (w : World) (hr : RowC w A l) => amove_any (c := c) n0 n1 hm hr
    have M2 := Lib.hid fun (w : World) (hr : RowC w A l) => rmove_any (c := c) n0 n1 hm hr
    have h2 := moveR_len l n0 n1
    have SM := Lib.hid (same_rows (moveR l n0 n1).1 (by omega))
    generalize addA l x = ad at *
    generalize moveR l n0 n1 = mo at *
    obtain ⟨ad1, ad2⟩ := ad
    obtain ⟨mo1, mo2⟩ := mo
    dsimp only at SA SM
    go_enter Try.func8, Try.ntmps8
    have B0 := Below.refl w.heap.size w
    have hr4 := (hr.alloc (.cells #[.int .i64 x.p, .int .i64 x.k, .bool x.s, .bool x.q] 60)).alloc (.cells #[.int .i64 n0, .int .i64 n1] 61)
    clear hr
    have x4 := (Box.new w 60 #[.int .i64 x.p, .int .i64 x.k, .bool x.s, .bool x.q]).alloc (.cells #[.int .i64 n0, .int .i64 n1] 61)
    have x5 : Box ((w.alloc (.cells #[.int .i64 x.p, .int .i64 x.k, .bool x.s, .bool x.q] 60)).alloc (.cells #[.int .i64 n0, .int .i64 n1] 61)) (w.heap.size + 1) 61 #[.int .i64 n0, .int .i64 n1] := Box.new' (by simp)
    have B1 : Below w.heap.size w ((w.alloc (.cells #[.int .i64 x.p, .int .i64 x.k, .bool x.s, .bool x.q] 60)).alloc (.cells #[.int .i64 n0, .int .i64 n1] 61)) := (B0.alloc (Nat.le_refl _) _).alloc (by simp) _
    clear B0
    have k4 := x4.cells
    have k5 := x5.cells
    have l4 := x4.lt
    have l5 := x5.lt
    go_wp2_with fail
    refine (P1.out _ hr4).mono ?_
    rintro e w1 ⟨A1, c1, rfl, _, _, H1, b1⟩
    replace hr4 := hr4.below b1 (Nat.le_refl _)
    replace x4 := x4.later b1
    replace x5 := x5.later b1
    have B2 := B1.trans (b1.mono B1.size)
    clear b1 B1
    clear k4 k5 l4 l5
    have k4 := x4.cells
    have k5 := x5.cells
    have l4 := x4.lt
    have l5 := x5.lt
    go_wp2_with fail
    refine (P2.out _ hr4).mono ?_
    rintro e w2 ⟨A2, c2, rfl, _, _, H2, b2⟩
    replace hr4 := hr4.below b2 (Nat.le_refl _)
    replace x4 := x4.later b2
    replace x5 := x5.later b2
    replace H1 := H1.below b2 (Nat.le_refl _)
    have B3 := B2.trans (b2.mono B2.size)
    clear b2 B2
    clear k4 k5 l4 l5
    have k4 := x4.cells
    have k5 := x5.cells
    have l4 := x4.lt
    have l5 := x5.lt
    go_wp2_with fail
    refine (M1.out _ hr4).mono ?_
    rintro e w3 ⟨A3, c3, rfl, _, _, H3, b3⟩
    replace hr4 := hr4.below b3 (Nat.le_refl _)
    replace x4 := x4.later b3
    replace x5 := x5.later b3
    replace H1 := H1.below b3 (Nat.le_refl _)
    replace H2 := H2.below b3 (Nat.le_refl _)
    have B4 := B3.trans (b3.mono B3.size)
    clear b3 B3
    clear k4 k5 l4 l5
    have k4 := x4.cells
    have k5 := x5.cells
    have l4 := x4.lt
    have l5 := x5.lt
    go_wp2_with fail
    refine (M2.out _ hr4).mono ?_
    rintro e w4 ⟨A4, c4, rfl, _, _, H4, b4⟩
    replace hr4 := hr4.below b4 (Nat.le_refl _)
    replace x4 := x4.later b4
    replace x5 := x5.later b4
    replace H1 := H1.below b4 (Nat.le_refl _)
    replace H2 := H2.below b4 (Nat.le_refl _)
    replace H3 := H3.below b4 (Nat.le_refl _)
    have B5 := B4.trans (b4.mono B4.size)
    clear b4 B4
    clear k4 k5 l4 l5
    go_wp2_with fail
    refine (SA.out _ _ _ _ _ H1 H2).mono ?_
    rintro e w5 ⟨rfl, b5⟩
    clear H1 H2
    replace hr4 := hr4.below b5 (Nat.le_refl _)
    replace x4 := x4.later b5
    replace x5 := x5.later b5
    replace H3 := H3.below b5 (Nat.le_refl _)
    replace H4 := H4.below b5 (Nat.le_refl _)
    have B6 := B5.trans (b5.mono B5.size)
    clear b5 B5
    go_wp2_with fail
    refine (SM.out _ _ _ _ _ H3 H4).mono ?_
    rintro e w6 ⟨rfl, b6⟩
    clear H3 H4
    replace hr4 := hr4.below b6 (Nat.le_refl _)
    replace x4 := x4.later b6
    replace x5 := x5.later b6
    have B7 := B6.trans (b6.mono B6.size)
    clear b6 B6
    go_wp2_with fail
    refine (AW.out _).mono ?_
    rintro e w7 ⟨rfl, b7⟩
    replace hr4 := hr4.below b7 (Nat.le_refl _)
    replace x4 := x4.later b7
    replace x5 := x5.later b7
    have B8 := B7.trans (b7.mono B7.size)
    clear b7 B7
    clear hr4 x4 x5
    go_wp2
    go_ret
    exact ⟨rfl, B8⟩
end
end Go.Proofs.Ythkaohjgldoipaa
