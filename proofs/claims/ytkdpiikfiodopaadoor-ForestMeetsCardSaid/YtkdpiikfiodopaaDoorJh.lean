/-
  The document's forest: Children, Under, Roots, Meet, Held.
-/
import Derived.Test.YtkdpiikfiodopaaDoorJg
import Derived.Test.YtkdpiikfiodopaaDoorJb
import Derived.Test.YtkdpiikfiodopaaDoorSame
namespace Go.Proofs.YtkdpiikfiodopaaDoor
open Go.RowKit

section
variable {w : World} {A : Option Addr} {c : Nat} {l : List Stk} {n : Nat} {q : Int}

set_option maxRecDepth 100000 in
set_option maxHeartbeats 2000000 in
theorem rchil_any (x : Int) (hm : l.length ≤ 1000000) (hn : n ≤ 40) (ho : Out n (parL l q)) (hr : RowT w A l) : Calls Tryd.prog 28 #[.agg #[.slice A l.length c, .int .i64 n, .int .i64 q], .int .i64 x] w (NewRow ((upto n).filter (fun i => isN n x && (parL l q i == x))) w) := by
  obtain ⟨i0, hi, hz0, hz1, hz2⟩ := info_parts Tryd.infoInt'
  have BN : Below w.heap.size w (w.alloc (.cells #[.slice A l.length c, .int .i64 n, .int .i64 q] 46)) := (Below.refl _ _).alloc (Nat.le_refl _) _
  have x2 : Box (w.alloc (.cells #[.slice A l.length c, .int .i64 n, .int .i64 q] 46)) w.heap.size 46 #[.slice A l.length c, .int .i64 n, .int .i64 q] := Box.new _ _ _
  have R := Lib.hid hr
  have PA := Lib.hid fun (x : Int) (w : World) (hr : RowT w A l) => rpa_out (c := c) (n := n) x hm ho hr
  have IS := Lib.hid fun w => ris_any (A := A) (c := c) (l := l) (n := n) (q := q) x w
  obtain ⟨p, hp⟩ : ∃ p : Int → Bool, p = (fun i => isN n x && (parL l q i == x)) := ⟨_, rfl⟩
  have hpi : Hid (∀ i, p i = ((fun i => isN n x && (parL l q i == x))) i) := fun i => by rw [hp]
  rw [← hp]
  clear hp hr
  go_enter Tryd.func28, Tryd.ntmps28
  go_wp2
  go_loopw [5, 6] (fun o t wr => ∃ (k : Nat) (A' : Option Addr) (c' : Nat), 1 ≤ k ∧ k ≤ n + 1 ∧ o = .slice A' ((upto (k - 1)).filter p).length c' ∧ t = .int .i64 k ∧ ((upto (k - 1)).filter p).length ≤ c' ∧ c' ≤ maxLen ∧ wr.ownsRow (w.heap.size + 1) 3 1 (.slice A' ((upto (k - 1)).filter p).length c') ((upto (k - 1)).filter p).length (ivals ((upto (k - 1)).filter p)) ∧ Box wr w.heap.size 46 #[.slice A l.length c, .int .i64 n, .int .i64 q] ∧ Below w.heap.size w wr ∧ w.heap.size + 1 ≤ wr.heap.size)
    (fun _ t _ => n + 1 - (intOf t).toNat)
  case atStart => exact ⟨1, none, 0, by omega, by omega, rfl, rfl, by simp [upto], by unfold maxLen; omega, World.ownsRow_nil _ _ _ _, x2, BN, x2.lt⟩
  case round =>
    obtain ⟨k, A', c', hk1, hk, rfl, rfl, hl, hmx, hown, y2, hb, hw1⟩ := hrel
    have k2 := y2.cells
    have l2 := y2.lt
    by_cases hkn : k ≤ n
    · have hst := Lib.hid (flt_step p hk1)
      have hlen := flt_len p (k - 1)
      have hpk := hpi.out k
      generalize (upto (k - 1)).filter p = out at *
      clear x2 BN
      cases hx : isN n x
      · have hq : p k = false := by rw [hpk]; simp [hx]
        have IS1 := IS.out wr
        rw [hx] at IS1
        have IS1' := Lib.hid IS1
        clear IS1 hx hpk
        go_wp2_with fail
        refine (IS1'.out).mono ?_
        rintro e w2 ⟨rfl, b1⟩
        replace hown := own_below hown b1 (Nat.le_refl _)
        replace y2 := y2.later b1
        replace hb := hb.trans (b1.mono hb.size)
        replace hw1 := Nat.le_trans hw1 b1.size
        clear b1 k2 l2
        have k2 := y2.cells
        have l2 := y2.lt
        rw [hq, if_neg (by decide), List.append_nil] at hst
        clear hq
        go_wp2
        go_roundw
        case rel => exact ⟨k + 1, A', c', by omega, by omega, by rw [show k + 1 - 1 = k by omega, hst.out], by go_num, by rw [show k + 1 - 1 = k by omega, hst.out]; exact hl, hmx, by rw [show k + 1 - 1 = k by omega, hst.out]; exact hown, y2, hb, hw1⟩
        case measure => simp [intOf]; omega
      · have IS1 := IS.out wr
        rw [hx] at IS1
        have IS1' := Lib.hid IS1
        have hpk' : p k = (parL l q k == x) := by rw [hpk]; simp [hx]
        clear IS1 hx hpk
        cases hq : p k
        · have hy : (parL l q k == x) = false := by rw [← hpk', hq]
          clear hpk'
          have PA1 := Lib.hid fun (w : World) (hr : RowT w A l) => PA.out k w hr
          generalize parL l q k = y at *
          go_wp2_with fail
          refine (IS1'.out).mono ?_
          rintro e w2 ⟨rfl, b1⟩
          replace hown := own_below hown b1 (Nat.le_refl _)
          replace y2 := y2.later b1
          replace hb := hb.trans (b1.mono hb.size)
          replace hw1 := Nat.le_trans hw1 b1.size
          clear b1 k2 l2
          have k2 := y2.cells
          have l2 := y2.lt
          go_wp2_with fail
          refine (PA1.out _ (R.out.later hb)).mono ?_
          rintro e w3 ⟨rfl, b1⟩
          replace hown := own_below hown b1 (Nat.le_refl _)
          replace y2 := y2.later b1
          replace hb := hb.trans (b1.mono hb.size)
          replace hw1 := Nat.le_trans hw1 b1.size
          clear b1 k2 l2
          have k2 := y2.cells
          have l2 := y2.lt
          rw [hq, if_neg (by decide), List.append_nil] at hst
          clear hq
          go_wp2
          go_roundw
          case rel => exact ⟨k + 1, A', c', by omega, by omega, by rw [show k + 1 - 1 = k by omega, hst.out], by go_num, by rw [show k + 1 - 1 = k by omega, hst.out]; exact hl, hmx, by rw [show k + 1 - 1 = k by omega, hst.out]; exact hown, y2, hb, hw1⟩
          case measure => simp [intOf]; omega
        · have hy : (parL l q k == x) = true := by rw [← hpk', hq]
          clear hpk'
          have PA1 := Lib.hid fun (w : World) (hr : RowT w A l) => PA.out k w hr
          generalize parL l q k = y at *
          go_wp2_with fail
          refine (IS1'.out).mono ?_
          rintro e w2 ⟨rfl, b1⟩
          replace hown := own_below hown b1 (Nat.le_refl _)
          replace y2 := y2.later b1
          replace hb := hb.trans (b1.mono hb.size)
          replace hw1 := Nat.le_trans hw1 b1.size
          clear b1 k2 l2
          have k2 := y2.cells
          have l2 := y2.lt
          go_wp2_with fail
          refine (PA1.out _ (R.out.later hb)).mono ?_
          rintro e w3 ⟨rfl, b1⟩
          replace hown := own_below hown b1 (Nat.le_refl _)
          replace y2 := y2.later b1
          replace hb := hb.trans (b1.mono hb.size)
          replace hw1 := Nat.le_trans hw1 b1.size
          clear b1 k2 l2
          have k2 := y2.cells
          have l2 := y2.lt
          rw [hq, if_pos rfl] at hst
          clear hq
          have hN : out.length + 1 ≤ 1099511627776 := by omega
          go_wp2_with (at_builtin; refine wpList_append_int rfl _ _ 37 rfl (w.heap.size + 1) 3 i0 Tryd.underlying37 hi hz0 hz1 hz2 _ _ _ rfl hown (k : Int) rfl hN hw1 ?_)
          intro g3' c3 w4 hown4 hr4 hc3 hm3 hg3 hg3' hsz3
          have hb4 := hb.grown hr4 hb.size (fun k hk => by have := (hown.lt k hk).1; omega)
          have y4 := y2.grown hr4 (fun h => by have := (hown.lt _ h.symm).1; omega)
          clear hown hr4 hb y2 k2 l2
          go_wp2
          go_roundw
          case rel => exact ⟨k + 1, some ⟨g3', 0, none⟩, c3, by omega, by omega, by rw [show k + 1 - 1 = k by omega, hst.out]; simp, by go_num, by rw [show k + 1 - 1 = k by omega, hst.out]; simp; exact hc3, hm3, by rw [show k + 1 - 1 = k by omega, hst.out, ivals_append, List.length_append]; exact hown4, y4, hb4, by omega⟩
          case measure => simp [intOf]; omega
    · obtain rfl : k = n + 1 := by omega
      rw [show n + 1 - 1 = n by omega] at hown hl ⊢
      generalize (upto n).filter p = out at *
      have hown' := own_base hown (Nat.le_succ w.heap.size)
      clear hown x2 BN
      go_wp2
      go_ret
      exact ⟨A', c', rfl, hl, hmx, hown', hb⟩

set_option maxRecDepth 100000 in
set_option maxHeartbeats 2000000 in
theorem runder_any (x : Int) (hm : l.length ≤ 1000000) (hn : n ≤ 40) (ht : Tree n (parL l q)) (ho : Out n (parL l q)) (hr : RowT w A l) : Calls Tryd.prog 32 #[.agg #[.slice A l.length c, .int .i64 n, .int .i64 q], .int .i64 x] w (NewRow ((upto n).filter (fun i => isN n x && aeq (parL l q) x i)) w) := by
  obtain ⟨i0, hi, hz0, hz1, hz2⟩ := info_parts Tryd.infoInt'
  have BN : Below w.heap.size w (w.alloc (.cells #[.slice A l.length c, .int .i64 n, .int .i64 q] 46)) := (Below.refl _ _).alloc (Nat.le_refl _) _
  have x2 : Box (w.alloc (.cells #[.slice A l.length c, .int .i64 n, .int .i64 q] 46)) w.heap.size 46 #[.slice A l.length c, .int .i64 n, .int .i64 q] := Box.new _ _ _
  have R := Lib.hid hr
  have AB := Lib.hid fun (top x : Int) (w : World) (hr : RowT w A l) => rabo_any (c := c) (n := n) top x hm ht ho hr
  obtain ⟨p, hp⟩ : ∃ p : Int → Bool, p = (fun i => isN n x && aeq (parL l q) x i) := ⟨_, rfl⟩
  have hpi : Hid (∀ i, p i = ((fun i => isN n x && aeq (parL l q) x i)) i) := fun i => by rw [hp]
  rw [← hp]
  clear hp hr
  go_enter Tryd.func32, Tryd.ntmps32
  go_wp2
  go_loopw [5, 6] (fun o t wr => ∃ (k : Nat) (A' : Option Addr) (c' : Nat), 1 ≤ k ∧ k ≤ n + 1 ∧ o = .slice A' ((upto (k - 1)).filter p).length c' ∧ t = .int .i64 k ∧ ((upto (k - 1)).filter p).length ≤ c' ∧ c' ≤ maxLen ∧ wr.ownsRow (w.heap.size + 1) 3 1 (.slice A' ((upto (k - 1)).filter p).length c') ((upto (k - 1)).filter p).length (ivals ((upto (k - 1)).filter p)) ∧ Box wr w.heap.size 46 #[.slice A l.length c, .int .i64 n, .int .i64 q] ∧ Below w.heap.size w wr ∧ w.heap.size + 1 ≤ wr.heap.size)
    (fun _ t _ => n + 1 - (intOf t).toNat)
  case atStart => exact ⟨1, none, 0, by omega, by omega, rfl, rfl, by simp [upto], by unfold maxLen; omega, World.ownsRow_nil _ _ _ _, x2, BN, x2.lt⟩
  case round =>
    obtain ⟨k, A', c', hk1, hk, rfl, rfl, hl, hmx, hown, y2, hb, hw1⟩ := hrel
    have k2 := y2.cells
    have l2 := y2.lt
    by_cases hkn : k ≤ n
    · have hst := Lib.hid (flt_step p hk1)
      have hlen := flt_len p (k - 1)
      have hpk := hpi.out k
      generalize (upto (k - 1)).filter p = out at *
      clear x2 BN
      have AB1 := AB.out x k wr (R.out.later hb)
      rw [show (isN n x && isN n k && aeq (parL l q) x k) = p k by rw [hpk]; simp [isN_iff.2 (show 1 ≤ (k : Int) ∧ (k : Int) ≤ n by omega)]] at AB1
      clear hpk
      cases hq : p k
      · rw [hq] at AB1
        have AB2 := Lib.hid AB1
        clear AB1
        go_wp2_with fail
        refine (AB2.out).mono ?_
        rintro e w2 ⟨rfl, b1⟩
        replace hown := own_below hown b1 (Nat.le_refl _)
        replace y2 := y2.later b1
        replace hb := hb.trans (b1.mono hb.size)
        replace hw1 := Nat.le_trans hw1 b1.size
        clear b1 k2 l2
        have k2 := y2.cells
        have l2 := y2.lt
        rw [hq, if_neg (by decide), List.append_nil] at hst
        clear hq
        go_wp2
        go_roundw
        case rel => exact ⟨k + 1, A', c', by omega, by omega, by rw [show k + 1 - 1 = k by omega, hst.out], by go_num, by rw [show k + 1 - 1 = k by omega, hst.out]; exact hl, hmx, by rw [show k + 1 - 1 = k by omega, hst.out]; exact hown, y2, hb, hw1⟩
        case measure => simp [intOf]; omega
      · rw [hq] at AB1
        have AB2 := Lib.hid AB1
        clear AB1
        go_wp2_with fail
        refine (AB2.out).mono ?_
        rintro e w2 ⟨rfl, b1⟩
        replace hown := own_below hown b1 (Nat.le_refl _)
        replace y2 := y2.later b1
        replace hb := hb.trans (b1.mono hb.size)
        replace hw1 := Nat.le_trans hw1 b1.size
        clear b1 k2 l2
        have k2 := y2.cells
        have l2 := y2.lt
        rw [hq, if_pos rfl] at hst
        clear hq
        have hN : out.length + 1 ≤ 1099511627776 := by omega
        go_wp2_with (at_builtin; refine wpList_append_int rfl _ _ 37 rfl (w.heap.size + 1) 3 i0 Tryd.underlying37 hi hz0 hz1 hz2 _ _ _ rfl hown (k : Int) rfl hN hw1 ?_)
        intro g3' c3 w4 hown4 hr4 hc3 hm3 hg3 hg3' hsz3
        have hb4 := hb.grown hr4 hb.size (fun k hk => by have := (hown.lt k hk).1; omega)
        have y4 := y2.grown hr4 (fun h => by have := (hown.lt _ h.symm).1; omega)
        clear hown hr4 hb y2 k2 l2
        go_wp2
        go_roundw
        case rel => exact ⟨k + 1, some ⟨g3', 0, none⟩, c3, by omega, by omega, by rw [show k + 1 - 1 = k by omega, hst.out]; simp, by go_num, by rw [show k + 1 - 1 = k by omega, hst.out]; simp; exact hc3, hm3, by rw [show k + 1 - 1 = k by omega, hst.out, ivals_append, List.length_append]; exact hown4, y4, hb4, by omega⟩
        case measure => simp [intOf]; omega
    · obtain rfl : k = n + 1 := by omega
      rw [show n + 1 - 1 = n by omega] at hown hl ⊢
      generalize (upto n).filter p = out at *
      have hown' := own_base hown (Nat.le_succ w.heap.size)
      clear hown x2 BN
      go_wp2
      go_ret
      exact ⟨A', c', rfl, hl, hmx, hown', hb⟩

set_option maxRecDepth 100000 in
set_option maxHeartbeats 2000000 in
theorem rroots_any (hm : l.length ≤ 1000000) (hn : n ≤ 40) (ho : Out n (parL l q)) (hr : RowT w A l) : Calls Tryd.prog 34 #[.agg #[.slice A l.length c, .int .i64 n, .int .i64 q]] w (NewRow ((upto n).filter (fun i => (parL l q i == 0))) w) := by
  obtain ⟨i0, hi, hz0, hz1, hz2⟩ := info_parts Tryd.infoInt'
  have BN : Below w.heap.size w (w.alloc (.cells #[.slice A l.length c, .int .i64 n, .int .i64 q] 46)) := (Below.refl _ _).alloc (Nat.le_refl _) _
  have x2 : Box (w.alloc (.cells #[.slice A l.length c, .int .i64 n, .int .i64 q] 46)) w.heap.size 46 #[.slice A l.length c, .int .i64 n, .int .i64 q] := Box.new _ _ _
  have R := Lib.hid hr
  have PA := Lib.hid fun (x : Int) (w : World) (hr : RowT w A l) => rpa_out (c := c) (n := n) x hm ho hr
  obtain ⟨p, hp⟩ : ∃ p : Int → Bool, p = (fun i => (parL l q i == 0)) := ⟨_, rfl⟩
  have hpi : Hid (∀ i, p i = ((fun i => (parL l q i == 0))) i) := fun i => by rw [hp]
  rw [← hp]
  clear hp hr
  go_enter Tryd.func34, Tryd.ntmps34
  go_wp2
  go_loopw [3, 4] (fun o t wr => ∃ (k : Nat) (A' : Option Addr) (c' : Nat), 1 ≤ k ∧ k ≤ n + 1 ∧ o = .slice A' ((upto (k - 1)).filter p).length c' ∧ t = .int .i64 k ∧ ((upto (k - 1)).filter p).length ≤ c' ∧ c' ≤ maxLen ∧ wr.ownsRow (w.heap.size + 1) 3 1 (.slice A' ((upto (k - 1)).filter p).length c') ((upto (k - 1)).filter p).length (ivals ((upto (k - 1)).filter p)) ∧ Box wr w.heap.size 46 #[.slice A l.length c, .int .i64 n, .int .i64 q] ∧ Below w.heap.size w wr ∧ w.heap.size + 1 ≤ wr.heap.size)
    (fun _ t _ => n + 1 - (intOf t).toNat)
  case atStart => exact ⟨1, none, 0, by omega, by omega, rfl, rfl, by simp [upto], by unfold maxLen; omega, World.ownsRow_nil _ _ _ _, x2, BN, x2.lt⟩
  case round =>
    obtain ⟨k, A', c', hk1, hk, rfl, rfl, hl, hmx, hown, y2, hb, hw1⟩ := hrel
    have k2 := y2.cells
    have l2 := y2.lt
    by_cases hkn : k ≤ n
    · have hst := Lib.hid (flt_step p hk1)
      have hlen := flt_len p (k - 1)
      have hpk := hpi.out k
      generalize (upto (k - 1)).filter p = out at *
      clear x2 BN
      have PA1 := Lib.hid fun (w : World) (hr : RowT w A l) => PA.out k w hr
      cases hq : p k
      · have hy : (parL l q k == 0) = false := by rw [← hq, hpk]
        clear hpk
        generalize parL l q k = y at *
        go_wp2_with fail
        refine (PA1.out _ (R.out.later hb)).mono ?_
        rintro e w2 ⟨rfl, b1⟩
        replace hown := own_below hown b1 (Nat.le_refl _)
        replace y2 := y2.later b1
        replace hb := hb.trans (b1.mono hb.size)
        replace hw1 := Nat.le_trans hw1 b1.size
        clear b1 k2 l2
        have k2 := y2.cells
        have l2 := y2.lt
        rw [hq, if_neg (by decide), List.append_nil] at hst
        clear hq
        go_wp2
        go_roundw
        case rel => exact ⟨k + 1, A', c', by omega, by omega, by rw [show k + 1 - 1 = k by omega, hst.out], by go_num, by rw [show k + 1 - 1 = k by omega, hst.out]; exact hl, hmx, by rw [show k + 1 - 1 = k by omega, hst.out]; exact hown, y2, hb, hw1⟩
        case measure => simp [intOf]; omega
      · have hy : (parL l q k == 0) = true := by rw [← hq, hpk]
        clear hpk
        generalize parL l q k = y at *
        go_wp2_with fail
        refine (PA1.out _ (R.out.later hb)).mono ?_
        rintro e w2 ⟨rfl, b1⟩
        replace hown := own_below hown b1 (Nat.le_refl _)
        replace y2 := y2.later b1
        replace hb := hb.trans (b1.mono hb.size)
        replace hw1 := Nat.le_trans hw1 b1.size
        clear b1 k2 l2
        have k2 := y2.cells
        have l2 := y2.lt
        rw [hq, if_pos rfl] at hst
        clear hq
        have hN : out.length + 1 ≤ 1099511627776 := by omega
        go_wp2_with (at_builtin; refine wpList_append_int rfl _ _ 37 rfl (w.heap.size + 1) 3 i0 Tryd.underlying37 hi hz0 hz1 hz2 _ _ _ rfl hown (k : Int) rfl hN hw1 ?_)
        intro g3' c3 w4 hown4 hr4 hc3 hm3 hg3 hg3' hsz3
        have hb4 := hb.grown hr4 hb.size (fun k hk => by have := (hown.lt k hk).1; omega)
        have y4 := y2.grown hr4 (fun h => by have := (hown.lt _ h.symm).1; omega)
        clear hown hr4 hb y2 k2 l2
        go_wp2
        go_roundw
        case rel => exact ⟨k + 1, some ⟨g3', 0, none⟩, c3, by omega, by omega, by rw [show k + 1 - 1 = k by omega, hst.out]; simp, by go_num, by rw [show k + 1 - 1 = k by omega, hst.out]; simp; exact hc3, hm3, by rw [show k + 1 - 1 = k by omega, hst.out, ivals_append, List.length_append]; exact hown4, y4, hb4, by omega⟩
        case measure => simp [intOf]; omega
    · obtain rfl : k = n + 1 := by omega
      rw [show n + 1 - 1 = n by omega] at hown hl ⊢
      generalize (upto n).filter p = out at *
      have hown' := own_base hown (Nat.le_succ w.heap.size)
      clear hown x2 BN
      go_wp2
      go_ret
      exact ⟨A', c', rfl, hl, hmx, hown', hb⟩

theorem ch_eq (f : Int → Int) (x : Int) : (upto n).filter (fun i => isN n x && (f i == x)) = chI n f x := by
  unfold chI
  cases isN n x
  · simp
  · simp
theorem un_eq (f : Int → Int) (x : Int) : (upto n).filter (fun i => isN n x && aeq f x i) = unI n f x := by
  unfold unI
  cases isN n x
  · simp
  · simp
end
end Go.Proofs.YtkdpiikfiodopaaDoor
/-
  The document's forest: Meet, Held.
-/
namespace Go.Proofs.YtkdpiikfiodopaaDoor
open Go.RowKit

/-- Is one, an entity, at or above another one? -/
def abv (n : Nat) (f : Int → Int) (t x : Int) : Bool := isN n t && isN n x && aeq f t x
def mrB (n : Nat) (f : Int → Int) (a b : Int) : Nat → Int
  | 0 => 0
  | k + 1 => if (abv n f ((k : Int) + 1) a && abv n f ((k : Int) + 1) b && (mrB n f a b k == 0 || abv n f (mrB n f a b k) ((k : Int) + 1))) = true then (k : Int) + 1 else mrB n f a b k
theorem mrB_step (n : Nat) (f : Int → Int) (a b : Int) {k : Nat} (hk : 1 ≤ k) : mrB n f a b k = if (abv n f k a && abv n f k b && (mrB n f a b (k - 1) == 0 || abv n f (mrB n f a b (k - 1)) k)) = true then (k : Int) else mrB n f a b (k - 1) := by
  obtain ⟨j, rfl⟩ : ∃ j, k = j + 1 := ⟨k - 1, by omega⟩
  rw [show j + 1 - 1 = j by omega, show ((j + 1 : Nat) : Int) = (j : Int) + 1 by omega]
  rfl
theorem mrB_none {n : Nat} {f : Int → Int} {a b : Int} (h : ¬ (isN n a = true ∧ isN n b = true)) (k : Nat) : mrB n f a b k = 0 := by
  induction k with
  | zero => rfl
  | succ k ih =>
    rw [mrB, ih]
    split
    · rename_i h1
      unfold abv at h1
      simp only [Bool.and_eq_true] at h1
      exact absurd ⟨h1.1.1.1.2, h1.1.2.1.2⟩ h
    · rfl
theorem mrB_meet {n : Nat} {f : Int → Int} {a b : Int} (ha : isN n a = true) (hb : isN n b = true) (k : Nat) (hk : k ≤ n) : mrB n f a b k = meetR k f a b ∧ (mrB n f a b k = 0 ∨ isN n (mrB n f a b k) = true) := by
  induction k with
  | zero => exact ⟨rfl, .inl rfl⟩
  | succ k ih =>
    obtain ⟨h1, h2⟩ := ih (by omega)
    have hi : isN n ((k : Int) + 1) = true := isN_iff.2 (by omega)
    have e : ((abv n f ((k : Int) + 1) a && abv n f ((k : Int) + 1) b && (mrB n f a b k == 0 || abv n f (mrB n f a b k) ((k : Int) + 1))) = true) ↔ (aeq f ((k : Int) + 1) a = true ∧ aeq f ((k : Int) + 1) b = true ∧ (mrB n f a b k = 0 ∨ aeq f (mrB n f a b k) ((k : Int) + 1) = true)) := by
      unfold abv
      rw [ha, hb, hi]
      simp only [Bool.and_true, Bool.true_and, Bool.and_eq_true, Bool.or_eq_true, beq_iff_eq, and_assoc]
      constructor
      · rintro ⟨g1, g2, g3⟩
        exact ⟨g1, g2, g3.imp id fun g => g.2⟩
      · rintro ⟨g1, g2, g3⟩
        refine ⟨g1, g2, ?_⟩
        rcases g3 with g3 | g3
        · exact .inl g3
        · rcases h2 with h2 | h2
          · exact .inl h2
          · exact .inr ⟨h2, g3⟩
    rw [meetR_succ, mrB]
    unfold meetS
    rw [← h1]
    by_cases hc : aeq f ((k : Int) + 1) a = true ∧ aeq f ((k : Int) + 1) b = true ∧ (mrB n f a b k = 0 ∨ aeq f (mrB n f a b k) ((k : Int) + 1) = true)
    · rw [if_pos (e.2 hc), if_pos hc]
      exact ⟨rfl, .inr hi⟩
    · rw [if_neg (fun h => hc (e.1 h)), if_neg hc]
      exact ⟨rfl, h2⟩
theorem mrB_all {n : Nat} {f : Int → Int} (ht : Tree n f) (a b : Int) : mrB n f a b n = meI n f a b := by
  unfold meI
  by_cases h : isN n a = true ∧ isN n b = true
  · rw [if_pos h, (mrB_meet h.1 h.2 n (Nat.le_refl _)).1, ht.meet_same (isN_iff.1 h.1)]
  · rw [if_neg h, mrB_none h]

section
variable {w : World} {A : Option Addr} {c : Nat} {l : List Stk} {n : Nat} {q : Int}
set_option maxRecDepth 100000 in
set_option maxHeartbeats 2000000 in
theorem rmeet_any (a b : Int) (hm : l.length ≤ 1000000) (hn : n ≤ 40) (ht : Tree n (parL l q)) (ho : Out n (parL l q)) (hr : RowT w A l) : Calls Tryd.prog 39 #[.agg #[.slice A l.length c, .int .i64 n, .int .i64 q], .int .i64 a, .int .i64 b] w fun e w' => e = .returned (.int .i64 (meI n (parL l q) a b)) ∧ Below w.heap.size w w' := by
  have BN : Below w.heap.size w (w.alloc (.cells #[.slice A l.length c, .int .i64 n, .int .i64 q] 46)) := (Below.refl _ _).alloc (Nat.le_refl _) _
  have x2 : Box (w.alloc (.cells #[.slice A l.length c, .int .i64 n, .int .i64 q] 46)) w.heap.size 46 #[.slice A l.length c, .int .i64 n, .int .i64 q] := Box.new _ _ _
  have R := Lib.hid hr
  have AB := Lib.hid fun (top x : Int) (w : World) (hr : RowT w A l) => rabo_any (c := c) (n := n) top x hm ht ho hr
  have HM := Lib.hid (mrB_all ht a b)
  generalize meI n (parL l q) a b = res at *
  clear hr
  go_enter Tryd.func39, Tryd.ntmps39
  go_wp2
  go_loopw [7, 8] (fun o t wr => ∃ k : Nat, 1 ≤ k ∧ k ≤ n + 1 ∧ o = .int .i64 (mrB n (parL l q) a b (k - 1)) ∧ t = .int .i64 k ∧ Box wr w.heap.size 46 #[.slice A l.length c, .int .i64 n, .int .i64 q] ∧ Below w.heap.size w wr) (fun _ t _ => n + 1 - (intOf t).toNat)
  case atStart => exact ⟨1, by omega, by omega, rfl, rfl, x2, BN⟩
  case round =>
    obtain ⟨k, hk1, hk, rfl, rfl, y2, hb⟩ := hrel
    have k2 := y2.cells
    have l2 := y2.lt
    by_cases hkn : k ≤ n
    · have hst := mrB_step n (parL l q) a b hk1
      have A1 := Lib.hid fun (w : World) (hr : RowT w A l) => AB.out k a w hr
      have A2 := Lib.hid fun (w : World) (hr : RowT w A l) => AB.out k b w hr
      have A3 := Lib.hid fun (w : World) (hr : RowT w A l) => AB.out (mrB n (parL l q) a b (k - 1)) k w hr
      simp only [show ∀ t x, (isN n t && isN n x && aeq (parL l q) t x) = abv n (parL l q) t x from fun _ _ => rfl] at A1 A2 A3
      generalize mrB n (parL l q) a b (k - 1) = bs at *
      clear AB x2 BN
      generalize abv n (parL l q) k a = r1 at *
      generalize abv n (parL l q) k b = r2 at *
      generalize abv n (parL l q) bs k = r3 at *
      cases r1
      · rw [if_neg (by simp)] at hst
        go_wp2_with fail
        refine (A1.out _ (R.out.later hb)).mono ?_
        rintro e w2 ⟨rfl, b1⟩
        replace y2 := y2.later b1
        replace hb := hb.trans (b1.mono hb.size)
        clear b1 k2 l2
        have k2 := y2.cells
        have l2 := y2.lt
        have HS := Lib.hid hst
        clear hst
        go_wp2
        go_roundw
        case rel => exact ⟨k + 1, by omega, by omega, by rw [show k + 1 - 1 = k by omega, HS.out], by go_num, y2, hb⟩
        case measure => simp [intOf]; omega
      · cases r2
        · rw [if_neg (by simp)] at hst
          go_wp2_with fail
          refine (A1.out _ (R.out.later hb)).mono ?_
          rintro e w2 ⟨rfl, b1⟩
          replace y2 := y2.later b1
          replace hb := hb.trans (b1.mono hb.size)
          clear b1 k2 l2
          have k2 := y2.cells
          have l2 := y2.lt
          go_wp2_with fail
          refine (A2.out _ (R.out.later hb)).mono ?_
          rintro e w3 ⟨rfl, b1⟩
          replace y2 := y2.later b1
          replace hb := hb.trans (b1.mono hb.size)
          clear b1 k2 l2
          have k2 := y2.cells
          have l2 := y2.lt
          have HS := Lib.hid hst
          clear hst
          go_wp2
          go_roundw
          case rel => exact ⟨k + 1, by omega, by omega, by rw [show k + 1 - 1 = k by omega, HS.out], by go_num, y2, hb⟩
          case measure => simp [intOf]; omega
        · cases hz : (bs == 0)
          · cases r3
            · rw [hz, if_neg (by simp)] at hst
              go_wp2_with fail
              refine (A1.out _ (R.out.later hb)).mono ?_
              rintro e w2 ⟨rfl, b1⟩
              replace y2 := y2.later b1
              replace hb := hb.trans (b1.mono hb.size)
              clear b1 k2 l2
              have k2 := y2.cells
              have l2 := y2.lt
              go_wp2_with fail
              refine (A2.out _ (R.out.later hb)).mono ?_
              rintro e w3 ⟨rfl, b1⟩
              replace y2 := y2.later b1
              replace hb := hb.trans (b1.mono hb.size)
              clear b1 k2 l2
              have k2 := y2.cells
              have l2 := y2.lt
              go_wp2_with fail
              refine (A3.out _ (R.out.later hb)).mono ?_
              rintro e w4 ⟨rfl, b1⟩
              replace y2 := y2.later b1
              replace hb := hb.trans (b1.mono hb.size)
              clear b1 k2 l2
              have k2 := y2.cells
              have l2 := y2.lt
              have HS := Lib.hid hst
              clear hst
              go_wp2
              go_roundw
              case rel => exact ⟨k + 1, by omega, by omega, by rw [show k + 1 - 1 = k by omega, HS.out], by go_num, y2, hb⟩
              case measure => simp [intOf]; omega
            · rw [hz, if_pos (by simp)] at hst
              go_wp2_with fail
              refine (A1.out _ (R.out.later hb)).mono ?_
              rintro e w2 ⟨rfl, b1⟩
              replace y2 := y2.later b1
              replace hb := hb.trans (b1.mono hb.size)
              clear b1 k2 l2
              have k2 := y2.cells
              have l2 := y2.lt
              go_wp2_with fail
              refine (A2.out _ (R.out.later hb)).mono ?_
              rintro e w3 ⟨rfl, b1⟩
              replace y2 := y2.later b1
              replace hb := hb.trans (b1.mono hb.size)
              clear b1 k2 l2
              have k2 := y2.cells
              have l2 := y2.lt
              go_wp2_with fail
              refine (A3.out _ (R.out.later hb)).mono ?_
              rintro e w4 ⟨rfl, b1⟩
              replace y2 := y2.later b1
              replace hb := hb.trans (b1.mono hb.size)
              clear b1 k2 l2
              have k2 := y2.cells
              have l2 := y2.lt
              have HS := Lib.hid hst
              clear hst
              go_wp2
              go_roundw
              case rel => exact ⟨k + 1, by omega, by omega, by rw [show k + 1 - 1 = k by omega, HS.out], by go_num, y2, hb⟩
              case measure => simp [intOf]; omega
          · rw [hz, if_pos (by simp)] at hst
            go_wp2_with fail
            refine (A1.out _ (R.out.later hb)).mono ?_
            rintro e w2 ⟨rfl, b1⟩
            replace y2 := y2.later b1
            replace hb := hb.trans (b1.mono hb.size)
            clear b1 k2 l2
            have k2 := y2.cells
            have l2 := y2.lt
            go_wp2_with fail
            refine (A2.out _ (R.out.later hb)).mono ?_
            rintro e w3 ⟨rfl, b1⟩
            replace y2 := y2.later b1
            replace hb := hb.trans (b1.mono hb.size)
            clear b1 k2 l2
            have k2 := y2.cells
            have l2 := y2.lt
            have HS := Lib.hid hst
            clear hst
            go_wp2
            go_roundw
            case rel => exact ⟨k + 1, by omega, by omega, by rw [show k + 1 - 1 = k by omega, HS.out], by go_num, y2, hb⟩
            case measure => simp [intOf]; omega
    · obtain rfl : k = n + 1 := by omega
      rw [show n + 1 - 1 = n by omega, HM.out]
      clear x2 BN
      go_wp2
      go_ret
      exact ⟨rfl, hb⟩

set_option maxRecDepth 100000 in
set_option maxHeartbeats 2000000 in
theorem rheld_any (top x : Int) (hm : l.length ≤ 1000000) (hn : n ≤ 40) (ht : Tree n (parL l q)) (ho : Out n (parL l q)) (hr : RowT w A l) : Calls Tryd.prog 37 #[.agg #[.slice A l.length c, .int .i64 n, .int .i64 q], .int .i64 top, .int .i64 x] w fun e w' => e = .returned (.tuple #[.agg #[.int .i64 (heI n (parL l q) (shaL l q) top x).1.1, .int .i64 (heI n (parL l q) (shaL l q) top x).1.2], .int .i64 (heI n (parL l q) (shaL l q) top x).2]) ∧ Below w.heap.size w w' := by
  obtain ⟨i0, hi, hz0, hz1, hz2⟩ := info_parts Tryd.infoInt'
  have BN : Below w.heap.size w ((w.alloc (.cells #[.slice A l.length c, .int .i64 n, .int .i64 q] 46)).alloc (.cells #[.int .i64 0, .int .i64 0] 23)) := ((Below.refl _ _).alloc (Nat.le_refl _) _).alloc (by simp) _
  have x3 : Box ((w.alloc (.cells #[.slice A l.length c, .int .i64 n, .int .i64 q] 46)).alloc (.cells #[.int .i64 0, .int .i64 0] 23)) w.heap.size 46 #[.slice A l.length c, .int .i64 n, .int .i64 q] := (Box.new _ _ _).alloc _
  have x6 : Box ((w.alloc (.cells #[.slice A l.length c, .int .i64 n, .int .i64 q] 46)).alloc (.cells #[.int .i64 0, .int .i64 0] 23)) (w.heap.size + 1) 23 #[.int .i64 0, .int .i64 0] := Box.new' (by simp)
  have R := Lib.hid hr
  have AB := fun (w : World) (hr : RowT w A l) => rabo_any (c := c) (n := n) top x hm ht ho hr
  unfold heI
  by_cases hh : isN n top = true ∧ isN n x = true ∧ aeq (parL l q) top x = true
  · rw [if_pos hh]
    rw [show (isN n top && isN n x && aeq (parL l q) top x) = true by rw [hh.1, hh.2.1, hh.2.2]; rfl] at AB
    have AB' := Lib.hid AB
    have h30 := Lib.hid hh.2.2
    have h20 := Lib.hid hh.2.1
    have hlen := shU_len ht (shaL l q) top x
    obtain ⟨tot, htot⟩ : ∃ t, t = shU (parL l q) (shaL l q) top x := ⟨_, rfl⟩
    rw [← htot] at hlen ⊢
    have I0 : Hid (tot = [] ++ shU (parL l q) (shaL l q) top x) := htot
    have PA := Lib.hid fun (x : Int) (w : World) (hr : RowT w A l) => rpa_out (c := c) (n := n) x hm ho hr
    have SA := Lib.hid fun (x : Int) (w : World) (hr : RowT w A l) => rsh_any (c := c) (n := n) (q := q) x hm hr
    have CH := Lib.hid fun (A : Option Addr) (c : Nat) (l : List Int) (w : World) (hm : l.length ≤ 1000000) (hr : RowAt w A (ivals l)) => r5chain_any (A := A) (c := c) hm hr
    clear htot hh AB hr
    go_enter Tryd.func37, Tryd.ntmps37
    go_wp2_with fail
    refine (AB'.out _ (R.out.later BN)).mono ?_
    rintro e w1 ⟨rfl, b1⟩
    replace x3 := x3.later b1
    replace x6 := x6.later b1
    replace BN := BN.trans (b1.mono BN.size)
    clear b1 AB'
    have l6 := x6.lt
    have l3 := x3.lt
    go_wp2
    go_loopw [8, 9] (fun o t wr => ∃ (out : List Int) (a : Int) (A' : Option Addr) (c' : Nat), o = .slice A' out.length c' ∧ t = .int .i64 a ∧ Hid (tot = out ++ shU (parL l q) (shaL l q) top a) ∧ Hid (aeq (parL l q) top a = true) ∧ Hid (isN n a = true) ∧ out.length ≤ c' ∧ c' ≤ maxLen ∧ wr.ownsRow w1.heap.size 3 1 (.slice A' out.length c') out.length (ivals out) ∧ Below w1.heap.size w1 wr)
      (fun o _ _ => tot.length + 1 - lenS o)
    case atStart => exact ⟨[], x, none, 0, rfl, rfl, I0, h30, h20, by simp, by unfold maxLen; omega, World.ownsRow_nil _ _ _ _, Below.refl _ _⟩
    case round =>
      clear h20 h30 I0
      obtain ⟨out, a, A', c', rfl, rfl, hI, hA, hN0, hl, hmx, hown, hb⟩ := hrel
      have hbw := BN.trans (hb.mono BN.size)
      by_cases ha : a = top
      · subst ha
        have HE : tot = out := by have := hI.out; rw [shU_top, List.append_nil] at this; exact this
        subst HE
        have HC := Lib.hid (CH.out A' c' tot wr (by omega) (RowAt.of_own hown))
        have y6 := x6.later hb
        clear hI hA hN0 CH hown
        go_wp2_with fail
        refine HC.out.mono ?_
        rintro e w2 ⟨rfl, b2⟩
        replace y6 := y6.later b2
        have B2 := hbw.trans (b2.mono hbw.size)
        have k6 := y6.cells
        have f6 := y6.free
        have l62 := y6.lt
        clear hb hbw BN b2 x3 l3
        go_wp2
        refine bodyPost_ret (by unfold results; simp only [Tryd.results37]; go_simp; rfl) rfl ?_
        exact ⟨rfl, (B2.setCell (by simp) _).setCell (by simp) _⟩
      · have ha' : (a != top) = true := by simpa using ha
        obtain ⟨hs1, hs2, hs3⟩ := shU_step ht (shaL l q) ha hA.out
        have HI : Hid (tot = (out ++ [shaL l q a]) ++ shU (parL l q) (shaL l q) top (parL l q a)) := Lib.hid (by rw [hI.out, hs1]; simp)
        have HA2 := Lib.hid hs2
        have HN2 : Hid (isN n (parL l q a) = true) := Lib.hid (isN_iff.2 (by have := ht.rng a; omega))
        have hlt : out.length + 1 ≤ tot.length := by have := congrArg List.length hI.out; rw [hs1] at this; simp at this; omega
        have SAa := SA.out a wr (R.out.later hbw)
        rw [hN0.out, if_pos rfl] at SAa
        have SA1 := Lib.hid SAa
        have hN : out.length + 1 ≤ 1099511627776 := by omega
        have y3 := x3.later hb
        have k3 := y3.cells
        have ly3 := y3.lt
        clear hI hA hN0 hs1 hs2 hs3 ha SAa
        generalize shaL l q a = sa at *
        go_wp2_with fail
        refine SA1.out.mono ?_
        rintro e w2 ⟨rfl, b2⟩
        replace hown := own_below hown b2 (Nat.le_refl _)
        replace hb := hb.trans (b2.mono hb.size)
        clear b2 y3 k3 ly3
        have hsz := hb.size
        go_wp2_with (at_builtin; refine wpList_append_int rfl _ _ 37 rfl w1.heap.size 3 i0 Tryd.underlying37 hi hz0 hz1 hz2 _ _ _ rfl hown sa rfl hN hsz ?_)
        intro g3 c3 w4 hown4 hr4 hc3 hm3 hg3 hg3' hsz3
        have hb4 := hb.grown hr4 hsz (fun k hk => (hown.lt k hk).1)
        have y3 := x3.later hb4
        have k3 := y3.cells
        have ly3 := y3.lt
        clear hown hr4 hb hbw
        go_wp2_with fail
        refine (PA.out _ _ (R.out.later (BN.trans (hb4.mono BN.size)))).mono ?_
        rintro e w5 ⟨rfl, b5⟩
        have hown5 := own_below hown4 b5 (Nat.le_refl _)
        have hb5 := hb4.trans (b5.mono hb4.size)
        clear b5 hb4 hown4 y3 k3 ly3
        generalize parL l q a = a1 at *
        go_wp2
        go_roundw
        case rel => exact ⟨out ++ [sa], a1, some ⟨g3, 0, none⟩, c3, by simp, rfl, HI, HA2, HN2, by simp; exact hc3, hm3, by rw [ivals_append, List.length_append]; exact hown5, hb5⟩
        case measure => simp [lenS]; omega
  · rw [if_neg hh]
    rw [show (isN n top && isN n x && aeq (parL l q) top x) = false by
      cases h1 : isN n top <;> cases h2 : isN n x <;> cases h3 : aeq (parL l q) top x <;> first | rfl | exact absurd ⟨h1, h2, h3⟩ hh] at AB
    have AB' := Lib.hid AB
    clear hh AB hr
    go_enter Tryd.func37, Tryd.ntmps37
    go_wp2_with fail
    refine (AB'.out _ (R.out.later BN)).mono ?_
    rintro e w1 ⟨rfl, b1⟩
    replace x6 := x6.later b1
    replace BN := BN.trans (b1.mono BN.size)
    have k6 := x6.cells
    have f6 := x6.free
    have l6 := x6.lt
    clear b1 AB' x3
    go_wp2
    refine bodyPost_ret (by unfold results; simp only [Tryd.results37]; go_simp; rfl) rfl ?_
    exact ⟨rfl, (BN.setCell (by simp) _).setCell (by simp) _⟩
end
end Go.Proofs.YtkdpiikfiodopaaDoor
/-
  Chapter 19: four, Few, awake.
-/
namespace Go.Proofs.YtkdpiikfiodopaaDoor
open Go.RowKit

theorem chk_out {l : List Stk} {n : Nat} (h : (chkL l n).2 = 0) (q : Int) : Out n (parL l q) := by
  intro x hx
  refine par_none fun s hs he => ?_
  unfold chkL at h
  split at h
  · cases h
  · obtain ⟨i, hi, rfl⟩ := List.getElem_of_mem hs
    have h2 := chkG_all (k := 0) (Nat.zero_le _) h i (Nat.zero_le _) hi
    have h3 := (lastS_ok h2).1
    rw [isN_iff.2 ⟨by omega, by omega⟩] at hx
    cases hx
/-- 1 holds 2 and 3, 2 holds 4. -/
def l4 : List Stk := [⟨2, 1, 8000, 0⟩, ⟨3, 1, 10000, 0⟩, ⟨4, 2, 5000, 0⟩]
theorem chk4 : (chkL l4 (5 : Nat)).2 = 0 := by decide +kernel
theorem tree4 : Tree 5 (parL l4 0) := (chk_tree (l := l4) (n := 5) (by decide) chk4 (q := 0) (by decide)).1
theorem out4 : Out 5 (parL l4 0) := chk_out chk4 0
theorem v1 : parL l4 0 4 = 2 := by decide +kernel
theorem v2 : (if isN 5 2 = true then shaL l4 0 2 else 0) = 8000 := by decide +kernel
theorem v3 : chI 5 (parL l4 0) 1 = [2, 3] := by decide +kernel
theorem v4 : up (parL l4 0) 4 = [2, 1] := by decide +kernel
theorem v5 : unI 5 (parL l4 0) 2 = [2, 4] := by decide +kernel
theorem v6 : rtI 5 (parL l4 0) = [1, 5] := by decide +kernel
theorem v7 : meI 5 (parL l4 0) 4 3 = 1 := by decide +kernel
theorem v8 : meI 5 (parL l4 0) 4 5 = 0 := by decide +kernel
theorem v9 : heI 5 (parL l4 0) (shaL l4 0) 1 4 = ((2, 5), 0) := by decide +kernel
theorem v10 : heI 5 (parL l4 0) (shaL l4 0) 3 4 = ((0, 0), 20) := by decide +kernel
theorem v11 : atE l4 3 0 = 20 := by decide +kernel
theorem v12 : atE l4 4 24 = 22 := by decide +kernel

set_option maxHeartbeats 1000000 in
theorem four_any (w : World) : Calls Tryd.prog 61 #[] w fun e w' => ∃ a, e = .returned (.slice (some a) 3 3) ∧ RowT w' (some a) l4 ∧ Below w.heap.size w w' := by
  go_enter Tryd.func61, Tryd.ntmps61
  go_wp2
  go_ret
  refine ⟨⟨w.heap.size, 0, none⟩, rfl, ?_, (Below.refl _ _).alloc (Nat.le_refl _) _⟩
  refine RowAt.of_cells fun j u hj => ?_
  rw [addr_add, Nat.zero_add]
  exact ((Box.new _ _ _).cells j).trans (by rw [List.getElem?_toArray]; exact hj)
theorem few_any (A : Option Addr) (c : Nat) (k : Nat) (n : Int) (w : World) : Calls Tryd.prog 35 #[.slice A k c, .int .i64 n] w fun e w' => e = .returned (.bool (decide (k ≤ 20) && decide (n ≤ 10))) ∧ w = w' := by
  by_cases h : k ≤ 20
  · rw [decide_eq_true h, Bool.true_and]
    go_enter Tryd.func35, Tryd.ntmps35
    go_wp2
    go_ret
    exact ⟨rfl, rfl⟩
  · rw [decide_eq_false h, Bool.false_and]
    go_enter Tryd.func35, Tryd.ntmps35
    go_wp2
    go_ret
    exact ⟨rfl, rfl⟩

theorem rowOf {w w' : World} {zs : List Int} {k : Nat} {e : Ending} (hk : zs.length = k) (h : NewRow zs w e w') : ∃ A c, e = .returned (.slice A k c) ∧ RowAt w' A (ivals zs) ∧ Below w.heap.size w w' := by
  obtain ⟨A, c, h1, _, _, h4, h5⟩ := h
  exact ⟨A, c, by rw [← hk]; exact h1, RowAt.of_own h4, h5⟩
theorem row2 (w : World) (a b : Int) : RowAt (w.alloc (.cells #[.int .i64 a, .int .i64 b] 3)) (some ⟨w.heap.size, 0, none⟩) (ivals [a, b]) := by
  refine RowAt.of_cells fun j u hj => ?_
  rw [addr_add, Nat.zero_add]
  exact ((Box.new _ _ _).cells j).trans (by rw [List.getElem?_toArray]; exact hj)
theorem same_below (A : Option Addr) (c : Nat) (xs : List Int) (A' : Option Addr) (c' : Nat) (ys : List Int) (w : World) (hm : xs.length ≤ maxLen) (hm' : ys.length ≤ maxLen) (hr : RowAt w A (ivals xs)) (hr' : RowAt w A' (ivals ys)) :
    Calls Tryd.prog 26 #[.slice A xs.length c, .slice A' ys.length c'] w fun e w' => e = .returned (.bool (decide (xs = ys))) ∧ Below w.heap.size w w' :=
  (sameInts_any A c xs A' c' ys w hm hm' hr hr').mono fun _ _ ⟨h1, n, h2⟩ => ⟨h1, h2 ▸ below_drewN (Below.refl _ _) n⟩
theorem same2 (a b : Int) (A : Option Addr) (c : Nat) (A' : Option Addr) (c' : Nat) (w : World) (hr : RowAt w A (ivals [a, b])) (hr' : RowAt w A' (ivals [a, b])) :
    Calls Tryd.prog 26 #[.slice A 2 c, .slice A' 2 c'] w fun e w' => e = .returned (.bool true) ∧ Below w.heap.size w w' := by
  have h := same_below A c [a, b] A' c' [a, b] w (by simp [maxLen]) (by simp [maxLen]) hr hr'
  rw [decide_eq_true rfl] at h
  exact h

set_option maxRecDepth 100000 in
set_option maxHeartbeats 4000000 in
theorem foawake_any (w : World) (T : Tb w) : Calls Tryd.prog 19 #[] w fun e w' => e = .returned (.bool true) ∧ Below w.heap.size w w' := by
  have FR := Lib.hid four_any
  have AT := Lib.hid fun (a : Addr) (w : World) (hr : RowT w (some a) l4) => fat_fill (A := some a) (c := 3) (l := l4) (n := 5) (q := 0) (by decide) (by decide) (by decide) (by decide) (by decide) (by decide) hr chk4
  have E1 := Lib.hid fun (a : Addr) (w : World) (hr : RowT w (some a) l4) => fat_err (A := some a) (c := 3) (l := l4) (n := 3) (q := 0) (by decide) (by decide) (by decide) hr (by rw [v11]; decide)
  have E2 := Lib.hid fun (a : Addr) (w : World) (hr : RowT w (some a) l4) => fat_err (A := some a) (c := 3) (l := l4) (n := 4) (q := 24) (by decide) (by decide) (by decide) hr (by rw [v12]; decide)
  rw [v11] at E1
  rw [v12] at E2
  simp only [show l4.length = 3 from rfl, show ((5 : Nat) : Int) = 5 from rfl] at AT E1 E2
  have HE1 := Lib.hid fun (g : Nat) (w : World) (h : ForAt w g 5 (parL l4 0) (shaL l4 0)) (T : Tb w) => fheld_any 1 4 tree4 out4 h T
  have HE2 := Lib.hid fun (g : Nat) (w : World) (h : ForAt w g 5 (parL l4 0) (shaL l4 0)) (T : Tb w) => fheld_any 3 4 tree4 out4 h T
  rw [v9] at HE1
  rw [v10] at HE2
  have PA := Lib.hid fun (g : Nat) (w : World) (h : ForAt w g 5 (parL l4 0) (shaL l4 0)) => fpar_out 4 out4 h
  rw [v1] at PA
  have SA := Lib.hid fun (g : Nat) (w : World) (h : ForAt w g 5 (parL l4 0) (shaL l4 0)) => fsha_any 2 h
  rw [v2] at SA
  have CD := fun (g : Nat) (w : World) (h : ForAt w g 5 (parL l4 0) (shaL l4 0)) => fchildren_any 1 out4 h
  rw [v3] at CD
  replace CD := Lib.hid fun (g : Nat) (w : World) (h : ForAt w g 5 (parL l4 0) (shaL l4 0)) => (CD g w h).mono fun _ _ h => rowOf (k := 2) rfl h
  have UP := fun (g : Nat) (w : World) (h : ForAt w g 5 (parL l4 0) (shaL l4 0)) => fup_any 4 tree4 out4 h
  rw [v4] at UP
  replace UP := Lib.hid fun (g : Nat) (w : World) (h : ForAt w g 5 (parL l4 0) (shaL l4 0)) => (UP g w h).mono fun _ _ h => rowOf (k := 2) rfl h
  have UN := fun (g : Nat) (w : World) (h : ForAt w g 5 (parL l4 0) (shaL l4 0)) => funders_any 2 tree4 out4 h
  rw [v5] at UN
  replace UN := Lib.hid fun (g : Nat) (w : World) (h : ForAt w g 5 (parL l4 0) (shaL l4 0)) => (UN g w h).mono fun _ _ h => rowOf (k := 2) rfl h
  have RO := fun (g : Nat) (w : World) (h : ForAt w g 5 (parL l4 0) (shaL l4 0)) => froots_any out4 h
  rw [v6] at RO
  replace RO := Lib.hid fun (g : Nat) (w : World) (h : ForAt w g 5 (parL l4 0) (shaL l4 0)) => (RO g w h).mono fun _ _ h => rowOf (k := 2) rfl h
  have M1 := Lib.hid fun (g : Nat) (w : World) (h : ForAt w g 5 (parL l4 0) (shaL l4 0)) => fmeet_any 4 3 tree4 out4 h
  have M2 := Lib.hid fun (g : Nat) (w : World) (h : ForAt w g 5 (parL l4 0) (shaL l4 0)) => fmeet_any 4 5 tree4 out4 h
  rw [v7] at M1
  rw [v8] at M2
  have PN := Lib.hid fpar_nil
  have S2 := Lib.hid same2
  go_enter Tryd.func19, Tryd.ntmps19
  have B0 := Below.refl w.heap.size w
  go_wp2_with fail
  refine (FR.out _).mono ?_
  rintro e w1 ⟨a1, rfl, r1, b1⟩
  replace T := T.later b1
  have B1 := B0.trans (b1.mono B0.size)
  clear b1 B0
  go_wp2_with fail
  refine (AT.out _ _ r1).mono ?_
  rintro e w2 ⟨g, rfl, hg, H, b2⟩
  clear r1
  replace T := T.later b2
  have B2 := B1.trans (b2.mono B1.size)
  clear b2 B1
  go_wp2_with fail
  refine (HE1.out _ _ H T).mono ?_
  rintro e w3 ⟨rfl, b3⟩
  replace T := T.later b3
  replace H := H.later b3
  have B3 := B2.trans (b3.mono B2.size)
  clear b3 B2
  go_wp2_with fail
  refine (HE2.out _ _ (H.alloc _) (T.alloc _)).mono ?_
  rintro e w4 ⟨rfl, b4⟩
  have x3 := (Box.new w3 23 #[.int .i64 2, .int .i64 5]).later b4
  replace T := (T.alloc _).later b4
  replace H := (H.alloc _).later b4
  have b4 := below_up b4
  have B4 := B3.trans (b4.mono B3.size)
  clear b4 B3
  go_wp2_with fail
  refine (FR.out _).mono ?_
  rintro e w5 ⟨a2, rfl, r2, b5⟩
  replace T := (T.alloc _).later b5
  replace H := (H.alloc _).later b5
  replace x3 := (x3.alloc _).later b5
  have b5 := below_up b5
  have B5 := B4.trans (b5.mono B4.size)
  clear b5 B4
  go_wp2_with fail
  refine (E1.out _ _ r2).mono ?_
  rintro e w6 ⟨rfl, b6⟩
  clear r2
  replace T := T.later b6
  replace H := H.later b6
  replace x3 := x3.later b6
  have B6 := B5.trans (b6.mono B5.size)
  clear b6 B5
  go_wp2_with fail
  refine (FR.out _).mono ?_
  rintro e w7 ⟨a3, rfl, r3, b7⟩
  replace T := T.later b7
  replace H := H.later b7
  replace x3 := x3.later b7
  have B7 := B6.trans (b7.mono B6.size)
  clear b7 B6
  go_wp2_with fail
  refine (E2.out _ _ r3).mono ?_
  rintro e w8 ⟨rfl, b8⟩
  clear r3
  replace T := T.later b8
  replace H := H.later b8
  replace x3 := x3.later b8
  have B8 := B7.trans (b8.mono B7.size)
  clear b8 B7
  go_wp2_with fail
  refine (PA.out _ _ H).mono ?_
  rintro e _ ⟨rfl, rfl⟩
  go_wp2_with fail
  refine (SA.out _ _ H).mono ?_
  rintro e _ ⟨rfl, rfl⟩
  go_wp2_with fail
  refine (CD.out _ _ H).mono ?_
  rintro e w9 ⟨A0, c0, rfl, q0, b9⟩
  replace T := T.later b9
  replace H := H.later b9
  replace x3 := x3.later b9
  have B9 := B8.trans (b9.mono B8.size)
  clear b9 B8
  go_wp2_with fail
  refine (S2.out _ _ _ _ _ _ _ (q0.alloc _) (row2 _ _ _)).mono ?_
  rintro e w10 ⟨rfl, b10⟩
  clear q0
  replace T := (T.alloc _).later b10
  replace H := (H.alloc _).later b10
  replace x3 := (x3.alloc _).later b10
  have b10 := below_up b10
  have B10 := B9.trans (b10.mono B9.size)
  clear b10 B9
  go_wp2_with fail
  refine (UP.out _ _ H).mono ?_
  rintro e w11 ⟨A1, c1, rfl, q1, b11⟩
  replace T := T.later b11
  replace H := H.later b11
  replace x3 := x3.later b11
  have B11 := B10.trans (b11.mono B10.size)
  clear b11 B10
  go_wp2_with fail
  refine (S2.out _ _ _ _ _ _ _ (q1.alloc _) (row2 _ _ _)).mono ?_
  rintro e w12 ⟨rfl, b12⟩
  clear q1
  replace T := (T.alloc _).later b12
  replace H := (H.alloc _).later b12
  replace x3 := (x3.alloc _).later b12
  have b12 := below_up b12
  have B12 := B11.trans (b12.mono B11.size)
  clear b12 B11
  go_wp2_with fail
  refine (UN.out _ _ H).mono ?_
  rintro e w13 ⟨A2, c2, rfl, q2, b13⟩
  replace T := T.later b13
  replace H := H.later b13
  replace x3 := x3.later b13
  have B13 := B12.trans (b13.mono B12.size)
  clear b13 B12
  go_wp2_with fail
  refine (S2.out _ _ _ _ _ _ _ (q2.alloc _) (row2 _ _ _)).mono ?_
  rintro e w14 ⟨rfl, b14⟩
  clear q2
  replace T := (T.alloc _).later b14
  replace H := (H.alloc _).later b14
  replace x3 := (x3.alloc _).later b14
  have b14 := below_up b14
  have B14 := B13.trans (b14.mono B13.size)
  clear b14 B13
  go_wp2_with fail
  refine (RO.out _ _ H).mono ?_
  rintro e w15 ⟨A3, c3, rfl, q3, b15⟩
  replace T := T.later b15
  replace H := H.later b15
  replace x3 := x3.later b15
  have B15 := B14.trans (b15.mono B14.size)
  clear b15 B14
  go_wp2_with fail
  refine (S2.out _ _ _ _ _ _ _ (q3.alloc _) (row2 _ _ _)).mono ?_
  rintro e w16 ⟨rfl, b16⟩
  clear q3
  replace T := (T.alloc _).later b16
  replace H := (H.alloc _).later b16
  replace x3 := (x3.alloc _).later b16
  have b16 := below_up b16
  have B16 := B15.trans (b16.mono B15.size)
  clear b16 B15
  go_wp2_with fail
  refine (M1.out _ _ H).mono ?_
  rintro e w17 ⟨rfl, b17⟩
  replace T := T.later b17
  replace H := H.later b17
  replace x3 := x3.later b17
  have B17 := B16.trans (b17.mono B16.size)
  clear b17 B16
  go_wp2_with fail
  refine (M2.out _ _ H).mono ?_
  rintro e w18 ⟨rfl, b18⟩
  replace T := T.later b18
  replace H := H.later b18
  replace x3 := x3.later b18
  have B18 := B17.trans (b18.mono B17.size)
  clear b18 B17
  have k3 := x3.cells
  have l3 := x3.lt
  go_wp2_with fail
  refine (PN.out _ _).mono ?_
  rintro e _ ⟨rfl, rfl⟩
  clear k3 l3
  go_wp2
  go_ret
  exact ⟨rfl, B18⟩
end Go.Proofs.YtkdpiikfiodopaaDoor
