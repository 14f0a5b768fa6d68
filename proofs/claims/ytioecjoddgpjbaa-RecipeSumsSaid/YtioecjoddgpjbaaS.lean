/-
  The reference's fewer and Of: digits less others that are no more; the digits of an int; what the plain arithmetic says.
-/
import Derived.Test.YtioecjoddgpjbaaR
namespace Go.Proofs.Ytioecjoddgpjbaa
open Go.RowKit

set_option maxRecDepth 100000 in
set_option maxHeartbeats 1000000 in
theorem fewer_any (A : Option Addr) (c : Nat) (xs : List Int) (A' : Option Addr) (c' : Nat) (ys : List Int) (w : World) (hm : xs.length ≤ 100000) (cx : Can xs) (cy : Can ys) (hle : val ys ≤ val xs) (hr : RowAt w A (ivals xs)) (hr' : RowAt w A' (ivals ys)) :
    Calls Try.prog 34 #[.slice A xs.length c, .slice A' ys.length c'] w (NewDigits (val xs - val ys) xs.length w) := by
  obtain ⟨i0, hi, hz0, hz1, hz2⟩ := info_parts Try.infoInt
  have hlen := can_len_le cy cx hle
  have dx := cx.1
  have dy := cy.1
  have Hle := Lib.hid hle
  clear hle
  go_enter Try.func34, Try.ntmps34
  go_wp2
  go_loopw [5, 6, 7] (fun v cr i wr => ∃ (k : Nat) (borrow : Int) (o : List Int), i = .int .i64 k ∧ cr = .int .i64 borrow ∧ 0 ≤ borrow ∧ borrow ≤ 1 ∧ k ≤ xs.length ∧ wr.ownsRow w.heap.size 3 1 v k (ivals o) ∧ Hid (o.length = k) ∧ Dg o ∧
      Hid (val o + ten k * (val (xs.drop k) - borrow - val (ys.drop k)) = val xs - val ys) ∧ Below w.heap.size w wr) (fun _ _ i _ => xs.length - (intOf i).toNat)
  case atStart => exact ⟨0, 0, [], rfl, rfl, by omega, by omega, by omega, World.ownsRow_nil _ _ _ _, rfl, Dg.nil, by show _ = _; simp [val, ten], Below.refl _ _⟩
  case round =>
    obtain ⟨k, borrow, o, rfl, rfl, hc0, hc1, hk, hown, ho, hdo, hinv, hb⟩ := hrel
    have hsz := hb.size
    obtain ⟨Av, cv, rfl, hAv⟩ := own_form hown
    by_cases hx : k < xs.length
    · obtain ⟨b, off, rfl, hbl, hcell⟩ := hr.iget (by omega)
      have h1 : wr.cell? ⟨b, off + k, none⟩ = some (.int .i64 xs[k]) := (hb.cell (by exact hbl)).trans (hcell k hx)
      have hda := Lib.hid (val_drop xs k hx)
      have hdx := dx.get k hx
      clear hcell
      generalize xs[k] = da at *
      by_cases hy : k < ys.length
      · obtain ⟨b', off', rfl, hbl', hcell⟩ := hr'.iget (by omega)
        have h2 : wr.cell? ⟨b', off' + k, none⟩ = some (.int .i64 ys[k]) := (hb.cell (by exact hbl')).trans (hcell k hy)
        have hdb := Lib.hid (val_drop ys k hy)
        have hdy := dy.get k hy
        clear hcell
        generalize ys[k] = db at *
        by_cases hn : da - borrow - db < 0
        · have S := Lib.hid (fewer_step (d := da - borrow - db + 10) (borrow' := 1) (db := db) ho.out hda.out hdb.out (by omega) hinv.out)
          have D := Lib.hid (hdo.snoc (d := da - borrow - db + 10) (by omega) (by omega))
          clear hda hdb hinv hdo
          have hN : k + 1 ≤ 1099511627776 := by omega
          go_wp2_with (at_builtin; refine wpList_append_int rfl _ _ 50 rfl w.heap.size 3 i0 Try.underlying50 hi hz0 hz1 hz2 _ _ _ rfl hown (da - borrow - db + 10) rfl hN hsz ?_)
          intro g3 c3 w4 hown4 hr4 hc3 hm3 hg3 hg3' hsz3
          have hb4 := hb.grown hr4 (by omega) (fun k hk => (hown.lt k hk).1)
          clear hown hr4 hb h1 h2
          go_wp2
          go_roundw
          case rel => exact ⟨k + 1, 1, o ++ [da - borrow - db + 10], by go_num, by go_num, by omega, by omega, by omega, by rw [ivals_append]; exact hown4, by show _ = _; rw [List.length_append, ho.out]; rfl, D.out, S.out, hb4⟩
          case measure => simp [intOf]; omega
        · have S := Lib.hid (fewer_step (d := da - borrow - db) (borrow' := 0) (db := db) ho.out hda.out hdb.out (by omega) hinv.out)
          have D := Lib.hid (hdo.snoc (d := da - borrow - db) (by omega) (by omega))
          clear hda hdb hinv hdo
          have hN : k + 1 ≤ 1099511627776 := by omega
          go_wp2_with (at_builtin; refine wpList_append_int rfl _ _ 50 rfl w.heap.size 3 i0 Try.underlying50 hi hz0 hz1 hz2 _ _ _ rfl hown (da - borrow - db) rfl hN hsz ?_)
          intro g3 c3 w4 hown4 hr4 hc3 hm3 hg3 hg3' hsz3
          have hb4 := hb.grown hr4 (by omega) (fun k hk => (hown.lt k hk).1)
          clear hown hr4 hb h1 h2
          go_wp2
          go_roundw
          case rel => exact ⟨k + 1, 0, o ++ [da - borrow - db], by go_num, by go_num, by omega, by omega, by omega, by rw [ivals_append]; exact hown4, by show _ = _; rw [List.length_append, ho.out]; rfl, D.out, S.out, hb4⟩
          case measure => simp [intOf]; omega
      · have hdb := Lib.hid (val_drop0 (l := ys) (i := k) (by omega))
        by_cases hn : da - borrow < 0
        · have S := Lib.hid (fewer_step (d := da - borrow + 10) (borrow' := 1) (db := 0) ho.out hda.out hdb.out (by omega) hinv.out)
          have D := Lib.hid (hdo.snoc (d := da - borrow + 10) (by omega) (by omega))
          clear hda hdb hinv hdo
          have hN : k + 1 ≤ 1099511627776 := by omega
          go_wp2_with (at_builtin; refine wpList_append_int rfl _ _ 50 rfl w.heap.size 3 i0 Try.underlying50 hi hz0 hz1 hz2 _ _ _ rfl hown (da - borrow + 10) rfl hN hsz ?_)
          intro g3 c3 w4 hown4 hr4 hc3 hm3 hg3 hg3' hsz3
          have hb4 := hb.grown hr4 (by omega) (fun k hk => (hown.lt k hk).1)
          clear hown hr4 hb h1 
          go_wp2
          go_roundw
          case rel => exact ⟨k + 1, 1, o ++ [da - borrow + 10], by go_num, by go_num, by omega, by omega, by omega, by rw [ivals_append]; exact hown4, by show _ = _; rw [List.length_append, ho.out]; rfl, D.out, S.out, hb4⟩
          case measure => simp [intOf]; omega
        · have S := Lib.hid (fewer_step (d := da - borrow) (borrow' := 0) (db := 0) ho.out hda.out hdb.out (by omega) hinv.out)
          have D := Lib.hid (hdo.snoc (d := da - borrow) (by omega) (by omega))
          clear hda hdb hinv hdo
          have hN : k + 1 ≤ 1099511627776 := by omega
          go_wp2_with (at_builtin; refine wpList_append_int rfl _ _ 50 rfl w.heap.size 3 i0 Try.underlying50 hi hz0 hz1 hz2 _ _ _ rfl hown (da - borrow) rfl hN hsz ?_)
          intro g3 c3 w4 hown4 hr4 hc3 hm3 hg3 hg3' hsz3
          have hb4 := hb.grown hr4 (by omega) (fun k hk => (hown.lt k hk).1)
          clear hown hr4 hb h1 
          go_wp2
          go_roundw
          case rel => exact ⟨k + 1, 0, o ++ [da - borrow], by go_num, by go_num, by omega, by omega, by omega, by rw [ivals_append]; exact hown4, by show _ = _; rw [List.length_append, ho.out]; rfl, D.out, S.out, hb4⟩
          case measure => simp [intOf]; omega
    · obtain rfl : k = xs.length := by omega
      have V : Hid (val o = val xs - val ys) := by
        have := hinv.out
        rw [val_drop_nil _ _ (by omega), val_drop_nil _ _ (by omega)] at this
        have h1 := Hle.out
        have h2 := val_lt hdo
        have h3 := ten_pos xs.length
        rw [ho.out] at h2
        show _ = _
        rcases (by omega : borrow = 0 ∨ borrow = 1) with h | h
        · subst h; omega
        · subst h; omega
      have hrow := RowAt.of_own hown
      have hcap := own_cap hown
      have hol := ho.out
      clear hinv
      have T := Lib.hid (trim_any Av cv o wr (by omega) hcap.2 hrow)
      rw [hol] at T
      clear hol
      go_wp2_with fail
      refine T.out.mono ?_
      rintro e w' ⟨rfl, rfl⟩
      go_wp2_with fail
      go_ret
      have := newDigits_of hown ho.out hdo V.out hk hb
      rw [ho.out] at this
      exact this

/-- The number z as the reference has it: whether it is below 0, and its digits, at most L of them. -/
def BigIs (S : Nat → Prop) (w : World) (v : Value) (z : Int) (L : Nat) : Prop :=
  ∃ A c xs, v = .agg #[.bool (decide (z < 0)), .slice A xs.length c] ∧ Can xs ∧ val xs = z.natAbs ∧ xs.length ≤ L ∧ xs.length ≤ c ∧ c ≤ maxLen ∧ RowS S w A (ivals xs)

section
variable {S S' : Nat → Prop} {w w' : World} {v : Value} {z : Int} {L L' : Nat}
theorem BigIs.below {B : Nat} (h : BigIs S w v z L) (hb : Below B w w') (hB : w.heap.size ≤ B) : BigIs S w' v z L := by
  obtain ⟨A, c, xs, h1, h2, h3, h4, h5, h6, h7⟩ := h
  exact ⟨A, c, xs, h1, h2, h3, h4, h5, h6, h7.below hb hB⟩
theorem BigIs.later (h : BigIs S w v z L) (hb : Below w.heap.size w w') : BigIs S w' v z L := h.below hb (Nat.le_refl _)
theorem BigIs.mono (h : BigIs S w v z L) (hS : ∀ b, b < w.heap.size → S b → S' b) (hL : L ≤ L') : BigIs S' w v z L' := by
  obtain ⟨A, c, xs, h1, h2, h3, h4, h5, h6, h7⟩ := h
  exact ⟨A, c, xs, h1, h2, h3, by omega, h5, h6, h7.mono hS⟩
theorem BigIs.drewN (h : BigIs S w v z L) (n : Nat) : BigIs S (w.drewN n) v z L := h
theorem BigIs.drew (h : BigIs S w v z L) : BigIs S w.drew v z L := h
theorem BigIs.alloc (h : BigIs S w v z L) (o : Obj) : BigIs S (w.alloc o) v z L := by
  obtain ⟨A, c, xs, h1, h2, h3, h4, h5, h6, h7⟩ := h
  exact ⟨A, c, xs, h1, h2, h3, h4, h5, h6, h7.alloc o⟩
theorem BigIs.setCell (h : BigIs S w v z L) {g i : Nat} (hg : ¬ S g) (u : Value) : BigIs S (w.setCell ⟨g, i, none⟩ u) v z L := by
  obtain ⟨A, c, xs, h1, h2, h3, h4, h5, h6, h7⟩ := h
  exact ⟨A, c, xs, h1, h2, h3, h4, h5, h6, h7.setCell hg u⟩
end

/-- Go's remainder by 10, without its sign, and quotient. -/
theorem tmod10 (x : Int) : (x.tmod 10 < 0 → -(x.tmod 10) = ((x.natAbs % 10 : Nat) : Int)) ∧ (0 ≤ x.tmod 10 → x.tmod 10 = ((x.natAbs % 10 : Nat) : Int)) ∧ (x.tdiv 10).natAbs = x.natAbs / 10 ∧ -10 < x.tmod 10 ∧ x.tmod 10 < 10 := by
  rcases (by omega : x < 0 ∨ 0 ≤ x) with h | h
  · obtain ⟨n, rfl⟩ : ∃ n : Nat, x = -(n : Int) := ⟨x.natAbs, by omega⟩
    have h1 : (-(n : Int)).tmod 10 = -((n % 10 : Nat) : Int) := by rw [Int.neg_tmod, Int.tmod_eq_emod_of_nonneg (by omega)]; omega
    have h2 : (-(n : Int)).tdiv 10 = -((n / 10 : Nat) : Int) := by rw [Int.neg_tdiv, Int.tdiv_eq_ediv_of_nonneg (by omega)]; omega
    rw [h1, h2]
    clear h1 h2
    refine ⟨fun _ => by omega, fun _ => by omega, by omega, by omega, by omega⟩
  · obtain ⟨n, rfl⟩ := Int.eq_ofNat_of_zero_le h
    have h1 : ((n : Int).tmod 10) = ((n % 10 : Nat) : Int) := by rw [Int.tmod_eq_emod_of_nonneg (by omega)]; omega
    have h2 : ((n : Int).tdiv 10) = ((n / 10 : Nat) : Int) := by rw [Int.tdiv_eq_ediv_of_nonneg (by omega)]; omega
    rw [h1, h2]
    clear h1 h2
    refine ⟨fun _ => by omega, fun _ => by omega, by omega, by omega, by omega⟩
theorem last_snoc (o : List Int) (d : Int) (h : o ++ [d] ≠ []) : (o ++ [d]).getLast h = d := by simp
theorem tdiv_nonpos {x : Int} (h : x ≤ 0) : x.tdiv 10 ≤ 0 := by
  obtain ⟨n, rfl⟩ : ∃ n : Nat, x = -(n : Int) := ⟨x.natAbs, by omega⟩
  rw [Int.neg_tdiv, Int.tdiv_eq_ediv_of_nonneg (by omega)]
  omega
theorem ten19 : ten 19 = 10000000000000000000 := by simp [ten]
theorem of_step {o : List Int} {k x n : Nat} (ho : o.length = k) (inv : val o + ten k * (x : Int) = (n : Int)) : val (o ++ [((x % 10 : Nat) : Int)]) + ten (k + 1) * ((x / 10 : Nat) : Int) = (n : Int) := by
  rw [val_snoc, ho, ← inv]
  have e : (x : Int) = ((x % 10 : Nat) : Int) + 10 * ((x / 10 : Nat) : Int) := by omega
  generalize ((x % 10 : Nat) : Int) = r at *
  generalize ((x / 10 : Nat) : Int) = q at *
  rw [e]
  simp only [ten]
  grind

set_option maxRecDepth 100000 in
set_option maxHeartbeats 1000000 in
theorem of_any (n : Int) (w : World) (h1 : -9223372036854775808 ≤ n) (h2 : n ≤ 9223372036854775807) :
    Calls Try.prog 17 #[.int .i64 n] w fun e w' => ∃ v, e = .returned v ∧ BigIs (fun b => w.heap.size ≤ b) w' v n 19 ∧ Below w.heap.size w w' := by
  obtain ⟨i0, hi, hz0, hz1, hz2⟩ := info_parts Try.infoInt
  go_enter Try.func17, Try.ntmps17
  go_wp2
  go_loopw [4] (fun t wr => ∃ (k : Nat) (x : Int) (A : Option Addr) (c : Nat) (o : List Int), t = .int .i64 x ∧ x.natAbs ≤ n.natAbs ∧ (0 ≤ n → 0 ≤ x) ∧ (n ≤ 0 → x ≤ 0) ∧ k ≤ 19 ∧ wr.ownsRow (w.heap.size + 2) 3 1 (.slice A k c) k (ivals o) ∧ Hid (o.length = k) ∧ Dg o ∧
      Hid (x = 0 → ∀ h : o ≠ [], o.getLast h ≠ 0) ∧ Hid (val o + ten k * (x.natAbs : Int) = (n.natAbs : Int)) ∧ Below w.heap.size w wr ∧
      Box wr w.heap.size 52 #[.bool false, .slice none 0 0] ∧ Box wr (w.heap.size + 1) 52 #[.bool (decide (n < 0)), .slice A k c]) (fun t _ => (intOf t).natAbs)
  case atStart => exact ⟨0, n, none, 0, [], rfl, by omega, fun h => h, fun h => h, by omega, World.ownsRow_nil _ _ _ _, rfl, Dg.nil, fun _ h => absurd rfl h, by show _ = _; simp [val, ten], ((Below.refl _ _).alloc (Nat.le_refl _) _).alloc (by simp) _, (Box.new _ _ _).alloc _, Box.new' (by simp)⟩
  case round =>
    obtain ⟨k, x, A, c, o, rfl, hx, hp, hq, hk, hown, ho, hdo, hlast, hinv, hb, b0, b1⟩ := hrel
    have hsz : w.heap.size + 2 ≤ wr.heap.size := by have := b1.lt; omega
    by_cases hx0 : x = 0
    · subst hx0
      have hcan : Hid (Can o) := ⟨hdo, hlast.out rfl⟩
      have hval : Hid (val o = (n.natAbs : Int)) := by
        have := hinv.out
        show _ = _
        simpa using this
      clear hlast hinv
      have hcap := own_cap hown
      have c0 := b0.cells
      have f0 := b0.free
      have c1 := b1.cells
      go_wp2
      refine bodyPost_ret (by unfold results; simp only [Try.results17]; go_simp; rfl) rfl ?_
      have hr := RowS.of_own (S := fun b => w.heap.size + 2 ≤ b) hown (fun b h _ => h)
      have hl := ho.out
      subst hl
      exact ⟨_, rfl, ⟨A, c, o, rfl, hcan.out, hval.out, hk, hcap.1, hcap.2, ((hr.setCell (by omega) _).setCell (by omega) _).mono (fun b _ h => by omega)⟩, (hb.setCell (Nat.le_refl _) _).setCell (Nat.le_refl _) _⟩
    · have hk19 : k + 1 ≤ 19 := by
        rcases Nat.lt_or_ge k 19 with h | h
        · exact h
        · exfalso
          have h19 : k = 19 := by omega
          have := hinv.out
          rw [h19, ten19] at this
          have h0 := val_nonneg hdo
          have : (1 : Int) ≤ x.natAbs := by omega
          omega
      have hN : k + 1 ≤ 1099511627776 := by omega
      have c1 := b1.cells
      have hxne : (x != 0) = true := by simpa using hx0
      rcases (by omega : 0 < x ∨ x < 0) with hpos | hneg
      · have hxb : x ≤ 9223372036854775807 := by omega
        have S := Lib.hid (of_step (x := x.natAbs) ho.out hinv.out)
        have D := Lib.hid (hdo.snoc (d := ((x.natAbs % 10 : Nat) : Int)) (by omega) (by omega))
        have e1 := Lib.hid (show x % 10 = ((x.natAbs % 10 : Nat) : Int) by omega)
        have e2 := Lib.hid (show (x / 10).natAbs = x.natAbs / 10 by omega)
        clear hlast hinv hdo
        go_wp2_with (at_builtin; refine wpList_append_int rfl _ _ 50 rfl (w.heap.size + 2) 3 i0 Try.underlying50 hi hz0 hz1 hz2 _ _ _ rfl hown (x % 10) rfl hN hsz ?_)
        intro g3 c3 w4 hown4 hr4 hc3 hm3 hg3 hg3' hsz3
        have hb4 := hb.grown hr4 (by omega) (fun k hk => by have := (hown.lt k hk).1; omega)
        have b04 := b0.grown hr4 (own_ne_box hown b0 (by decide))
        have b14 := b1.grown hr4 (own_ne_box hown b1 (by decide))
        clear hown hr4 hb b0 b1 c1
        have c1 := b14.cells
        have f1 := b14.free
        go_wp2
        go_roundw
        case rel =>
          have o4 := hown4.kept (w' := w4.setCell ⟨w.heap.size + 1, 1, none⟩ (.slice (some ⟨g3, 0, none⟩) (k + 1) c3)) (row := some (w.heap.size + 1)) ⟨rfl, rfl, rfl, by simp [World.setCell], fun i _ hi => Below.heap_setCell w4 _ _ i (fun e => hi (by rw [e]))⟩ (.inr (by simp only [Value.ownBlock]; intro h; injection h; omega))
          exact ⟨k + 1, x / 10, some ⟨g3, 0, none⟩, c3, o ++ [x % 10], by go_num, by have := e2.out; omega, fun h => by have := hp h; omega, fun h => by exfalso; have := hq h; omega, hk19, by rw [ivals_append]; exact o4, by show _ = _; rw [List.length_append, ho.out]; rfl, by rw [e1.out]; exact D.out, fun h hne => by rw [last_snoc, e1.out]; have := e2.out; omega, by show _ = _; rw [e1.out, e2.out]; exact S.out, hb4.setCell (by simp) _, b04.far' (by omega) _, by simpa using b14.set 1 (.slice (some ⟨g3, 0, none⟩) (k + 1) c3)⟩
        case measure => simp only [intOf]; have := e2.out; omega
      · have hxb : -9223372036854775808 ≤ x := by omega
        obtain ⟨t1, t2, t3, t4, t5⟩ := tmod10 x
        have t6 : -9223372036854775808 ≤ x.tdiv 10 := by omega
        have t7 : x.tdiv 10 ≤ 9223372036854775807 := by omega
        by_cases hd : x.tmod 10 < 0
        · have ht1 := Lib.hid (t1 hd)
          clear t1 t2
          have S := Lib.hid (of_step (x := x.natAbs) ho.out hinv.out)
          have D := Lib.hid (hdo.snoc (d := ((x.natAbs % 10 : Nat) : Int)) (by omega) (by omega))
          have e1 := Lib.hid (show -(x.tmod 10) = ((x.natAbs % 10 : Nat) : Int) by exact ht1.out)
          have e2 := Lib.hid (show (x.tdiv 10).natAbs = x.natAbs / 10 by exact t3)
          clear hlast hinv hdo
          go_wp2_with (at_builtin; refine wpList_append_int rfl _ _ 50 rfl (w.heap.size + 2) 3 i0 Try.underlying50 hi hz0 hz1 hz2 _ _ _ rfl hown (-(x.tmod 10)) rfl hN hsz ?_)
          intro g3 c3 w4 hown4 hr4 hc3 hm3 hg3 hg3' hsz3
          have hb4 := hb.grown hr4 (by omega) (fun k hk => by have := (hown.lt k hk).1; omega)
          have b04 := b0.grown hr4 (own_ne_box hown b0 (by decide))
          have b14 := b1.grown hr4 (own_ne_box hown b1 (by decide))
          clear hown hr4 hb b0 b1 c1
          have c1 := b14.cells
          have f1 := b14.free
          go_wp2
          go_roundw
          case rel =>
            have o4 := hown4.kept (w' := w4.setCell ⟨w.heap.size + 1, 1, none⟩ (.slice (some ⟨g3, 0, none⟩) (k + 1) c3)) (row := some (w.heap.size + 1)) ⟨rfl, rfl, rfl, by simp [World.setCell], fun i _ hi => Below.heap_setCell w4 _ _ i (fun e => hi (by rw [e]))⟩ (.inr (by simp only [Value.ownBlock]; intro h; injection h; omega))
            exact ⟨k + 1, x.tdiv 10, some ⟨g3, 0, none⟩, c3, o ++ [-(x.tmod 10)], by go_num, by have := e2.out; omega, fun h => by exfalso; have := hp h; omega, fun h => by have := hq h; have := e2.out; exact tdiv_nonpos (by omega), hk19, by rw [ivals_append]; exact o4, by show _ = _; rw [List.length_append, ho.out]; rfl, by rw [e1.out]; exact D.out, fun h hne => by rw [last_snoc, e1.out]; have := e2.out; omega, by show _ = _; rw [e1.out, e2.out]; exact S.out, hb4.setCell (by simp) _, b04.far' (by omega) _, by simpa using b14.set 1 (.slice (some ⟨g3, 0, none⟩) (k + 1) c3)⟩
          case measure => simp only [intOf]; have := e2.out; omega
        · have ht1 := Lib.hid (t2 (by omega))
          clear t1 t2
          have S := Lib.hid (of_step (x := x.natAbs) ho.out hinv.out)
          have D := Lib.hid (hdo.snoc (d := ((x.natAbs % 10 : Nat) : Int)) (by omega) (by omega))
          have e1 := Lib.hid (show x.tmod 10 = ((x.natAbs % 10 : Nat) : Int) by exact ht1.out)
          have e2 := Lib.hid (show (x.tdiv 10).natAbs = x.natAbs / 10 by exact t3)
          clear hlast hinv hdo
          go_wp2_with (at_builtin; refine wpList_append_int rfl _ _ 50 rfl (w.heap.size + 2) 3 i0 Try.underlying50 hi hz0 hz1 hz2 _ _ _ rfl hown (x.tmod 10) rfl hN hsz ?_)
          intro g3 c3 w4 hown4 hr4 hc3 hm3 hg3 hg3' hsz3
          have hb4 := hb.grown hr4 (by omega) (fun k hk => by have := (hown.lt k hk).1; omega)
          have b04 := b0.grown hr4 (own_ne_box hown b0 (by decide))
          have b14 := b1.grown hr4 (own_ne_box hown b1 (by decide))
          clear hown hr4 hb b0 b1 c1
          have c1 := b14.cells
          have f1 := b14.free
          go_wp2
          go_roundw
          case rel =>
            have o4 := hown4.kept (w' := w4.setCell ⟨w.heap.size + 1, 1, none⟩ (.slice (some ⟨g3, 0, none⟩) (k + 1) c3)) (row := some (w.heap.size + 1)) ⟨rfl, rfl, rfl, by simp [World.setCell], fun i _ hi => Below.heap_setCell w4 _ _ i (fun e => hi (by rw [e]))⟩ (.inr (by simp only [Value.ownBlock]; intro h; injection h; omega))
            exact ⟨k + 1, x.tdiv 10, some ⟨g3, 0, none⟩, c3, o ++ [x.tmod 10], by go_num, by have := e2.out; omega, fun h => by exfalso; have := hp h; omega, fun h => by have := hq h; have := e2.out; exact tdiv_nonpos (by omega), hk19, by rw [ivals_append]; exact o4, by show _ = _; rw [List.length_append, ho.out]; rfl, by rw [e1.out]; exact D.out, fun h hne => by rw [last_snoc, e1.out]; have := e2.out; omega, by show _ = _; rw [e1.out, e2.out]; exact S.out, hb4.setCell (by simp) _, b04.far' (by omega) _, by simpa using b14.set 1 (.slice (some ⟨g3, 0, none⟩) (k + 1) c3)⟩
          case measure => simp only [intOf]; have := e2.out; omega
end Go.Proofs.Ytioecjoddgpjbaa
