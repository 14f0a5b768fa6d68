/-
  The reference's Times: the product of two numbers, digit by digit.
-/
import Derived.Test.YtioecjoddgpjbaaV
import Derived.Test.YtioecjoddgpjbaaDM
namespace Go.Proofs.Ytioecjoddgpjbaa
open Go.RowKit

theorem below_up {w w' : World} {o : Obj} (h : Below (w.alloc o).heap.size (w.alloc o) w') : Below w.heap.size w w' :=
  ((Below.refl _ _).alloc (Nat.le_refl _) o).trans (h.mono (by simp))

/-- trim, at a row of the call's own. -/
theorem trim_row {B n c : Nat} {A : Option Addr} {o : List Int} {w : World} (hown : w.ownsRow B 3 1 (.slice A n c) n (ivals o)) (ho : o.length = n) (hd : Dg o) :
    ∃ t, Can t ∧ val t = val o ∧ t.length ≤ n ∧ n ≤ c ∧ c ≤ maxLen ∧ RowS (fun b => B ≤ b) w A (ivals t) ∧ Calls Try.prog 47 #[.slice A n c] w fun e w' => e = .returned (.slice A t.length c) ∧ w = w' := by
  subst ho
  have hc := own_cap hown
  have ht := trimLen_le o o.length
  have hl : (o.take (trimLen o o.length)).length = trimLen o o.length := by rw [List.length_take]; exact Nat.min_eq_left ht
  have hr := (RowS.of_own (S := fun b => B ≤ b) hown (fun b h _ => h)).take (trimLen o o.length)
  refine ⟨o.take (trimLen o o.length), trim_can o hd _ (Nat.le_refl _), by rw [trim_val o _ (Nat.le_refl _), List.take_length], by omega, hc.1, hc.2, ?_, ?_⟩
  · rw [ivals_take]
    exact hr
  · rw [hl]
    exact trim_any A c o w hc.1 hc.2 (RowAt.of_own hown)

/-- What the loop over the second number's digits keeps: its products so far, in new memory. -/
def OutRel (z : Int) (L N : Nat) (w : World) (v : Value) : Prop :=
  ∃ A c o, v = .slice A o.length c ∧ Can o ∧ val o = z ∧ o.length ≤ L ∧ o.length ≤ c ∧ c ≤ maxLen ∧ RowS (fun b => N ≤ b) w A (ivals o)
theorem OutRel.mk {z : Int} {L N c : Nat} {w : World} {A : Option Addr} {o : List Int} (h1 : Can o) (h2 : val o = z) (h3 : o.length ≤ L) (h4 : o.length ≤ c) (h5 : c ≤ maxLen) (h6 : RowS (fun b => N ≤ b) w A (ivals o)) : OutRel z L N w (.slice A o.length c) :=
  ⟨A, c, o, rfl, h1, h2, h3, h4, h5, h6⟩

/-- One round of Times: one digit of the second number by all of the first one. -/
theorem times_next {xs ys oo t zs : List Int} {k : Nat} (cx : Can xs) (cy : Can ys) (hk : k < ys.length) (ho : val oo = val xs * val (ys.take k)) (ht : val t = ten k * (ys[k] * val xs)) (hz : Can zs) (hv : val zs = val oo + val t) :
    val zs = val xs * val (ys.take (k + 1)) ∧ zs.length ≤ xs.length + (k + 1) := by
  have h1 : val zs = val xs * val (ys.take (k + 1)) := by
    rw [hv, ho, ht, val_take_succ ys k hk]
    grind
  refine ⟨h1, mul_len (ys := ys.take (k + 1)) cx.1 (cy.1.take _) hz h1 (Nat.le_refl _) ?_⟩
  rw [List.length_take]
  omega

set_option maxRecDepth 100000 in
set_option maxHeartbeats 4000000 in
theorem times_raw (s s' : Bool) (A : Option Addr) (c : Nat) (xs : List Int) (A' : Option Addr) (c' : Nat) (ys : List Int) (w : World) (hm : xs.length + ys.length ≤ 90000) (cx : Can xs) (cy : Can ys) (hr : RowAt w A (ivals xs)) (hr' : RowAt w A' (ivals ys)) :
    Calls Try.prog 65 #[.agg #[.bool s, .slice A xs.length c], .agg #[.bool s', .slice A' ys.length c']] w fun e w' =>
      ∃ Z d zs, e = .returned (.agg #[.bool ((s != s') && decide (0 < zs.length)), .slice Z zs.length d]) ∧ Can zs ∧ val zs = val xs * val ys ∧ zs.length ≤ xs.length + ys.length ∧ zs.length ≤ d ∧ d ≤ maxLen ∧ RowS (fun b => w.heap.size ≤ b) w' Z (ivals zs) ∧ Below w.heap.size w w' := by
  obtain ⟨i0, hi, hz0, hz1, hz2⟩ := info_parts Try.infoInt
  have R := Lib.hid hr
  have R' := Lib.hid hr'
  clear hr hr'
  go_enter Try.func65, Try.ntmps65
  go_wp2
  go_loopw [5, 6] (fun v i wr => ∃ k : Nat, k ≤ ys.length ∧ i = .int .i64 k ∧ OutRel (val xs * val (ys.take k)) (xs.length + k) (w.heap.size + 3) wr v ∧ Below w.heap.size w wr ∧
      Box wr w.heap.size 52 #[.bool s, .slice A xs.length c] ∧ Box wr (w.heap.size + 1) 52 #[.bool s', .slice A' ys.length c'] ∧ Box wr (w.heap.size + 2) 52 #[.bool false, .slice none 0 0]) (fun _ i _ => ys.length - (intOf i).toNat)
  case atStart => exact ⟨0, by omega, rfl, OutRel.mk (o := []) can_nil (by simp [val]) (by simp) (by simp) (by simp) (RowS.nil _ _ _), (((Below.refl _ _).alloc (Nat.le_refl _) _).alloc (by simp) _).alloc (by simp; omega) _, ((Box.new _ _ _).alloc _).alloc _, (Box.new' (by simp)).alloc _, Box.new' (by simp)⟩
  case round =>
    obtain ⟨k, hk, rfl, ho, hb, b0, b1, b2⟩ := hrel
    obtain ⟨Ao, co, oo, rfl, hco, hvo, hlo, hlc, hcm, hro⟩ := ho
    have Hvo := Lib.hid hvo
    have Hro := Lib.hid hro
    clear hvo hro
    have hsz := hb.size
    by_cases hkn : k < ys.length
    · have hdb := cy.1.get k hkn
      have NX := Lib.hid fun (t zs : List Int) => times_next (t := t) (zs := zs) cx cy hkn Hvo.out
      obtain ⟨bb, offb, rfl, hblt, hcb⟩ := R'.out.iget (by omega)
      have hcb := hcb k hkn
      generalize ys[k] = db at *
      obtain ⟨wo, rfl⟩ : ∃ wo : World, wo = wr := ⟨_, rfl⟩
      have hsz3 : w.heap.size + 3 ≤ wo.heap.size := by have := b2.lt; omega
      have hcbo : wo.cell? ⟨bb, offb + k, none⟩ = some (.int .i64 db) := (hb.cell (by exact hblt)).trans hcb
      have k1 := b1.cells
      go_wp2
      clear k1
      go_loopw [7, 8] (fun v i wr => ∃ j : Nat, j ≤ k ∧ i = .int .i64 j ∧ wr.ownsRow wo.heap.size 3 1 v j (ivals (List.replicate j 0)) ∧ Below wo.heap.size wo wr) (fun _ i _ => k - (intOf i).toNat)
      case atStart => exact ⟨0, by omega, rfl, World.ownsRow_nil _ _ _ _, Below.refl _ _⟩
      case round =>
        obtain ⟨j, hj, rfl, hown, hb1⟩ := hrel
        obtain ⟨Av, cv, rfl, _⟩ := own_form hown
        by_cases hjk : j < k
        · have hN : j + 1 ≤ 1099511627776 := by omega
          go_wp2_with (at_builtin; refine wpList_append_int rfl _ _ 50 rfl wo.heap.size 3 i0 Try.underlying50 hi hz0 hz1 hz2 _ _ _ rfl hown 0 rfl hN hb1.size ?_)
          intro g3 c3 w4 hown4 hr4 hc3 hm3 hg3 hg3' hsz4
          have hb4 := hb1.grown hr4 hb1.size (fun k hk => (hown.lt k hk).1)
          clear hown hr4 hb1
          go_wp2
          go_roundw
          case rel => exact ⟨j + 1, by omega, by go_num, by rw [List.replicate_succ', ivals_append]; exact hown4, hb4⟩
          case measure => simp [intOf]; omega
        · obtain rfl : k = j := by omega
          go_wp2
          go_loopw [7, 9, 10] (fun v cr i wr => ∃ (m : Nat) (carry : Int) (o : List Int), i = .int .i64 m ∧ cr = .int .i64 carry ∧ 0 ≤ carry ∧ carry ≤ 9 ∧ m ≤ xs.length + 1 ∧ (m = xs.length + 1 → carry ≤ 0) ∧ wr.ownsRow wo.heap.size 3 1 v (k + m) (ivals o) ∧ Hid (o.length = k + m) ∧ Dg o ∧
              Hid (val o + ten (k + m) * (carry + db * val (xs.drop m)) = ten k * (db * val xs)) ∧ Below wo.heap.size wo wr) (fun _ _ i _ => xs.length + 1 - (intOf i).toNat)
          case atStart => exact ⟨0, 0, List.replicate k 0, rfl, rfl, by omega, by omega, by omega, fun h => by omega, hown, by show _ = _; simp, Dg.zeros k, by show _ = _; rw [val_zeros]; simp, hb1⟩
          case round =>
            clear hown hb1
            obtain ⟨m, carry, o, rfl, rfl, hc0, hc9, hmx, hmc, hown, hol, hdo, hinv, hb1⟩ := hrel
            obtain ⟨Av, cv, rfl, _⟩ := own_form hown
            have hbw := hb.trans (hb1.mono hsz)
            have k0 := (b0.later hb1).cells
            have k1 := (b1.later hb1).cells
            have hlt0 : w.heap.size < wr.heap.size := by have := hb1.size; omega
            have hlt1 : w.heap.size + 1 < wr.heap.size := by have := hb1.size; omega
            by_cases hmn : m < xs.length
            · obtain ⟨ba, offa, rfl, halt, hca⟩ := R.out.iget (by omega)
              have h1 : wr.cell? ⟨ba, offa + m, none⟩ = some (.int .i64 xs[m]) := (hbw.cell (by exact halt)).trans (hca m hmn)
              have h2 : wr.cell? ⟨bb, offb + k, none⟩ = some (.int .i64 db) := (hbw.cell (by exact hblt)).trans hcb
              have hda := cx.1.get m hmn
              have Hda := Lib.hid (val_drop xs m hmn)
              clear hca
              generalize xs[m] = da at *
              have hp := mul_carry hda.1 hda.2 hdb.1 hdb.2
              have S := Lib.hid (mul_step (b := db) hol.out Hda.out hinv.out)
              obtain ⟨p, hpe⟩ : ∃ p, da * db = p := ⟨_, rfl⟩
              rw [hpe] at S hp
              have D := Lib.hid (hdo.snoc (d := (carry + p) % 10) (by omega) (by omega))
              have q1 : IntKind.i64.wrap p = p := IntWalk.i64_in _ (by omega)
              have q2 : IntKind.i64.wrap (carry + p) = carry + p := IntWalk.i64_in _ (by omega)
              have hN : k + m + 1 ≤ 1099511627776 := by omega
              clear hinv hdo Hda
              go_wp2
              go_quiet (fail)
              clear q1 q2 hpe h1 h2
              go_wp2_with (at_builtin; refine wpList_append_int rfl _ _ 50 rfl wo.heap.size 3 i0 Try.underlying50 hi hz0 hz1 hz2 _ _ _ rfl hown ((carry + p) % 10) rfl hN hb1.size ?_)
              intro g3 c3 w4 hown4 hr4 hc3 hm3 hg3 hg3' hsz4
              have hr4 : wr.grownBy w4 (Value.slice Av (k + m) cv).ownBlock := ⟨hr4.os, hr4.tape, hr4.output, hr4.size, hr4.block⟩
              have hb4 := hb1.grown hr4 hb1.size (fun k hk => (hown.lt k hk).1)
              clear hown hr4 hb1 k0 k1
              go_wp2
              go_roundw
              case rel => exact ⟨m + 1, (carry + p) / 10, o ++ [(carry + p) % 10], by go_num, by go_num, by omega, by omega, by omega, fun h => by omega, by rw [ivals_append]; exact hown4, by show _ = _; rw [List.length_append, hol.out]; rfl, D.out, S.out, hb4⟩
              case measure => simp [intOf]; omega
            · have Hda := Lib.hid (val_drop0 (l := xs) (i := m) (by omega))
              by_cases hcr : 0 < carry
              · have S := Lib.hid (mul_step (b := db) hol.out Hda.out hinv.out)
                rw [Int.zero_mul, Int.add_zero] at S
                have D := Lib.hid (hdo.snoc (d := carry % 10) (by omega) (by omega))
                have hN : k + m + 1 ≤ 1099511627776 := by omega
                clear hinv hdo Hda
                go_wp2_with (at_builtin; refine wpList_append_int rfl _ _ 50 rfl wo.heap.size 3 i0 Try.underlying50 hi hz0 hz1 hz2 _ _ _ rfl hown (carry % 10) rfl hN hb1.size ?_)
                intro g3 c3 w4 hown4 hr4 hc3 hm3 hg3 hg3' hsz4
                have hb4 := hb1.grown hr4 hb1.size (fun k hk => (hown.lt k hk).1)
                clear hown hr4 hb1 k0 k1
                go_wp2
                go_roundw
                case rel => exact ⟨m + 1, carry / 10, o ++ [carry % 10], by go_num, by go_num, by omega, by omega, by omega, fun h => by omega, by rw [ivals_append]; exact hown4, by show _ = _; rw [List.length_append, hol.out]; rfl, D.out, S.out, hb4⟩
                case measure => simp [intOf]; omega
              · obtain rfl : carry = 0 := by omega
                have V : Hid (val o = ten k * (db * val xs)) := by
                  have := hinv.out
                  rw [val_drop_nil _ _ (by omega)] at this
                  show _ = _
                  rw [← this]
                  simp
                obtain ⟨t, ct, vt, lt, n1, n2, rt, T⟩ := trim_row hown hol.out hdo
                have NX := Lib.hid fun zs => NX.out t zs (vt.trans V.out)
                have T := Lib.hid T
                have hro1 := Hro.out.below hb1 (Nat.le_refl _)
                clear hinv V vt hown hdo Hda
                go_wp2_with fail
                refine T.out.mono ?_
                rintro e _ ⟨rfl, rfl⟩
                go_wp2_with fail
                refine (more_any Ao co oo Av cv t _ (by omega) (by omega) hco.1 ct.1 hro1.at rt.at).mono ?_
                rintro e w5 ⟨Az, cz, zs, rfl, cz1, vz, _, lz1, lz2, rz, bz⟩
                obtain ⟨nx1, nx2⟩ := NX.out zs cz1 vz
                have NX1 := Lib.hid nx1
                have bw := hbw.trans (bz.mono hbw.size)
                have d0 := (b0.later hb1).later bz
                have d1 := (b1.later hb1).later bz
                have d2 := (b2.later hb1).later bz
                have hs1 := hb1.size
                clear k0 k1 b0 b1 b2 hb1 bz nx1 vz T NX hro1 rt n1 n2 hbw hb
                go_wp2
                go_roundw
                case rel => exact ⟨k + 1, by omega, by go_num, OutRel.mk cz1 NX1.out nx2 lz1 lz2 (rz.mono fun b _ h => by omega), bw, d0, d1, d2⟩
                case measure => simp [intOf]; omega
    · obtain rfl : k = ys.length := by omega
      rw [List.take_length] at Hvo
      have k0 := b0.cells
      have k1 := b1.cells
      have k2 := b2.cells
      have f2 := b2.free
      have hp : RowS (fun b => w.heap.size + 3 ≤ b) wr Ao (ivals oo) := Hro.out
      have P := Lib.hid hp
      clear hp b0 b1
      by_cases h0 : 0 < oo.length
      all_goals
        cases s <;> cases s'
        all_goals
          go_wp2
          refine bodyPost_ret (by unfold results; simp only [Try.results65]; go_simp; rfl) rfl ?_
          refine ⟨Ao, co, oo, ?_, hco, Hvo.out, hlo, hlc, hcm, ((P.out.setCell (by omega) _).setCell (by omega) _).mono (fun b _ h => by omega), (hb.setCell (by simp; omega) _).setCell (by simp; omega) _⟩
          simp [h0]

section
variable {S S' : Nat → Prop} {w : World} {va vb : Value} {a b : Int} {L L' : Nat}

theorem times_any (ha : BigIs S w va a L) (hb : BigIs S' w vb b L') (hL : L + L' ≤ 90000) :
    Calls Try.prog 65 #[va, vb] w fun e w' => ∃ v, e = .returned v ∧ BigIs (fun x => w.heap.size ≤ x) w' v (a * b) (L + L') ∧ Below w.heap.size w w' := by
  obtain ⟨A, c, xs, rfl, cx, vx, lx, kx, mx, rx⟩ := ha
  obtain ⟨A', c', ys, rfl, cy, vy, ly, ky, my, ry⟩ := hb
  refine (times_raw _ _ A c xs A' c' ys w (by omega) cx cy rx.at ry.at).mono fun e w' ⟨Z, d, zs, he, g1, g2, g3, g4, g5, g6, g7⟩ => ?_
  have hv : val zs = ((a * b).natAbs : Int) := by rw [g2, vx, vy, natAbs_mul']
  have hz := sd_len g1 hv
  refine ⟨_, he, ⟨Z, d, zs, ?_, g1, hv, by omega, g4, g5, g6⟩, g7⟩
  rw [mul_neg_iff, show decide (0 < zs.length) = decide (a * b ≠ 0) from decide_eq_decide.2 (by omega)]
end
end Go.Proofs.Ytioecjoddgpjbaa
