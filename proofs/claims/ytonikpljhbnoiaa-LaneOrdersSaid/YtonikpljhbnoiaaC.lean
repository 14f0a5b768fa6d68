/-
  The walk of LaneOrders: true for every room and every list of strings; no further condition.
-/
import Derived.Test.YtonikpljhbnoiaaB
import Derived.Test.YtonikpljhbnoiaaK
namespace Go.Proofs.Ytonikpljhbnoiaa
open Go.RowKit Go.Conc

theorem Try.info9 : (Try.prog.info? 9).map (fun i => (i.zero, i.size, i.bytes)) = some (some (.string ⟨#[]⟩), 1, 16) := by kernel_rfl


theorem own_ne_q {w : World} {base e n T g c room : Nat} {size : Nat} {v : Value} {xs ys : List Value} (h : w.ownsRow base e size v n xs) (hq : QAt w T g c room ys) (hne : e ≠ T) : v.ownBlock ≠ some g ∧ v.ownBlock ≠ some c := by
  obtain ⟨h1, s, r, h2⟩ := hq
  rcases h.2 with ⟨rfl, _⟩ | ⟨g', cap, cur, rfl, _, hg, _⟩
  · simp [Value.ownBlock]
  · simp only [Value.ownBlock, ne_eq, Option.some.injEq]
    constructor
    · rintro rfl
      rw [hg] at h1
      injection h1 with h1
      injection h1 with _ h1
      exact hne h1
    · rintro rfl
      rw [hg] at h2
      cases h2

set_option maxRecDepth 100000 in
set_option maxHeartbeats 2000000 in
theorem orders_main (room : Nat) (A : Option Addr) (cap : Nat) (l : List ByteArray) (w : World) (hr1 : 1 ≤ room) (hr2 : room ≤ 1000) (hl : l.length ≤ 100) (hrow : RowAt w A (svals l)) :
    Calls Try.prog 4 #[.int .i64 room, .slice A l.length cap] w fun e w' => e = .returned (.bool true) ∧ Below w.heap.size w w' := by
  obtain ⟨i0, hi, hz0, hz1, hz2⟩ := info_parts Try.info9
  go_enter Try.func4, Try.ntmps4
  go_wp2_with fail
  refine (snew_in _ room hr1 hr2).mono ?_
  rintro e w1 ⟨g, c, rfl, hq, hg1, hc1, hb⟩
  have hrow1 := hrow.below hb (Nat.le_refl _)
  go_wp2_with fail
  go_loopw [7, 8] (fun v i wr => ∃ k m : Nat, k ≤ l.length ∧ m ≤ room ∧ m ≤ k ∧ (m < room → m = k) ∧ i = .int .i64 k ∧ wr.ownsRow w.heap.size 9 1 v m (svals (l.take m)) ∧ QAt wr 64 g c room (svals (l.take m)) ∧ Below w.heap.size w wr)
    (fun _ i _ => l.length - (intOf i).toNat)
  case atStart => exact ⟨0, 0, by omega, by omega, by omega, fun _ => rfl, rfl, World.ownsRow_nil _ _ _ _, hq, hb⟩
  case round =>
    obtain ⟨k, m, hk, hm, hmk, hmr, rfl, hown, hqr, hbr⟩ := hrel
    obtain ⟨Av, cv, rfl, hAv⟩ := own_form hown
    have hsz := hbr.size
    have hcs := own_cap hown
    have hml : (svals (l.take m)).length = m := by simp [svals]; omega
    have Hml := Lib.hid hml
    clear hml
    by_cases hkl : k < l.length
    · obtain ⟨b, off, rfl, hbl, hcell⟩ := hrow (by simp [svals]; omega)
      have hx : wr.cell? ⟨b, off + k, none⟩ = some (.string l[k]) := (hbr.cell (by exact hbl)).trans (hcell k _ (svals_get l k hkl))
      clear hcell hrow hrow1 hb hq
      by_cases hmroom : m < room
      · have hmk' := hmr hmroom
        clear hmr
        obtain rfl : k = m := hmk'.symm
        go_wp2_with fail
        refine (sput_yes _ _ _ _ _ _ hqr (by rw [Hml.out]; exact hmroom)).mono ?_
        rintro e w2 ⟨rfl, hq2, hr⟩
        rw [← svals_take_succ l k hkl] at hq2
        have hown2 := hown.kept hr (.inr (own_ne_q hown hqr (by decide)).2)
        have hb2 := hbr.grown hr (by omega) (by simp; omega)
        have hx2 : w2.cell? ⟨b, off + k, none⟩ = some (.string l[k]) := hr.cell hx (by simp; omega)
        have hsz2 := hb2.size
        clear hown hbr hx hqr hsz
        go_wp2_with (at_builtin; refine wpList_append_one rfl _ _ 43 rfl w.heap.size 9 i0 (.string ⟨#[]⟩) 1 16 Try.underlying43 hi hz0 hz1 hz2 rfl (by decide) _ _ _ rfl hown2 [.string l[k]] rfl rfl ?c1 ?c2 ?c3 ?c4 ?_)
        case c1 => intro u hu; simp at hu; subst hu; rfl
        case c2 => unfold maxLen; omega
        case c3 => omega
        case c4 => omega
        intro g3 c3 w3 hown3 hr3 hc3 hm3 hg3 hg3' hsz3
        rw [← svals_take_succ l k hkl] at hown3
        have hne := own_ne_q hown2 hq2 (by decide)
        have hq3 := hq2.grownOther hr3 (fun e => hne.1 e.symm) (fun e => hne.2 e.symm)
        have hb3 := hb2.grown hr3 (by omega) (fun k hk => (hown2.lt k hk).1)
        have Hml3 := Lib.hid (show (svals (l.take (k + 1))).length = k + 1 by simp [svals]; omega)
        clear hown2 hr3 hb2 hq2 hx2 hr hne
        go_wp2_with fail
        refine (slen_any _ _ _ _ _ hq3).mono ?_
        rintro e w' ⟨rfl, rfl⟩
        rw [Hml3.out]
        go_wp2_with fail
        refine (slen_any _ _ _ _ _ hq3).mono ?_
        rintro e w' ⟨rfl, rfl⟩
        rw [Hml3.out]
        go_wp2_with fail
        refine (sroom_any _ _ _ _ _ hq3).mono ?_
        rintro e w' ⟨rfl, rfl⟩
        go_wp2_with fail
        refine (sroom_any _ _ _ _ _ hq3).mono ?_
        rintro e w' ⟨rfl, rfl⟩
        go_wp2_with fail
        go_roundw
        case rel => exact ⟨k + 1, k + 1, by omega, by omega, by omega, fun _ => rfl, by go_num, hown3, hq3, hb3⟩
        case measure => simp [intOf]; omega
      · obtain rfl : m = room := by omega
        clear hmr
        go_wp2_with fail
        refine (sput_full _ _ _ _ _ _ hqr (by rw [Hml.out]; exact Nat.le_refl _)).mono ?_
        rintro e w' ⟨rfl, rfl⟩
        go_wp2_with fail
        refine (slen_any _ _ _ _ _ hqr).mono ?_
        rintro e w' ⟨rfl, rfl⟩
        rw [Hml.out]
        go_wp2_with fail
        refine (slen_any _ _ _ _ _ hqr).mono ?_
        rintro e w' ⟨rfl, rfl⟩
        rw [Hml.out]
        go_wp2_with fail
        refine (sroom_any _ _ _ _ _ hqr).mono ?_
        rintro e w' ⟨rfl, rfl⟩
        go_wp2_with fail
        refine (sroom_any _ _ _ _ _ hqr).mono ?_
        rintro e w' ⟨rfl, rfl⟩
        go_wp2_with fail
        go_roundw
        case rel => exact ⟨k + 1, m, by omega, by omega, by omega, fun h => absurd h (by omega), by go_num, hown, hqr, hbr⟩
        case measure => simp [intOf]; omega
    · obtain rfl : k = l.length := by omega
      clear hq hb hrow hrow1
      go_wp2_with fail
      obtain ⟨wo, rfl⟩ : ∃ wo : World, wo = wr := ⟨_, rfl⟩
      have Hown := Lib.hid hown
      clear hown
      go_loopw [10] (fun i wr => ∃ j : Nat, j ≤ m ∧ i = .int .i64 j ∧ wr.ownsRow w.heap.size 9 1 (.slice Av m cv) m (svals (l.take m)) ∧ QAt wr 64 g c room (svals ((l.take m).drop j)) ∧ Below w.heap.size w wr)
        (fun i _ => m - (intOf i).toNat)
      case atStart => exact ⟨0, by omega, rfl, Hown.out, hqr, hbr⟩
      case round =>
        clear hqr hbr hsz
        obtain ⟨j, hj, rfl, hown, hqr, hbr⟩ := hrel
        have hsz := hbr.size
        by_cases hjm : j < m
        · obtain ⟨gA, rfl, hgA, _⟩ := hAv (by omega)
          have hjl : j < (l.take m).length := by rw [List.length_take]; omega
          have hd : svals ((l.take m).drop j) = Value.string (l.take m)[j] :: svals ((l.take m).drop (j + 1)) := by
            unfold svals
            rw [List.drop_eq_getElem_cons hjl, List.map_cons]
          rw [hd] at hqr
          clear hd
          have hne := own_ne_q hown hqr (by decide)
          go_wp2_with fail
          refine (stake_yes _ _ _ _ _ _ hqr).mono ?_
          rintro e w2 ⟨rfl, hq2, hr⟩
          have hown2 := hown.kept hr (.inr hne.2)
          have hb2 := hbr.grown hr (by omega) (by simp; omega)
          have hx : w2.cell? ⟨gA, j, none⟩ = some (.string (l.take m)[j]) := by
            rw [hown2.cellAt j (by omega)]
            exact svals_get _ j hjl
          have hsz2 := hb2.size
          clear hown hqr hbr hr hne
          generalize hs : (l.take m)[j] = s at *
          go_wp2_with fail
          go_roundw
          case rel => exact ⟨j + 1, by omega, by go_num, hown2, hq2, hb2⟩
          case measure => simp [intOf]; omega
        · obtain rfl : j = m := by omega
          have hd : svals ((l.take j).drop j) = [] := by
            unfold svals
            rw [List.drop_eq_nil_of_le (by rw [List.length_take]; omega)]
            rfl
          rw [hd] at hqr
          clear hd
          go_wp2_with fail
          refine (stake_none _ _ _ _ hqr).mono ?_
          rintro e w' ⟨rfl, rfl⟩
          go_wp2_with fail
          refine (awake_any _).mono ?_
          rintro e w4 ⟨rfl, hb4⟩
          have hb5 := hbr.trans (hb4.mono hbr.size)
          clear hown hqr hbr hb4
          go_wp2_with fail
          go_ret
          exact ⟨rfl, hb5⟩

set_option maxRecDepth 100000 in
set_option maxHeartbeats 1000000 in
theorem orders_long (room : Int) (A : Option Addr) (cap n : Nat) (w : World) (hl : 100 < n) :
    Calls Try.prog 4 #[.int .i64 room, .slice A n cap] w fun e w' => e = .returned (.bool true) ∧ Below w.heap.size w w' := by
  by_cases hr : 1 ≤ room ∧ room ≤ 1000
  · obtain ⟨r, rfl⟩ : ∃ r : Nat, room = r := ⟨room.toNat, by omega⟩
    go_enter Try.func4, Try.ntmps4
    go_wp2_with fail
    refine (snew_in _ r (by omega) (by omega)).mono ?_
    rintro e w1 ⟨g, c, rfl, hq, hg1, hc1, hb⟩
    go_wp2_with fail
    refine (awake_any _).mono ?_
    rintro e w4 ⟨rfl, hb4⟩
    have hb5 := hb.trans (hb4.mono hb.size)
    clear hq hb hb4
    go_wp2_with fail
    go_ret
    exact ⟨rfl, hb5⟩
  · go_enter Try.func4, Try.ntmps4
    go_wp2_with fail
    refine (snew_no _ _ (by omega)).mono ?_
    rintro e w' ⟨rfl, rfl⟩
    go_wp2_with fail
    refine (awake_any _).mono ?_
    rintro e w4 ⟨rfl, hb4⟩
    go_wp2_with fail
    go_ret
    exact ⟨rfl, hb4⟩

set_option maxRecDepth 100000 in
set_option maxHeartbeats 1000000 in
theorem orders_out (room : Int) (A : Option Addr) (cap n : Nat) (w : World) (hl : n ≤ 100) (hr : room < 1 ∨ 1000 < room) :
    Calls Try.prog 4 #[.int .i64 room, .slice A n cap] w fun e w' => e = .returned (.bool true) ∧ Below w.heap.size w w' := by
  go_enter Try.func4, Try.ntmps4
  go_wp2_with fail
  refine (snew_no _ _ hr).mono ?_
  rintro e w' ⟨rfl, rfl⟩
  go_wp2_with fail
  refine (awake_any _).mono ?_
  rintro e w4 ⟨rfl, hb4⟩
  go_wp2_with fail
  go_ret
  exact ⟨rfl, hb4⟩

theorem orders_law (room : Int) (_h : (Lit.int .i64 room).wf = true) (A : Option Addr) (cap : Nat) (l : List ByteArray) (w : World) (hrow : RowAt w A (svals l)) :
    Calls Try.prog 4 #[.int .i64 room, .slice A l.length cap] w fun e w' => e = .returned (.bool true) ∧ Below w.heap.size w w' := by
  by_cases hl : l.length ≤ 100
  · by_cases hr : 1 ≤ room ∧ room ≤ 1000
    · obtain ⟨r, rfl⟩ : ∃ r : Nat, room = r := ⟨room.toNat, by omega⟩
      exact orders_main r A cap l w (by omega) (by omega) hl hrow
    · exact orders_out room A cap l.length w hl (by omega)
  · exact orders_long room A cap l.length w (by omega)
end Go.Proofs.Ytonikpljhbnoiaa
