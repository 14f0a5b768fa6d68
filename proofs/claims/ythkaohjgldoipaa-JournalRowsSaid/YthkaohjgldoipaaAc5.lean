/-
  account: the document's Children, Leaf, Leaves, Under.
-/
import Derived.Test.YthkaohjgldoipaaAc4
namespace Go.Proofs.Ythkaohjgldoipaa
open Go.RowKit
theorem flt_and (b : Bool) (p : Int → Bool) (m : List Int) : m.filter (fun x => b && p x) = if b = true then m.filter p else [] := by
  cases b
  · simp
  · simp
section
variable {A : Option Addr} {c : Nat} {l : List Acc} {w : World}
theorem kid_flt (a : Int) : (upto l.length).filter (fun x => isA l a && (fA l x == a)) = kidA l a := flt_and _ _ _
theorem und_flt (a : Int) : (upto l.length).filter (fun x => isA l a && undB l a x) = undA l a := flt_and _ _ _
theorem kid_len (l : List Acc) (a : Int) : (kidA l a).length ≤ l.length := by
  unfold kidA
  split
  · exact flt_len _ _
  · exact Nat.zero_le _
theorem und_len (l : List Acc) (a : Int) : (undA l a).length ≤ l.length := by
  unfold undA
  split
  · exact flt_len _ _
  · exact Nat.zero_le _
theorem leaves_len (l : List Acc) : (leavesA l).length ≤ l.length := flt_len _ _

set_option maxRecDepth 100000 in
set_option maxHeartbeats 2000000 in
theorem rchildren_any (a : Int) (hm : l.length ≤ 1000000) (hr : RowC w A l) : Calls Try.prog 31 #[.slice A l.length c, .int .i64 a] w (NewRow (kidA l a) w) := by
  obtain ⟨i0, hi, hz0, hz1, hz2⟩ := info_parts Try.infoInt'
  have IS := fun w => ris_any A c l a w
  rw [← kid_flt a]
  have R := Lib.hid hr
  clear hr
  obtain ⟨p, hp⟩ : ∃ p : Int → Bool, p = fun x => isA l a && (fA l x == a) := ⟨_, rfl⟩
  rw [← hp]
  have hpi : Hid (∀ i, p i = (fun x => isA l a && (fA l x == a)) i) := fun i => by rw [hp]
  clear hp
  go_enter Try.func31, Try.ntmps31
  go_wp2
  go_loopw [5, 6] (fun o t wr => ∃ (k : Nat) (A' : Option Addr) (c' : Nat), k ≤ l.length ∧ o = .slice A' ((upto k).filter p).length c' ∧ t = .int .i64 k ∧ ((upto k).filter p).length ≤ c' ∧ c' ≤ maxLen ∧ wr.ownsRow w.heap.size 3 1 (.slice A' ((upto k).filter p).length c') ((upto k).filter p).length (ivals ((upto k).filter p)) ∧ Below w.heap.size w wr)
    (fun _ t _ => l.length + 0 - (intOf t).toNat)
  case atStart => exact ⟨0, none, 0, by omega, rfl, rfl, by simp [upto], by unfold maxLen; omega, World.ownsRow_nil _ _ _ _, Below.refl _ _⟩
  case round =>
    obtain ⟨k, A', c', hk, rfl, rfl, hl, hmx, hown, hb⟩ := hrel
    by_cases hkn : k < l.length
    · have hst := flt_snoc p k
      have hlen := flt_len p k
      have hpk := hpi.out ((k : Int) + 1)
      try dsimp only at hpk
      generalize (upto k).filter p = out at *
      obtain ⟨b0, off, rfl, hg, hc⟩ := (R.out.later hb).get (by omega)
      have h1 := (hc k hkn).1
      rw [← fA_get hkn] at h1
      clear hc
      generalize fA l ((k : Int) + 1) = fk at *
      cases hia : isA l a
      · rw [hia] at IS
        replace IS := Lib.hid IS
        rw [hia, Bool.false_and] at hpk
        rw [hpk, if_neg (by decide), List.append_nil] at hst
        replace hst := Lib.hid hst
        go_wp2_with fail
        refine (IS.out _).mono ?_
        rintro e _ ⟨rfl, rfl⟩
        go_wp2
        go_roundw
        case rel => exact ⟨k + 1, A', c', by omega, by rw [hst.out], by go_num, by rw [hst.out]; exact hl, hmx, by rw [hst.out]; exact hown, hb⟩
        case measure => simp [intOf]; omega
      · rw [hia] at IS
        replace IS := Lib.hid IS
        rw [hia, Bool.true_and] at hpk
        by_cases hfa : fk = a
        · have he : (fk == a) = true := by simpa using hfa
          rw [he] at hpk
          clear hfa
          rw [hpk, if_pos rfl] at hst
          replace hst := Lib.hid hst
          have hN : out.length + 1 ≤ 1099511627776 := by omega
          go_wp2_with fail
          refine (IS.out _).mono ?_
          rintro e _ ⟨rfl, rfl⟩
          have hsz := hb.size
          go_wp2_with (at_builtin; refine wpList_append_int rfl _ _ 55 rfl w.heap.size 3 i0 Try.underlying55 hi hz0 hz1 hz2 _ _ _ rfl hown ((k : Int) + 1) rfl hN hsz ?_)
          intro g3' c3 w4 hown4 hr4 hc3 hm3 hg3 hg3' hsz3
          have hb4 := hb.grown hr4 hsz (fun k hk => (hown.lt k hk).1)
          clear hown hr4 hb
          go_wp2
          go_roundw
          case rel => exact ⟨k + 1, some ⟨g3', 0, none⟩, c3, by omega, by rw [hst.out]; simp, by go_num, by rw [hst.out]; simp; exact hc3, hm3, by rw [hst.out, ivals_append, List.length_append]; exact hown4, hb4⟩
          case measure => simp [intOf]; omega
        · have he : (fk == a) = false := by simpa using hfa
          rw [he] at hpk
          clear hfa
          rw [hpk, if_neg (by decide), List.append_nil] at hst
          replace hst := Lib.hid hst
          go_wp2_with fail
          refine (IS.out _).mono ?_
          rintro e _ ⟨rfl, rfl⟩
          go_wp2
          go_roundw
          case rel => exact ⟨k + 1, A', c', by omega, by rw [hst.out], by go_num, by rw [hst.out]; exact hl, hmx, by rw [hst.out]; exact hown, hb⟩
          case measure => simp [intOf]; omega
    · obtain rfl : k = l.length := by omega
      generalize (upto l.length).filter p = out at *
      go_wp2
      go_ret
      exact ⟨A', c', rfl, hl, hmx, hown, hb⟩

set_option maxHeartbeats 2000000 in
theorem rleaf_any (x : Int) (hm : l.length ≤ 1000000) (hr : RowC w A l) : Calls Try.prog 33 #[.slice A l.length c, .int .i64 x] w fun e w' => e = .returned (.bool (leafA l x)) ∧ Below w.heap.size w w' := by
  have IS := fun w => ris_any A c l x w
  have K := Lib.hid ((rchildren_any (c := c) x hm hr).mono fun _ _ h => rowOf rfl h)
  cases hi : isA l x
  · rw [show leafA l x = false by unfold leafA; rw [hi]; rfl]
    rw [hi] at IS
    replace IS := Lib.hid IS
    clear hi hr K
    go_enter Try.func33, Try.ntmps33
    go_wp2_with fail
    refine (IS.out _).mono ?_
    rintro e _ ⟨rfl, rfl⟩
    go_wp2
    go_ret
    exact ⟨rfl, Below.refl _ _⟩
  · rw [leaf_kid hi]
    rw [hi] at IS
    replace IS := Lib.hid IS
    generalize kidA l x = ks at *
    clear hi hr
    by_cases hk : ks.length = 0
    · rw [decide_eq_true hk]
      rw [hk] at K
      go_enter Try.func33, Try.ntmps33
      go_wp2_with fail
      refine (IS.out _).mono ?_
      rintro e _ ⟨rfl, rfl⟩
      go_wp2_with fail
      refine K.out.mono ?_
      rintro e w1 ⟨A1, c1, rfl, _, b1⟩
      go_wp2
      go_ret
      exact ⟨rfl, b1⟩
    · rw [decide_eq_false hk]
      obtain ⟨m, hm9⟩ : ∃ m : Nat, ks.length = m + 1 := ⟨ks.length - 1, by omega⟩
      rw [hm9] at K
      clear hk hm9
      have hz : ((m : Int) + 1 == 0) = false := by simp; omega
      go_enter Try.func33, Try.ntmps33
      go_wp2_with fail
      refine (IS.out _).mono ?_
      rintro e _ ⟨rfl, rfl⟩
      go_wp2_with fail
      refine K.out.mono ?_
      rintro e w1 ⟨A1, c1, rfl, _, b1⟩
      go_wp2
      go_ret
      exact ⟨rfl, b1⟩

set_option maxRecDepth 100000 in
set_option maxHeartbeats 2000000 in
theorem rleaves_any  (hm : l.length ≤ 1000000) (hr : RowC w A l) : Calls Try.prog 35 #[.slice A l.length c] w (NewRow (leavesA l) w) := by
  obtain ⟨i0, hi, hz0, hz1, hz2⟩ := info_parts Try.infoInt'
  rw [show leavesA l = (upto l.length).filter (leafA l) from rfl]
  have LF := Lib.hid fun (x : Int) (w : World) (hr : RowC w A l) => rleaf_any (c := c) x hm hr
  have R := Lib.hid hr
  clear hr
  obtain ⟨p, hp⟩ : ∃ p : Int → Bool, p = leafA l := ⟨_, rfl⟩
  rw [← hp]
  have hpi : Hid (∀ i, p i = (leafA l) i) := fun i => by rw [hp]
  clear hp
  go_enter Try.func35, Try.ntmps35
  go_wp2
  go_loopw [3, 4] (fun o t wr => ∃ (k : Nat) (A' : Option Addr) (c' : Nat), k ≤ l.length ∧ o = .slice A' ((upto k).filter p).length c' ∧ t = .int .i64 ((k : Int) + 1) ∧ ((upto k).filter p).length ≤ c' ∧ c' ≤ maxLen ∧ wr.ownsRow w.heap.size 3 1 (.slice A' ((upto k).filter p).length c') ((upto k).filter p).length (ivals ((upto k).filter p)) ∧ Below w.heap.size w wr)
    (fun _ t _ => l.length + 1 - (intOf t).toNat)
  case atStart => exact ⟨0, none, 0, by omega, rfl, by go_num, by simp [upto], by unfold maxLen; omega, World.ownsRow_nil _ _ _ _, Below.refl _ _⟩
  case round =>
    obtain ⟨k, A', c', hk, rfl, rfl, hl, hmx, hown, hb⟩ := hrel
    by_cases hkn : k < l.length
    · have hst := flt_snoc p k
      have hlen := flt_len p k
      have hpk := hpi.out ((k : Int) + 1)
      try dsimp only at hpk
      generalize (upto k).filter p = out at *
      have LFk := LF.out ((k : Int) + 1) wr (R.out.later hb)
      rw [← hpk] at LFk
      clear hpk
      obtain ⟨q, hpk⟩ : ∃ q, p ((k : Int) + 1) = q := ⟨_, rfl⟩
      rw [hpk] at LFk
      replace LFk := Lib.hid LFk
      cases q
      · rw [hpk, if_neg (by decide), List.append_nil] at hst
        replace hst := Lib.hid hst
        go_wp2_with fail
        refine LFk.out.mono ?_
        rintro e w2 ⟨rfl, b2⟩
        have hown2 := own_below hown b2 (Nat.le_refl _)
        have hb2 := hb.trans (b2.mono hb.size)
        clear hown hb b2
        go_wp2
        go_roundw
        case rel => exact ⟨k + 1, A', c', by omega, by rw [hst.out], by go_num, by rw [hst.out]; exact hl, hmx, by rw [hst.out]; exact hown2, hb2⟩
        case measure => simp [intOf]; omega
      · rw [hpk, if_pos rfl] at hst
        replace hst := Lib.hid hst
        have hN : out.length + 1 ≤ 1099511627776 := by omega
        go_wp2_with fail
        refine LFk.out.mono ?_
        rintro e w2 ⟨rfl, b2⟩
        have hown2 := own_below hown b2 (Nat.le_refl _)
        have hb2 := hb.trans (b2.mono hb.size)
        clear hown hb b2
        have hsz := hb2.size
        go_wp2_with (at_builtin; refine wpList_append_int rfl _ _ 55 rfl w.heap.size 3 i0 Try.underlying55 hi hz0 hz1 hz2 _ _ _ rfl hown2 ((k : Int) + 1) rfl hN hsz ?_)
        intro g3' c3 w4 hown4 hr4 hc3 hm3 hg3 hg3' hsz3
        have hb4 := hb2.grown hr4 hsz (fun k hk => (hown2.lt k hk).1)
        clear hown2 hr4 hb2
        go_wp2
        go_roundw
        case rel => exact ⟨k + 1, some ⟨g3', 0, none⟩, c3, by omega, by rw [hst.out]; simp, by go_num, by rw [hst.out]; simp; exact hc3, hm3, by rw [hst.out, ivals_append, List.length_append]; exact hown4, hb4⟩
        case measure => simp [intOf]; omega
    · obtain rfl : k = l.length := by omega
      generalize (upto l.length).filter p = out at *
      go_wp2
      go_ret
      exact ⟨A', c', rfl, hl, hmx, hown, hb⟩

set_option maxRecDepth 100000 in
set_option maxHeartbeats 2000000 in
theorem runder_any (a : Int) (hm : l.length ≤ 1000000) (hr : RowC w A l) : Calls Try.prog 39 #[.slice A l.length c, .int .i64 a] w (NewRow (undA l a) w) := by
  obtain ⟨i0, hi, hz0, hz1, hz2⟩ := info_parts Try.infoInt'
  have IS := fun w => ris_any A c l a w
  rw [← und_flt a]
  have LF := Lib.hid fun (x : Int) (w : World) (hr : RowC w A l) => rleaf_any (c := c) x hm hr
  have UP := Lib.hid fun (x : Int) (w : World) (hr : RowC w A l) => (rup_any (c := c) x hm hr).mono fun _ _ h => rowOf rfl h
  have HS := Lib.hid fun (x : Int) (A : Option Addr) (c : Nat) (w : World) (hr : RowAt w A (ivals (upA l x))) => has_any (A := A) (c := c) (l := upA l x) (n := a) (by have := upA_len l x; unfold maxLen; omega) hr
  have R := Lib.hid hr
  clear hr
  obtain ⟨p, hp⟩ : ∃ p : Int → Bool, p = fun x => isA l a && undB l a x := ⟨_, rfl⟩
  rw [← hp]
  have hpi : Hid (∀ i, p i = (fun x => isA l a && undB l a x) i) := fun i => by rw [hp]
  clear hp
  go_enter Try.func39, Try.ntmps39
  go_wp2
  go_loopw [5, 6] (fun o t wr => ∃ (k : Nat) (A' : Option Addr) (c' : Nat), k ≤ l.length ∧ o = .slice A' ((upto k).filter p).length c' ∧ t = .int .i64 ((k : Int) + 1) ∧ ((upto k).filter p).length ≤ c' ∧ c' ≤ maxLen ∧ wr.ownsRow w.heap.size 3 1 (.slice A' ((upto k).filter p).length c') ((upto k).filter p).length (ivals ((upto k).filter p)) ∧ Below w.heap.size w wr)
    (fun _ t _ => l.length + 1 - (intOf t).toNat)
  case atStart => exact ⟨0, none, 0, by omega, rfl, by go_num, by simp [upto], by unfold maxLen; omega, World.ownsRow_nil _ _ _ _, Below.refl _ _⟩
  case round =>
    obtain ⟨k, A', c', hk, rfl, rfl, hl, hmx, hown, hb⟩ := hrel
    by_cases hkn : k < l.length
    · have hst := flt_snoc p k
      have hlen := flt_len p k
      have hpk := hpi.out ((k : Int) + 1)
      try dsimp only at hpk
      generalize (upto k).filter p = out at *
      cases hia : isA l a
      · rw [hia] at IS
        replace IS := Lib.hid IS
        rw [hia, Bool.false_and] at hpk
        rw [hpk, if_neg (by decide), List.append_nil] at hst
        replace hst := Lib.hid hst
        go_wp2_with fail
        refine (IS.out _).mono ?_
        rintro e _ ⟨rfl, rfl⟩
        go_wp2
        go_roundw
        case rel => exact ⟨k + 1, A', c', by omega, by rw [hst.out], by go_num, by rw [hst.out]; exact hl, hmx, by rw [hst.out]; exact hown, hb⟩
        case measure => simp [intOf]; omega
      · rw [hia] at IS
        replace IS := Lib.hid IS
        rw [hia, Bool.true_and] at hpk
        have LFk := LF.out ((k : Int) + 1) wr (R.out.later hb)
        have UPk := Lib.hid (UP.out ((k : Int) + 1))
        have HSk := HS.out ((k : Int) + 1)
        unfold undB at hpk
        generalize decide (a ∈ upA l ((k : Int) + 1)) = mu at *
        generalize upA l ((k : Int) + 1) = us at *
        generalize leafA l ((k : Int) + 1) = lf at *
        clear UP HS LF
        cases lf
        · rw [Bool.false_and] at hpk
          replace LFk := Lib.hid LFk
          rw [hpk, if_neg (by decide), List.append_nil] at hst
          replace hst := Lib.hid hst
          go_wp2_with fail
          refine (IS.out _).mono ?_
          rintro e _ ⟨rfl, rfl⟩
          go_wp2_with fail
          refine LFk.out.mono ?_
          rintro e w2 ⟨rfl, b2⟩
          have hown2 := own_below hown b2 (Nat.le_refl _)
          have hb2 := hb.trans (b2.mono hb.size)
          clear hown hb b2
          go_wp2
          go_roundw
          case rel => exact ⟨k + 1, A', c', by omega, by rw [hst.out], by go_num, by rw [hst.out]; exact hl, hmx, by rw [hst.out]; exact hown2, hb2⟩
          case measure => simp [intOf]; omega
        · rw [Bool.true_and] at hpk
          replace LFk := Lib.hid LFk
          by_cases hxa : (k : Int) + 1 = a
          · have he : ((k : Int) + 1 == a) = true := by simpa using hxa
            rw [he, Bool.true_or] at hpk
            clear hxa
            rw [hpk, if_pos rfl] at hst
            replace hst := Lib.hid hst
            have hN : out.length + 1 ≤ 1099511627776 := by omega
            go_wp2_with fail
            refine (IS.out _).mono ?_
            rintro e _ ⟨rfl, rfl⟩
            go_wp2_with fail
            refine LFk.out.mono ?_
            rintro e w2 ⟨rfl, b2⟩
            have hown2 := own_below hown b2 (Nat.le_refl _)
            have hb2 := hb.trans (b2.mono hb.size)
            clear hown hb b2
            have hsz := hb2.size
            go_wp2_with (at_builtin; refine wpList_append_int rfl _ _ 55 rfl w.heap.size 3 i0 Try.underlying55 hi hz0 hz1 hz2 _ _ _ rfl hown2 ((k : Int) + 1) rfl hN hsz ?_)
            intro g3' c3 w4 hown4 hr4 hc3 hm3 hg3 hg3' hsz3
            have hb4 := hb2.grown hr4 hsz (fun k hk => (hown2.lt k hk).1)
            clear hown2 hr4 hb2
            go_wp2
            go_roundw
            case rel => exact ⟨k + 1, some ⟨g3', 0, none⟩, c3, by omega, by rw [hst.out]; simp, by go_num, by rw [hst.out]; simp; exact hc3, hm3, by rw [hst.out, ivals_append, List.length_append]; exact hown4, hb4⟩
            case measure => simp [intOf]; omega
          · have he : ((k : Int) + 1 == a) = false := by simpa using hxa
            rw [he, Bool.false_or] at hpk
            clear hxa
            cases mu
            · replace HSk := Lib.hid HSk
              rw [hpk, if_neg (by decide), List.append_nil] at hst
              replace hst := Lib.hid hst
              go_wp2_with fail
              refine (IS.out _).mono ?_
              rintro e _ ⟨rfl, rfl⟩
              go_wp2_with fail
              refine LFk.out.mono ?_
              rintro e w2 ⟨rfl, b2⟩
              have hown2 := own_below hown b2 (Nat.le_refl _)
              have hb2 := hb.trans (b2.mono hb.size)
              clear hown hb b2
              go_wp2_with fail
              refine (UPk.out _ (R.out.later hb2)).mono ?_
              rintro e w3 ⟨A3, c3, rfl, r3, b3⟩
              replace hown2 := own_below hown2 b3 (Nat.le_refl _)
              replace hb2 := hb2.trans (b3.mono hb2.size)
              clear b3
              go_wp2_with fail
              refine (HSk.out _ _ _ r3).mono ?_
              rintro e _ ⟨rfl, rfl⟩
              clear r3
              go_wp2
              go_roundw
              case rel => exact ⟨k + 1, A', c', by omega, by rw [hst.out], by go_num, by rw [hst.out]; exact hl, hmx, by rw [hst.out]; exact hown2, hb2⟩
              case measure => simp [intOf]; omega
            · replace HSk := Lib.hid HSk
              rw [hpk, if_pos rfl] at hst
              replace hst := Lib.hid hst
              have hN : out.length + 1 ≤ 1099511627776 := by omega
              go_wp2_with fail
              refine (IS.out _).mono ?_
              rintro e _ ⟨rfl, rfl⟩
              go_wp2_with fail
              refine LFk.out.mono ?_
              rintro e w2 ⟨rfl, b2⟩
              have hown2 := own_below hown b2 (Nat.le_refl _)
              have hb2 := hb.trans (b2.mono hb.size)
              clear hown hb b2
              go_wp2_with fail
              refine (UPk.out _ (R.out.later hb2)).mono ?_
              rintro e w3 ⟨A3, c3, rfl, r3, b3⟩
              replace hown2 := own_below hown2 b3 (Nat.le_refl _)
              replace hb2 := hb2.trans (b3.mono hb2.size)
              clear b3
              go_wp2_with fail
              refine (HSk.out _ _ _ r3).mono ?_
              rintro e _ ⟨rfl, rfl⟩
              clear r3
              have hsz := hb2.size
              go_wp2_with (at_builtin; refine wpList_append_int rfl _ _ 55 rfl w.heap.size 3 i0 Try.underlying55 hi hz0 hz1 hz2 _ _ _ rfl hown2 ((k : Int) + 1) rfl hN hsz ?_)
              intro g3' c3 w4 hown4 hr4 hc3 hm3 hg3 hg3' hsz3
              have hb4 := hb2.grown hr4 hsz (fun k hk => (hown2.lt k hk).1)
              clear hown2 hr4 hb2
              go_wp2
              go_roundw
              case rel => exact ⟨k + 1, some ⟨g3', 0, none⟩, c3, by omega, by rw [hst.out]; simp, by go_num, by rw [hst.out]; simp; exact hc3, hm3, by rw [hst.out, ivals_append, List.length_append]; exact hown4, hb4⟩
              case measure => simp [intOf]; omega
    · obtain rfl : k = l.length := by omega
      generalize (upto l.length).filter p = out at *
      go_wp2
      go_ret
      exact ⟨A', c', rfl, hl, hmx, hown, hb⟩
end
end Go.Proofs.Ythkaohjgldoipaa
