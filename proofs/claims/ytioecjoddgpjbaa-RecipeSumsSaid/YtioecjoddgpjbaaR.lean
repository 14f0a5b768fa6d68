/-
  The reference's digits: trim, digits, more, fewer: each Go function computes what the plain arithmetic says, for canonical digits of at most 100000 places.
-/
import Derived.Test.YtioecjoddgpjbaaD
namespace Go.Proofs.Ytioecjoddgpjbaa
open Go.RowKit

theorem Try.infoInt : (Try.prog.info? 3).map (fun i => (i.zero, i.size, i.bytes)) = some (some (.int .i64 0), 1, 8) := by kernel_rfl

set_option maxHeartbeats 400000 in
theorem trim_any (A : Option Addr) (c : Nat) (xs : List Int) (w : World) (hc : xs.length ≤ c) (hm : c ≤ maxLen) (hr : RowAt w A (ivals xs)) :
    Calls Try.prog 47 #[.slice A xs.length c] w fun e w' => e = .returned (.slice A (trimLen xs xs.length) c) ∧ w = w' := by
  unfold maxLen at hm
  go_enter Try.func47, Try.ntmps47
  go_wp2
  go_loop [3] (fun n => ∃ k : Nat, k ≤ xs.length ∧ n = .int .i64 k ∧ Hid (trimLen xs k = trimLen xs xs.length)) (fun n => (intOf n).toNat)
  case atStart => exact ⟨xs.length, by omega, rfl, rfl⟩
  case round =>
    obtain ⟨k, hk, rfl, ht⟩ := hrel
    by_cases hk0 : 0 < k
    · obtain ⟨b, off, rfl, hb, hcell⟩ := hr.iget (by omega)
      have hx := hcell (k - 1) (by omega)
      have ht2 : Hid (trimLen xs k = if xs[k - 1] = 0 then trimLen xs (k - 1) else k) := by
        obtain ⟨j, rfl⟩ : ∃ j, k = j + 1 := ⟨k - 1, by omega⟩
        simp only [Nat.add_sub_cancel, trimLen]
        rw [List.getElem?_eq_getElem (by omega)]
        rfl
      clear hcell
      generalize xs[k - 1] = d at *
      by_cases hd : d = 0
      · subst hd
        have Ht := Lib.hid (show trimLen xs (k - 1) = trimLen xs xs.length by rw [← ht.out, ht2.out, if_pos rfl])
        clear ht ht2
        go_wp2
        go_round
        case rel => exact ⟨k - 1, by omega, by go_num, Ht.out⟩
        case measure => simp [intOf]; omega
      · have Ht := Lib.hid (show k = trimLen xs xs.length by rw [← ht.out, ht2.out, if_neg hd])
        have hd' : (d == 0) = false := by simpa using hd
        clear ht ht2
        go_wp2
        go_ret
        exact ⟨by rw [← Ht.out]; rfl, rfl⟩
    · obtain rfl : k = 0 := by omega
      go_wp2
      go_ret
      exact ⟨by rw [← ht.out]; rfl, rfl⟩

/-- -1, 0 or 1. -/
def cmpI (a b : Int) : Int := if a < b then -1 else if b < a then 1 else 0

set_option maxHeartbeats 400000 in
theorem digits_any (A : Option Addr) (c : Nat) (xs : List Int) (A' : Option Addr) (c' : Nat) (ys : List Int) (w : World) (hm : xs.length ≤ 100000) (hm' : ys.length ≤ 100000) (cx : Can xs) (cy : Can ys) (hr : RowAt w A (ivals xs)) (hr' : RowAt w A' (ivals ys)) :
    Calls Try.prog 33 #[.slice A xs.length c, .slice A' ys.length c'] w fun e w' => e = .returned (.int .i64 (cmpI (val xs) (val ys))) ∧ ∃ n, w.drewN n = w' := by
  by_cases hl : xs.length = ys.length
  · generalize hn : xs.length = n at hm hl
    have Hn := Lib.hid hn
    have Hn' := Lib.hid hl
    clear hn hl
    rw [← Hn'.out]
    go_enter Try.func33, Try.ntmps33
    go_wp2
    go_loopw [5] (fun i wr => ∃ k m : Nat, k ≤ n ∧ i = .int .i64 (k - 1) ∧ wr = w.drewN m ∧ Hid (val (xs.drop k) = val (ys.drop k))) (fun i _ => (intOf i + 1).toNat)
    case atStart => exact ⟨n, 0, by omega, rfl, rfl, by show _ = _; rw [val_drop_nil _ _ (by rw [Hn.out]; omega), val_drop_nil _ _ (by rw [← Hn'.out]; omega)]⟩
    case round =>
      obtain ⟨k, m, hk, rfl, rfl, ht⟩ := hrel
      by_cases hkn : 0 < k
      · have hkx : k - 1 < xs.length := by rw [Hn.out]; omega
        have hky : k - 1 < ys.length := by rw [← Hn'.out]; omega
        obtain ⟨b, off, rfl, _, hc⟩ := hr.iget (by omega)
        obtain ⟨b', off', rfl, _, hc'⟩ := hr'.iget (by omega)
        have h1 := hc (k - 1) hkx
        have h2 := hc' (k - 1) hky
        have hlt : (k : Int) - 1 < (n : Int) := by omega
        have hge : (0 : Int) ≤ (k : Int) - 1 := by omega
        have e1 : ((k : Int) - 1).toNat = k - 1 := by omega
        have ht' : Hid (val (xs.drop (k - 1 + 1)) = val (ys.drop (k - 1 + 1))) := by rw [show k - 1 + 1 = k by omega]; exact ht
        have v1 := Lib.hid (fun h : xs[k - 1] < ys[k - 1] => val_lt_of cx.1 cy.1 hkx hky ht'.out h)
        have v2 := Lib.hid (fun h : ys[k - 1] < xs[k - 1] => val_lt_of cy.1 cx.1 hky hkx ht'.out.symm h)
        have v3 : Hid (xs[k - 1] = ys[k - 1] → val (xs.drop (k - 1)) = val (ys.drop (k - 1))) := by
          intro h
          rw [val_drop _ _ hkx, val_drop _ _ hky, h, ht'.out]
        clear hc hc' hr hr' ht ht'
        generalize xs[k - 1] = x at *
        generalize ys[k - 1] = y at *
        by_cases hxy : x < y
        · have V := Lib.hid (v1.out hxy)
          clear v1 v2 v3
          go_wp2
          go_quiet (fail)
          go_wp2
          go_ret
          exact ⟨by unfold cmpI; rw [if_pos V.out]; rfl, _, (World.drewN_drewN _ _ _).symm⟩
        · by_cases hyx : y < x
          · have V := Lib.hid (v2.out hyx)
            clear v1 v2 v3
            go_wp2
            go_quiet (fail)
            go_wp2
            go_quiet (fail)
            go_wp2
            go_ret
            exact ⟨by unfold cmpI; rw [if_neg (by have := V.out; omega), if_pos V.out]; rfl, _, by simp only [World.drewN_drewN]; rfl⟩
          · have V := Lib.hid (v3.out (by omega))
            clear v1 v2 v3
            go_wp2
            go_quiet (fail)
            go_wp2
            go_quiet (fail)
            go_wp2
            go_roundw
            case rel => exact ⟨k - 1, _, by omega, by go_num, rfl, V.out⟩
            case measure => simp [intOf]; omega
      · obtain rfl : k = 0 := by omega
        have V : Hid (val xs = val ys) := by have := ht.out; show _ = _; simpa using this
        clear ht
        go_wp2
        go_ret
        exact ⟨by unfold cmpI; rw [V.out, if_neg (by omega), if_neg (by omega)]; rfl, _, rfl⟩
  · have hl' : ((xs.length : Int) != (ys.length : Int)) = true := by rw [bne_iff_ne]; omega
    by_cases hlt : xs.length < ys.length
    · have V := Lib.hid (can_longer cx cy hlt)
      go_enter Try.func33, Try.ntmps33
      go_wp2
      go_ret
      exact ⟨by unfold cmpI; rw [if_pos V.out]; rfl, 0, rfl⟩
    · have V := Lib.hid (can_longer cy cx (by omega))
      go_enter Try.func33, Try.ntmps33
      go_wp2
      go_ret
      exact ⟨by unfold cmpI; rw [if_neg (by have := V.out; omega), if_pos V.out]; rfl, 0, rfl⟩

theorem more_step {o a b : List Int} {i : Nat} {carry da db : Int} (ho : o.length = i) (hda : val (a.drop i) = da + 10 * val (a.drop (i + 1))) (hdb : val (b.drop i) = db + 10 * val (b.drop (i + 1)))
    (inv : val o + ten i * (carry + val (a.drop i) + val (b.drop i)) = val a + val b) :
    val (o ++ [(carry + da + db) % 10]) + ten (i + 1) * ((carry + da + db) / 10 + val (a.drop (i + 1)) + val (b.drop (i + 1))) = val a + val b := by
  rw [val_snoc, ho, ← inv, hda, hdb]
  have e : carry + da + db = (carry + da + db) % 10 + 10 * ((carry + da + db) / 10) := by omega
  generalize (carry + da + db) % 10 = r at *
  generalize (carry + da + db) / 10 = q at *
  simp only [ten]
  grind
theorem fewer_step {o a b : List Int} {i : Nat} {d borrow borrow' da db : Int} (ho : o.length = i) (hda : val (a.drop i) = da + 10 * val (a.drop (i + 1))) (hdb : val (b.drop i) = db + 10 * val (b.drop (i + 1))) (hd : d = da - borrow - db + 10 * borrow')
    (inv : val o + ten i * (val (a.drop i) - borrow - val (b.drop i)) = val a - val b) :
    val (o ++ [d]) + ten (i + 1) * (val (a.drop (i + 1)) - borrow' - val (b.drop (i + 1))) = val a - val b := by
  rw [val_snoc, ho, ← inv, hda, hdb, hd]
  simp only [ten]
  grind
theorem val_drop0 {l : List Int} {i : Nat} (h : l.length ≤ i) : val (l.drop i) = 0 + 10 * val (l.drop (i + 1)) := by
  rw [val_drop_nil _ _ h, val_drop_nil _ _ (by omega)]; omega

/-- What more and fewer owe: canonical digits of z, in new memory. -/
def NewDigits (z : Int) (L : Nat) (w : World) (e : Ending) (w' : World) : Prop :=
  ∃ A c zs, e = .returned (.slice A zs.length c) ∧ Can zs ∧ val zs = z ∧ zs.length ≤ L ∧ zs.length ≤ c ∧ c ≤ maxLen ∧ RowS (fun b => w.heap.size ≤ b) w' A (ivals zs) ∧ Below w.heap.size w w'

theorem newDigits_of {w w' : World} {A : Option Addr} {c n : Nat} {o : List Int} {z : Int} {L : Nat} (hown : w'.ownsRow w.heap.size 3 1 (.slice A n c) n (ivals o)) (ho : o.length = n) (hd : Dg o) (hv : val o = z) (hL : n ≤ L) (hb : Below w.heap.size w w') :
    NewDigits z L w (.returned (.slice A (trimLen o o.length) c)) w' := by
  have hc := own_cap hown
  have hl : (o.take (trimLen o o.length)).length = trimLen o o.length := by rw [List.length_take]; exact Nat.min_eq_left (trimLen_le _ _)
  have ht := trimLen_le o o.length
  refine ⟨A, c, o.take (trimLen o o.length), by rw [hl], trim_can o hd _ (Nat.le_refl _), ?_, by omega, by omega, hc.2, ?_, hb⟩
  · rw [trim_val o _ (Nat.le_refl _), List.take_length, hv]
  · have := (RowS.of_own (S := fun b => w.heap.size ≤ b) hown (fun b h _ => h)).take (trimLen o o.length)
    unfold ivals at this ⊢
    rw [List.map_take]
    exact this

set_option maxRecDepth 100000 in
set_option maxHeartbeats 1000000 in
theorem more_any (A : Option Addr) (c : Nat) (xs : List Int) (A' : Option Addr) (c' : Nat) (ys : List Int) (w : World) (hm : xs.length ≤ 100000) (hm' : ys.length ≤ 100000) (dx : Dg xs) (dy : Dg ys) (hr : RowAt w A (ivals xs)) (hr' : RowAt w A' (ivals ys)) :
    Calls Try.prog 32 #[.slice A xs.length c, .slice A' ys.length c'] w (NewDigits (val xs + val ys) (max xs.length ys.length + 1) w) := by
  obtain ⟨i0, hi, hz0, hz1, hz2⟩ := info_parts Try.infoInt
  go_enter Try.func32, Try.ntmps32
  go_wp2
  go_loopw [5, 6, 7] (fun v cr i wr => ∃ (k : Nat) (carry : Int) (o : List Int), i = .int .i64 k ∧ cr = .int .i64 carry ∧ 0 ≤ carry ∧ carry ≤ 1 ∧ k ≤ max xs.length ys.length + 1 ∧ (k = max xs.length ys.length + 1 → carry ≤ 0) ∧ wr.ownsRow w.heap.size 3 1 v k (ivals o) ∧ Hid (o.length = k) ∧ Dg o ∧
      Hid (val o + ten k * (carry + val (xs.drop k) + val (ys.drop k)) = val xs + val ys) ∧ Below w.heap.size w wr) (fun _ _ i _ => max xs.length ys.length + 1 - (intOf i).toNat)
  case atStart => exact ⟨0, 0, [], rfl, rfl, by omega, by omega, by omega, fun _ => by omega, World.ownsRow_nil _ _ _ _, rfl, Dg.nil, by show _ = _; simp [val, ten], Below.refl _ _⟩
  case round =>
    obtain ⟨k, carry, o, rfl, rfl, hc0, hc1, hk, hkc, hown, ho, hdo, hinv, hb⟩ := hrel
    have hsz := hb.size
    obtain ⟨Av, cv, rfl, hAv⟩ := own_form hown
    by_cases hx : k < xs.length
    · obtain ⟨b, off, rfl, hbl, hcell⟩ := hr.iget (by omega)
      have h1 : wr.cell? ⟨b, off + k, none⟩ = some (.int .i64 xs[k]) := (hb.cell (by exact hbl)).trans (hcell k hx)
      have hda := Lib.hid (val_drop xs k hx)
      have hdx := dx.get k hx
      clear hcell
      generalize xs[k] = da at *
      by_cases hy : k < ys.length
      · obtain ⟨b', off', rfl, hbl', hcell⟩ := hr'.iget (by omega)
        have h2 : wr.cell? ⟨b', off' + k, none⟩ = some (.int .i64 ys[k]) := (hb.cell (by exact hbl')).trans (hcell k hy)
        have hdb := Lib.hid (val_drop ys k hy)
        have hdy := dy.get k hy
        clear hcell
        generalize ys[k] = db at *
        have S := Lib.hid (more_step ho.out hda.out hdb.out hinv.out)
        have D := Lib.hid (hdo.snoc (d := (carry + da + db) % 10) (by omega) (by omega))
        clear hda hdb hinv hdo
        go_wp2_with (at_builtin; refine wpList_append_one rfl _ _ 50 rfl w.heap.size 3 i0 (.int .i64 0) 1 8 Try.underlying50 hi hz0 hz1 hz2 rfl (by decide) _ _ _ rfl hown [.int .i64 ((carry + da + db) % 10)] rfl rfl ?a1 ?a2 ?a3 ?a4 ?_)
        case a1 => intro u hu; simp at hu; subst hu; rfl
        case a2 => unfold maxLen; omega
        case a3 => omega
        case a4 => omega
        intro g3 c3 w4 hown4 hr4 hc3 hm3 hg3 hg3' hsz3
        have hb4 := hb.grown hr4 (by omega) (fun k hk => (hown.lt k hk).1)
        clear hown hr4 hb h1 h2
        go_wp2
        go_roundw
        case rel => exact ⟨k + 1, (carry + da + db) / 10, o ++ [(carry + da + db) % 10], by go_num, by go_num, by omega, by omega, by omega, fun h => by omega, by rw [ivals_append]; exact hown4, by show _ = _; rw [List.length_append, ho.out]; rfl, D.out, S.out, hb4⟩
        case measure => simp [intOf]; omega
      · have hdb := Lib.hid (val_drop0 (l := ys) (i := k) (by omega))
        have S := Lib.hid (more_step ho.out hda.out hdb.out hinv.out)
        have D := Lib.hid (hdo.snoc (d := (carry + da + 0) % 10) (by omega) (by omega))
        rw [show carry + da + 0 = carry + da by omega] at S D
        clear hda hdb hinv hdo
        go_wp2_with (at_builtin; refine wpList_append_one rfl _ _ 50 rfl w.heap.size 3 i0 (.int .i64 0) 1 8 Try.underlying50 hi hz0 hz1 hz2 rfl (by decide) _ _ _ rfl hown [.int .i64 ((carry + da) % 10)] rfl rfl ?b1 ?b2 ?b3 ?b4 ?_)
        case b1 => intro u hu; simp at hu; subst hu; rfl
        case b2 => unfold maxLen; omega
        case b3 => omega
        case b4 => omega
        intro g3 c3 w4 hown4 hr4 hc3 hm3 hg3 hg3' hsz3
        have hb4 := hb.grown hr4 (by omega) (fun k hk => (hown.lt k hk).1)
        clear hown hr4 hb h1
        go_wp2
        go_roundw
        case rel => exact ⟨k + 1, (carry + da) / 10, o ++ [(carry + da) % 10], by go_num, by go_num, by omega, by omega, by omega, fun h => by omega, by rw [ivals_append]; exact hown4, by show _ = _; rw [List.length_append, ho.out]; rfl, D.out, S.out, hb4⟩
        case measure => simp [intOf]; omega
    · have hda := Lib.hid (val_drop0 (l := xs) (i := k) (by omega))
      by_cases hy : k < ys.length
      · obtain ⟨b', off', rfl, hbl', hcell⟩ := hr'.iget (by omega)
        have h2 : wr.cell? ⟨b', off' + k, none⟩ = some (.int .i64 ys[k]) := (hb.cell (by exact hbl')).trans (hcell k hy)
        have hdb := Lib.hid (val_drop ys k hy)
        have hdy := dy.get k hy
        clear hcell
        generalize ys[k] = db at *
        have S := Lib.hid (more_step ho.out hda.out hdb.out hinv.out)
        have D := Lib.hid (hdo.snoc (d := (carry + 0 + db) % 10) (by omega) (by omega))
        rw [show carry + 0 + db = carry + db by omega] at S D
        clear hda hdb hinv hdo
        go_wp2_with (at_builtin; refine wpList_append_one rfl _ _ 50 rfl w.heap.size 3 i0 (.int .i64 0) 1 8 Try.underlying50 hi hz0 hz1 hz2 rfl (by decide) _ _ _ rfl hown [.int .i64 ((carry + db) % 10)] rfl rfl ?d1 ?d2 ?d3 ?d4 ?_)
        case d1 => intro u hu; simp at hu; subst hu; rfl
        case d2 => unfold maxLen; omega
        case d3 => omega
        case d4 => omega
        intro g3 c3 w4 hown4 hr4 hc3 hm3 hg3 hg3' hsz3
        have hb4 := hb.grown hr4 (by omega) (fun k hk => (hown.lt k hk).1)
        clear hown hr4 hb h2
        go_wp2
        go_roundw
        case rel => exact ⟨k + 1, (carry + db) / 10, o ++ [(carry + db) % 10], by go_num, by go_num, by omega, by omega, by omega, fun h => by omega, by rw [ivals_append]; exact hown4, by show _ = _; rw [List.length_append, ho.out]; rfl, D.out, S.out, hb4⟩
        case measure => simp [intOf]; omega
      · have hdb := Lib.hid (val_drop0 (l := ys) (i := k) (by omega))
        by_cases hcr : 0 < carry
        · have S := Lib.hid (more_step ho.out hda.out hdb.out hinv.out)
          have D := Lib.hid (hdo.snoc (d := (carry + 0 + 0) % 10) (by omega) (by omega))
          rw [show carry + 0 + 0 = carry by omega] at S D
          clear hda hdb hinv hdo
          go_wp2_with (at_builtin; refine wpList_append_one rfl _ _ 50 rfl w.heap.size 3 i0 (.int .i64 0) 1 8 Try.underlying50 hi hz0 hz1 hz2 rfl (by decide) _ _ _ rfl hown [.int .i64 (carry % 10)] rfl rfl ?f1 ?f2 ?f3 ?f4 ?_)
          case f1 => intro u hu; simp at hu; subst hu; rfl
          case f2 => unfold maxLen; omega
          case f3 => omega
          case f4 => omega
          intro g3 c3 w4 hown4 hr4 hc3 hm3 hg3 hg3' hsz3
          have hb4 := hb.grown hr4 (by omega) (fun k hk => (hown.lt k hk).1)
          clear hown hr4 hb
          go_wp2
          go_roundw
          case rel => exact ⟨k + 1, carry / 10, o ++ [carry % 10], by go_num, by go_num, by omega, by omega, by omega, fun h => by omega, by rw [ivals_append]; exact hown4, by show _ = _; rw [List.length_append, ho.out]; rfl, D.out, S.out, hb4⟩
          case measure => simp [intOf]; omega
        · obtain rfl : carry = 0 := by omega
          have V : Hid (val o = val xs + val ys) := by
            have := hinv.out
            rw [val_drop_nil _ _ (by omega), val_drop_nil _ _ (by omega)] at this
            show _ = _
            omega
          have hrow := RowAt.of_own hown
          have hcap := own_cap hown
          have hol := ho.out
          clear hda hdb hinv
          have T := Lib.hid (trim_any Av cv o wr (by omega) hcap.2 hrow)
          rw [hol] at T
          clear hol
          go_wp2_with fail
          refine T.out.mono ?_
          rintro e w' ⟨rfl, rfl⟩
          go_wp2_with fail
          go_ret
          have := newDigits_of hown ho.out hdo V.out hk hb
          rw [ho.out] at this
          exact this
end Go.Proofs.Ytioecjoddgpjbaa
