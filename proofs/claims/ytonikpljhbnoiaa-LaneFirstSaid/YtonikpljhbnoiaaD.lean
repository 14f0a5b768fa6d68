/-
  The walk of LaneFirst: true for every two lists of ints; no further condition.
-/
import Derived.Test.YtonikpljhbnoiaaB
import Derived.Test.YtonikpljhbnoiaaSame
namespace Go.Proofs.Ytonikpljhbnoiaa
open Go.RowKit Go.Conc

theorem Try.info3 : (Try.prog.info? 3).map (fun i => (i.zero, i.size, i.bytes)) = some (some (.int .i64 0), 1, 8) := by kernel_rfl

theorem own_ne_q' {w : World} {base e n T g c room : Nat} {size : Nat} {v : Value} {xs ys : List Value} (h : w.ownsRow base e size v n xs) (hq : QAt w T g c room ys) (hne : e ≠ T) : v.ownBlock ≠ some g ∧ v.ownBlock ≠ some c := by
  obtain ⟨h1, s, r, h2⟩ := hq
  rcases h.2 with ⟨rfl, _⟩ | ⟨g', cap, cur, rfl, _, hg, _⟩
  · simp [Value.ownBlock]
  · simp only [Value.ownBlock, ne_eq, Option.some.injEq]
    constructor
    · rintro rfl
      rw [hg] at h1
      injection h1 with h1
      injection h1 with _ h1
      exact hne h1
    · rintro rfl
      rw [hg] at h2
      cases h2

/-- What Either takes next of two queues that held l and m. -/
def left (l m : List Int) (k : Nat) : List Int × List Int := (l.drop k, m.drop (k - l.length))

set_option maxRecDepth 100000 in
set_option maxHeartbeats 4000000 in
theorem first_main (A : Option Addr) (cap : Nat) (l : List Int) (A' : Option Addr) (cap' : Nat) (m : List Int) (w : World) (hl : l.length ≤ 100) (hm : m.length ≤ 100)
    (hrow : RowAt w A (ivals l)) (hrow' : RowAt w A' (ivals m)) :
    Calls Try.prog 5 #[.slice A l.length cap, .slice A' m.length cap'] w fun e w' => e = .returned (.bool true) ∧ Below w.heap.size w w' := by
  obtain ⟨i0, hi, hz0, hz1, hz2⟩ := info_parts Try.info3
  go_enter Try.func5, Try.ntmps5
  go_wp2_with fail
  refine (new_in _ 1000 (by omega) (by omega)).mono ?_
  rintro e w1 ⟨g, c, rfl, hq, hg1, hc1, hb⟩
  have hql := hq.lt
  have hbs := hb.size
  go_wp2_with fail
  refine (new_in _ 1000 (by omega) (by omega)).mono ?_
  rintro e w2 ⟨g', c', rfl, hp, hg2, hc2, hb2⟩
  have hq := hq.below hb2 (by omega) (by omega)
  have hb := hb.trans (hb2.mono (by omega))
  have hbs := hb.size
  have hne : c ≠ c' := by omega
  clear hb2 hql
  go_wp2_with fail
  go_loopw [9] (fun i wr => ∃ k : Nat, k ≤ m.length ∧ i = .int .i64 k ∧ QAt wr 58 g c 1000 [] ∧ QAt wr 58 g' c' 1000 (ivals (m.take k)) ∧ Below w.heap.size w wr) (fun i _ => m.length - (intOf i).toNat)
  case atStart => exact ⟨0, by omega, rfl, hq, hp, hb⟩
  case round =>
    clear hq hp hb hbs
    obtain ⟨k, hk, rfl, hq, hp, hb⟩ := hrel
    have hbs := hb.size
    by_cases hkm : k < m.length
    · obtain ⟨b, off, rfl, hbl, hcell⟩ := hrow'.iget (by omega)
      have hx : wr.cell? ⟨b, off + k, none⟩ = some (.int .i64 m[k]) := (hb.cell (by exact hbl)).trans (hcell k hkm)
      clear hcell hrow' hrow
      go_wp2_with fail
      refine (put_yes _ _ _ _ _ _ hp (by rw [ivals_len, List.length_take]; omega)).mono ?_
      rintro e w3 ⟨rfl, hp3, hr⟩
      rw [← ivals_take_succ m k hkm] at hp3
      have hq3 := hq.grown hp hr hne
      have hb3 := hb.grown hr (by omega) (by simp; omega)
      clear hq hp hb hr hx
      go_wp2_with fail
      go_roundw
      case rel => exact ⟨k + 1, by omega, by go_num, hq3, hp3, hb3⟩
      case measure => simp [intOf]; omega
    · obtain rfl : k = m.length := by omega
      rw [List.take_length] at hp
      go_wp2_with fail
      obtain ⟨wo, rfl⟩ : ∃ wo : World, wo = wr := ⟨_, rfl⟩
      go_loopw [10] (fun i wr => ∃ k : Nat, k ≤ l.length ∧ i = .int .i64 k ∧ QAt wr 58 g c 1000 (ivals (l.take k)) ∧ QAt wr 58 g' c' 1000 (ivals m) ∧ Below w.heap.size w wr) (fun i _ => l.length - (intOf i).toNat)
      case atStart => exact ⟨0, by omega, rfl, hq, hp, hb⟩
      case round =>
        clear hq hp hb hbs
        obtain ⟨k, hk, rfl, hq, hp, hb⟩ := hrel
        have hbs := hb.size
        by_cases hkm : k < l.length
        · obtain ⟨b, off, rfl, hbl, hcell⟩ := hrow.iget (by omega)
          have hx : wr.cell? ⟨b, off + k, none⟩ = some (.int .i64 l[k]) := (hb.cell (by exact hbl)).trans (hcell k hkm)
          clear hcell hrow' hrow
          go_wp2_with fail
          refine (put_yes _ _ _ _ _ _ hq (by rw [ivals_len, List.length_take]; omega)).mono ?_
          rintro e w3 ⟨rfl, hq3, hr⟩
          rw [← ivals_take_succ l k hkm] at hq3
          have hp3 := hp.grown hq hr (Ne.symm hne)
          have hb3 := hb.grown hr (by omega) (by simp; omega)
          clear hq hp hb hr hx
          go_wp2_with fail
          go_roundw
          case rel => exact ⟨k + 1, by omega, by go_num, hq3, hp3, hb3⟩
          case measure => simp [intOf]; omega
        · obtain rfl : k = l.length := by omega
          rw [List.take_length] at hq
          go_wp2_with fail
          obtain ⟨wo, rfl⟩ : ∃ wo : World, wo = wr := ⟨_, rfl⟩
          go_loopw [11, 12] (fun v i wr => ∃ k : Nat, k ≤ l.length + m.length ∧ i = .int .i64 k ∧ QAt wr 58 g c 1000 (ivals (l.drop k)) ∧ QAt wr 58 g' c' 1000 (ivals (m.drop (k - l.length))) ∧ wr.ownsRow w.heap.size 3 1 v k (ivals ((l ++ m).take k)) ∧ Below w.heap.size w wr) (fun _ i _ => l.length + m.length - (intOf i).toNat)
          case atStart => exact ⟨0, by omega, rfl, by simpa using hq, by simpa using hp, World.ownsRow_nil _ _ _ _, hb⟩
          case round =>
            clear hq hp hb hbs
            obtain ⟨k, hk, rfl, hq, hp, hown, hb⟩ := hrel
            have hbs := hb.size
            by_cases hkn : k < l.length + m.length
            · have hklm : k < (l ++ m).length := by rw [List.length_append]; exact hkn
              obtain ⟨Av, cv, rfl, hAv⟩ := own_form hown
              by_cases hkl : k < l.length
              · have hd : ivals (l.drop k) = Value.int .i64 (l ++ m)[k] :: ivals (l.drop (k + 1)) := by
                  unfold ivals
                  rw [List.drop_eq_getElem_cons hkl, List.map_cons, List.getElem_append_left hkl]
                have he : m.drop (k - l.length) = m.drop (k + 1 - l.length) := by rw [show k + 1 - l.length = k - l.length by omega]
                rw [he] at hp
                rw [hd] at hq
                clear hd he
                have hneq := own_ne_q' hown hq (by decide)
                go_wp2_with fail
                refine (either_fst _ _ _ _ _ _ _ hq).mono ?_
                rintro e w3 ⟨rfl, hq3, hr⟩
                have hp3 := hp.grown hq hr (Ne.symm hne)
                have hown3 := hown.kept hr (.inr hneq.2)
                have hb3 := hb.grown hr (by omega) (by simp; omega)
                have hbs3 := hb3.size
                clear hq hp hown hr hb hneq
                have Hx := Lib.hid (ivals_take_succ (l ++ m) k hklm)
                generalize (l ++ m)[k] = x at *
                go_wp2_with (at_builtin; refine wpList_append_one rfl _ _ 29 rfl w.heap.size 3 i0 (.int .i64 0) 1 8 Try.underlying29 hi hz0 hz1 hz2 rfl (by decide) _ _ _ rfl hown3 [.int .i64 x] rfl rfl ?c1 ?c2 ?c3 ?c4 ?_)
                case c1 => intro u hu; simp at hu; subst hu; rfl
                case c2 => unfold maxLen; omega
                case c3 => omega
                case c4 => omega
                intro g3 c3 w4 hown4 hr4 hc3 hm3 hg3 hg3' hsz3
                have hne4 := own_ne_q' hown3 hq3 (by decide)
                have hne5 := own_ne_q' hown3 hp3 (by decide)
                have hq4 := hq3.grownOther hr4 (fun e => hne4.1 e.symm) (fun e => hne4.2 e.symm)
                have hp4 := hp3.grownOther hr4 (fun e => hne5.1 e.symm) (fun e => hne5.2 e.symm)
                have hb4 := hb3.grown hr4 (by omega) (fun k hk => (hown3.lt k hk).1)
                clear hown3 hq3 hp3 hr4 hb3 hne4 hne5
                go_wp2_with fail
                go_roundw
                case rel => exact ⟨k + 1, by omega, by go_num, hq4, hp4, by rw [Hx.out]; exact hown4, hb4⟩
                case measure => simp [intOf]; omega
              · have hq0 : l.drop k = [] := List.drop_eq_nil_of_le (by omega)
                have hq1 : l.drop (k + 1) = [] := List.drop_eq_nil_of_le (by omega)
                have hkm : k - l.length < m.length := by omega
                have hd : ivals (m.drop (k - l.length)) = Value.int .i64 (l ++ m)[k] :: ivals (m.drop (k + 1 - l.length)) := by
                  unfold ivals
                  rw [List.drop_eq_getElem_cons hkm, List.map_cons, List.getElem_append_right (by omega), show k + 1 - l.length = k - l.length + 1 by omega]
                rw [hq0] at hq
                rw [hd] at hp
                have Hq1 := Lib.hid hq1
                clear hd hq0 hq1
                have hneq := own_ne_q' hown hp (by decide)
                go_wp2_with fail
                refine (either_snd _ _ _ _ _ _ _ _ _ hq hp).mono ?_
                rintro e w3 ⟨rfl, hp3, hr⟩
                have hq3 := hq.grown hp hr hne
                have hown3 := hown.kept hr (.inr hneq.2)
                have hb3 := hb.grown hr (by omega) (by simp; omega)
                have hbs3 := hb3.size
                clear hq hp hown hr hb hneq
                have Hx := Lib.hid (ivals_take_succ (l ++ m) k hklm)
                generalize (l ++ m)[k] = x at *
                go_wp2_with (at_builtin; refine wpList_append_one rfl _ _ 29 rfl w.heap.size 3 i0 (.int .i64 0) 1 8 Try.underlying29 hi hz0 hz1 hz2 rfl (by decide) _ _ _ rfl hown3 [.int .i64 x] rfl rfl ?d1 ?d2 ?d3 ?d4 ?_)
                case d1 => intro u hu; simp at hu; subst hu; rfl
                case d2 => unfold maxLen; omega
                case d3 => omega
                case d4 => omega
                intro g3 c3 w4 hown4 hr4 hc3 hm3 hg3 hg3' hsz3
                have hne4 := own_ne_q' hown3 hq3 (by decide)
                have hne5 := own_ne_q' hown3 hp3 (by decide)
                have hq4 := hq3.grownOther hr4 (fun e => hne4.1 e.symm) (fun e => hne4.2 e.symm)
                have hp4 := hp3.grownOther hr4 (fun e => hne5.1 e.symm) (fun e => hne5.2 e.symm)
                have hb4 := hb3.grown hr4 (by omega) (fun k hk => (hown3.lt k hk).1)
                clear hown3 hq3 hp3 hr4 hb3 hne4 hne5
                go_wp2_with fail
                go_roundw
                case rel => exact ⟨k + 1, by omega, by go_num, by rw [Hq1.out]; exact hq4, hp4, by rw [Hx.out]; exact hown4, hb4⟩
                case measure => simp [intOf]; omega
            · obtain rfl : k = l.length + m.length := by omega
              have hq0 : l.drop (l.length + m.length) = [] := List.drop_eq_nil_of_le (by omega)
              have hp0 : m.drop (l.length + m.length - l.length) = [] := List.drop_eq_nil_of_le (by omega)
              have ht : (l ++ m).take (l.length + m.length) = l ++ m := List.take_of_length_le (by rw [List.length_append]; omega)
              rw [hq0] at hq
              rw [hp0] at hp
              rw [ht] at hown
              clear hq0 hp0 ht
              obtain ⟨Av, cv, rfl, hAv⟩ := own_form hown
              go_wp2_with fail
              refine (either_none _ _ _ _ _ _ _ hq hp).mono ?_
              rintro e w' ⟨rfl, rfl⟩
              clear hq hp
              have hbW := hb
              have hrow3 := hrow.below hb (Nat.le_refl _)
              have hrow3' := hrow'.below hb (Nat.le_refl _)
              have hrowO := RowAt.of_own hown
              go_wp2_with (at_builtin; refine wpList_append_row rfl _ _ 29 rfl wr.heap.size 3 i0 (.int .i64 0) 8 Try.underlying29 hi hz0 hz1 hz2 rfl _ 0 [] rfl ?e0 A _ _ (ivals l) rfl (ivals_len l) ?e1 (ivals_one l) ?e2 ?e3 ?e4 ?_)
              case e0 => exact World.ownsRow_lit wr #[] 0 (Nat.le_refl _) (by decide) rfl
              case e1 => exact hrow3.alloc _
              case e2 => unfold maxLen; omega
              case e3 => omega
              case e4 => simp
              intro A5 c5 w5 hown5 hr5 hs5 hg5
              have hb5 : Below wr.heap.size wr w5 := ((Below.refl _ _).alloc (Nat.le_refl _) _).grown hr5 (by simp) (by simp [Value.ownBlock])
              have hrow5 := hrow3'.below hb5 (Nat.le_refl _)
              have hrowO5 := hrowO.below hb5 (Nat.le_refl _)
              clear hr5 hg5
              go_wp2_with (at_builtin; refine wpList_append_row rfl _ _ 29 rfl wr.heap.size 3 i0 (.int .i64 0) 8 Try.underlying29 hi hz0 hz1 hz2 rfl _ _ _ rfl hown5 A' _ _ (ivals m) rfl (ivals_len m) hrow5 (ivals_one m) ?f2 ?f3 ?f4 ?_)
              case f2 => unfold maxLen; omega
              case f3 => omega
              case f4 => omega
              intro A6 c6 w6 hown6 hr6 hs6 hg6
              have hb6 := hb5.grown hr6 (by omega) (fun k hk => (hown5.lt k hk).1)
              have hrowO6 := hrowO.below hb6 (Nat.le_refl _)
              have hrow6 := RowAt.of_own hown6
              rw [← ivals_append] at hrow6
              have hbs6 := hb6.size
              clear hown5 hr6 hg6 hrow5 hrowO5 hb5 hown6 hrow3 hrow3' hrowO hown
              have hlen : (l ++ m).length = l.length + m.length := List.length_append
              go_wp2_with fail
              have hsame := sameInts_any Av cv (l ++ m) A6 c6 (l ++ m) w6 (by rw [hlen]; unfold maxLen; omega) (by rw [hlen]; unfold maxLen; omega) hrowO6 hrow6
              rw [hlen] at hsame
              clear hlen
              refine hsame.mono ?_
              rintro e w7 ⟨rfl, nn, rfl⟩
              rw [decide_eq_true rfl]
              clear hsame
              go_wp2_with fail
              refine (awake_any _).mono ?_
              rintro e w8 ⟨rfl, hb8⟩
              have hb9 : Below w.heap.size w w8 := hb.trans ((below_drewN hb6 nn).trans (hb8.mono hbs6) |>.mono hbs)
              clear hb6 hb8 hb
              go_wp2_with fail
              go_ret
              exact ⟨rfl, hb9⟩

set_option maxRecDepth 100000 in
set_option maxHeartbeats 1000000 in
theorem first_long (A : Option Addr) (cap n : Nat) (A' : Option Addr) (cap' n' : Nat) (w : World) (hl : 100 < n ∨ 100 < n') (hm : n' ≤ maxLen) :
    Calls Try.prog 5 #[.slice A n cap, .slice A' n' cap'] w fun e w' => e = .returned (.bool true) ∧ Below w.heap.size w w' := by
  unfold maxLen at hm
  by_cases h1 : 100 < n
  · go_enter Try.func5, Try.ntmps5
    go_wp2_with fail
    refine (new_in _ 1000 (by omega) (by omega)).mono ?_
    rintro e w1 ⟨g, c, rfl, hq, hg1, hc1, hb⟩
    go_wp2_with fail
    refine (new_in _ 1000 (by omega) (by omega)).mono ?_
    rintro e w2 ⟨g', c', rfl, hp, hg2, hc2, hb2⟩
    have hb3 := hb.trans (hb2.mono hb.size)
    clear hb hb2 hq hp
    go_wp2_with fail
    refine (awake_any _).mono ?_
    rintro e w4 ⟨rfl, hb4⟩
    have hb5 := hb3.trans (hb4.mono hb3.size)
    clear hb3 hb4
    go_wp2_with fail
    go_ret
    exact ⟨rfl, hb5⟩
  · have h2 : 100 < n' := by omega
    clear hl
    go_enter Try.func5, Try.ntmps5
    go_wp2_with fail
    refine (new_in _ 1000 (by omega) (by omega)).mono ?_
    rintro e w1 ⟨g, c, rfl, hq, hg1, hc1, hb⟩
    go_wp2_with fail
    refine (new_in _ 1000 (by omega) (by omega)).mono ?_
    rintro e w2 ⟨g', c', rfl, hp, hg2, hc2, hb2⟩
    have hb3 := hb.trans (hb2.mono hb.size)
    clear hb hb2 hq hp
    go_wp2_with fail
    refine (awake_any _).mono ?_
    rintro e w4 ⟨rfl, hb4⟩
    have hb5 := hb3.trans (hb4.mono hb3.size)
    clear hb3 hb4
    go_wp2_with fail
    go_ret
    exact ⟨rfl, hb5⟩

theorem first_law (A : Option Addr) (cap : Nat) (l : List Int) (A' : Option Addr) (cap' : Nat) (m : List Int) (w : World) (hcap' : m.length ≤ cap') (hm : cap' ≤ maxLen)
    (hrow : RowAt w A (ivals l)) (hrow' : RowAt w A' (ivals m)) :
    Calls Try.prog 5 #[.slice A l.length cap, .slice A' m.length cap'] w fun e w' => e = .returned (.bool true) ∧ Below w.heap.size w w' := by
  by_cases h : 100 < l.length ∨ 100 < m.length
  · exact first_long _ _ _ _ _ _ _ h (by omega)
  · exact first_main _ _ _ _ _ _ _ (by omega) (by omega) hrow hrow'
end Go.Proofs.Ytonikpljhbnoiaa
