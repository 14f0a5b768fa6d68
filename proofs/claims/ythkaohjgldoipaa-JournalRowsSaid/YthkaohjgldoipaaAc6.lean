/-
  account: accounts that are the same, New, place, kind, may.
-/
import Derived.Test.YthkaohjgldoipaaAc5
namespace Go.Proofs.Ythkaohjgldoipaa
open Go.RowKit
theorem take_ext {α : Type} {l m : List α} {k : Nat} (hl : k < l.length) (hm : k < m.length) (h : l.take k = m.take k) (he : l[k] = m[k]) : l.take (k + 1) = m.take (k + 1) := by
  rw [List.take_succ_eq_append_getElem hl, List.take_succ_eq_append_getElem hm, h, he]
section
variable {A A' : Option Addr} {c c' : Nat} {l m : List Acc} {w : World}

set_option maxRecDepth 100000 in
set_option maxHeartbeats 2000000 in
theorem aequal_any (hm : l.length ≤ 1000000) (hm' : m.length ≤ 1000000) (hr : RowC w A l) (hr' : RowC w A' m) : Calls Try.prog 59 #[.slice A l.length c, .slice A' m.length c'] w fun e w' => e = .returned (.bool (decide (l = m))) ∧ Below w.heap.size w w' := by
  by_cases hlm : l.length = m.length
  · have R := Lib.hid hr
    have R' := Lib.hid hr'
    obtain ⟨n, hn⟩ : ∃ n, n = l.length := ⟨_, rfl⟩
    have H0 : Hid (l.take 0 = m.take 0) := rfl
    rw [← hn] at hm hlm ⊢
    rw [← hlm] at hm' ⊢
    replace hn := Lib.hid hn
    replace hlm := Lib.hid hlm
    clear hr hr'
    go_enter Try.func59, Try.ntmps59
    go_wp2
    go_loopw [13] (fun i wr => ∃ k : Nat, k ≤ n ∧ i = .int .i64 k ∧ Hid (l.take k = m.take k) ∧ Below w.heap.size w wr) (fun i _ => n - (intOf i).toNat)
    case atStart => exact ⟨0, by omega, rfl, H0, Below.refl _ _⟩
    case round =>
      clear H0
      obtain ⟨k, hk, rfl, hI, hb⟩ := hrel
      by_cases hkn : k < n
      · have k1 : k < l.length := by have := hn.out; omega
        have k2 : k < m.length := by have := hlm.out; omega
        obtain ⟨b0, off, rfl, hg, hc⟩ := (R.out.later hb).get (by omega)
        obtain ⟨b2, off2, rfl, hg2, hc2⟩ := (R'.out.later hb).get (by omega)
        obtain ⟨h1, h2, h3, h4⟩ := hc k k1
        obtain ⟨g1, g2, g3, g4⟩ := hc2 k k2
        have HS := Lib.hid fun he => take_ext k1 k2 hI.out he
        have HN : Hid (l[k] ≠ m[k] → l ≠ m) := fun he hx => by subst hx; exact he rfl
        clear hc hc2
        generalize l[k] = x1 at *
        generalize m[k] = x2 at *
        obtain ⟨p1, d1, s1, q1⟩ := x1
        obtain ⟨p2, d2, s2, q2⟩ := x2
        dsimp only at h1 h2 h3 h4 g1 g2 g3 g4
        by_cases he : (⟨p1, d1, s1, q1⟩ : Acc) = ⟨p2, d2, s2, q2⟩
        · have HE := Lib.hid (HS.out he)
          injection he with e1 e2 e3 e4
          subst e1 e2 e3 e4
          clear HS HN
          go_upto_region 6 with fail
          refine wp_region_noPanic ?_
          refine wp_region_held_drew (S := (fun w' => w'.cell? ⟨b0, off + k * 4, none⟩ = some (.int .i64 p1) ∧ w'.cell? ⟨b0, off + k * 4 + 1, none⟩ = some (.int .i64 d1) ∧ w'.cell? ⟨b0, off + k * 4 + 2, none⟩ = some (.bool s1) ∧ w'.cell? ⟨b0, off + k * 4 + 3, none⟩ = some (.bool q1) ∧ w'.cell? ⟨b2, off2 + k * 4, none⟩ = some (.int .i64 p1) ∧ w'.cell? ⟨b2, off2 + k * 4 + 1, none⟩ = some (.int .i64 d1) ∧ w'.cell? ⟨b2, off2 + k * 4 + 2, none⟩ = some (.bool s1) ∧ w'.cell? ⟨b2, off2 + k * 4 + 3, none⟩ = some (.bool q1))) (by kernel_rfl) ?_ (fun hHeld => ?_)
          · go_keep
          refine wpAnyH_take (i := 0) (v := ?ve0) rfl (by kernel_rfl) (by kernel_rfl) (by kernel_rfl) (fun _ _ _ h => h) (Or.inl ⟨by kernel_rfl, ?hye0⟩) (by assumption) ?reste0
          case hye0 => (intro w hSw; (try dsimp only at hSw); go_simp; (try with_reducible rfl))
          go_simp
          refine wpAnyH_take (i := 1) (v := ?ve1) rfl (by kernel_rfl) (by kernel_rfl) (by kernel_rfl) (fun _ _ _ h => h) (Or.inl ⟨by kernel_rfl, ?hye1⟩) (by assumption) ?reste1
          case hye1 => (intro w hSw; (try dsimp only at hSw); go_simp; (try with_reducible rfl))
          go_simp
          refine wpAnyH_take (i := 2) (v := ?ve2) rfl (by kernel_rfl) (by kernel_rfl) (by kernel_rfl) (fun _ _ _ h => h) (Or.inl ⟨by kernel_rfl, ?hye2⟩) (by assumption) ?reste2
          case hye2 => (intro w hSw; (try dsimp only at hSw); go_simp; (try with_reducible rfl))
          go_simp
          refine wpAnyH_take (i := 3) (v := ?ve3) rfl (by kernel_rfl) (by kernel_rfl) (by kernel_rfl) (fun _ _ _ h => h) (Or.inl ⟨by kernel_rfl, ?hye3⟩) (by assumption) ?reste3
          case hye3 => (intro w hSw; (try dsimp only at hSw); go_simp; (try with_reducible rfl))
          go_simp
          refine wpAnyH_take (i := 4) (v := ?ve4) rfl (by kernel_rfl) (by kernel_rfl) (by kernel_rfl) (fun _ _ _ h => h) (Or.inl ⟨by kernel_rfl, ?hye4⟩) (by assumption) ?reste4
          case hye4 => (intro w hSw; (try dsimp only at hSw); go_simp; (try with_reducible rfl))
          go_simp
          refine wpAnyH_take (i := 5) (v := ?ve5) rfl (by kernel_rfl) (by kernel_rfl) (by kernel_rfl) (fun _ _ _ h => h) (Or.inl ⟨by kernel_rfl, ?hye5⟩) (by assumption) ?reste5
          case hye5 => (intro w hSw; (try dsimp only at hSw); go_simp; (try with_reducible rfl))
          go_simp
          refine wpAnyH_take (i := 6) (v := ?ve6) rfl (by kernel_rfl) (by kernel_rfl) (by kernel_rfl) (fun _ _ _ h => h) (Or.inl ⟨by kernel_rfl, ?hye6⟩) (by assumption) ?reste6
          case hye6 => (intro w hSw; (try dsimp only at hSw); go_simp; (try with_reducible rfl))
          go_simp
          refine wpAnyH_take (i := 7) (v := ?ve7) rfl (by kernel_rfl) (by kernel_rfl) (by kernel_rfl) (fun _ _ _ h => h) (Or.inl ⟨by kernel_rfl, ?hye7⟩) (by assumption) ?reste7
          case hye7 => (intro w hSw; (try dsimp only at hSw); go_simp; (try with_reducible rfl))
          go_simp
          refine wpAnyH_take (i := 8) (v := ?ve8) rfl (by kernel_rfl) (by kernel_rfl) (by kernel_rfl) (fun _ _ _ h => h) (Or.inl ⟨by kernel_rfl, ?hye8⟩) (by assumption) ?reste8
          case hye8 => (intro w hSw; (try dsimp only at hSw); go_simp; (try with_reducible rfl))
          go_simp
          refine wpAnyH_done (by kernel_rfl) ?_ _
          refine NoPanic.normal ?_
          go_wp2
          go_roundw
          case rel => exact ⟨k + 1, by omega, by go_num, HE, below_drewN hb 1⟩
          case measure => simp [intOf]; omega
        · have HE := Lib.hid (HN.out he)
          clear HS HN
          have h4c : ¬ p1 = p2 ∨ (p1 = p2 ∧ ¬ d1 = d2) ∨ (p1 = p2 ∧ d1 = d2 ∧ ¬ s1 = s2) ∨ (p1 = p2 ∧ d1 = d2 ∧ s1 = s2 ∧ ¬ q1 = q2) := by
            by_cases e1 : p1 = p2
            · by_cases e2 : d1 = d2
              · by_cases e3 : s1 = s2
                · exact .inr (.inr (.inr ⟨e1, e2, e3, fun e4 => he (by rw [e1, e2, e3, e4])⟩))
                · exact .inr (.inr (.inl ⟨e1, e2, e3⟩))
              · exact .inr (.inl ⟨e1, e2⟩)
            · exact .inl e1
          clear he
          rcases h4c with e1 | ⟨rfl, e2⟩ | ⟨rfl, rfl, e3⟩ | ⟨rfl, rfl, rfl, e4⟩
          · go_upto_region 6 with fail
            refine wp_region_noPanic ?_
            refine wp_region_held_drew (S := (fun w' => w'.cell? ⟨b0, off + k * 4, none⟩ = some (.int .i64 p1) ∧ w'.cell? ⟨b0, off + k * 4 + 1, none⟩ = some (.int .i64 d1) ∧ w'.cell? ⟨b0, off + k * 4 + 2, none⟩ = some (.bool s1) ∧ w'.cell? ⟨b0, off + k * 4 + 3, none⟩ = some (.bool q1) ∧ w'.cell? ⟨b2, off2 + k * 4, none⟩ = some (.int .i64 p2) ∧ w'.cell? ⟨b2, off2 + k * 4 + 1, none⟩ = some (.int .i64 d2) ∧ w'.cell? ⟨b2, off2 + k * 4 + 2, none⟩ = some (.bool s2) ∧ w'.cell? ⟨b2, off2 + k * 4 + 3, none⟩ = some (.bool q2))) (by kernel_rfl) ?_ (fun hHeld => ?_)
            · go_keep
            refine wpAnyH_take (i := 0) (v := ?vn00) rfl (by kernel_rfl) (by kernel_rfl) (by kernel_rfl) (fun _ _ _ h => h) (Or.inl ⟨by kernel_rfl, ?hyn00⟩) (by assumption) ?restn00
            case hyn00 => (intro w hSw; (try dsimp only at hSw); go_simp; (try with_reducible rfl))
            go_simp
            refine wpAnyH_take (i := 1) (v := ?vn01) rfl (by kernel_rfl) (by kernel_rfl) (by kernel_rfl) (fun _ _ _ h => h) (Or.inl ⟨by kernel_rfl, ?hyn01⟩) (by assumption) ?restn01
            case hyn01 => (intro w hSw; (try dsimp only at hSw); go_simp; (try with_reducible rfl))
            go_simp
            refine wpAnyH_take (i := 2) (v := ?vn02) rfl (by kernel_rfl) (by kernel_rfl) (by kernel_rfl) (fun _ _ _ h => h) (Or.inl ⟨by kernel_rfl, ?hyn02⟩) (by assumption) ?restn02
            case hyn02 => (intro w hSw; (try dsimp only at hSw); go_simp; (try with_reducible rfl))
            go_simp
            refine wpAnyH_take (i := 3) (v := ?vn03) rfl (by kernel_rfl) (by kernel_rfl) (by kernel_rfl) (fun _ _ _ h => h) (Or.inl ⟨by kernel_rfl, ?hyn03⟩) (by assumption) ?restn03
            case hyn03 => (intro w hSw; (try dsimp only at hSw); go_simp; (try with_reducible rfl))
            go_simp
            refine wpAnyH_take (i := 4) (v := ?vn04) rfl (by kernel_rfl) (by kernel_rfl) (by kernel_rfl) (fun _ _ _ h => h) (Or.inl ⟨by kernel_rfl, ?hyn04⟩) (by assumption) ?restn04
            case hyn04 => (intro w hSw; (try dsimp only at hSw); go_simp; (try with_reducible rfl))
            go_simp
            refine wpAnyH_take (i := 5) (v := ?vn05) rfl (by kernel_rfl) (by kernel_rfl) (by kernel_rfl) (fun _ _ _ h => h) (Or.inl ⟨by kernel_rfl, ?hyn05⟩) (by assumption) ?restn05
            case hyn05 => (intro w hSw; (try dsimp only at hSw); go_simp; (try with_reducible rfl))
            go_simp
            refine wpAnyH_take (i := 6) (v := ?vn06) rfl (by kernel_rfl) (by kernel_rfl) (by kernel_rfl) (fun _ _ _ h => h) (Or.inl ⟨by kernel_rfl, ?hyn06⟩) (by assumption) ?restn06
            case hyn06 => (intro w hSw; (try dsimp only at hSw); go_simp; (try with_reducible rfl))
            go_simp
            refine wpAnyH_take (i := 7) (v := ?vn07) rfl (by kernel_rfl) (by kernel_rfl) (by kernel_rfl) (fun _ _ _ h => h) (Or.inl ⟨by kernel_rfl, ?hyn07⟩) (by assumption) ?restn07
            case hyn07 => (intro w hSw; (try dsimp only at hSw); go_simp; (try with_reducible rfl))
            go_simp
            refine wpAnyH_take (i := 8) (v := ?vn08) rfl (by kernel_rfl) (by kernel_rfl) (by kernel_rfl) (fun _ _ _ h => h) (Or.inl ⟨by kernel_rfl, ?hyn08⟩) (by assumption) ?restn08
            case hyn08 => (intro w hSw; (try dsimp only at hSw); go_simp; (try with_reducible rfl))
            go_simp
            refine wpAnyH_done (by kernel_rfl) ?_ _
            refine NoPanic.normal ?_
            go_wp2
            go_ret
            exact ⟨by rw [decide_eq_false HE.out]; rfl, below_drewN hb 1⟩
          · go_upto_region 6 with fail
            refine wp_region_noPanic ?_
            refine wp_region_held_drew (S := (fun w' => w'.cell? ⟨b0, off + k * 4, none⟩ = some (.int .i64 p1) ∧ w'.cell? ⟨b0, off + k * 4 + 1, none⟩ = some (.int .i64 d1) ∧ w'.cell? ⟨b0, off + k * 4 + 2, none⟩ = some (.bool s1) ∧ w'.cell? ⟨b0, off + k * 4 + 3, none⟩ = some (.bool q1) ∧ w'.cell? ⟨b2, off2 + k * 4, none⟩ = some (.int .i64 p1) ∧ w'.cell? ⟨b2, off2 + k * 4 + 1, none⟩ = some (.int .i64 d2) ∧ w'.cell? ⟨b2, off2 + k * 4 + 2, none⟩ = some (.bool s2) ∧ w'.cell? ⟨b2, off2 + k * 4 + 3, none⟩ = some (.bool q2))) (by kernel_rfl) ?_ (fun hHeld => ?_)
            · go_keep
            refine wpAnyH_take (i := 0) (v := ?vn10) rfl (by kernel_rfl) (by kernel_rfl) (by kernel_rfl) (fun _ _ _ h => h) (Or.inl ⟨by kernel_rfl, ?hyn10⟩) (by assumption) ?restn10
            case hyn10 => (intro w hSw; (try dsimp only at hSw); go_simp; (try with_reducible rfl))
            go_simp
            refine wpAnyH_take (i := 1) (v := ?vn11) rfl (by kernel_rfl) (by kernel_rfl) (by kernel_rfl) (fun _ _ _ h => h) (Or.inl ⟨by kernel_rfl, ?hyn11⟩) (by assumption) ?restn11
            case hyn11 => (intro w hSw; (try dsimp only at hSw); go_simp; (try with_reducible rfl))
            go_simp
            refine wpAnyH_take (i := 2) (v := ?vn12) rfl (by kernel_rfl) (by kernel_rfl) (by kernel_rfl) (fun _ _ _ h => h) (Or.inl ⟨by kernel_rfl, ?hyn12⟩) (by assumption) ?restn12
            case hyn12 => (intro w hSw; (try dsimp only at hSw); go_simp; (try with_reducible rfl))
            go_simp
            refine wpAnyH_take (i := 3) (v := ?vn13) rfl (by kernel_rfl) (by kernel_rfl) (by kernel_rfl) (fun _ _ _ h => h) (Or.inl ⟨by kernel_rfl, ?hyn13⟩) (by assumption) ?restn13
            case hyn13 => (intro w hSw; (try dsimp only at hSw); go_simp; (try with_reducible rfl))
            go_simp
            refine wpAnyH_take (i := 4) (v := ?vn14) rfl (by kernel_rfl) (by kernel_rfl) (by kernel_rfl) (fun _ _ _ h => h) (Or.inl ⟨by kernel_rfl, ?hyn14⟩) (by assumption) ?restn14
            case hyn14 => (intro w hSw; (try dsimp only at hSw); go_simp; (try with_reducible rfl))
            go_simp
            refine wpAnyH_take (i := 5) (v := ?vn15) rfl (by kernel_rfl) (by kernel_rfl) (by kernel_rfl) (fun _ _ _ h => h) (Or.inl ⟨by kernel_rfl, ?hyn15⟩) (by assumption) ?restn15
            case hyn15 => (intro w hSw; (try dsimp only at hSw); go_simp; (try with_reducible rfl))
            go_simp
            refine wpAnyH_take (i := 6) (v := ?vn16) rfl (by kernel_rfl) (by kernel_rfl) (by kernel_rfl) (fun _ _ _ h => h) (Or.inl ⟨by kernel_rfl, ?hyn16⟩) (by assumption) ?restn16
            case hyn16 => (intro w hSw; (try dsimp only at hSw); go_simp; (try with_reducible rfl))
            go_simp
            refine wpAnyH_take (i := 7) (v := ?vn17) rfl (by kernel_rfl) (by kernel_rfl) (by kernel_rfl) (fun _ _ _ h => h) (Or.inl ⟨by kernel_rfl, ?hyn17⟩) (by assumption) ?restn17
            case hyn17 => (intro w hSw; (try dsimp only at hSw); go_simp; (try with_reducible rfl))
            go_simp
            refine wpAnyH_take (i := 8) (v := ?vn18) rfl (by kernel_rfl) (by kernel_rfl) (by kernel_rfl) (fun _ _ _ h => h) (Or.inl ⟨by kernel_rfl, ?hyn18⟩) (by assumption) ?restn18
            case hyn18 => (intro w hSw; (try dsimp only at hSw); go_simp; (try with_reducible rfl))
            go_simp
            refine wpAnyH_done (by kernel_rfl) ?_ _
            refine NoPanic.normal ?_
            go_wp2
            go_ret
            exact ⟨by rw [decide_eq_false HE.out]; rfl, below_drewN hb 1⟩
          · go_upto_region 6 with fail
            refine wp_region_noPanic ?_
            refine wp_region_held_drew (S := (fun w' => w'.cell? ⟨b0, off + k * 4, none⟩ = some (.int .i64 p1) ∧ w'.cell? ⟨b0, off + k * 4 + 1, none⟩ = some (.int .i64 d1) ∧ w'.cell? ⟨b0, off + k * 4 + 2, none⟩ = some (.bool s1) ∧ w'.cell? ⟨b0, off + k * 4 + 3, none⟩ = some (.bool q1) ∧ w'.cell? ⟨b2, off2 + k * 4, none⟩ = some (.int .i64 p1) ∧ w'.cell? ⟨b2, off2 + k * 4 + 1, none⟩ = some (.int .i64 d1) ∧ w'.cell? ⟨b2, off2 + k * 4 + 2, none⟩ = some (.bool s2) ∧ w'.cell? ⟨b2, off2 + k * 4 + 3, none⟩ = some (.bool q2))) (by kernel_rfl) ?_ (fun hHeld => ?_)
            · go_keep
            refine wpAnyH_take (i := 0) (v := ?vn20) rfl (by kernel_rfl) (by kernel_rfl) (by kernel_rfl) (fun _ _ _ h => h) (Or.inl ⟨by kernel_rfl, ?hyn20⟩) (by assumption) ?restn20
            case hyn20 => (intro w hSw; (try dsimp only at hSw); go_simp; (try with_reducible rfl))
            go_simp
            refine wpAnyH_take (i := 1) (v := ?vn21) rfl (by kernel_rfl) (by kernel_rfl) (by kernel_rfl) (fun _ _ _ h => h) (Or.inl ⟨by kernel_rfl, ?hyn21⟩) (by assumption) ?restn21
            case hyn21 => (intro w hSw; (try dsimp only at hSw); go_simp; (try with_reducible rfl))
            go_simp
            refine wpAnyH_take (i := 2) (v := ?vn22) rfl (by kernel_rfl) (by kernel_rfl) (by kernel_rfl) (fun _ _ _ h => h) (Or.inl ⟨by kernel_rfl, ?hyn22⟩) (by assumption) ?restn22
            case hyn22 => (intro w hSw; (try dsimp only at hSw); go_simp; (try with_reducible rfl))
            go_simp
            refine wpAnyH_take (i := 3) (v := ?vn23) rfl (by kernel_rfl) (by kernel_rfl) (by kernel_rfl) (fun _ _ _ h => h) (Or.inl ⟨by kernel_rfl, ?hyn23⟩) (by assumption) ?restn23
            case hyn23 => (intro w hSw; (try dsimp only at hSw); go_simp; (try with_reducible rfl))
            go_simp
            refine wpAnyH_take (i := 4) (v := ?vn24) rfl (by kernel_rfl) (by kernel_rfl) (by kernel_rfl) (fun _ _ _ h => h) (Or.inl ⟨by kernel_rfl, ?hyn24⟩) (by assumption) ?restn24
            case hyn24 => (intro w hSw; (try dsimp only at hSw); go_simp; (try with_reducible rfl))
            go_simp
            refine wpAnyH_take (i := 5) (v := ?vn25) rfl (by kernel_rfl) (by kernel_rfl) (by kernel_rfl) (fun _ _ _ h => h) (Or.inl ⟨by kernel_rfl, ?hyn25⟩) (by assumption) ?restn25
            case hyn25 => (intro w hSw; (try dsimp only at hSw); go_simp; (try with_reducible rfl))
            go_simp
            refine wpAnyH_take (i := 6) (v := ?vn26) rfl (by kernel_rfl) (by kernel_rfl) (by kernel_rfl) (fun _ _ _ h => h) (Or.inl ⟨by kernel_rfl, ?hyn26⟩) (by assumption) ?restn26
            case hyn26 => (intro w hSw; (try dsimp only at hSw); go_simp; (try with_reducible rfl))
            go_simp
            refine wpAnyH_take (i := 7) (v := ?vn27) rfl (by kernel_rfl) (by kernel_rfl) (by kernel_rfl) (fun _ _ _ h => h) (Or.inl ⟨by kernel_rfl, ?hyn27⟩) (by assumption) ?restn27
            case hyn27 => (intro w hSw; (try dsimp only at hSw); go_simp; (try with_reducible rfl))
            go_simp
            refine wpAnyH_take (i := 8) (v := ?vn28) rfl (by kernel_rfl) (by kernel_rfl) (by kernel_rfl) (fun _ _ _ h => h) (Or.inl ⟨by kernel_rfl, ?hyn28⟩) (by assumption) ?restn28
            case hyn28 => (intro w hSw; (try dsimp only at hSw); go_simp; (try with_reducible rfl))
            go_simp
            refine wpAnyH_done (by kernel_rfl) ?_ _
            refine NoPanic.normal ?_
            go_wp2
            go_ret
            exact ⟨by rw [decide_eq_false HE.out]; rfl, below_drewN hb 1⟩
          · go_upto_region 6 with fail
            refine wp_region_noPanic ?_
            refine wp_region_held_drew (S := (fun w' => w'.cell? ⟨b0, off + k * 4, none⟩ = some (.int .i64 p1) ∧ w'.cell? ⟨b0, off + k * 4 + 1, none⟩ = some (.int .i64 d1) ∧ w'.cell? ⟨b0, off + k * 4 + 2, none⟩ = some (.bool s1) ∧ w'.cell? ⟨b0, off + k * 4 + 3, none⟩ = some (.bool q1) ∧ w'.cell? ⟨b2, off2 + k * 4, none⟩ = some (.int .i64 p1) ∧ w'.cell? ⟨b2, off2 + k * 4 + 1, none⟩ = some (.int .i64 d1) ∧ w'.cell? ⟨b2, off2 + k * 4 + 2, none⟩ = some (.bool s1) ∧ w'.cell? ⟨b2, off2 + k * 4 + 3, none⟩ = some (.bool q2))) (by kernel_rfl) ?_ (fun hHeld => ?_)
            · go_keep
            refine wpAnyH_take (i := 0) (v := ?vn30) rfl (by kernel_rfl) (by kernel_rfl) (by kernel_rfl) (fun _ _ _ h => h) (Or.inl ⟨by kernel_rfl, ?hyn30⟩) (by assumption) ?restn30
            case hyn30 => (intro w hSw; (try dsimp only at hSw); go_simp; (try with_reducible rfl))
            go_simp
            refine wpAnyH_take (i := 1) (v := ?vn31) rfl (by kernel_rfl) (by kernel_rfl) (by kernel_rfl) (fun _ _ _ h => h) (Or.inl ⟨by kernel_rfl, ?hyn31⟩) (by assumption) ?restn31
            case hyn31 => (intro w hSw; (try dsimp only at hSw); go_simp; (try with_reducible rfl))
            go_simp
            refine wpAnyH_take (i := 2) (v := ?vn32) rfl (by kernel_rfl) (by kernel_rfl) (by kernel_rfl) (fun _ _ _ h => h) (Or.inl ⟨by kernel_rfl, ?hyn32⟩) (by assumption) ?restn32
            case hyn32 => (intro w hSw; (try dsimp only at hSw); go_simp; (try with_reducible rfl))
            go_simp
            refine wpAnyH_take (i := 3) (v := ?vn33) rfl (by kernel_rfl) (by kernel_rfl) (by kernel_rfl) (fun _ _ _ h => h) (Or.inl ⟨by kernel_rfl, ?hyn33⟩) (by assumption) ?restn33
            case hyn33 => (intro w hSw; (try dsimp only at hSw); go_simp; (try with_reducible rfl))
            go_simp
            refine wpAnyH_take (i := 4) (v := ?vn34) rfl (by kernel_rfl) (by kernel_rfl) (by kernel_rfl) (fun _ _ _ h => h) (Or.inl ⟨by kernel_rfl, ?hyn34⟩) (by assumption) ?restn34
            case hyn34 => (intro w hSw; (try dsimp only at hSw); go_simp; (try with_reducible rfl))
            go_simp
            refine wpAnyH_take (i := 5) (v := ?vn35) rfl (by kernel_rfl) (by kernel_rfl) (by kernel_rfl) (fun _ _ _ h => h) (Or.inl ⟨by kernel_rfl, ?hyn35⟩) (by assumption) ?restn35
            case hyn35 => (intro w hSw; (try dsimp only at hSw); go_simp; (try with_reducible rfl))
            go_simp
            refine wpAnyH_take (i := 6) (v := ?vn36) rfl (by kernel_rfl) (by kernel_rfl) (by kernel_rfl) (fun _ _ _ h => h) (Or.inl ⟨by kernel_rfl, ?hyn36⟩) (by assumption) ?restn36
            case hyn36 => (intro w hSw; (try dsimp only at hSw); go_simp; (try with_reducible rfl))
            go_simp
            refine wpAnyH_take (i := 7) (v := ?vn37) rfl (by kernel_rfl) (by kernel_rfl) (by kernel_rfl) (fun _ _ _ h => h) (Or.inl ⟨by kernel_rfl, ?hyn37⟩) (by assumption) ?restn37
            case hyn37 => (intro w hSw; (try dsimp only at hSw); go_simp; (try with_reducible rfl))
            go_simp
            refine wpAnyH_take (i := 8) (v := ?vn38) rfl (by kernel_rfl) (by kernel_rfl) (by kernel_rfl) (fun _ _ _ h => h) (Or.inl ⟨by kernel_rfl, ?hyn38⟩) (by assumption) ?restn38
            case hyn38 => (intro w hSw; (try dsimp only at hSw); go_simp; (try with_reducible rfl))
            go_simp
            refine wpAnyH_done (by kernel_rfl) ?_ _
            refine NoPanic.normal ?_
            go_wp2
            go_ret
            exact ⟨by rw [decide_eq_false HE.out]; rfl, below_drewN hb 1⟩
      · obtain rfl : k = n := by omega
        have hx : l = m := by
          have := hI.out
          have h1 := hn.out
          have h2 := hlm.out
          rw [List.take_of_length_le (by omega), List.take_of_length_le (by omega)] at this
          exact this
        replace hx := Lib.hid hx
        clear hI R R'
        go_wp2
        go_ret
        exact ⟨by rw [decide_eq_true hx.out]; rfl, hb⟩
  · have hx : ¬ l = m := fun h => hlm (by rw [h])
    rw [decide_eq_false hx]
    generalize l.length = a at *
    generalize m.length = b at *
    have hne : ((a : Int) != b) = true := by simp; omega
    clear hr hr' hx
    go_enter Try.func59, Try.ntmps59
    go_wp2
    go_ret
    exact ⟨rfl, Below.refl _ _⟩

set_option maxRecDepth 100000 in
set_option maxHeartbeats 2000000 in
theorem rsame_any (hm : l.length ≤ 1000000) (hm' : m.length ≤ 1000000) (hr : RowC w A l) (hr' : RowC w A' m) : Calls Try.prog 44 #[.slice A l.length c, .slice A' m.length c'] w fun e w' => e = .returned (.bool (decide (l = m))) ∧ Below w.heap.size w w' := by
  by_cases hlm : l.length = m.length
  · have R := Lib.hid hr
    have R' := Lib.hid hr'
    obtain ⟨n, hn⟩ : ∃ n, n = l.length := ⟨_, rfl⟩
    have H0 : Hid (l.take 0 = m.take 0) := rfl
    rw [← hn] at hm hlm ⊢
    rw [← hlm] at hm' ⊢
    replace hn := Lib.hid hn
    replace hlm := Lib.hid hlm
    clear hr hr'
    go_enter Try.func44, Try.ntmps44
    go_wp2
    go_loopw [5] (fun i wr => ∃ k : Nat, k ≤ n ∧ i = .int .i64 k ∧ Hid (l.take k = m.take k) ∧ Below w.heap.size w wr) (fun i _ => n - (intOf i).toNat)
    case atStart => exact ⟨0, by omega, rfl, H0, Below.refl _ _⟩
    case round =>
      clear H0
      obtain ⟨k, hk, rfl, hI, hb⟩ := hrel
      by_cases hkn : k < n
      · have k1 : k < l.length := by have := hn.out; omega
        have k2 : k < m.length := by have := hlm.out; omega
        obtain ⟨b0, off, rfl, hg, hc⟩ := (R.out.later hb).get (by omega)
        obtain ⟨b2, off2, rfl, hg2, hc2⟩ := (R'.out.later hb).get (by omega)
        obtain ⟨h1, h2, h3, h4⟩ := hc k k1
        obtain ⟨g1, g2, g3, g4⟩ := hc2 k k2
        have HS := Lib.hid fun he => take_ext k1 k2 hI.out he
        have HN : Hid (l[k] ≠ m[k] → l ≠ m) := fun he hx => by subst hx; exact he rfl
        clear hc hc2
        generalize l[k] = x1 at *
        generalize m[k] = x2 at *
        obtain ⟨p1, d1, s1, q1⟩ := x1
        obtain ⟨p2, d2, s2, q2⟩ := x2
        dsimp only at h1 h2 h3 h4 g1 g2 g3 g4
        by_cases he : (⟨p1, d1, s1, q1⟩ : Acc) = ⟨p2, d2, s2, q2⟩
        · have HE := Lib.hid (HS.out he)
          injection he with e1 e2 e3 e4
          subst e1 e2 e3 e4
          clear HS HN
          go_upto_region 6 with fail
          refine wp_region_noPanic ?_
          refine wp_region_held_drew (S := (fun w' => w'.cell? ⟨b0, off + k * 4, none⟩ = some (.int .i64 p1) ∧ w'.cell? ⟨b0, off + k * 4 + 1, none⟩ = some (.int .i64 d1) ∧ w'.cell? ⟨b0, off + k * 4 + 2, none⟩ = some (.bool s1) ∧ w'.cell? ⟨b0, off + k * 4 + 3, none⟩ = some (.bool q1) ∧ w'.cell? ⟨b2, off2 + k * 4, none⟩ = some (.int .i64 p1) ∧ w'.cell? ⟨b2, off2 + k * 4 + 1, none⟩ = some (.int .i64 d1) ∧ w'.cell? ⟨b2, off2 + k * 4 + 2, none⟩ = some (.bool s1) ∧ w'.cell? ⟨b2, off2 + k * 4 + 3, none⟩ = some (.bool q1))) (by kernel_rfl) ?_ (fun hHeld => ?_)
          · go_keep
          refine wpAnyH_take (i := 0) (v := ?ve0) rfl (by kernel_rfl) (by kernel_rfl) (by kernel_rfl) (fun _ _ _ h => h) (Or.inl ⟨by kernel_rfl, ?hye0⟩) (by assumption) ?reste0
          case hye0 => (intro w hSw; (try dsimp only at hSw); go_simp; (try with_reducible rfl))
          go_simp
          refine wpAnyH_take (i := 1) (v := ?ve1) rfl (by kernel_rfl) (by kernel_rfl) (by kernel_rfl) (fun _ _ _ h => h) (Or.inl ⟨by kernel_rfl, ?hye1⟩) (by assumption) ?reste1
          case hye1 => (intro w hSw; (try dsimp only at hSw); go_simp; (try with_reducible rfl))
          go_simp
          refine wpAnyH_take (i := 2) (v := ?ve2) rfl (by kernel_rfl) (by kernel_rfl) (by kernel_rfl) (fun _ _ _ h => h) (Or.inl ⟨by kernel_rfl, ?hye2⟩) (by assumption) ?reste2
          case hye2 => (intro w hSw; (try dsimp only at hSw); go_simp; (try with_reducible rfl))
          go_simp
          refine wpAnyH_take (i := 3) (v := ?ve3) rfl (by kernel_rfl) (by kernel_rfl) (by kernel_rfl) (fun _ _ _ h => h) (Or.inl ⟨by kernel_rfl, ?hye3⟩) (by assumption) ?reste3
          case hye3 => (intro w hSw; (try dsimp only at hSw); go_simp; (try with_reducible rfl))
          go_simp
          refine wpAnyH_take (i := 4) (v := ?ve4) rfl (by kernel_rfl) (by kernel_rfl) (by kernel_rfl) (fun _ _ _ h => h) (Or.inl ⟨by kernel_rfl, ?hye4⟩) (by assumption) ?reste4
          case hye4 => (intro w hSw; (try dsimp only at hSw); go_simp; (try with_reducible rfl))
          go_simp
          refine wpAnyH_take (i := 5) (v := ?ve5) rfl (by kernel_rfl) (by kernel_rfl) (by kernel_rfl) (fun _ _ _ h => h) (Or.inl ⟨by kernel_rfl, ?hye5⟩) (by assumption) ?reste5
          case hye5 => (intro w hSw; (try dsimp only at hSw); go_simp; (try with_reducible rfl))
          go_simp
          refine wpAnyH_take (i := 6) (v := ?ve6) rfl (by kernel_rfl) (by kernel_rfl) (by kernel_rfl) (fun _ _ _ h => h) (Or.inl ⟨by kernel_rfl, ?hye6⟩) (by assumption) ?reste6
          case hye6 => (intro w hSw; (try dsimp only at hSw); go_simp; (try with_reducible rfl))
          go_simp
          refine wpAnyH_take (i := 7) (v := ?ve7) rfl (by kernel_rfl) (by kernel_rfl) (by kernel_rfl) (fun _ _ _ h => h) (Or.inl ⟨by kernel_rfl, ?hye7⟩) (by assumption) ?reste7
          case hye7 => (intro w hSw; (try dsimp only at hSw); go_simp; (try with_reducible rfl))
          go_simp
          refine wpAnyH_take (i := 8) (v := ?ve8) rfl (by kernel_rfl) (by kernel_rfl) (by kernel_rfl) (fun _ _ _ h => h) (Or.inl ⟨by kernel_rfl, ?hye8⟩) (by assumption) ?reste8
          case hye8 => (intro w hSw; (try dsimp only at hSw); go_simp; (try with_reducible rfl))
          go_simp
          refine wpAnyH_done (by kernel_rfl) ?_ _
          refine NoPanic.normal ?_
          go_wp2
          go_roundw
          case rel => exact ⟨k + 1, by omega, by go_num, HE, below_drewN hb 1⟩
          case measure => simp [intOf]; omega
        · have HE := Lib.hid (HN.out he)
          clear HS HN
          have h4c : ¬ p1 = p2 ∨ (p1 = p2 ∧ ¬ d1 = d2) ∨ (p1 = p2 ∧ d1 = d2 ∧ ¬ s1 = s2) ∨ (p1 = p2 ∧ d1 = d2 ∧ s1 = s2 ∧ ¬ q1 = q2) := by
            by_cases e1 : p1 = p2
            · by_cases e2 : d1 = d2
              · by_cases e3 : s1 = s2
                · exact .inr (.inr (.inr ⟨e1, e2, e3, fun e4 => he (by rw [e1, e2, e3, e4])⟩))
                · exact .inr (.inr (.inl ⟨e1, e2, e3⟩))
              · exact .inr (.inl ⟨e1, e2⟩)
            · exact .inl e1
          clear he
          rcases h4c with e1 | ⟨rfl, e2⟩ | ⟨rfl, rfl, e3⟩ | ⟨rfl, rfl, rfl, e4⟩
          · go_upto_region 6 with fail
            refine wp_region_noPanic ?_
            refine wp_region_held_drew (S := (fun w' => w'.cell? ⟨b0, off + k * 4, none⟩ = some (.int .i64 p1) ∧ w'.cell? ⟨b0, off + k * 4 + 1, none⟩ = some (.int .i64 d1) ∧ w'.cell? ⟨b0, off + k * 4 + 2, none⟩ = some (.bool s1) ∧ w'.cell? ⟨b0, off + k * 4 + 3, none⟩ = some (.bool q1) ∧ w'.cell? ⟨b2, off2 + k * 4, none⟩ = some (.int .i64 p2) ∧ w'.cell? ⟨b2, off2 + k * 4 + 1, none⟩ = some (.int .i64 d2) ∧ w'.cell? ⟨b2, off2 + k * 4 + 2, none⟩ = some (.bool s2) ∧ w'.cell? ⟨b2, off2 + k * 4 + 3, none⟩ = some (.bool q2))) (by kernel_rfl) ?_ (fun hHeld => ?_)
            · go_keep
            refine wpAnyH_take (i := 0) (v := ?vn00) rfl (by kernel_rfl) (by kernel_rfl) (by kernel_rfl) (fun _ _ _ h => h) (Or.inl ⟨by kernel_rfl, ?hyn00⟩) (by assumption) ?restn00
            case hyn00 => (intro w hSw; (try dsimp only at hSw); go_simp; (try with_reducible rfl))
            go_simp
            refine wpAnyH_take (i := 1) (v := ?vn01) rfl (by kernel_rfl) (by kernel_rfl) (by kernel_rfl) (fun _ _ _ h => h) (Or.inl ⟨by kernel_rfl, ?hyn01⟩) (by assumption) ?restn01
            case hyn01 => (intro w hSw; (try dsimp only at hSw); go_simp; (try with_reducible rfl))
            go_simp
            refine wpAnyH_take (i := 2) (v := ?vn02) rfl (by kernel_rfl) (by kernel_rfl) (by kernel_rfl) (fun _ _ _ h => h) (Or.inl ⟨by kernel_rfl, ?hyn02⟩) (by assumption) ?restn02
            case hyn02 => (intro w hSw; (try dsimp only at hSw); go_simp; (try with_reducible rfl))
            go_simp
            refine wpAnyH_take (i := 3) (v := ?vn03) rfl (by kernel_rfl) (by kernel_rfl) (by kernel_rfl) (fun _ _ _ h => h) (Or.inl ⟨by kernel_rfl, ?hyn03⟩) (by assumption) ?restn03
            case hyn03 => (intro w hSw; (try dsimp only at hSw); go_simp; (try with_reducible rfl))
            go_simp
            refine wpAnyH_take (i := 4) (v := ?vn04) rfl (by kernel_rfl) (by kernel_rfl) (by kernel_rfl) (fun _ _ _ h => h) (Or.inl ⟨by kernel_rfl, ?hyn04⟩) (by assumption) ?restn04
            case hyn04 => (intro w hSw; (try dsimp only at hSw); go_simp; (try with_reducible rfl))
            go_simp
            refine wpAnyH_take (i := 5) (v := ?vn05) rfl (by kernel_rfl) (by kernel_rfl) (by kernel_rfl) (fun _ _ _ h => h) (Or.inl ⟨by kernel_rfl, ?hyn05⟩) (by assumption) ?restn05
            case hyn05 => (intro w hSw; (try dsimp only at hSw); go_simp; (try with_reducible rfl))
            go_simp
            refine wpAnyH_take (i := 6) (v := ?vn06) rfl (by kernel_rfl) (by kernel_rfl) (by kernel_rfl) (fun _ _ _ h => h) (Or.inl ⟨by kernel_rfl, ?hyn06⟩) (by assumption) ?restn06
            case hyn06 => (intro w hSw; (try dsimp only at hSw); go_simp; (try with_reducible rfl))
            go_simp
            refine wpAnyH_take (i := 7) (v := ?vn07) rfl (by kernel_rfl) (by kernel_rfl) (by kernel_rfl) (fun _ _ _ h => h) (Or.inl ⟨by kernel_rfl, ?hyn07⟩) (by assumption) ?restn07
            case hyn07 => (intro w hSw; (try dsimp only at hSw); go_simp; (try with_reducible rfl))
            go_simp
            refine wpAnyH_take (i := 8) (v := ?vn08) rfl (by kernel_rfl) (by kernel_rfl) (by kernel_rfl) (fun _ _ _ h => h) (Or.inl ⟨by kernel_rfl, ?hyn08⟩) (by assumption) ?restn08
            case hyn08 => (intro w hSw; (try dsimp only at hSw); go_simp; (try with_reducible rfl))
            go_simp
            refine wpAnyH_done (by kernel_rfl) ?_ _
            refine NoPanic.normal ?_
            go_wp2
            go_ret
            exact ⟨by rw [decide_eq_false HE.out]; rfl, below_drewN hb 1⟩
          · go_upto_region 6 with fail
            refine wp_region_noPanic ?_
            refine wp_region_held_drew (S := (fun w' => w'.cell? ⟨b0, off + k * 4, none⟩ = some (.int .i64 p1) ∧ w'.cell? ⟨b0, off + k * 4 + 1, none⟩ = some (.int .i64 d1) ∧ w'.cell? ⟨b0, off + k * 4 + 2, none⟩ = some (.bool s1) ∧ w'.cell? ⟨b0, off + k * 4 + 3, none⟩ = some (.bool q1) ∧ w'.cell? ⟨b2, off2 + k * 4, none⟩ = some (.int .i64 p1) ∧ w'.cell? ⟨b2, off2 + k * 4 + 1, none⟩ = some (.int .i64 d2) ∧ w'.cell? ⟨b2, off2 + k * 4 + 2, none⟩ = some (.bool s2) ∧ w'.cell? ⟨b2, off2 + k * 4 + 3, none⟩ = some (.bool q2))) (by kernel_rfl) ?_ (fun hHeld => ?_)
            · go_keep
            refine wpAnyH_take (i := 0) (v := ?vn10) rfl (by kernel_rfl) (by kernel_rfl) (by kernel_rfl) (fun _ _ _ h => h) (Or.inl ⟨by kernel_rfl, ?hyn10⟩) (by assumption) ?restn10
            case hyn10 => (intro w hSw; (try dsimp only at hSw); go_simp; (try with_reducible rfl))
            go_simp
            refine wpAnyH_take (i := 1) (v := ?vn11) rfl (by kernel_rfl) (by kernel_rfl) (by kernel_rfl) (fun _ _ _ h => h) (Or.inl ⟨by kernel_rfl, ?hyn11⟩) (by assumption) ?restn11
            case hyn11 => (intro w hSw; (try dsimp only at hSw); go_simp; (try with_reducible rfl))
            go_simp
            refine wpAnyH_take (i := 2) (v := ?vn12) rfl (by kernel_rfl) (by kernel_rfl) (by kernel_rfl) (fun _ _ _ h => h) (Or.inl ⟨by kernel_rfl, ?hyn12⟩) (by assumption) ?restn12
            case hyn12 => (intro w hSw; (try dsimp only at hSw); go_simp; (try with_reducible rfl))
            go_simp
            refine wpAnyH_take (i := 3) (v := ?vn13) rfl (by kernel_rfl) (by kernel_rfl) (by kernel_rfl) (fun _ _ _ h => h) (Or.inl ⟨by kernel_rfl, ?hyn13⟩) (by assumption) ?restn13
            case hyn13 => (intro w hSw; (try dsimp only at hSw); go_simp; (try with_reducible rfl))
            go_simp
            refine wpAnyH_take (i := 4) (v := ?vn14) rfl (by kernel_rfl) (by kernel_rfl) (by kernel_rfl) (fun _ _ _ h => h) (Or.inl ⟨by kernel_rfl, ?hyn14⟩) (by assumption) ?restn14
            case hyn14 => (intro w hSw; (try dsimp only at hSw); go_simp; (try with_reducible rfl))
            go_simp
            refine wpAnyH_take (i := 5) (v := ?vn15) rfl (by kernel_rfl) (by kernel_rfl) (by kernel_rfl) (fun _ _ _ h => h) (Or.inl ⟨by kernel_rfl, ?hyn15⟩) (by assumption) ?restn15
            case hyn15 => (intro w hSw; (try dsimp only at hSw); go_simp; (try with_reducible rfl))
            go_simp
            refine wpAnyH_take (i := 6) (v := ?vn16) rfl (by kernel_rfl) (by kernel_rfl) (by kernel_rfl) (fun _ _ _ h => h) (Or.inl ⟨by kernel_rfl, ?hyn16⟩) (by assumption) ?restn16
            case hyn16 => (intro w hSw; (try dsimp only at hSw); go_simp; (try with_reducible rfl))
            go_simp
            refine wpAnyH_take (i := 7) (v := ?vn17) rfl (by kernel_rfl) (by kernel_rfl) (by kernel_rfl) (fun _ _ _ h => h) (Or.inl ⟨by kernel_rfl, ?hyn17⟩) (by assumption) ?restn17
            case hyn17 => (intro w hSw; (try dsimp only at hSw); go_simp; (try with_reducible rfl))
            go_simp
            refine wpAnyH_take (i := 8) (v := ?vn18) rfl (by kernel_rfl) (by kernel_rfl) (by kernel_rfl) (fun _ _ _ h => h) (Or.inl ⟨by kernel_rfl, ?hyn18⟩) (by assumption) ?restn18
            case hyn18 => (intro w hSw; (try dsimp only at hSw); go_simp; (try with_reducible rfl))
            go_simp
            refine wpAnyH_done (by kernel_rfl) ?_ _
            refine NoPanic.normal ?_
            go_wp2
            go_ret
            exact ⟨by rw [decide_eq_false HE.out]; rfl, below_drewN hb 1⟩
          · go_upto_region 6 with fail
            refine wp_region_noPanic ?_
            refine wp_region_held_drew (S := (fun w' => w'.cell? ⟨b0, off + k * 4, none⟩ = some (.int .i64 p1) ∧ w'.cell? ⟨b0, off + k * 4 + 1, none⟩ = some (.int .i64 d1) ∧ w'.cell? ⟨b0, off + k * 4 + 2, none⟩ = some (.bool s1) ∧ w'.cell? ⟨b0, off + k * 4 + 3, none⟩ = some (.bool q1) ∧ w'.cell? ⟨b2, off2 + k * 4, none⟩ = some (.int .i64 p1) ∧ w'.cell? ⟨b2, off2 + k * 4 + 1, none⟩ = some (.int .i64 d1) ∧ w'.cell? ⟨b2, off2 + k * 4 + 2, none⟩ = some (.bool s2) ∧ w'.cell? ⟨b2, off2 + k * 4 + 3, none⟩ = some (.bool q2))) (by kernel_rfl) ?_ (fun hHeld => ?_)
            · go_keep
            refine wpAnyH_take (i := 0) (v := ?vn20) rfl (by kernel_rfl) (by kernel_rfl) (by kernel_rfl) (fun _ _ _ h => h) (Or.inl ⟨by kernel_rfl, ?hyn20⟩) (by assumption) ?restn20
            case hyn20 => (intro w hSw; (try dsimp only at hSw); go_simp; (try with_reducible rfl))
            go_simp
            refine wpAnyH_take (i := 1) (v := ?vn21) rfl (by kernel_rfl) (by kernel_rfl) (by kernel_rfl) (fun _ _ _ h => h) (Or.inl ⟨by kernel_rfl, ?hyn21⟩) (by assumption) ?restn21
            case hyn21 => (intro w hSw; (try dsimp only at hSw); go_simp; (try with_reducible rfl))
            go_simp
            refine wpAnyH_take (i := 2) (v := ?vn22) rfl (by kernel_rfl) (by kernel_rfl) (by kernel_rfl) (fun _ _ _ h => h) (Or.inl ⟨by kernel_rfl, ?hyn22⟩) (by assumption) ?restn22
            case hyn22 => (intro w hSw; (try dsimp only at hSw); go_simp; (try with_reducible rfl))
            go_simp
            refine wpAnyH_take (i := 3) (v := ?vn23) rfl (by kernel_rfl) (by kernel_rfl) (by kernel_rfl) (fun _ _ _ h => h) (Or.inl ⟨by kernel_rfl, ?hyn23⟩) (by assumption) ?restn23
            case hyn23 => (intro w hSw; (try dsimp only at hSw); go_simp; (try with_reducible rfl))
            go_simp
            refine wpAnyH_take (i := 4) (v := ?vn24) rfl (by kernel_rfl) (by kernel_rfl) (by kernel_rfl) (fun _ _ _ h => h) (Or.inl ⟨by kernel_rfl, ?hyn24⟩) (by assumption) ?restn24
            case hyn24 => (intro w hSw; (try dsimp only at hSw); go_simp; (try with_reducible rfl))
            go_simp
            refine wpAnyH_take (i := 5) (v := ?vn25) rfl (by kernel_rfl) (by kernel_rfl) (by kernel_rfl) (fun _ _ _ h => h) (Or.inl ⟨by kernel_rfl, ?hyn25⟩) (by assumption) ?restn25
            case hyn25 => (intro w hSw; (try dsimp only at hSw); go_simp; (try with_reducible rfl))
            go_simp
            refine wpAnyH_take (i := 6) (v := ?vn26) rfl (by kernel_rfl) (by kernel_rfl) (by kernel_rfl) (fun _ _ _ h => h) (Or.inl ⟨by kernel_rfl, ?hyn26⟩) (by assumption) ?restn26
            case hyn26 => (intro w hSw; (try dsimp only at hSw); go_simp; (try with_reducible rfl))
            go_simp
            refine wpAnyH_take (i := 7) (v := ?vn27) rfl (by kernel_rfl) (by kernel_rfl) (by kernel_rfl) (fun _ _ _ h => h) (Or.inl ⟨by kernel_rfl, ?hyn27⟩) (by assumption) ?restn27
            case hyn27 => (intro w hSw; (try dsimp only at hSw); go_simp; (try with_reducible rfl))
            go_simp
            refine wpAnyH_take (i := 8) (v := ?vn28) rfl (by kernel_rfl) (by kernel_rfl) (by kernel_rfl) (fun _ _ _ h => h) (Or.inl ⟨by kernel_rfl, ?hyn28⟩) (by assumption) ?restn28
            case hyn28 => (intro w hSw; (try dsimp only at hSw); go_simp; (try with_reducible rfl))
            go_simp
            refine wpAnyH_done (by kernel_rfl) ?_ _
            refine NoPanic.normal ?_
            go_wp2
            go_ret
            exact ⟨by rw [decide_eq_false HE.out]; rfl, below_drewN hb 1⟩
          · go_upto_region 6 with fail
            refine wp_region_noPanic ?_
            refine wp_region_held_drew (S := (fun w' => w'.cell? ⟨b0, off + k * 4, none⟩ = some (.int .i64 p1) ∧ w'.cell? ⟨b0, off + k * 4 + 1, none⟩ = some (.int .i64 d1) ∧ w'.cell? ⟨b0, off + k * 4 + 2, none⟩ = some (.bool s1) ∧ w'.cell? ⟨b0, off + k * 4 + 3, none⟩ = some (.bool q1) ∧ w'.cell? ⟨b2, off2 + k * 4, none⟩ = some (.int .i64 p1) ∧ w'.cell? ⟨b2, off2 + k * 4 + 1, none⟩ = some (.int .i64 d1) ∧ w'.cell? ⟨b2, off2 + k * 4 + 2, none⟩ = some (.bool s1) ∧ w'.cell? ⟨b2, off2 + k * 4 + 3, none⟩ = some (.bool q2))) (by kernel_rfl) ?_ (fun hHeld => ?_)
            · go_keep
            refine wpAnyH_take (i := 0) (v := ?vn30) rfl (by kernel_rfl) (by kernel_rfl) (by kernel_rfl) (fun _ _ _ h => h) (Or.inl ⟨by kernel_rfl, ?hyn30⟩) (by assumption) ?restn30
            case hyn30 => (intro w hSw; (try dsimp only at hSw); go_simp; (try with_reducible rfl))
            go_simp
            refine wpAnyH_take (i := 1) (v := ?vn31) rfl (by kernel_rfl) (by kernel_rfl) (by kernel_rfl) (fun _ _ _ h => h) (Or.inl ⟨by kernel_rfl, ?hyn31⟩) (by assumption) ?restn31
            case hyn31 => (intro w hSw; (try dsimp only at hSw); go_simp; (try with_reducible rfl))
            go_simp
            refine wpAnyH_take (i := 2) (v := ?vn32) rfl (by kernel_rfl) (by kernel_rfl) (by kernel_rfl) (fun _ _ _ h => h) (Or.inl ⟨by kernel_rfl, ?hyn32⟩) (by assumption) ?restn32
            case hyn32 => (intro w hSw; (try dsimp only at hSw); go_simp; (try with_reducible rfl))
            go_simp
            refine wpAnyH_take (i := 3) (v := ?vn33) rfl (by kernel_rfl) (by kernel_rfl) (by kernel_rfl) (fun _ _ _ h => h) (Or.inl ⟨by kernel_rfl, ?hyn33⟩) (by assumption) ?restn33
            case hyn33 => (intro w hSw; (try dsimp only at hSw); go_simp; (try with_reducible rfl))
            go_simp
            refine wpAnyH_take (i := 4) (v := ?vn34) rfl (by kernel_rfl) (by kernel_rfl) (by kernel_rfl) (fun _ _ _ h => h) (Or.inl ⟨by kernel_rfl, ?hyn34⟩) (by assumption) ?restn34
            case hyn34 => (intro w hSw; (try dsimp only at hSw); go_simp; (try with_reducible rfl))
            go_simp
            refine wpAnyH_take (i := 5) (v := ?vn35) rfl (by kernel_rfl) (by kernel_rfl) (by kernel_rfl) (fun _ _ _ h => h) (Or.inl ⟨by kernel_rfl, ?hyn35⟩) (by assumption) ?restn35
            case hyn35 => (intro w hSw; (try dsimp only at hSw); go_simp; (try with_reducible rfl))
            go_simp
            refine wpAnyH_take (i := 6) (v := ?vn36) rfl (by kernel_rfl) (by kernel_rfl) (by kernel_rfl) (fun _ _ _ h => h) (Or.inl ⟨by kernel_rfl, ?hyn36⟩) (by assumption) ?restn36
            case hyn36 => (intro w hSw; (try dsimp only at hSw); go_simp; (try with_reducible rfl))
            go_simp
            refine wpAnyH_take (i := 7) (v := ?vn37) rfl (by kernel_rfl) (by kernel_rfl) (by kernel_rfl) (fun _ _ _ h => h) (Or.inl ⟨by kernel_rfl, ?hyn37⟩) (by assumption) ?restn37
            case hyn37 => (intro w hSw; (try dsimp only at hSw); go_simp; (try with_reducible rfl))
            go_simp
            refine wpAnyH_take (i := 8) (v := ?vn38) rfl (by kernel_rfl) (by kernel_rfl) (by kernel_rfl) (fun _ _ _ h => h) (Or.inl ⟨by kernel_rfl, ?hyn38⟩) (by assumption) ?restn38
            case hyn38 => (intro w hSw; (try dsimp only at hSw); go_simp; (try with_reducible rfl))
            go_simp
            refine wpAnyH_done (by kernel_rfl) ?_ _
            refine NoPanic.normal ?_
            go_wp2
            go_ret
            exact ⟨by rw [decide_eq_false HE.out]; rfl, below_drewN hb 1⟩
      · obtain rfl : k = n := by omega
        have hx : l = m := by
          have := hI.out
          have h1 := hn.out
          have h2 := hlm.out
          rw [List.take_of_length_le (by omega), List.take_of_length_le (by omega)] at this
          exact this
        replace hx := Lib.hid hx
        clear hI R R'
        go_wp2
        go_ret
        exact ⟨by rw [decide_eq_true hx.out]; rfl, hb⟩
  · have hx : ¬ l = m := fun h => hlm (by rw [h])
    rw [decide_eq_false hx]
    generalize l.length = a at *
    generalize m.length = b at *
    have hne : ((a : Int) != b) = true := by simp; omega
    clear hr hr' hx
    go_enter Try.func44, Try.ntmps44
    go_wp2
    go_ret
    exact ⟨rfl, Below.refl _ _⟩
end
end Go.Proofs.Ythkaohjgldoipaa
