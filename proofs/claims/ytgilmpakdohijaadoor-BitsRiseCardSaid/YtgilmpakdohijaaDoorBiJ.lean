/-
  BitsJoin: whatever two rows of numbers are put into sets, joined they have what either had, and what stays of both is what both had.
-/
import Derived.Test.YtgilmpakdohijaaDoorBiH
namespace Go.Proofs.YtgilmpakdohijaaDoor
open Go.RowKit

theorem SetB.mono {w : World} {base base' g c : Nat} {A : Option Addr} {ws : List Nat} (h : SetB w base g A c ws) (hb : base' ≤ base) : SetB w base' g A c ws := ⟨h.box, own_base h.own hb, h.wf⟩
theorem Two.third {w W W' : World} {g1 g2 g3 c2 c3 c1' : Nat} {A2 A3 A1' : Option Addr} {ws2 ws3 ws1' : List Nat} (a : Two w W' g1 g2 A1' c1' ws1' A2 c2 ws2) (b : Two w W' g1 g3 A1' c1' ws1' A3 c3 ws3) (c : Two w W g3 g2 A3 c3 ws3 A2 c2 ws2) : Two w W' g3 g2 A3 c3 ws3 A2 c2 ws2 :=
  ⟨b.t, a.t, c.ap, c.ne, c.h1, c.h2, a.bl⟩
theorem fillF_in (l : List Int) : InR (fillF l) := fun _ hx => (mem_fillF.1 hx).2
theorem allW_len {ws : List Nat} (h : WfW ws) : (allW ws).length ≤ 65536 := by
  have h1 := belowW_len ws (64 * ws.length)
  have h2 := h.len
  unfold allW
  omega
section
variable {A A1 : Option Addr} {c c1 : Nat} {l m : List Int} {w : World}
set_option maxRecDepth 100000 in
set_option maxHeartbeats 4000000 in
theorem bitsJoin_law (hl : l.length ≤ maxLen) (hm : m.length ≤ maxLen) (hr : RowAt w A (ivals l)) (hr1 : RowAt w A1 (ivals m)) (T : Tb w) :
    Calls Tryd.prog 3 #[.slice A l.length c, .slice A1 m.length c1] w fun e w' => e = .returned (.bool true) ∧ Below w.heap.size w w' := by
  obtain ⟨i0, hi, hz0, hz1, hz2⟩ := info_parts Tryd.infoInt'
  have AW := Lib.hid fun w (T : Tb w) => bawake_any w T
  have FI := Lib.hid fun (A : Option Addr) (c : Nat) (l : List Int) (w : World) (hm : l.length ≤ maxLen) (hr : RowAt w A (ivals l)) => bfilled_any (c := c) hm hr
  have hT0 : 1 ≤ w.heap.size := World.block_lt_of_cell? w _ (T 0 (by decide))
  have TT := Lib.hid T
  clear T
  obtain ⟨X, hX⟩ : ∃ X, X = fillF l := ⟨_, rfl⟩
  obtain ⟨Y, hY⟩ : ∃ Y, Y = fillF m := ⟨_, rfl⟩
  obtain ⟨R, hR⟩ : ∃ R, R = risF (X ++ Y) := ⟨_, rfl⟩
  obtain ⟨B, hB⟩ : ∃ B, B = X.filter fun z => decide (z ∈ Y) := ⟨_, rfl⟩
  have JL := join_law (x := X) (y := Y) (by rw [hX]; exact fillF_srt l) (by rw [hY]; exact fillF_in m)
  have KL := keep_law X Y
  have hRl : R.length ≤ X.length + Y.length := by
    have := risF_le (X ++ Y)
    rw [← hR, List.length_append] at this
    exact this
  have hBl : B.length ≤ X.length := by rw [hB]; exact List.length_filter_le _ _
  rw [← hR] at JL
  rw [← hB] at KL
  replace JL := Lib.hid JL
  replace KL := Lib.hid KL
  replace hX := Lib.hid hX
  replace hY := Lib.hid hY
  replace hR := Lib.hid hR
  replace hB := Lib.hid hB
  go_enter Tryd.func3, Tryd.ntmps3
  go_wp2_with fail
  refine (FI.out A c l w hl hr).mono ?_
  rintro e W1 ⟨As, cs, ws, rfl, hS, alls, b1⟩
  go_wp2_with fail
  refine (FI.out A1 c1 m W1 hm (hr1.below b1 (Nat.le_refl _))).mono ?_
  rintro e W2 ⟨At, ct, wt, rfl, hT, allt, b2⟩
  go_wp2_with fail
  refine (FI.out A c l W2 hl ((hr.below b1 (Nat.le_refl _)).below b2 (Nat.le_refl _))).mono ?_
  rintro e W3 ⟨Au, cu, wu, rfl, hU, allu, b3⟩
  have hXl : X.length ≤ 65536 := by rw [hX.out, ← alls]; exact allW_len hS.wf
  have hYl : Y.length ≤ 65536 := by rw [hY.out, ← allt]; exact allW_len hT.wf
  rw [← hX.out] at alls allu
  rw [← hY.out] at allt
  have hs1 := hS.box.lt
  have hs2 := hT.box.lt
  have sz1 := b1.size
  have sz2 := b2.size
  have sz3 := b3.size
  have BL : Below w.heap.size w W3 := (b1.trans (b2.mono sz1)).trans (b3.mono (by omega))
  have st : Two w W3 w.heap.size W1.heap.size As cs ws At ct wt := ⟨(hS.later b2).later b3, (hT.later b3).mono sz1, (fun b h1 h2 => by have := hS.row_lt h1; have := hT.row_lt h2; omega), by omega, Nat.le_refl _, by omega, BL⟩
  have su : Two w W3 w.heap.size W2.heap.size As cs ws Au cu wu := ⟨(hS.later b2).later b3, hU.mono (by omega), (fun b h1 h2 => by have := hS.row_lt h1; have := hU.row_lt h2; omega), by omega, Nat.le_refl _, by omega, BL⟩
  have ut : Two w W3 W2.heap.size W1.heap.size Au cu wu At ct wt := ⟨hU.mono (by omega), (hT.later b3).mono sz1, (fun b h1 h2 => by have := hU.row_lt h1; have := hT.row_lt h2; omega), by omega, by omega, by omega, BL⟩
  clear hS hT hU b1 b2 b3
  generalize W1.heap.size = g1 at *
  generalize W2.heap.size = g2 at *
  clear hs1 hs2 sz1 sz2 sz3
  by_cases h1 : 100 < l.length
  · go_wp2_with fail
    refine (AW.out _ (st.tb TT.out)).mono ?_
    rintro e w9 ⟨rfl, h9⟩
    go_wp2
    go_ret
    exact ⟨rfl, BL.trans (h9.mono BL.size)⟩
  · by_cases h2 : 100 < m.length
    · go_wp2_with fail
      refine (AW.out _ (st.tb TT.out)).mono ?_
      rintro e w9 ⟨rfl, h9⟩
      go_wp2
      go_ret
      exact ⟨rfl, BL.trans (h9.mono BL.size)⟩
    · have AL := ball_any (st.tb TT.out) st.s
      rw [alls] at AL
      clear BL
      go_wp2_with fail
      refine AL.mono ?_
      rintro e W4 ⟨Ax, cx, rfl, hx1, hx2, ownx, b4⟩
      have FX := su.fre ownx
      replace st := st.later b4
      replace su := su.later b4
      replace ut := ut.later b4
      clear ownx b4 AL
      have AL := ball_any (st.tb TT.out) st.t
      rw [allt] at AL
      go_wp2_with fail
      refine AL.mono ?_
      rintro e W5 ⟨Ay, cy, rfl, hy1, hy2, owny, b5⟩
      have FY := su.fre owny
      replace FX := FX.later b5
      replace st := st.later b5
      replace su := su.later b5
      replace ut := ut.later b5
      clear owny b5 AL
      have JO := callsIn_wide.1 (bjoin_in 6 (by decide) W5 (st.tb TT.out) (by omega) st.bl.size st.s st.t)
      obtain ⟨n, hn⟩ : ∃ n : Int, n = ((joinF (X, 0) Y).2 : Int) := ⟨_, rfl⟩
      rw [alls, allt, ← hn] at JO
      have hnq : (n == (R.length : Int) - (X.length : Int)) = true := by rw [hn, JL.out.2]; simp
      clear hn
      go_wp2_with fail
      refine JO.mono ?_
      rintro e W6 ⟨As2, cs2, ws2, rfl, hS, alls2, hC, hM⟩
      rw [JL.out.1] at alls2
      replace FX := FX.chg hC hM
      replace FY := FY.chg hC hM
      replace st := st.chg hS hC hM
      replace su := su.chg hS hC hM
      replace ut := Two.third st su ut
      clear st hS hC hM JO
      have KE := callsIn_wide.1 (bkeep_in 6 (by decide) W6 (ut.tb TT.out) (by omega) ut.s ut.t ut.ne (fun b hb he => ut.ap b he hb))
      obtain ⟨k, hk⟩ : ∃ k : Int, k = ((keepF Y (X, 0) X).2 : Int) := ⟨_, rfl⟩
      rw [allu, allt, ← hk] at KE
      have hkq : (k == (X.length : Int) - (B.length : Int)) = true := by rw [hk, KL.out.2]; simp
      clear hk
      go_wp2_with fail
      refine KE.mono ?_
      rintro e W7 ⟨wu2, rfl, hS, allu2, hC⟩
      rw [KL.out.1] at allu2
      replace FX := (FX.swap.chg hC (.inl rfl)).swap
      replace FY := (FY.swap.chg hC (.inl rfl)).swap
      replace ut := ut.chg hS hC (.inl rfl)
      replace su := (su.swap.chg hS hC (.inl rfl)).swap
      clear hS hC KE alls allu
      have cb : Below W7.heap.size W7 (W7.alloc (.cells #[] 3)) := (Below.refl _ _).alloc (Nat.le_refl _) _
      have own0 : (W7.alloc (.cells #[] 3)).ownsRow W7.heap.size 3 1 (.slice (some ⟨W7.heap.size, 0, none⟩) 0 0) 0 [] := own_empty (Nat.le_refl _) rfl
      go_wp2_with (at_builtin; refine wpList_append_rowN rfl _ _ 22 rfl W7.heap.size 3 i0 (.int .i64 0) 1 8 Tryd.underlying22 hi hz0 hz1 hz2 rfl (by decide) _ 0 [] rfl own0 Ax X.length cx (ivals X) rfl (by rw [ivals_len, Nat.mul_one]) (FX.row.below cb (Nat.le_refl _)) (ivals_one _) (by unfold maxLen; omega) (by omega) cb.size ?_)
      intro A8 c8 w8 hown8 hgr8
      replace cb := cb.grown hgr8 cb.size (fun k hk => (own0.lt k hk).1)
      replace hown8 : w8.ownsRow W7.heap.size 3 1 (.slice A8 X.length c8) X.length (ivals X) := by first | exact hown8 | simpa using hown8
      clear hgr8 own0
      go_wp2_with (at_builtin; refine wpList_append_rowN rfl _ _ 22 rfl W7.heap.size 3 i0 (.int .i64 0) 1 8 Tryd.underlying22 hi hz0 hz1 hz2 rfl (by decide) _ X.length (ivals X) rfl hown8 Ay Y.length cy (ivals Y) rfl (by rw [ivals_len, Nat.mul_one]) (FY.row.below cb (Nat.le_refl _)) (ivals_one _) (by unfold maxLen; omega) (by omega) cb.size ?_)
      intro A9 c9 w9 hown9 hgr9
      replace cb := cb.grown hgr9 cb.size (fun k hk => (hown8.lt k hk).1)
      rw [← ivals_append] at hown9
      have hrow9 := RowAt.of_own hown9
      replace FX := FX.later cb
      replace FY := FY.later cb
      replace ut := ut.later cb
      replace su := su.later cb
      clear hgr9 hown8 hown9 cb
      have RI := rrising_any (c := c9) (l := X ++ Y) (by rw [List.length_append]; omega) hrow9
      rw [List.length_append, ← hR.out] at RI
      go_wp2_with fail
      refine RI.mono ?_
      rintro e Wa ⟨Aa, ca, rfl, ha1, ha2, hra, ba⟩
      replace FX := FX.later ba
      replace FY := FY.later ba
      replace ut := ut.later ba
      replace su := su.later ba
      clear ba RI hrow9
      have BO := rboth_any (c := cx) (c1 := cy) (by omega) (by omega) FX.row FY.row
      rw [← hB.out] at BO
      go_wp2_with fail
      refine BO.mono ?_
      rintro e Wb ⟨Ab, cb, rfl, hb1, hb2, ownb, bb⟩
      have hrb := RowAt.of_own ownb
      replace hra := hra.below bb (Nat.le_refl _)
      replace FX := FX.later bb
      replace FY := FY.later bb
      replace ut := ut.later bb
      replace su := su.later bb
      clear bb BO ownb
      have AL := ball_any (su.tb TT.out) su.s
      rw [alls2] at AL
      go_wp2_with fail
      refine AL.mono ?_
      rintro e Wc ⟨Ac, cc, rfl, hc1, hc2, ownc, bc⟩
      have hrc := RowAt.of_own ownc
      replace hrb := hrb.below bc (Nat.le_refl _)
      replace hra := hra.below bc (Nat.le_refl _)
      replace FY := FY.later bc
      replace ut := ut.later bc
      clear bc AL ownc su FX
      have S1 := sameInts_any Ac cc R Aa ca R _ (by unfold maxLen; omega) (by unfold maxLen; omega) (hrc) (hra)
      rw [decide_eq_true rfl] at S1
      replace S1 := Lib.hid S1
      go_wp2_with fail
      refine S1.out.mono ?_
      clear S1
      rintro e Wd ⟨rfl, hWd⟩
      have bd := below_drew0 hWd
      replace hrb := hrb.below bd (Nat.le_refl _)
      replace FY := FY.later bd
      replace ut := ut.later bd
      clear hWd bd hra hrc
      have AL := ball_any (ut.tb TT.out) ut.s
      rw [allu2] at AL
      go_wp2_with fail
      refine AL.mono ?_
      rintro e We ⟨Ae, ce, rfl, he1, he2, owne, be⟩
      have hre := RowAt.of_own owne
      replace hrb := hrb.below be (Nat.le_refl _)
      replace FY := FY.later be
      replace ut := ut.later be
      clear be AL owne
      have S1 := sameInts_any Ae ce B Ab cb B _ (by unfold maxLen; omega) (by unfold maxLen; omega) (hre) (hrb)
      rw [decide_eq_true rfl] at S1
      replace S1 := Lib.hid S1
      go_wp2_with fail
      refine S1.out.mono ?_
      clear S1
      rintro e Wf ⟨rfl, hWf⟩
      have bf := below_drew0 hWf
      replace FY := FY.later bf
      replace ut := ut.later bf
      clear hWf bf hrb hre
      have AL := ball_any (ut.tb TT.out) ut.t
      rw [allt] at AL
      go_wp2_with fail
      refine AL.mono ?_
      rintro e Wg ⟨Ag, cg, rfl, hg1, hg2, owng, bg⟩
      have hrg := RowAt.of_own owng
      replace FY := FY.later bg
      replace ut := ut.later bg
      clear bg AL owng
      have S1 := sameInts_any Ag cg Y Ay cy Y _ (by unfold maxLen; omega) (by unfold maxLen; omega) (hrg) (FY.row)
      rw [decide_eq_true rfl] at S1
      replace S1 := Lib.hid S1
      go_wp2_with fail
      refine S1.out.mono ?_
      clear S1
      rintro e Wh ⟨rfl, hWh⟩
      replace ut := ut.later (below_drew0 hWh)
      have BL := ut.bl
      clear hWh hrg FY
      go_wp2_with fail
      refine (AW.out _ (ut.tb TT.out)).mono ?_
      rintro e w9 ⟨rfl, h9⟩
      clear ut
      go_wp2
      go_ret
      exact ⟨rfl, BL.trans (h9.mono BL.size)⟩
end
end Go.Proofs.YtgilmpakdohijaaDoor
