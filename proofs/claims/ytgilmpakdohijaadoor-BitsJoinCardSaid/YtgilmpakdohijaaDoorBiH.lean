/-
  bits: two sets side by side; awake.
-/
import Derived.Test.YtgilmpakdohijaaDoorBiG
namespace Go.Proofs.YtgilmpakdohijaaDoor
open Go.RowKit

/-- Two sets whose rows lie apart. -/
structure Two (w W : World) (g1 g2 : Nat) (A1 : Option Addr) (c1 : Nat) (ws1 : List Nat) (A2 : Option Addr) (c2 : Nat) (ws2 : List Nat) : Prop where
  s : SetB W w.heap.size g1 A1 c1 ws1
  t : SetB W w.heap.size g2 A2 c2 ws2
  ap : ∀ b, oB A1 = some b → oB A2 ≠ some b
  ne : g1 ≠ g2
  h1 : w.heap.size ≤ g1
  h2 : w.heap.size ≤ g2
  bl : Below w.heap.size w W
section
variable {w W W' : World} {g1 g2 c1 c2 : Nat} {A1 A2 : Option Addr} {ws1 ws2 : List Nat}
theorem Two.swap (h : Two w W g1 g2 A1 c1 ws1 A2 c2 ws2) : Two w W g2 g1 A2 c2 ws2 A1 c1 ws1 :=
  ⟨h.t, h.s, fun b hb he => h.ap b he hb, h.ne.symm, h.h2, h.h1, h.bl⟩
theorem Two.later (h : Two w W g1 g2 A1 c1 ws1 A2 c2 ws2) (b : Below W.heap.size W W') : Two w W' g1 g2 A1 c1 ws1 A2 c2 ws2 :=
  ⟨h.s.later b, h.t.later b, h.ap, h.ne, h.h1, h.h2, h.bl.trans (b.mono h.bl.size)⟩
theorem Two.chg (h : Two w W g1 g2 A1 c1 ws1 A2 c2 ws2) {A1' : Option Addr} {c1' : Nat} {ws1' : List Nat} (hS : SetB W' w.heap.size g1 A1' c1' ws1') (hC : Chg W W' g1 (oB A1)) (hM : Moved W (oB A1) (oB A1')) : Two w W' g1 g2 A1' c1' ws1' A2 c2 ws2 := by
  refine ⟨hS, SetB.apart hC h.s h.t h.ne (fun b hb he => h.ap b he hb), fun b hb he => ?_, h.ne, h.h1, h.h2, h.bl.trans (hC.below h.h1 (fun b hb => (h.s.row_lt hb).1) h.bl.size)⟩
  rcases hM with h1 | ⟨b', h1, h2⟩
  · rw [h1] at hb; exact h.ap b hb he
  · rw [h1] at hb; injection hb with hb; subst hb
    have := h.t.row_lt he
    omega
theorem Two.tb (h : Two w W g1 g2 A1 c1 ws1 A2 c2 ws2) (T : Tb w) : Tb W := T.later h.bl
end
section
variable {w : World} {base g c : Nat} {A : Option Addr} {ws : List Nat}
/-- Put and Drop, told by what the set's numbers are. -/
theorem bput_q {L L' : List Int} {r : Int} (n : Int) (hbase : base ≤ w.heap.size) (h : SetB w base g A c ws) (hL : allW ws = L) (hr : doE L 0 n = r) (hL' : doL L 0 n = L') : Calls Tryd.prog 21 #[.pointer (some ⟨g, 0, none⟩), .int .i64 n] w (DoP w base g A r L') := by
  refine (bput_any n hbase h).mono ?_
  rintro e w' ⟨A', c', rfl, h1, h2, h3⟩
  rw [hasW_ite]
  subst hL hr hL'
  exact ⟨A', c', _, rfl, h1, putL_all ws n, h2, h3⟩
theorem bdrop_q {L L' : List Int} {r : Int} (n : Int) (h : SetB w base g A c ws) (hL : allW ws = L) (hr : doE L 1 n = r) (hL' : doL L 1 n = L') : Calls Tryd.prog 22 #[.pointer (some ⟨g, 0, none⟩), .int .i64 n] w (DoP w base g A r L') := by
  refine (bdrop_any n h).mono ?_
  rintro e w' ⟨rfl, h1, h2⟩
  rw [hasW_ite]
  subst hL hr hL'
  exact ⟨A, c, _, rfl, h1, dropL_all h.wf n, h2, .inl rfl⟩
theorem ball_any (T : Tb w) (h : SetB w base g A c ws) : Calls Tryd.prog 8 #[.pointer (some ⟨g, 0, none⟩)] w (NewRow (allW ws) w) := callsIn_wide.1 (ball_in 6 (by decide) w T h)
theorem hasW_dec (ws : List Nat) (n : Int) : hasW ws n = decide (n ∈ allW ws) := by
  by_cases h : n ∈ allW ws
  · rw [decide_eq_true h, hasW_iff.2 h]
  · rw [decide_eq_false h]
    cases hh : hasW ws n
    · rfl
    · exact absurd (hasW_iff.1 hh) h
theorem bhas_q {L : List Int} {b : Bool} (n : Int) (h : SetB w base g A c ws) (hL : allW ws = L) (hb : decide (n ∈ L) = b) : Calls Tryd.prog 15 #[.pointer (some ⟨g, 0, none⟩), .int .i64 n] w fun e w' => e = .returned (.bool b) ∧ w = w' := by
  subst hL hb
  rw [← hasW_dec]
  exact bhas_any n h
end
/-- A row beside two sets. -/
structure Fre (W : World) (g1 g2 : Nat) (A1 A2 A : Option Addr) (xs : List Value) : Prop where
  row : RowAt W A xs
  ap : ∀ b off, A = some ⟨b, off, none⟩ → b < W.heap.size ∧ b ≠ g1 ∧ b ≠ g2 ∧ oB A1 ≠ some b ∧ oB A2 ≠ some b
section
variable {w W W' : World} {g1 g2 c1 c2 : Nat} {A1 A1' A2 A : Option Addr} {ws1 ws2 : List Nat} {xs : List Value}
theorem Fre.chg (h : Fre W g1 g2 A1 A2 A xs) (hC : Chg W W' g1 (oB A1)) (hM : Moved W (oB A1) (oB A1')) : Fre W' g1 g2 A1' A2 A xs := by
  refine ⟨fun hn => ?_, fun b off he => ?_⟩
  · obtain ⟨b, off, he, hlt, hc⟩ := h.row hn
    have h1 := h.ap b off he
    exact ⟨b, off, he, Nat.lt_of_lt_of_le hlt hC.size, fun j u hj => (World.cell?_of_block (a := ⟨b, off + j, none⟩) (hC.block b hlt h1.2.1 (fun e => h1.2.2.2.1 e.symm))).trans (hc j u hj)⟩
  · have h1 := h.ap b off he
    refine ⟨Nat.lt_of_lt_of_le h1.1 hC.size, h1.2.1, h1.2.2.1, fun e => ?_, h1.2.2.2.2⟩
    rcases hM with h2 | ⟨b', h2, h3⟩
    · rw [h2] at e; exact h1.2.2.2.1 e
    · rw [h2] at e; injection e with e; omega
theorem Fre.swap (h : Fre W g1 g2 A1 A2 A xs) : Fre W g2 g1 A2 A1 A xs := ⟨h.row, fun b off he => by obtain ⟨h1, h2, h3, h4, h5⟩ := h.ap b off he; exact ⟨h1, h3, h2, h5, h4⟩⟩
theorem Fre.later (h : Fre W g1 g2 A1 A2 A xs) (b : Below W.heap.size W W') : Fre W' g1 g2 A1 A2 A xs := ⟨h.row.below b (Nat.le_refl _), fun b' off he => ⟨Nat.lt_of_lt_of_le (h.ap b' off he).1 b.size, (h.ap b' off he).2⟩⟩
/-- What is made anew lies beside two sets. -/
theorem Two.fre (h : Two w W g1 g2 A1 c1 ws1 A2 c2 ws2) {e n c : Nat} (own : W'.ownsRow W.heap.size e 1 (.slice A n c) n xs) : Fre W' g1 g2 A1 A2 A xs := ⟨RowAt.of_own own, fun b off he => by
  subst he
  have h1 := own.lt b rfl
  have h2 := h.s.box.lt
  have h3 := h.t.box.lt
  refine ⟨h1.2, by omega, by omega, fun e => ?_, fun e => ?_⟩
  · have := h.s.row_lt e; omega
  · have := h.t.row_lt e; omega⟩
theorem below_drew0 {W W' : World} (h : ∃ n, W.drewN n = W') : Below W.heap.size W W' := by
  obtain ⟨n, rfl⟩ := h
  exact below_drewN (Below.refl _ _) n
end
set_option maxRecDepth 100000 in
set_option maxHeartbeats 4000000 in
theorem bawake_any (w : World) (T : Tb w) : Calls Tryd.prog 7 #[] w fun e w' => e = .returned (.bool true) ∧ Below w.heap.size w w' := by
  have NW := Lib.hid fun w => bnew_any w
  have PN := Lib.hid fun n w => bput_nil n w
  have LN := Lib.hid fun w => blen_nil w
  have hT0 : 1 ≤ w.heap.size := World.block_lt_of_cell? w _ (T 0 (by decide))
  have t0 : Two w ((w.alloc (.cells #[.slice none 0 0, .bool true] 51)).alloc (.cells #[.slice none 0 0, .bool true] 51)) w.heap.size (w.heap.size + 1) none 0 [] none 0 [] :=
    ⟨⟨(Box.new w _ _).alloc _, World.ownsRow_nil _ _ _ _, ⟨by decide, by simp⟩⟩, ⟨Box.new' (by simp), World.ownsRow_nil _ _ _ _, ⟨by decide, by simp⟩⟩, (fun b hb => by cases hb), by omega, Nat.le_refl _, by omega, ((Below.refl _ w).alloc (Nat.le_refl _) _).alloc (by simp) _⟩
  have TT := Lib.hid T
  clear T
  go_enter Tryd.func7, Tryd.ntmps7
  go_wp2_with fail
  refine (NW.out _).mono ?_
  rintro e _ ⟨rfl, rfl⟩
  go_wp2_with fail
  refine (NW.out _).mono ?_
  rintro e _ ⟨rfl, rfl⟩
  generalize hw : ((w.alloc (.cells #[.slice none 0 0, .bool true] 51)).alloc (.cells #[.slice none 0 0, .bool true] 51)) = W0 at *
  clear hw
  have hall : allW [] = [] := rfl
  go_wp2_with fail
  refine (bput_q 70 t0.bl.size t0.s hall (r := 0) (L' := [70]) (by decide) (by decide)).mono ?_
  rintro e W1 ⟨A1, c1, ws1, rfl, hS, hall, hC, hM⟩
  have t1 := t0.chg hS hC hM
  clear t0 hS hC hM
  go_wp2_with fail
  refine (bput_q 3 t1.bl.size t1.s hall (r := 0) (L' := [3, 70]) (by decide) (by decide)).mono ?_
  rintro e W2 ⟨A2, c2, ws2, rfl, hS, hall, hC, hM⟩
  have t2 := t1.chg hS hC hM
  clear t1 hS hC hM
  go_wp2_with fail
  refine (bput_q 64 t2.bl.size t2.s hall (r := 0) (L' := [3, 64, 70]) (by decide) (by decide)).mono ?_
  rintro e W3 ⟨A3, c3, ws3, rfl, hS, hall, hC, hM⟩
  have t3 := t2.chg hS hC hM
  clear t2 hS hC hM
  go_wp2_with fail
  refine (bput_q 3 t3.bl.size t3.s hall (r := 35) (L' := [3, 64, 70]) (by decide) (by decide)).mono ?_
  rintro e W4 ⟨A4, c4, ws4, rfl, hS, hall, hC, hM⟩
  have t4 := t3.chg hS hC hM
  clear t3 hS hC hM
  go_wp2_with fail
  refine (bput_q (-1) t4.bl.size t4.s hall (r := 2) (L' := [3, 64, 70]) (by decide) (by decide)).mono ?_
  rintro e W5 ⟨A5, c5, ws5, rfl, hS, hall, hC, hM⟩
  have t5 := t4.chg hS hC hM
  clear t4 hS hC hM
  have AL := ball_any (t5.tb TT.out) t5.s
  rw [hall] at AL
  go_wp2_with fail
  refine AL.mono ?_
  rintro e W6 ⟨A6, c6, rfl, h61, h62, own6, b6⟩
  have t6 := t5.later b6
  have R6 := t5.fre own6
  clear t5 AL own6 b6
  go_wp2_with fail
  refine (bdrop_q 64 t6.s hall (r := 0) (L' := [3, 70]) (by decide) (by decide)).mono ?_
  rintro e W7 ⟨A7, c7, ws7, rfl, hS, hall, hC, hM⟩
  have R7 := R6.chg hC hM
  have t7 := t6.chg hS hC hM
  clear t6 hS hC hM R6
  go_wp2_with fail
  refine (bdrop_q 64 t7.s hall (r := 35) (L' := [3, 70]) (by decide) (by decide)).mono ?_
  rintro e W8 ⟨A8, c8, ws8, rfl, hS, halls, hC, hM⟩
  have R8 := R7.chg hC hM
  have t8 := (t7.chg hS hC hM).swap
  clear t7 hS hC hM R7 hall
  have hall : allW [] = [] := rfl
  go_wp2_with fail
  refine (bput_q 5 t8.bl.size t8.s hall (r := 0) (L' := [5]) (by decide) (by decide)).mono ?_
  rintro e W9 ⟨A9, c9, ws9, rfl, hS, hall, hC, hM⟩
  have R9 := R8.swap.chg hC hM
  have t9 := t8.chg hS hC hM
  clear t8 hS hC hM R8
  have JO := callsIn_wide.1 (bjoin_in 6 (by decide) W9 (t9.tb TT.out) (by omega) t9.bl.size t9.s t9.t)
  rw [hall, halls] at JO
  go_wp2_with fail
  refine JO.mono ?_
  rintro e Wa ⟨Aa, ca, wsa, rfl, hS, hall, hC, hM⟩
  have Ra := R9.chg hC hM
  have ta := t9.chg hS hC hM
  clear t9 hS hC hM R9 JO
  replace hall : allW wsa = [3, 5, 70] := hall.trans (by decide)
  rw [show ((joinF ([5], 0) [3, 70]).2 : Int) = 2 by decide]
  have KE := callsIn_wide.1 (bkeep_in 6 (by decide) Wa (ta.tb TT.out) (by omega) ta.s ta.t ta.ne (fun b hb he => ta.ap b he hb))
  rw [hall, halls] at KE
  go_wp2_with fail
  refine KE.mono ?_
  rintro e Wb ⟨wsb, rfl, hS, hall, hC⟩
  have Rb := Ra.chg hC (.inl rfl)
  have tb := ta.chg hS hC (.inl rfl)
  clear ta hS hC Ra KE
  replace hall : allW wsb = [3, 70] := hall.trans (by decide)
  rw [show ((keepF [3, 70] ([3, 5, 70], 0) [3, 5, 70]).2 : Int) = 1 by decide]
  have z1 := (Box.new Wb 3 #[.int .i64 3, .int .i64 64, .int .i64 70])
  have b1 : Below Wb.heap.size Wb (Wb.alloc (.cells #[.int .i64 3, .int .i64 64, .int .i64 70] 3)) := (Below.refl _ _).alloc (Nat.le_refl _) _
  have S1 := (sameInts_any A6 c6 [3, 64, 70] (some ⟨Wb.heap.size, 0, none⟩) 3 [3, 64, 70] _ (by decide) (by decide) (Rb.later b1).row (RowAt.of_cells fun j u hj => by rw [addr_add, Nat.zero_add]; exact (z1.cells j).trans (by rw [← hj]; exact List.getElem?_toArray ..)))
  rw [show (decide (([3, 64, 70] : List Int) = [3, 64, 70])) = true by decide] at S1
  replace S1 := Lib.hid S1
  have tc := tb.later b1
  clear Rb z1 tb b1
  go_wp2_with fail
  refine S1.out.mono ?_
  rintro e Wc ⟨rfl, hWc⟩
  have td := tc.later (below_drew0 hWc)
  clear tc S1 hWc
  have LE := blen_any td.s
  rw [hall] at LE
  go_wp2_with fail
  refine LE.mono ?_
  rintro e _ ⟨rfl, rfl⟩
  clear LE
  go_wp2_with fail
  refine (bhas_q (b := true) 70 td.s hall (by decide)).mono ?_
  rintro e _ ⟨rfl, rfl⟩
  go_wp2_with fail
  refine (bhas_q (b := false) 5 td.s hall (by decide)).mono ?_
  rintro e _ ⟨rfl, rfl⟩
  have FI := bfirst_any 1 (by decide) (td.tb TT.out) td.t
  rw [halls] at FI
  go_wp2_with fail
  refine FI.mono ?_
  rintro e Wf ⟨Af, cf, rfl, _, _, ownf, bf⟩
  have Rf := td.fre ownf
  have te := td.later bf
  clear td ownf bf FI
  have z1 := (Box.new Wf 3 #[.int .i64 3])
  have b1 : Below Wf.heap.size Wf (Wf.alloc (.cells #[.int .i64 3] 3)) := (Below.refl _ _).alloc (Nat.le_refl _) _
  have hf1 : List.take (1 : Int).toNat ([3, 70] : List Int) = [3] := by decide
  rw [hf1] at Rf
  have S1 := (sameInts_any Af cf [3] (some ⟨Wf.heap.size, 0, none⟩) 1 [3] _ (by decide) (by decide) (Rf.later b1).row (row_one z1))
  rw [show (decide (([3] : List Int) = [3])) = true by decide] at S1
  replace S1 := Lib.hid S1
  have tf := te.later b1
  clear Rf z1 te b1 hf1
  go_wp2_with fail
  refine S1.out.mono ?_
  rintro e Wg ⟨rfl, hWg⟩
  have tg := tf.later (below_drew0 hWg)
  have BL := tg.bl
  clear tf S1 hWg tg
  go_wp2_with fail
  refine (PN.out _ _).mono ?_
  rintro e _ ⟨rfl, rfl⟩
  go_wp2_with fail
  refine (LN.out _).mono ?_
  rintro e _ ⟨rfl, rfl⟩
  go_wp2
  go_ret
  exact ⟨rfl, BL⟩
end Go.Proofs.YtgilmpakdohijaaDoor
