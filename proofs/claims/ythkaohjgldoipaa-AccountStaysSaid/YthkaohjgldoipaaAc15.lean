/-
  account: the law's six, and awake.
-/
import Derived.Test.YthkaohjgldoipaaAc14
namespace Go.Proofs.Ythkaohjgldoipaa
open Go.RowKit
def l6 : List Acc := [⟨0, 1, true, false⟩, ⟨0, 1, false, false⟩, ⟨0, 1, false, false⟩, ⟨0, 1, false, false⟩, ⟨4, 2, true, false⟩, ⟨4, 1, false, true⟩]
def l7 : List Acc := l6 ++ [⟨4, 3, false, false⟩]
def m6 : List Acc := [⟨0, 1, true, false⟩, ⟨0, 1, false, false⟩, ⟨0, 1, false, false⟩, ⟨0, 1, false, false⟩, ⟨4, 2, true, false⟩, ⟨0, 1, false, true⟩]
theorem c1 : chkA l6 = (6, 0) := by decide +kernel
theorem c2 : chkA (l6.drop 1) = (0, 28) := by decide +kernel
theorem c3 : addA l6 ⟨4, 3, false, false⟩ = (l7, 0) := by decide +kernel
theorem c4 : addA l6 ⟨2, 3, false, false⟩ = ([], 28) := by decide +kernel
theorem c5 : moveR l6 6 0 = (m6, 0) := by decide +kernel
theorem c6 : moveR l6 4 5 = ([], 26) := by decide +kernel
theorem c7 : moveR l6 3 4 = ([], 28) := by decide +kernel
theorem c8 : walkA l6 = [(1, 0), (2, 0), (3, 0), (4, 0), (5, 1), (6, 1)] := by decide +kernel
theorem c9 : leavesA l6 = [1, 2, 3, 5, 6] := by decide +kernel
theorem c10 : undA l6 4 = [5, 6] := by decide +kernel
theorem c11 : upA l6 6 = [4] := by decide +kernel
theorem c12 : kidA l6 4 = [5, 6] := by decide +kernel
theorem c13 : leafA l6 5 = true := by decide +kernel
theorem c14 : leafA l6 4 = false := by decide +kernel
theorem c15 : leafA l6 7 = false := by decide +kernel
theorem same_below (A : Option Addr) (c : Nat) (xs : List Int) (A' : Option Addr) (c' : Nat) (ys : List Int) (w : World) (hm : xs.length ≤ maxLen) (hm' : ys.length ≤ maxLen) (hr : RowAt w A (ivals xs)) (hr' : RowAt w A' (ivals ys)) :
    Calls Try.prog 29 #[.slice A xs.length c, .slice A' ys.length c'] w fun e w' => e = .returned (.bool (decide (xs = ys))) ∧ Below w.heap.size w w' :=
  (sameInts_any A c xs A' c' ys w hm hm' hr hr').mono fun _ _ ⟨h1, n, h2⟩ => ⟨h1, h2 ▸ below_drewN (Below.refl _ _) n⟩
theorem same_self (zs : List Int) (n : Nat) (hn : zs.length = n) (hm : n ≤ 1000000) (A : Option Addr) (c : Nat) (A' : Option Addr) (c' : Nat) (w : World) (hr : RowAt w A (ivals zs)) (hr' : RowAt w A' (ivals zs)) :
    Calls Try.prog 29 #[.slice A n c, .slice A' n c'] w fun e w' => e = .returned (.bool true) ∧ Below w.heap.size w w' := by
  subst hn
  have h := same_below A c zs A' c' zs w (by unfold maxLen; omega) (by unfold maxLen; omega) hr hr'
  rw [decide_eq_true rfl] at h
  exact h
theorem new_ints (w : World) (xs : List Int) : RowAt (w.alloc (.cells (ivals xs).toArray 3)) (some ⟨w.heap.size, 0, none⟩) (ivals xs) := by
  refine RowAt.of_cells fun j u hj => ?_
  rw [addr_add, Nat.zero_add]
  exact ((Box.new _ _ _).cells j).trans (by rw [List.getElem?_toArray]; exact hj)
theorem pairC_of {p : List Acc × Int} {w w' : World} {e : Ending} {m : List Acc} {n : Nat} {k : Int} (h : PairC p w e w') (hp : p = (m, k)) (hn : m.length = n) : ∃ A c, e = .returned (.tuple #[.slice A n c, .int .i64 k]) ∧ n ≤ c ∧ c ≤ maxLen ∧ RowC w' A m ∧ Below w.heap.size w w' := by
  subst hp hn
  exact h
set_option maxHeartbeats 2000000 in
theorem six_any (w : World) : Calls Try.prog 56 #[] w fun e w' => ∃ a c, e = .returned (.slice (some a) 6 c) ∧ RowC w' (some a) l6 ∧ 6 ≤ c ∧ c ≤ maxLen ∧ Below w.heap.size w w' := by
  obtain ⟨i0, hi, hz0, hz1, hz2⟩ := info_parts Try.infoAcc
  have NW := Lib.hid (rnew_any w)
  go_enter Try.func56, Try.ntmps56
  go_wp2_with fail
  refine NW.out.mono ?_
  rintro e w1 ⟨rfl, own1, b1⟩
  have r5 := new_row w1 [⟨0, 1, false, false⟩, ⟨4, 2, true, false⟩, ⟨4, 1, false, true⟩]
  go_wp2_with (at_builtin; refine wpList_append_rowN rfl _ _ 50 rfl w.heap.size 60 i0 (.agg #[.int .i64 0, .int .i64 0, .bool false, .bool false]) 4 24 Try.underlying50 hi hz0 hz1 hz2 rfl (by decide) _ 3 (avs newA) rfl (own1.alloc _) (some ⟨w1.heap.size, 0, none⟩) 3 3 (avs [⟨0, 1, false, false⟩, ⟨4, 2, true, false⟩, ⟨4, 1, false, true⟩]) rfl rfl r5 (avs_one _) (by unfold maxLen; omega) (by omega) (by rw [World.size_alloc]; have := b1.size; omega) ?_)
  intro A7 c7 w7 hown7 hr7
  have B7 : Below w.heap.size w w7 := (b1.alloc b1.size _).grown hr7 (by rw [World.size_alloc]; have := b1.size; omega) (fun k hk => (own1.lt k hk).1)
  have hcap := own_cap hown7
  obtain ⟨A', c', hv, hf⟩ := own_form hown7
  obtain ⟨g, hA, _, _⟩ := hf (by decide)
  injection hv with hv1 hv2 hv3
  subst hv1 hv3 hA
  have hrow : RowC w7 (some ⟨g, 0, none⟩) l6 := RowC.of_own (n := 6) hown7
  clear hown7 hr7 own1 r5 hv2
  go_wp2
  go_ret
  exact ⟨_, _, rfl, hrow, hcap.1, hcap.2, B7⟩

theorem row_nvs {w : World} {base n c : Nat} {A : Option Addr} {L : List (Int × Nat)} (h : w.ownsRow base 77 2 (.slice A n c) n (nvs L)) : RowAt w A (nvs L) := by
  intro hn
  have hl : (nvs L).length = n * 2 := by simpa using h.1
  obtain ⟨A', c', hv, hf⟩ := own_form h
  obtain ⟨g, hA, hb, hlt⟩ := hf (by omega)
  injection hv with hv1 hv2 hv3
  subst hv1 hv3 hA
  refine ⟨g, 0, rfl, hlt, fun j u hj => ?_⟩
  have hjl : j < (nvs L).length := (List.getElem?_eq_some_iff.1 hj).1
  rw [Nat.zero_add, h.cellAt j (by omega)]
  exact hj
set_option maxRecDepth 100000 in
set_option maxHeartbeats 8000000 in
theorem awake_any (w : World) : Calls Try.prog 26 #[] w fun e w' => e = .returned (.bool true) ∧ Below w.heap.size w w' := by
  have six_hid := Lib.hid (six_any w)
  have K1 := fun (A : Addr) (c : Nat) (w : World) (hc : 6 ≤ c) (hr : RowC w (some A) l6) => acheck_any (A := some A) (c := c) (l := l6) (by decide) hc hr
  rw [c1, show l6.length = 6 from rfl] at K1
  replace K1 := Lib.hid K1
  have K2 := fun (A : Addr) (c : Nat) (w : World) (hc : 5 ≤ c) (hr : RowC w (some A) (l6.drop 1)) => acheck_any (A := some A) (c := c) (l := l6.drop 1) (by decide) hc hr
  rw [c2, show (l6.drop 1).length = 5 from rfl] at K2
  replace K2 := Lib.hid K2
  have K3 := fun (A : Addr) (c : Nat) (w : World) (hr : RowC w (some A) l6) => (aadd_any (A := some A) (c := c) (l := l6) ⟨4, 3, false, false⟩ (by decide) hr).mono fun _ _ h => pairC_of h c3 (show (l7).length = 7 from rfl)
  rw [show l6.length = 6 from rfl] at K3
  replace K3 := Lib.hid K3
  have K4 := fun (A : Addr) (c : Nat) (w : World) (hr : RowC w (some A) l6) => (aadd_any (A := some A) (c := c) (l := l6) ⟨2, 3, false, false⟩ (by decide) hr).mono fun _ _ h => pairC_of h c4 (show (([] : List Acc)).length = 0 from rfl)
  rw [show l6.length = 6 from rfl] at K4
  replace K4 := Lib.hid K4
  have K5 := fun (A : Addr) (c : Nat) (w : World) (hr : RowC w (some A) l6) => (amove_any (A := some A) (c := c) (l := l6) 6 0 (by decide) hr).mono fun _ _ h => pairC_of h c5 (show (m6).length = 6 from rfl)
  rw [show l6.length = 6 from rfl] at K5
  replace K5 := Lib.hid K5
  have K6 := fun (A : Addr) (c : Nat) (w : World) (hr : RowC w (some A) l6) => (amove_any (A := some A) (c := c) (l := l6) 4 5 (by decide) hr).mono fun _ _ h => pairC_of h c6 (show (([] : List Acc)).length = 0 from rfl)
  rw [show l6.length = 6 from rfl] at K6
  replace K6 := Lib.hid K6
  have K7 := fun (A : Addr) (c : Nat) (w : World) (hr : RowC w (some A) l6) => (amove_any (A := some A) (c := c) (l := l6) 3 4 (by decide) hr).mono fun _ _ h => pairC_of h c7 (show (([] : List Acc)).length = 0 from rfl)
  rw [show l6.length = 6 from rfl] at K7
  replace K7 := Lib.hid K7
  have K8 := fun (A : Addr) (c : Nat) (w : World) (hr : RowC w (some A) l6) => awalk_any (A := some A) (c := c) (l := l6) (by decide) hr
  rw [c8, show l6.length = 6 from rfl] at K8
  replace K8 := Lib.hid K8
  have K9 := fun (A : Addr) (c : Nat) (w : World) (hr : RowC w (some A) l6) => (aleavesl_any (A := some A) (c := c) (l := l6) (by decide) hr).mono fun _ _ h => rowOf rfl h
  rw [c9, show l6.length = 6 from rfl] at K9
  replace K9 := Lib.hid K9
  have K10 := fun (A : Addr) (c : Nat) (w : World) (hr : RowC w (some A) l6) => (aundera_any (A := some A) (c := c) (l := l6) 4 (by decide) hr).mono fun _ _ h => rowOf rfl h
  rw [c10, show l6.length = 6 from rfl] at K10
  replace K10 := Lib.hid K10
  have K11 := fun (A : Addr) (c : Nat) (w : World) (hr : RowC w (some A) l6) => (aupl_any (A := some A) (c := c) (l := l6) 6 (by decide) hr).mono fun _ _ h => rowOf rfl h
  rw [c11, show l6.length = 6 from rfl] at K11
  replace K11 := Lib.hid K11
  have K12 := fun (A : Addr) (c : Nat) (w : World) (hr : RowC w (some A) l6) => (achildren_any (A := some A) (c := c) (l := l6) 4 (by decide) hr).mono fun _ _ h => rowOf rfl h
  rw [c12, show l6.length = 6 from rfl] at K12
  replace K12 := Lib.hid K12
  have K13 := fun (A : Addr) (c : Nat) (w : World) (hr : RowC w (some A) l6) => aleafl_any (A := some A) (c := c) (l := l6) 5 (by decide) hr
  rw [c13, show l6.length = 6 from rfl] at K13
  replace K13 := Lib.hid K13
  have K14 := fun (A : Addr) (c : Nat) (w : World) (hr : RowC w (some A) l6) => aleafl_any (A := some A) (c := c) (l := l6) 4 (by decide) hr
  rw [c14, show l6.length = 6 from rfl] at K14
  replace K14 := Lib.hid K14
  have K15 := fun (A : Addr) (c : Nat) (w : World) (hr : RowC w (some A) l6) => aleafl_any (A := some A) (c := c) (l := l6) 7 (by decide) hr
  rw [c15, show l6.length = 6 from rfl] at K15
  replace K15 := Lib.hid K15
  have KN := Lib.hid fun (w : World) => anew_any w
  have KR := Lib.hid fun (w : World) => rnew_row w
  have KS := fun (a b : Addr) (c c' : Nat) (w : World) (hr : RowC w (some a) newA) (hr' : RowC w (some b) newA) => rsame_any (A := some a) (A' := some b) (c := c) (c' := c') (l := newA) (m := newA) (by decide) (by decide) hr hr'
  rw [decide_eq_true rfl, show newA.length = 3 from rfl] at KS
  replace KS := Lib.hid fun (a b : Addr) (w : World) (hr : RowC w (some a) newA) (hr' : RowC w (some b) newA) => KS a b 3 3 w hr hr'
  have SS := Lib.hid same_self
  go_enter Try.func26, Try.ntmps26
  have B0 := Below.refl w.heap.size w
  go_wp2_with fail
  refine (six_hid.out).mono ?_
  rintro e w0 ⟨a, c, rfl, HL, hc6, hcm, b0⟩
  have B1 := B0.trans (b0.mono B0.size)
  clear b0 B0
  go_wp2_with fail
  refine (K1.out _ _ _ hc6 HL).mono ?_
  rintro e w1 ⟨rfl, b1⟩
  replace HL := HL.below b1 (Nat.le_refl _)
  have B2 := B1.trans (b1.mono B1.size)
  clear b1 B1
  have HD : RowC w1 (some (a.add 4)) (l6.drop 1) := by have := RowAt.drop HL 4; rw [show (avs l6).drop 4 = avs (l6.drop 1) from rfl] at this; exact this
  go_wp2_with fail
  refine (K2.out _ _ _ (by omega) HD).mono ?_
  rintro e w2 ⟨rfl, b2⟩
  replace HL := HL.below b2 (Nat.le_refl _)
  have B3 := B2.trans (b2.mono B2.size)
  clear b2 B2
  clear HD
  go_wp2_with fail
  refine (K3.out _ _ _ HL).mono ?_
  rintro e w3 ⟨A3, c3, rfl, _, _, _, b3⟩
  replace HL := HL.below b3 (Nat.le_refl _)
  have B4 := B3.trans (b3.mono B3.size)
  clear b3 B3
  go_wp2_with fail
  refine (K4.out _ _ _ HL).mono ?_
  rintro e w4 ⟨A4, c4, rfl, _, _, _, b4⟩
  replace HL := HL.below b4 (Nat.le_refl _)
  have B5 := B4.trans (b4.mono B4.size)
  clear b4 B4
  go_wp2_with fail
  refine (K5.out _ _ _ HL).mono ?_
  rintro e w5 ⟨A5, c5, rfl, _, _, HM, b5⟩
  replace HL := HL.below b5 (Nat.le_refl _)
  have B6 := B5.trans (b5.mono B5.size)
  clear b5 B5
  go_wp2_with fail
  refine (K6.out _ _ _ HL).mono ?_
  rintro e w6 ⟨A6, c6, rfl, _, _, _, b6⟩
  replace HL := HL.below b6 (Nat.le_refl _)
  replace HM := HM.below b6 (Nat.le_refl _)
  have B7 := B6.trans (b6.mono B6.size)
  clear b6 B6
  go_wp2_with fail
  refine (K7.out _ _ _ HL).mono ?_
  rintro e w7 ⟨A7, c7, rfl, _, _, _, b7⟩
  replace HL := HL.below b7 (Nat.le_refl _)
  replace HM := HM.below b7 (Nat.le_refl _)
  have B8 := B7.trans (b7.mono B7.size)
  clear b7 B7
  go_wp2_with fail
  refine (K8.out _ _ _ HL).mono ?_
  rintro e w8 ⟨A8, c8, rfl, HWo, b8⟩
  replace HL := HL.below b8 (Nat.le_refl _)
  replace HM := HM.below b8 (Nat.le_refl _)
  have B9 := B8.trans (b8.mono B8.size)
  clear b8 B8
  have HW := row_nvs HWo
  obtain ⟨gw, ow, rfl, _, hcw⟩ := HW (by decide)
  have hw8 := hcw 8 (.int .i64 5) rfl
  have hw9 := hcw 9 (.int .i64 1) rfl
  obtain ⟨gm, om, hAm, _, hcm5⟩ := HM.get (by decide)
  subst hAm
  clear HWo HW hcw hcm5
  go_wp2_with fail
  refine (KN.out _).mono ?_
  rintro e w9 ⟨an, rfl, HN, b9⟩
  replace HL := HL.below b9 (Nat.le_refl _)
  replace HM := HM.below b9 (Nat.le_refl _)
  have B10 := B9.trans (b9.mono B9.size)
  clear b9 B9
  go_wp2_with fail
  refine (KR.out _).mono ?_
  rintro e w10 ⟨ar, rfl, HR, b10⟩
  replace HL := HL.below b10 (Nat.le_refl _)
  replace HM := HM.below b10 (Nat.le_refl _)
  replace HN := HN.below b10 (Nat.le_refl _)
  have B11 := B10.trans (b10.mono B10.size)
  clear b10 B10
  go_wp2_with fail
  refine (KS.out _ _ _ HN HR).mono ?_
  rintro e w11 ⟨rfl, b11⟩
  clear HN HR
  replace HL := HL.below b11 (Nat.le_refl _)
  replace HM := HM.below b11 (Nat.le_refl _)
  have B12 := B11.trans (b11.mono B11.size)
  clear b11 B11
  obtain ⟨gm', om', hAm, _, hcm5⟩ := HM.get (by decide)
  injection hAm with hAm
  injection hAm with hm1 hm2 _
  subst hm1 hm2
  have hm5 := (hcm5 5 (by decide)).1
  have hm5 : w11.cell? ⟨gm, om + 20, none⟩ = some (.int .i64 0) := hm5
  clear hcm5
  go_wp2_with fail
  refine (K9.out _ _ _ HL).mono ?_
  rintro e w12 ⟨An9, cn9, rfl, Hn9, b12⟩
  replace HL := HL.below b12 (Nat.le_refl _)
  replace HM := HM.below b12 (Nat.le_refl _)
  have B13 := B12.trans (b12.mono B12.size)
  clear b12 B12
  have Nn9 := new_ints w12 [1, 2, 3, 5, 6]
  go_wp2_with fail
  refine (SS.out [1, 2, 3, 5, 6] 5 rfl (by omega) _ _ _ _ _ (Hn9.alloc _) Nn9).mono ?_
  rintro e w13 ⟨rfl, b13⟩
  clear Hn9
  replace HL := (HL.alloc _).below b13 (Nat.le_refl _)
  replace HM := (HM.alloc _).below b13 (Nat.le_refl _)
  have b13 := below_up b13
  have B14 := B13.trans (b13.mono B13.size)
  clear b13 B13
  clear Nn9
  go_wp2_with fail
  refine (K10.out _ _ _ HL).mono ?_
  rintro e w14 ⟨An10, cn10, rfl, Hn10, b14⟩
  replace HL := HL.below b14 (Nat.le_refl _)
  replace HM := HM.below b14 (Nat.le_refl _)
  have B15 := B14.trans (b14.mono B14.size)
  clear b14 B14
  have Nn10 := new_ints w14 [5, 6]
  go_wp2_with fail
  refine (SS.out [5, 6] 2 rfl (by omega) _ _ _ _ _ (Hn10.alloc _) Nn10).mono ?_
  rintro e w15 ⟨rfl, b15⟩
  clear Hn10
  replace HL := (HL.alloc _).below b15 (Nat.le_refl _)
  replace HM := (HM.alloc _).below b15 (Nat.le_refl _)
  have b15 := below_up b15
  have B16 := B15.trans (b15.mono B15.size)
  clear b15 B15
  clear Nn10
  go_wp2_with fail
  refine (K11.out _ _ _ HL).mono ?_
  rintro e w16 ⟨An11, cn11, rfl, Hn11, b16⟩
  replace HL := HL.below b16 (Nat.le_refl _)
  replace HM := HM.below b16 (Nat.le_refl _)
  have B17 := B16.trans (b16.mono B16.size)
  clear b16 B16
  have Nn11 := new_ints w16 [4]
  go_wp2_with fail
  refine (SS.out [4] 1 rfl (by omega) _ _ _ _ _ (Hn11.alloc _) Nn11).mono ?_
  rintro e w17 ⟨rfl, b17⟩
  clear Hn11
  replace HL := (HL.alloc _).below b17 (Nat.le_refl _)
  replace HM := (HM.alloc _).below b17 (Nat.le_refl _)
  have b17 := below_up b17
  have B18 := B17.trans (b17.mono B17.size)
  clear b17 B17
  clear Nn11
  go_wp2_with fail
  refine (K12.out _ _ _ HL).mono ?_
  rintro e w18 ⟨An12, cn12, rfl, Hn12, b18⟩
  replace HL := HL.below b18 (Nat.le_refl _)
  replace HM := HM.below b18 (Nat.le_refl _)
  have B19 := B18.trans (b18.mono B18.size)
  clear b18 B18
  have Nn12 := new_ints w18 [5, 6]
  go_wp2_with fail
  refine (SS.out [5, 6] 2 rfl (by omega) _ _ _ _ _ (Hn12.alloc _) Nn12).mono ?_
  rintro e w19 ⟨rfl, b19⟩
  clear Hn12
  replace HL := (HL.alloc _).below b19 (Nat.le_refl _)
  replace HM := (HM.alloc _).below b19 (Nat.le_refl _)
  have b19 := below_up b19
  have B20 := B19.trans (b19.mono B19.size)
  clear b19 B19
  clear Nn12
  go_wp2_with fail
  refine (K13.out _ _ _ HL).mono ?_
  rintro e w20 ⟨rfl, b20⟩
  replace HL := HL.below b20 (Nat.le_refl _)
  replace HM := HM.below b20 (Nat.le_refl _)
  have B21 := B20.trans (b20.mono B20.size)
  clear b20 B20
  go_wp2_with fail
  refine (K14.out _ _ _ HL).mono ?_
  rintro e w21 ⟨rfl, b21⟩
  replace HL := HL.below b21 (Nat.le_refl _)
  replace HM := HM.below b21 (Nat.le_refl _)
  have B22 := B21.trans (b21.mono B21.size)
  clear b21 B21
  go_wp2_with fail
  refine (K15.out _ _ _ HL).mono ?_
  rintro e w22 ⟨rfl, b22⟩
  replace HL := HL.below b22 (Nat.le_refl _)
  replace HM := HM.below b22 (Nat.le_refl _)
  have B23 := B22.trans (b22.mono B22.size)
  clear b22 B22
  clear HL
  go_wp2
  go_ret
  exact ⟨rfl, B23⟩
end Go.Proofs.Ythkaohjgldoipaa
