/-
  The reference of chapter 5: Check.
-/
import Derived.Test.YtkdpiikfiodopaaDoorSh
import Derived.Test.YtkdpiikfiodopaaDoorSh2
import Derived.Test.YtkdpiikfiodopaaDoorJa
namespace Go.Proofs.YtkdpiikfiodopaaDoor
open Go.RowKit

theorem r5check_any (s : Int) (w : World) : Calls Tryd.prog 60 #[.int .i64 s] w fun e w' => e = .returned (.int .i64 (chkS s)) ∧ w = w' := by
  by_cases h1 : s < 0
  · rw [show chkS s = 12 from if_neg (by omega)]
    go_enter Tryd.func60, Tryd.ntmps60
    go_wp2
    go_ret
    exact ⟨rfl, rfl⟩
  · by_cases h2 : 10000 < s
    · rw [show chkS s = 12 from if_neg (by omega)]
      go_enter Tryd.func60, Tryd.ntmps60
      go_wp2
      go_ret
      exact ⟨rfl, rfl⟩
    · rw [show chkS s = 0 from if_pos (by omega)]
      go_enter Tryd.func60, Tryd.ntmps60
      go_wp2
      go_ret
      exact ⟨rfl, rfl⟩
end Go.Proofs.YtkdpiikfiodopaaDoor
/-
  The statements' own example of chapter 5, awake, returns true.
-/
namespace Go.Proofs.YtkdpiikfiodopaaDoor
open Go.RowKit

theorem RowAt.lit2 {w : World} {t : TypeId} {g : Nat} (hg : g = w.heap.size) (l : List Int) (cs : Array Value) (h : cs = (ivals l).toArray) : RowAt (w.alloc (.cells cs t)) (some ⟨g, 0, none⟩) (ivals l) := by
  subst hg
  exact RowAt.lit l cs h

set_option maxRecDepth 100000 in
set_option maxHeartbeats 1000000 in
theorem shawake_any (w : World) (T : Tb w) : Calls Tryd.prog 16 #[] w fun e w' => e = .returned (.bool true) ∧ Below w.heap.size w w' := by
  have P1 : Hid (∀ w, Calls Tryd.prog 54 #[.int .i64 7, .int .i64 5000] w fun e w' => e = .returned (.tuple #[.int .i64 4, .int .i64 0]) ∧ Below w.heap.size w w') := Lib.hid fun w => by
    have h := parent_any 7 5000 w (by omega) (by omega)
    rw [show parI 7 5000 = (4, 0) by decide +kernel] at h
    exact h
  have M1 : Hid (∀ w, Calls Tryd.prog 55 #[.int .i64 7, .int .i64 5000] w fun e w' => e = .returned (.tuple #[.int .i64 3, .int .i64 0]) ∧ Below w.heap.size w w') := Lib.hid fun w => by
    have h := minor_any 7 5000 w (by omega) (by omega)
    rw [show minI 7 5000 = (3, 0) by decide +kernel] at h
    exact h
  have P2 : Hid (∀ w, Calls Tryd.prog 54 #[.int .i64 7, .int .i64 10001] w fun e w' => e = .returned (.tuple #[.int .i64 0, .int .i64 12]) ∧ Below w.heap.size w w') := Lib.hid fun w => by
    have h := parent_any 7 10001 w (by omega) (by omega)
    rw [show parI 7 10001 = (0, 12) by decide +kernel] at h
    exact h
  have K1 : Hid (∀ (w : World) (A : Option Addr), RowAt w A (ivals [8000, 5000]) → Tb w → Calls Tryd.prog 17 #[.slice A 2 2] w fun e w' => e = .returned (.tuple #[.agg #[.int .i64 2, .int .i64 5], .int .i64 0]) ∧ Below w.heap.size w w') := Lib.hid fun w A h T => by
    have h := chain_any (c := 2) (l := [8000, 5000]) (by decide) h T
    rw [show chainI [8000, 5000] = ((2, 5), 0) by decide +kernel] at h
    exact h
  have K2 : Hid (∀ (w : World) (A : Option Addr), RowAt w A (ivals [8000, 0]) → Tb w → Calls Tryd.prog 17 #[.slice A 2 2] w fun e w' => e = .returned (.tuple #[.agg #[.int .i64 0, .int .i64 1], .int .i64 0]) ∧ Below w.heap.size w w') := Lib.hid fun w A h T => by
    have h := chain_any (c := 2) (l := [8000, 0]) (by decide) h T
    rw [show chainI [8000, 0] = ((0, 1), 0) by decide +kernel] at h
    exact h
  have K3 : Hid (∀ (w : World) (A : Option Addr), RowAt w A (ivals []) → Tb w → Calls Tryd.prog 17 #[.slice A 0 0] w fun e w' => e = .returned (.tuple #[.agg #[.int .i64 1, .int .i64 1], .int .i64 0]) ∧ Below w.heap.size w w') := Lib.hid fun w A h T => by
    have h := chain_any (c := 0) (l := []) (by decide) h T
    rw [show chainI [] = ((1, 1), 0) by decide +kernel] at h
    exact h
  have C1 : Hid (∀ w, Calls Tryd.prog 56 #[.int .i64 (-1)] w fun e w' => e = .returned (.int .i64 12) ∧ w = w') := Lib.hid fun w => by
    have h := scheck_any (-1) w
    rw [show chkS (-1) = 12 by decide +kernel] at h
    exact h
  have C2 : Hid (∀ w, Calls Tryd.prog 56 #[.int .i64 10000] w fun e w' => e = .returned (.int .i64 0) ∧ w = w') := Lib.hid fun w => by
    have h := scheck_any 10000 w
    rw [show chkS 10000 = 0 by decide +kernel] at h
    exact h
  have E1 : ∀ w, (Op.equalIn 10000 23 (.agg #[.int .i64 2, .int .i64 5]) (.agg #[.int .i64 2, .int .i64 5])).run Tryd.prog w = .ok true w := fun w => by rw [req]; simp
  have E2 : ∀ w, (Op.equalIn 10000 23 (.agg #[.int .i64 0, .int .i64 1]) (.agg #[.int .i64 0, .int .i64 1])).run Tryd.prog w = .ok true w := fun w => by rw [req]; simp
  have E3 : ∀ w, (Op.equalIn 10000 23 (.agg #[.int .i64 1, .int .i64 1]) (.agg #[.int .i64 1, .int .i64 1])).run Tryd.prog w = .ok true w := fun w => by rw [req]; simp
  go_enter Tryd.func16, Tryd.ntmps16
  have B0 := Below.refl w.heap.size w
  go_wp2_with fail
  refine (P1.out _).mono ?_
  rintro e w1 ⟨rfl, b1⟩
  replace T := T.below b1 (Nat.le_refl _)
  have B1 := B0.trans (b1.mono B0.size)
  clear b1 B0
  go_wp2_with fail
  refine (M1.out _).mono ?_
  rintro e w2 ⟨rfl, b2⟩
  replace T := T.below b2 (Nat.le_refl _)
  have B2 := B1.trans (b2.mono B1.size)
  clear b2 B1
  go_wp2_with fail
  refine (P2.out _).mono ?_
  rintro e w3 ⟨rfl, b3⟩
  replace T := T.below b3 (Nat.le_refl _)
  have B3 := B2.trans (b3.mono B2.size)
  clear b3 B2
  go_wp2_with fail
  refine (K1.out _ _ (RowAt.lit2 rfl [8000, 5000] _ rfl) (T.alloc _)).mono ?_
  rintro e w4 ⟨rfl, b4⟩
  replace T := (T.alloc _).below b4 (Nat.le_refl _)
  have b4 := below_up b4
  have B4 := B3.trans (b4.mono B3.size)
  clear b4 B3
  go_wp2_with fail
  refine (K2.out _ _ (RowAt.lit2 (by simp) [8000, 0] _ rfl) ((T.alloc _).alloc _)).mono ?_
  rintro e w5 ⟨rfl, b5⟩
  have x7 := ((Box.new w4 23 #[.int .i64 2, .int .i64 5]).alloc (.cells #[.int .i64 8000, .int .i64 0] 3)).later b5
  replace T := ((T.alloc _).alloc _).below b5 (Nat.le_refl _)
  have b5 := below_up b5
  have b5 := below_up b5
  have B5 := B4.trans (b5.mono B4.size)
  clear b5 B4
  go_wp2_with fail
  refine (K3.out _ _ (RowAt.nil _ _) (T.alloc _)).mono ?_
  rintro e w6 ⟨rfl, b6⟩
  have x9 := (Box.new w5 23 #[.int .i64 0, .int .i64 1]).later b6
  replace T := (T.alloc _).below b6 (Nat.le_refl _)
  replace x7 := (x7.alloc _).later b6
  have b6 := below_up b6
  have B6 := B5.trans (b6.mono B5.size)
  clear b6 B5
  have k7 := x7.cells
  have k9 := x9.cells
  have l7 := x7.lt
  have l9 := x9.lt
  go_wp2_with fail
  refine (C1.out _).mono ?_
  rintro e _ ⟨rfl, rfl⟩
  go_wp2_with fail
  refine (C2.out _).mono ?_
  rintro e _ ⟨rfl, rfl⟩
  go_wp2
  go_ret
  exact ⟨rfl, B6.alloc B6.size _⟩
end Go.Proofs.YtkdpiikfiodopaaDoor
/-
  The reference of chapter 5: Chain; ShareChains: the walk.
-/
namespace Go.Proofs.YtkdpiikfiodopaaDoor
open Go.RowKit

/-- What the document's chain goes on to, in the program's words. -/
theorem times4_step {a b s : Int} (h : okR a b = true) (h1 : 1 ≤ s) (h2 : s ≤ 10000) : (lowestI (a * s) (b * 10000)).2 = true ∧ (timesI a b s 10000) = ((lowestI (a * s) (b * 10000)).1, 0) ∧ okR (lowestI (a * s) (b * 10000)).1.1 (lowestI (a * s) (b * 10000)).1.2 = true ∨ (lowestI (a * s) (b * 10000)).2 = false ∧ (timesI a b s 10000) = ((0, 0), 10) := by
  have h3 : okR s 10000 = true := (okR_iff _ _).2 (by omega)
  rw [← times4_eq]
  unfold times4I
  rw [if_pos ⟨h, h3⟩]
  obtain ⟨a1, a2, a3, a4⟩ := (okR_iff a b).1 h
  obtain ⟨g1, g2, g3, e1, e2, e3, e4⟩ := gcdI_spec (n := a * s) (d := b * 10000) (Int.mul_pos (by omega) (by omega)) (Int.mul_pos (by omega) (by omega))
  unfold lowestI
  by_cases hc : a * s / gcdI (a * s) (b * 10000) ≤ 1000000000000 ∧ b * 10000 / gcdI (a * s) (b * 10000) ≤ 1000000000000
  · left
    rw [if_pos hc]
    exact ⟨rfl, rfl, (okR_iff _ _).2 ⟨e1, e2, hc.1, hc.2⟩⟩
  · right
    rw [if_neg hc]
    exact ⟨rfl, rfl⟩

set_option maxRecDepth 100000 in
set_option maxHeartbeats 2000000 in
theorem r5chain_any {A : Option Addr} {c : Nat} {l : List Int} {w : World} (hm : l.length ≤ 1000000) (hr : RowAt w A (ivals l)) :
    Calls Tryd.prog 18 #[.slice A l.length c] w fun e w' => e = .returned (.tuple #[.agg #[.int .i64 (chainI l).1.1, .int .i64 (chainI l).1.2], .int .i64 (chainI l).2]) ∧ Below w.heap.size w w' := by
  have CH := Lib.hid fun s w => r5check_any s w
  have HR := Lib.hid hr
  clear hr
  obtain ⟨q, hq⟩ : ∃ q, chainI l = q := ⟨_, rfl⟩
  rw [hq]
  have HC := Lib.hid hq
  clear hq
  go_enter Tryd.func18, Tryd.ntmps18
  go_wp2_with fail
  go_loopw [4, 5] (fun b i wr => ∃ k : Nat, k ≤ l.length ∧ i = .int .i64 k ∧ b = .bool (decide (0 ∈ l.take k)) ∧ Hid ((l.take k).any badS = false) ∧ Box wr w.heap.size 23 #[.int .i64 0, .int .i64 0] ∧ Below w.heap.size w wr) (fun _ i _ => l.length - (intOf i).toNat)
  case atStart => exact ⟨0, by omega, rfl, rfl, rfl, Box.new _ _ _, (Below.refl _ _).alloc (Nat.le_refl _) _⟩
  case round =>
    obtain ⟨k, hk, rfl, rfl, hbad, b2, hb⟩ := hrel
    have k2 := b2.cells
    have l2 := b2.lt
    have f2 := b2.free
    by_cases hkn : k < l.length
    · obtain ⟨ba, offa, rfl, halt, hc⟩ := HR.out.iget (by omega)
      have h1 : wr.cell? ⟨ba, offa + k, none⟩ = some (.int .i64 l[k]) := (hb.cell (by exact halt)).trans (hc k hkn)
      have hba : ba < wr.heap.size := Nat.lt_of_lt_of_le halt hb.size
      have CK := Lib.hid (CH.out l[k])
      have hany : (l.take (k + 1)).any badS = badS l[k] := by rw [List.take_succ_eq_append_getElem hkn, List.any_append, hbad.out]; simp
      have hmem : decide (0 ∈ l.take (k + 1)) = (decide (0 ∈ l.take k) || (l[k] == 0)) := by
        rw [List.take_succ_eq_append_getElem hkn, Bool.eq_iff_iff, Bool.or_eq_true, decide_eq_true_iff, decide_eq_true_iff, List.mem_append, List.mem_singleton, beq_iff_eq]; exact ⟨fun h => h.imp id Eq.symm, fun h => h.imp id Eq.symm⟩
      have HM := Lib.hid hmem
      have HA := Lib.hid hany
      have HB : Hid (badS l[k] = true → l.any badS = true) := Lib.hid fun h => List.any_eq_true.2 ⟨l[k], List.getElem_mem hkn, h⟩
      clear hc hany hmem
      generalize decide (0 ∈ l.take k) = z at *
      generalize l[k] = x at *
      by_cases hx : badS x = true
      · obtain rfl : ((0, 0), 12) = q := (show chainI l = ((0, 0), 12) from if_pos (HB.out hx)).symm.trans HC.out
        clear HC
        have hc12 : chkS x = 12 := by
          unfold badS chkS at hx
          unfold chkS
          split at hx
          · simp at hx
          · rename_i h; exact if_neg h
        rw [hc12] at CK
        clear HM HA HB hc12 hx hbad
        go_wp2_with fail
        refine (CK.out _).mono ?_
        rintro e _ ⟨rfl, rfl⟩
        go_wp2
        refine bodyPost_ret (by unfold results; simp only [Tryd.results18]; go_simp; rfl) rfl ?_
        exact ⟨rfl, (hb.setCell (by simp) _).setCell (by simp) _⟩
      · have hx' : badS x = false := by simpa using hx
        have hc0 : chkS x = 0 := by
          unfold badS at hx'
          simpa using hx'
        rw [hc0] at CK
        rw [hx'] at HA
        clear HB hc0 hx hx' hbad
        go_wp2_with fail
        refine (CK.out _).mono ?_
        rintro e _ ⟨rfl, rfl⟩
        cases z
        · go_wp2
          go_roundw
          case rel => exact ⟨k + 1, by omega, by go_num, by rw [HM.out]; rfl, HA, b2, hb⟩
          case measure => simp [intOf] <;> omega
        · go_wp2
          go_roundw
          case rel => exact ⟨k + 1, by omega, by go_num, by rw [HM.out]; rfl, HA, b2, hb⟩
          case measure => simp [intOf] <;> omega
    · obtain rfl : k = l.length := by omega
      rw [List.take_length] at hbad
      rewrite [List.take_length]
      by_cases hz : (0 : Int) ∈ l
      · obtain rfl : ((0, 1), 0) = q := (show chainI l = ((0, 1), 0) from (if_neg (by rw [hbad.out]; decide)).trans (if_pos hz)).symm.trans HC.out
        rewrite [decide_eq_true hz]
        clear HC
        clear hz hbad
        go_wp2
        refine bodyPost_ret (by unfold results; simp only [Tryd.results18]; go_simp; rfl) rfl ?_
        exact ⟨rfl, (hb.setCell (by simp) _).setCell (by simp) _⟩
      · have hq' : chainGo l (1, 1) = q := by rw [← HC.out]; exact ((if_neg (by rw [hbad.out]; decide)).trans (if_neg hz)).symm
        rewrite [decide_eq_false hz]
        have HQ := Lib.hid hq'
        have HS : Hid (∀ k (h : k < l.length), 1 ≤ l[k] ∧ l[k] ≤ 10000) := Lib.hid fun k h => by
          have h1 : badS l[k] = false := by
            cases h1 : badS l[k]
            · rfl
            · have := List.any_eq_true.2 ⟨l[k], List.getElem_mem h, h1⟩
              rw [hbad.out] at this; cases this
          have h2 : l[k] ≠ 0 := fun e => hz (e ▸ List.getElem_mem h)
          unfold badS chkS at h1
          split at h1
          · omega
          · simp at h1
        clear hz hq' hbad k2 l2 f2 HC
        obtain ⟨w5, hw5⟩ : ∃ w5, w5 = wr := ⟨_, rfl⟩
        subst hw5
        go_wp2_with fail
        go_loopw [7] (fun i wr => ∃ (k : Nat) (p : Int × Int), k ≤ l.length ∧ i = .int .i64 k ∧ Hid (chainGo (l.drop k) p = q) ∧ Hid (okR p.1 p.2 = true) ∧ Box wr w.heap.size 23 #[.int .i64 0, .int .i64 0] ∧ Box wr w5.heap.size 23 #[.int .i64 p.1, .int .i64 p.2] ∧ Below w.heap.size w wr) (fun i _ => l.length - (intOf i).toNat)
        case atStart => exact ⟨0, (1, 1), by omega, rfl, HQ, by show _ = _; decide, b2.alloc _, Box.new _ _ _, hb.alloc hb.size _⟩
        case round =>
          have sw : w.heap.size ≠ w5.heap.size := Nat.ne_of_lt b2.lt
          clear HQ CH
          have hb0 := hb
          obtain ⟨k, p, hk, rfl, hg, hok, b2, b6, hb⟩ := hrel
          by_cases hkn : k < l.length
          · obtain ⟨ba, offa, rfl, halt, hc⟩ := HR.out.iget (by omega)
            have h1 : wr.cell? ⟨ba, offa + k, none⟩ = some (.int .i64 l[k]) := (hb.cell (by exact halt)).trans (hc k hkn)
            have hba : ba < wr.heap.size := Nat.lt_of_lt_of_le halt hb.size
            have hstep := hg.out
            rw [chainGo_drop hkn] at hstep
            have hx := HS.out k hkn
            have T4 := Lib.hid (times4_step hok.out hx.1 hx.2)
            obtain ⟨p1, p2, p3, p4⟩ := (okR_iff _ _).1 hok.out
            clear hc hg
            generalize l[k] = x at *
            obtain ⟨a, b⟩ := p
            simp only at p1 p2 p3 p4 T4 hstep b6
            obtain ⟨x1, x2⟩ := hx
            have pp1 : 1 ≤ a * x := Int.mul_pos (by omega) (by omega)
            have pp2 : 1 ≤ b * 10000 := Int.mul_pos (by omega) (by omega)
            have Oa := Lib.hid fun (w : World) => of_any a w (by omega) (by omega)
            have Ob := Lib.hid fun (w : World) => of_any b w (by omega) (by omega)
            have Ox := Lib.hid fun (w : World) => of_any x w (by omega) (by omega)
            have Ow := Lib.hid fun (w : World) => of_any 10000 w (by omega) (by omega)
            have TA := Lib.hid fun (w : World) S S' va vb (ha : BigIs S w va a 19) (hb : BigIs S' w vb x 19) => times_any ha hb (by omega)
            have TB := Lib.hid fun (w : World) S S' va vb (ha : BigIs S w va b 19) (hb : BigIs S' w vb 10000 19) => times_any ha hb (by omega)
            have LO := Lib.hid fun (w : World) S S' va vb (ha : BigIs S w va (a * x) 38) (hb : BigIs S' w vb (b * 10000) 38) => lowest_any ha hb pp1 pp2 (by omega) (by omega)
            have HST := Lib.hid hstep
            clear pp1 pp2 p1 p2 p3 p4 x1 x2 hok hstep
            generalize timesI a b x 10000 = tt at *
            generalize lowestI (a * x) (b * 10000) = y at *
            obtain ⟨y1, y2⟩ := y
            obtain ⟨w6, hw6⟩ : ∃ w6, w6 = wr := ⟨_, rfl⟩
            subst hw6
            have s6 := hb.size
            have l6 := b6.lt
            have x7 : Box w6 w5.heap.size 23 #[.int .i64 a, .int .i64 b] := b6
            go_upto_region 14 with fail
            go_cut [8, 9] from 40 to 57 (fun s8 s9 wx => s9 = .bool y2 ∧ LowCut y1 w6 s8 wx)
            case first =>
              have kkx7 := x7.cells
              have nex7 := Nat.ne_of_gt x7.lt
              have neh1 := Nat.ne_of_gt hba
              first | go_region_held3 (fun w' => w'.cell? ⟨w5.heap.size, 0, none⟩ = some (.int .i64 a) ∧ w'.cell? ⟨w5.heap.size, 1, none⟩ = some (.int .i64 b) ∧ w'.cell? ⟨ba, offa + k, none⟩ = some (.int .i64 x)) (go_keep)
                (first
                  | (go_at_call 49; (with_reducible refine (Oa.out _).mono ?_); rintro e w60 ⟨v1, rfl, m1, b60⟩; have yx7 : Box w60 (w5.heap.size) 23 #[.int .i64 a, .int .i64 b] := (by first | exact (x7).drew.later b60 | exact (x7.alloc _).drew.later b60); have kyx7 := yx7.cells; have nex70 := Nat.ne_of_gt yx7.lt; have cb : Below w6.heap.size w6 w60 := (by first | exact (below_undrew b60) | exact (below_up (below_undrew b60))); have yh1 := (cb.cell (p := ⟨ba, offa + k, none⟩) hba).trans h1; have neh10 := Nat.ne_of_gt (Nat.lt_of_lt_of_le hba cb.size); (first | (have z1 := z1.later b60; have kz1 := z1.cells; have fz1 := z1.free) | (have z1 := (Box.new w6 23 #[.int .i64 0, .int .i64 0]).drew.later b60; have kz1 := z1.cells; have fz1 := z1.free) | skip); have m1 := m1.mono (S' := fun _ => True) (fun _ _ _ => trivial) (Nat.le_refl _); obtain ⟨t1, A1, j1, c1, rfl⟩ := m1.form2; (first | (have z1l := z1.lt) | skip); have s60 := cb.size)
                  | (go_at_call 49; (with_reducible refine (Ox.out _).mono ?_); rintro e w61 ⟨v2, rfl, m2, b61⟩; have yx7 : Box w61 (w5.heap.size) 23 #[.int .i64 a, .int .i64 b] := (by first | exact (yx7).later b61 | exact (yx7.alloc _).later b61); have kyx7 := yx7.cells; have nex71 := Nat.ne_of_gt yx7.lt; have cb : Below w6.heap.size w6 w61 := (by first | exact cb.trans (b61.mono cb.size) | exact cb.trans ((below_up b61).mono cb.size)); have yh1 := (cb.cell (p := ⟨ba, offa + k, none⟩) hba).trans h1; have neh11 := Nat.ne_of_gt (Nat.lt_of_lt_of_le hba cb.size); (first | (have z1 := z1.later b61; have kz1 := z1.cells; have fz1 := z1.free) | (have z1 := (Box.new w60 23 #[.int .i64 0, .int .i64 0]).later b61; have kz1 := z1.cells; have fz1 := z1.free) | skip); (first | replace m1 := (m1).below b61 (Nat.le_refl _) | replace m1 := (m1.alloc _).below b61 (Nat.le_refl _)); have m2 := m2.mono (S' := fun _ => True) (fun _ _ _ => trivial) (Nat.le_refl _); obtain ⟨t2, A2, j2, c2, rfl⟩ := m2.form2; have s61 := cb.size)
                  | (go_at_call 48; (with_reducible refine (TA.out _ (fun _ => True) (fun _ => True) _ _ ?_ ?_).mono ?_); (first | exact m1 | exact m1.alloc _); (first | exact m2 | exact m2.alloc _); rintro e w62 ⟨v3, rfl, m3, b62⟩; have yx7 : Box w62 (w5.heap.size) 23 #[.int .i64 a, .int .i64 b] := (by first | exact (yx7).later b62 | exact (yx7.alloc _).later b62); have kyx7 := yx7.cells; have nex72 := Nat.ne_of_gt yx7.lt; have cb : Below w6.heap.size w6 w62 := (by first | exact cb.trans (b62.mono cb.size) | exact cb.trans ((below_up b62).mono cb.size)); have yh1 := (cb.cell (p := ⟨ba, offa + k, none⟩) hba).trans h1; have neh12 := Nat.ne_of_gt (Nat.lt_of_lt_of_le hba cb.size); (first | (have z1 := z1.later b62; have kz1 := z1.cells; have fz1 := z1.free) | (have z1 := (Box.new w61 23 #[.int .i64 0, .int .i64 0]).later b62; have kz1 := z1.cells; have fz1 := z1.free) | skip); (first | replace m1 := (m1).below b62 (Nat.le_refl _) | replace m1 := (m1.alloc _).below b62 (Nat.le_refl _)); (first | replace m2 := (m2).below b62 (Nat.le_refl _) | replace m2 := (m2.alloc _).below b62 (Nat.le_refl _)); have m3 := m3.mono (S' := fun _ => True) (fun _ _ _ => trivial) (Nat.le_refl _); obtain ⟨t3, A3, j3, c3, rfl⟩ := m3.form2; have s62 := cb.size)
                  | (go_at_call 49; (with_reducible refine (Ob.out _).mono ?_); rintro e w63 ⟨v4, rfl, m4, b63⟩; have yx7 : Box w63 (w5.heap.size) 23 #[.int .i64 a, .int .i64 b] := (by first | exact (yx7).later b63 | exact (yx7.alloc _).later b63); have kyx7 := yx7.cells; have nex73 := Nat.ne_of_gt yx7.lt; have cb : Below w6.heap.size w6 w63 := (by first | exact cb.trans (b63.mono cb.size) | exact cb.trans ((below_up b63).mono cb.size)); have yh1 := (cb.cell (p := ⟨ba, offa + k, none⟩) hba).trans h1; have neh13 := Nat.ne_of_gt (Nat.lt_of_lt_of_le hba cb.size); (first | (have z1 := z1.later b63; have kz1 := z1.cells; have fz1 := z1.free) | (have z1 := (Box.new w62 23 #[.int .i64 0, .int .i64 0]).later b63; have kz1 := z1.cells; have fz1 := z1.free) | skip); (first | replace m3 := (m3).below b63 (Nat.le_refl _) | replace m3 := (m3.alloc _).below b63 (Nat.le_refl _)); have m4 := m4.mono (S' := fun _ => True) (fun _ _ _ => trivial) (Nat.le_refl _); obtain ⟨t4, A4, j4, c4, rfl⟩ := m4.form2; have s63 := cb.size)
                  | (go_at_call 49; (with_reducible refine (Ow.out _).mono ?_); rintro e w64 ⟨v5, rfl, m5, b64⟩; have yx7 : Box w64 (w5.heap.size) 23 #[.int .i64 a, .int .i64 b] := (by first | exact (yx7).later b64 | exact (yx7.alloc _).later b64); have kyx7 := yx7.cells; have nex74 := Nat.ne_of_gt yx7.lt; have cb : Below w6.heap.size w6 w64 := (by first | exact cb.trans (b64.mono cb.size) | exact cb.trans ((below_up b64).mono cb.size)); have yh1 := (cb.cell (p := ⟨ba, offa + k, none⟩) hba).trans h1; have neh14 := Nat.ne_of_gt (Nat.lt_of_lt_of_le hba cb.size); (first | (have z1 := z1.later b64; have kz1 := z1.cells; have fz1 := z1.free) | (have z1 := (Box.new w63 23 #[.int .i64 0, .int .i64 0]).later b64; have kz1 := z1.cells; have fz1 := z1.free) | skip); (first | replace m3 := (m3).below b64 (Nat.le_refl _) | replace m3 := (m3.alloc _).below b64 (Nat.le_refl _)); (first | replace m4 := (m4).below b64 (Nat.le_refl _) | replace m4 := (m4.alloc _).below b64 (Nat.le_refl _)); have m5 := m5.mono (S' := fun _ => True) (fun _ _ _ => trivial) (Nat.le_refl _); obtain ⟨t5, A5, j5, c5, rfl⟩ := m5.form2; have s64 := cb.size)
                  | (go_at_call 48; (with_reducible refine (TB.out _ (fun _ => True) (fun _ => True) _ _ ?_ ?_).mono ?_); (first | exact m4 | exact m4.alloc _); (first | exact m5 | exact m5.alloc _); rintro e w65 ⟨v6, rfl, m6, b65⟩; have yx7 : Box w65 (w5.heap.size) 23 #[.int .i64 a, .int .i64 b] := (by first | exact (yx7).later b65 | exact (yx7.alloc _).later b65); have kyx7 := yx7.cells; have nex75 := Nat.ne_of_gt yx7.lt; have cb : Below w6.heap.size w6 w65 := (by first | exact cb.trans (b65.mono cb.size) | exact cb.trans ((below_up b65).mono cb.size)); have yh1 := (cb.cell (p := ⟨ba, offa + k, none⟩) hba).trans h1; have neh15 := Nat.ne_of_gt (Nat.lt_of_lt_of_le hba cb.size); (first | (have z1 := z1.later b65; have kz1 := z1.cells; have fz1 := z1.free) | (have z1 := (Box.new w64 23 #[.int .i64 0, .int .i64 0]).later b65; have kz1 := z1.cells; have fz1 := z1.free) | skip); (first | replace m3 := (m3).below b65 (Nat.le_refl _) | replace m3 := (m3.alloc _).below b65 (Nat.le_refl _)); (first | replace m4 := (m4).below b65 (Nat.le_refl _) | replace m4 := (m4.alloc _).below b65 (Nat.le_refl _)); (first | replace m5 := (m5).below b65 (Nat.le_refl _) | replace m5 := (m5.alloc _).below b65 (Nat.le_refl _)); have m6 := m6.mono (S' := fun _ => True) (fun _ _ _ => trivial) (Nat.le_refl _); obtain ⟨t6, A6, j6, c6, rfl⟩ := m6.form2; have s65 := cb.size)
                  | (go_at_call 47; (with_reducible refine (LO.out _ (fun _ => True) (fun _ => True) _ _ ?_ ?_).mono ?_); (first | exact m3 | exact m3.alloc _); (first | exact m6 | exact m6.alloc _); rintro e w66 ⟨rfl, b66⟩; have yx7 : Box w66 (w5.heap.size) 23 #[.int .i64 a, .int .i64 b] := (by first | exact (yx7).later b66 | exact (yx7.alloc _).later b66); have kyx7 := yx7.cells; have nex76 := Nat.ne_of_gt yx7.lt; have cb : Below w6.heap.size w6 w66 := (by first | exact cb.trans (b66.mono cb.size) | exact cb.trans ((below_up b66).mono cb.size)); have yh1 := (cb.cell (p := ⟨ba, offa + k, none⟩) hba).trans h1; have neh16 := Nat.ne_of_gt (Nat.lt_of_lt_of_le hba cb.size); (first | (have z1 := z1.later b66; have kz1 := z1.cells; have fz1 := z1.free) | (have z1 := (Box.new w65 23 #[.int .i64 0, .int .i64 0]).later b66; have kz1 := z1.cells; have fz1 := z1.free) | skip); (first | replace m3 := (m3).below b66 (Nat.le_refl _) | replace m3 := (m3.alloc _).below b66 (Nat.le_refl _)); (first | replace m6 := (m6).below b66 (Nat.le_refl _) | replace m6 := (m6.alloc _).below b66 (Nat.le_refl _)); have s66 := cb.size))
              all_goals (go_wp2_with fail; go_meet)
              all_goals
                have cs := cb.size
                refine ⟨rfl, _, rfl, ?_, ?_⟩
                · repeat' (first | (with_reducible exact z1) | ((with_reducible refine Box.new' ?_); (first | rfl | (simp; done) | (simp [World.setCell]; done))) | (with_reducible refine box2r (a := .int .i64 0) (b := .int .i64 0) ?_ _ _) | (with_reducible refine Box.alloc ?_ _) | (with_reducible refine Box.far' ?_ ?_ _))
                  all_goals omega
                · repeat' (with_reducible (first | exact cb | refine Below.alloc ?_ ?_ _ | refine Below.setCell ?_ ?_ _))
                  all_goals first | exact cs | omega | (dsimp only; omega) | (simp; omega)
            case rest =>
              obtain ⟨rfl, g8, rfl, x8, bc⟩ := hcut
              obtain ⟨w9, rfl⟩ : ∃ w0 : World, w0 = wc := ⟨_, rfl⟩
              clear x7 LO TA TB Oa Ob Ox Ow
              replace b2 := b2.later bc
              replace b6 := b6.later bc
              have hb9 := hb.trans (bc.mono hb.size)
              clear bc hb
              have s9 := hb9.size
              have s0 := hb0.size
              have k8 := x8.cells
              have l8 := x8.lt
              rcases T4.out with ⟨t1, t2, t3⟩ | ⟨t1, t2⟩
              · simp only at t1 t2 t3
                subst t1
                have hn := HST.out
                rw [t2] at hn
                rw [if_pos rfl] at hn
                have HN := Lib.hid hn
                have HO := Lib.hid t3
                clear hn t2 t3 T4 HST
                have k6 := b6.cells
                have l6 := b6.lt
                have f6 := b6.free
                go_wp2
                go_roundw
                case rel => exact ⟨k + 1, y1, by omega, by go_num, HN, HO, (b2.far' (by omega) _).far' (by omega) _, box2r b6 _ _, (hb9.setCell (by simp; omega) _).setCell (by simp; omega) _⟩
                case measure => simp [intOf] <;> omega
              · simp only at t1 t2
                subst t1
                have hn := HST.out
                rw [t2] at hn
                rw [if_neg (by decide)] at hn
                have HN := Lib.hid hn
                clear hn t2 T4 HST
                have k2 := b2.cells
                have l2 := b2.lt
                have f2 := b2.free
                go_wp2
                refine bodyPost_ret (by unfold results; simp only [Tryd.results18]; go_simp; rfl) rfl ?_
                rw [← HN.out]
                exact ⟨rfl, (hb9.setCell (by simp) _).setCell (by simp) _⟩
          · obtain rfl : k = l.length := by omega
            have hend := hg.out
            rw [List.drop_eq_nil_of_le (Nat.le_refl _)] at hend
            have HE := Lib.hid (show (p, (0 : Int)) = q from hend)
            clear hend hg
            have k6 := b6.cells
            have l6 := b6.lt
            have k2 := b2.cells
            have l2 := b2.lt
            have f2 := b2.free
            go_wp2
            refine bodyPost_ret (by unfold results; simp only [Tryd.results18]; go_simp; rfl) rfl ?_
            rw [← HE.out]
            exact ⟨rfl, (hb.setCell (by simp) _).setCell (by simp) _⟩

set_option maxRecDepth 100000 in
set_option maxHeartbeats 2000000 in
theorem schains_walk {A : Option Addr} {c : Nat} {l : List Int} {w : World} (hm : l.length ≤ maxLen) (hr : RowAt w A (ivals l)) (T : Tb w) :
    Calls Tryd.prog 4 #[.slice A l.length c] w fun e w' => e = .returned (.bool true) ∧ Below w.heap.size w w' := by
  have AW := Lib.hid fun (w : World) (T : Tb w) => shawake_any w T
  by_cases h60 : 60 < l.length
  · unfold maxLen at hm
    go_enter Tryd.func4, Tryd.ntmps4
    go_wp2_with fail
    refine (AW.out _ T).mono ?_
    rintro e w1 ⟨rfl, b1⟩
    go_wp2
    go_ret
    exact ⟨rfl, b1⟩
  · have C1 := Lib.hid fun (w : World) (h : RowAt w A (ivals l)) (T : Tb w) => chain_any (c := c) (by omega) h T
    have C2 := Lib.hid fun (w : World) (h : RowAt w A (ivals l)) => r5chain_any (c := c) (by omega) h
    generalize chainI l = q at *
    have EQ : ∀ w, (Op.equalIn 10000 23 (.agg #[.int .i64 q.1.1, .int .i64 q.1.2]) (.agg #[.int .i64 q.1.1, .int .i64 q.1.2])).run Tryd.prog w = .ok true w := fun w => by rw [req]; simp
    have HR := Lib.hid hr
    clear hr
    unfold maxLen at hm
    go_enter Tryd.func4, Tryd.ntmps4
    go_wp2_with fail
    refine (C1.out _ HR.out T).mono ?_
    rintro e w1 ⟨rfl, b1⟩
    go_wp2_with fail
    refine (C2.out _ ((HR.out.below b1 (Nat.le_refl _)).alloc _)).mono ?_
    rintro e w2 ⟨rfl, b2⟩
    have x3 := (Box.new w1 23 #[.int .i64 q.1.1, .int .i64 q.1.2]).later b2
    have T2 := ((T.below b1 (Nat.le_refl _)).alloc _).below b2 (Nat.le_refl _)
    have b2 := below_up b2
    have B2 := b1.trans (b2.mono b1.size)
    have k3 := x3.cells
    have l3 := x3.lt
    clear b1 b2
    go_wp2_with fail
    refine (AW.out _ (T2.alloc _)).mono ?_
    rintro e w3 ⟨rfl, b3⟩
    have b3 := below_up b3
    go_wp2
    go_ret
    exact ⟨rfl, B2.trans (b3.mono B2.size)⟩
end Go.Proofs.YtkdpiikfiodopaaDoor
