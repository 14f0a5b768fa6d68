/-
  AccountLeaves.
-/
import Derived.Test.YthkaohjgldoipaaAc16
namespace Go.Proofs.Ythkaohjgldoipaa
open Go.RowKit
/-- How many leaves are under the first ones. -/
def sumJ (l : List Acc) (zk : List Int) (j : Nat) : Nat := ((zk.take j).map fun k => (undA l k).length).sum
theorem sumJ_step {l : List Acc} {zk : List Int} {j : Nat} (h : j < zk.length) : sumJ l zk (j + 1) = sumJ l zk j + (undA l zk[j]).length := by
  unfold sumJ
  rw [List.take_succ_eq_append_getElem h, List.map_append, List.sum_append]
  simp
theorem und_in {l : List Acc} {a x : Int} (hx : x ∈ undA l a) : leafA l x = true ∧ (x = a ∨ a ∈ upA l x) := by
  unfold undA at hx
  split at hx
  · have := (List.mem_filter.1 hx).2
    unfold undB at this
    rw [Bool.and_eq_true, Bool.or_eq_true] at this
    exact ⟨this.1, this.2.imp (fun h => by simpa using h) (fun h => by simpa using h)⟩
  · simp at hx
section
variable {A : Option Addr} {c : Nat} {l : List Acc} {w : World}
set_option maxRecDepth 100000 in
set_option maxHeartbeats 8000000 in
theorem leaves_law (hc : l.length ≤ c) (hr : RowC w A l) : Calls Try.prog 9 #[.slice A l.length c] w fun e w' => e = .returned (.bool true) ∧ Below w.heap.size w w' := by
  have AW := Lib.hid fun w => awake_any w
  by_cases h20 : 20 < l.length
  · clear hr
    go_enter Try.func9, Try.ntmps9
    go_wp2_with fail
    refine (AW.out _).mono ?_
    rintro e w1 ⟨rfl, b1⟩
    go_wp2
    go_ret
    exact ⟨rfl, b1⟩
  · have hm : l.length ≤ 1000000 := by omega
    have CK := Lib.hid (acheck_any (c := c) hm hc hr)
    by_cases hck : (chkA l).2 = 0
    · have ht := (chkA_ok.1 hck).tree
      have CK1 := CK.out
      rw [chkA_at hck] at CK1
      replace CK := Lib.hid CK1
      clear CK1 hck
      go_enter Try.func9, Try.ntmps9
      go_wp2_with fail
      refine CK.out.mono ?_
      rintro e w1 ⟨rfl, hb⟩
      replace hr := hr.later hb
      clear CK
      go_wp2
      go_loopw [5] (fun t wr => ∃ a : Int, 1 ≤ a ∧ a ≤ l.length + 1 ∧ t = .int .i64 a ∧ RowC wr A l ∧ Below w.heap.size w wr) (fun t _ => (l.length + 1 - intOf t).toNat)
      case atStart => exact ⟨1, by omega, by omega, rfl, hr, hb⟩
      case round =>
        clear hr hb
        obtain ⟨a, ha1, ha2, rfl, hr, hb⟩ := hrel
        by_cases han : a ≤ l.length
        · have hia : isA l a = true := isA_iff.2 ⟨ha1, han⟩
          have U1 := Lib.hid fun (w : World) (hr : RowC w A l) => (aundera_any (c := c) a hm hr).mono fun _ _ h => rowOf rfl h
          have K1 := Lib.hid fun (w : World) (hr : RowC w A l) => (achildren_any (c := c) a hm hr).mono fun _ _ h => rowOf rfl h
          have LF := fun (w : World) (hr : RowC w A l) => aleafl_any (c := c) a hm hr
          have HU : Hid (∀ x ∈ undA l a, leafA l x = true ∧ (x = a ∨ a ∈ upA l x)) := fun x hx => und_in hx
          have HK : Hid (∀ k ∈ kidA l a, ∀ x ∈ undA l k, x ∈ undA l a) := fun k hk x hx => und_kid ht hia hk hx
          have hu0 := und_ne ht hia
          have hul := und_len l a
          have hkl := kid_len l a
          cases hlf : leafA l a
          · have SUM := Lib.hid (und_sum ht hia hlf)
            have hk0 : (kidA l a).length ≠ 0 := fun h => by
              have := leaf_kid hia
              rw [hlf, decide_eq_true h] at this
              cases this
            rw [hlf] at LF
            replace LF := Lib.hid LF
            clear hlf
            generalize undA l a = zu at *
            generalize kidA l a = zk at *
            have hz1 : ((zk.length : Int) == 0) = false := beq_eq_false_iff_ne.2 (by omega)
            have hz2 : ((zu.length : Int) == 0) = false := beq_eq_false_iff_ne.2 (by omega)
            have hz3 : (0 : Int) < zk.length := by omega
            go_wp2_with fail
            refine (U1.out _ hr).mono ?_
            rintro e w2 ⟨A1, c1, rfl, r1, b1⟩
            replace hr := hr.below b1 (Nat.le_refl _)
            replace hb := hb.trans (b1.mono hb.size)
            clear b1
            go_wp2_with fail
            refine (K1.out _ hr).mono ?_
            rintro e w3 ⟨A2, c2, rfl, r2, b1⟩
            replace r1 := r1.below b1 (Nat.le_refl _)
            replace hr := hr.below b1 (Nat.le_refl _)
            replace hb := hb.trans (b1.mono hb.size)
            clear b1
            go_wp2_with fail
            refine (LF.out _ hr).mono ?_
            rintro e w4 ⟨rfl, b1⟩
            replace r1 := r1.below b1 (Nat.le_refl _)
            replace r2 := r2.below b1 (Nat.le_refl _)
            replace hr := hr.below b1 (Nat.le_refl _)
            replace hb := hb.trans (b1.mono hb.size)
            clear b1
            go_wp2_with fail
            refine (LF.out _ hr).mono ?_
            rintro e w5 ⟨rfl, b1⟩
            replace r1 := r1.below b1 (Nat.le_refl _)
            replace r2 := r2.below b1 (Nat.le_refl _)
            replace hr := hr.below b1 (Nat.le_refl _)
            replace hb := hb.trans (b1.mono hb.size)
            clear b1
            go_wp2
            go_loopw [8, 9] (fun s i wr => ∃ j : Nat, j ≤ zk.length ∧ s = .int .i64 (sumJ l zk j : Int) ∧ i = .int .i64 j ∧ sumJ l zk j ≤ 20 * j ∧ RowAt wr A1 (ivals zu) ∧ RowAt wr A2 (ivals zk) ∧ RowC wr A l ∧ Below w.heap.size w wr) (fun _ i _ => zk.length - (intOf i).toNat)
            case atStart => exact ⟨0, by omega, rfl, rfl, by simp [sumJ], r1, r2, hr, hb⟩
            case round =>
              clear r1 r2 hr hb
              obtain ⟨j, hj, rfl, rfl, hs9, r1, r2, hr, hb⟩ := hrel
              by_cases hjn : j < zk.length
              · obtain ⟨b2, off2, rfl, _, hc2⟩ := r2.iget (by omega)
                have h2 := hc2 j hjn
                have hst := Lib.hid (sumJ_step (l := l) hjn)
                have UJ := Lib.hid fun (w : World) (hr : RowC w A l) => (aundera_any (c := c) zk[j] hm hr).mono fun _ _ h => rowOf rfl h
                have HJ : Hid (∀ x ∈ undA l zk[j], x ∈ zu) := fun x hx => HK.out zk[j] (List.getElem_mem hjn) x hx
                have hlo := und_len l zk[j]
                clear hc2
                generalize undA l zk[j] = zo at *
                generalize zk[j] = kj at *
                generalize hsj : sumJ l zk j = sj at *
                replace hsj := Lib.hid hsj
                go_wp2_with fail
                refine (UJ.out _ hr).mono ?_
                rintro e w3 ⟨A3, c3, rfl, r3, b1⟩
                replace r1 := r1.below b1 (Nat.le_refl _)
                replace r2 := r2.below b1 (Nat.le_refl _)
                replace hr := hr.below b1 (Nat.le_refl _)
                replace hb := hb.trans (b1.mono hb.size)
                clear b1
                clear h2
                go_wp2
                go_loopw [11] (fun i wr => ∃ k : Nat, k ≤ zo.length ∧ i = .int .i64 k ∧ RowAt wr A1 (ivals zu) ∧ RowAt wr (some ⟨b2, off2, none⟩) (ivals zk) ∧ RowAt wr A3 (ivals zo) ∧ RowC wr A l ∧ Below w.heap.size w wr) (fun i _ => zo.length - (intOf i).toNat)
                case atStart => exact ⟨0, by omega, rfl, r1, r2, r3, hr, hb⟩
                case round =>
                  clear r1 r2 r3 hr hb
                  obtain ⟨k, hk, rfl, r1, r2, r3, hr, hb⟩ := hrel
                  by_cases hkn : k < zo.length
                  · obtain ⟨b3, off3, rfl, _, hc3⟩ := r3.iget (by omega)
                    have h3 := hc3 k hkn
                    have HS := has_any (c := c1) (n := zo[k]) (by unfold maxLen; omega) r1
                    rw [decide_eq_true (HJ.out _ (List.getElem_mem hkn))] at HS
                    replace HS := Lib.hid HS
                    clear hc3
                    generalize zo[k] = y at *
                    go_wp2_with fail
                    refine HS.out.mono ?_
                    rintro e _ ⟨rfl, rfl⟩
                    clear h3
                    go_wp2
                    go_roundw
                    case rel => exact ⟨k + 1, by omega, by go_num, r1, r2, r3, hr, hb⟩
                    case measure => simp [intOf]; omega
                  · obtain rfl : k = zo.length := by omega
                    go_wp2
                    go_roundw
                    case rel => exact ⟨j + 1, by omega, by rw [hst.out]; go_num, by go_num, by rw [hst.out]; omega, r1, r2, hr, hb⟩
                    case measure => simp [intOf]; omega
              · obtain rfl : j = zk.length := by omega
                have hsum := SUM.out
                rw [show sumJ l zk zk.length = (zk.map fun k => (undA l k).length).sum by unfold sumJ; rw [List.take_length]] at hs9 ⊢
                generalize (zk.map fun k => (undA l k).length).sum = sj at *
                have hsn : ((sj : Int) != zu.length) = false := by rw [hsum]; simp
                clear hsum SUM
                go_wp2
                go_loopw [12] (fun i wr => ∃ j : Nat, j ≤ zu.length ∧ i = .int .i64 j ∧ RowAt wr A1 (ivals zu) ∧ RowC wr A l ∧ Below w.heap.size w wr) (fun i _ => zu.length - (intOf i).toNat)
                case atStart => exact ⟨0, by omega, rfl, r1, hr, hb⟩
                case round =>
                  clear r1 hr hb
                  obtain ⟨j, hj, rfl, r1, hr, hb⟩ := hrel
                  by_cases hjn : j < zu.length
                  · obtain ⟨b1, off1, rfl, _, hc1⟩ := r1.iget (by omega)
                    have h1 := hc1 j hjn
                    obtain ⟨hlx, hax⟩ := HU.out zu[j] (List.getElem_mem hjn)
                    have LX := fun (w : World) (hr : RowC w A l) => aleafl_any (c := c) zu[j] hm hr
                    rw [hlx] at LX
                    replace LX := Lib.hid LX
                    have UX := Lib.hid fun (w : World) (hr : RowC w A l) => (aupl_any (c := c) zu[j] hm hr).mono fun _ _ h => rowOf rfl h
                    have hul := upA_len l zu[j]
                    clear hc1 hlx
                    generalize upA l zu[j] = us at *
                    generalize zu[j] = x at *
                    by_cases hxa : x = a
                    · have hne : (x != a) = false := by simpa using hxa
                      clear hax hxa
                      go_wp2_with fail
                      refine (LX.out _ hr).mono ?_
                      rintro e w4 ⟨rfl, b1⟩
                      replace r1 := r1.below b1 (Nat.le_refl _)
                      replace hr := hr.below b1 (Nat.le_refl _)
                      replace hb := hb.trans (b1.mono hb.size)
                      clear b1
                      clear h1
                      go_wp2
                      go_roundw
                      case rel => exact ⟨j + 1, by omega, by go_num, r1, hr, hb⟩
                      case measure => simp [intOf]; omega
                    · have hne : (x != a) = true := by simpa using hxa
                      have hin : a ∈ us := hax.resolve_left hxa
                      have HS := fun (A : Option Addr) (c : Nat) (w : World) (hr : RowAt w A (ivals us)) => has_any (A := A) (c := c) (l := us) (n := a) (by unfold maxLen; omega) hr
                      rw [decide_eq_true hin] at HS
                      replace HS := Lib.hid HS
                      clear hax hxa hin
                      go_wp2_with fail
                      refine (LX.out _ hr).mono ?_
                      rintro e w4 ⟨rfl, b1⟩
                      replace r1 := r1.below b1 (Nat.le_refl _)
                      replace hr := hr.below b1 (Nat.le_refl _)
                      replace hb := hb.trans (b1.mono hb.size)
                      clear b1
                      go_wp2_with fail
                      refine (UX.out _ hr).mono ?_
                      rintro e w5 ⟨A5, c5, rfl, r5, b1⟩
                      replace r1 := r1.below b1 (Nat.le_refl _)
                      replace hr := hr.below b1 (Nat.le_refl _)
                      replace hb := hb.trans (b1.mono hb.size)
                      clear b1
                      go_wp2_with fail
                      refine (HS.out _ _ _ r5).mono ?_
                      rintro e _ ⟨rfl, rfl⟩
                      clear h1 r5
                      go_wp2
                      go_roundw
                      case rel => exact ⟨j + 1, by omega, by go_num, r1, hr, hb⟩
                      case measure => simp [intOf]; omega
                  · obtain rfl : j = zu.length := by omega
                    go_wp2
                    go_roundw
                    case rel => exact ⟨a + 1, by omega, by omega, by go_num, hr, hb⟩
                    case measure => simp [intOf]; omega
          · have hk0 : kidA l a = [] := by
              have := leaf_kid hia
              rw [hlf] at this
              exact List.eq_nil_of_length_eq_zero (of_decide_eq_true this.symm)
            have hu1 := und_leaf ht hia hlf
            rw [hlf] at LF
            replace LF := Lib.hid LF
            have U1 := fun (w : World) (hr : RowC w A l) => (aundera_any (c := c) a hm hr).mono fun _ _ h => rowOf (k := 1) (by rw [hu1]; rfl) h
            rw [hu1] at U1
            replace U1 := Lib.hid U1
            have K1 := Lib.hid fun (w : World) (hr : RowC w A l) => (achildren_any (c := c) a hm hr).mono fun _ _ h => rowOf (k := 0) (by rw [hk0]; rfl) h
            have SS := Lib.hid (same_self [a] 1 rfl (by omega))
            clear hlf hk0 hu1 HU HK hu0 hul hkl
            generalize kidA l a = zk at *
            go_wp2_with fail
            refine (U1.out _ hr).mono ?_
            rintro e w2 ⟨A1, c1, rfl, r1, b1⟩
            replace hr := hr.below b1 (Nat.le_refl _)
            replace hb := hb.trans (b1.mono hb.size)
            clear b1
            go_wp2_with fail
            refine (K1.out _ hr).mono ?_
            rintro e w3 ⟨A2, c2, rfl, r2, b1⟩
            clear r2
            replace r1 := r1.below b1 (Nat.le_refl _)
            replace hr := hr.below b1 (Nat.le_refl _)
            replace hb := hb.trans (b1.mono hb.size)
            clear b1
            go_wp2_with fail
            refine (LF.out _ hr).mono ?_
            rintro e w4 ⟨rfl, b1⟩
            replace r1 := r1.below b1 (Nat.le_refl _)
            replace hr := hr.below b1 (Nat.le_refl _)
            replace hb := hb.trans (b1.mono hb.size)
            clear b1
            go_wp2_with fail
            refine (LF.out _ hr).mono ?_
            rintro e w5 ⟨rfl, b1⟩
            replace r1 := r1.below b1 (Nat.le_refl _)
            replace hr := hr.below b1 (Nat.le_refl _)
            replace hb := hb.trans (b1.mono hb.size)
            clear b1
            have N5 := new_ints w5 [a]
            go_wp2_with fail
            refine (SS.out _ _ _ _ _ (r1.alloc _) N5).mono ?_
            rintro e w6 ⟨rfl, b6⟩
            replace r1 := (r1.alloc _).below b6 (Nat.le_refl _)
            replace hr := (hr.alloc _).later b6
            replace hb := hb.trans ((below_up b6).mono hb.size)
            clear b6 N5
            go_wp2
            go_loopw [8, 9] (fun s i wr => s = .int .i64 0 ∧ i = .int .i64 0 ∧ RowAt wr A1 (ivals [a]) ∧ RowC wr A l ∧ Below w.heap.size w wr) (fun _ _ _ => 0)
            case atStart => exact ⟨rfl, rfl, r1, hr, hb⟩
            case round =>
              clear r1 hr hb
              obtain ⟨rfl, rfl, r1, hr, hb⟩ := hrel
              go_wp2
              go_loopw [12] (fun i wr => ∃ j : Nat, j ≤ 1 ∧ i = .int .i64 j ∧ RowAt wr A1 (ivals [a]) ∧ RowC wr A l ∧ Below w.heap.size w wr) (fun i _ => 1 - (intOf i).toNat)
              case atStart => exact ⟨0, by omega, rfl, r1, hr, hb⟩
              case round =>
                clear r1 hr hb
                obtain ⟨j, hj, rfl, r1, hr, hb⟩ := hrel
                by_cases hj0 : j = 0
                · subst hj0
                  obtain ⟨b1, off1, rfl, _, hc1⟩ := r1.iget (by simp)
                  have h1 : wr.cell? ⟨b1, off1, none⟩ = some (.int .i64 a) := hc1 0 (by simp)
                  clear hc1
                  go_wp2_with fail
                  refine (LF.out _ hr).mono ?_
                  rintro e w4 ⟨rfl, b4⟩
                  replace h1 := (b4.cell (p := ⟨b1, off1, none⟩) (by assumption)).trans h1
                  replace r1 := r1.below b4 (Nat.le_refl _)
                  replace hr := hr.later b4
                  replace hb := hb.trans (b4.mono hb.size)
                  clear b4
                  go_wp2
                  go_roundw
                  case rel => exact ⟨1, by omega, rfl, r1, hr, hb⟩
                  case measure => simp [intOf]
                · obtain rfl : j = 1 := by omega
                  go_wp2
                  go_roundw
                  case rel => exact ⟨a + 1, by omega, by omega, by go_num, hr, hb⟩
                  case measure => simp [intOf]; omega
        · obtain rfl : a = l.length + 1 := by omega
          go_wp2_with fail
          refine (AW.out _).mono ?_
          rintro e w5 ⟨rfl, b5⟩
          have B5 := hb.trans (b5.mono hb.size)
          go_wp2
          go_ret
          exact ⟨rfl, B5⟩
    · have hne : ((chkA l).2 != 0) = true := by simpa using hck
      clear hck hr
      generalize chkA l = ck at *
      obtain ⟨k1, k2⟩ := ck
      go_enter Try.func9, Try.ntmps9
      go_wp2_with fail
      refine CK.out.mono ?_
      rintro e w1 ⟨rfl, hb⟩
      go_wp2_with fail
      refine (AW.out _).mono ?_
      rintro e w5 ⟨rfl, b5⟩
      have B5 := hb.trans (b5.mono hb.size)
      go_wp2
      go_ret
      exact ⟨rfl, B5⟩
end
end Go.Proofs.Ythkaohjgldoipaa
