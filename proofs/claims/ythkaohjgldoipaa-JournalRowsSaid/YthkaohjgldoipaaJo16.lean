/-
  JournalRows.
-/
import Derived.Test.YthkaohjgldoipaaJo14
namespace Go.Proofs.Ythkaohjgldoipaa
open Go.RowKit
/-- The line at a place, by its entry. -/
theorem line_at {l : List Ent} {k j : Nat} (hk : k < l.length) (hj : j < l[k].ls.length) (hN : (outJ l k 0).length + j < (linesJ l).length) : (linesJ l)[(outJ l k 0).length + j] = ⟨((outJ l k 0).length : Int) + (j : Int) + 1, (k : Int) + 1, l[k].p, l[k].ls[j]⟩ := by
  have hp := outJ_pre (j := j + 1) hk
  have hl : (outJ l k j).length = (outJ l k 0).length + j := by
    rw [outJ_get hk, outJ_zero, List.length_append, postL_len, List.length_take]; omega
  rw [outJ_step hk hj] at hp
  have h1 := hp.getElem (i := (outJ l k j).length) (by simp)
  simp only [List.getElem_append_right (Nat.le_refl _), Nat.sub_self, List.getElem_cons_zero] at h1
  have h2 : (linesJ l)[(outJ l k 0).length + j] = (linesJ l)[(outJ l k j).length]'(by rw [hl]; exact hN) := by congr 1; exact hl.symm
  rw [h2, ← h1, hl]
  simp
theorem rows_len {l : List Ent} {k : Nat} (hk : k < l.length) : (outJ l (k + 1) 0).length = (outJ l k 0).length + l[k].ls.length := by
  rw [outJ_zero, outJ_zero, linesJ_succ hk, List.length_append, postL_len]
theorem rows_le {l : List Ent} {k : Nat} (hk : k < l.length) : (outJ l k 0).length + l[k].ls.length ≤ (linesJ l).length := by
  rw [← rows_len hk, outJ_zero]
  exact (linesJ_pre l (k + 1)).length_le
section
variable {A : Option Addr} {c : Nat} {l : List Ent} {w : World}
set_option maxRecDepth 100000 in
set_option maxHeartbeats 4000000 in
theorem jrows_law (hr : RowE w A l) : Calls Try.prog 5 #[.slice A l.length c] w fun e w' => e = .returned (.bool true) ∧ Below w.heap.size w w' := by
  have AW := Lib.hid fun w => jawake_any w
  have FW := fun (w : World) (hr : RowE w A l) => (jfew_any (c := c) hr).mono (R' := fun e w' => e = .returned (.bool (fewJ l)) ∧ w = w') fun _ _ ⟨h1, h2⟩ => ⟨h1, h2.symm⟩
  cases hfew : fewJ l
  · rw [hfew] at FW
    replace FW := Lib.hid FW
    clear hfew
    have hb := Below.refl w.heap.size w
    go_enter Try.func5, Try.ntmps5
    go_wp2_with fail
    refine (FW.out _ hr).mono ?_
    rintro e _ ⟨rfl, rfl⟩
    clear hr
    go_wp2_with fail
    refine (AW.out _).mono ?_
    rintro e w99 ⟨rfl, b9⟩
    replace hb := hb.trans (b9.mono hb.size)
    clear b9
    go_wp2
    go_ret
    exact ⟨rfl, hb⟩
  · rw [hfew] at FW
    replace FW := Lib.hid FW
    obtain ⟨f1, f2, f3⟩ := few_len hfew
    clear hfew
    have hm : l.length ≤ 1000000 := by omega
    have hm2 : (linesJ l).length ≤ 1000000 := by omega
    have hls : ∀ e ∈ l, e.ls.length ≤ 1000000 := fun e he => by have := f2 e he; omega
    have LA := Lib.hid fun (w : World) (hr : RowE w A l) => (jlines_any (c := c) hm2 hm hr).mono fun _ _ h => newP_of rfl h
    have JI := Lib.hid fun (w : World) (n : Int) (hr : RowE w A l) => jids_any (c := c) hm2 hm hr n
    have JL := Lib.hid fun (w : World) (n : Int) (hr : RowE w A l) => jline_any (c := c) hm2 hm hr n
    have IDK := Lib.hid fun (k : Nat) (hk : k < l.length) => idsJ_at hk
    have LNA := Lib.hid fun (k : Nat) (hk : k < l.length) (j : Nat) (hj : j < l[k].ls.length) (hN : (outJ l k 0).length + j < (linesJ l).length) => line_at hk hj hN
    have LNS := Lib.hid fun (k : Nat) (hk : k < (linesJ l).length) => lineJ_some hk
    have RLE := Lib.hid fun (k : Nat) (hk : k < l.length) => rows_le hk
    have RLN := Lib.hid fun (k : Nat) (hk : k < l.length) => rows_len hk
    have OZ := Lib.hid fun (k : Nat) => outJ_zero l k
    have EN := Lib.hid (outJ_end l)
    have hb := Below.refl w.heap.size w
    go_enter Try.func5, Try.ntmps5
    go_wp2_with fail
    refine (FW.out _ hr).mono ?_
    rintro e _ ⟨rfl, rfl⟩
    go_wp2_with fail
    refine (LA.out _ hr).mono ?_
    rintro e w1 ⟨A1, c1, rfl, r1, b9⟩
    replace hr := hr.below b9 (Nat.le_refl _)
    replace hb := hb.trans (b9.mono hb.size)
    clear b9
    have R1 := Lib.hid r1
    have HR := Lib.hid hr
    clear r1 hr
    go_wp2
    go_loopw [4, 5] (fun n i wr => ∃ k : Nat, k ≤ l.length ∧ n = .int .i64 ((outJ l k 0).length : Int) ∧ i = .int .i64 k ∧ Below w1.heap.size w1 wr) (fun _ i _ => l.length - (intOf i).toNat)
    case atStart => exact ⟨0, by omega, by rw [OZ.out]; rfl, rfl, Below.refl _ _⟩
    case round =>
      obtain ⟨k, hk, rfl, rfl, hbr⟩ := hrel
      by_cases hkn : k < l.length
      · have hr := HR.out.below hbr (Nat.le_refl _)
        obtain ⟨b0, o0, rfl, hg0, hc0⟩ := HR.out.get (by omega)
        obtain ⟨e1, e2, e3⟩ := hc0 k hkn
        have HL := Lib.hid (HR.out.2 l[k] (List.getElem_mem hkn))
        have ID := IDK.out k hkn
        rw [← OZ.out k] at ID
        have hle := RLE.out k hkn
        have hln := RLN.out k hkn
        have LN := Lib.hid (LNA.out k hkn)
        have JIk := fun (w : World) (hr : RowE w (some ⟨b0, o0, none⟩) l) => JI.out w ((k : Int) + 1) hr
        rw [ID] at JIk
        clear hc0 e2 ID
        generalize l[k] = e at *
        obtain ⟨p, r, Ae, ce, ls⟩ := e
        dsimp only at e1 e3 HL hle hln LN JIk
        obtain ⟨m, hm9⟩ : ∃ m, ls.length = m := ⟨_, rfl⟩
        rw [hm9] at e3 hle hln JIk
        have HM := Lib.hid hm9
        clear hm9
        obtain ⟨N, hN9⟩ : ∃ N, (outJ l k 0).length = N := ⟨_, rfl⟩
        rw [hN9] at hle hln JIk LN ⊢
        have HLN := Lib.hid hln
        clear hN9 hln
        have E3 := Lib.hid e3
        replace e3 := (hbr.cell (p := ⟨b0, o0 + k * 3 + 2, none⟩) hg0).trans e3
        by_cases hm0 : m = 0
        · rw [if_pos hm0] at JIk
          replace JIk := Lib.hid JIk
          have he : ((m : Int) == 0) = true := by simp [hm0]
          have hN1 : Hid ((outJ l (k + 1) 0).length = N) := by have := HLN.out; show _ = _; omega
          clear hm0
          go_wp2_with fail
          refine (JIk.out _ hr).mono ?_
          rintro e w5 ⟨rfl, b5⟩
          replace e3 := (b5.cell (p := ⟨b0, o0 + k * 3 + 2, none⟩) (Nat.lt_of_lt_of_le hg0 hbr.size)).trans e3
          replace hbr := hbr.trans (b5.mono hbr.size)
          clear b5 hr
          go_wp2
          go_roundw
          case rel => exact ⟨k + 1, by omega, by rw [hN1.out], by go_num, hbr⟩
          case measure => simp [intOf]; omega
        · rw [if_neg hm0] at JIk
          replace JIk := Lib.hid JIk
          have he : ((m : Int) == 0) = false := beq_eq_false_iff_ne.2 (by omega)
          have hlei : ((N : Int) + (m : Int)) ≤ ((linesJ l).length : Int) := by omega
          clear hm0
          go_wp2_with fail
          refine (JIk.out _ hr).mono ?_
          rintro e w5 ⟨rfl, b5⟩
          replace e3 := (b5.cell (p := ⟨b0, o0 + k * 3 + 2, none⟩) (Nat.lt_of_lt_of_le hg0 hbr.size)).trans e3
          replace hbr := hbr.trans (b5.mono hbr.size)
          clear b5 hr
          go_wp2
          go_loopw [8] (fun i wr => ∃ j : Nat, j ≤ m ∧ i = .int .i64 j ∧ Below w1.heap.size w1 wr) (fun i _ => m - (intOf i).toNat)
          case atStart => exact ⟨0, by omega, rfl, hbr⟩
          case round =>
            clear hbr e3
            obtain ⟨j, hj, rfl, hbr⟩ := hrel
            have e3 := (hbr.cell (p := ⟨b0, o0 + k * 3 + 2, none⟩) hg0).trans E3.out
            by_cases hjm : j < m
            · have hjl : j < ls.length := by rw [HM.out]; exact hjm
              have hr := HR.out.below hbr (Nat.le_refl _)
              obtain ⟨gL, oL, rfl, hgL, hcL⟩ := (R1.out.below hbr (Nat.le_refl _)).posts (by omega)
              obtain ⟨p1, p2, p3, p4, p5, p6, p7⟩ := hcL (N + j) (by omega)
              obtain ⟨b4, o4, rfl, hg4, hc4⟩ := (HL.out.below hbr (Nat.le_refl _)).lines (by rw [HM.out]; omega)
              obtain ⟨a1, a2, a3, a4⟩ := hc4 j hjl
              have LX := LN.out j hjl (by omega)
              rw [LX] at p1 p2 p3 p4 p5 p6 p7
              have JX := fun (w : World) (hr : RowE w (some ⟨b0, o0, none⟩) l) => JL.out w (((N + j : Nat) : Int) + 1) hr
              rw [LNS.out (N + j) (by omega), LX] at JX
              rw [show ((N + j : Nat) : Int) + 1 = (N : Int) + (j : Int) + 1 by omega] at JX
              have e1' := (hbr.cell (p := ⟨b0, o0 + k * 3, none⟩) hg0).trans e1
              clear hcL hc4 LX
              generalize ls[j] = x at *
              obtain ⟨x1, x2, x3, x4⟩ := x
              dsimp only [pv] at p1 p2 p3 p4 p5 p6 p7 a1 a2 a3 a4 JX
              replace JX := Lib.hid JX
              have hji : (j : Int) < (m : Int) := by omega
              have hNj : ((N : Int) + (j : Int)) < ((linesJ l).length : Int) := by omega
              have hNb : (N : Int) + (j : Int) ≤ 2000 := by omega
              have BA := Box.new wr 34 #[.int .i64 ((N : Int) + (j : Int) + 1), .int .i64 ((k : Int) + 1), .int .i64 p, .int .i64 x1, .int .i64 x2, .int .i64 x3, .int .i64 x4]
              go_wp2_with fail
              refine (JX.out _ (hr.alloc _)).mono ?_
              rintro e w6 ⟨rfl, b6⟩
              have BA6 := (BA.later b6)
              have BB := Box.new w6 34 #[.int .i64 ((N : Int) + (j : Int) + 1), .int .i64 ((k : Int) + 1), .int .i64 p, .int .i64 x1, .int .i64 x2, .int .i64 x3, .int .i64 x4]
              have BA7 := BA6.alloc (.cells #[.int .i64 ((N : Int) + (j : Int) + 1), .int .i64 ((k : Int) + 1), .int .i64 p, .int .i64 x1, .int .i64 x2, .int .i64 x3, .int .i64 x4] 34)
              have B6 : Below wr.heap.size wr w6 := below_up b6
              have B7 : Below wr.heap.size wr (w6.alloc (.cells #[.int .i64 ((N : Int) + (j : Int) + 1), .int .i64 ((k : Int) + 1), .int .i64 p, .int .i64 x1, .int .i64 x2, .int .i64 x3, .int .i64 x4] 34)).drew := below_drewN (B6.alloc B6.size _) 1
              have lA := BA6.lt
              have kA : ∀ i, (w6.alloc (.cells #[.int .i64 ((N : Int) + (j : Int) + 1), .int .i64 ((k : Int) + 1), .int .i64 p, .int .i64 x1, .int .i64 x2, .int .i64 x3, .int .i64 x4] 34)).drew.cell? ⟨wr.heap.size, i, none⟩ = (#[.int .i64 ((N : Int) + (j : Int) + 1), .int .i64 ((k : Int) + 1), .int .i64 p, .int .i64 x1, .int .i64 x2, .int .i64 x3, .int .i64 x4] : Array Value)[i]? := BA7.cells
              have kB : ∀ i, (w6.alloc (.cells #[.int .i64 ((N : Int) + (j : Int) + 1), .int .i64 ((k : Int) + 1), .int .i64 p, .int .i64 x1, .int .i64 x2, .int .i64 x3, .int .i64 x4] 34)).drew.cell? ⟨w6.heap.size, i, none⟩ = (#[.int .i64 ((N : Int) + (j : Int) + 1), .int .i64 ((k : Int) + 1), .int .i64 p, .int .i64 x1, .int .i64 x2, .int .i64 x3, .int .i64 x4] : Array Value)[i]? := BB.cells
              have f1' := (B7.cell (p := ⟨b0, o0 + k * 3, none⟩) (Nat.lt_of_lt_of_le hg0 hbr.size)).trans e1'
              have f3' := (B7.cell (p := ⟨b0, o0 + k * 3 + 2, none⟩) (Nat.lt_of_lt_of_le hg0 hbr.size)).trans e3
              have c1' := (B7.cell (p := ⟨b4, o4 + j * 4, none⟩) hg4).trans a1
              have c2' := (B7.cell (p := ⟨b4, o4 + j * 4 + 1, none⟩) hg4).trans a2
              have c3' := (B7.cell (p := ⟨b4, o4 + j * 4 + 2, none⟩) hg4).trans a3
              have c4' := (B7.cell (p := ⟨b4, o4 + j * 4 + 3, none⟩) hg4).trans a4
              have hwk1 : IntKind.i64.wrap ((N : Int) + (j : Int)) = (N : Int) + (j : Int) := (Go.IntWalk.i64_left _).trans (Go.IntWalk.wrap64_in _ (by omega))
              have hwk2 : IntKind.i64.wrap ((N : Int) + (j : Int) + 1) = (N : Int) + (j : Int) + 1 := (Go.IntWalk.i64_left _).trans (Go.IntWalk.wrap64_in _ (by omega))
              have hwk3 : IntKind.i64.wrap ((k : Int) + 1) = (k : Int) + 1 := (Go.IntWalk.i64_left _).trans (Go.IntWalk.wrap64_in _ (by omega))
              have hki : (k : Int) < (l.length : Int) := by omega
              clear b6 BA BA6 BA7 BB B6 p1 p2 p3 p4 p5 p6 p7 a1 a2 a3 a4 e1' hr
              go_upto_region 19 with fail
              refine wp_region_noPanic ?_
              refine wp_region_held_drew (S := (fun w' => w'.cell? ⟨wr.heap.size, 0, none⟩ = some (.int .i64 ((N : Int) + (j : Int) + 1)) ∧ w'.cell? ⟨wr.heap.size, 1, none⟩ = some (.int .i64 ((k : Int) + 1)) ∧ w'.cell? ⟨wr.heap.size, 2, none⟩ = some (.int .i64 p) ∧ w'.cell? ⟨wr.heap.size, 3, none⟩ = some (.int .i64 x1) ∧ w'.cell? ⟨wr.heap.size, 4, none⟩ = some (.int .i64 x2) ∧ w'.cell? ⟨wr.heap.size, 5, none⟩ = some (.int .i64 x3) ∧ w'.cell? ⟨wr.heap.size, 6, none⟩ = some (.int .i64 x4) ∧ w'.cell? ⟨w6.heap.size, 0, none⟩ = some (.int .i64 ((N : Int) + (j : Int) + 1)) ∧ w'.cell? ⟨w6.heap.size, 1, none⟩ = some (.int .i64 ((k : Int) + 1)) ∧ w'.cell? ⟨w6.heap.size, 2, none⟩ = some (.int .i64 p) ∧ w'.cell? ⟨w6.heap.size, 3, none⟩ = some (.int .i64 x1) ∧ w'.cell? ⟨w6.heap.size, 4, none⟩ = some (.int .i64 x2) ∧ w'.cell? ⟨w6.heap.size, 5, none⟩ = some (.int .i64 x3) ∧ w'.cell? ⟨w6.heap.size, 6, none⟩ = some (.int .i64 x4) ∧ w'.cell? ⟨b0, o0 + k * 3, none⟩ = some (.int .i64 p) ∧ w'.cell? ⟨b0, o0 + k * 3 + 2, none⟩ = some (.slice (some ⟨b4, o4, none⟩) m ce) ∧ w'.cell? ⟨b4, o4 + j * 4, none⟩ = some (.int .i64 x1) ∧ w'.cell? ⟨b4, o4 + j * 4 + 1, none⟩ = some (.int .i64 x2) ∧ w'.cell? ⟨b4, o4 + j * 4 + 2, none⟩ = some (.int .i64 x3) ∧ w'.cell? ⟨b4, o4 + j * 4 + 3, none⟩ = some (.int .i64 x4))) (by kernel_rfl) ?_ (fun hHeld => ?_)
              · go_keep
              refine wpAnyH_take (i := 0) (v := ?vr0) rfl (by kernel_rfl) (by kernel_rfl) (by kernel_rfl) (fun _ _ _ h => h) (Or.inl ⟨by kernel_rfl, ?hyr0⟩) (by assumption) ?restr0
              case hyr0 => (intro w hSw; (try dsimp only at hSw); go_simp; (try with_reducible rfl))
              go_simp
              refine wpAnyH_take (i := 1) (v := ?vr1) rfl (by kernel_rfl) (by kernel_rfl) (by kernel_rfl) (fun _ _ _ h => h) (Or.inl ⟨by kernel_rfl, ?hyr1⟩) (by assumption) ?restr1
              case hyr1 => (intro w hSw; (try dsimp only at hSw); go_simp; (try with_reducible rfl))
              go_simp
              refine wpAnyH_take (i := 2) (v := ?vr2) rfl (by kernel_rfl) (by kernel_rfl) (by kernel_rfl) (fun _ _ _ h => h) (Or.inl ⟨by kernel_rfl, ?hyr2⟩) (by assumption) ?restr2
              case hyr2 => (intro w hSw; (try dsimp only at hSw); go_simp; (try with_reducible rfl))
              go_simp
              refine wpAnyH_take (i := 3) (v := ?vr3) rfl (by kernel_rfl) (by kernel_rfl) (by kernel_rfl) (fun _ _ _ h => h) (Or.inl ⟨by kernel_rfl, ?hyr3⟩) (by assumption) ?restr3
              case hyr3 => (intro w hSw; (try dsimp only at hSw); go_simp; (try with_reducible rfl))
              go_simp
              refine wpAnyH_take (i := 4) (v := ?vr4) rfl (by kernel_rfl) (by kernel_rfl) (by kernel_rfl) (fun _ _ _ h => h) (Or.inl ⟨by kernel_rfl, ?hyr4⟩) (by assumption) ?restr4
              case hyr4 => (intro w hSw; (try dsimp only at hSw); go_simp; (try with_reducible rfl))
              go_simp
              refine wpAnyH_take (i := 5) (v := ?vr5) rfl (by kernel_rfl) (by kernel_rfl) (by kernel_rfl) (fun _ _ _ h => h) (Or.inl ⟨by kernel_rfl, ?hyr5⟩) (by assumption) ?restr5
              case hyr5 => (intro w hSw; (try dsimp only at hSw); go_simp; (try with_reducible rfl))
              go_simp
              refine wpAnyH_take (i := 6) (v := ?vr6) rfl (by kernel_rfl) (by kernel_rfl) (by kernel_rfl) (fun _ _ _ h => h) (Or.inl ⟨by kernel_rfl, ?hyr6⟩) (by assumption) ?restr6
              case hyr6 => (intro w hSw; (try dsimp only at hSw); go_simp; (try with_reducible rfl))
              go_simp
              refine wpAnyH_take (i := 7) (v := ?vr7) rfl (by kernel_rfl) (by kernel_rfl) (by kernel_rfl) (fun _ _ _ h => h) (Or.inl ⟨by kernel_rfl, ?hyr7⟩) (by assumption) ?restr7
              case hyr7 => (intro w hSw; (try dsimp only at hSw); go_simp; (try with_reducible rfl))
              go_simp
              refine wpAnyH_take (i := 8) (v := ?vr8) rfl (by kernel_rfl) (by kernel_rfl) (by kernel_rfl) (fun _ _ _ h => h) (Or.inl ⟨by kernel_rfl, ?hyr8⟩) (by assumption) ?restr8
              case hyr8 => (intro w hSw; (try dsimp only at hSw); go_simp; (try with_reducible rfl))
              go_simp
              refine wpAnyH_take (i := 9) (v := ?vr9) rfl (by kernel_rfl) (by kernel_rfl) (by kernel_rfl) (fun _ _ _ h => h) (Or.inl ⟨by kernel_rfl, ?hyr9⟩) (by assumption) ?restr9
              case hyr9 => (intro w hSw; (try dsimp only at hSw); go_simp; (try with_reducible rfl))
              go_simp
              refine wpAnyH_take (i := 10) (v := ?vr10) rfl (by kernel_rfl) (by kernel_rfl) (by kernel_rfl) (fun _ _ _ h => h) (Or.inl ⟨by kernel_rfl, ?hyr10⟩) (by assumption) ?restr10
              case hyr10 => (intro w hSw; (try dsimp only at hSw); go_simp; (try with_reducible rfl))
              go_simp
              refine wpAnyH_take (i := 11) (v := ?vr11) rfl (by kernel_rfl) (by kernel_rfl) (by kernel_rfl) (fun _ _ _ h => h) (Or.inl ⟨by kernel_rfl, ?hyr11⟩) (by assumption) ?restr11
              case hyr11 => (intro w hSw; (try dsimp only at hSw); go_simp; (try with_reducible rfl))
              go_simp
              refine wpAnyH_take (i := 12) (v := ?vr12) rfl (by kernel_rfl) (by kernel_rfl) (by kernel_rfl) (fun _ _ _ h => h) (Or.inl ⟨by kernel_rfl, ?hyr12⟩) (by assumption) ?restr12
              case hyr12 => (intro w hSw; (try dsimp only at hSw); go_simp; (try with_reducible rfl))
              go_simp
              refine wpAnyH_take (i := 13) (v := ?vr13) rfl (by kernel_rfl) (by kernel_rfl) (by kernel_rfl) (fun _ _ _ h => h) (Or.inl ⟨by kernel_rfl, ?hyr13⟩) (by assumption) ?restr13
              case hyr13 => (intro w hSw; (try dsimp only at hSw); go_simp; (try with_reducible rfl))
              go_simp
              refine wpAnyH_take (i := 14) (v := ?vr14) rfl (by kernel_rfl) (by kernel_rfl) (by kernel_rfl) (fun _ _ _ h => h) (Or.inl ⟨by kernel_rfl, ?hyr14⟩) (by assumption) ?restr14
              case hyr14 => (intro w hSw; (try dsimp only at hSw); go_simp; (try with_reducible rfl))
              go_simp
              refine wpAnyH_take (i := 15) (v := ?vr15) rfl (by kernel_rfl) (by kernel_rfl) (by kernel_rfl) (fun _ _ _ h => h) (Or.inl ⟨by kernel_rfl, ?hyr15⟩) (by assumption) ?restr15
              case hyr15 => (intro w hSw; (try dsimp only at hSw); go_simp; (try with_reducible rfl))
              go_simp
              refine wpAnyH_take (i := 16) (v := ?vr16) rfl (by kernel_rfl) (by kernel_rfl) (by kernel_rfl) (fun _ _ _ h => h) (Or.inl ⟨by kernel_rfl, ?hyr16⟩) (by assumption) ?restr16
              case hyr16 => (intro w hSw; (try dsimp only at hSw); go_simp; (try with_reducible rfl))
              go_simp
              refine wpAnyH_take (i := 17) (v := ?vr17) rfl (by kernel_rfl) (by kernel_rfl) (by kernel_rfl) (fun _ _ _ h => h) (Or.inl ⟨by kernel_rfl, ?hyr17⟩) (by assumption) ?restr17
              case hyr17 => (intro w hSw; (try dsimp only at hSw); go_simp; (try with_reducible rfl))
              go_simp
              refine wpAnyH_take (i := 18) (v := ?vr18) rfl (by kernel_rfl) (by kernel_rfl) (by kernel_rfl) (fun _ _ _ h => h) (Or.inl ⟨by kernel_rfl, ?hyr18⟩) (by assumption) ?restr18
              case hyr18 => (intro w hSw; (try dsimp only at hSw); go_simp; (try with_reducible rfl))
              go_simp
              refine wpAnyH_take (i := 19) (v := ?vr19) rfl (by kernel_rfl) (by kernel_rfl) (by kernel_rfl) (fun _ _ _ h => h) (Or.inl ⟨by kernel_rfl, ?hyr19⟩) (by assumption) ?restr19
              case hyr19 => (intro w hSw; (try dsimp only at hSw); go_simp; (try with_reducible rfl))
              go_simp
              refine wpAnyH_take (i := 20) (v := ?vr20) rfl (by kernel_rfl) (by kernel_rfl) (by kernel_rfl) (fun _ _ _ h => h) (Or.inl ⟨by kernel_rfl, ?hyr20⟩) (by assumption) ?restr20
              case hyr20 => (intro w hSw; (try dsimp only at hSw); go_simp; (try with_reducible rfl))
              go_simp
              refine wpAnyH_take (i := 21) (v := ?vr21) rfl (by kernel_rfl) (by kernel_rfl) (by kernel_rfl) (fun _ _ _ h => h) (Or.inl ⟨by kernel_rfl, ?hyr21⟩) (by assumption) ?restr21
              case hyr21 => (intro w hSw; (try dsimp only at hSw); go_simp; (try with_reducible rfl))
              go_simp
              refine wpAnyH_take (i := 22) (v := ?vr22) rfl (by kernel_rfl) (by kernel_rfl) (by kernel_rfl) (fun _ _ _ h => h) (Or.inl ⟨by kernel_rfl, ?hyr22⟩) (by assumption) ?restr22
              case hyr22 => (intro w hSw; (try dsimp only at hSw); go_simp; (try with_reducible rfl))
              go_simp
              refine wpAnyH_take (i := 23) (v := ?vr23) rfl (by kernel_rfl) (by kernel_rfl) (by kernel_rfl) (fun _ _ _ h => h) (Or.inl ⟨by kernel_rfl, ?hyr23⟩) (by assumption) ?restr23
              case hyr23 => (intro w hSw; (try dsimp only at hSw); go_simp; (try with_reducible rfl))
              go_simp
              refine wpAnyH_take (i := 24) (v := ?vr24) rfl (by kernel_rfl) (by kernel_rfl) (by kernel_rfl) (fun _ _ _ h => h) (Or.inl ⟨by kernel_rfl, ?hyr24⟩) (by assumption) ?restr24
              case hyr24 => (intro w hSw; (try dsimp only at hSw); go_simp; (try with_reducible rfl))
              go_simp
              refine wpAnyH_take (i := 25) (v := ?vr25) rfl (by kernel_rfl) (by kernel_rfl) (by kernel_rfl) (fun _ _ _ h => h) (Or.inl ⟨by kernel_rfl, ?hyr25⟩) (by assumption) ?restr25
              case hyr25 => (intro w hSw; (try dsimp only at hSw); go_simp; (try with_reducible rfl))
              go_simp
              refine wpAnyH_take (i := 26) (v := ?vr26) rfl (by kernel_rfl) (by kernel_rfl) (by kernel_rfl) (fun _ _ _ h => h) (Or.inl ⟨by kernel_rfl, ?hyr26⟩) (by assumption) ?restr26
              case hyr26 => (intro w hSw; (try dsimp only at hSw); go_simp; (try with_reducible rfl))
              go_simp
              refine wpAnyH_take (i := 27) (v := ?vr27) rfl (by kernel_rfl) (by kernel_rfl) (by kernel_rfl) (fun _ _ _ h => h) (Or.inl ⟨by kernel_rfl, ?hyr27⟩) (by assumption) ?restr27
              case hyr27 => (intro w hSw; (try dsimp only at hSw); go_simp; (try with_reducible rfl))
              go_simp
              refine wpAnyH_take (i := 28) (v := ?vr28) rfl (by kernel_rfl) (by kernel_rfl) (by kernel_rfl) (fun _ _ _ h => h) (Or.inl ⟨by kernel_rfl, ?hyr28⟩) (by assumption) ?restr28
              case hyr28 => (intro w hSw; (try dsimp only at hSw); go_simp; (try with_reducible rfl))
              go_simp
              refine wpAnyH_take (i := 29) (v := ?vr29) rfl (by kernel_rfl) (by kernel_rfl) (by kernel_rfl) (fun _ _ _ h => h) (Or.inl ⟨by kernel_rfl, ?hyr29⟩) (by assumption) ?restr29
              case hyr29 => (intro w hSw; (try dsimp only at hSw); go_simp; (try with_reducible rfl))
              go_simp
              refine wpAnyH_take (i := 30) (v := ?vr30) rfl (by kernel_rfl) (by kernel_rfl) (by kernel_rfl) (fun _ _ _ h => h) (Or.inl ⟨by kernel_rfl, ?hyr30⟩) (by assumption) ?restr30
              case hyr30 => (intro w hSw; (try dsimp only at hSw); go_simp; (try with_reducible rfl))
              go_simp
              refine wpAnyH_take (i := 31) (v := ?vr31) rfl (by kernel_rfl) (by kernel_rfl) (by kernel_rfl) (fun _ _ _ h => h) (Or.inl ⟨by kernel_rfl, ?hyr31⟩) (by assumption) ?restr31
              case hyr31 => (intro w hSw; (try dsimp only at hSw); go_simp; (try with_reducible rfl))
              go_simp
              refine wpAnyH_take (i := 32) (v := ?vr32) rfl (by kernel_rfl) (by kernel_rfl) (by kernel_rfl) (fun _ _ _ h => h) (Or.inl ⟨by kernel_rfl, ?hyr32⟩) (by assumption) ?restr32
              case hyr32 => (intro w hSw; (try dsimp only at hSw); go_simp; (try with_reducible rfl))
              go_simp
              refine wpAnyH_take (i := 33) (v := ?vr33) rfl (by kernel_rfl) (by kernel_rfl) (by kernel_rfl) (fun _ _ _ h => h) (Or.inl ⟨by kernel_rfl, ?hyr33⟩) (by assumption) ?restr33
              case hyr33 => (intro w hSw; (try dsimp only at hSw); go_simp; (try with_reducible rfl))
              go_simp
              refine wpAnyH_take (i := 34) (v := ?vr34) rfl (by kernel_rfl) (by kernel_rfl) (by kernel_rfl) (fun _ _ _ h => h) (Or.inl ⟨by kernel_rfl, ?hyr34⟩) (by assumption) ?restr34
              case hyr34 => (intro w hSw; (try dsimp only at hSw); go_simp; (try with_reducible rfl))
              go_simp
              refine wpAnyH_take (i := 35) (v := ?vr35) rfl (by kernel_rfl) (by kernel_rfl) (by kernel_rfl) (fun _ _ _ h => h) (Or.inl ⟨by kernel_rfl, ?hyr35⟩) (by assumption) ?restr35
              case hyr35 => (intro w hSw; (try dsimp only at hSw); go_simp; (try with_reducible rfl))
              go_simp
              refine wpAnyH_take (i := 36) (v := ?vr36) rfl (by kernel_rfl) (by kernel_rfl) (by kernel_rfl) (fun _ _ _ h => h) (Or.inl ⟨by kernel_rfl, ?hyr36⟩) (by assumption) ?restr36
              case hyr36 => (intro w hSw; (try dsimp only at hSw); go_simp; (try with_reducible rfl))
              go_simp
              refine wpAnyH_take (i := 37) (v := ?vr37) rfl (by kernel_rfl) (by kernel_rfl) (by kernel_rfl) (fun _ _ _ h => h) (Or.inl ⟨by kernel_rfl, ?hyr37⟩) (by assumption) ?restr37
              case hyr37 => (intro w hSw; (try dsimp only at hSw); go_simp; (try with_reducible rfl))
              go_simp
              refine wpAnyH_take (i := 38) (v := ?vr38) rfl (by kernel_rfl) (by kernel_rfl) (by kernel_rfl) (fun _ _ _ h => h) (Or.inl ⟨by kernel_rfl, ?hyr38⟩) (by assumption) ?restr38
              case hyr38 => (intro w hSw; (try dsimp only at hSw); go_simp; (try with_reducible rfl))
              go_simp
              refine wpAnyH_take (i := 39) (v := ?vr39) rfl (by kernel_rfl) (by kernel_rfl) (by kernel_rfl) (fun _ _ _ h => h) (Or.inl ⟨by kernel_rfl, ?hyr39⟩) (by assumption) ?restr39
              case hyr39 => (intro w hSw; (try dsimp only at hSw); go_simp; (try with_reducible rfl))
              go_simp
              refine wpAnyH_take (i := 40) (v := ?vr40) rfl (by kernel_rfl) (by kernel_rfl) (by kernel_rfl) (fun _ _ _ h => h) (Or.inl ⟨by kernel_rfl, ?hyr40⟩) (by assumption) ?restr40
              case hyr40 => (intro w hSw; (try dsimp only at hSw); go_simp; (try with_reducible rfl))
              go_simp
              refine wpAnyH_take (i := 41) (v := ?vr41) rfl (by kernel_rfl) (by kernel_rfl) (by kernel_rfl) (fun _ _ _ h => h) (Or.inl ⟨by kernel_rfl, ?hyr41⟩) (by assumption) ?restr41
              case hyr41 => (intro w hSw; (try dsimp only at hSw); go_simp; (try with_reducible rfl))
              go_simp
              refine wpAnyH_take (i := 42) (v := ?vr42) rfl (by kernel_rfl) (by kernel_rfl) (by kernel_rfl) (fun _ _ _ h => h) (Or.inl ⟨by kernel_rfl, ?hyr42⟩) (by assumption) ?restr42
              case hyr42 => (intro w hSw; (try dsimp only at hSw); go_simp; (try with_reducible rfl))
              go_simp
              refine wpAnyH_take (i := 43) (v := ?vr43) rfl (by kernel_rfl) (by kernel_rfl) (by kernel_rfl) (fun _ _ _ h => h) (Or.inl ⟨by kernel_rfl, ?hyr43⟩) (by assumption) ?restr43
              case hyr43 => (intro w hSw; (try dsimp only at hSw); go_simp; (try with_reducible rfl))
              go_simp
              refine wpAnyH_take (i := 44) (v := ?vr44) rfl (by kernel_rfl) (by kernel_rfl) (by kernel_rfl) (fun _ _ _ h => h) (Or.inl ⟨by kernel_rfl, ?hyr44⟩) (by assumption) ?restr44
              case hyr44 => (intro w hSw; (try dsimp only at hSw); go_simp; (try with_reducible rfl))
              go_simp
              refine wpAnyH_take (i := 45) (v := ?vr45) rfl (by kernel_rfl) (by kernel_rfl) (by kernel_rfl) (fun _ _ _ h => h) (Or.inl ⟨by kernel_rfl, ?hyr45⟩) (by assumption) ?restr45
              case hyr45 => (intro w hSw; (try dsimp only at hSw); go_simp; (try with_reducible rfl))
              go_simp
              refine wpAnyH_done (by kernel_rfl) ?_ _
              refine NoPanic.normal ?_
              replace hbr := hbr.trans (B7.mono hbr.size)
              clear kA kB f1' f3' c1' c2' c3' c4' B7 lA
              go_wp2
              go_roundw
              case rel => exact ⟨j + 1, by omega, by go_num, hbr⟩
              case measure => simp [intOf]; omega
            · obtain rfl : j = m := by omega
              go_wp2
              go_roundw
              case rel => exact ⟨k + 1, by omega, by rw [HLN.out]; go_num, by go_num, hbr⟩
              case measure => simp [intOf]; omega
      · obtain rfl : k = l.length := by omega
        replace hb := hb.trans (hbr.mono hb.size)
        rw [EN.out] at ⊢
        clear hbr
        go_wp2_with fail
        refine (AW.out _).mono ?_
        rintro e w99 ⟨rfl, b9⟩
        replace hb := hb.trans (b9.mono hb.size)
        clear b9
        go_wp2
        go_ret
        exact ⟨rfl, hb⟩
end
end Go.Proofs.Ythkaohjgldoipaa
