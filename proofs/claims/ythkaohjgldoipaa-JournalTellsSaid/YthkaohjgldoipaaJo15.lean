/-
  JournalTells.
-/
import Derived.Test.YthkaohjgldoipaaJo14
namespace Go.Proofs.Ythkaohjgldoipaa
open Go.RowKit
section
variable {A : Option Addr} {c : Nat} {l : List Ent} {w : World}
set_option maxRecDepth 100000 in
set_option maxHeartbeats 4000000 in
theorem jtells_law (n most : Int) (hcap : l.length ≤ c) (hr : RowE w A l) : Calls Try.prog 3 #[.slice A l.length c, .int .i64 n, .int .i64 most] w fun e w' => e = .returned (.bool true) ∧ Below w.heap.size w w' := by
  have AW := Lib.hid fun w => jawake_any w
  have FW := fun (w : World) (hr : RowE w A l) => (jfew_any (c := c) hr).mono (R' := fun e w' => e = .returned (.bool (fewJ l)) ∧ w = w') fun _ _ ⟨h1, h2⟩ => ⟨h1, h2.symm⟩
  cases hfew : fewJ l
  · rw [hfew] at FW
    replace FW := Lib.hid FW
    clear hfew
    have hb := Below.refl w.heap.size w
    go_enter Try.func3, Try.ntmps3
    go_wp2_with fail
    refine (FW.out _ hr).mono ?_
    rintro e _ ⟨rfl, rfl⟩
    clear hr
    go_wp2_with fail
    refine (AW.out _).mono ?_
    rintro e w99 ⟨rfl, b9⟩
    replace hb := hb.trans (b9.mono hb.size)
    clear b9
    go_wp2
    go_ret
    exact ⟨rfl, hb⟩
  · rw [hfew] at FW
    replace FW := Lib.hid FW
    obtain ⟨f1, f2, f3⟩ := few_len hfew
    clear hfew
    have hm : l.length ≤ 1000000 := by omega
    have hm2 : (linesJ l).length ≤ 1000000 := by omega
    have hls : ∀ e ∈ l, e.ls.length ≤ 1000000 := fun e he => by have := f2 e he; omega
    by_cases hmo : most < 1
    · have hmd : decide (most < 1) = true := decide_eq_true hmo
      have hb := Below.refl w.heap.size w
      clear hmo
      go_enter Try.func3, Try.ntmps3
      go_wp2_with fail
      refine (FW.out _ hr).mono ?_
      rintro e _ ⟨rfl, rfl⟩
      clear hr
      go_wp2_with fail
      refine (AW.out _).mono ?_
      rintro e w99 ⟨rfl, b9⟩
      replace hb := hb.trans (b9.mono hb.size)
      clear b9
      go_wp2
      go_ret
      exact ⟨rfl, hb⟩
    · have hmd : decide (most < 1) = false := decide_eq_false hmo
      have LA := fun (w : World) (hr : RowE w A l) => (jlines_any (c := c) hm2 hm hr).mono fun _ _ h => newP_of rfl h
      have LB := fun (w : World) (hr : RowE w A l) => (rlines_any (c := c) hm2 hm hr).mono fun _ _ h => newP_of rfl h
      obtain ⟨q, rfl⟩ : ∃ q : Nat, most = (q : Int) := ⟨most.toNat, by omega⟩
      have JL := fun (w : World) (hr : RowE w A l) => jline_any (c := c) hm2 hm hr n
      have RL := fun (w : World) (hr : RowE w A l) => rline_any (c := c) n hm2 hm hr
      have OP := fun (w : World) => jone_any (lineJ l n).1 w
      generalize lineJ l n = pk at *
      obtain ⟨p, ok⟩ := pk
      dsimp only [pv] at JL RL OP
      replace JL := Lib.hid JL
      replace RL := Lib.hid RL
      replace OP := Lib.hid OP
      have JI := fun (w : World) (hr : RowE w A l) => jids_any (c := c) hm2 hm hr n
      have RI := fun (w : World) (hr : RowE w A l) => rids_any (c := c) n hcap hm2 hm hr
      generalize idsJ l n = dd at *
      obtain ⟨d1, d2⟩ := dd
      dsimp only at JI RI
      replace JI := Lib.hid JI
      replace RI := Lib.hid RI
      have hb := Below.refl w.heap.size w
      have FI := fun (w : World) (hr : RowE w A l) => jfirst_any (c := c) (q : Int) (by omega) hm (by omega) hr
      generalize linesJ l = L at *
      obtain ⟨N, hN⟩ : ∃ N, L.length = N := ⟨_, rfl⟩
      rw [hN] at LA LB f3 hm2
      replace LA := Lib.hid LA
      replace LB := Lib.hid LB
      have HN := Lib.hid hN
      rw [show ((q : Int)).toNat = q by omega] at FI
      by_cases hqN : q ≤ N
      · have HM : Hid ((L.take q).length = q) := by rw [List.length_take]; exact Nat.min_eq_left (by omega)
        have FJ := Lib.hid fun (w : World) (hr : RowE w A l) => (FI w hr).mono fun _ _ h => newP_of HM.out h
        have hqi : (q : Int) ≤ (N : Int) := by omega
        clear FI hN hls f2
        go_enter Try.func3, Try.ntmps3
        go_wp2_with fail
        refine (FW.out _ hr).mono ?_
        rintro e _ ⟨rfl, rfl⟩
        go_wp2_with fail
        refine (LA.out _ hr).mono ?_
        rintro e w1 ⟨A1, c1, rfl, r1, b9⟩
        replace hr := hr.below b9 (Nat.le_refl _)
        replace hb := hb.trans (b9.mono hb.size)
        clear b9
        go_wp2_with fail
        refine (LB.out _ hr).mono ?_
        rintro e w2 ⟨A2, c2, rfl, r2, b9⟩
        replace hr := hr.below b9 (Nat.le_refl _)
        replace r1 := r1.below b9 (Nat.le_refl _)
        replace hb := hb.trans (b9.mono hb.size)
        clear b9
        go_wp2_with fail
        refine (FJ.out _ hr).mono ?_
        rintro e w3 ⟨A3, c3, rfl, r3, b9⟩
        replace hr := hr.below b9 (Nat.le_refl _)
        replace r1 := r1.below b9 (Nat.le_refl _)
        replace r2 := r2.below b9 (Nat.le_refl _)
        replace hb := hb.trans (b9.mono hb.size)
        clear b9
        have R1 := Lib.hid r1
        have R2 := Lib.hid r2
        have R3 := Lib.hid r3
        clear r1 r2 r3
        go_wp2
        go_loopw [10] (fun i wr => ∃ j : Nat, j ≤ N ∧ i = .int .i64 j ∧ Below w3.heap.size w3 wr) (fun i _ => N - (intOf i).toNat)
        case atStart => exact ⟨0, by omega, rfl, Below.refl _ _⟩
        case round =>
          obtain ⟨i, hi, rfl, hbr⟩ := hrel
          by_cases hin : i < N
          · have hiL : i < L.length := by have := HN.out; omega
            obtain ⟨b1, o1, rfl, lt1, hc1⟩ := (R1.out.below hbr (Nat.le_refl _)).posts (by omega)
            obtain ⟨b2, o2, rfl, lt2, hc2⟩ := (R2.out.below hbr (Nat.le_refl _)).posts (by omega)
            obtain ⟨p1, p2, p3, p4, p5, p6, p7⟩ := hc1 i hiL
            obtain ⟨q1, q2, q3, q4, q5, q6, q7⟩ := hc2 i hiL
            have hii : (i : Int) < (N : Int) := by omega
            by_cases hik : i < q
            · have hiM : i < (L.take q).length := by have := HM.out; omega
              obtain ⟨b3, o3, rfl, lt3, hc3⟩ := (R3.out.below hbr (Nat.le_refl _)).posts (by omega)
              obtain ⟨s1, s2, s3, s4, s5, s6, s7⟩ := hc3 i hiM
              rw [List.getElem_take] at s1 s2 s3 s4 s5 s6 s7
              have hikd : decide ((i : Int) < (q : Int)) = true := decide_eq_true (by omega)
              have hik2 : (i : Int) < (q : Int) := by omega
              clear hc1 hc2 hc3
              have ON := jone_any L[i]
              generalize L[i] = x at *
              dsimp only [pv] at ON
              replace ON := Lib.hid ON
              go_upto_region 10 with fail
              refine wp_region_noPanic ?_
              refine wp_region_held_drew (S := (fun w' => w'.cell? ⟨b1, o1 + i * 7, none⟩ = some (.int .i64 x.id) ∧ w'.cell? ⟨b1, o1 + i * 7 + 1, none⟩ = some (.int .i64 x.en) ∧ w'.cell? ⟨b1, o1 + i * 7 + 2, none⟩ = some (.int .i64 x.pe) ∧ w'.cell? ⟨b1, o1 + i * 7 + 3, none⟩ = some (.int .i64 x.ln.e) ∧ w'.cell? ⟨b1, o1 + i * 7 + 4, none⟩ = some (.int .i64 x.ln.a) ∧ w'.cell? ⟨b1, o1 + i * 7 + 5, none⟩ = some (.int .i64 x.ln.q) ∧ w'.cell? ⟨b1, o1 + i * 7 + 6, none⟩ = some (.int .i64 x.ln.m) ∧ w'.cell? ⟨b2, o2 + i * 7, none⟩ = some (.int .i64 x.id) ∧ w'.cell? ⟨b2, o2 + i * 7 + 1, none⟩ = some (.int .i64 x.en) ∧ w'.cell? ⟨b2, o2 + i * 7 + 2, none⟩ = some (.int .i64 x.pe) ∧ w'.cell? ⟨b2, o2 + i * 7 + 3, none⟩ = some (.int .i64 x.ln.e) ∧ w'.cell? ⟨b2, o2 + i * 7 + 4, none⟩ = some (.int .i64 x.ln.a) ∧ w'.cell? ⟨b2, o2 + i * 7 + 5, none⟩ = some (.int .i64 x.ln.q) ∧ w'.cell? ⟨b2, o2 + i * 7 + 6, none⟩ = some (.int .i64 x.ln.m) ∧ w'.cell? ⟨b3, o3 + i * 7, none⟩ = some (.int .i64 x.id) ∧ w'.cell? ⟨b3, o3 + i * 7 + 1, none⟩ = some (.int .i64 x.en) ∧ w'.cell? ⟨b3, o3 + i * 7 + 2, none⟩ = some (.int .i64 x.pe) ∧ w'.cell? ⟨b3, o3 + i * 7 + 3, none⟩ = some (.int .i64 x.ln.e) ∧ w'.cell? ⟨b3, o3 + i * 7 + 4, none⟩ = some (.int .i64 x.ln.a) ∧ w'.cell? ⟨b3, o3 + i * 7 + 5, none⟩ = some (.int .i64 x.ln.q) ∧ w'.cell? ⟨b3, o3 + i * 7 + 6, none⟩ = some (.int .i64 x.ln.m))) (by kernel_rfl) ?_ (fun hHeld => ?_)
              · go_keep
              refine wpAnyH_take (i := 0) (v := ?vyq0) rfl (by kernel_rfl) (by kernel_rfl) (by kernel_rfl) (fun _ _ _ h => h) (Or.inl ⟨by kernel_rfl, ?hyyq0⟩) (by assumption) ?restyq0
              case hyyq0 => (intro w hSw; (try dsimp only at hSw); go_simp; (try with_reducible rfl))
              go_simp
              refine wpAnyH_take (i := 1) (v := ?vyq1) rfl (by kernel_rfl) (by kernel_rfl) (by kernel_rfl) (fun _ _ _ h => h) (Or.inl ⟨by kernel_rfl, ?hyyq1⟩) (by assumption) ?restyq1
              case hyyq1 => (intro w hSw; (try dsimp only at hSw); go_simp; (try with_reducible rfl))
              go_simp
              refine wpAnyH_take (i := 2) (v := ?vyq2) rfl (by kernel_rfl) (by kernel_rfl) (by kernel_rfl) (fun _ _ _ h => h) (Or.inl ⟨by kernel_rfl, ?hyyq2⟩) (by assumption) ?restyq2
              case hyyq2 => (intro w hSw; (try dsimp only at hSw); go_simp; (try with_reducible rfl))
              go_simp
              refine wpAnyH_take (i := 3) (v := ?vyq3) rfl (by kernel_rfl) (by kernel_rfl) (by kernel_rfl) (fun _ _ _ h => h) (Or.inl ⟨by kernel_rfl, ?hyyq3⟩) (by assumption) ?restyq3
              case hyyq3 => (intro w hSw; (try dsimp only at hSw); go_simp; (try with_reducible rfl))
              go_simp
              refine wpAnyH_take (i := 4) (v := ?vyq4) rfl (by kernel_rfl) (by kernel_rfl) (by kernel_rfl) (fun _ _ _ h => h) (Or.inl ⟨by kernel_rfl, ?hyyq4⟩) (by assumption) ?restyq4
              case hyyq4 => (intro w hSw; (try dsimp only at hSw); go_simp; (try with_reducible rfl))
              go_simp
              refine wpAnyH_take (i := 5) (v := ?vyq5) rfl (by kernel_rfl) (by kernel_rfl) (by kernel_rfl) (fun _ _ _ h => h) (Or.inl ⟨by kernel_rfl, ?hyyq5⟩) (by assumption) ?restyq5
              case hyyq5 => (intro w hSw; (try dsimp only at hSw); go_simp; (try with_reducible rfl))
              go_simp
              refine wpAnyH_take (i := 6) (v := ?vyq6) rfl (by kernel_rfl) (by kernel_rfl) (by kernel_rfl) (fun _ _ _ h => h) (Or.inl ⟨by kernel_rfl, ?hyyq6⟩) (by assumption) ?restyq6
              case hyyq6 => (intro w hSw; (try dsimp only at hSw); go_simp; (try with_reducible rfl))
              go_simp
              refine wpAnyH_take (i := 7) (v := ?vyq7) rfl (by kernel_rfl) (by kernel_rfl) (by kernel_rfl) (fun _ _ _ h => h) (Or.inl ⟨by kernel_rfl, ?hyyq7⟩) (by assumption) ?restyq7
              case hyyq7 => (intro w hSw; (try dsimp only at hSw); go_simp; (try with_reducible rfl))
              go_simp
              refine wpAnyH_ready (rs := [8]) (by kernel_rfl) (by simp) ?_
              refine AllReadyH.cons rfl (fun K hK => ?_) AllReadyH.nil
              rw [if_pos (by kernel_rfl)]
              go_simp
              refine (ON.out _).mono ?_
              rintro e w80 ⟨rfl, b80⟩
              have b80 := below_undrew b80
              have cb := b80
              have p'1 := (cb.cell (p := ⟨b1, o1 + i * 7, none⟩) lt1).trans p1
              have p'2 := (cb.cell (p := ⟨b1, o1 + i * 7 + 1, none⟩) lt1).trans p2
              have p'3 := (cb.cell (p := ⟨b1, o1 + i * 7 + 2, none⟩) lt1).trans p3
              have p'4 := (cb.cell (p := ⟨b1, o1 + i * 7 + 3, none⟩) lt1).trans p4
              have p'5 := (cb.cell (p := ⟨b1, o1 + i * 7 + 4, none⟩) lt1).trans p5
              have p'6 := (cb.cell (p := ⟨b1, o1 + i * 7 + 5, none⟩) lt1).trans p6
              have p'7 := (cb.cell (p := ⟨b1, o1 + i * 7 + 6, none⟩) lt1).trans p7
              have q'1 := (cb.cell (p := ⟨b2, o2 + i * 7, none⟩) lt2).trans q1
              have q'2 := (cb.cell (p := ⟨b2, o2 + i * 7 + 1, none⟩) lt2).trans q2
              have q'3 := (cb.cell (p := ⟨b2, o2 + i * 7 + 2, none⟩) lt2).trans q3
              have q'4 := (cb.cell (p := ⟨b2, o2 + i * 7 + 3, none⟩) lt2).trans q4
              have q'5 := (cb.cell (p := ⟨b2, o2 + i * 7 + 4, none⟩) lt2).trans q5
              have q'6 := (cb.cell (p := ⟨b2, o2 + i * 7 + 5, none⟩) lt2).trans q6
              have q'7 := (cb.cell (p := ⟨b2, o2 + i * 7 + 6, none⟩) lt2).trans q7
              have s'1 := (cb.cell (p := ⟨b3, o3 + i * 7, none⟩) lt3).trans s1
              have s'2 := (cb.cell (p := ⟨b3, o3 + i * 7 + 1, none⟩) lt3).trans s2
              have s'3 := (cb.cell (p := ⟨b3, o3 + i * 7 + 2, none⟩) lt3).trans s3
              have s'4 := (cb.cell (p := ⟨b3, o3 + i * 7 + 3, none⟩) lt3).trans s4
              have s'5 := (cb.cell (p := ⟨b3, o3 + i * 7 + 4, none⟩) lt3).trans s5
              have s'6 := (cb.cell (p := ⟨b3, o3 + i * 7 + 5, none⟩) lt3).trans s6
              have s'7 := (cb.cell (p := ⟨b3, o3 + i * 7 + 6, none⟩) lt3).trans s7
              clear b80
              go_wp2_with fail
              refine hK.out _ _ (by go_keep) (fun hHeld => ?_)
              clear hK K
              go_simp
              refine wpAnyH_take (i := 9) (v := ?vyq9) rfl (by kernel_rfl) (by kernel_rfl) (by kernel_rfl) (fun _ _ _ h => h) (Or.inl ⟨by kernel_rfl, ?hyyq9⟩) (by assumption) ?restyq9
              case hyyq9 => (intro w hSw; (try dsimp only at hSw); go_simp; (try with_reducible rfl))
              go_simp
              refine wpAnyH_take (i := 10) (v := ?vyq10) rfl (by kernel_rfl) (by kernel_rfl) (by kernel_rfl) (fun _ _ _ h => h) (Or.inl ⟨by kernel_rfl, ?hyyq10⟩) (by assumption) ?restyq10
              case hyyq10 => (intro w hSw; (try dsimp only at hSw); go_simp; (try with_reducible rfl))
              go_simp
              refine wpAnyH_take (i := 11) (v := ?vyq11) rfl (by kernel_rfl) (by kernel_rfl) (by kernel_rfl) (fun _ _ _ h => h) (Or.inl ⟨by kernel_rfl, ?hyyq11⟩) (by assumption) ?restyq11
              case hyyq11 => (intro w hSw; (try dsimp only at hSw); go_simp; (try with_reducible rfl))
              go_simp
              refine wpAnyH_take (i := 12) (v := ?vyq12) rfl (by kernel_rfl) (by kernel_rfl) (by kernel_rfl) (fun _ _ _ h => h) (Or.inl ⟨by kernel_rfl, ?hyyq12⟩) (by assumption) ?restyq12
              case hyyq12 => (intro w hSw; (try dsimp only at hSw); go_simp; (try with_reducible rfl))
              go_simp
              refine wpAnyH_take (i := 13) (v := ?vyq13) rfl (by kernel_rfl) (by kernel_rfl) (by kernel_rfl) (fun _ _ _ h => h) (Or.inl ⟨by kernel_rfl, ?hyyq13⟩) (by assumption) ?restyq13
              case hyyq13 => (intro w hSw; (try dsimp only at hSw); go_simp; (try with_reducible rfl))
              go_simp
              refine wpAnyH_take (i := 14) (v := ?vyq14) rfl (by kernel_rfl) (by kernel_rfl) (by kernel_rfl) (fun _ _ _ h => h) (Or.inl ⟨by kernel_rfl, ?hyyq14⟩) (by assumption) ?restyq14
              case hyyq14 => (intro w hSw; (try dsimp only at hSw); go_simp; (try with_reducible rfl))
              go_simp
              refine wpAnyH_take (i := 15) (v := ?vyq15) rfl (by kernel_rfl) (by kernel_rfl) (by kernel_rfl) (fun _ _ _ h => h) (Or.inl ⟨by kernel_rfl, ?hyyq15⟩) (by assumption) ?restyq15
              case hyyq15 => (intro w hSw; (try dsimp only at hSw); go_simp; (try with_reducible rfl))
              go_simp
              refine wpAnyH_take (i := 16) (v := ?vyq16) rfl (by kernel_rfl) (by kernel_rfl) (by kernel_rfl) (fun _ _ _ h => h) (Or.inl ⟨by kernel_rfl, ?hyyq16⟩) (by assumption) ?restyq16
              case hyyq16 => (intro w hSw; (try dsimp only at hSw); go_simp; (try with_reducible rfl))
              go_simp
              refine wpAnyH_take (i := 17) (v := ?vyq17) rfl (by kernel_rfl) (by kernel_rfl) (by kernel_rfl) (fun _ _ _ h => h) (Or.inl ⟨by kernel_rfl, ?hyyq17⟩) (by assumption) ?restyq17
              case hyyq17 => (intro w hSw; (try dsimp only at hSw); go_simp; (try with_reducible rfl))
              go_simp
              refine wpAnyH_take (i := 18) (v := ?vyq18) rfl (by kernel_rfl) (by kernel_rfl) (by kernel_rfl) (fun _ _ _ h => h) (Or.inl ⟨by kernel_rfl, ?hyyq18⟩) (by assumption) ?restyq18
              case hyyq18 => (intro w hSw; (try dsimp only at hSw); go_simp; (try with_reducible rfl))
              go_simp
              refine wpAnyH_take (i := 19) (v := ?vyq19) rfl (by kernel_rfl) (by kernel_rfl) (by kernel_rfl) (fun _ _ _ h => h) (Or.inl ⟨by kernel_rfl, ?hyyq19⟩) (by assumption) ?restyq19
              case hyyq19 => (intro w hSw; (try dsimp only at hSw); go_simp; (try with_reducible rfl))
              go_simp
              refine wpAnyH_take (i := 20) (v := ?vyq20) rfl (by kernel_rfl) (by kernel_rfl) (by kernel_rfl) (fun _ _ _ h => h) (Or.inl ⟨by kernel_rfl, ?hyyq20⟩) (by assumption) ?restyq20
              case hyyq20 => (intro w hSw; (try dsimp only at hSw); go_simp; (try with_reducible rfl))
              go_simp
              refine wpAnyH_take (i := 21) (v := ?vyq21) rfl (by kernel_rfl) (by kernel_rfl) (by kernel_rfl) (fun _ _ _ h => h) (Or.inl ⟨by kernel_rfl, ?hyyq21⟩) (by assumption) ?restyq21
              case hyyq21 => (intro w hSw; (try dsimp only at hSw); go_simp; (try with_reducible rfl))
              go_simp
              refine wpAnyH_take (i := 22) (v := ?vyq22) rfl (by kernel_rfl) (by kernel_rfl) (by kernel_rfl) (fun _ _ _ h => h) (Or.inl ⟨by kernel_rfl, ?hyyq22⟩) (by assumption) ?restyq22
              case hyyq22 => (intro w hSw; (try dsimp only at hSw); go_simp; (try with_reducible rfl))
              go_simp
              refine wpAnyH_take (i := 23) (v := ?vyq23) rfl (by kernel_rfl) (by kernel_rfl) (by kernel_rfl) (fun _ _ _ h => h) (Or.inl ⟨by kernel_rfl, ?hyyq23⟩) (by assumption) ?restyq23
              case hyyq23 => (intro w hSw; (try dsimp only at hSw); go_simp; (try with_reducible rfl))
              go_simp
              refine wpAnyH_ready (rs := [24]) (by kernel_rfl) (by simp) ?_
              refine AllReadyH.cons rfl (fun K hK => ?_) AllReadyH.nil
              rw [if_pos (by kernel_rfl)]
              go_simp
              refine (ON.out _).mono ?_
              rintro e w81 ⟨rfl, b81⟩
              have cb := cb.trans (b81.mono cb.size)
              have p'1 := (cb.cell (p := ⟨b1, o1 + i * 7, none⟩) lt1).trans p1
              have p'2 := (cb.cell (p := ⟨b1, o1 + i * 7 + 1, none⟩) lt1).trans p2
              have p'3 := (cb.cell (p := ⟨b1, o1 + i * 7 + 2, none⟩) lt1).trans p3
              have p'4 := (cb.cell (p := ⟨b1, o1 + i * 7 + 3, none⟩) lt1).trans p4
              have p'5 := (cb.cell (p := ⟨b1, o1 + i * 7 + 4, none⟩) lt1).trans p5
              have p'6 := (cb.cell (p := ⟨b1, o1 + i * 7 + 5, none⟩) lt1).trans p6
              have p'7 := (cb.cell (p := ⟨b1, o1 + i * 7 + 6, none⟩) lt1).trans p7
              have q'1 := (cb.cell (p := ⟨b2, o2 + i * 7, none⟩) lt2).trans q1
              have q'2 := (cb.cell (p := ⟨b2, o2 + i * 7 + 1, none⟩) lt2).trans q2
              have q'3 := (cb.cell (p := ⟨b2, o2 + i * 7 + 2, none⟩) lt2).trans q3
              have q'4 := (cb.cell (p := ⟨b2, o2 + i * 7 + 3, none⟩) lt2).trans q4
              have q'5 := (cb.cell (p := ⟨b2, o2 + i * 7 + 4, none⟩) lt2).trans q5
              have q'6 := (cb.cell (p := ⟨b2, o2 + i * 7 + 5, none⟩) lt2).trans q6
              have q'7 := (cb.cell (p := ⟨b2, o2 + i * 7 + 6, none⟩) lt2).trans q7
              have s'1 := (cb.cell (p := ⟨b3, o3 + i * 7, none⟩) lt3).trans s1
              have s'2 := (cb.cell (p := ⟨b3, o3 + i * 7 + 1, none⟩) lt3).trans s2
              have s'3 := (cb.cell (p := ⟨b3, o3 + i * 7 + 2, none⟩) lt3).trans s3
              have s'4 := (cb.cell (p := ⟨b3, o3 + i * 7 + 3, none⟩) lt3).trans s4
              have s'5 := (cb.cell (p := ⟨b3, o3 + i * 7 + 4, none⟩) lt3).trans s5
              have s'6 := (cb.cell (p := ⟨b3, o3 + i * 7 + 5, none⟩) lt3).trans s6
              have s'7 := (cb.cell (p := ⟨b3, o3 + i * 7 + 6, none⟩) lt3).trans s7
              clear b81
              go_wp2_with fail
              refine hK.out _ _ (by go_keep) (fun hHeld => ?_)
              clear hK K
              go_simp
              refine wpAnyH_take (i := 25) (v := ?vyq25) rfl (by kernel_rfl) (by kernel_rfl) (by kernel_rfl) (fun _ _ _ h => h) (Or.inl ⟨by kernel_rfl, ?hyyq25⟩) (by assumption) ?restyq25
              case hyyq25 => (intro w hSw; (try dsimp only at hSw); go_simp; (try with_reducible rfl))
              go_simp
              refine wpAnyH_take (i := 26) (v := ?vyq26) rfl (by kernel_rfl) (by kernel_rfl) (by kernel_rfl) (fun _ _ _ h => h) (Or.inl ⟨by kernel_rfl, ?hyyq26⟩) (by assumption) ?restyq26
              case hyyq26 => (intro w hSw; (try dsimp only at hSw); go_simp; (try with_reducible rfl))
              go_simp
              refine wpAnyH_take (i := 27) (v := ?vyq27) rfl (by kernel_rfl) (by kernel_rfl) (by kernel_rfl) (fun _ _ _ h => h) (Or.inl ⟨by kernel_rfl, ?hyyq27⟩) (by assumption) ?restyq27
              case hyyq27 => (intro w hSw; (try dsimp only at hSw); go_simp; (try with_reducible rfl))
              go_simp
              refine wpAnyH_done (by kernel_rfl) ?_ _
              refine NoPanic.normal ?_
              replace hbr := hbr.trans (cb.mono hbr.size)
              clear cb
              go_wp2
              go_roundw
              case rel => exact ⟨i + 1, by omega, by go_num, hbr⟩
              case measure => simp [intOf]; omega
            · have hikd : decide ((i : Int) < (q : Int)) = false := decide_eq_false (by omega)
              have hik3 : (q : Int) ≤ (i : Int) := by omega
              have hik4 : q ≤ i := by omega
              have hik5 : decide (i < q) = false := decide_eq_false (by omega)
              have hik6 : ¬ ((i : Int) < (q : Int)) := by omega
              clear hc1 hc2 hik
              have ON := jone_any L[i]
              generalize L[i] = x at *
              dsimp only [pv] at ON
              replace ON := Lib.hid ON
              go_upto_region 10 with fail
              refine wp_region_noPanic ?_
              refine wp_region_held_drew (S := (fun w' => w'.cell? ⟨b1, o1 + i * 7, none⟩ = some (.int .i64 x.id) ∧ w'.cell? ⟨b1, o1 + i * 7 + 1, none⟩ = some (.int .i64 x.en) ∧ w'.cell? ⟨b1, o1 + i * 7 + 2, none⟩ = some (.int .i64 x.pe) ∧ w'.cell? ⟨b1, o1 + i * 7 + 3, none⟩ = some (.int .i64 x.ln.e) ∧ w'.cell? ⟨b1, o1 + i * 7 + 4, none⟩ = some (.int .i64 x.ln.a) ∧ w'.cell? ⟨b1, o1 + i * 7 + 5, none⟩ = some (.int .i64 x.ln.q) ∧ w'.cell? ⟨b1, o1 + i * 7 + 6, none⟩ = some (.int .i64 x.ln.m) ∧ w'.cell? ⟨b2, o2 + i * 7, none⟩ = some (.int .i64 x.id) ∧ w'.cell? ⟨b2, o2 + i * 7 + 1, none⟩ = some (.int .i64 x.en) ∧ w'.cell? ⟨b2, o2 + i * 7 + 2, none⟩ = some (.int .i64 x.pe) ∧ w'.cell? ⟨b2, o2 + i * 7 + 3, none⟩ = some (.int .i64 x.ln.e) ∧ w'.cell? ⟨b2, o2 + i * 7 + 4, none⟩ = some (.int .i64 x.ln.a) ∧ w'.cell? ⟨b2, o2 + i * 7 + 5, none⟩ = some (.int .i64 x.ln.q) ∧ w'.cell? ⟨b2, o2 + i * 7 + 6, none⟩ = some (.int .i64 x.ln.m))) (by kernel_rfl) ?_ (fun hHeld => ?_)
              · go_keep
              refine wpAnyH_take (i := 0) (v := ?vnq0) rfl (by kernel_rfl) (by kernel_rfl) (by kernel_rfl) (fun _ _ _ h => h) (Or.inl ⟨by kernel_rfl, ?hynq0⟩) (by assumption) ?restnq0
              case hynq0 => (intro w hSw; (try dsimp only at hSw); go_simp; (try with_reducible rfl))
              go_simp
              refine wpAnyH_take (i := 1) (v := ?vnq1) rfl (by kernel_rfl) (by kernel_rfl) (by kernel_rfl) (fun _ _ _ h => h) (Or.inl ⟨by kernel_rfl, ?hynq1⟩) (by assumption) ?restnq1
              case hynq1 => (intro w hSw; (try dsimp only at hSw); go_simp; (try with_reducible rfl))
              go_simp
              refine wpAnyH_take (i := 2) (v := ?vnq2) rfl (by kernel_rfl) (by kernel_rfl) (by kernel_rfl) (fun _ _ _ h => h) (Or.inl ⟨by kernel_rfl, ?hynq2⟩) (by assumption) ?restnq2
              case hynq2 => (intro w hSw; (try dsimp only at hSw); go_simp; (try with_reducible rfl))
              go_simp
              refine wpAnyH_take (i := 3) (v := ?vnq3) rfl (by kernel_rfl) (by kernel_rfl) (by kernel_rfl) (fun _ _ _ h => h) (Or.inl ⟨by kernel_rfl, ?hynq3⟩) (by assumption) ?restnq3
              case hynq3 => (intro w hSw; (try dsimp only at hSw); go_simp; (try with_reducible rfl))
              go_simp
              refine wpAnyH_take (i := 4) (v := ?vnq4) rfl (by kernel_rfl) (by kernel_rfl) (by kernel_rfl) (fun _ _ _ h => h) (Or.inl ⟨by kernel_rfl, ?hynq4⟩) (by assumption) ?restnq4
              case hynq4 => (intro w hSw; (try dsimp only at hSw); go_simp; (try with_reducible rfl))
              go_simp
              refine wpAnyH_take (i := 5) (v := ?vnq5) rfl (by kernel_rfl) (by kernel_rfl) (by kernel_rfl) (fun _ _ _ h => h) (Or.inl ⟨by kernel_rfl, ?hynq5⟩) (by assumption) ?restnq5
              case hynq5 => (intro w hSw; (try dsimp only at hSw); go_simp; (try with_reducible rfl))
              go_simp
              refine wpAnyH_take (i := 6) (v := ?vnq6) rfl (by kernel_rfl) (by kernel_rfl) (by kernel_rfl) (fun _ _ _ h => h) (Or.inl ⟨by kernel_rfl, ?hynq6⟩) (by assumption) ?restnq6
              case hynq6 => (intro w hSw; (try dsimp only at hSw); go_simp; (try with_reducible rfl))
              go_simp
              refine wpAnyH_take (i := 7) (v := ?vnq7) rfl (by kernel_rfl) (by kernel_rfl) (by kernel_rfl) (fun _ _ _ h => h) (Or.inl ⟨by kernel_rfl, ?hynq7⟩) (by assumption) ?restnq7
              case hynq7 => (intro w hSw; (try dsimp only at hSw); go_simp; (try with_reducible rfl))
              go_simp
              refine wpAnyH_ready (rs := [8]) (by kernel_rfl) (by simp) ?_
              refine AllReadyH.cons rfl (fun K hK => ?_) AllReadyH.nil
              rw [if_pos (by kernel_rfl)]
              go_simp
              refine (ON.out _).mono ?_
              rintro e w80 ⟨rfl, b80⟩
              have b80 := below_undrew b80
              have cb := b80
              have p'1 := (cb.cell (p := ⟨b1, o1 + i * 7, none⟩) lt1).trans p1
              have p'2 := (cb.cell (p := ⟨b1, o1 + i * 7 + 1, none⟩) lt1).trans p2
              have p'3 := (cb.cell (p := ⟨b1, o1 + i * 7 + 2, none⟩) lt1).trans p3
              have p'4 := (cb.cell (p := ⟨b1, o1 + i * 7 + 3, none⟩) lt1).trans p4
              have p'5 := (cb.cell (p := ⟨b1, o1 + i * 7 + 4, none⟩) lt1).trans p5
              have p'6 := (cb.cell (p := ⟨b1, o1 + i * 7 + 5, none⟩) lt1).trans p6
              have p'7 := (cb.cell (p := ⟨b1, o1 + i * 7 + 6, none⟩) lt1).trans p7
              have q'1 := (cb.cell (p := ⟨b2, o2 + i * 7, none⟩) lt2).trans q1
              have q'2 := (cb.cell (p := ⟨b2, o2 + i * 7 + 1, none⟩) lt2).trans q2
              have q'3 := (cb.cell (p := ⟨b2, o2 + i * 7 + 2, none⟩) lt2).trans q3
              have q'4 := (cb.cell (p := ⟨b2, o2 + i * 7 + 3, none⟩) lt2).trans q4
              have q'5 := (cb.cell (p := ⟨b2, o2 + i * 7 + 4, none⟩) lt2).trans q5
              have q'6 := (cb.cell (p := ⟨b2, o2 + i * 7 + 5, none⟩) lt2).trans q6
              have q'7 := (cb.cell (p := ⟨b2, o2 + i * 7 + 6, none⟩) lt2).trans q7
              clear b80
              go_wp2_with fail
              refine hK.out _ _ (by go_keep) (fun hHeld => ?_)
              clear hK K
              go_simp
              refine wpAnyH_take (i := 9) (v := ?vnq9) rfl (by kernel_rfl) (by kernel_rfl) (by kernel_rfl) (fun _ _ _ h => h) (Or.inl ⟨by kernel_rfl, ?hynq9⟩) (by assumption) ?restnq9
              case hynq9 => (intro w hSw; (try dsimp only at hSw); go_simp; (try with_reducible rfl))
              go_simp
              refine wpAnyH_take (i := 10) (v := ?vnq10) rfl (by kernel_rfl) (by kernel_rfl) (by kernel_rfl) (fun _ _ _ h => h) (Or.inl ⟨by kernel_rfl, ?hynq10⟩) (by assumption) ?restnq10
              case hynq10 => (intro w hSw; (try dsimp only at hSw); go_simp; (try with_reducible rfl))
              go_simp
              refine wpAnyH_take (i := 11) (v := ?vnq11) rfl (by kernel_rfl) (by kernel_rfl) (by kernel_rfl) (fun _ _ _ h => h) (Or.inl ⟨by kernel_rfl, ?hynq11⟩) (by assumption) ?restnq11
              case hynq11 => (intro w hSw; (try dsimp only at hSw); go_simp; (try with_reducible rfl))
              go_simp
              refine wpAnyH_take (i := 12) (v := ?vnq12) rfl (by kernel_rfl) (by kernel_rfl) (by kernel_rfl) (fun _ _ _ h => h) (Or.inl ⟨by kernel_rfl, ?hynq12⟩) (by assumption) ?restnq12
              case hynq12 => (intro w hSw; (try dsimp only at hSw); go_simp; (try with_reducible rfl))
              go_simp
              refine wpAnyH_take (i := 13) (v := ?vnq13) rfl (by kernel_rfl) (by kernel_rfl) (by kernel_rfl) (fun _ _ _ h => h) (Or.inl ⟨by kernel_rfl, ?hynq13⟩) (by assumption) ?restnq13
              case hynq13 => (intro w hSw; (try dsimp only at hSw); go_simp; (try with_reducible rfl))
              go_simp
              refine wpAnyH_take (i := 14) (v := ?vnq14) rfl (by kernel_rfl) (by kernel_rfl) (by kernel_rfl) (fun _ _ _ h => h) (Or.inl ⟨by kernel_rfl, ?hynq14⟩) (by assumption) ?restnq14
              case hynq14 => (intro w hSw; (try dsimp only at hSw); go_simp; (try with_reducible rfl))
              go_simp
              refine wpAnyH_take (i := 15) (v := ?vnq15) rfl (by kernel_rfl) (by kernel_rfl) (by kernel_rfl) (fun _ _ _ h => h) (Or.inl ⟨by kernel_rfl, ?hynq15⟩) (by assumption) ?restnq15
              case hynq15 => (intro w hSw; (try dsimp only at hSw); go_simp; (try with_reducible rfl))
              go_simp
              refine wpAnyH_take (i := 16) (v := undef) rfl (by kernel_rfl) (by kernel_rfl) (by kernel_rfl) (fun _ _ _ h => h) (Or.inr ⟨by kernel_rfl, rfl⟩) (by assumption) ?_
              go_simp
              refine wpAnyH_take (i := 17) (v := undef) rfl (by kernel_rfl) (by kernel_rfl) (by kernel_rfl) (fun _ _ _ h => h) (Or.inr ⟨by kernel_rfl, rfl⟩) (by assumption) ?_
              go_simp
              refine wpAnyH_take (i := 18) (v := undef) rfl (by kernel_rfl) (by kernel_rfl) (by kernel_rfl) (fun _ _ _ h => h) (Or.inr ⟨by kernel_rfl, rfl⟩) (by assumption) ?_
              go_simp
              refine wpAnyH_take (i := 19) (v := undef) rfl (by kernel_rfl) (by kernel_rfl) (by kernel_rfl) (fun _ _ _ h => h) (Or.inr ⟨by kernel_rfl, rfl⟩) (by assumption) ?_
              go_simp
              refine wpAnyH_take (i := 20) (v := undef) rfl (by kernel_rfl) (by kernel_rfl) (by kernel_rfl) (fun _ _ _ h => h) (Or.inr ⟨by kernel_rfl, rfl⟩) (by assumption) ?_
              go_simp
              refine wpAnyH_take (i := 21) (v := undef) rfl (by kernel_rfl) (by kernel_rfl) (by kernel_rfl) (fun _ _ _ h => h) (Or.inr ⟨by kernel_rfl, rfl⟩) (by assumption) ?_
              go_simp
              refine wpAnyH_take (i := 22) (v := undef) rfl (by kernel_rfl) (by kernel_rfl) (by kernel_rfl) (fun _ _ _ h => h) (Or.inr ⟨by kernel_rfl, rfl⟩) (by assumption) ?_
              go_simp
              refine wpAnyH_take (i := 23) (v := undef) rfl (by kernel_rfl) (by kernel_rfl) (by kernel_rfl) (fun _ _ _ h => h) (Or.inr ⟨by kernel_rfl, rfl⟩) (by assumption) ?_
              go_simp
              refine wpAnyH_take (i := 24) (v := undef) rfl (by kernel_rfl) (by kernel_rfl) (by kernel_rfl) (fun _ _ _ h => h) (Or.inr ⟨by kernel_rfl, rfl⟩) (by assumption) ?_
              go_simp
              refine wpAnyH_take (i := 25) (v := undef) rfl (by kernel_rfl) (by kernel_rfl) (by kernel_rfl) (fun _ _ _ h => h) (Or.inr ⟨by kernel_rfl, rfl⟩) (by assumption) ?_
              go_simp
              refine wpAnyH_take (i := 26) (v := ?vnq26) rfl (by kernel_rfl) (by kernel_rfl) (by kernel_rfl) (fun _ _ _ h => h) (Or.inl ⟨by kernel_rfl, ?hynq26⟩) (by assumption) ?restnq26
              case hynq26 => (intro w hSw; (try dsimp only at hSw); go_simp; (try with_reducible rfl))
              go_simp
              refine wpAnyH_take (i := 27) (v := ?vnq27) rfl (by kernel_rfl) (by kernel_rfl) (by kernel_rfl) (fun _ _ _ h => h) (Or.inl ⟨by kernel_rfl, ?hynq27⟩) (by assumption) ?restnq27
              case hynq27 => (intro w hSw; (try dsimp only at hSw); go_simp; (try with_reducible rfl))
              go_simp
              refine wpAnyH_done (by kernel_rfl) ?_ _
              refine NoPanic.normal ?_
              replace hbr := hbr.trans (cb.mono hbr.size)
              clear cb
              go_wp2
              go_roundw
              case rel => exact ⟨i + 1, by omega, by go_num, hbr⟩
              case measure => simp [intOf]; omega
          · obtain rfl : i = N := by omega
            replace hr := hr.below hbr (Nat.le_refl _)
            replace hb := hb.trans (hbr.mono hb.size)
            clear hbr
            go_wp2_with fail
            refine (JL.out _ hr).mono ?_
            rintro e w4 ⟨rfl, b9⟩
            replace hr := hr.below b9 (Nat.le_refl _)
            replace hb := hb.trans (b9.mono hb.size)
            clear b9
            have Y1 := Box.new w4 34 #[.int .i64 p.id, .int .i64 p.en, .int .i64 p.pe, .int .i64 p.ln.e, .int .i64 p.ln.a, .int .i64 p.ln.q, .int .i64 p.ln.m]
            replace hr := hr.alloc (.cells #[.int .i64 p.id, .int .i64 p.en, .int .i64 p.pe, .int .i64 p.ln.e, .int .i64 p.ln.a, .int .i64 p.ln.q, .int .i64 p.ln.m] 34)
            replace hb := hb.alloc hb.size (.cells #[.int .i64 p.id, .int .i64 p.en, .int .i64 p.pe, .int .i64 p.ln.e, .int .i64 p.ln.a, .int .i64 p.ln.q, .int .i64 p.ln.m] 34)
            go_wp2_with fail
            refine (RL.out _ hr).mono ?_
            rintro e w5 ⟨rfl, b9⟩
            replace hr := hr.below b9 (Nat.le_refl _)
            replace hb := hb.trans (b9.mono hb.size)
            replace Y1 := Y1.later b9
            clear b9
            have Y2 := Box.new w5 35 #[.int .i64 p.id, .int .i64 p.en, .int .i64 p.pe, .int .i64 p.ln.e, .int .i64 p.ln.a, .int .i64 p.ln.q, .int .i64 p.ln.m]
            replace hr := hr.alloc (.cells #[.int .i64 p.id, .int .i64 p.en, .int .i64 p.pe, .int .i64 p.ln.e, .int .i64 p.ln.a, .int .i64 p.ln.q, .int .i64 p.ln.m] 35)
            replace hb := hb.alloc hb.size (.cells #[.int .i64 p.id, .int .i64 p.en, .int .i64 p.pe, .int .i64 p.ln.e, .int .i64 p.ln.a, .int .i64 p.ln.q, .int .i64 p.ln.m] 35)
            replace Y1 := Y1.alloc (.cells #[.int .i64 p.id, .int .i64 p.en, .int .i64 p.pe, .int .i64 p.ln.e, .int .i64 p.ln.a, .int .i64 p.ln.q, .int .i64 p.ln.m] 35)
            go_wp2_with fail
            refine (JI.out _ hr).mono ?_
            rintro e w6 ⟨rfl, b9⟩
            replace hr := hr.below b9 (Nat.le_refl _)
            replace hb := hb.trans (b9.mono hb.size)
            replace Y1 := Y1.later b9
            replace Y2 := Y2.later b9
            clear b9
            go_wp2_with fail
            refine (RI.out _ hr).mono ?_
            rintro e w7 ⟨rfl, b9⟩
            replace hr := hr.below b9 (Nat.le_refl _)
            replace hb := hb.trans (b9.mono hb.size)
            replace Y1 := Y1.later b9
            replace Y2 := Y2.later b9
            clear b9
            have k1 := Y1.cells
            have k2 := Y2.cells
            have m1 := Y1.lt
            have m2 := Y2.lt
            clear hr
            go_wp2_with fail
            refine (OP.out _).mono ?_
            rintro e w8 ⟨rfl, b9⟩
            replace hb := hb.trans (b9.mono hb.size)
            clear b9
            clear k1 k2 m1 m2 Y1 Y2
            go_wp2_with fail
            refine (AW.out _).mono ?_
            rintro e w99 ⟨rfl, b9⟩
            replace hb := hb.trans (b9.mono hb.size)
            clear b9
            go_wp2
            go_ret
            exact ⟨rfl, hb⟩
      · have HM : Hid ((L.take q).length = N) := by rw [List.length_take]; rw [Nat.min_eq_right (by omega)]; exact hN
        have FJ := Lib.hid fun (w : World) (hr : RowE w A l) => (FI w hr).mono fun _ _ h => newP_of HM.out h
        have hqi : (N : Int) < (q : Int) := by omega
        clear FI hN hls f2
        go_enter Try.func3, Try.ntmps3
        go_wp2_with fail
        refine (FW.out _ hr).mono ?_
        rintro e _ ⟨rfl, rfl⟩
        go_wp2_with fail
        refine (LA.out _ hr).mono ?_
        rintro e w1 ⟨A1, c1, rfl, r1, b9⟩
        replace hr := hr.below b9 (Nat.le_refl _)
        replace hb := hb.trans (b9.mono hb.size)
        clear b9
        go_wp2_with fail
        refine (LB.out _ hr).mono ?_
        rintro e w2 ⟨A2, c2, rfl, r2, b9⟩
        replace hr := hr.below b9 (Nat.le_refl _)
        replace r1 := r1.below b9 (Nat.le_refl _)
        replace hb := hb.trans (b9.mono hb.size)
        clear b9
        go_wp2_with fail
        refine (FJ.out _ hr).mono ?_
        rintro e w3 ⟨A3, c3, rfl, r3, b9⟩
        replace hr := hr.below b9 (Nat.le_refl _)
        replace r1 := r1.below b9 (Nat.le_refl _)
        replace r2 := r2.below b9 (Nat.le_refl _)
        replace hb := hb.trans (b9.mono hb.size)
        clear b9
        have R1 := Lib.hid r1
        have R2 := Lib.hid r2
        have R3 := Lib.hid r3
        clear r1 r2 r3
        go_wp2
        go_loopw [10] (fun i wr => ∃ j : Nat, j ≤ N ∧ i = .int .i64 j ∧ Below w3.heap.size w3 wr) (fun i _ => N - (intOf i).toNat)
        case atStart => exact ⟨0, by omega, rfl, Below.refl _ _⟩
        case round =>
          obtain ⟨i, hi, rfl, hbr⟩ := hrel
          by_cases hin : i < N
          · have hiL : i < L.length := by have := HN.out; omega
            obtain ⟨b1, o1, rfl, lt1, hc1⟩ := (R1.out.below hbr (Nat.le_refl _)).posts (by omega)
            obtain ⟨b2, o2, rfl, lt2, hc2⟩ := (R2.out.below hbr (Nat.le_refl _)).posts (by omega)
            obtain ⟨p1, p2, p3, p4, p5, p6, p7⟩ := hc1 i hiL
            obtain ⟨q1, q2, q3, q4, q5, q6, q7⟩ := hc2 i hiL
            have hii : (i : Int) < (N : Int) := by omega
            by_cases hik : i < N
            · have hiM : i < (L.take q).length := by have := HM.out; omega
              obtain ⟨b3, o3, rfl, lt3, hc3⟩ := (R3.out.below hbr (Nat.le_refl _)).posts (by omega)
              obtain ⟨s1, s2, s3, s4, s5, s6, s7⟩ := hc3 i hiM
              rw [List.getElem_take] at s1 s2 s3 s4 s5 s6 s7
              have hikd : decide ((i : Int) < (N : Int)) = true := decide_eq_true (by omega)
              have hik2 : (i : Int) < (N : Int) := by omega
              clear hc1 hc2 hc3
              have ON := jone_any L[i]
              generalize L[i] = x at *
              dsimp only [pv] at ON
              replace ON := Lib.hid ON
              go_upto_region 10 with fail
              refine wp_region_noPanic ?_
              refine wp_region_held_drew (S := (fun w' => w'.cell? ⟨b1, o1 + i * 7, none⟩ = some (.int .i64 x.id) ∧ w'.cell? ⟨b1, o1 + i * 7 + 1, none⟩ = some (.int .i64 x.en) ∧ w'.cell? ⟨b1, o1 + i * 7 + 2, none⟩ = some (.int .i64 x.pe) ∧ w'.cell? ⟨b1, o1 + i * 7 + 3, none⟩ = some (.int .i64 x.ln.e) ∧ w'.cell? ⟨b1, o1 + i * 7 + 4, none⟩ = some (.int .i64 x.ln.a) ∧ w'.cell? ⟨b1, o1 + i * 7 + 5, none⟩ = some (.int .i64 x.ln.q) ∧ w'.cell? ⟨b1, o1 + i * 7 + 6, none⟩ = some (.int .i64 x.ln.m) ∧ w'.cell? ⟨b2, o2 + i * 7, none⟩ = some (.int .i64 x.id) ∧ w'.cell? ⟨b2, o2 + i * 7 + 1, none⟩ = some (.int .i64 x.en) ∧ w'.cell? ⟨b2, o2 + i * 7 + 2, none⟩ = some (.int .i64 x.pe) ∧ w'.cell? ⟨b2, o2 + i * 7 + 3, none⟩ = some (.int .i64 x.ln.e) ∧ w'.cell? ⟨b2, o2 + i * 7 + 4, none⟩ = some (.int .i64 x.ln.a) ∧ w'.cell? ⟨b2, o2 + i * 7 + 5, none⟩ = some (.int .i64 x.ln.q) ∧ w'.cell? ⟨b2, o2 + i * 7 + 6, none⟩ = some (.int .i64 x.ln.m) ∧ w'.cell? ⟨b3, o3 + i * 7, none⟩ = some (.int .i64 x.id) ∧ w'.cell? ⟨b3, o3 + i * 7 + 1, none⟩ = some (.int .i64 x.en) ∧ w'.cell? ⟨b3, o3 + i * 7 + 2, none⟩ = some (.int .i64 x.pe) ∧ w'.cell? ⟨b3, o3 + i * 7 + 3, none⟩ = some (.int .i64 x.ln.e) ∧ w'.cell? ⟨b3, o3 + i * 7 + 4, none⟩ = some (.int .i64 x.ln.a) ∧ w'.cell? ⟨b3, o3 + i * 7 + 5, none⟩ = some (.int .i64 x.ln.q) ∧ w'.cell? ⟨b3, o3 + i * 7 + 6, none⟩ = some (.int .i64 x.ln.m))) (by kernel_rfl) ?_ (fun hHeld => ?_)
              · go_keep
              refine wpAnyH_take (i := 0) (v := ?vyn0) rfl (by kernel_rfl) (by kernel_rfl) (by kernel_rfl) (fun _ _ _ h => h) (Or.inl ⟨by kernel_rfl, ?hyyn0⟩) (by assumption) ?restyn0
              case hyyn0 => (intro w hSw; (try dsimp only at hSw); go_simp; (try with_reducible rfl))
              go_simp
              refine wpAnyH_take (i := 1) (v := ?vyn1) rfl (by kernel_rfl) (by kernel_rfl) (by kernel_rfl) (fun _ _ _ h => h) (Or.inl ⟨by kernel_rfl, ?hyyn1⟩) (by assumption) ?restyn1
              case hyyn1 => (intro w hSw; (try dsimp only at hSw); go_simp; (try with_reducible rfl))
              go_simp
              refine wpAnyH_take (i := 2) (v := ?vyn2) rfl (by kernel_rfl) (by kernel_rfl) (by kernel_rfl) (fun _ _ _ h => h) (Or.inl ⟨by kernel_rfl, ?hyyn2⟩) (by assumption) ?restyn2
              case hyyn2 => (intro w hSw; (try dsimp only at hSw); go_simp; (try with_reducible rfl))
              go_simp
              refine wpAnyH_take (i := 3) (v := ?vyn3) rfl (by kernel_rfl) (by kernel_rfl) (by kernel_rfl) (fun _ _ _ h => h) (Or.inl ⟨by kernel_rfl, ?hyyn3⟩) (by assumption) ?restyn3
              case hyyn3 => (intro w hSw; (try dsimp only at hSw); go_simp; (try with_reducible rfl))
              go_simp
              refine wpAnyH_take (i := 4) (v := ?vyn4) rfl (by kernel_rfl) (by kernel_rfl) (by kernel_rfl) (fun _ _ _ h => h) (Or.inl ⟨by kernel_rfl, ?hyyn4⟩) (by assumption) ?restyn4
              case hyyn4 => (intro w hSw; (try dsimp only at hSw); go_simp; (try with_reducible rfl))
              go_simp
              refine wpAnyH_take (i := 5) (v := ?vyn5) rfl (by kernel_rfl) (by kernel_rfl) (by kernel_rfl) (fun _ _ _ h => h) (Or.inl ⟨by kernel_rfl, ?hyyn5⟩) (by assumption) ?restyn5
              case hyyn5 => (intro w hSw; (try dsimp only at hSw); go_simp; (try with_reducible rfl))
              go_simp
              refine wpAnyH_take (i := 6) (v := ?vyn6) rfl (by kernel_rfl) (by kernel_rfl) (by kernel_rfl) (fun _ _ _ h => h) (Or.inl ⟨by kernel_rfl, ?hyyn6⟩) (by assumption) ?restyn6
              case hyyn6 => (intro w hSw; (try dsimp only at hSw); go_simp; (try with_reducible rfl))
              go_simp
              refine wpAnyH_take (i := 7) (v := ?vyn7) rfl (by kernel_rfl) (by kernel_rfl) (by kernel_rfl) (fun _ _ _ h => h) (Or.inl ⟨by kernel_rfl, ?hyyn7⟩) (by assumption) ?restyn7
              case hyyn7 => (intro w hSw; (try dsimp only at hSw); go_simp; (try with_reducible rfl))
              go_simp
              refine wpAnyH_ready (rs := [8]) (by kernel_rfl) (by simp) ?_
              refine AllReadyH.cons rfl (fun K hK => ?_) AllReadyH.nil
              rw [if_pos (by kernel_rfl)]
              go_simp
              refine (ON.out _).mono ?_
              rintro e w80 ⟨rfl, b80⟩
              have b80 := below_undrew b80
              have cb := b80
              have p'1 := (cb.cell (p := ⟨b1, o1 + i * 7, none⟩) lt1).trans p1
              have p'2 := (cb.cell (p := ⟨b1, o1 + i * 7 + 1, none⟩) lt1).trans p2
              have p'3 := (cb.cell (p := ⟨b1, o1 + i * 7 + 2, none⟩) lt1).trans p3
              have p'4 := (cb.cell (p := ⟨b1, o1 + i * 7 + 3, none⟩) lt1).trans p4
              have p'5 := (cb.cell (p := ⟨b1, o1 + i * 7 + 4, none⟩) lt1).trans p5
              have p'6 := (cb.cell (p := ⟨b1, o1 + i * 7 + 5, none⟩) lt1).trans p6
              have p'7 := (cb.cell (p := ⟨b1, o1 + i * 7 + 6, none⟩) lt1).trans p7
              have q'1 := (cb.cell (p := ⟨b2, o2 + i * 7, none⟩) lt2).trans q1
              have q'2 := (cb.cell (p := ⟨b2, o2 + i * 7 + 1, none⟩) lt2).trans q2
              have q'3 := (cb.cell (p := ⟨b2, o2 + i * 7 + 2, none⟩) lt2).trans q3
              have q'4 := (cb.cell (p := ⟨b2, o2 + i * 7 + 3, none⟩) lt2).trans q4
              have q'5 := (cb.cell (p := ⟨b2, o2 + i * 7 + 4, none⟩) lt2).trans q5
              have q'6 := (cb.cell (p := ⟨b2, o2 + i * 7 + 5, none⟩) lt2).trans q6
              have q'7 := (cb.cell (p := ⟨b2, o2 + i * 7 + 6, none⟩) lt2).trans q7
              have s'1 := (cb.cell (p := ⟨b3, o3 + i * 7, none⟩) lt3).trans s1
              have s'2 := (cb.cell (p := ⟨b3, o3 + i * 7 + 1, none⟩) lt3).trans s2
              have s'3 := (cb.cell (p := ⟨b3, o3 + i * 7 + 2, none⟩) lt3).trans s3
              have s'4 := (cb.cell (p := ⟨b3, o3 + i * 7 + 3, none⟩) lt3).trans s4
              have s'5 := (cb.cell (p := ⟨b3, o3 + i * 7 + 4, none⟩) lt3).trans s5
              have s'6 := (cb.cell (p := ⟨b3, o3 + i * 7 + 5, none⟩) lt3).trans s6
              have s'7 := (cb.cell (p := ⟨b3, o3 + i * 7 + 6, none⟩) lt3).trans s7
              clear b80
              go_wp2_with fail
              refine hK.out _ _ (by go_keep) (fun hHeld => ?_)
              clear hK K
              go_simp
              refine wpAnyH_take (i := 9) (v := ?vyn9) rfl (by kernel_rfl) (by kernel_rfl) (by kernel_rfl) (fun _ _ _ h => h) (Or.inl ⟨by kernel_rfl, ?hyyn9⟩) (by assumption) ?restyn9
              case hyyn9 => (intro w hSw; (try dsimp only at hSw); go_simp; (try with_reducible rfl))
              go_simp
              refine wpAnyH_take (i := 10) (v := ?vyn10) rfl (by kernel_rfl) (by kernel_rfl) (by kernel_rfl) (fun _ _ _ h => h) (Or.inl ⟨by kernel_rfl, ?hyyn10⟩) (by assumption) ?restyn10
              case hyyn10 => (intro w hSw; (try dsimp only at hSw); go_simp; (try with_reducible rfl))
              go_simp
              refine wpAnyH_take (i := 11) (v := ?vyn11) rfl (by kernel_rfl) (by kernel_rfl) (by kernel_rfl) (fun _ _ _ h => h) (Or.inl ⟨by kernel_rfl, ?hyyn11⟩) (by assumption) ?restyn11
              case hyyn11 => (intro w hSw; (try dsimp only at hSw); go_simp; (try with_reducible rfl))
              go_simp
              refine wpAnyH_take (i := 12) (v := ?vyn12) rfl (by kernel_rfl) (by kernel_rfl) (by kernel_rfl) (fun _ _ _ h => h) (Or.inl ⟨by kernel_rfl, ?hyyn12⟩) (by assumption) ?restyn12
              case hyyn12 => (intro w hSw; (try dsimp only at hSw); go_simp; (try with_reducible rfl))
              go_simp
              refine wpAnyH_take (i := 13) (v := ?vyn13) rfl (by kernel_rfl) (by kernel_rfl) (by kernel_rfl) (fun _ _ _ h => h) (Or.inl ⟨by kernel_rfl, ?hyyn13⟩) (by assumption) ?restyn13
              case hyyn13 => (intro w hSw; (try dsimp only at hSw); go_simp; (try with_reducible rfl))
              go_simp
              refine wpAnyH_take (i := 14) (v := ?vyn14) rfl (by kernel_rfl) (by kernel_rfl) (by kernel_rfl) (fun _ _ _ h => h) (Or.inl ⟨by kernel_rfl, ?hyyn14⟩) (by assumption) ?restyn14
              case hyyn14 => (intro w hSw; (try dsimp only at hSw); go_simp; (try with_reducible rfl))
              go_simp
              refine wpAnyH_take (i := 15) (v := ?vyn15) rfl (by kernel_rfl) (by kernel_rfl) (by kernel_rfl) (fun _ _ _ h => h) (Or.inl ⟨by kernel_rfl, ?hyyn15⟩) (by assumption) ?restyn15
              case hyyn15 => (intro w hSw; (try dsimp only at hSw); go_simp; (try with_reducible rfl))
              go_simp
              refine wpAnyH_take (i := 16) (v := ?vyn16) rfl (by kernel_rfl) (by kernel_rfl) (by kernel_rfl) (fun _ _ _ h => h) (Or.inl ⟨by kernel_rfl, ?hyyn16⟩) (by assumption) ?restyn16
              case hyyn16 => (intro w hSw; (try dsimp only at hSw); go_simp; (try with_reducible rfl))
              go_simp
              refine wpAnyH_take (i := 17) (v := ?vyn17) rfl (by kernel_rfl) (by kernel_rfl) (by kernel_rfl) (fun _ _ _ h => h) (Or.inl ⟨by kernel_rfl, ?hyyn17⟩) (by assumption) ?restyn17
              case hyyn17 => (intro w hSw; (try dsimp only at hSw); go_simp; (try with_reducible rfl))
              go_simp
              refine wpAnyH_take (i := 18) (v := ?vyn18) rfl (by kernel_rfl) (by kernel_rfl) (by kernel_rfl) (fun _ _ _ h => h) (Or.inl ⟨by kernel_rfl, ?hyyn18⟩) (by assumption) ?restyn18
              case hyyn18 => (intro w hSw; (try dsimp only at hSw); go_simp; (try with_reducible rfl))
              go_simp
              refine wpAnyH_take (i := 19) (v := ?vyn19) rfl (by kernel_rfl) (by kernel_rfl) (by kernel_rfl) (fun _ _ _ h => h) (Or.inl ⟨by kernel_rfl, ?hyyn19⟩) (by assumption) ?restyn19
              case hyyn19 => (intro w hSw; (try dsimp only at hSw); go_simp; (try with_reducible rfl))
              go_simp
              refine wpAnyH_take (i := 20) (v := ?vyn20) rfl (by kernel_rfl) (by kernel_rfl) (by kernel_rfl) (fun _ _ _ h => h) (Or.inl ⟨by kernel_rfl, ?hyyn20⟩) (by assumption) ?restyn20
              case hyyn20 => (intro w hSw; (try dsimp only at hSw); go_simp; (try with_reducible rfl))
              go_simp
              refine wpAnyH_take (i := 21) (v := ?vyn21) rfl (by kernel_rfl) (by kernel_rfl) (by kernel_rfl) (fun _ _ _ h => h) (Or.inl ⟨by kernel_rfl, ?hyyn21⟩) (by assumption) ?restyn21
              case hyyn21 => (intro w hSw; (try dsimp only at hSw); go_simp; (try with_reducible rfl))
              go_simp
              refine wpAnyH_take (i := 22) (v := ?vyn22) rfl (by kernel_rfl) (by kernel_rfl) (by kernel_rfl) (fun _ _ _ h => h) (Or.inl ⟨by kernel_rfl, ?hyyn22⟩) (by assumption) ?restyn22
              case hyyn22 => (intro w hSw; (try dsimp only at hSw); go_simp; (try with_reducible rfl))
              go_simp
              refine wpAnyH_take (i := 23) (v := ?vyn23) rfl (by kernel_rfl) (by kernel_rfl) (by kernel_rfl) (fun _ _ _ h => h) (Or.inl ⟨by kernel_rfl, ?hyyn23⟩) (by assumption) ?restyn23
              case hyyn23 => (intro w hSw; (try dsimp only at hSw); go_simp; (try with_reducible rfl))
              go_simp
              refine wpAnyH_ready (rs := [24]) (by kernel_rfl) (by simp) ?_
              refine AllReadyH.cons rfl (fun K hK => ?_) AllReadyH.nil
              rw [if_pos (by kernel_rfl)]
              go_simp
              refine (ON.out _).mono ?_
              rintro e w81 ⟨rfl, b81⟩
              have cb := cb.trans (b81.mono cb.size)
              have p'1 := (cb.cell (p := ⟨b1, o1 + i * 7, none⟩) lt1).trans p1
              have p'2 := (cb.cell (p := ⟨b1, o1 + i * 7 + 1, none⟩) lt1).trans p2
              have p'3 := (cb.cell (p := ⟨b1, o1 + i * 7 + 2, none⟩) lt1).trans p3
              have p'4 := (cb.cell (p := ⟨b1, o1 + i * 7 + 3, none⟩) lt1).trans p4
              have p'5 := (cb.cell (p := ⟨b1, o1 + i * 7 + 4, none⟩) lt1).trans p5
              have p'6 := (cb.cell (p := ⟨b1, o1 + i * 7 + 5, none⟩) lt1).trans p6
              have p'7 := (cb.cell (p := ⟨b1, o1 + i * 7 + 6, none⟩) lt1).trans p7
              have q'1 := (cb.cell (p := ⟨b2, o2 + i * 7, none⟩) lt2).trans q1
              have q'2 := (cb.cell (p := ⟨b2, o2 + i * 7 + 1, none⟩) lt2).trans q2
              have q'3 := (cb.cell (p := ⟨b2, o2 + i * 7 + 2, none⟩) lt2).trans q3
              have q'4 := (cb.cell (p := ⟨b2, o2 + i * 7 + 3, none⟩) lt2).trans q4
              have q'5 := (cb.cell (p := ⟨b2, o2 + i * 7 + 4, none⟩) lt2).trans q5
              have q'6 := (cb.cell (p := ⟨b2, o2 + i * 7 + 5, none⟩) lt2).trans q6
              have q'7 := (cb.cell (p := ⟨b2, o2 + i * 7 + 6, none⟩) lt2).trans q7
              have s'1 := (cb.cell (p := ⟨b3, o3 + i * 7, none⟩) lt3).trans s1
              have s'2 := (cb.cell (p := ⟨b3, o3 + i * 7 + 1, none⟩) lt3).trans s2
              have s'3 := (cb.cell (p := ⟨b3, o3 + i * 7 + 2, none⟩) lt3).trans s3
              have s'4 := (cb.cell (p := ⟨b3, o3 + i * 7 + 3, none⟩) lt3).trans s4
              have s'5 := (cb.cell (p := ⟨b3, o3 + i * 7 + 4, none⟩) lt3).trans s5
              have s'6 := (cb.cell (p := ⟨b3, o3 + i * 7 + 5, none⟩) lt3).trans s6
              have s'7 := (cb.cell (p := ⟨b3, o3 + i * 7 + 6, none⟩) lt3).trans s7
              clear b81
              go_wp2_with fail
              refine hK.out _ _ (by go_keep) (fun hHeld => ?_)
              clear hK K
              go_simp
              refine wpAnyH_take (i := 25) (v := ?vyn25) rfl (by kernel_rfl) (by kernel_rfl) (by kernel_rfl) (fun _ _ _ h => h) (Or.inl ⟨by kernel_rfl, ?hyyn25⟩) (by assumption) ?restyn25
              case hyyn25 => (intro w hSw; (try dsimp only at hSw); go_simp; (try with_reducible rfl))
              go_simp
              refine wpAnyH_take (i := 26) (v := ?vyn26) rfl (by kernel_rfl) (by kernel_rfl) (by kernel_rfl) (fun _ _ _ h => h) (Or.inl ⟨by kernel_rfl, ?hyyn26⟩) (by assumption) ?restyn26
              case hyyn26 => (intro w hSw; (try dsimp only at hSw); go_simp; (try with_reducible rfl))
              go_simp
              refine wpAnyH_take (i := 27) (v := ?vyn27) rfl (by kernel_rfl) (by kernel_rfl) (by kernel_rfl) (fun _ _ _ h => h) (Or.inl ⟨by kernel_rfl, ?hyyn27⟩) (by assumption) ?restyn27
              case hyyn27 => (intro w hSw; (try dsimp only at hSw); go_simp; (try with_reducible rfl))
              go_simp
              refine wpAnyH_done (by kernel_rfl) ?_ _
              refine NoPanic.normal ?_
              replace hbr := hbr.trans (cb.mono hbr.size)
              clear cb
              go_wp2
              go_roundw
              case rel => exact ⟨i + 1, by omega, by go_num, hbr⟩
              case measure => simp [intOf]; omega
            · exfalso; omega
          · obtain rfl : i = N := by omega
            replace hr := hr.below hbr (Nat.le_refl _)
            replace hb := hb.trans (hbr.mono hb.size)
            clear hbr
            go_wp2_with fail
            refine (JL.out _ hr).mono ?_
            rintro e w4 ⟨rfl, b9⟩
            replace hr := hr.below b9 (Nat.le_refl _)
            replace hb := hb.trans (b9.mono hb.size)
            clear b9
            have Y1 := Box.new w4 34 #[.int .i64 p.id, .int .i64 p.en, .int .i64 p.pe, .int .i64 p.ln.e, .int .i64 p.ln.a, .int .i64 p.ln.q, .int .i64 p.ln.m]
            replace hr := hr.alloc (.cells #[.int .i64 p.id, .int .i64 p.en, .int .i64 p.pe, .int .i64 p.ln.e, .int .i64 p.ln.a, .int .i64 p.ln.q, .int .i64 p.ln.m] 34)
            replace hb := hb.alloc hb.size (.cells #[.int .i64 p.id, .int .i64 p.en, .int .i64 p.pe, .int .i64 p.ln.e, .int .i64 p.ln.a, .int .i64 p.ln.q, .int .i64 p.ln.m] 34)
            go_wp2_with fail
            refine (RL.out _ hr).mono ?_
            rintro e w5 ⟨rfl, b9⟩
            replace hr := hr.below b9 (Nat.le_refl _)
            replace hb := hb.trans (b9.mono hb.size)
            replace Y1 := Y1.later b9
            clear b9
            have Y2 := Box.new w5 35 #[.int .i64 p.id, .int .i64 p.en, .int .i64 p.pe, .int .i64 p.ln.e, .int .i64 p.ln.a, .int .i64 p.ln.q, .int .i64 p.ln.m]
            replace hr := hr.alloc (.cells #[.int .i64 p.id, .int .i64 p.en, .int .i64 p.pe, .int .i64 p.ln.e, .int .i64 p.ln.a, .int .i64 p.ln.q, .int .i64 p.ln.m] 35)
            replace hb := hb.alloc hb.size (.cells #[.int .i64 p.id, .int .i64 p.en, .int .i64 p.pe, .int .i64 p.ln.e, .int .i64 p.ln.a, .int .i64 p.ln.q, .int .i64 p.ln.m] 35)
            replace Y1 := Y1.alloc (.cells #[.int .i64 p.id, .int .i64 p.en, .int .i64 p.pe, .int .i64 p.ln.e, .int .i64 p.ln.a, .int .i64 p.ln.q, .int .i64 p.ln.m] 35)
            go_wp2_with fail
            refine (JI.out _ hr).mono ?_
            rintro e w6 ⟨rfl, b9⟩
            replace hr := hr.below b9 (Nat.le_refl _)
            replace hb := hb.trans (b9.mono hb.size)
            replace Y1 := Y1.later b9
            replace Y2 := Y2.later b9
            clear b9
            go_wp2_with fail
            refine (RI.out _ hr).mono ?_
            rintro e w7 ⟨rfl, b9⟩
            replace hr := hr.below b9 (Nat.le_refl _)
            replace hb := hb.trans (b9.mono hb.size)
            replace Y1 := Y1.later b9
            replace Y2 := Y2.later b9
            clear b9
            have k1 := Y1.cells
            have k2 := Y2.cells
            have m1 := Y1.lt
            have m2 := Y2.lt
            clear hr
            go_wp2_with fail
            refine (OP.out _).mono ?_
            rintro e w8 ⟨rfl, b9⟩
            replace hb := hb.trans (b9.mono hb.size)
            clear b9
            clear k1 k2 m1 m2 Y1 Y2
            go_wp2_with fail
            refine (AW.out _).mono ?_
            rintro e w99 ⟨rfl, b9⟩
            replace hb := hb.trans (b9.mono hb.size)
            clear b9
            go_wp2
            go_ret
            exact ⟨rfl, hb⟩
end
end Go.Proofs.Ythkaohjgldoipaa
