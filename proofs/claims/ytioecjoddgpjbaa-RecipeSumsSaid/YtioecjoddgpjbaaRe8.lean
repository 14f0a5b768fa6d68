/-
  recipe: the document's net sum of values; the value of a cell among those of some.
-/
import Derived.Test.YtioecjoddgpjbaaRe7
namespace Go.Proofs.Ytioecjoddgpjbaa
open Go.RowKit

section
variable {A1 A2 : Option Addr} {c1 c2 : Nat} {p m : List Vl} {w : World}
set_option maxRecDepth 100000 in
set_option maxHeartbeats 2000000 in
theorem rnet28_any (hp : p.length ≤ 1000) (hm : m.length ≤ 1000) (hbp : I64s (amts p)) (hbm : I64s (amts m)) (hr1 : VlE.Row w A1 p) (hr2 : VlE.Row w A2 m) : Calls Try.prog 30 #[.slice A1 p.length c1, .slice A2 m.length c2] w fun e w' => e = .returned (vv (netV p m)) ∧ Below w.heap.size w w' := by
  obtain ⟨i0, hi, hz0, hz1, hz2⟩ := info_parts Try.infoVal
  have hB : Below w.heap.size w ((w.alloc (.cells #[.int .i64 0, .int .i64 0] 24)).alloc (.cells #[] 24)) := ((Below.refl _ _).alloc (Nat.le_refl _) _).alloc (by simp) _
  have x4 : Box ((w.alloc (.cells #[.int .i64 0, .int .i64 0] 24)).alloc (.cells #[] 24)) w.heap.size 24 #[.int .i64 0, .int .i64 0] := (Box.new w _ _).alloc _
  have own0 : ((w.alloc (.cells #[.int .i64 0, .int .i64 0] 24)).alloc (.cells #[] 24)).ownsRow (w.heap.size + 1) 24 2 (.slice (some ⟨w.heap.size + 1, 0, none⟩) 0 0) 0 [] := own_empty (by simp) (by simp)
  have hN := fun (A1 : Option Addr) (c1 : Nat) (A2 : Option Addr) (c2 : Nat) (w : World) h1 h2 => rnet_any (A := A1) (c := c1) (A' := A2) (c' := c2) (w := w) (l := amts p) (m := amts m) (by rw [amts_len]; omega) (by rw [amts_len]; omega) hbp hbm h1 h2
  have hNV0 : Hid (faultV (p ++ m) = 0 → netV p m = toldV (toldI (sumI (amts p) - sumI (amts m))).1 (toldI (sumI (amts p) - sumI (amts m))).2) := fun h => by unfold netV; rw [if_neg (by rw [h]; decide)]
  have hNV1 : Hid (faultV (p ++ m) ≠ 0 → netV p m = ⟨0, faultV (p ++ m)⟩) := fun h => by unfold netV; rw [if_pos h]
  have TO := Lib.hid fun n e w => rtold28_any n e w
  have HR1 := Lib.hid hr1
  have HR2 := Lib.hid hr2
  replace hN := Lib.hid hN
  clear hbp hbm hr1 hr2
  go_enter Try.func30, Try.ntmps30
  go_wp2_with (at_builtin; refine wpList_append_rowN rfl _ _ 32 rfl (w.heap.size + 1) 24 i0 _ 2 16 Try.underlying32 hi hz0 hz1 hz2 rfl (by decide) _ 0 [] rfl own0 A1 p.length c1 (VlE.vs p) rfl (VlE.vs_len _) (HR1.out.below hB (Nat.le_refl _)) (VlE.vs_ones _) (by unfold maxLen; omega) (by omega) (by simp) ?_)
  intro A8 c8 w8 hown8 hgr8
  have x4 := x4.grown hgr8 (fun he => by have := (own0.lt _ he.symm).1; omega)
  have hB := hB.grown hgr8 hB.size (fun k hk => by have := (own0.lt k hk).1; omega)
  have own8 : w8.ownsRow (w.heap.size + 1) 24 2 (.slice A8 p.length c8) p.length (VlE.vs p) := by first | exact hown8 | simpa using hown8
  have hs8 : w.heap.size + 1 ≤ w8.heap.size := by have := x4.lt; omega
  clear hgr8 own0 hown8
  go_wp2_with (at_builtin; refine wpList_append_rowN rfl _ _ 32 rfl (w.heap.size + 1) 24 i0 _ 2 16 Try.underlying32 hi hz0 hz1 hz2 rfl (by decide) _ p.length (VlE.vs p) rfl own8 A2 m.length c2 (VlE.vs m) rfl (VlE.vs_len _) (HR2.out.below hB (Nat.le_refl _)) (VlE.vs_ones _) (by unfold maxLen; omega) (by omega) hs8 ?_)
  intro A9 c9 w9 hown9 hgr9
  have x4 := x4.grown hgr9 (fun he => by have := (own8.lt _ he.symm).1; omega)
  have hB := hB.grown hgr9 hB.size (fun k hk => by have := (own8.lt k hk).1; omega)
  rw [← VlE.vs_append] at hown9
  have FA := vfault_any (c := c9) (l := p ++ m) (by rw [List.length_append]; omega) (Enc.Row.of_own hown9)
  rw [List.length_append] at FA
  replace FA := Lib.hid FA
  clear hgr9 own8 hown9 hs8
  generalize faultV (p ++ m) = q at *
  generalize (toldI (sumI (amts p) - sumI (amts m))).1 = t1 at *
  generalize (toldI (sumI (amts p) - sumI (amts m))).2 = t2 at *
  go_wp2_with fail
  refine FA.out.mono ?_
  rintro e _ ⟨rfl, rfl⟩
  clear FA
  by_cases hq : q = 0
  · subst hq
    have hNV := Lib.hid (hNV0.out rfl)
    clear hNV0 hNV1
    have AM1 := Lib.hid (vamounts_any (c := c1) (by omega) (HR1.out.below hB (Nat.le_refl _)))
    have AM2 := Lib.hid fun w' (h : VlE.Row w' A2 m) => vamounts_any (c := c2) (w := w') (by omega) h
    go_wp2_with fail
    refine AM1.out.mono ?_
    rintro e w3 ⟨A3, c3, rfl, _, _, own3, b3⟩
    replace x4 := x4.later b3
    replace hB := hB.trans (b3.mono hB.size)
    have r3 := RowAt.of_own own3
    clear b3 AM1 own3
    go_wp2_with fail
    refine (AM2.out _ (HR2.out.below hB (Nat.le_refl _))).mono ?_
    rintro e w4 ⟨A4, c4, rfl, _, _, own4, b4⟩
    replace x4 := x4.later b4
    replace hB := hB.trans (b4.mono hB.size)
    replace r3 := r3.below b4 (Nat.le_refl _)
    have r4 := RowAt.of_own own4
    clear b4 AM2 own4
    have HN := hN.out A3 c3 A4 c4 w4 r3 r4
    rw [amts_len, amts_len] at HN
    rewrite [amts_len, amts_len]
    replace HN := Lib.hid HN
    clear hN r3 r4
    go_wp2_with fail
    refine HN.out.mono ?_
    rintro e w5 ⟨rfl, b5⟩
    replace x4 := x4.later b5
    replace hB := hB.trans (b5.mono hB.size)
    clear b5 HN
    go_wp2_with fail
    refine (TO.out _ _ _).mono ?_
    rintro e w6 ⟨rfl, b6⟩
    replace x4 := x4.later b6
    replace hB := hB.trans (b6.mono hB.size)
    have k4 := x4.cells
    have f4 := x4.free
    have l4 := x4.lt
    have y4 := (x4.set 0 (.int .i64 (toldV t1 t2).n)).set 1 (.int .i64 (toldV t1 t2).e)
    have j4 := y4.cells
    clear b6 TO y4
    unfold vv
    go_wp2
    refine bodyPost_ret (by unfold results; simp only [Try.results30]; go_simp; rfl) rfl ?_
    exact ⟨by rw [hNV.out]; rfl, (hB.setCell (by simp) _).setCell (by simp) _⟩
  · have hne : (q != 0) = true := by simpa using hq
    have hNV := Lib.hid (hNV1.out hq)
    clear hNV0 hNV1 hN TO
    have k4 := x4.cells
    have f4 := x4.free
    have l4 := x4.lt
    have y4 := (x4.set 0 (.int .i64 0)).set 1 (.int .i64 q)
    have j4 := y4.cells
    clear y4
    go_wp2
    refine bodyPost_ret (by unfold results; simp only [Try.results30]; go_simp; rfl) rfl ?_
    exact ⟨by rw [hNV.out]; rfl, (hB.setCell (by simp) _).setCell (by simp) _⟩
end
section
variable {A1 A2 : Option Addr} {c1 c2 : Nat} {l : List Cel} {i : List Vl} {w : World}
set_option maxRecDepth 100000 in
set_option maxHeartbeats 2000000 in
theorem rof29_any (y : Cel) (hl : l.length ≤ 1000) (hli : l.length = i.length) (hr1 : CelE.Row w A1 l) (hr2 : VlE.Row w A2 i) : Calls Try.prog 28 #[.slice A1 l.length c1, .slice A2 i.length c2, cv y] w fun e w' => e = .returned (vv (ofV l i y)) ∧ Below w.heap.size w w' := by
  obtain ⟨y1, y2, y3, y4, y5, y6⟩ := y
  unfold cv
  dsimp only
  obtain ⟨yy, hyy⟩ : ∃ yy : Cel, yy = ⟨y1, y2, y3, y4, y5, y6⟩ := ⟨_, rfl⟩
  rw [← hyy]
  replace hyy := Lib.hid hyy
  rw [← hli]
  have HR1 := Lib.hid hr1
  have HR2 := Lib.hid hr2
  have HLI := Lib.hid hli
  have hB0 : Below w.heap.size w ((w.alloc (.cells #[.int .i64 y1, .int .i64 y2, .int .i64 y3, .int .i64 y4, .int .i64 y5, .int .i64 y6] 27)).alloc (.cells #[.int .i64 0, .int .i64 0] 24)) := ((Below.refl _ _).alloc (Nat.le_refl _) _).alloc (by simp) _
  have bx0 : Box ((w.alloc (.cells #[.int .i64 y1, .int .i64 y2, .int .i64 y3, .int .i64 y4, .int .i64 y5, .int .i64 y6] 27)).alloc (.cells #[.int .i64 0, .int .i64 0] 24)) w.heap.size 27 #[.int .i64 y1, .int .i64 y2, .int .i64 y3, .int .i64 y4, .int .i64 y5, .int .i64 y6] := (Box.new w _ _).alloc _
  have bv0 : Box ((w.alloc (.cells #[.int .i64 y1, .int .i64 y2, .int .i64 y3, .int .i64 y4, .int .i64 y5, .int .i64 y6] 27)).alloc (.cells #[.int .i64 0, .int .i64 0] 24)) (w.heap.size + 1) 24 #[.int .i64 0, .int .i64 0] := Box.new' (by simp)
  have H0 : Hid (∀ j (hj : j < l.length), j < 0 → l[j] ≠ yy) := fun j hj h => by omega
  clear hr1 hr2 hli
  go_enter Try.func28, Try.ntmps28
  go_wp2
  go_loopw [7] (fun t wr => ∃ k : Nat, k ≤ l.length ∧ t = .int .i64 k ∧ Hid (∀ j (hj : j < l.length), j < k → l[j] ≠ yy) ∧ Box wr w.heap.size 27 #[.int .i64 y1, .int .i64 y2, .int .i64 y3, .int .i64 y4, .int .i64 y5, .int .i64 y6] ∧ Box wr (w.heap.size + 1) 24 #[.int .i64 0, .int .i64 0] ∧ Below w.heap.size w wr) (fun t _ => l.length - (intOf t).toNat)
  case atStart => exact ⟨0, by omega, rfl, H0, bx0, bv0, hB0⟩
  case round =>
    clear H0 bx0 bv0 hB0
    obtain ⟨k, hk, rfl, hI, bx, bv, hb⟩ := hrel
    by_cases hkn : k < l.length
    · have hki : k < i.length := by have := HLI.out; omega
      obtain ⟨b0, off, rfl, hg, hc⟩ := (HR1.out.below hb (Nat.le_refl _)).get (by omega)
      obtain ⟨b2, off2, rfl, hg2, hc2⟩ := (HR2.out.below hb (Nat.le_refl _)).get (by omega)
      have d0 := hc k hkn 0 _ rfl
      have d1 := hc k hkn 1 _ rfl
      have d2 := hc k hkn 2 _ rfl
      have d3 := hc k hkn 3 _ rfl
      have d4 := hc k hkn 4 _ rfl
      have d5 := hc k hkn 5 _ rfl
      have e0 := hc2 k hki 0 _ rfl
      have e1 := hc2 k hki 1 _ rfl
      have HH : Hid (l[k] = yy → ofV l i yy = i[k]) := fun he => ofV_get hkn hki he fun j hj => hI.out j (by omega) hj
      have HT : Hid (l[k] ≠ yy → ∀ j (hj : j < l.length), j < k + 1 → l[j] ≠ yy) := fun he j hj h => by
        rcases Nat.lt_or_ge j k with h1 | h1
        · exact hI.out j hj h1
        · have : j = k := by omega
          subst this
          exact he
      clear hc hc2 hI
      generalize l[k] = x at *
      generalize i[k] = v at *
      obtain ⟨x1, x2, x3, x4, x5, x6⟩ := x
      obtain ⟨vn, ve⟩ := v
      dsimp only at d0 d1 d2 d3 d4 d5 e0 e1
      rw [show CelE.n = 6 from rfl, Nat.add_zero] at d0
      rw [show CelE.n = 6 from rfl, ← Nat.add_assoc] at d1 d2 d3 d4 d5
      rw [show VlE.n = 2 from rfl, Nat.add_zero] at e0
      rw [show VlE.n = 2 from rfl, ← Nat.add_assoc] at e1
      have CE := fun w => ceq x1 x2 x3 x4 x5 x6 y1 y2 y3 y4 y5 y6 w
      have k5 := bx.cells
      have l5 := bx.lt
      have kv := bv.cells
      have fv := bv.free
      have lv := bv.lt
      by_cases he : (⟨x1, x2, x3, x4, x5, x6⟩ : Cel) = ⟨y1, y2, y3, y4, y5, y6⟩
      · rw [decide_eq_true he] at CE
        have HE := Lib.hid (HH.out (he.trans hyy.out.symm))
        have z1 := (bv.set 0 (.int .i64 vn)).set 1 (.int .i64 ve)
        have kz := z1.cells
        clear HH HT he
        go_upto_region 4 with fail
        refine wp_region_noPanic ?_
        refine wp_region_held_drew (S := (fun w' => w'.cell? ⟨b0, off + k * 6, none⟩ = some (.int .i64 x1) ∧ w'.cell? ⟨b0, off + k * 6 + 1, none⟩ = some (.int .i64 x2) ∧ w'.cell? ⟨b0, off + k * 6 + 2, none⟩ = some (.int .i64 x3) ∧ w'.cell? ⟨b0, off + k * 6 + 3, none⟩ = some (.int .i64 x4) ∧ w'.cell? ⟨b0, off + k * 6 + 4, none⟩ = some (.int .i64 x5) ∧ w'.cell? ⟨b0, off + k * 6 + 5, none⟩ = some (.int .i64 x6) ∧ w'.cell? ⟨w.heap.size, 0, none⟩ = some (.int .i64 y1) ∧ w'.cell? ⟨w.heap.size, 1, none⟩ = some (.int .i64 y2) ∧ w'.cell? ⟨w.heap.size, 2, none⟩ = some (.int .i64 y3) ∧ w'.cell? ⟨w.heap.size, 3, none⟩ = some (.int .i64 y4) ∧ w'.cell? ⟨w.heap.size, 4, none⟩ = some (.int .i64 y5) ∧ w'.cell? ⟨w.heap.size, 5, none⟩ = some (.int .i64 y6))) (by kernel_rfl) ?_ (fun hHeld => ?_)
        · go_keep
        refine wpAnyH_take (i := 0) (v := ?ve0) rfl (by kernel_rfl) (by kernel_rfl) (by kernel_rfl) (fun _ _ _ h => h) (Or.inl ⟨by kernel_rfl, ?hye0⟩) (by assumption) ?reste0
        case hye0 => (intro w hSw; (try dsimp only at hSw); go_simp; (try with_reducible rfl))
        go_simp
        refine wpAnyH_take (i := 1) (v := ?ve1) rfl (by kernel_rfl) (by kernel_rfl) (by kernel_rfl) (fun _ _ _ h => h) (Or.inl ⟨by kernel_rfl, ?hye1⟩) (by assumption) ?reste1
        case hye1 => (intro w hSw; (try dsimp only at hSw); go_simp; (try with_reducible rfl))
        go_simp
        refine wpAnyH_take (i := 2) (v := ?ve2) rfl (by kernel_rfl) (by kernel_rfl) (by kernel_rfl) (fun _ _ _ h => h) (Or.inl ⟨by kernel_rfl, ?hye2⟩) (by assumption) ?reste2
        case hye2 => (intro w hSw; (try dsimp only at hSw); go_simp; (try with_reducible rfl))
        go_simp
        refine wpAnyH_take (i := 3) (v := ?ve3) rfl (by kernel_rfl) (by kernel_rfl) (by kernel_rfl) (fun _ _ _ h => h) (Or.inl ⟨by kernel_rfl, ?hye3⟩) (by assumption) ?reste3
        case hye3 => (intro w hSw; (try dsimp only at hSw); go_simp; (try with_reducible rfl))
        go_simp
        refine wpAnyH_take (i := 4) (v := ?ve4) rfl (by kernel_rfl) (by kernel_rfl) (by kernel_rfl) (fun _ _ _ h => h) (Or.inl ⟨by kernel_rfl, ?hye4⟩) (by assumption) ?reste4
        case hye4 => (intro w hSw; (try dsimp only at hSw); go_simp; (try with_reducible rfl))
        go_simp
        refine wpAnyH_take (i := 5) (v := ?ve5) rfl (by kernel_rfl) (by kernel_rfl) (by kernel_rfl) (fun _ _ _ h => h) (Or.inl ⟨by kernel_rfl, ?hye5⟩) (by assumption) ?reste5
        case hye5 => (intro w hSw; (try dsimp only at hSw); go_simp; (try with_reducible rfl))
        go_simp
        refine wpAnyH_done (by kernel_rfl) ?_ _
        refine NoPanic.normal ?_
        go_wp2
        refine bodyPost_ret (by unfold results; simp only [Try.results28]; go_simp; rfl) rfl ?_
        exact ⟨by rw [HE.out]; rfl, (((below_drewN hb 1).setCell (by simp) _).setCell (by simp) _)⟩
      · rw [decide_eq_false he] at CE
        have HE := Lib.hid (HT.out (fun e => he (e.trans hyy.out)))
        clear HH HT he
        go_upto_region 4 with fail
        refine wp_region_noPanic ?_
        refine wp_region_held_drew (S := (fun w' => w'.cell? ⟨b0, off + k * 6, none⟩ = some (.int .i64 x1) ∧ w'.cell? ⟨b0, off + k * 6 + 1, none⟩ = some (.int .i64 x2) ∧ w'.cell? ⟨b0, off + k * 6 + 2, none⟩ = some (.int .i64 x3) ∧ w'.cell? ⟨b0, off + k * 6 + 3, none⟩ = some (.int .i64 x4) ∧ w'.cell? ⟨b0, off + k * 6 + 4, none⟩ = some (.int .i64 x5) ∧ w'.cell? ⟨b0, off + k * 6 + 5, none⟩ = some (.int .i64 x6) ∧ w'.cell? ⟨w.heap.size, 0, none⟩ = some (.int .i64 y1) ∧ w'.cell? ⟨w.heap.size, 1, none⟩ = some (.int .i64 y2) ∧ w'.cell? ⟨w.heap.size, 2, none⟩ = some (.int .i64 y3) ∧ w'.cell? ⟨w.heap.size, 3, none⟩ = some (.int .i64 y4) ∧ w'.cell? ⟨w.heap.size, 4, none⟩ = some (.int .i64 y5) ∧ w'.cell? ⟨w.heap.size, 5, none⟩ = some (.int .i64 y6))) (by kernel_rfl) ?_ (fun hHeld => ?_)
        · go_keep
        refine wpAnyH_take (i := 0) (v := ?vn0) rfl (by kernel_rfl) (by kernel_rfl) (by kernel_rfl) (fun _ _ _ h => h) (Or.inl ⟨by kernel_rfl, ?hyn0⟩) (by assumption) ?restn0
        case hyn0 => (intro w hSw; (try dsimp only at hSw); go_simp; (try with_reducible rfl))
        go_simp
        refine wpAnyH_take (i := 1) (v := ?vn1) rfl (by kernel_rfl) (by kernel_rfl) (by kernel_rfl) (fun _ _ _ h => h) (Or.inl ⟨by kernel_rfl, ?hyn1⟩) (by assumption) ?restn1
        case hyn1 => (intro w hSw; (try dsimp only at hSw); go_simp; (try with_reducible rfl))
        go_simp
        refine wpAnyH_take (i := 2) (v := ?vn2) rfl (by kernel_rfl) (by kernel_rfl) (by kernel_rfl) (fun _ _ _ h => h) (Or.inl ⟨by kernel_rfl, ?hyn2⟩) (by assumption) ?restn2
        case hyn2 => (intro w hSw; (try dsimp only at hSw); go_simp; (try with_reducible rfl))
        go_simp
        refine wpAnyH_take (i := 3) (v := ?vn3) rfl (by kernel_rfl) (by kernel_rfl) (by kernel_rfl) (fun _ _ _ h => h) (Or.inl ⟨by kernel_rfl, ?hyn3⟩) (by assumption) ?restn3
        case hyn3 => (intro w hSw; (try dsimp only at hSw); go_simp; (try with_reducible rfl))
        go_simp
        refine wpAnyH_take (i := 4) (v := ?vn4) rfl (by kernel_rfl) (by kernel_rfl) (by kernel_rfl) (fun _ _ _ h => h) (Or.inl ⟨by kernel_rfl, ?hyn4⟩) (by assumption) ?restn4
        case hyn4 => (intro w hSw; (try dsimp only at hSw); go_simp; (try with_reducible rfl))
        go_simp
        refine wpAnyH_take (i := 5) (v := ?vn5) rfl (by kernel_rfl) (by kernel_rfl) (by kernel_rfl) (fun _ _ _ h => h) (Or.inl ⟨by kernel_rfl, ?hyn5⟩) (by assumption) ?restn5
        case hyn5 => (intro w hSw; (try dsimp only at hSw); go_simp; (try with_reducible rfl))
        go_simp
        refine wpAnyH_done (by kernel_rfl) ?_ _
        refine NoPanic.normal ?_
        go_wp2
        go_roundw
        case rel => exact ⟨k + 1, by omega, by go_num, HE, bx.drewN 1, bv.drewN 1, below_drewN hb 1⟩
        case measure => simp [intOf]; omega
    · obtain rfl : k = l.length := by omega
      have HE : Hid (ofV l i yy = ⟨0, 0⟩) := ofV_none fun hm => by
        obtain ⟨j, hj, he⟩ := List.getElem_of_mem hm
        exact hI.out j hj hj he
      have kv := bv.cells
      have fv := bv.free
      have lv := bv.lt
      have z1 := (bv.set 0 (.int .i64 0)).set 1 (.int .i64 0)
      have kz := z1.cells
      clear hI
      go_wp2
      refine bodyPost_ret (by unfold results; simp only [Try.results28]; go_simp; rfl) rfl ?_
      exact ⟨by rw [HE.out]; rfl, ((hb.setCell (by simp) _).setCell (by simp) _)⟩
end
end Go.Proofs.Ytioecjoddgpjbaa
