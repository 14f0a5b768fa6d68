/-
  RecipeParts: a recipe reads each cell once, and no cell that it does not name; with too few values, or too many, it comes to none.
-/
import Derived.Test.YtioecjoddgpjbaaJe
import Derived.Test.YtioecjoddgpjbaaK2
namespace Go.Proofs.Ytioecjoddgpjbaa
open Go.RowKit

section
variable {A1 A2 A3 : Option Addr} {c1 c2 c3 : Nat} {r : Rcp} {i : List Vl} {w : World}
set_option maxRecDepth 100000 in
set_option maxHeartbeats 4000000 in
theorem recipeParts_eq (hq : (readsR r).length = i.length) (oa : Rok r) (oi : ∀ v ∈ i, OkV v) (hi : i.length ≤ maxLen) (ha1 : CelE.Row w A1 r.plus) (ha2 : CelE.Row w A2 r.minus) (hri : VlE.Row w A3 i) :
    Calls Try.prog 4 #[.agg #[.int .i64 r.base.n, .int .i64 r.base.e, .slice A1 r.plus.length c1, .slice A2 r.minus.length c2, .int .i64 r.sc.r, .int .i64 r.sc.e, .int .i64 r.sc.a, .int .i64 r.sc.p, .int .i64 r.sc.c, .int .i64 r.sc.q, .bool r.rt, .int .i64 r.num, .int .i64 r.den, .bool r.has], .slice A3 i.length c3] w fun e w' => e = .returned (.bool true) ∧ Below w.heap.size w w' := by
  unfold maxLen at hi
  have AWA := Lib.hid fun w => reawake_any w
  have FA := fun w => few29_any (A1 := A1) (A2 := A2) (c1 := c1) (c2 := c2) (r := r) w
  have hB : Below w.heap.size w (w.alloc (.cells #[.int .i64 r.base.n, .int .i64 r.base.e, .slice A1 r.plus.length c1, .slice A2 r.minus.length c2, .int .i64 r.sc.r, .int .i64 r.sc.e, .int .i64 r.sc.a, .int .i64 r.sc.p, .int .i64 r.sc.c, .int .i64 r.sc.q, .bool r.rt, .int .i64 r.num, .int .i64 r.den, .bool r.has] 31)) := (Below.refl _ _).alloc (Nat.le_refl _) _
  have xb := Box.new w 31 #[.int .i64 r.base.n, .int .i64 r.base.e, .slice A1 r.plus.length c1, .slice A2 r.minus.length c2, .int .i64 r.sc.r, .int .i64 r.sc.e, .int .i64 r.sc.a, .int .i64 r.sc.p, .int .i64 r.sc.c, .int .i64 r.sc.q, .bool r.rt, .int .i64 r.num, .int .i64 r.den, .bool r.has]
  have kb := xb.cells
  have lb := xb.lt
  by_cases fa : r.plus.length ≤ 60 ∧ r.minus.length ≤ 60
  case neg =>
    rw [show (decide (r.plus.length ≤ 60) && decide (r.minus.length ≤ 60)) = false by rw [← Bool.decide_and]; exact decide_eq_false fa] at FA
    replace FA := Lib.hid FA
    clear hq fa ha1 ha2 hri
    go_enter Try.func4, Try.ntmps4
    go_wp2_with fail
    refine (FA.out _).mono ?_
    rintro e w1 ⟨rfl, b1⟩
    replace hB := hB.trans (b1.mono hB.size)
    replace xb := xb.later b1
    have kb := xb.cells
    have lb := xb.lt
    clear b1
    go_wp2_with fail
    refine (AWA.out _).mono ?_
    rintro e w9 ⟨rfl, b9⟩
    replace hB := hB.trans (b9.mono hB.size)
    go_wp2
    go_ret
    exact ⟨rfl, hB⟩
  rw [show (decide (r.plus.length ≤ 60) && decide (r.minus.length ≤ 60)) = true by rw [← Bool.decide_and]; exact decide_eq_true fa] at FA
  replace FA := Lib.hid FA
  by_cases h200 : 200 < i.length
  · clear hq fa ha1 ha2 hri
    have h200i : (200 : Int) < (i.length : Int) := by omega
    go_enter Try.func4, Try.ntmps4
    go_wp2_with fail
    refine (FA.out _).mono ?_
    rintro e w1 ⟨rfl, b1⟩
    replace hB := hB.trans (b1.mono hB.size)
    replace xb := xb.later b1
    have kb := xb.cells
    have lb := xb.lt
    clear b1
    go_wp2_with fail
    refine (AWA.out _).mono ?_
    rintro e w9 ⟨rfl, b9⟩
    replace hB := hB.trans (b9.mono hB.size)
    go_wp2
    go_ret
    exact ⟨rfl, hB⟩
  have wfr := oa.wf fa.1 fa.2
  have h200i : ¬ (200 : Int) < (i.length : Int) := by omega
  have HR := Lib.hid (And.intro ha1 (And.intro ha2 hri))
  obtain ⟨L, hL⟩ : ∃ L, L = readsR r := ⟨_, rfl⟩
  have hLn := readsR_len wfr
  rw [← hL] at hq
  have hli := Lib.hid hq
  clear hq
  have hnd := readsR_nodup r
  have hmm : ∀ x, x ∈ readsR r ↔ x ∈ r.plus ∨ x ∈ r.minus ∨ (r.rt = true ∧ x = r.sc) := fun x => by
    unfold readsR allC
    rw [mem_unq, List.mem_append, List.mem_append, or_assoc]
    by_cases h : r.rt = true
    · rw [if_pos h]; simp [h]
    · rw [if_neg h]; simp [h]
  have hev2 : Hid (L.length ≠ i.length → evalR r i = ⟨0, 2⟩) := fun h => by unfold evalR; rw [if_pos (by rw [← hL]; exact h)]
  rw [← hL] at hLn hnd hmm
  have hplus : Hid (∀ x ∈ r.plus, x ∈ L) := fun x h => (hmm x).2 (.inl h)
  have hminus : Hid (∀ x ∈ r.minus, x ∈ L) := fun x h => (hmm x).2 (.inr (.inl h))
  have hsc : Hid (r.rt = true → r.sc ∈ L) := fun h => (hmm r.sc).2 (.inr (.inr ⟨h, rfl⟩))
  replace hmm := Lib.hid hmm
  replace hnd := Lib.hid hnd
  have hlp := fa.1
  have hlm := fa.2
  clear ha1 ha2 hri fa
  go_enter Try.func4, Try.ntmps4
  go_wp2_with fail
  refine (FA.out _).mono ?_
  rintro e w1 ⟨rfl, b1⟩
  replace hB := hB.trans (b1.mono hB.size)
  replace xb := xb.later b1
  have kb := xb.cells
  have lb := xb.lt
  clear b1
  have OF := Lib.hid fun w => of29_any (A1 := A1) (A2 := A2) (c1 := c1) (c2 := c2) (r := r) w
  go_wp2_with fail
  refine (OF.out _).mono ?_
  rintro e w2 ⟨rfl, b2⟩
  replace hB := hB.trans (b2.mono hB.size)
  replace xb := xb.later b2
  clear b2 OF kb lb
  have RD := reads_any (c1 := c1) (c2 := c2) wfr (HR.out.1.below hB (Nat.le_refl _)) (HR.out.2.1.below hB (Nat.le_refl _))
  rw [← hL] at RD
  replace RD := Lib.hid RD
  go_wp2_with fail
  refine RD.out.mono ?_
  rintro e W3 ⟨A5, c5, rfl, hc51, hc52, own5, b3⟩
  replace hB := hB.trans (b3.mono hB.size)
  replace xb := xb.later b3
  have HB := hB
  have R5 := Enc.Row.of_own (E := CelE) own5
  have rplus := HR.out.1.below hB (Nat.le_refl _)
  have rminus := HR.out.2.1.below hB (Nat.le_refl _)
  have ri := HR.out.2.2.below hB (Nat.le_refl _)
  have cb := Below.refl W3.heap.size W3
  clear b3 RD own5 hB FA HR
  replace hL := Lib.hid hL
  go_wp2
  go_loopw [6] (fun t wr => ∃ k : Nat, k ≤ L.length ∧ t = .int .i64 k ∧ Below W3.heap.size W3 wr) (fun t _ => L.length - (intOf t).toNat)
  case atStart => exact ⟨0, by omega, rfl, cb⟩
  case round =>
    clear cb
    obtain ⟨k, hk, rfl, cb⟩ := hrel
    have kb := (xb.later cb).cells
    have lb := (xb.later cb).lt
    by_cases hkn : k < L.length
    · obtain ⟨b0, off, rfl, hgb, hc⟩ := R5.get (by omega)
      have g0 := hc k hkn 0 _ rfl
      have g1 := hc k hkn 1 _ rfl
      have g2 := hc k hkn 2 _ rfl
      have g3 := hc k hkn 3 _ rfl
      have g4 := hc k hkn 4 _ rfl
      have g5 := hc k hkn 5 _ rfl
      have hxn := nodup_take hnd.out hkn
      have hxm := (hmm.out L[k]).1 (List.getElem_mem hkn)
      have H0 := fun W (cb : Below W3.heap.size W3 W) => chas_any (c := c5) (l := L.take k) L[k] (by rw [List.length_take]; omega) ((R5.take k).later cb)
      rw [decide_eq_false hxn, show (L.take k).length = k by rw [List.length_take]; omega] at H0
      have H1 := fun W (cb : Below W3.heap.size W3 W) => chas_any (c := c1) L[k] (by omega) (rplus.later cb)
      have H2 := fun W (cb : Below W3.heap.size W3 W) => chas_any (c := c2) L[k] (by omega) (rminus.later cb)
      have hkc : k ≤ c5 := by omega
      clear hc hxn
      generalize L[k] = x at *
      obtain ⟨x1, x2, x3, x4, x5, x6⟩ := x
      dsimp only at g0 g1 g2 g3 g4 g5
      rw [show CelE.n = 6 from rfl, Nat.add_zero] at g0
      rw [show CelE.n = 6 from rfl, ← Nat.add_assoc] at g1 g2 g3 g4 g5
      have d0 := (cb.cell (p := ⟨b0, off + k * 6, none⟩) hgb).trans g0
      have d1 := (cb.cell (p := ⟨b0, off + k * 6 + 1, none⟩) hgb).trans g1
      have d2 := (cb.cell (p := ⟨b0, off + k * 6 + 2, none⟩) hgb).trans g2
      have d3 := (cb.cell (p := ⟨b0, off + k * 6 + 3, none⟩) hgb).trans g3
      have d4 := (cb.cell (p := ⟨b0, off + k * 6 + 4, none⟩) hgb).trans g4
      have d5 := (cb.cell (p := ⟨b0, off + k * 6 + 5, none⟩) hgb).trans g5
      replace H0 := Lib.hid H0
      have cb : Below W3.heap.size W3 wr.drew := below_drewN cb 1
      unfold cv at H0 H1 H2
      dsimp only at H0 H1 H2
      by_cases hp : (⟨x1, x2, x3, x4, x5, x6⟩ : Cel) ∈ r.plus
      · rw [decide_eq_true hp] at H1
        replace H1 := Lib.hid H1
        clear H2 hp hxm
        go_upto_region 7 with fail
        refine wp_region_noPanic ?_
        refine wp_region_held_drew (S := (fun w' => w'.cell? ⟨b0, off + k * 6, none⟩ = some (.int .i64 x1) ∧ w'.cell? ⟨b0, off + k * 6 + 1, none⟩ = some (.int .i64 x2) ∧ w'.cell? ⟨b0, off + k * 6 + 2, none⟩ = some (.int .i64 x3) ∧ w'.cell? ⟨b0, off + k * 6 + 3, none⟩ = some (.int .i64 x4) ∧ w'.cell? ⟨b0, off + k * 6 + 4, none⟩ = some (.int .i64 x5) ∧ w'.cell? ⟨b0, off + k * 6 + 5, none⟩ = some (.int .i64 x6) ∧ w'.cell? ⟨w.heap.size, 2, none⟩ = some (.slice A1 r.plus.length c1) ∧ w'.cell? ⟨w.heap.size, 3, none⟩ = some (.slice A2 r.minus.length c2) ∧ w'.cell? ⟨w.heap.size, 4, none⟩ = some (.int .i64 r.sc.r) ∧ w'.cell? ⟨w.heap.size, 5, none⟩ = some (.int .i64 r.sc.e) ∧ w'.cell? ⟨w.heap.size, 6, none⟩ = some (.int .i64 r.sc.a) ∧ w'.cell? ⟨w.heap.size, 7, none⟩ = some (.int .i64 r.sc.p) ∧ w'.cell? ⟨w.heap.size, 8, none⟩ = some (.int .i64 r.sc.c) ∧ w'.cell? ⟨w.heap.size, 9, none⟩ = some (.int .i64 r.sc.q) ∧ w'.cell? ⟨w.heap.size, 10, none⟩ = some (.bool r.rt))) (by kernel_rfl) ?_ (fun hHeld => ?_)
        · first | assumption | go_keep
        refine wpAnyH_take (i := 0) (v := ?va0) rfl (by kernel_rfl) (by kernel_rfl) (by kernel_rfl) (fun _ _ _ h => h) (Or.inl ⟨by kernel_rfl, ?hya0⟩) (by assumption) ?resta0
        case hya0 => (intro w hSw; (try dsimp only at hSw); go_simp; (try with_reducible rfl))
        go_simp
        refine wpAnyH_take (i := 1) (v := ?va1) rfl (by kernel_rfl) (by kernel_rfl) (by kernel_rfl) (fun _ _ _ h => h) (Or.inl ⟨by kernel_rfl, ?hya1⟩) (by assumption) ?resta1
        case hya1 => (intro w hSw; (try dsimp only at hSw); go_simp; (try with_reducible rfl))
        go_simp
        refine wpAnyH_take (i := 2) (v := ?va2) rfl (by kernel_rfl) (by kernel_rfl) (by kernel_rfl) (fun _ _ _ h => h) (Or.inl ⟨by kernel_rfl, ?hya2⟩) (by assumption) ?resta2
        case hya2 => (intro w hSw; (try dsimp only at hSw); go_simp; (try with_reducible rfl))
        go_simp
        refine wpAnyH_take (i := 3) (v := ?va3) rfl (by kernel_rfl) (by kernel_rfl) (by kernel_rfl) (fun _ _ _ h => h) (Or.inl ⟨by kernel_rfl, ?hya3⟩) (by assumption) ?resta3
        case hya3 => (intro w hSw; (try dsimp only at hSw); go_simp; (try with_reducible rfl))
        go_simp
        refine wpAnyH_take (i := 4) (v := ?va4) rfl (by kernel_rfl) (by kernel_rfl) (by kernel_rfl) (fun _ _ _ h => h) (Or.inl ⟨by kernel_rfl, ?hya4⟩) (by assumption) ?resta4
        case hya4 => (intro w hSw; (try dsimp only at hSw); go_simp; (try with_reducible rfl))
        go_simp
        refine wpAnyH_take (i := 5) (v := ?va5) rfl (by kernel_rfl) (by kernel_rfl) (by kernel_rfl) (fun _ _ _ h => h) (Or.inl ⟨by kernel_rfl, ?hya5⟩) (by assumption) ?resta5
        case hya5 => (intro w hSw; (try dsimp only at hSw); go_simp; (try with_reducible rfl))
        go_simp
        refine wpAnyH_take (i := 6) (v := ?va6) rfl (by kernel_rfl) (by kernel_rfl) (by kernel_rfl) (fun _ _ _ h => h) (Or.inl ⟨by kernel_rfl, ?hya6⟩) (by assumption) ?resta6
        case hya6 => (intro w hSw; (try dsimp only at hSw); go_simp; (try with_reducible rfl))
        go_simp
        refine wpAnyH_ready (rs := [7]) (by kernel_rfl) (by simp) ?_
        refine AllReadyH.cons rfl (fun K hK => ?_) AllReadyH.nil
        rw [if_pos (by kernel_rfl)]
        go_simp
        refine (H0.out _ cb).mono ?_
        rintro e v1 ⟨rfl, b1⟩
        have cb := cb.trans (b1.mono cb.size)
        clear b1
        have kb := (xb.later cb).cells
        have d0 := (cb.cell (p := ⟨b0, off + k * 6, none⟩) hgb).trans g0
        have d1 := (cb.cell (p := ⟨b0, off + k * 6 + 1, none⟩) hgb).trans g1
        have d2 := (cb.cell (p := ⟨b0, off + k * 6 + 2, none⟩) hgb).trans g2
        have d3 := (cb.cell (p := ⟨b0, off + k * 6 + 3, none⟩) hgb).trans g3
        have d4 := (cb.cell (p := ⟨b0, off + k * 6 + 4, none⟩) hgb).trans g4
        have d5 := (cb.cell (p := ⟨b0, off + k * 6 + 5, none⟩) hgb).trans g5
        go_wp2_with fail
        refine hK.out _ _ (by first | assumption | go_keep) (fun hHeld => ?_)
        clear hK K
        go_simp
        refine wpAnyH_take (i := 8) (v := ?va8) rfl (by kernel_rfl) (by kernel_rfl) (by kernel_rfl) (fun _ _ _ h => h) (Or.inl ⟨by kernel_rfl, ?hya8⟩) (by assumption) ?resta8
        case hya8 => (intro w hSw; (try dsimp only at hSw); go_simp; (try with_reducible rfl))
        go_simp
        refine wpAnyH_take (i := 9) (v := ?va9) rfl (by kernel_rfl) (by kernel_rfl) (by kernel_rfl) (fun _ _ _ h => h) (Or.inl ⟨by kernel_rfl, ?hya9⟩) (by assumption) ?resta9
        case hya9 => (intro w hSw; (try dsimp only at hSw); go_simp; (try with_reducible rfl))
        go_simp
        refine wpAnyH_take (i := 10) (v := ?va10) rfl (by kernel_rfl) (by kernel_rfl) (by kernel_rfl) (fun _ _ _ h => h) (Or.inl ⟨by kernel_rfl, ?hya10⟩) (by assumption) ?resta10
        case hya10 => (intro w hSw; (try dsimp only at hSw); go_simp; (try with_reducible rfl))
        go_simp
        refine wpAnyH_take (i := 11) (v := ?va11) rfl (by kernel_rfl) (by kernel_rfl) (by kernel_rfl) (fun _ _ _ h => h) (Or.inl ⟨by kernel_rfl, ?hya11⟩) (by assumption) ?resta11
        case hya11 => (intro w hSw; (try dsimp only at hSw); go_simp; (try with_reducible rfl))
        go_simp
        refine wpAnyH_take (i := 12) (v := ?va12) rfl (by kernel_rfl) (by kernel_rfl) (by kernel_rfl) (fun _ _ _ h => h) (Or.inl ⟨by kernel_rfl, ?hya12⟩) (by assumption) ?resta12
        case hya12 => (intro w hSw; (try dsimp only at hSw); go_simp; (try with_reducible rfl))
        go_simp
        refine wpAnyH_take (i := 13) (v := ?va13) rfl (by kernel_rfl) (by kernel_rfl) (by kernel_rfl) (fun _ _ _ h => h) (Or.inl ⟨by kernel_rfl, ?hya13⟩) (by assumption) ?resta13
        case hya13 => (intro w hSw; (try dsimp only at hSw); go_simp; (try with_reducible rfl))
        go_simp
        refine wpAnyH_take (i := 14) (v := ?va14) rfl (by kernel_rfl) (by kernel_rfl) (by kernel_rfl) (fun _ _ _ h => h) (Or.inl ⟨by kernel_rfl, ?hya14⟩) (by assumption) ?resta14
        case hya14 => (intro w hSw; (try dsimp only at hSw); go_simp; (try with_reducible rfl))
        go_simp
        refine wpAnyH_ready (rs := [15]) (by kernel_rfl) (by simp) ?_
        refine AllReadyH.cons rfl (fun K hK => ?_) AllReadyH.nil
        rw [if_pos (by kernel_rfl)]
        go_simp
        refine (H1.out _ cb).mono ?_
        rintro e v2 ⟨rfl, b2⟩
        have cb := cb.trans (b2.mono cb.size)
        clear b2
        have kb := (xb.later cb).cells
        have d0 := (cb.cell (p := ⟨b0, off + k * 6, none⟩) hgb).trans g0
        have d1 := (cb.cell (p := ⟨b0, off + k * 6 + 1, none⟩) hgb).trans g1
        have d2 := (cb.cell (p := ⟨b0, off + k * 6 + 2, none⟩) hgb).trans g2
        have d3 := (cb.cell (p := ⟨b0, off + k * 6 + 3, none⟩) hgb).trans g3
        have d4 := (cb.cell (p := ⟨b0, off + k * 6 + 4, none⟩) hgb).trans g4
        have d5 := (cb.cell (p := ⟨b0, off + k * 6 + 5, none⟩) hgb).trans g5
        go_wp2_with fail
        refine hK.out _ _ (by first | assumption | go_keep) (fun hHeld => ?_)
        clear hK K
        go_simp
        refine wpAnyH_take (i := 16) (v := ?va16) rfl (by kernel_rfl) (by kernel_rfl) (by kernel_rfl) (fun _ _ _ h => h) (Or.inl ⟨by kernel_rfl, ?hya16⟩) (by assumption) ?resta16
        case hya16 => (intro w hSw; (try dsimp only at hSw); go_simp; (try with_reducible rfl))
        go_simp
        refine wpAnyH_take (i := 17) (v := ?va17) rfl (by kernel_rfl) (by kernel_rfl) (by kernel_rfl) (fun _ _ _ h => h) (Or.inl ⟨by kernel_rfl, ?hya17⟩) (by assumption) ?resta17
        case hya17 => (intro w hSw; (try dsimp only at hSw); go_simp; (try with_reducible rfl))
        go_simp
        refine wpAnyH_take (i := 18) (v := undef) rfl (by kernel_rfl) (by kernel_rfl) (by kernel_rfl) (fun _ _ _ h => h) (Or.inr ⟨by kernel_rfl, rfl⟩) (by assumption) ?_
        go_simp
        refine wpAnyH_take (i := 19) (v := undef) rfl (by kernel_rfl) (by kernel_rfl) (by kernel_rfl) (fun _ _ _ h => h) (Or.inr ⟨by kernel_rfl, rfl⟩) (by assumption) ?_
        go_simp
        refine wpAnyH_take (i := 20) (v := undef) rfl (by kernel_rfl) (by kernel_rfl) (by kernel_rfl) (fun _ _ _ h => h) (Or.inr ⟨by kernel_rfl, rfl⟩) (by assumption) ?_
        go_simp
        refine wpAnyH_take (i := 21) (v := undef) rfl (by kernel_rfl) (by kernel_rfl) (by kernel_rfl) (fun _ _ _ h => h) (Or.inr ⟨by kernel_rfl, rfl⟩) (by assumption) ?_
        go_simp
        refine wpAnyH_take (i := 22) (v := undef) rfl (by kernel_rfl) (by kernel_rfl) (by kernel_rfl) (fun _ _ _ h => h) (Or.inr ⟨by kernel_rfl, rfl⟩) (by assumption) ?_
        go_simp
        refine wpAnyH_take (i := 23) (v := undef) rfl (by kernel_rfl) (by kernel_rfl) (by kernel_rfl) (fun _ _ _ h => h) (Or.inr ⟨by kernel_rfl, rfl⟩) (by assumption) ?_
        go_simp
        refine wpAnyH_take (i := 24) (v := undef) rfl (by kernel_rfl) (by kernel_rfl) (by kernel_rfl) (fun _ _ _ h => h) (Or.inr ⟨by kernel_rfl, rfl⟩) (by assumption) ?_
        go_simp
        refine wpAnyH_take (i := 25) (v := undef) rfl (by kernel_rfl) (by kernel_rfl) (by kernel_rfl) (fun _ _ _ h => h) (Or.inr ⟨by kernel_rfl, rfl⟩) (by assumption) ?_
        go_simp
        refine wpAnyH_take (i := 26) (v := ?va26) rfl (by kernel_rfl) (by kernel_rfl) (by kernel_rfl) (fun _ _ _ h => h) (Or.inl ⟨by kernel_rfl, ?hya26⟩) (by assumption) ?resta26
        case hya26 => (intro w hSw; (try dsimp only at hSw); go_simp; (try with_reducible rfl))
        go_simp
        refine wpAnyH_take (i := 27) (v := ?va27) rfl (by kernel_rfl) (by kernel_rfl) (by kernel_rfl) (fun _ _ _ h => h) (Or.inl ⟨by kernel_rfl, ?hya27⟩) (by assumption) ?resta27
        case hya27 => (intro w hSw; (try dsimp only at hSw); go_simp; (try with_reducible rfl))
        go_simp
        refine wpAnyH_take (i := 28) (v := undef) rfl (by kernel_rfl) (by kernel_rfl) (by kernel_rfl) (fun _ _ _ h => h) (Or.inr ⟨by kernel_rfl, rfl⟩) (by assumption) ?_
        go_simp
        refine wpAnyH_take (i := 29) (v := undef) rfl (by kernel_rfl) (by kernel_rfl) (by kernel_rfl) (fun _ _ _ h => h) (Or.inr ⟨by kernel_rfl, rfl⟩) (by assumption) ?_
        go_simp
        refine wpAnyH_take (i := 30) (v := undef) rfl (by kernel_rfl) (by kernel_rfl) (by kernel_rfl) (fun _ _ _ h => h) (Or.inr ⟨by kernel_rfl, rfl⟩) (by assumption) ?_
        go_simp
        refine wpAnyH_take (i := 31) (v := undef) rfl (by kernel_rfl) (by kernel_rfl) (by kernel_rfl) (fun _ _ _ h => h) (Or.inr ⟨by kernel_rfl, rfl⟩) (by assumption) ?_
        go_simp
        refine wpAnyH_take (i := 32) (v := undef) rfl (by kernel_rfl) (by kernel_rfl) (by kernel_rfl) (fun _ _ _ h => h) (Or.inr ⟨by kernel_rfl, rfl⟩) (by assumption) ?_
        go_simp
        refine wpAnyH_take (i := 33) (v := undef) rfl (by kernel_rfl) (by kernel_rfl) (by kernel_rfl) (fun _ _ _ h => h) (Or.inr ⟨by kernel_rfl, rfl⟩) (by assumption) ?_
        go_simp
        refine wpAnyH_take (i := 34) (v := undef) rfl (by kernel_rfl) (by kernel_rfl) (by kernel_rfl) (fun _ _ _ h => h) (Or.inr ⟨by kernel_rfl, rfl⟩) (by assumption) ?_
        go_simp
        refine wpAnyH_take (i := 35) (v := undef) rfl (by kernel_rfl) (by kernel_rfl) (by kernel_rfl) (fun _ _ _ h => h) (Or.inr ⟨by kernel_rfl, rfl⟩) (by assumption) ?_
        go_simp
        refine wpAnyH_take (i := 36) (v := undef) rfl (by kernel_rfl) (by kernel_rfl) (by kernel_rfl) (fun _ _ _ h => h) (Or.inr ⟨by kernel_rfl, rfl⟩) (by assumption) ?_
        go_simp
        refine wpAnyH_take (i := 37) (v := undef) rfl (by kernel_rfl) (by kernel_rfl) (by kernel_rfl) (fun _ _ _ h => h) (Or.inr ⟨by kernel_rfl, rfl⟩) (by assumption) ?_
        go_simp
        refine wpAnyH_take (i := 38) (v := undef) rfl (by kernel_rfl) (by kernel_rfl) (by kernel_rfl) (fun _ _ _ h => h) (Or.inr ⟨by kernel_rfl, rfl⟩) (by assumption) ?_
        go_simp
        refine wpAnyH_take (i := 39) (v := undef) rfl (by kernel_rfl) (by kernel_rfl) (by kernel_rfl) (fun _ _ _ h => h) (Or.inr ⟨by kernel_rfl, rfl⟩) (by assumption) ?_
        go_simp
        refine wpAnyH_take (i := 40) (v := ?va40) rfl (by kernel_rfl) (by kernel_rfl) (by kernel_rfl) (fun _ _ _ h => h) (Or.inl ⟨by kernel_rfl, ?hya40⟩) (by assumption) ?resta40
        case hya40 => (intro w hSw; (try dsimp only at hSw); go_simp; (try with_reducible rfl))
        go_simp
        refine wpAnyH_take (i := 41) (v := ?va41) rfl (by kernel_rfl) (by kernel_rfl) (by kernel_rfl) (fun _ _ _ h => h) (Or.inl ⟨by kernel_rfl, ?hya41⟩) (by assumption) ?resta41
        case hya41 => (intro w hSw; (try dsimp only at hSw); go_simp; (try with_reducible rfl))
        go_simp
        refine wpAnyH_done (by kernel_rfl) ?_ _
        refine NoPanic.normal ?_
        clear kb d0 d1 d2 d3 d4 d5
        go_wp2
        go_roundw
        case rel => exact ⟨k + 1, by omega, by go_num, cb⟩
        case measure => simp [intOf]; omega
      · rw [decide_eq_false hp] at H1
        replace H1 := Lib.hid H1
        by_cases hm : (⟨x1, x2, x3, x4, x5, x6⟩ : Cel) ∈ r.minus
        · rw [decide_eq_true hm] at H2
          replace H2 := Lib.hid H2
          clear hp hm hxm
          go_upto_region 7 with fail
          refine wp_region_noPanic ?_
          refine wp_region_held_drew (S := (fun w' => w'.cell? ⟨b0, off + k * 6, none⟩ = some (.int .i64 x1) ∧ w'.cell? ⟨b0, off + k * 6 + 1, none⟩ = some (.int .i64 x2) ∧ w'.cell? ⟨b0, off + k * 6 + 2, none⟩ = some (.int .i64 x3) ∧ w'.cell? ⟨b0, off + k * 6 + 3, none⟩ = some (.int .i64 x4) ∧ w'.cell? ⟨b0, off + k * 6 + 4, none⟩ = some (.int .i64 x5) ∧ w'.cell? ⟨b0, off + k * 6 + 5, none⟩ = some (.int .i64 x6) ∧ w'.cell? ⟨w.heap.size, 2, none⟩ = some (.slice A1 r.plus.length c1) ∧ w'.cell? ⟨w.heap.size, 3, none⟩ = some (.slice A2 r.minus.length c2) ∧ w'.cell? ⟨w.heap.size, 4, none⟩ = some (.int .i64 r.sc.r) ∧ w'.cell? ⟨w.heap.size, 5, none⟩ = some (.int .i64 r.sc.e) ∧ w'.cell? ⟨w.heap.size, 6, none⟩ = some (.int .i64 r.sc.a) ∧ w'.cell? ⟨w.heap.size, 7, none⟩ = some (.int .i64 r.sc.p) ∧ w'.cell? ⟨w.heap.size, 8, none⟩ = some (.int .i64 r.sc.c) ∧ w'.cell? ⟨w.heap.size, 9, none⟩ = some (.int .i64 r.sc.q) ∧ w'.cell? ⟨w.heap.size, 10, none⟩ = some (.bool r.rt))) (by kernel_rfl) ?_ (fun hHeld => ?_)
          · first | assumption | go_keep
          refine wpAnyH_take (i := 0) (v := ?vb0) rfl (by kernel_rfl) (by kernel_rfl) (by kernel_rfl) (fun _ _ _ h => h) (Or.inl ⟨by kernel_rfl, ?hyb0⟩) (by assumption) ?restb0
          case hyb0 => (intro w hSw; (try dsimp only at hSw); go_simp; (try with_reducible rfl))
          go_simp
          refine wpAnyH_take (i := 1) (v := ?vb1) rfl (by kernel_rfl) (by kernel_rfl) (by kernel_rfl) (fun _ _ _ h => h) (Or.inl ⟨by kernel_rfl, ?hyb1⟩) (by assumption) ?restb1
          case hyb1 => (intro w hSw; (try dsimp only at hSw); go_simp; (try with_reducible rfl))
          go_simp
          refine wpAnyH_take (i := 2) (v := ?vb2) rfl (by kernel_rfl) (by kernel_rfl) (by kernel_rfl) (fun _ _ _ h => h) (Or.inl ⟨by kernel_rfl, ?hyb2⟩) (by assumption) ?restb2
          case hyb2 => (intro w hSw; (try dsimp only at hSw); go_simp; (try with_reducible rfl))
          go_simp
          refine wpAnyH_take (i := 3) (v := ?vb3) rfl (by kernel_rfl) (by kernel_rfl) (by kernel_rfl) (fun _ _ _ h => h) (Or.inl ⟨by kernel_rfl, ?hyb3⟩) (by assumption) ?restb3
          case hyb3 => (intro w hSw; (try dsimp only at hSw); go_simp; (try with_reducible rfl))
          go_simp
          refine wpAnyH_take (i := 4) (v := ?vb4) rfl (by kernel_rfl) (by kernel_rfl) (by kernel_rfl) (fun _ _ _ h => h) (Or.inl ⟨by kernel_rfl, ?hyb4⟩) (by assumption) ?restb4
          case hyb4 => (intro w hSw; (try dsimp only at hSw); go_simp; (try with_reducible rfl))
          go_simp
          refine wpAnyH_take (i := 5) (v := ?vb5) rfl (by kernel_rfl) (by kernel_rfl) (by kernel_rfl) (fun _ _ _ h => h) (Or.inl ⟨by kernel_rfl, ?hyb5⟩) (by assumption) ?restb5
          case hyb5 => (intro w hSw; (try dsimp only at hSw); go_simp; (try with_reducible rfl))
          go_simp
          refine wpAnyH_take (i := 6) (v := ?vb6) rfl (by kernel_rfl) (by kernel_rfl) (by kernel_rfl) (fun _ _ _ h => h) (Or.inl ⟨by kernel_rfl, ?hyb6⟩) (by assumption) ?restb6
          case hyb6 => (intro w hSw; (try dsimp only at hSw); go_simp; (try with_reducible rfl))
          go_simp
          refine wpAnyH_ready (rs := [7]) (by kernel_rfl) (by simp) ?_
          refine AllReadyH.cons rfl (fun K hK => ?_) AllReadyH.nil
          rw [if_pos (by kernel_rfl)]
          go_simp
          refine (H0.out _ cb).mono ?_
          rintro e v1 ⟨rfl, b1⟩
          have cb := cb.trans (b1.mono cb.size)
          clear b1
          have kb := (xb.later cb).cells
          have d0 := (cb.cell (p := ⟨b0, off + k * 6, none⟩) hgb).trans g0
          have d1 := (cb.cell (p := ⟨b0, off + k * 6 + 1, none⟩) hgb).trans g1
          have d2 := (cb.cell (p := ⟨b0, off + k * 6 + 2, none⟩) hgb).trans g2
          have d3 := (cb.cell (p := ⟨b0, off + k * 6 + 3, none⟩) hgb).trans g3
          have d4 := (cb.cell (p := ⟨b0, off + k * 6 + 4, none⟩) hgb).trans g4
          have d5 := (cb.cell (p := ⟨b0, off + k * 6 + 5, none⟩) hgb).trans g5
          go_wp2_with fail
          refine hK.out _ _ (by first | assumption | go_keep) (fun hHeld => ?_)
          clear hK K
          go_simp
          refine wpAnyH_take (i := 8) (v := ?vb8) rfl (by kernel_rfl) (by kernel_rfl) (by kernel_rfl) (fun _ _ _ h => h) (Or.inl ⟨by kernel_rfl, ?hyb8⟩) (by assumption) ?restb8
          case hyb8 => (intro w hSw; (try dsimp only at hSw); go_simp; (try with_reducible rfl))
          go_simp
          refine wpAnyH_take (i := 9) (v := ?vb9) rfl (by kernel_rfl) (by kernel_rfl) (by kernel_rfl) (fun _ _ _ h => h) (Or.inl ⟨by kernel_rfl, ?hyb9⟩) (by assumption) ?restb9
          case hyb9 => (intro w hSw; (try dsimp only at hSw); go_simp; (try with_reducible rfl))
          go_simp
          refine wpAnyH_take (i := 10) (v := ?vb10) rfl (by kernel_rfl) (by kernel_rfl) (by kernel_rfl) (fun _ _ _ h => h) (Or.inl ⟨by kernel_rfl, ?hyb10⟩) (by assumption) ?restb10
          case hyb10 => (intro w hSw; (try dsimp only at hSw); go_simp; (try with_reducible rfl))
          go_simp
          refine wpAnyH_take (i := 11) (v := ?vb11) rfl (by kernel_rfl) (by kernel_rfl) (by kernel_rfl) (fun _ _ _ h => h) (Or.inl ⟨by kernel_rfl, ?hyb11⟩) (by assumption) ?restb11
          case hyb11 => (intro w hSw; (try dsimp only at hSw); go_simp; (try with_reducible rfl))
          go_simp
          refine wpAnyH_take (i := 12) (v := ?vb12) rfl (by kernel_rfl) (by kernel_rfl) (by kernel_rfl) (fun _ _ _ h => h) (Or.inl ⟨by kernel_rfl, ?hyb12⟩) (by assumption) ?restb12
          case hyb12 => (intro w hSw; (try dsimp only at hSw); go_simp; (try with_reducible rfl))
          go_simp
          refine wpAnyH_take (i := 13) (v := ?vb13) rfl (by kernel_rfl) (by kernel_rfl) (by kernel_rfl) (fun _ _ _ h => h) (Or.inl ⟨by kernel_rfl, ?hyb13⟩) (by assumption) ?restb13
          case hyb13 => (intro w hSw; (try dsimp only at hSw); go_simp; (try with_reducible rfl))
          go_simp
          refine wpAnyH_take (i := 14) (v := ?vb14) rfl (by kernel_rfl) (by kernel_rfl) (by kernel_rfl) (fun _ _ _ h => h) (Or.inl ⟨by kernel_rfl, ?hyb14⟩) (by assumption) ?restb14
          case hyb14 => (intro w hSw; (try dsimp only at hSw); go_simp; (try with_reducible rfl))
          go_simp
          refine wpAnyH_ready (rs := [15]) (by kernel_rfl) (by simp) ?_
          refine AllReadyH.cons rfl (fun K hK => ?_) AllReadyH.nil
          rw [if_pos (by kernel_rfl)]
          go_simp
          refine (H1.out _ cb).mono ?_
          rintro e v2 ⟨rfl, b2⟩
          have cb := cb.trans (b2.mono cb.size)
          clear b2
          have kb := (xb.later cb).cells
          have d0 := (cb.cell (p := ⟨b0, off + k * 6, none⟩) hgb).trans g0
          have d1 := (cb.cell (p := ⟨b0, off + k * 6 + 1, none⟩) hgb).trans g1
          have d2 := (cb.cell (p := ⟨b0, off + k * 6 + 2, none⟩) hgb).trans g2
          have d3 := (cb.cell (p := ⟨b0, off + k * 6 + 3, none⟩) hgb).trans g3
          have d4 := (cb.cell (p := ⟨b0, off + k * 6 + 4, none⟩) hgb).trans g4
          have d5 := (cb.cell (p := ⟨b0, off + k * 6 + 5, none⟩) hgb).trans g5
          go_wp2_with fail
          refine hK.out _ _ (by first | assumption | go_keep) (fun hHeld => ?_)
          clear hK K
          go_simp
          refine wpAnyH_take (i := 16) (v := ?vb16) rfl (by kernel_rfl) (by kernel_rfl) (by kernel_rfl) (fun _ _ _ h => h) (Or.inl ⟨by kernel_rfl, ?hyb16⟩) (by assumption) ?restb16
          case hyb16 => (intro w hSw; (try dsimp only at hSw); go_simp; (try with_reducible rfl))
          go_simp
          refine wpAnyH_take (i := 17) (v := ?vb17) rfl (by kernel_rfl) (by kernel_rfl) (by kernel_rfl) (fun _ _ _ h => h) (Or.inl ⟨by kernel_rfl, ?hyb17⟩) (by assumption) ?restb17
          case hyb17 => (intro w hSw; (try dsimp only at hSw); go_simp; (try with_reducible rfl))
          go_simp
          refine wpAnyH_take (i := 18) (v := ?vb18) rfl (by kernel_rfl) (by kernel_rfl) (by kernel_rfl) (fun _ _ _ h => h) (Or.inl ⟨by kernel_rfl, ?hyb18⟩) (by assumption) ?restb18
          case hyb18 => (intro w hSw; (try dsimp only at hSw); go_simp; (try with_reducible rfl))
          go_simp
          refine wpAnyH_take (i := 19) (v := ?vb19) rfl (by kernel_rfl) (by kernel_rfl) (by kernel_rfl) (fun _ _ _ h => h) (Or.inl ⟨by kernel_rfl, ?hyb19⟩) (by assumption) ?restb19
          case hyb19 => (intro w hSw; (try dsimp only at hSw); go_simp; (try with_reducible rfl))
          go_simp
          refine wpAnyH_take (i := 20) (v := ?vb20) rfl (by kernel_rfl) (by kernel_rfl) (by kernel_rfl) (fun _ _ _ h => h) (Or.inl ⟨by kernel_rfl, ?hyb20⟩) (by assumption) ?restb20
          case hyb20 => (intro w hSw; (try dsimp only at hSw); go_simp; (try with_reducible rfl))
          go_simp
          refine wpAnyH_take (i := 21) (v := ?vb21) rfl (by kernel_rfl) (by kernel_rfl) (by kernel_rfl) (fun _ _ _ h => h) (Or.inl ⟨by kernel_rfl, ?hyb21⟩) (by assumption) ?restb21
          case hyb21 => (intro w hSw; (try dsimp only at hSw); go_simp; (try with_reducible rfl))
          go_simp
          refine wpAnyH_take (i := 22) (v := ?vb22) rfl (by kernel_rfl) (by kernel_rfl) (by kernel_rfl) (fun _ _ _ h => h) (Or.inl ⟨by kernel_rfl, ?hyb22⟩) (by assumption) ?restb22
          case hyb22 => (intro w hSw; (try dsimp only at hSw); go_simp; (try with_reducible rfl))
          go_simp
          refine wpAnyH_take (i := 23) (v := ?vb23) rfl (by kernel_rfl) (by kernel_rfl) (by kernel_rfl) (fun _ _ _ h => h) (Or.inl ⟨by kernel_rfl, ?hyb23⟩) (by assumption) ?restb23
          case hyb23 => (intro w hSw; (try dsimp only at hSw); go_simp; (try with_reducible rfl))
          go_simp
          refine wpAnyH_ready (rs := [24]) (by kernel_rfl) (by simp) ?_
          refine AllReadyH.cons rfl (fun K hK => ?_) AllReadyH.nil
          rw [if_pos (by kernel_rfl)]
          go_simp
          refine (H2.out _ cb).mono ?_
          rintro e v3 ⟨rfl, b3⟩
          have cb := cb.trans (b3.mono cb.size)
          clear b3
          have kb := (xb.later cb).cells
          have d0 := (cb.cell (p := ⟨b0, off + k * 6, none⟩) hgb).trans g0
          have d1 := (cb.cell (p := ⟨b0, off + k * 6 + 1, none⟩) hgb).trans g1
          have d2 := (cb.cell (p := ⟨b0, off + k * 6 + 2, none⟩) hgb).trans g2
          have d3 := (cb.cell (p := ⟨b0, off + k * 6 + 3, none⟩) hgb).trans g3
          have d4 := (cb.cell (p := ⟨b0, off + k * 6 + 4, none⟩) hgb).trans g4
          have d5 := (cb.cell (p := ⟨b0, off + k * 6 + 5, none⟩) hgb).trans g5
          go_wp2_with fail
          refine hK.out _ _ (by first | assumption | go_keep) (fun hHeld => ?_)
          clear hK K
          go_simp
          refine wpAnyH_take (i := 25) (v := ?vb25) rfl (by kernel_rfl) (by kernel_rfl) (by kernel_rfl) (fun _ _ _ h => h) (Or.inl ⟨by kernel_rfl, ?hyb25⟩) (by assumption) ?restb25
          case hyb25 => (intro w hSw; (try dsimp only at hSw); go_simp; (try with_reducible rfl))
          go_simp
          refine wpAnyH_take (i := 26) (v := ?vb26) rfl (by kernel_rfl) (by kernel_rfl) (by kernel_rfl) (fun _ _ _ h => h) (Or.inl ⟨by kernel_rfl, ?hyb26⟩) (by assumption) ?restb26
          case hyb26 => (intro w hSw; (try dsimp only at hSw); go_simp; (try with_reducible rfl))
          go_simp
          refine wpAnyH_take (i := 27) (v := ?vb27) rfl (by kernel_rfl) (by kernel_rfl) (by kernel_rfl) (fun _ _ _ h => h) (Or.inl ⟨by kernel_rfl, ?hyb27⟩) (by assumption) ?restb27
          case hyb27 => (intro w hSw; (try dsimp only at hSw); go_simp; (try with_reducible rfl))
          go_simp
          refine wpAnyH_take (i := 28) (v := undef) rfl (by kernel_rfl) (by kernel_rfl) (by kernel_rfl) (fun _ _ _ h => h) (Or.inr ⟨by kernel_rfl, rfl⟩) (by assumption) ?_
          go_simp
          refine wpAnyH_take (i := 29) (v := undef) rfl (by kernel_rfl) (by kernel_rfl) (by kernel_rfl) (fun _ _ _ h => h) (Or.inr ⟨by kernel_rfl, rfl⟩) (by assumption) ?_
          go_simp
          refine wpAnyH_take (i := 30) (v := undef) rfl (by kernel_rfl) (by kernel_rfl) (by kernel_rfl) (fun _ _ _ h => h) (Or.inr ⟨by kernel_rfl, rfl⟩) (by assumption) ?_
          go_simp
          refine wpAnyH_take (i := 31) (v := undef) rfl (by kernel_rfl) (by kernel_rfl) (by kernel_rfl) (fun _ _ _ h => h) (Or.inr ⟨by kernel_rfl, rfl⟩) (by assumption) ?_
          go_simp
          refine wpAnyH_take (i := 32) (v := undef) rfl (by kernel_rfl) (by kernel_rfl) (by kernel_rfl) (fun _ _ _ h => h) (Or.inr ⟨by kernel_rfl, rfl⟩) (by assumption) ?_
          go_simp
          refine wpAnyH_take (i := 33) (v := undef) rfl (by kernel_rfl) (by kernel_rfl) (by kernel_rfl) (fun _ _ _ h => h) (Or.inr ⟨by kernel_rfl, rfl⟩) (by assumption) ?_
          go_simp
          refine wpAnyH_take (i := 34) (v := undef) rfl (by kernel_rfl) (by kernel_rfl) (by kernel_rfl) (fun _ _ _ h => h) (Or.inr ⟨by kernel_rfl, rfl⟩) (by assumption) ?_
          go_simp
          refine wpAnyH_take (i := 35) (v := undef) rfl (by kernel_rfl) (by kernel_rfl) (by kernel_rfl) (fun _ _ _ h => h) (Or.inr ⟨by kernel_rfl, rfl⟩) (by assumption) ?_
          go_simp
          refine wpAnyH_take (i := 36) (v := undef) rfl (by kernel_rfl) (by kernel_rfl) (by kernel_rfl) (fun _ _ _ h => h) (Or.inr ⟨by kernel_rfl, rfl⟩) (by assumption) ?_
          go_simp
          refine wpAnyH_take (i := 37) (v := undef) rfl (by kernel_rfl) (by kernel_rfl) (by kernel_rfl) (fun _ _ _ h => h) (Or.inr ⟨by kernel_rfl, rfl⟩) (by assumption) ?_
          go_simp
          refine wpAnyH_take (i := 38) (v := undef) rfl (by kernel_rfl) (by kernel_rfl) (by kernel_rfl) (fun _ _ _ h => h) (Or.inr ⟨by kernel_rfl, rfl⟩) (by assumption) ?_
          go_simp
          refine wpAnyH_take (i := 39) (v := undef) rfl (by kernel_rfl) (by kernel_rfl) (by kernel_rfl) (fun _ _ _ h => h) (Or.inr ⟨by kernel_rfl, rfl⟩) (by assumption) ?_
          go_simp
          refine wpAnyH_take (i := 40) (v := ?vb40) rfl (by kernel_rfl) (by kernel_rfl) (by kernel_rfl) (fun _ _ _ h => h) (Or.inl ⟨by kernel_rfl, ?hyb40⟩) (by assumption) ?restb40
          case hyb40 => (intro w hSw; (try dsimp only at hSw); go_simp; (try with_reducible rfl))
          go_simp
          refine wpAnyH_take (i := 41) (v := ?vb41) rfl (by kernel_rfl) (by kernel_rfl) (by kernel_rfl) (fun _ _ _ h => h) (Or.inl ⟨by kernel_rfl, ?hyb41⟩) (by assumption) ?restb41
          case hyb41 => (intro w hSw; (try dsimp only at hSw); go_simp; (try with_reducible rfl))
          go_simp
          refine wpAnyH_done (by kernel_rfl) ?_ _
          refine NoPanic.normal ?_
          clear kb d0 d1 d2 d3 d4 d5
          go_wp2
          go_roundw
          case rel => exact ⟨k + 1, by omega, by go_num, cb⟩
          case measure => simp [intOf]; omega
        · rw [decide_eq_false hm] at H2
          replace H2 := Lib.hid H2
          obtain ⟨hrt, hxs⟩ := (hxm.resolve_left hp).resolve_left hm
          have CE := fun w => ceq r.sc.r r.sc.e r.sc.a r.sc.p r.sc.c r.sc.q x1 x2 x3 x4 x5 x6 w
          rw [show decide ((⟨r.sc.r, r.sc.e, r.sc.a, r.sc.p, r.sc.c, r.sc.q⟩ : Cel) = ⟨x1, x2, x3, x4, x5, x6⟩) = true from decide_eq_true hxs.symm] at CE
          rw [hrt] at xb kb
          clear hp hm hxm hxs hrt
          go_upto_region 7 with fail
          refine wp_region_noPanic ?_
          refine wp_region_held_drew (S := (fun w' => w'.cell? ⟨b0, off + k * 6, none⟩ = some (.int .i64 x1) ∧ w'.cell? ⟨b0, off + k * 6 + 1, none⟩ = some (.int .i64 x2) ∧ w'.cell? ⟨b0, off + k * 6 + 2, none⟩ = some (.int .i64 x3) ∧ w'.cell? ⟨b0, off + k * 6 + 3, none⟩ = some (.int .i64 x4) ∧ w'.cell? ⟨b0, off + k * 6 + 4, none⟩ = some (.int .i64 x5) ∧ w'.cell? ⟨b0, off + k * 6 + 5, none⟩ = some (.int .i64 x6) ∧ w'.cell? ⟨w.heap.size, 2, none⟩ = some (.slice A1 r.plus.length c1) ∧ w'.cell? ⟨w.heap.size, 3, none⟩ = some (.slice A2 r.minus.length c2) ∧ w'.cell? ⟨w.heap.size, 4, none⟩ = some (.int .i64 r.sc.r) ∧ w'.cell? ⟨w.heap.size, 5, none⟩ = some (.int .i64 r.sc.e) ∧ w'.cell? ⟨w.heap.size, 6, none⟩ = some (.int .i64 r.sc.a) ∧ w'.cell? ⟨w.heap.size, 7, none⟩ = some (.int .i64 r.sc.p) ∧ w'.cell? ⟨w.heap.size, 8, none⟩ = some (.int .i64 r.sc.c) ∧ w'.cell? ⟨w.heap.size, 9, none⟩ = some (.int .i64 r.sc.q) ∧ w'.cell? ⟨w.heap.size, 10, none⟩ = some (.bool true))) (by kernel_rfl) ?_ (fun hHeld => ?_)
          · first | assumption | go_keep
          refine wpAnyH_take (i := 0) (v := ?vc0) rfl (by kernel_rfl) (by kernel_rfl) (by kernel_rfl) (fun _ _ _ h => h) (Or.inl ⟨by kernel_rfl, ?hyc0⟩) (by assumption) ?restc0
          case hyc0 => (intro w hSw; (try dsimp only at hSw); go_simp; (try with_reducible rfl))
          go_simp
          refine wpAnyH_take (i := 1) (v := ?vc1) rfl (by kernel_rfl) (by kernel_rfl) (by kernel_rfl) (fun _ _ _ h => h) (Or.inl ⟨by kernel_rfl, ?hyc1⟩) (by assumption) ?restc1
          case hyc1 => (intro w hSw; (try dsimp only at hSw); go_simp; (try with_reducible rfl))
          go_simp
          refine wpAnyH_take (i := 2) (v := ?vc2) rfl (by kernel_rfl) (by kernel_rfl) (by kernel_rfl) (fun _ _ _ h => h) (Or.inl ⟨by kernel_rfl, ?hyc2⟩) (by assumption) ?restc2
          case hyc2 => (intro w hSw; (try dsimp only at hSw); go_simp; (try with_reducible rfl))
          go_simp
          refine wpAnyH_take (i := 3) (v := ?vc3) rfl (by kernel_rfl) (by kernel_rfl) (by kernel_rfl) (fun _ _ _ h => h) (Or.inl ⟨by kernel_rfl, ?hyc3⟩) (by assumption) ?restc3
          case hyc3 => (intro w hSw; (try dsimp only at hSw); go_simp; (try with_reducible rfl))
          go_simp
          refine wpAnyH_take (i := 4) (v := ?vc4) rfl (by kernel_rfl) (by kernel_rfl) (by kernel_rfl) (fun _ _ _ h => h) (Or.inl ⟨by kernel_rfl, ?hyc4⟩) (by assumption) ?restc4
          case hyc4 => (intro w hSw; (try dsimp only at hSw); go_simp; (try with_reducible rfl))
          go_simp
          refine wpAnyH_take (i := 5) (v := ?vc5) rfl (by kernel_rfl) (by kernel_rfl) (by kernel_rfl) (fun _ _ _ h => h) (Or.inl ⟨by kernel_rfl, ?hyc5⟩) (by assumption) ?restc5
          case hyc5 => (intro w hSw; (try dsimp only at hSw); go_simp; (try with_reducible rfl))
          go_simp
          refine wpAnyH_take (i := 6) (v := ?vc6) rfl (by kernel_rfl) (by kernel_rfl) (by kernel_rfl) (fun _ _ _ h => h) (Or.inl ⟨by kernel_rfl, ?hyc6⟩) (by assumption) ?restc6
          case hyc6 => (intro w hSw; (try dsimp only at hSw); go_simp; (try with_reducible rfl))
          go_simp
          refine wpAnyH_ready (rs := [7]) (by kernel_rfl) (by simp) ?_
          refine AllReadyH.cons rfl (fun K hK => ?_) AllReadyH.nil
          rw [if_pos (by kernel_rfl)]
          go_simp
          refine (H0.out _ cb).mono ?_
          rintro e v1 ⟨rfl, b1⟩
          have cb := cb.trans (b1.mono cb.size)
          clear b1
          have kb := (xb.later cb).cells
          have d0 := (cb.cell (p := ⟨b0, off + k * 6, none⟩) hgb).trans g0
          have d1 := (cb.cell (p := ⟨b0, off + k * 6 + 1, none⟩) hgb).trans g1
          have d2 := (cb.cell (p := ⟨b0, off + k * 6 + 2, none⟩) hgb).trans g2
          have d3 := (cb.cell (p := ⟨b0, off + k * 6 + 3, none⟩) hgb).trans g3
          have d4 := (cb.cell (p := ⟨b0, off + k * 6 + 4, none⟩) hgb).trans g4
          have d5 := (cb.cell (p := ⟨b0, off + k * 6 + 5, none⟩) hgb).trans g5
          go_wp2_with fail
          refine hK.out _ _ (by first | assumption | go_keep) (fun hHeld => ?_)
          clear hK K
          go_simp
          refine wpAnyH_take (i := 8) (v := ?vc8) rfl (by kernel_rfl) (by kernel_rfl) (by kernel_rfl) (fun _ _ _ h => h) (Or.inl ⟨by kernel_rfl, ?hyc8⟩) (by assumption) ?restc8
          case hyc8 => (intro w hSw; (try dsimp only at hSw); go_simp; (try with_reducible rfl))
          go_simp
          refine wpAnyH_take (i := 9) (v := ?vc9) rfl (by kernel_rfl) (by kernel_rfl) (by kernel_rfl) (fun _ _ _ h => h) (Or.inl ⟨by kernel_rfl, ?hyc9⟩) (by assumption) ?restc9
          case hyc9 => (intro w hSw; (try dsimp only at hSw); go_simp; (try with_reducible rfl))
          go_simp
          refine wpAnyH_take (i := 10) (v := ?vc10) rfl (by kernel_rfl) (by kernel_rfl) (by kernel_rfl) (fun _ _ _ h => h) (Or.inl ⟨by kernel_rfl, ?hyc10⟩) (by assumption) ?restc10
          case hyc10 => (intro w hSw; (try dsimp only at hSw); go_simp; (try with_reducible rfl))
          go_simp
          refine wpAnyH_take (i := 11) (v := ?vc11) rfl (by kernel_rfl) (by kernel_rfl) (by kernel_rfl) (fun _ _ _ h => h) (Or.inl ⟨by kernel_rfl, ?hyc11⟩) (by assumption) ?restc11
          case hyc11 => (intro w hSw; (try dsimp only at hSw); go_simp; (try with_reducible rfl))
          go_simp
          refine wpAnyH_take (i := 12) (v := ?vc12) rfl (by kernel_rfl) (by kernel_rfl) (by kernel_rfl) (fun _ _ _ h => h) (Or.inl ⟨by kernel_rfl, ?hyc12⟩) (by assumption) ?restc12
          case hyc12 => (intro w hSw; (try dsimp only at hSw); go_simp; (try with_reducible rfl))
          go_simp
          refine wpAnyH_take (i := 13) (v := ?vc13) rfl (by kernel_rfl) (by kernel_rfl) (by kernel_rfl) (fun _ _ _ h => h) (Or.inl ⟨by kernel_rfl, ?hyc13⟩) (by assumption) ?restc13
          case hyc13 => (intro w hSw; (try dsimp only at hSw); go_simp; (try with_reducible rfl))
          go_simp
          refine wpAnyH_take (i := 14) (v := ?vc14) rfl (by kernel_rfl) (by kernel_rfl) (by kernel_rfl) (fun _ _ _ h => h) (Or.inl ⟨by kernel_rfl, ?hyc14⟩) (by assumption) ?restc14
          case hyc14 => (intro w hSw; (try dsimp only at hSw); go_simp; (try with_reducible rfl))
          go_simp
          refine wpAnyH_ready (rs := [15]) (by kernel_rfl) (by simp) ?_
          refine AllReadyH.cons rfl (fun K hK => ?_) AllReadyH.nil
          rw [if_pos (by kernel_rfl)]
          go_simp
          refine (H1.out _ cb).mono ?_
          rintro e v2 ⟨rfl, b2⟩
          have cb := cb.trans (b2.mono cb.size)
          clear b2
          have kb := (xb.later cb).cells
          have d0 := (cb.cell (p := ⟨b0, off + k * 6, none⟩) hgb).trans g0
          have d1 := (cb.cell (p := ⟨b0, off + k * 6 + 1, none⟩) hgb).trans g1
          have d2 := (cb.cell (p := ⟨b0, off + k * 6 + 2, none⟩) hgb).trans g2
          have d3 := (cb.cell (p := ⟨b0, off + k * 6 + 3, none⟩) hgb).trans g3
          have d4 := (cb.cell (p := ⟨b0, off + k * 6 + 4, none⟩) hgb).trans g4
          have d5 := (cb.cell (p := ⟨b0, off + k * 6 + 5, none⟩) hgb).trans g5
          go_wp2_with fail
          refine hK.out _ _ (by first | assumption | go_keep) (fun hHeld => ?_)
          clear hK K
          go_simp
          refine wpAnyH_take (i := 16) (v := ?vc16) rfl (by kernel_rfl) (by kernel_rfl) (by kernel_rfl) (fun _ _ _ h => h) (Or.inl ⟨by kernel_rfl, ?hyc16⟩) (by assumption) ?restc16
          case hyc16 => (intro w hSw; (try dsimp only at hSw); go_simp; (try with_reducible rfl))
          go_simp
          refine wpAnyH_take (i := 17) (v := ?vc17) rfl (by kernel_rfl) (by kernel_rfl) (by kernel_rfl) (fun _ _ _ h => h) (Or.inl ⟨by kernel_rfl, ?hyc17⟩) (by assumption) ?restc17
          case hyc17 => (intro w hSw; (try dsimp only at hSw); go_simp; (try with_reducible rfl))
          go_simp
          refine wpAnyH_take (i := 18) (v := ?vc18) rfl (by kernel_rfl) (by kernel_rfl) (by kernel_rfl) (fun _ _ _ h => h) (Or.inl ⟨by kernel_rfl, ?hyc18⟩) (by assumption) ?restc18
          case hyc18 => (intro w hSw; (try dsimp only at hSw); go_simp; (try with_reducible rfl))
          go_simp
          refine wpAnyH_take (i := 19) (v := ?vc19) rfl (by kernel_rfl) (by kernel_rfl) (by kernel_rfl) (fun _ _ _ h => h) (Or.inl ⟨by kernel_rfl, ?hyc19⟩) (by assumption) ?restc19
          case hyc19 => (intro w hSw; (try dsimp only at hSw); go_simp; (try with_reducible rfl))
          go_simp
          refine wpAnyH_take (i := 20) (v := ?vc20) rfl (by kernel_rfl) (by kernel_rfl) (by kernel_rfl) (fun _ _ _ h => h) (Or.inl ⟨by kernel_rfl, ?hyc20⟩) (by assumption) ?restc20
          case hyc20 => (intro w hSw; (try dsimp only at hSw); go_simp; (try with_reducible rfl))
          go_simp
          refine wpAnyH_take (i := 21) (v := ?vc21) rfl (by kernel_rfl) (by kernel_rfl) (by kernel_rfl) (fun _ _ _ h => h) (Or.inl ⟨by kernel_rfl, ?hyc21⟩) (by assumption) ?restc21
          case hyc21 => (intro w hSw; (try dsimp only at hSw); go_simp; (try with_reducible rfl))
          go_simp
          refine wpAnyH_take (i := 22) (v := ?vc22) rfl (by kernel_rfl) (by kernel_rfl) (by kernel_rfl) (fun _ _ _ h => h) (Or.inl ⟨by kernel_rfl, ?hyc22⟩) (by assumption) ?restc22
          case hyc22 => (intro w hSw; (try dsimp only at hSw); go_simp; (try with_reducible rfl))
          go_simp
          refine wpAnyH_take (i := 23) (v := ?vc23) rfl (by kernel_rfl) (by kernel_rfl) (by kernel_rfl) (fun _ _ _ h => h) (Or.inl ⟨by kernel_rfl, ?hyc23⟩) (by assumption) ?restc23
          case hyc23 => (intro w hSw; (try dsimp only at hSw); go_simp; (try with_reducible rfl))
          go_simp
          refine wpAnyH_ready (rs := [24]) (by kernel_rfl) (by simp) ?_
          refine AllReadyH.cons rfl (fun K hK => ?_) AllReadyH.nil
          rw [if_pos (by kernel_rfl)]
          go_simp
          refine (H2.out _ cb).mono ?_
          rintro e v3 ⟨rfl, b3⟩
          have cb := cb.trans (b3.mono cb.size)
          clear b3
          have kb := (xb.later cb).cells
          have d0 := (cb.cell (p := ⟨b0, off + k * 6, none⟩) hgb).trans g0
          have d1 := (cb.cell (p := ⟨b0, off + k * 6 + 1, none⟩) hgb).trans g1
          have d2 := (cb.cell (p := ⟨b0, off + k * 6 + 2, none⟩) hgb).trans g2
          have d3 := (cb.cell (p := ⟨b0, off + k * 6 + 3, none⟩) hgb).trans g3
          have d4 := (cb.cell (p := ⟨b0, off + k * 6 + 4, none⟩) hgb).trans g4
          have d5 := (cb.cell (p := ⟨b0, off + k * 6 + 5, none⟩) hgb).trans g5
          go_wp2_with fail
          refine hK.out _ _ (by first | assumption | go_keep) (fun hHeld => ?_)
          clear hK K
          go_simp
          refine wpAnyH_take (i := 25) (v := ?vc25) rfl (by kernel_rfl) (by kernel_rfl) (by kernel_rfl) (fun _ _ _ h => h) (Or.inl ⟨by kernel_rfl, ?hyc25⟩) (by assumption) ?restc25
          case hyc25 => (intro w hSw; (try dsimp only at hSw); go_simp; (try with_reducible rfl))
          go_simp
          refine wpAnyH_take (i := 26) (v := ?vc26) rfl (by kernel_rfl) (by kernel_rfl) (by kernel_rfl) (fun _ _ _ h => h) (Or.inl ⟨by kernel_rfl, ?hyc26⟩) (by assumption) ?restc26
          case hyc26 => (intro w hSw; (try dsimp only at hSw); go_simp; (try with_reducible rfl))
          go_simp
          refine wpAnyH_take (i := 27) (v := ?vc27) rfl (by kernel_rfl) (by kernel_rfl) (by kernel_rfl) (fun _ _ _ h => h) (Or.inl ⟨by kernel_rfl, ?hyc27⟩) (by assumption) ?restc27
          case hyc27 => (intro w hSw; (try dsimp only at hSw); go_simp; (try with_reducible rfl))
          go_simp
          refine wpAnyH_take (i := 28) (v := ?vc28) rfl (by kernel_rfl) (by kernel_rfl) (by kernel_rfl) (fun _ _ _ h => h) (Or.inl ⟨by kernel_rfl, ?hyc28⟩) (by assumption) ?restc28
          case hyc28 => (intro w hSw; (try dsimp only at hSw); go_simp; (try with_reducible rfl))
          go_simp
          refine wpAnyH_take (i := 29) (v := ?vc29) rfl (by kernel_rfl) (by kernel_rfl) (by kernel_rfl) (fun _ _ _ h => h) (Or.inl ⟨by kernel_rfl, ?hyc29⟩) (by assumption) ?restc29
          case hyc29 => (intro w hSw; (try dsimp only at hSw); go_simp; (try with_reducible rfl))
          go_simp
          refine wpAnyH_take (i := 30) (v := ?vc30) rfl (by kernel_rfl) (by kernel_rfl) (by kernel_rfl) (fun _ _ _ h => h) (Or.inl ⟨by kernel_rfl, ?hyc30⟩) (by assumption) ?restc30
          case hyc30 => (intro w hSw; (try dsimp only at hSw); go_simp; (try with_reducible rfl))
          go_simp
          refine wpAnyH_take (i := 31) (v := ?vc31) rfl (by kernel_rfl) (by kernel_rfl) (by kernel_rfl) (fun _ _ _ h => h) (Or.inl ⟨by kernel_rfl, ?hyc31⟩) (by assumption) ?restc31
          case hyc31 => (intro w hSw; (try dsimp only at hSw); go_simp; (try with_reducible rfl))
          go_simp
          refine wpAnyH_take (i := 32) (v := ?vc32) rfl (by kernel_rfl) (by kernel_rfl) (by kernel_rfl) (fun _ _ _ h => h) (Or.inl ⟨by kernel_rfl, ?hyc32⟩) (by assumption) ?restc32
          case hyc32 => (intro w hSw; (try dsimp only at hSw); go_simp; (try with_reducible rfl))
          go_simp
          refine wpAnyH_take (i := 33) (v := ?vc33) rfl (by kernel_rfl) (by kernel_rfl) (by kernel_rfl) (fun _ _ _ h => h) (Or.inl ⟨by kernel_rfl, ?hyc33⟩) (by assumption) ?restc33
          case hyc33 => (intro w hSw; (try dsimp only at hSw); go_simp; (try with_reducible rfl))
          go_simp
          refine wpAnyH_take (i := 34) (v := ?vc34) rfl (by kernel_rfl) (by kernel_rfl) (by kernel_rfl) (fun _ _ _ h => h) (Or.inl ⟨by kernel_rfl, ?hyc34⟩) (by assumption) ?restc34
          case hyc34 => (intro w hSw; (try dsimp only at hSw); go_simp; (try with_reducible rfl))
          go_simp
          refine wpAnyH_take (i := 35) (v := ?vc35) rfl (by kernel_rfl) (by kernel_rfl) (by kernel_rfl) (fun _ _ _ h => h) (Or.inl ⟨by kernel_rfl, ?hyc35⟩) (by assumption) ?restc35
          case hyc35 => (intro w hSw; (try dsimp only at hSw); go_simp; (try with_reducible rfl))
          go_simp
          refine wpAnyH_take (i := 36) (v := ?vc36) rfl (by kernel_rfl) (by kernel_rfl) (by kernel_rfl) (fun _ _ _ h => h) (Or.inl ⟨by kernel_rfl, ?hyc36⟩) (by assumption) ?restc36
          case hyc36 => (intro w hSw; (try dsimp only at hSw); go_simp; (try with_reducible rfl))
          go_simp
          refine wpAnyH_take (i := 37) (v := ?vc37) rfl (by kernel_rfl) (by kernel_rfl) (by kernel_rfl) (fun _ _ _ h => h) (Or.inl ⟨by kernel_rfl, ?hyc37⟩) (by assumption) ?restc37
          case hyc37 => (intro w hSw; (try dsimp only at hSw); go_simp; (try with_reducible rfl))
          go_simp
          refine wpAnyH_take (i := 38) (v := ?vc38) rfl (by kernel_rfl) (by kernel_rfl) (by kernel_rfl) (fun _ _ _ h => h) (Or.inl ⟨by kernel_rfl, ?hyc38⟩) (by assumption) ?restc38
          case hyc38 => (intro w hSw; (try dsimp only at hSw); go_simp; (try with_reducible rfl))
          go_simp
          refine wpAnyH_take (i := 39) (v := ?vc39) rfl (by kernel_rfl) (by kernel_rfl) (by kernel_rfl) (fun _ _ _ h => h) (Or.inl ⟨by kernel_rfl, ?hyc39⟩) (by assumption) ?restc39
          case hyc39 => (intro w hSw; (try dsimp only at hSw); go_simp; (try with_reducible rfl))
          go_simp
          refine wpAnyH_take (i := 40) (v := ?vc40) rfl (by kernel_rfl) (by kernel_rfl) (by kernel_rfl) (fun _ _ _ h => h) (Or.inl ⟨by kernel_rfl, ?hyc40⟩) (by assumption) ?restc40
          case hyc40 => (intro w hSw; (try dsimp only at hSw); go_simp; (try with_reducible rfl))
          go_simp
          refine wpAnyH_take (i := 41) (v := ?vc41) rfl (by kernel_rfl) (by kernel_rfl) (by kernel_rfl) (fun _ _ _ h => h) (Or.inl ⟨by kernel_rfl, ?hyc41⟩) (by assumption) ?restc41
          case hyc41 => (intro w hSw; (try dsimp only at hSw); go_simp; (try with_reducible rfl))
          go_simp
          refine wpAnyH_done (by kernel_rfl) ?_ _
          refine NoPanic.normal ?_
          clear kb d0 d1 d2 d3 d4 d5
          go_wp2
          go_roundw
          case rel => exact ⟨k + 1, by omega, by go_num, cb⟩
          case measure => simp [intOf]; omega
    · obtain rfl : k = L.length := by omega
      clear hk hkn hnd hmm
      go_wp2
      go_loopw [7] (fun t wr => ∃ k : Nat, k ≤ r.plus.length ∧ t = .int .i64 k ∧ Below W3.heap.size W3 wr) (fun t _ => r.plus.length - (intOf t).toNat)
      case atStart => exact ⟨0, by omega, rfl, cb⟩
      case round =>
        clear cb kb
        obtain ⟨k, hk, rfl, cb⟩ := hrel
        have kb := (xb.later cb).cells
        have lb := (xb.later cb).lt
        by_cases hkn : k < r.plus.length
        · obtain ⟨b0, off, rfl, hgb, hc⟩ := (rplus.later cb).get (by omega)
          have d0 := hc k hkn 0 _ rfl
          have d1 := hc k hkn 1 _ rfl
          have d2 := hc k hkn 2 _ rfl
          have d3 := hc k hkn 3 _ rfl
          have d4 := hc k hkn 4 _ rfl
          have d5 := hc k hkn 5 _ rfl
          have hmem := hplus.out r.plus[k] (List.getElem_mem hkn)
          have HM := chas_any (c := c5) r.plus[k] (by omega) (R5.later cb)
          rw [decide_eq_true hmem] at HM
          replace HM := Lib.hid HM
          clear hc hmem
          generalize r.plus[k] = x at *
          obtain ⟨x1, x2, x3, x4, x5, x6⟩ := x
          dsimp only at d0 d1 d2 d3 d4 d5
          rw [show CelE.n = 6 from rfl, Nat.add_zero] at d0
          rw [show CelE.n = 6 from rfl, ← Nat.add_assoc] at d1 d2 d3 d4 d5
          unfold cv at HM
          dsimp only at HM
          go_wp2_with fail
          refine HM.out.mono ?_
          rintro e v7 ⟨rfl, b7⟩
          replace cb := cb.trans (b7.mono cb.size)
          clear b7 HM kb lb d0 d1 d2 d3 d4 d5
          have kb := (xb.later cb).cells
          have lb := (xb.later cb).lt
          go_wp2
          go_roundw
          case rel => exact ⟨k + 1, by omega, by go_num, cb⟩
          case measure => simp [intOf]; omega
        · obtain rfl : k = r.plus.length := by omega
          clear hk hkn
          go_wp2
          go_loopw [8] (fun t wr => ∃ k : Nat, k ≤ r.minus.length ∧ t = .int .i64 k ∧ Below W3.heap.size W3 wr) (fun t _ => r.minus.length - (intOf t).toNat)
          case atStart => exact ⟨0, by omega, rfl, cb⟩
          case round =>
            clear cb kb
            obtain ⟨k, hk, rfl, cb⟩ := hrel
            have kb := (xb.later cb).cells
            have lb := (xb.later cb).lt
            by_cases hkn : k < r.minus.length
            · obtain ⟨b0, off, rfl, hgb, hc⟩ := (rminus.later cb).get (by omega)
              have d0 := hc k hkn 0 _ rfl
              have d1 := hc k hkn 1 _ rfl
              have d2 := hc k hkn 2 _ rfl
              have d3 := hc k hkn 3 _ rfl
              have d4 := hc k hkn 4 _ rfl
              have d5 := hc k hkn 5 _ rfl
              have hmem := hminus.out r.minus[k] (List.getElem_mem hkn)
              have HM := chas_any (c := c5) r.minus[k] (by omega) (R5.later cb)
              rw [decide_eq_true hmem] at HM
              replace HM := Lib.hid HM
              clear hc hmem
              generalize r.minus[k] = x at *
              obtain ⟨x1, x2, x3, x4, x5, x6⟩ := x
              dsimp only at d0 d1 d2 d3 d4 d5
              rw [show CelE.n = 6 from rfl, Nat.add_zero] at d0
              rw [show CelE.n = 6 from rfl, ← Nat.add_assoc] at d1 d2 d3 d4 d5
              unfold cv at HM
              dsimp only at HM
              go_wp2_with fail
              refine HM.out.mono ?_
              rintro e v7 ⟨rfl, b7⟩
              replace cb := cb.trans (b7.mono cb.size)
              clear b7 HM kb lb d0 d1 d2 d3 d4 d5
              have kb := (xb.later cb).cells
              have lb := (xb.later cb).lt
              go_wp2
              go_roundw
              case rel => exact ⟨k + 1, by omega, by go_num, cb⟩
              case measure => simp [intOf]; omega
            · obtain rfl : k = r.minus.length := by omega
              clear hk hkn
              have OA := Lib.hid fun w => of29_any (A1 := A1) (A2 := A2) (c1 := c1) (c2 := c2) (r := r) w
              have EV := fun W (cb : Below W3.heap.size W3 W) => eval_any (c1 := c1) (c2 := c2) (c3 := c3) wfr oa.base oi (rplus.later cb) (rminus.later cb) (ri.later cb)
              replace hli := hli.out
              generalize evalR r i = ev at *
              unfold vv at EV
              replace EV := Lib.hid EV
              have hd : ((i.length : Int) == (L.length : Int)) = true := by rw [hli]; simp
              replace hli := Lib.hid hli
              cases hrt : r.rt
              · rw [hrt] at xb kb OA EV
                go_wp2_with fail
                refine (OA.out _).mono ?_
                rintro e W4 ⟨rfl, b4⟩
                replace cb := cb.trans (b4.mono cb.size)
                clear b4
                go_wp2_with fail
                refine (EV.out _ cb).mono ?_
                rintro e W5 ⟨rfl, b5⟩
                replace cb := cb.trans (b5.mono cb.size)
                clear b5 kb lb
                have x9 := Box.new W5 24 #[.int .i64 ev.n, .int .i64 ev.e]
                have HB5 := HB.trans (cb.mono HB.size)
                replace xb := (xb.later cb).alloc (.cells #[.int .i64 ev.n, .int .i64 ev.e] 24)
                replace R5 := (R5.later cb).alloc (.cells #[.int .i64 ev.n, .int .i64 ev.e] 24)
                replace rplus := (rplus.later cb).alloc (.cells #[.int .i64 ev.n, .int .i64 ev.e] 24)
                replace rminus := (rminus.later cb).alloc (.cells #[.int .i64 ev.n, .int .i64 ev.e] 24)
                have HB6 := HB5.alloc HB5.size (.cells #[.int .i64 ev.n, .int .i64 ev.e] 24)
                have kb := xb.cells
                have k9 := x9.cells
                obtain ⟨W6, hW6⟩ : ∃ W6, W6 = W5.alloc (.cells #[.int .i64 ev.n, .int .i64 ev.e] 24) := ⟨_, rfl⟩
                have cb9 : Below W6.heap.size W6 (W5.alloc (.cells #[.int .i64 ev.n, .int .i64 ev.e] 24)).drew := by rw [hW6]; exact below_drewN (Below.refl _ _) 1
                rw [← hW6] at xb x9 R5 rplus rminus HB6
                have HS := fun W (cb : Below W6.heap.size W6 W) => chas_any (c := c5) r.sc (by omega) (R5.later cb)
                have hx9 := True.intro
                unfold cv at HS
                replace HS := Lib.hid HS
                have PS := fun W (cb : Below W6.heap.size W6 W) => psame_any (c1 := c1) (c2 := c2) (d1 := c1) (d2 := c2) wfr.lp wfr.lp wfr.lm wfr.lm (rplus.later cb) (rminus.later cb) (rplus.later cb) (rminus.later cb)
                rw [decide_eq_true rfl] at PS
                rw [hrt] at PS
                replace PS := Lib.hid PS
                replace hW6 := Lib.hid hW6
                clear cb HB HB5
                go_upto_region 20 with fail
                refine wp_region_noPanic ?_
                refine wp_region_held_drew (S := (fun w' => w'.cell? ⟨w.heap.size, 0, none⟩ = some (.int .i64 r.base.n) ∧ w'.cell? ⟨w.heap.size, 1, none⟩ = some (.int .i64 r.base.e) ∧ w'.cell? ⟨w.heap.size, 2, none⟩ = some (.slice A1 r.plus.length c1) ∧ w'.cell? ⟨w.heap.size, 3, none⟩ = some (.slice A2 r.minus.length c2) ∧ w'.cell? ⟨w.heap.size, 4, none⟩ = some (.int .i64 r.sc.r) ∧ w'.cell? ⟨w.heap.size, 5, none⟩ = some (.int .i64 r.sc.e) ∧ w'.cell? ⟨w.heap.size, 6, none⟩ = some (.int .i64 r.sc.a) ∧ w'.cell? ⟨w.heap.size, 7, none⟩ = some (.int .i64 r.sc.p) ∧ w'.cell? ⟨w.heap.size, 8, none⟩ = some (.int .i64 r.sc.c) ∧ w'.cell? ⟨w.heap.size, 9, none⟩ = some (.int .i64 r.sc.q) ∧ w'.cell? ⟨w.heap.size, 10, none⟩ = some (.bool false) ∧ w'.cell? ⟨w.heap.size, 11, none⟩ = some (.int .i64 r.num) ∧ w'.cell? ⟨w.heap.size, 12, none⟩ = some (.int .i64 r.den) ∧ w'.cell? ⟨w.heap.size, 13, none⟩ = some (.bool r.has) ∧ w'.cell? ⟨W5.heap.size, 0, none⟩ = some (.int .i64 ev.n) ∧ w'.cell? ⟨W5.heap.size, 1, none⟩ = some (.int .i64 ev.e))) (by kernel_rfl) ?_ (fun hHeld => ?_)
                · first | assumption | go_keep
                refine wpAnyH_take (i := 0) (v := ?vs0) rfl (by kernel_rfl) (by kernel_rfl) (by kernel_rfl) (fun _ _ _ h => h) (Or.inl ⟨by kernel_rfl, ?hys0⟩) (by assumption) ?rests0
                case hys0 => (intro w hSw; (try dsimp only at hSw); go_simp; (try with_reducible rfl))
                go_simp
                refine wpAnyH_take (i := 1) (v := ?vs1) rfl (by kernel_rfl) (by kernel_rfl) (by kernel_rfl) (fun _ _ _ h => h) (Or.inl ⟨by kernel_rfl, ?hys1⟩) (by assumption) ?rests1
                case hys1 => (intro w hSw; (try dsimp only at hSw); go_simp; (try with_reducible rfl))
                go_simp
                refine wpAnyH_take (i := 2) (v := ?vs2) rfl (by kernel_rfl) (by kernel_rfl) (by kernel_rfl) (fun _ _ _ h => h) (Or.inl ⟨by kernel_rfl, ?hys2⟩) (by assumption) ?rests2
                case hys2 => (intro w hSw; (try dsimp only at hSw); go_simp; (try with_reducible rfl))
                go_simp
                refine wpAnyH_take (i := 3) (v := ?vs3) rfl (by kernel_rfl) (by kernel_rfl) (by kernel_rfl) (fun _ _ _ h => h) (Or.inl ⟨by kernel_rfl, ?hys3⟩) (by assumption) ?rests3
                case hys3 => (intro w hSw; (try dsimp only at hSw); go_simp; (try with_reducible rfl))
                go_simp
                refine wpAnyH_take (i := 4) (v := undef) rfl (by kernel_rfl) (by kernel_rfl) (by kernel_rfl) (fun _ _ _ h => h) (Or.inr ⟨by kernel_rfl, rfl⟩) (by assumption) ?_
                go_simp
                refine wpAnyH_take (i := 5) (v := undef) rfl (by kernel_rfl) (by kernel_rfl) (by kernel_rfl) (fun _ _ _ h => h) (Or.inr ⟨by kernel_rfl, rfl⟩) (by assumption) ?_
                go_simp
                refine wpAnyH_take (i := 6) (v := undef) rfl (by kernel_rfl) (by kernel_rfl) (by kernel_rfl) (fun _ _ _ h => h) (Or.inr ⟨by kernel_rfl, rfl⟩) (by assumption) ?_
                go_simp
                refine wpAnyH_take (i := 7) (v := undef) rfl (by kernel_rfl) (by kernel_rfl) (by kernel_rfl) (fun _ _ _ h => h) (Or.inr ⟨by kernel_rfl, rfl⟩) (by assumption) ?_
                go_simp
                refine wpAnyH_take (i := 8) (v := ?vs8) rfl (by kernel_rfl) (by kernel_rfl) (by kernel_rfl) (fun _ _ _ h => h) (Or.inl ⟨by kernel_rfl, ?hys8⟩) (by assumption) ?rests8
                case hys8 => (intro w hSw; (try dsimp only at hSw); go_simp; (try with_reducible rfl))
                go_simp
                refine wpAnyH_take (i := 9) (v := ?vs9) rfl (by kernel_rfl) (by kernel_rfl) (by kernel_rfl) (fun _ _ _ h => h) (Or.inl ⟨by kernel_rfl, ?hys9⟩) (by assumption) ?rests9
                case hys9 => (intro w hSw; (try dsimp only at hSw); go_simp; (try with_reducible rfl))
                go_simp
                refine wpAnyH_take (i := 10) (v := ?vs10) rfl (by kernel_rfl) (by kernel_rfl) (by kernel_rfl) (fun _ _ _ h => h) (Or.inl ⟨by kernel_rfl, ?hys10⟩) (by assumption) ?rests10
                case hys10 => (intro w hSw; (try dsimp only at hSw); go_simp; (try with_reducible rfl))
                go_simp
                refine wpAnyH_take (i := 11) (v := ?vs11) rfl (by kernel_rfl) (by kernel_rfl) (by kernel_rfl) (fun _ _ _ h => h) (Or.inl ⟨by kernel_rfl, ?hys11⟩) (by assumption) ?rests11
                case hys11 => (intro w hSw; (try dsimp only at hSw); go_simp; (try with_reducible rfl))
                go_simp
                refine wpAnyH_take (i := 12) (v := ?vs12) rfl (by kernel_rfl) (by kernel_rfl) (by kernel_rfl) (fun _ _ _ h => h) (Or.inl ⟨by kernel_rfl, ?hys12⟩) (by assumption) ?rests12
                case hys12 => (intro w hSw; (try dsimp only at hSw); go_simp; (try with_reducible rfl))
                go_simp
                refine wpAnyH_take (i := 13) (v := ?vs13) rfl (by kernel_rfl) (by kernel_rfl) (by kernel_rfl) (fun _ _ _ h => h) (Or.inl ⟨by kernel_rfl, ?hys13⟩) (by assumption) ?rests13
                case hys13 => (intro w hSw; (try dsimp only at hSw); go_simp; (try with_reducible rfl))
                go_simp
                refine wpAnyH_take (i := 14) (v := ?vs14) rfl (by kernel_rfl) (by kernel_rfl) (by kernel_rfl) (fun _ _ _ h => h) (Or.inl ⟨by kernel_rfl, ?hys14⟩) (by assumption) ?rests14
                case hys14 => (intro w hSw; (try dsimp only at hSw); go_simp; (try with_reducible rfl))
                go_simp
                refine wpAnyH_take (i := 15) (v := ?vs15) rfl (by kernel_rfl) (by kernel_rfl) (by kernel_rfl) (fun _ _ _ h => h) (Or.inl ⟨by kernel_rfl, ?hys15⟩) (by assumption) ?rests15
                case hys15 => (intro w hSw; (try dsimp only at hSw); go_simp; (try with_reducible rfl))
                go_simp
                refine wpAnyH_take (i := 16) (v := undef) rfl (by kernel_rfl) (by kernel_rfl) (by kernel_rfl) (fun _ _ _ h => h) (Or.inr ⟨by kernel_rfl, rfl⟩) (by assumption) ?_
                go_simp
                refine wpAnyH_take (i := 17) (v := undef) rfl (by kernel_rfl) (by kernel_rfl) (by kernel_rfl) (fun _ _ _ h => h) (Or.inr ⟨by kernel_rfl, rfl⟩) (by assumption) ?_
                go_simp
                refine wpAnyH_take (i := 18) (v := undef) rfl (by kernel_rfl) (by kernel_rfl) (by kernel_rfl) (fun _ _ _ h => h) (Or.inr ⟨by kernel_rfl, rfl⟩) (by assumption) ?_
                go_simp
                refine wpAnyH_take (i := 19) (v := ?vs19) rfl (by kernel_rfl) (by kernel_rfl) (by kernel_rfl) (fun _ _ _ h => h) (Or.inl ⟨by kernel_rfl, ?hys19⟩) (by assumption) ?rests19
                case hys19 => (intro w hSw; (try dsimp only at hSw); go_simp; (try with_reducible rfl))
                go_simp
                refine wpAnyH_take (i := 20) (v := ?vs20) rfl (by kernel_rfl) (by kernel_rfl) (by kernel_rfl) (fun _ _ _ h => h) (Or.inl ⟨by kernel_rfl, ?hys20⟩) (by assumption) ?rests20
                case hys20 => (intro w hSw; (try dsimp only at hSw); go_simp; (try with_reducible rfl))
                go_simp
                refine wpAnyH_take (i := 21) (v := ?vs21) rfl (by kernel_rfl) (by kernel_rfl) (by kernel_rfl) (fun _ _ _ h => h) (Or.inl ⟨by kernel_rfl, ?hys21⟩) (by assumption) ?rests21
                case hys21 => (intro w hSw; (try dsimp only at hSw); go_simp; (try with_reducible rfl))
                go_simp
                refine wpAnyH_take (i := 22) (v := ?vs22) rfl (by kernel_rfl) (by kernel_rfl) (by kernel_rfl) (fun _ _ _ h => h) (Or.inl ⟨by kernel_rfl, ?hys22⟩) (by assumption) ?rests22
                case hys22 => (intro w hSw; (try dsimp only at hSw); go_simp; (try with_reducible rfl))
                go_simp
                refine wpAnyH_take (i := 24) (v := ?vs24) rfl (by kernel_rfl) (by kernel_rfl) (by kernel_rfl) (fun _ _ _ h => h) (Or.inl ⟨by kernel_rfl, ?hys24⟩) (by assumption) ?rests24
                case hys24 => (intro w hSw; (try dsimp only at hSw); go_simp; (try with_reducible rfl))
                go_simp
                refine wpAnyH_ready (rs := [23]) (by kernel_rfl) (by simp) ?_
                refine AllReadyH.cons rfl (fun K hK => ?_) AllReadyH.nil
                rw [if_pos (by kernel_rfl)]
                go_simp
                refine (OA.out _).mono ?_
                rintro e v23 ⟨rfl, b23⟩
                have cb9 := cb9.trans (b23.mono cb9.size)
                clear b23
                have kb := (xb.later cb9).cells
                have k9 := (x9.later cb9).cells
                go_wp2_with fail
                refine hK.out _ _ (by first | assumption | go_keep) (fun hHeld => ?_)
                clear hK K
                go_simp
                refine wpAnyH_ready (rs := [25]) (by kernel_rfl) (by simp) ?_
                refine AllReadyH.cons rfl (fun K hK => ?_) AllReadyH.nil
                rw [if_pos (by kernel_rfl)]
                go_simp
                refine (OA.out _).mono ?_
                rintro e v25 ⟨rfl, b25⟩
                have cb9 := cb9.trans (b25.mono cb9.size)
                clear b25
                have kb := (xb.later cb9).cells
                have k9 := (x9.later cb9).cells
                go_wp2_with fail
                refine hK.out _ _ (by first | assumption | go_keep) (fun hHeld => ?_)
                clear hK K
                go_simp
                refine wpAnyH_ready (rs := [26]) (by kernel_rfl) (by simp) ?_
                refine AllReadyH.cons rfl (fun K hK => ?_) AllReadyH.nil
                rw [if_pos (by kernel_rfl)]
                go_simp
                refine (PS.out _ cb9).mono ?_
                rintro e v26 ⟨rfl, b26⟩
                have cb9 := cb9.trans (b26.mono cb9.size)
                clear b26
                have kb := (xb.later cb9).cells
                have k9 := (x9.later cb9).cells
                go_wp2_with fail
                refine hK.out _ _ (by first | assumption | go_keep) (fun hHeld => ?_)
                clear hK K
                go_simp
                refine wpAnyH_take (i := 27) (v := ?vs27) rfl (by kernel_rfl) (by kernel_rfl) (by kernel_rfl) (fun _ _ _ h => h) (Or.inl ⟨by kernel_rfl, ?hys27⟩) (by assumption) ?rests27
                case hys27 => (intro w hSw; (try dsimp only at hSw); go_simp; (try with_reducible rfl))
                go_simp
                refine wpAnyH_take (i := 28) (v := ?vs28) rfl (by kernel_rfl) (by kernel_rfl) (by kernel_rfl) (fun _ _ _ h => h) (Or.inl ⟨by kernel_rfl, ?hys28⟩) (by assumption) ?rests28
                case hys28 => (intro w hSw; (try dsimp only at hSw); go_simp; (try with_reducible rfl))
                go_simp
                refine wpAnyH_ready (rs := [29]) (by kernel_rfl) (by simp) ?_
                refine AllReadyH.cons rfl (fun K hK => ?_) AllReadyH.nil
                rw [if_pos (by kernel_rfl)]
                go_simp
                refine (AWA.out _).mono ?_
                rintro e v29 ⟨rfl, b29⟩
                have cb9 := cb9.trans (b29.mono cb9.size)
                clear b29
                have kb := (xb.later cb9).cells
                have k9 := (x9.later cb9).cells
                go_wp2_with fail
                refine hK.out _ _ (by first | assumption | go_keep) (fun hHeld => ?_)
                clear hK K
                go_simp
                refine wpAnyH_take (i := 30) (v := ?vs30) rfl (by kernel_rfl) (by kernel_rfl) (by kernel_rfl) (fun _ _ _ h => h) (Or.inl ⟨by kernel_rfl, ?hys30⟩) (by assumption) ?rests30
                case hys30 => (intro w hSw; (try dsimp only at hSw); go_simp; (try with_reducible rfl))
                go_simp
                refine wpAnyH_ready (rs := [31]) (by kernel_rfl) (by simp) ?_
                refine AllReadyH.cons rfl (fun K hK => ?_) AllReadyH.nil
                rw [if_pos (by kernel_rfl)]
                go_simp
                refine hK.out _ _ hHeld (fun hHeld => ?_)
                clear hK K
                go_simp
                refine wpAnyH_done (by kernel_rfl) ?_ _
                refine NoPanic.normal ?_
                replace HB6 := HB6.trans (cb9.mono HB6.size)
                clear kb k9 cb9
                go_wp2
                go_ret
                exact ⟨rfl, HB6⟩
              · rw [hrt] at xb kb OA EV
                go_wp2_with fail
                refine (OA.out _).mono ?_
                rintro e W4 ⟨rfl, b4⟩
                replace cb := cb.trans (b4.mono cb.size)
                clear b4
                go_wp2_with fail
                refine (EV.out _ cb).mono ?_
                rintro e W5 ⟨rfl, b5⟩
                replace cb := cb.trans (b5.mono cb.size)
                clear b5 kb lb
                have x9 := Box.new W5 24 #[.int .i64 ev.n, .int .i64 ev.e]
                have HB5 := HB.trans (cb.mono HB.size)
                replace xb := (xb.later cb).alloc (.cells #[.int .i64 ev.n, .int .i64 ev.e] 24)
                replace R5 := (R5.later cb).alloc (.cells #[.int .i64 ev.n, .int .i64 ev.e] 24)
                replace rplus := (rplus.later cb).alloc (.cells #[.int .i64 ev.n, .int .i64 ev.e] 24)
                replace rminus := (rminus.later cb).alloc (.cells #[.int .i64 ev.n, .int .i64 ev.e] 24)
                have HB6 := HB5.alloc HB5.size (.cells #[.int .i64 ev.n, .int .i64 ev.e] 24)
                have kb := xb.cells
                have k9 := x9.cells
                obtain ⟨W6, hW6⟩ : ∃ W6, W6 = W5.alloc (.cells #[.int .i64 ev.n, .int .i64 ev.e] 24) := ⟨_, rfl⟩
                have cb9 : Below W6.heap.size W6 (W5.alloc (.cells #[.int .i64 ev.n, .int .i64 ev.e] 24)).drew := by rw [hW6]; exact below_drewN (Below.refl _ _) 1
                rw [← hW6] at xb x9 R5 rplus rminus HB6
                have HS := fun W (cb : Below W6.heap.size W6 W) => chas_any (c := c5) r.sc (by omega) (R5.later cb)
                rw [decide_eq_true (hsc.out hrt)] at HS
                unfold cv at HS
                replace HS := Lib.hid HS
                have PS := fun W (cb : Below W6.heap.size W6 W) => psame_any (c1 := c1) (c2 := c2) (d1 := c1) (d2 := c2) wfr.lp wfr.lp wfr.lm wfr.lm (rplus.later cb) (rminus.later cb) (rplus.later cb) (rminus.later cb)
                rw [decide_eq_true rfl] at PS
                rw [hrt] at PS
                replace PS := Lib.hid PS
                replace hW6 := Lib.hid hW6
                clear cb HB HB5
                go_upto_region 20 with fail
                refine wp_region_noPanic ?_
                refine wp_region_held_drew (S := (fun w' => w'.cell? ⟨w.heap.size, 0, none⟩ = some (.int .i64 r.base.n) ∧ w'.cell? ⟨w.heap.size, 1, none⟩ = some (.int .i64 r.base.e) ∧ w'.cell? ⟨w.heap.size, 2, none⟩ = some (.slice A1 r.plus.length c1) ∧ w'.cell? ⟨w.heap.size, 3, none⟩ = some (.slice A2 r.minus.length c2) ∧ w'.cell? ⟨w.heap.size, 4, none⟩ = some (.int .i64 r.sc.r) ∧ w'.cell? ⟨w.heap.size, 5, none⟩ = some (.int .i64 r.sc.e) ∧ w'.cell? ⟨w.heap.size, 6, none⟩ = some (.int .i64 r.sc.a) ∧ w'.cell? ⟨w.heap.size, 7, none⟩ = some (.int .i64 r.sc.p) ∧ w'.cell? ⟨w.heap.size, 8, none⟩ = some (.int .i64 r.sc.c) ∧ w'.cell? ⟨w.heap.size, 9, none⟩ = some (.int .i64 r.sc.q) ∧ w'.cell? ⟨w.heap.size, 10, none⟩ = some (.bool true) ∧ w'.cell? ⟨w.heap.size, 11, none⟩ = some (.int .i64 r.num) ∧ w'.cell? ⟨w.heap.size, 12, none⟩ = some (.int .i64 r.den) ∧ w'.cell? ⟨w.heap.size, 13, none⟩ = some (.bool r.has) ∧ w'.cell? ⟨W5.heap.size, 0, none⟩ = some (.int .i64 ev.n) ∧ w'.cell? ⟨W5.heap.size, 1, none⟩ = some (.int .i64 ev.e))) (by kernel_rfl) ?_ (fun hHeld => ?_)
                · first | assumption | go_keep
                refine wpAnyH_take (i := 0) (v := ?vt0) rfl (by kernel_rfl) (by kernel_rfl) (by kernel_rfl) (fun _ _ _ h => h) (Or.inl ⟨by kernel_rfl, ?hyt0⟩) (by assumption) ?restt0
                case hyt0 => (intro w hSw; (try dsimp only at hSw); go_simp; (try with_reducible rfl))
                go_simp
                refine wpAnyH_take (i := 1) (v := ?vt1) rfl (by kernel_rfl) (by kernel_rfl) (by kernel_rfl) (fun _ _ _ h => h) (Or.inl ⟨by kernel_rfl, ?hyt1⟩) (by assumption) ?restt1
                case hyt1 => (intro w hSw; (try dsimp only at hSw); go_simp; (try with_reducible rfl))
                go_simp
                refine wpAnyH_take (i := 2) (v := ?vt2) rfl (by kernel_rfl) (by kernel_rfl) (by kernel_rfl) (fun _ _ _ h => h) (Or.inl ⟨by kernel_rfl, ?hyt2⟩) (by assumption) ?restt2
                case hyt2 => (intro w hSw; (try dsimp only at hSw); go_simp; (try with_reducible rfl))
                go_simp
                refine wpAnyH_take (i := 3) (v := ?vt3) rfl (by kernel_rfl) (by kernel_rfl) (by kernel_rfl) (fun _ _ _ h => h) (Or.inl ⟨by kernel_rfl, ?hyt3⟩) (by assumption) ?restt3
                case hyt3 => (intro w hSw; (try dsimp only at hSw); go_simp; (try with_reducible rfl))
                go_simp
                refine wpAnyH_take (i := 4) (v := ?vt4) rfl (by kernel_rfl) (by kernel_rfl) (by kernel_rfl) (fun _ _ _ h => h) (Or.inl ⟨by kernel_rfl, ?hyt4⟩) (by assumption) ?restt4
                case hyt4 => (intro w hSw; (try dsimp only at hSw); go_simp; (try with_reducible rfl))
                go_simp
                refine wpAnyH_take (i := 5) (v := ?vt5) rfl (by kernel_rfl) (by kernel_rfl) (by kernel_rfl) (fun _ _ _ h => h) (Or.inl ⟨by kernel_rfl, ?hyt5⟩) (by assumption) ?restt5
                case hyt5 => (intro w hSw; (try dsimp only at hSw); go_simp; (try with_reducible rfl))
                go_simp
                refine wpAnyH_take (i := 6) (v := ?vt6) rfl (by kernel_rfl) (by kernel_rfl) (by kernel_rfl) (fun _ _ _ h => h) (Or.inl ⟨by kernel_rfl, ?hyt6⟩) (by assumption) ?restt6
                case hyt6 => (intro w hSw; (try dsimp only at hSw); go_simp; (try with_reducible rfl))
                go_simp
                refine wpAnyH_ready (rs := [7]) (by kernel_rfl) (by simp) ?_
                refine AllReadyH.cons rfl (fun K hK => ?_) AllReadyH.nil
                rw [if_pos (by kernel_rfl)]
                go_simp
                refine (HS.out _ cb9).mono ?_
                rintro e v7 ⟨rfl, b7⟩
                have cb9 := cb9.trans (b7.mono cb9.size)
                clear b7
                have kb := (xb.later cb9).cells
                have k9 := (x9.later cb9).cells
                go_wp2_with fail
                refine hK.out _ _ (by first | assumption | go_keep) (fun hHeld => ?_)
                clear hK K
                go_simp
                refine wpAnyH_take (i := 8) (v := ?vt8) rfl (by kernel_rfl) (by kernel_rfl) (by kernel_rfl) (fun _ _ _ h => h) (Or.inl ⟨by kernel_rfl, ?hyt8⟩) (by assumption) ?restt8
                case hyt8 => (intro w hSw; (try dsimp only at hSw); go_simp; (try with_reducible rfl))
                go_simp
                refine wpAnyH_take (i := 9) (v := ?vt9) rfl (by kernel_rfl) (by kernel_rfl) (by kernel_rfl) (fun _ _ _ h => h) (Or.inl ⟨by kernel_rfl, ?hyt9⟩) (by assumption) ?restt9
                case hyt9 => (intro w hSw; (try dsimp only at hSw); go_simp; (try with_reducible rfl))
                go_simp
                refine wpAnyH_take (i := 10) (v := ?vt10) rfl (by kernel_rfl) (by kernel_rfl) (by kernel_rfl) (fun _ _ _ h => h) (Or.inl ⟨by kernel_rfl, ?hyt10⟩) (by assumption) ?restt10
                case hyt10 => (intro w hSw; (try dsimp only at hSw); go_simp; (try with_reducible rfl))
                go_simp
                refine wpAnyH_take (i := 11) (v := ?vt11) rfl (by kernel_rfl) (by kernel_rfl) (by kernel_rfl) (fun _ _ _ h => h) (Or.inl ⟨by kernel_rfl, ?hyt11⟩) (by assumption) ?restt11
                case hyt11 => (intro w hSw; (try dsimp only at hSw); go_simp; (try with_reducible rfl))
                go_simp
                refine wpAnyH_take (i := 12) (v := ?vt12) rfl (by kernel_rfl) (by kernel_rfl) (by kernel_rfl) (fun _ _ _ h => h) (Or.inl ⟨by kernel_rfl, ?hyt12⟩) (by assumption) ?restt12
                case hyt12 => (intro w hSw; (try dsimp only at hSw); go_simp; (try with_reducible rfl))
                go_simp
                refine wpAnyH_take (i := 13) (v := ?vt13) rfl (by kernel_rfl) (by kernel_rfl) (by kernel_rfl) (fun _ _ _ h => h) (Or.inl ⟨by kernel_rfl, ?hyt13⟩) (by assumption) ?restt13
                case hyt13 => (intro w hSw; (try dsimp only at hSw); go_simp; (try with_reducible rfl))
                go_simp
                refine wpAnyH_take (i := 14) (v := ?vt14) rfl (by kernel_rfl) (by kernel_rfl) (by kernel_rfl) (fun _ _ _ h => h) (Or.inl ⟨by kernel_rfl, ?hyt14⟩) (by assumption) ?restt14
                case hyt14 => (intro w hSw; (try dsimp only at hSw); go_simp; (try with_reducible rfl))
                go_simp
                refine wpAnyH_take (i := 15) (v := ?vt15) rfl (by kernel_rfl) (by kernel_rfl) (by kernel_rfl) (fun _ _ _ h => h) (Or.inl ⟨by kernel_rfl, ?hyt15⟩) (by assumption) ?restt15
                case hyt15 => (intro w hSw; (try dsimp only at hSw); go_simp; (try with_reducible rfl))
                go_simp
                refine wpAnyH_take (i := 16) (v := undef) rfl (by kernel_rfl) (by kernel_rfl) (by kernel_rfl) (fun _ _ _ h => h) (Or.inr ⟨by kernel_rfl, rfl⟩) (by assumption) ?_
                go_simp
                refine wpAnyH_take (i := 17) (v := undef) rfl (by kernel_rfl) (by kernel_rfl) (by kernel_rfl) (fun _ _ _ h => h) (Or.inr ⟨by kernel_rfl, rfl⟩) (by assumption) ?_
                go_simp
                refine wpAnyH_take (i := 18) (v := undef) rfl (by kernel_rfl) (by kernel_rfl) (by kernel_rfl) (fun _ _ _ h => h) (Or.inr ⟨by kernel_rfl, rfl⟩) (by assumption) ?_
                go_simp
                refine wpAnyH_take (i := 19) (v := ?vt19) rfl (by kernel_rfl) (by kernel_rfl) (by kernel_rfl) (fun _ _ _ h => h) (Or.inl ⟨by kernel_rfl, ?hyt19⟩) (by assumption) ?restt19
                case hyt19 => (intro w hSw; (try dsimp only at hSw); go_simp; (try with_reducible rfl))
                go_simp
                refine wpAnyH_take (i := 20) (v := ?vt20) rfl (by kernel_rfl) (by kernel_rfl) (by kernel_rfl) (fun _ _ _ h => h) (Or.inl ⟨by kernel_rfl, ?hyt20⟩) (by assumption) ?restt20
                case hyt20 => (intro w hSw; (try dsimp only at hSw); go_simp; (try with_reducible rfl))
                go_simp
                refine wpAnyH_take (i := 21) (v := ?vt21) rfl (by kernel_rfl) (by kernel_rfl) (by kernel_rfl) (fun _ _ _ h => h) (Or.inl ⟨by kernel_rfl, ?hyt21⟩) (by assumption) ?restt21
                case hyt21 => (intro w hSw; (try dsimp only at hSw); go_simp; (try with_reducible rfl))
                go_simp
                refine wpAnyH_take (i := 22) (v := ?vt22) rfl (by kernel_rfl) (by kernel_rfl) (by kernel_rfl) (fun _ _ _ h => h) (Or.inl ⟨by kernel_rfl, ?hyt22⟩) (by assumption) ?restt22
                case hyt22 => (intro w hSw; (try dsimp only at hSw); go_simp; (try with_reducible rfl))
                go_simp
                refine wpAnyH_take (i := 24) (v := ?vt24) rfl (by kernel_rfl) (by kernel_rfl) (by kernel_rfl) (fun _ _ _ h => h) (Or.inl ⟨by kernel_rfl, ?hyt24⟩) (by assumption) ?restt24
                case hyt24 => (intro w hSw; (try dsimp only at hSw); go_simp; (try with_reducible rfl))
                go_simp
                refine wpAnyH_ready (rs := [23]) (by kernel_rfl) (by simp) ?_
                refine AllReadyH.cons rfl (fun K hK => ?_) AllReadyH.nil
                rw [if_pos (by kernel_rfl)]
                go_simp
                refine (OA.out _).mono ?_
                rintro e v23 ⟨rfl, b23⟩
                have cb9 := cb9.trans (b23.mono cb9.size)
                clear b23
                have kb := (xb.later cb9).cells
                have k9 := (x9.later cb9).cells
                go_wp2_with fail
                refine hK.out _ _ (by first | assumption | go_keep) (fun hHeld => ?_)
                clear hK K
                go_simp
                refine wpAnyH_ready (rs := [25]) (by kernel_rfl) (by simp) ?_
                refine AllReadyH.cons rfl (fun K hK => ?_) AllReadyH.nil
                rw [if_pos (by kernel_rfl)]
                go_simp
                refine (OA.out _).mono ?_
                rintro e v25 ⟨rfl, b25⟩
                have cb9 := cb9.trans (b25.mono cb9.size)
                clear b25
                have kb := (xb.later cb9).cells
                have k9 := (x9.later cb9).cells
                go_wp2_with fail
                refine hK.out _ _ (by first | assumption | go_keep) (fun hHeld => ?_)
                clear hK K
                go_simp
                refine wpAnyH_ready (rs := [26]) (by kernel_rfl) (by simp) ?_
                refine AllReadyH.cons rfl (fun K hK => ?_) AllReadyH.nil
                rw [if_pos (by kernel_rfl)]
                go_simp
                refine (PS.out _ cb9).mono ?_
                rintro e v26 ⟨rfl, b26⟩
                have cb9 := cb9.trans (b26.mono cb9.size)
                clear b26
                have kb := (xb.later cb9).cells
                have k9 := (x9.later cb9).cells
                go_wp2_with fail
                refine hK.out _ _ (by first | assumption | go_keep) (fun hHeld => ?_)
                clear hK K
                go_simp
                refine wpAnyH_take (i := 27) (v := ?vt27) rfl (by kernel_rfl) (by kernel_rfl) (by kernel_rfl) (fun _ _ _ h => h) (Or.inl ⟨by kernel_rfl, ?hyt27⟩) (by assumption) ?restt27
                case hyt27 => (intro w hSw; (try dsimp only at hSw); go_simp; (try with_reducible rfl))
                go_simp
                refine wpAnyH_take (i := 28) (v := ?vt28) rfl (by kernel_rfl) (by kernel_rfl) (by kernel_rfl) (fun _ _ _ h => h) (Or.inl ⟨by kernel_rfl, ?hyt28⟩) (by assumption) ?restt28
                case hyt28 => (intro w hSw; (try dsimp only at hSw); go_simp; (try with_reducible rfl))
                go_simp
                refine wpAnyH_ready (rs := [29]) (by kernel_rfl) (by simp) ?_
                refine AllReadyH.cons rfl (fun K hK => ?_) AllReadyH.nil
                rw [if_pos (by kernel_rfl)]
                go_simp
                refine (AWA.out _).mono ?_
                rintro e v29 ⟨rfl, b29⟩
                have cb9 := cb9.trans (b29.mono cb9.size)
                clear b29
                have kb := (xb.later cb9).cells
                have k9 := (x9.later cb9).cells
                go_wp2_with fail
                refine hK.out _ _ (by first | assumption | go_keep) (fun hHeld => ?_)
                clear hK K
                go_simp
                refine wpAnyH_take (i := 30) (v := ?vt30) rfl (by kernel_rfl) (by kernel_rfl) (by kernel_rfl) (fun _ _ _ h => h) (Or.inl ⟨by kernel_rfl, ?hyt30⟩) (by assumption) ?restt30
                case hyt30 => (intro w hSw; (try dsimp only at hSw); go_simp; (try with_reducible rfl))
                go_simp
                refine wpAnyH_ready (rs := [31]) (by kernel_rfl) (by simp) ?_
                refine AllReadyH.cons rfl (fun K hK => ?_) AllReadyH.nil
                rw [if_pos (by kernel_rfl)]
                go_simp
                refine hK.out _ _ hHeld (fun hHeld => ?_)
                clear hK K
                go_simp
                refine wpAnyH_done (by kernel_rfl) ?_ _
                refine NoPanic.normal ?_
                replace HB6 := HB6.trans (cb9.mono HB6.size)
                clear kb k9 cb9
                go_wp2
                go_ret
                exact ⟨rfl, HB6⟩
end
end Go.Proofs.Ytioecjoddgpjbaa
/-
  RecipeParts: a recipe reads each cell once, and no cell that it does not name; with too few values, or too many, it comes to none.
-/
namespace Go.Proofs.Ytioecjoddgpjbaa
open Go.RowKit

section
variable {A1 A2 A3 : Option Addr} {c1 c2 c3 : Nat} {r : Rcp} {i : List Vl} {w : World}
set_option maxRecDepth 100000 in
set_option maxHeartbeats 4000000 in
theorem recipeParts_ne (hq : ¬ (readsR r).length = i.length) (oa : Rok r) (oi : ∀ v ∈ i, OkV v) (hi : i.length ≤ maxLen) (ha1 : CelE.Row w A1 r.plus) (ha2 : CelE.Row w A2 r.minus) (hri : VlE.Row w A3 i) :
    Calls Try.prog 4 #[.agg #[.int .i64 r.base.n, .int .i64 r.base.e, .slice A1 r.plus.length c1, .slice A2 r.minus.length c2, .int .i64 r.sc.r, .int .i64 r.sc.e, .int .i64 r.sc.a, .int .i64 r.sc.p, .int .i64 r.sc.c, .int .i64 r.sc.q, .bool r.rt, .int .i64 r.num, .int .i64 r.den, .bool r.has], .slice A3 i.length c3] w fun e w' => e = .returned (.bool true) ∧ Below w.heap.size w w' := by
  unfold maxLen at hi
  have AWA := Lib.hid fun w => reawake_any w
  have FA := fun w => few29_any (A1 := A1) (A2 := A2) (c1 := c1) (c2 := c2) (r := r) w
  have hB : Below w.heap.size w (w.alloc (.cells #[.int .i64 r.base.n, .int .i64 r.base.e, .slice A1 r.plus.length c1, .slice A2 r.minus.length c2, .int .i64 r.sc.r, .int .i64 r.sc.e, .int .i64 r.sc.a, .int .i64 r.sc.p, .int .i64 r.sc.c, .int .i64 r.sc.q, .bool r.rt, .int .i64 r.num, .int .i64 r.den, .bool r.has] 31)) := (Below.refl _ _).alloc (Nat.le_refl _) _
  have xb := Box.new w 31 #[.int .i64 r.base.n, .int .i64 r.base.e, .slice A1 r.plus.length c1, .slice A2 r.minus.length c2, .int .i64 r.sc.r, .int .i64 r.sc.e, .int .i64 r.sc.a, .int .i64 r.sc.p, .int .i64 r.sc.c, .int .i64 r.sc.q, .bool r.rt, .int .i64 r.num, .int .i64 r.den, .bool r.has]
  have kb := xb.cells
  have lb := xb.lt
  by_cases fa : r.plus.length ≤ 60 ∧ r.minus.length ≤ 60
  case neg =>
    rw [show (decide (r.plus.length ≤ 60) && decide (r.minus.length ≤ 60)) = false by rw [← Bool.decide_and]; exact decide_eq_false fa] at FA
    replace FA := Lib.hid FA
    clear hq fa ha1 ha2 hri
    go_enter Try.func4, Try.ntmps4
    go_wp2_with fail
    refine (FA.out _).mono ?_
    rintro e w1 ⟨rfl, b1⟩
    replace hB := hB.trans (b1.mono hB.size)
    replace xb := xb.later b1
    have kb := xb.cells
    have lb := xb.lt
    clear b1
    go_wp2_with fail
    refine (AWA.out _).mono ?_
    rintro e w9 ⟨rfl, b9⟩
    replace hB := hB.trans (b9.mono hB.size)
    go_wp2
    go_ret
    exact ⟨rfl, hB⟩
  rw [show (decide (r.plus.length ≤ 60) && decide (r.minus.length ≤ 60)) = true by rw [← Bool.decide_and]; exact decide_eq_true fa] at FA
  replace FA := Lib.hid FA
  by_cases h200 : 200 < i.length
  · clear hq fa ha1 ha2 hri
    have h200i : (200 : Int) < (i.length : Int) := by omega
    go_enter Try.func4, Try.ntmps4
    go_wp2_with fail
    refine (FA.out _).mono ?_
    rintro e w1 ⟨rfl, b1⟩
    replace hB := hB.trans (b1.mono hB.size)
    replace xb := xb.later b1
    have kb := xb.cells
    have lb := xb.lt
    clear b1
    go_wp2_with fail
    refine (AWA.out _).mono ?_
    rintro e w9 ⟨rfl, b9⟩
    replace hB := hB.trans (b9.mono hB.size)
    go_wp2
    go_ret
    exact ⟨rfl, hB⟩
  have wfr := oa.wf fa.1 fa.2
  have h200i : ¬ (200 : Int) < (i.length : Int) := by omega
  have HR := Lib.hid (And.intro ha1 (And.intro ha2 hri))
  obtain ⟨L, hL⟩ : ∃ L, L = readsR r := ⟨_, rfl⟩
  have hLn := readsR_len wfr
  rw [← hL] at hq
  have hli := Lib.hid hq
  clear hq
  have hnd := readsR_nodup r
  have hmm : ∀ x, x ∈ readsR r ↔ x ∈ r.plus ∨ x ∈ r.minus ∨ (r.rt = true ∧ x = r.sc) := fun x => by
    unfold readsR allC
    rw [mem_unq, List.mem_append, List.mem_append, or_assoc]
    by_cases h : r.rt = true
    · rw [if_pos h]; simp [h]
    · rw [if_neg h]; simp [h]
  have hev2 : Hid (L.length ≠ i.length → evalR r i = ⟨0, 2⟩) := fun h => by unfold evalR; rw [if_pos (by rw [← hL]; exact h)]
  rw [← hL] at hLn hnd hmm
  have hplus : Hid (∀ x ∈ r.plus, x ∈ L) := fun x h => (hmm x).2 (.inl h)
  have hminus : Hid (∀ x ∈ r.minus, x ∈ L) := fun x h => (hmm x).2 (.inr (.inl h))
  have hsc : Hid (r.rt = true → r.sc ∈ L) := fun h => (hmm r.sc).2 (.inr (.inr ⟨h, rfl⟩))
  replace hmm := Lib.hid hmm
  replace hnd := Lib.hid hnd
  have hlp := fa.1
  have hlm := fa.2
  clear ha1 ha2 hri fa
  go_enter Try.func4, Try.ntmps4
  go_wp2_with fail
  refine (FA.out _).mono ?_
  rintro e w1 ⟨rfl, b1⟩
  replace hB := hB.trans (b1.mono hB.size)
  replace xb := xb.later b1
  have kb := xb.cells
  have lb := xb.lt
  clear b1
  have OF := Lib.hid fun w => of29_any (A1 := A1) (A2 := A2) (c1 := c1) (c2 := c2) (r := r) w
  go_wp2_with fail
  refine (OF.out _).mono ?_
  rintro e w2 ⟨rfl, b2⟩
  replace hB := hB.trans (b2.mono hB.size)
  replace xb := xb.later b2
  clear b2 OF kb lb
  have RD := reads_any (c1 := c1) (c2 := c2) wfr (HR.out.1.below hB (Nat.le_refl _)) (HR.out.2.1.below hB (Nat.le_refl _))
  rw [← hL] at RD
  replace RD := Lib.hid RD
  go_wp2_with fail
  refine RD.out.mono ?_
  rintro e W3 ⟨A5, c5, rfl, hc51, hc52, own5, b3⟩
  replace hB := hB.trans (b3.mono hB.size)
  replace xb := xb.later b3
  have HB := hB
  have R5 := Enc.Row.of_own (E := CelE) own5
  have rplus := HR.out.1.below hB (Nat.le_refl _)
  have rminus := HR.out.2.1.below hB (Nat.le_refl _)
  have ri := HR.out.2.2.below hB (Nat.le_refl _)
  have cb := Below.refl W3.heap.size W3
  clear b3 RD own5 hB FA HR
  replace hL := Lib.hid hL
  go_wp2
  go_loopw [6] (fun t wr => ∃ k : Nat, k ≤ L.length ∧ t = .int .i64 k ∧ Below W3.heap.size W3 wr) (fun t _ => L.length - (intOf t).toNat)
  case atStart => exact ⟨0, by omega, rfl, cb⟩
  case round =>
    clear cb
    obtain ⟨k, hk, rfl, cb⟩ := hrel
    have kb := (xb.later cb).cells
    have lb := (xb.later cb).lt
    by_cases hkn : k < L.length
    · obtain ⟨b0, off, rfl, hgb, hc⟩ := R5.get (by omega)
      have g0 := hc k hkn 0 _ rfl
      have g1 := hc k hkn 1 _ rfl
      have g2 := hc k hkn 2 _ rfl
      have g3 := hc k hkn 3 _ rfl
      have g4 := hc k hkn 4 _ rfl
      have g5 := hc k hkn 5 _ rfl
      have hxn := nodup_take hnd.out hkn
      have hxm := (hmm.out L[k]).1 (List.getElem_mem hkn)
      have H0 := fun W (cb : Below W3.heap.size W3 W) => chas_any (c := c5) (l := L.take k) L[k] (by rw [List.length_take]; omega) ((R5.take k).later cb)
      rw [decide_eq_false hxn, show (L.take k).length = k by rw [List.length_take]; omega] at H0
      have H1 := fun W (cb : Below W3.heap.size W3 W) => chas_any (c := c1) L[k] (by omega) (rplus.later cb)
      have H2 := fun W (cb : Below W3.heap.size W3 W) => chas_any (c := c2) L[k] (by omega) (rminus.later cb)
      have hkc : k ≤ c5 := by omega
      clear hc hxn
      generalize L[k] = x at *
      obtain ⟨x1, x2, x3, x4, x5, x6⟩ := x
      dsimp only at g0 g1 g2 g3 g4 g5
      rw [show CelE.n = 6 from rfl, Nat.add_zero] at g0
      rw [show CelE.n = 6 from rfl, ← Nat.add_assoc] at g1 g2 g3 g4 g5
      have d0 := (cb.cell (p := ⟨b0, off + k * 6, none⟩) hgb).trans g0
      have d1 := (cb.cell (p := ⟨b0, off + k * 6 + 1, none⟩) hgb).trans g1
      have d2 := (cb.cell (p := ⟨b0, off + k * 6 + 2, none⟩) hgb).trans g2
      have d3 := (cb.cell (p := ⟨b0, off + k * 6 + 3, none⟩) hgb).trans g3
      have d4 := (cb.cell (p := ⟨b0, off + k * 6 + 4, none⟩) hgb).trans g4
      have d5 := (cb.cell (p := ⟨b0, off + k * 6 + 5, none⟩) hgb).trans g5
      replace H0 := Lib.hid H0
      have cb : Below W3.heap.size W3 wr.drew := below_drewN cb 1
      unfold cv at H0 H1 H2
      dsimp only at H0 H1 H2
      by_cases hp : (⟨x1, x2, x3, x4, x5, x6⟩ : Cel) ∈ r.plus
      · rw [decide_eq_true hp] at H1
        replace H1 := Lib.hid H1
        clear H2 hp hxm
        go_upto_region 7 with fail
        refine wp_region_noPanic ?_
        refine wp_region_held_drew (S := (fun w' => w'.cell? ⟨b0, off + k * 6, none⟩ = some (.int .i64 x1) ∧ w'.cell? ⟨b0, off + k * 6 + 1, none⟩ = some (.int .i64 x2) ∧ w'.cell? ⟨b0, off + k * 6 + 2, none⟩ = some (.int .i64 x3) ∧ w'.cell? ⟨b0, off + k * 6 + 3, none⟩ = some (.int .i64 x4) ∧ w'.cell? ⟨b0, off + k * 6 + 4, none⟩ = some (.int .i64 x5) ∧ w'.cell? ⟨b0, off + k * 6 + 5, none⟩ = some (.int .i64 x6) ∧ w'.cell? ⟨w.heap.size, 2, none⟩ = some (.slice A1 r.plus.length c1) ∧ w'.cell? ⟨w.heap.size, 3, none⟩ = some (.slice A2 r.minus.length c2) ∧ w'.cell? ⟨w.heap.size, 4, none⟩ = some (.int .i64 r.sc.r) ∧ w'.cell? ⟨w.heap.size, 5, none⟩ = some (.int .i64 r.sc.e) ∧ w'.cell? ⟨w.heap.size, 6, none⟩ = some (.int .i64 r.sc.a) ∧ w'.cell? ⟨w.heap.size, 7, none⟩ = some (.int .i64 r.sc.p) ∧ w'.cell? ⟨w.heap.size, 8, none⟩ = some (.int .i64 r.sc.c) ∧ w'.cell? ⟨w.heap.size, 9, none⟩ = some (.int .i64 r.sc.q) ∧ w'.cell? ⟨w.heap.size, 10, none⟩ = some (.bool r.rt))) (by kernel_rfl) ?_ (fun hHeld => ?_)
        · first | assumption | go_keep
        refine wpAnyH_take (i := 0) (v := ?va0) rfl (by kernel_rfl) (by kernel_rfl) (by kernel_rfl) (fun _ _ _ h => h) (Or.inl ⟨by kernel_rfl, ?hya0⟩) (by assumption) ?resta0
        case hya0 => (intro w hSw; (try dsimp only at hSw); go_simp; (try with_reducible rfl))
        go_simp
        refine wpAnyH_take (i := 1) (v := ?va1) rfl (by kernel_rfl) (by kernel_rfl) (by kernel_rfl) (fun _ _ _ h => h) (Or.inl ⟨by kernel_rfl, ?hya1⟩) (by assumption) ?resta1
        case hya1 => (intro w hSw; (try dsimp only at hSw); go_simp; (try with_reducible rfl))
        go_simp
        refine wpAnyH_take (i := 2) (v := ?va2) rfl (by kernel_rfl) (by kernel_rfl) (by kernel_rfl) (fun _ _ _ h => h) (Or.inl ⟨by kernel_rfl, ?hya2⟩) (by assumption) ?resta2
        case hya2 => (intro w hSw; (try dsimp only at hSw); go_simp; (try with_reducible rfl))
        go_simp
        refine wpAnyH_take (i := 3) (v := ?va3) rfl (by kernel_rfl) (by kernel_rfl) (by kernel_rfl) (fun _ _ _ h => h) (Or.inl ⟨by kernel_rfl, ?hya3⟩) (by assumption) ?resta3
        case hya3 => (intro w hSw; (try dsimp only at hSw); go_simp; (try with_reducible rfl))
        go_simp
        refine wpAnyH_take (i := 4) (v := ?va4) rfl (by kernel_rfl) (by kernel_rfl) (by kernel_rfl) (fun _ _ _ h => h) (Or.inl ⟨by kernel_rfl, ?hya4⟩) (by assumption) ?resta4
        case hya4 => (intro w hSw; (try dsimp only at hSw); go_simp; (try with_reducible rfl))
        go_simp
        refine wpAnyH_take (i := 5) (v := ?va5) rfl (by kernel_rfl) (by kernel_rfl) (by kernel_rfl) (fun _ _ _ h => h) (Or.inl ⟨by kernel_rfl, ?hya5⟩) (by assumption) ?resta5
        case hya5 => (intro w hSw; (try dsimp only at hSw); go_simp; (try with_reducible rfl))
        go_simp
        refine wpAnyH_take (i := 6) (v := ?va6) rfl (by kernel_rfl) (by kernel_rfl) (by kernel_rfl) (fun _ _ _ h => h) (Or.inl ⟨by kernel_rfl, ?hya6⟩) (by assumption) ?resta6
        case hya6 => (intro w hSw; (try dsimp only at hSw); go_simp; (try with_reducible rfl))
        go_simp
        refine wpAnyH_ready (rs := [7]) (by kernel_rfl) (by simp) ?_
        refine AllReadyH.cons rfl (fun K hK => ?_) AllReadyH.nil
        rw [if_pos (by kernel_rfl)]
        go_simp
        refine (H0.out _ cb).mono ?_
        rintro e v1 ⟨rfl, b1⟩
        have cb := cb.trans (b1.mono cb.size)
        clear b1
        have kb := (xb.later cb).cells
        have d0 := (cb.cell (p := ⟨b0, off + k * 6, none⟩) hgb).trans g0
        have d1 := (cb.cell (p := ⟨b0, off + k * 6 + 1, none⟩) hgb).trans g1
        have d2 := (cb.cell (p := ⟨b0, off + k * 6 + 2, none⟩) hgb).trans g2
        have d3 := (cb.cell (p := ⟨b0, off + k * 6 + 3, none⟩) hgb).trans g3
        have d4 := (cb.cell (p := ⟨b0, off + k * 6 + 4, none⟩) hgb).trans g4
        have d5 := (cb.cell (p := ⟨b0, off + k * 6 + 5, none⟩) hgb).trans g5
        go_wp2_with fail
        refine hK.out _ _ (by first | assumption | go_keep) (fun hHeld => ?_)
        clear hK K
        go_simp
        refine wpAnyH_take (i := 8) (v := ?va8) rfl (by kernel_rfl) (by kernel_rfl) (by kernel_rfl) (fun _ _ _ h => h) (Or.inl ⟨by kernel_rfl, ?hya8⟩) (by assumption) ?resta8
        case hya8 => (intro w hSw; (try dsimp only at hSw); go_simp; (try with_reducible rfl))
        go_simp
        refine wpAnyH_take (i := 9) (v := ?va9) rfl (by kernel_rfl) (by kernel_rfl) (by kernel_rfl) (fun _ _ _ h => h) (Or.inl ⟨by kernel_rfl, ?hya9⟩) (by assumption) ?resta9
        case hya9 => (intro w hSw; (try dsimp only at hSw); go_simp; (try with_reducible rfl))
        go_simp
        refine wpAnyH_take (i := 10) (v := ?va10) rfl (by kernel_rfl) (by kernel_rfl) (by kernel_rfl) (fun _ _ _ h => h) (Or.inl ⟨by kernel_rfl, ?hya10⟩) (by assumption) ?resta10
        case hya10 => (intro w hSw; (try dsimp only at hSw); go_simp; (try with_reducible rfl))
        go_simp
        refine wpAnyH_take (i := 11) (v := ?va11) rfl (by kernel_rfl) (by kernel_rfl) (by kernel_rfl) (fun _ _ _ h => h) (Or.inl ⟨by kernel_rfl, ?hya11⟩) (by assumption) ?resta11
        case hya11 => (intro w hSw; (try dsimp only at hSw); go_simp; (try with_reducible rfl))
        go_simp
        refine wpAnyH_take (i := 12) (v := ?va12) rfl (by kernel_rfl) (by kernel_rfl) (by kernel_rfl) (fun _ _ _ h => h) (Or.inl ⟨by kernel_rfl, ?hya12⟩) (by assumption) ?resta12
        case hya12 => (intro w hSw; (try dsimp only at hSw); go_simp; (try with_reducible rfl))
        go_simp
        refine wpAnyH_take (i := 13) (v := ?va13) rfl (by kernel_rfl) (by kernel_rfl) (by kernel_rfl) (fun _ _ _ h => h) (Or.inl ⟨by kernel_rfl, ?hya13⟩) (by assumption) ?resta13
        case hya13 => (intro w hSw; (try dsimp only at hSw); go_simp; (try with_reducible rfl))
        go_simp
        refine wpAnyH_take (i := 14) (v := ?va14) rfl (by kernel_rfl) (by kernel_rfl) (by kernel_rfl) (fun _ _ _ h => h) (Or.inl ⟨by kernel_rfl, ?hya14⟩) (by assumption) ?resta14
        case hya14 => (intro w hSw; (try dsimp only at hSw); go_simp; (try with_reducible rfl))
        go_simp
        refine wpAnyH_ready (rs := [15]) (by kernel_rfl) (by simp) ?_
        refine AllReadyH.cons rfl (fun K hK => ?_) AllReadyH.nil
        rw [if_pos (by kernel_rfl)]
        go_simp
        refine (H1.out _ cb).mono ?_
        rintro e v2 ⟨rfl, b2⟩
        have cb := cb.trans (b2.mono cb.size)
        clear b2
        have kb := (xb.later cb).cells
        have d0 := (cb.cell (p := ⟨b0, off + k * 6, none⟩) hgb).trans g0
        have d1 := (cb.cell (p := ⟨b0, off + k * 6 + 1, none⟩) hgb).trans g1
        have d2 := (cb.cell (p := ⟨b0, off + k * 6 + 2, none⟩) hgb).trans g2
        have d3 := (cb.cell (p := ⟨b0, off + k * 6 + 3, none⟩) hgb).trans g3
        have d4 := (cb.cell (p := ⟨b0, off + k * 6 + 4, none⟩) hgb).trans g4
        have d5 := (cb.cell (p := ⟨b0, off + k * 6 + 5, none⟩) hgb).trans g5
        go_wp2_with fail
        refine hK.out _ _ (by first | assumption | go_keep) (fun hHeld => ?_)
        clear hK K
        go_simp
        refine wpAnyH_take (i := 16) (v := ?va16) rfl (by kernel_rfl) (by kernel_rfl) (by kernel_rfl) (fun _ _ _ h => h) (Or.inl ⟨by kernel_rfl, ?hya16⟩) (by assumption) ?resta16
        case hya16 => (intro w hSw; (try dsimp only at hSw); go_simp; (try with_reducible rfl))
        go_simp
        refine wpAnyH_take (i := 17) (v := ?va17) rfl (by kernel_rfl) (by kernel_rfl) (by kernel_rfl) (fun _ _ _ h => h) (Or.inl ⟨by kernel_rfl, ?hya17⟩) (by assumption) ?resta17
        case hya17 => (intro w hSw; (try dsimp only at hSw); go_simp; (try with_reducible rfl))
        go_simp
        refine wpAnyH_take (i := 18) (v := undef) rfl (by kernel_rfl) (by kernel_rfl) (by kernel_rfl) (fun _ _ _ h => h) (Or.inr ⟨by kernel_rfl, rfl⟩) (by assumption) ?_
        go_simp
        refine wpAnyH_take (i := 19) (v := undef) rfl (by kernel_rfl) (by kernel_rfl) (by kernel_rfl) (fun _ _ _ h => h) (Or.inr ⟨by kernel_rfl, rfl⟩) (by assumption) ?_
        go_simp
        refine wpAnyH_take (i := 20) (v := undef) rfl (by kernel_rfl) (by kernel_rfl) (by kernel_rfl) (fun _ _ _ h => h) (Or.inr ⟨by kernel_rfl, rfl⟩) (by assumption) ?_
        go_simp
        refine wpAnyH_take (i := 21) (v := undef) rfl (by kernel_rfl) (by kernel_rfl) (by kernel_rfl) (fun _ _ _ h => h) (Or.inr ⟨by kernel_rfl, rfl⟩) (by assumption) ?_
        go_simp
        refine wpAnyH_take (i := 22) (v := undef) rfl (by kernel_rfl) (by kernel_rfl) (by kernel_rfl) (fun _ _ _ h => h) (Or.inr ⟨by kernel_rfl, rfl⟩) (by assumption) ?_
        go_simp
        refine wpAnyH_take (i := 23) (v := undef) rfl (by kernel_rfl) (by kernel_rfl) (by kernel_rfl) (fun _ _ _ h => h) (Or.inr ⟨by kernel_rfl, rfl⟩) (by assumption) ?_
        go_simp
        refine wpAnyH_take (i := 24) (v := undef) rfl (by kernel_rfl) (by kernel_rfl) (by kernel_rfl) (fun _ _ _ h => h) (Or.inr ⟨by kernel_rfl, rfl⟩) (by assumption) ?_
        go_simp
        refine wpAnyH_take (i := 25) (v := undef) rfl (by kernel_rfl) (by kernel_rfl) (by kernel_rfl) (fun _ _ _ h => h) (Or.inr ⟨by kernel_rfl, rfl⟩) (by assumption) ?_
        go_simp
        refine wpAnyH_take (i := 26) (v := ?va26) rfl (by kernel_rfl) (by kernel_rfl) (by kernel_rfl) (fun _ _ _ h => h) (Or.inl ⟨by kernel_rfl, ?hya26⟩) (by assumption) ?resta26
        case hya26 => (intro w hSw; (try dsimp only at hSw); go_simp; (try with_reducible rfl))
        go_simp
        refine wpAnyH_take (i := 27) (v := ?va27) rfl (by kernel_rfl) (by kernel_rfl) (by kernel_rfl) (fun _ _ _ h => h) (Or.inl ⟨by kernel_rfl, ?hya27⟩) (by assumption) ?resta27
        case hya27 => (intro w hSw; (try dsimp only at hSw); go_simp; (try with_reducible rfl))
        go_simp
        refine wpAnyH_take (i := 28) (v := undef) rfl (by kernel_rfl) (by kernel_rfl) (by kernel_rfl) (fun _ _ _ h => h) (Or.inr ⟨by kernel_rfl, rfl⟩) (by assumption) ?_
        go_simp
        refine wpAnyH_take (i := 29) (v := undef) rfl (by kernel_rfl) (by kernel_rfl) (by kernel_rfl) (fun _ _ _ h => h) (Or.inr ⟨by kernel_rfl, rfl⟩) (by assumption) ?_
        go_simp
        refine wpAnyH_take (i := 30) (v := undef) rfl (by kernel_rfl) (by kernel_rfl) (by kernel_rfl) (fun _ _ _ h => h) (Or.inr ⟨by kernel_rfl, rfl⟩) (by assumption) ?_
        go_simp
        refine wpAnyH_take (i := 31) (v := undef) rfl (by kernel_rfl) (by kernel_rfl) (by kernel_rfl) (fun _ _ _ h => h) (Or.inr ⟨by kernel_rfl, rfl⟩) (by assumption) ?_
        go_simp
        refine wpAnyH_take (i := 32) (v := undef) rfl (by kernel_rfl) (by kernel_rfl) (by kernel_rfl) (fun _ _ _ h => h) (Or.inr ⟨by kernel_rfl, rfl⟩) (by assumption) ?_
        go_simp
        refine wpAnyH_take (i := 33) (v := undef) rfl (by kernel_rfl) (by kernel_rfl) (by kernel_rfl) (fun _ _ _ h => h) (Or.inr ⟨by kernel_rfl, rfl⟩) (by assumption) ?_
        go_simp
        refine wpAnyH_take (i := 34) (v := undef) rfl (by kernel_rfl) (by kernel_rfl) (by kernel_rfl) (fun _ _ _ h => h) (Or.inr ⟨by kernel_rfl, rfl⟩) (by assumption) ?_
        go_simp
        refine wpAnyH_take (i := 35) (v := undef) rfl (by kernel_rfl) (by kernel_rfl) (by kernel_rfl) (fun _ _ _ h => h) (Or.inr ⟨by kernel_rfl, rfl⟩) (by assumption) ?_
        go_simp
        refine wpAnyH_take (i := 36) (v := undef) rfl (by kernel_rfl) (by kernel_rfl) (by kernel_rfl) (fun _ _ _ h => h) (Or.inr ⟨by kernel_rfl, rfl⟩) (by assumption) ?_
        go_simp
        refine wpAnyH_take (i := 37) (v := undef) rfl (by kernel_rfl) (by kernel_rfl) (by kernel_rfl) (fun _ _ _ h => h) (Or.inr ⟨by kernel_rfl, rfl⟩) (by assumption) ?_
        go_simp
        refine wpAnyH_take (i := 38) (v := undef) rfl (by kernel_rfl) (by kernel_rfl) (by kernel_rfl) (fun _ _ _ h => h) (Or.inr ⟨by kernel_rfl, rfl⟩) (by assumption) ?_
        go_simp
        refine wpAnyH_take (i := 39) (v := undef) rfl (by kernel_rfl) (by kernel_rfl) (by kernel_rfl) (fun _ _ _ h => h) (Or.inr ⟨by kernel_rfl, rfl⟩) (by assumption) ?_
        go_simp
        refine wpAnyH_take (i := 40) (v := ?va40) rfl (by kernel_rfl) (by kernel_rfl) (by kernel_rfl) (fun _ _ _ h => h) (Or.inl ⟨by kernel_rfl, ?hya40⟩) (by assumption) ?resta40
        case hya40 => (intro w hSw; (try dsimp only at hSw); go_simp; (try with_reducible rfl))
        go_simp
        refine wpAnyH_take (i := 41) (v := ?va41) rfl (by kernel_rfl) (by kernel_rfl) (by kernel_rfl) (fun _ _ _ h => h) (Or.inl ⟨by kernel_rfl, ?hya41⟩) (by assumption) ?resta41
        case hya41 => (intro w hSw; (try dsimp only at hSw); go_simp; (try with_reducible rfl))
        go_simp
        refine wpAnyH_done (by kernel_rfl) ?_ _
        refine NoPanic.normal ?_
        clear kb d0 d1 d2 d3 d4 d5
        go_wp2
        go_roundw
        case rel => exact ⟨k + 1, by omega, by go_num, cb⟩
        case measure => simp [intOf]; omega
      · rw [decide_eq_false hp] at H1
        replace H1 := Lib.hid H1
        by_cases hm : (⟨x1, x2, x3, x4, x5, x6⟩ : Cel) ∈ r.minus
        · rw [decide_eq_true hm] at H2
          replace H2 := Lib.hid H2
          clear hp hm hxm
          go_upto_region 7 with fail
          refine wp_region_noPanic ?_
          refine wp_region_held_drew (S := (fun w' => w'.cell? ⟨b0, off + k * 6, none⟩ = some (.int .i64 x1) ∧ w'.cell? ⟨b0, off + k * 6 + 1, none⟩ = some (.int .i64 x2) ∧ w'.cell? ⟨b0, off + k * 6 + 2, none⟩ = some (.int .i64 x3) ∧ w'.cell? ⟨b0, off + k * 6 + 3, none⟩ = some (.int .i64 x4) ∧ w'.cell? ⟨b0, off + k * 6 + 4, none⟩ = some (.int .i64 x5) ∧ w'.cell? ⟨b0, off + k * 6 + 5, none⟩ = some (.int .i64 x6) ∧ w'.cell? ⟨w.heap.size, 2, none⟩ = some (.slice A1 r.plus.length c1) ∧ w'.cell? ⟨w.heap.size, 3, none⟩ = some (.slice A2 r.minus.length c2) ∧ w'.cell? ⟨w.heap.size, 4, none⟩ = some (.int .i64 r.sc.r) ∧ w'.cell? ⟨w.heap.size, 5, none⟩ = some (.int .i64 r.sc.e) ∧ w'.cell? ⟨w.heap.size, 6, none⟩ = some (.int .i64 r.sc.a) ∧ w'.cell? ⟨w.heap.size, 7, none⟩ = some (.int .i64 r.sc.p) ∧ w'.cell? ⟨w.heap.size, 8, none⟩ = some (.int .i64 r.sc.c) ∧ w'.cell? ⟨w.heap.size, 9, none⟩ = some (.int .i64 r.sc.q) ∧ w'.cell? ⟨w.heap.size, 10, none⟩ = some (.bool r.rt))) (by kernel_rfl) ?_ (fun hHeld => ?_)
          · first | assumption | go_keep
          refine wpAnyH_take (i := 0) (v := ?vb0) rfl (by kernel_rfl) (by kernel_rfl) (by kernel_rfl) (fun _ _ _ h => h) (Or.inl ⟨by kernel_rfl, ?hyb0⟩) (by assumption) ?restb0
          case hyb0 => (intro w hSw; (try dsimp only at hSw); go_simp; (try with_reducible rfl))
          go_simp
          refine wpAnyH_take (i := 1) (v := ?vb1) rfl (by kernel_rfl) (by kernel_rfl) (by kernel_rfl) (fun _ _ _ h => h) (Or.inl ⟨by kernel_rfl, ?hyb1⟩) (by assumption) ?restb1
          case hyb1 => (intro w hSw; (try dsimp only at hSw); go_simp; (try with_reducible rfl))
          go_simp
          refine wpAnyH_take (i := 2) (v := ?vb2) rfl (by kernel_rfl) (by kernel_rfl) (by kernel_rfl) (fun _ _ _ h => h) (Or.inl ⟨by kernel_rfl, ?hyb2⟩) (by assumption) ?restb2
          case hyb2 => (intro w hSw; (try dsimp only at hSw); go_simp; (try with_reducible rfl))
          go_simp
          refine wpAnyH_take (i := 3) (v := ?vb3) rfl (by kernel_rfl) (by kernel_rfl) (by kernel_rfl) (fun _ _ _ h => h) (Or.inl ⟨by kernel_rfl, ?hyb3⟩) (by assumption) ?restb3
          case hyb3 => (intro w hSw; (try dsimp only at hSw); go_simp; (try with_reducible rfl))
          go_simp
          refine wpAnyH_take (i := 4) (v := ?vb4) rfl (by kernel_rfl) (by kernel_rfl) (by kernel_rfl) (fun _ _ _ h => h) (Or.inl ⟨by kernel_rfl, ?hyb4⟩) (by assumption) ?restb4
          case hyb4 => (intro w hSw; (try dsimp only at hSw); go_simp; (try with_reducible rfl))
          go_simp
          refine wpAnyH_take (i := 5) (v := ?vb5) rfl (by kernel_rfl) (by kernel_rfl) (by kernel_rfl) (fun _ _ _ h => h) (Or.inl ⟨by kernel_rfl, ?hyb5⟩) (by assumption) ?restb5
          case hyb5 => (intro w hSw; (try dsimp only at hSw); go_simp; (try with_reducible rfl))
          go_simp
          refine wpAnyH_take (i := 6) (v := ?vb6) rfl (by kernel_rfl) (by kernel_rfl) (by kernel_rfl) (fun _ _ _ h => h) (Or.inl ⟨by kernel_rfl, ?hyb6⟩) (by assumption) ?restb6
          case hyb6 => (intro w hSw; (try dsimp only at hSw); go_simp; (try with_reducible rfl))
          go_simp
          refine wpAnyH_ready (rs := [7]) (by kernel_rfl) (by simp) ?_
          refine AllReadyH.cons rfl (fun K hK => ?_) AllReadyH.nil
          rw [if_pos (by kernel_rfl)]
          go_simp
          refine (H0.out _ cb).mono ?_
          rintro e v1 ⟨rfl, b1⟩
          have cb := cb.trans (b1.mono cb.size)
          clear b1
          have kb := (xb.later cb).cells
          have d0 := (cb.cell (p := ⟨b0, off + k * 6, none⟩) hgb).trans g0
          have d1 := (cb.cell (p := ⟨b0, off + k * 6 + 1, none⟩) hgb).trans g1
          have d2 := (cb.cell (p := ⟨b0, off + k * 6 + 2, none⟩) hgb).trans g2
          have d3 := (cb.cell (p := ⟨b0, off + k * 6 + 3, none⟩) hgb).trans g3
          have d4 := (cb.cell (p := ⟨b0, off + k * 6 + 4, none⟩) hgb).trans g4
          have d5 := (cb.cell (p := ⟨b0, off + k * 6 + 5, none⟩) hgb).trans g5
          go_wp2_with fail
          refine hK.out _ _ (by first | assumption | go_keep) (fun hHeld => ?_)
          clear hK K
          go_simp
          refine wpAnyH_take (i := 8) (v := ?vb8) rfl (by kernel_rfl) (by kernel_rfl) (by kernel_rfl) (fun _ _ _ h => h) (Or.inl ⟨by kernel_rfl, ?hyb8⟩) (by assumption) ?restb8
          case hyb8 => (intro w hSw; (try dsimp only at hSw); go_simp; (try with_reducible rfl))
          go_simp
          refine wpAnyH_take (i := 9) (v := ?vb9) rfl (by kernel_rfl) (by kernel_rfl) (by kernel_rfl) (fun _ _ _ h => h) (Or.inl ⟨by kernel_rfl, ?hyb9⟩) (by assumption) ?restb9
          case hyb9 => (intro w hSw; (try dsimp only at hSw); go_simp; (try with_reducible rfl))
          go_simp
          refine wpAnyH_take (i := 10) (v := ?vb10) rfl (by kernel_rfl) (by kernel_rfl) (by kernel_rfl) (fun _ _ _ h => h) (Or.inl ⟨by kernel_rfl, ?hyb10⟩) (by assumption) ?restb10
          case hyb10 => (intro w hSw; (try dsimp only at hSw); go_simp; (try with_reducible rfl))
          go_simp
          refine wpAnyH_take (i := 11) (v := ?vb11) rfl (by kernel_rfl) (by kernel_rfl) (by kernel_rfl) (fun _ _ _ h => h) (Or.inl ⟨by kernel_rfl, ?hyb11⟩) (by assumption) ?restb11
          case hyb11 => (intro w hSw; (try dsimp only at hSw); go_simp; (try with_reducible rfl))
          go_simp
          refine wpAnyH_take (i := 12) (v := ?vb12) rfl (by kernel_rfl) (by kernel_rfl) (by kernel_rfl) (fun _ _ _ h => h) (Or.inl ⟨by kernel_rfl, ?hyb12⟩) (by assumption) ?restb12
          case hyb12 => (intro w hSw; (try dsimp only at hSw); go_simp; (try with_reducible rfl))
          go_simp
          refine wpAnyH_take (i := 13) (v := ?vb13) rfl (by kernel_rfl) (by kernel_rfl) (by kernel_rfl) (fun _ _ _ h => h) (Or.inl ⟨by kernel_rfl, ?hyb13⟩) (by assumption) ?restb13
          case hyb13 => (intro w hSw; (try dsimp only at hSw); go_simp; (try with_reducible rfl))
          go_simp
          refine wpAnyH_take (i := 14) (v := ?vb14) rfl (by kernel_rfl) (by kernel_rfl) (by kernel_rfl) (fun _ _ _ h => h) (Or.inl ⟨by kernel_rfl, ?hyb14⟩) (by assumption) ?restb14
          case hyb14 => (intro w hSw; (try dsimp only at hSw); go_simp; (try with_reducible rfl))
          go_simp
          refine wpAnyH_ready (rs := [15]) (by kernel_rfl) (by simp) ?_
          refine AllReadyH.cons rfl (fun K hK => ?_) AllReadyH.nil
          rw [if_pos (by kernel_rfl)]
          go_simp
          refine (H1.out _ cb).mono ?_
          rintro e v2 ⟨rfl, b2⟩
          have cb := cb.trans (b2.mono cb.size)
          clear b2
          have kb := (xb.later cb).cells
          have d0 := (cb.cell (p := ⟨b0, off + k * 6, none⟩) hgb).trans g0
          have d1 := (cb.cell (p := ⟨b0, off + k * 6 + 1, none⟩) hgb).trans g1
          have d2 := (cb.cell (p := ⟨b0, off + k * 6 + 2, none⟩) hgb).trans g2
          have d3 := (cb.cell (p := ⟨b0, off + k * 6 + 3, none⟩) hgb).trans g3
          have d4 := (cb.cell (p := ⟨b0, off + k * 6 + 4, none⟩) hgb).trans g4
          have d5 := (cb.cell (p := ⟨b0, off + k * 6 + 5, none⟩) hgb).trans g5
          go_wp2_with fail
          refine hK.out _ _ (by first | assumption | go_keep) (fun hHeld => ?_)
          clear hK K
          go_simp
          refine wpAnyH_take (i := 16) (v := ?vb16) rfl (by kernel_rfl) (by kernel_rfl) (by kernel_rfl) (fun _ _ _ h => h) (Or.inl ⟨by kernel_rfl, ?hyb16⟩) (by assumption) ?restb16
          case hyb16 => (intro w hSw; (try dsimp only at hSw); go_simp; (try with_reducible rfl))
          go_simp
          refine wpAnyH_take (i := 17) (v := ?vb17) rfl (by kernel_rfl) (by kernel_rfl) (by kernel_rfl) (fun _ _ _ h => h) (Or.inl ⟨by kernel_rfl, ?hyb17⟩) (by assumption) ?restb17
          case hyb17 => (intro w hSw; (try dsimp only at hSw); go_simp; (try with_reducible rfl))
          go_simp
          refine wpAnyH_take (i := 18) (v := ?vb18) rfl (by kernel_rfl) (by kernel_rfl) (by kernel_rfl) (fun _ _ _ h => h) (Or.inl ⟨by kernel_rfl, ?hyb18⟩) (by assumption) ?restb18
          case hyb18 => (intro w hSw; (try dsimp only at hSw); go_simp; (try with_reducible rfl))
          go_simp
          refine wpAnyH_take (i := 19) (v := ?vb19) rfl (by kernel_rfl) (by kernel_rfl) (by kernel_rfl) (fun _ _ _ h => h) (Or.inl ⟨by kernel_rfl, ?hyb19⟩) (by assumption) ?restb19
          case hyb19 => (intro w hSw; (try dsimp only at hSw); go_simp; (try with_reducible rfl))
          go_simp
          refine wpAnyH_take (i := 20) (v := ?vb20) rfl (by kernel_rfl) (by kernel_rfl) (by kernel_rfl) (fun _ _ _ h => h) (Or.inl ⟨by kernel_rfl, ?hyb20⟩) (by assumption) ?restb20
          case hyb20 => (intro w hSw; (try dsimp only at hSw); go_simp; (try with_reducible rfl))
          go_simp
          refine wpAnyH_take (i := 21) (v := ?vb21) rfl (by kernel_rfl) (by kernel_rfl) (by kernel_rfl) (fun _ _ _ h => h) (Or.inl ⟨by kernel_rfl, ?hyb21⟩) (by assumption) ?restb21
          case hyb21 => (intro w hSw; (try dsimp only at hSw); go_simp; (try with_reducible rfl))
          go_simp
          refine wpAnyH_take (i := 22) (v := ?vb22) rfl (by kernel_rfl) (by kernel_rfl) (by kernel_rfl) (fun _ _ _ h => h) (Or.inl ⟨by kernel_rfl, ?hyb22⟩) (by assumption) ?restb22
          case hyb22 => (intro w hSw; (try dsimp only at hSw); go_simp; (try with_reducible rfl))
          go_simp
          refine wpAnyH_take (i := 23) (v := ?vb23) rfl (by kernel_rfl) (by kernel_rfl) (by kernel_rfl) (fun _ _ _ h => h) (Or.inl ⟨by kernel_rfl, ?hyb23⟩) (by assumption) ?restb23
          case hyb23 => (intro w hSw; (try dsimp only at hSw); go_simp; (try with_reducible rfl))
          go_simp
          refine wpAnyH_ready (rs := [24]) (by kernel_rfl) (by simp) ?_
          refine AllReadyH.cons rfl (fun K hK => ?_) AllReadyH.nil
          rw [if_pos (by kernel_rfl)]
          go_simp
          refine (H2.out _ cb).mono ?_
          rintro e v3 ⟨rfl, b3⟩
          have cb := cb.trans (b3.mono cb.size)
          clear b3
          have kb := (xb.later cb).cells
          have d0 := (cb.cell (p := ⟨b0, off + k * 6, none⟩) hgb).trans g0
          have d1 := (cb.cell (p := ⟨b0, off + k * 6 + 1, none⟩) hgb).trans g1
          have d2 := (cb.cell (p := ⟨b0, off + k * 6 + 2, none⟩) hgb).trans g2
          have d3 := (cb.cell (p := ⟨b0, off + k * 6 + 3, none⟩) hgb).trans g3
          have d4 := (cb.cell (p := ⟨b0, off + k * 6 + 4, none⟩) hgb).trans g4
          have d5 := (cb.cell (p := ⟨b0, off + k * 6 + 5, none⟩) hgb).trans g5
          go_wp2_with fail
          refine hK.out _ _ (by first | assumption | go_keep) (fun hHeld => ?_)
          clear hK K
          go_simp
          refine wpAnyH_take (i := 25) (v := ?vb25) rfl (by kernel_rfl) (by kernel_rfl) (by kernel_rfl) (fun _ _ _ h => h) (Or.inl ⟨by kernel_rfl, ?hyb25⟩) (by assumption) ?restb25
          case hyb25 => (intro w hSw; (try dsimp only at hSw); go_simp; (try with_reducible rfl))
          go_simp
          refine wpAnyH_take (i := 26) (v := ?vb26) rfl (by kernel_rfl) (by kernel_rfl) (by kernel_rfl) (fun _ _ _ h => h) (Or.inl ⟨by kernel_rfl, ?hyb26⟩) (by assumption) ?restb26
          case hyb26 => (intro w hSw; (try dsimp only at hSw); go_simp; (try with_reducible rfl))
          go_simp
          refine wpAnyH_take (i := 27) (v := ?vb27) rfl (by kernel_rfl) (by kernel_rfl) (by kernel_rfl) (fun _ _ _ h => h) (Or.inl ⟨by kernel_rfl, ?hyb27⟩) (by assumption) ?restb27
          case hyb27 => (intro w hSw; (try dsimp only at hSw); go_simp; (try with_reducible rfl))
          go_simp
          refine wpAnyH_take (i := 28) (v := undef) rfl (by kernel_rfl) (by kernel_rfl) (by kernel_rfl) (fun _ _ _ h => h) (Or.inr ⟨by kernel_rfl, rfl⟩) (by assumption) ?_
          go_simp
          refine wpAnyH_take (i := 29) (v := undef) rfl (by kernel_rfl) (by kernel_rfl) (by kernel_rfl) (fun _ _ _ h => h) (Or.inr ⟨by kernel_rfl, rfl⟩) (by assumption) ?_
          go_simp
          refine wpAnyH_take (i := 30) (v := undef) rfl (by kernel_rfl) (by kernel_rfl) (by kernel_rfl) (fun _ _ _ h => h) (Or.inr ⟨by kernel_rfl, rfl⟩) (by assumption) ?_
          go_simp
          refine wpAnyH_take (i := 31) (v := undef) rfl (by kernel_rfl) (by kernel_rfl) (by kernel_rfl) (fun _ _ _ h => h) (Or.inr ⟨by kernel_rfl, rfl⟩) (by assumption) ?_
          go_simp
          refine wpAnyH_take (i := 32) (v := undef) rfl (by kernel_rfl) (by kernel_rfl) (by kernel_rfl) (fun _ _ _ h => h) (Or.inr ⟨by kernel_rfl, rfl⟩) (by assumption) ?_
          go_simp
          refine wpAnyH_take (i := 33) (v := undef) rfl (by kernel_rfl) (by kernel_rfl) (by kernel_rfl) (fun _ _ _ h => h) (Or.inr ⟨by kernel_rfl, rfl⟩) (by assumption) ?_
          go_simp
          refine wpAnyH_take (i := 34) (v := undef) rfl (by kernel_rfl) (by kernel_rfl) (by kernel_rfl) (fun _ _ _ h => h) (Or.inr ⟨by kernel_rfl, rfl⟩) (by assumption) ?_
          go_simp
          refine wpAnyH_take (i := 35) (v := undef) rfl (by kernel_rfl) (by kernel_rfl) (by kernel_rfl) (fun _ _ _ h => h) (Or.inr ⟨by kernel_rfl, rfl⟩) (by assumption) ?_
          go_simp
          refine wpAnyH_take (i := 36) (v := undef) rfl (by kernel_rfl) (by kernel_rfl) (by kernel_rfl) (fun _ _ _ h => h) (Or.inr ⟨by kernel_rfl, rfl⟩) (by assumption) ?_
          go_simp
          refine wpAnyH_take (i := 37) (v := undef) rfl (by kernel_rfl) (by kernel_rfl) (by kernel_rfl) (fun _ _ _ h => h) (Or.inr ⟨by kernel_rfl, rfl⟩) (by assumption) ?_
          go_simp
          refine wpAnyH_take (i := 38) (v := undef) rfl (by kernel_rfl) (by kernel_rfl) (by kernel_rfl) (fun _ _ _ h => h) (Or.inr ⟨by kernel_rfl, rfl⟩) (by assumption) ?_
          go_simp
          refine wpAnyH_take (i := 39) (v := undef) rfl (by kernel_rfl) (by kernel_rfl) (by kernel_rfl) (fun _ _ _ h => h) (Or.inr ⟨by kernel_rfl, rfl⟩) (by assumption) ?_
          go_simp
          refine wpAnyH_take (i := 40) (v := ?vb40) rfl (by kernel_rfl) (by kernel_rfl) (by kernel_rfl) (fun _ _ _ h => h) (Or.inl ⟨by kernel_rfl, ?hyb40⟩) (by assumption) ?restb40
          case hyb40 => (intro w hSw; (try dsimp only at hSw); go_simp; (try with_reducible rfl))
          go_simp
          refine wpAnyH_take (i := 41) (v := ?vb41) rfl (by kernel_rfl) (by kernel_rfl) (by kernel_rfl) (fun _ _ _ h => h) (Or.inl ⟨by kernel_rfl, ?hyb41⟩) (by assumption) ?restb41
          case hyb41 => (intro w hSw; (try dsimp only at hSw); go_simp; (try with_reducible rfl))
          go_simp
          refine wpAnyH_done (by kernel_rfl) ?_ _
          refine NoPanic.normal ?_
          clear kb d0 d1 d2 d3 d4 d5
          go_wp2
          go_roundw
          case rel => exact ⟨k + 1, by omega, by go_num, cb⟩
          case measure => simp [intOf]; omega
        · rw [decide_eq_false hm] at H2
          replace H2 := Lib.hid H2
          obtain ⟨hrt, hxs⟩ := (hxm.resolve_left hp).resolve_left hm
          have CE := fun w => ceq r.sc.r r.sc.e r.sc.a r.sc.p r.sc.c r.sc.q x1 x2 x3 x4 x5 x6 w
          rw [show decide ((⟨r.sc.r, r.sc.e, r.sc.a, r.sc.p, r.sc.c, r.sc.q⟩ : Cel) = ⟨x1, x2, x3, x4, x5, x6⟩) = true from decide_eq_true hxs.symm] at CE
          rw [hrt] at xb kb
          clear hp hm hxm hxs hrt
          go_upto_region 7 with fail
          refine wp_region_noPanic ?_
          refine wp_region_held_drew (S := (fun w' => w'.cell? ⟨b0, off + k * 6, none⟩ = some (.int .i64 x1) ∧ w'.cell? ⟨b0, off + k * 6 + 1, none⟩ = some (.int .i64 x2) ∧ w'.cell? ⟨b0, off + k * 6 + 2, none⟩ = some (.int .i64 x3) ∧ w'.cell? ⟨b0, off + k * 6 + 3, none⟩ = some (.int .i64 x4) ∧ w'.cell? ⟨b0, off + k * 6 + 4, none⟩ = some (.int .i64 x5) ∧ w'.cell? ⟨b0, off + k * 6 + 5, none⟩ = some (.int .i64 x6) ∧ w'.cell? ⟨w.heap.size, 2, none⟩ = some (.slice A1 r.plus.length c1) ∧ w'.cell? ⟨w.heap.size, 3, none⟩ = some (.slice A2 r.minus.length c2) ∧ w'.cell? ⟨w.heap.size, 4, none⟩ = some (.int .i64 r.sc.r) ∧ w'.cell? ⟨w.heap.size, 5, none⟩ = some (.int .i64 r.sc.e) ∧ w'.cell? ⟨w.heap.size, 6, none⟩ = some (.int .i64 r.sc.a) ∧ w'.cell? ⟨w.heap.size, 7, none⟩ = some (.int .i64 r.sc.p) ∧ w'.cell? ⟨w.heap.size, 8, none⟩ = some (.int .i64 r.sc.c) ∧ w'.cell? ⟨w.heap.size, 9, none⟩ = some (.int .i64 r.sc.q) ∧ w'.cell? ⟨w.heap.size, 10, none⟩ = some (.bool true))) (by kernel_rfl) ?_ (fun hHeld => ?_)
          · first | assumption | go_keep
          refine wpAnyH_take (i := 0) (v := ?vc0) rfl (by kernel_rfl) (by kernel_rfl) (by kernel_rfl) (fun _ _ _ h => h) (Or.inl ⟨by kernel_rfl, ?hyc0⟩) (by assumption) ?restc0
          case hyc0 => (intro w hSw; (try dsimp only at hSw); go_simp; (try with_reducible rfl))
          go_simp
          refine wpAnyH_take (i := 1) (v := ?vc1) rfl (by kernel_rfl) (by kernel_rfl) (by kernel_rfl) (fun _ _ _ h => h) (Or.inl ⟨by kernel_rfl, ?hyc1⟩) (by assumption) ?restc1
          case hyc1 => (intro w hSw; (try dsimp only at hSw); go_simp; (try with_reducible rfl))
          go_simp
          refine wpAnyH_take (i := 2) (v := ?vc2) rfl (by kernel_rfl) (by kernel_rfl) (by kernel_rfl) (fun _ _ _ h => h) (Or.inl ⟨by kernel_rfl, ?hyc2⟩) (by assumption) ?restc2
          case hyc2 => (intro w hSw; (try dsimp only at hSw); go_simp; (try with_reducible rfl))
          go_simp
          refine wpAnyH_take (i := 3) (v := ?vc3) rfl (by kernel_rfl) (by kernel_rfl) (by kernel_rfl) (fun _ _ _ h => h) (Or.inl ⟨by kernel_rfl, ?hyc3⟩) (by assumption) ?restc3
          case hyc3 => (intro w hSw; (try dsimp only at hSw); go_simp; (try with_reducible rfl))
          go_simp
          refine wpAnyH_take (i := 4) (v := ?vc4) rfl (by kernel_rfl) (by kernel_rfl) (by kernel_rfl) (fun _ _ _ h => h) (Or.inl ⟨by kernel_rfl, ?hyc4⟩) (by assumption) ?restc4
          case hyc4 => (intro w hSw; (try dsimp only at hSw); go_simp; (try with_reducible rfl))
          go_simp
          refine wpAnyH_take (i := 5) (v := ?vc5) rfl (by kernel_rfl) (by kernel_rfl) (by kernel_rfl) (fun _ _ _ h => h) (Or.inl ⟨by kernel_rfl, ?hyc5⟩) (by assumption) ?restc5
          case hyc5 => (intro w hSw; (try dsimp only at hSw); go_simp; (try with_reducible rfl))
          go_simp
          refine wpAnyH_take (i := 6) (v := ?vc6) rfl (by kernel_rfl) (by kernel_rfl) (by kernel_rfl) (fun _ _ _ h => h) (Or.inl ⟨by kernel_rfl, ?hyc6⟩) (by assumption) ?restc6
          case hyc6 => (intro w hSw; (try dsimp only at hSw); go_simp; (try with_reducible rfl))
          go_simp
          refine wpAnyH_ready (rs := [7]) (by kernel_rfl) (by simp) ?_
          refine AllReadyH.cons rfl (fun K hK => ?_) AllReadyH.nil
          rw [if_pos (by kernel_rfl)]
          go_simp
          refine (H0.out _ cb).mono ?_
          rintro e v1 ⟨rfl, b1⟩
          have cb := cb.trans (b1.mono cb.size)
          clear b1
          have kb := (xb.later cb).cells
          have d0 := (cb.cell (p := ⟨b0, off + k * 6, none⟩) hgb).trans g0
          have d1 := (cb.cell (p := ⟨b0, off + k * 6 + 1, none⟩) hgb).trans g1
          have d2 := (cb.cell (p := ⟨b0, off + k * 6 + 2, none⟩) hgb).trans g2
          have d3 := (cb.cell (p := ⟨b0, off + k * 6 + 3, none⟩) hgb).trans g3
          have d4 := (cb.cell (p := ⟨b0, off + k * 6 + 4, none⟩) hgb).trans g4
          have d5 := (cb.cell (p := ⟨b0, off + k * 6 + 5, none⟩) hgb).trans g5
          go_wp2_with fail
          refine hK.out _ _ (by first | assumption | go_keep) (fun hHeld => ?_)
          clear hK K
          go_simp
          refine wpAnyH_take (i := 8) (v := ?vc8) rfl (by kernel_rfl) (by kernel_rfl) (by kernel_rfl) (fun _ _ _ h => h) (Or.inl ⟨by kernel_rfl, ?hyc8⟩) (by assumption) ?restc8
          case hyc8 => (intro w hSw; (try dsimp only at hSw); go_simp; (try with_reducible rfl))
          go_simp
          refine wpAnyH_take (i := 9) (v := ?vc9) rfl (by kernel_rfl) (by kernel_rfl) (by kernel_rfl) (fun _ _ _ h => h) (Or.inl ⟨by kernel_rfl, ?hyc9⟩) (by assumption) ?restc9
          case hyc9 => (intro w hSw; (try dsimp only at hSw); go_simp; (try with_reducible rfl))
          go_simp
          refine wpAnyH_take (i := 10) (v := ?vc10) rfl (by kernel_rfl) (by kernel_rfl) (by kernel_rfl) (fun _ _ _ h => h) (Or.inl ⟨by kernel_rfl, ?hyc10⟩) (by assumption) ?restc10
          case hyc10 => (intro w hSw; (try dsimp only at hSw); go_simp; (try with_reducible rfl))
          go_simp
          refine wpAnyH_take (i := 11) (v := ?vc11) rfl (by kernel_rfl) (by kernel_rfl) (by kernel_rfl) (fun _ _ _ h => h) (Or.inl ⟨by kernel_rfl, ?hyc11⟩) (by assumption) ?restc11
          case hyc11 => (intro w hSw; (try dsimp only at hSw); go_simp; (try with_reducible rfl))
          go_simp
          refine wpAnyH_take (i := 12) (v := ?vc12) rfl (by kernel_rfl) (by kernel_rfl) (by kernel_rfl) (fun _ _ _ h => h) (Or.inl ⟨by kernel_rfl, ?hyc12⟩) (by assumption) ?restc12
          case hyc12 => (intro w hSw; (try dsimp only at hSw); go_simp; (try with_reducible rfl))
          go_simp
          refine wpAnyH_take (i := 13) (v := ?vc13) rfl (by kernel_rfl) (by kernel_rfl) (by kernel_rfl) (fun _ _ _ h => h) (Or.inl ⟨by kernel_rfl, ?hyc13⟩) (by assumption) ?restc13
          case hyc13 => (intro w hSw; (try dsimp only at hSw); go_simp; (try with_reducible rfl))
          go_simp
          refine wpAnyH_take (i := 14) (v := ?vc14) rfl (by kernel_rfl) (by kernel_rfl) (by kernel_rfl) (fun _ _ _ h => h) (Or.inl ⟨by kernel_rfl, ?hyc14⟩) (by assumption) ?restc14
          case hyc14 => (intro w hSw; (try dsimp only at hSw); go_simp; (try with_reducible rfl))
          go_simp
          refine wpAnyH_ready (rs := [15]) (by kernel_rfl) (by simp) ?_
          refine AllReadyH.cons rfl (fun K hK => ?_) AllReadyH.nil
          rw [if_pos (by kernel_rfl)]
          go_simp
          refine (H1.out _ cb).mono ?_
          rintro e v2 ⟨rfl, b2⟩
          have cb := cb.trans (b2.mono cb.size)
          clear b2
          have kb := (xb.later cb).cells
          have d0 := (cb.cell (p := ⟨b0, off + k * 6, none⟩) hgb).trans g0
          have d1 := (cb.cell (p := ⟨b0, off + k * 6 + 1, none⟩) hgb).trans g1
          have d2 := (cb.cell (p := ⟨b0, off + k * 6 + 2, none⟩) hgb).trans g2
          have d3 := (cb.cell (p := ⟨b0, off + k * 6 + 3, none⟩) hgb).trans g3
          have d4 := (cb.cell (p := ⟨b0, off + k * 6 + 4, none⟩) hgb).trans g4
          have d5 := (cb.cell (p := ⟨b0, off + k * 6 + 5, none⟩) hgb).trans g5
          go_wp2_with fail
          refine hK.out _ _ (by first | assumption | go_keep) (fun hHeld => ?_)
          clear hK K
          go_simp
          refine wpAnyH_take (i := 16) (v := ?vc16) rfl (by kernel_rfl) (by kernel_rfl) (by kernel_rfl) (fun _ _ _ h => h) (Or.inl ⟨by kernel_rfl, ?hyc16⟩) (by assumption) ?restc16
          case hyc16 => (intro w hSw; (try dsimp only at hSw); go_simp; (try with_reducible rfl))
          go_simp
          refine wpAnyH_take (i := 17) (v := ?vc17) rfl (by kernel_rfl) (by kernel_rfl) (by kernel_rfl) (fun _ _ _ h => h) (Or.inl ⟨by kernel_rfl, ?hyc17⟩) (by assumption) ?restc17
          case hyc17 => (intro w hSw; (try dsimp only at hSw); go_simp; (try with_reducible rfl))
          go_simp
          refine wpAnyH_take (i := 18) (v := ?vc18) rfl (by kernel_rfl) (by kernel_rfl) (by kernel_rfl) (fun _ _ _ h => h) (Or.inl ⟨by kernel_rfl, ?hyc18⟩) (by assumption) ?restc18
          case hyc18 => (intro w hSw; (try dsimp only at hSw); go_simp; (try with_reducible rfl))
          go_simp
          refine wpAnyH_take (i := 19) (v := ?vc19) rfl (by kernel_rfl) (by kernel_rfl) (by kernel_rfl) (fun _ _ _ h => h) (Or.inl ⟨by kernel_rfl, ?hyc19⟩) (by assumption) ?restc19
          case hyc19 => (intro w hSw; (try dsimp only at hSw); go_simp; (try with_reducible rfl))
          go_simp
          refine wpAnyH_take (i := 20) (v := ?vc20) rfl (by kernel_rfl) (by kernel_rfl) (by kernel_rfl) (fun _ _ _ h => h) (Or.inl ⟨by kernel_rfl, ?hyc20⟩) (by assumption) ?restc20
          case hyc20 => (intro w hSw; (try dsimp only at hSw); go_simp; (try with_reducible rfl))
          go_simp
          refine wpAnyH_take (i := 21) (v := ?vc21) rfl (by kernel_rfl) (by kernel_rfl) (by kernel_rfl) (fun _ _ _ h => h) (Or.inl ⟨by kernel_rfl, ?hyc21⟩) (by assumption) ?restc21
          case hyc21 => (intro w hSw; (try dsimp only at hSw); go_simp; (try with_reducible rfl))
          go_simp
          refine wpAnyH_take (i := 22) (v := ?vc22) rfl (by kernel_rfl) (by kernel_rfl) (by kernel_rfl) (fun _ _ _ h => h) (Or.inl ⟨by kernel_rfl, ?hyc22⟩) (by assumption) ?restc22
          case hyc22 => (intro w hSw; (try dsimp only at hSw); go_simp; (try with_reducible rfl))
          go_simp
          refine wpAnyH_take (i := 23) (v := ?vc23) rfl (by kernel_rfl) (by kernel_rfl) (by kernel_rfl) (fun _ _ _ h => h) (Or.inl ⟨by kernel_rfl, ?hyc23⟩) (by assumption) ?restc23
          case hyc23 => (intro w hSw; (try dsimp only at hSw); go_simp; (try with_reducible rfl))
          go_simp
          refine wpAnyH_ready (rs := [24]) (by kernel_rfl) (by simp) ?_
          refine AllReadyH.cons rfl (fun K hK => ?_) AllReadyH.nil
          rw [if_pos (by kernel_rfl)]
          go_simp
          refine (H2.out _ cb).mono ?_
          rintro e v3 ⟨rfl, b3⟩
          have cb := cb.trans (b3.mono cb.size)
          clear b3
          have kb := (xb.later cb).cells
          have d0 := (cb.cell (p := ⟨b0, off + k * 6, none⟩) hgb).trans g0
          have d1 := (cb.cell (p := ⟨b0, off + k * 6 + 1, none⟩) hgb).trans g1
          have d2 := (cb.cell (p := ⟨b0, off + k * 6 + 2, none⟩) hgb).trans g2
          have d3 := (cb.cell (p := ⟨b0, off + k * 6 + 3, none⟩) hgb).trans g3
          have d4 := (cb.cell (p := ⟨b0, off + k * 6 + 4, none⟩) hgb).trans g4
          have d5 := (cb.cell (p := ⟨b0, off + k * 6 + 5, none⟩) hgb).trans g5
          go_wp2_with fail
          refine hK.out _ _ (by first | assumption | go_keep) (fun hHeld => ?_)
          clear hK K
          go_simp
          refine wpAnyH_take (i := 25) (v := ?vc25) rfl (by kernel_rfl) (by kernel_rfl) (by kernel_rfl) (fun _ _ _ h => h) (Or.inl ⟨by kernel_rfl, ?hyc25⟩) (by assumption) ?restc25
          case hyc25 => (intro w hSw; (try dsimp only at hSw); go_simp; (try with_reducible rfl))
          go_simp
          refine wpAnyH_take (i := 26) (v := ?vc26) rfl (by kernel_rfl) (by kernel_rfl) (by kernel_rfl) (fun _ _ _ h => h) (Or.inl ⟨by kernel_rfl, ?hyc26⟩) (by assumption) ?restc26
          case hyc26 => (intro w hSw; (try dsimp only at hSw); go_simp; (try with_reducible rfl))
          go_simp
          refine wpAnyH_take (i := 27) (v := ?vc27) rfl (by kernel_rfl) (by kernel_rfl) (by kernel_rfl) (fun _ _ _ h => h) (Or.inl ⟨by kernel_rfl, ?hyc27⟩) (by assumption) ?restc27
          case hyc27 => (intro w hSw; (try dsimp only at hSw); go_simp; (try with_reducible rfl))
          go_simp
          refine wpAnyH_take (i := 28) (v := ?vc28) rfl (by kernel_rfl) (by kernel_rfl) (by kernel_rfl) (fun _ _ _ h => h) (Or.inl ⟨by kernel_rfl, ?hyc28⟩) (by assumption) ?restc28
          case hyc28 => (intro w hSw; (try dsimp only at hSw); go_simp; (try with_reducible rfl))
          go_simp
          refine wpAnyH_take (i := 29) (v := ?vc29) rfl (by kernel_rfl) (by kernel_rfl) (by kernel_rfl) (fun _ _ _ h => h) (Or.inl ⟨by kernel_rfl, ?hyc29⟩) (by assumption) ?restc29
          case hyc29 => (intro w hSw; (try dsimp only at hSw); go_simp; (try with_reducible rfl))
          go_simp
          refine wpAnyH_take (i := 30) (v := ?vc30) rfl (by kernel_rfl) (by kernel_rfl) (by kernel_rfl) (fun _ _ _ h => h) (Or.inl ⟨by kernel_rfl, ?hyc30⟩) (by assumption) ?restc30
          case hyc30 => (intro w hSw; (try dsimp only at hSw); go_simp; (try with_reducible rfl))
          go_simp
          refine wpAnyH_take (i := 31) (v := ?vc31) rfl (by kernel_rfl) (by kernel_rfl) (by kernel_rfl) (fun _ _ _ h => h) (Or.inl ⟨by kernel_rfl, ?hyc31⟩) (by assumption) ?restc31
          case hyc31 => (intro w hSw; (try dsimp only at hSw); go_simp; (try with_reducible rfl))
          go_simp
          refine wpAnyH_take (i := 32) (v := ?vc32) rfl (by kernel_rfl) (by kernel_rfl) (by kernel_rfl) (fun _ _ _ h => h) (Or.inl ⟨by kernel_rfl, ?hyc32⟩) (by assumption) ?restc32
          case hyc32 => (intro w hSw; (try dsimp only at hSw); go_simp; (try with_reducible rfl))
          go_simp
          refine wpAnyH_take (i := 33) (v := ?vc33) rfl (by kernel_rfl) (by kernel_rfl) (by kernel_rfl) (fun _ _ _ h => h) (Or.inl ⟨by kernel_rfl, ?hyc33⟩) (by assumption) ?restc33
          case hyc33 => (intro w hSw; (try dsimp only at hSw); go_simp; (try with_reducible rfl))
          go_simp
          refine wpAnyH_take (i := 34) (v := ?vc34) rfl (by kernel_rfl) (by kernel_rfl) (by kernel_rfl) (fun _ _ _ h => h) (Or.inl ⟨by kernel_rfl, ?hyc34⟩) (by assumption) ?restc34
          case hyc34 => (intro w hSw; (try dsimp only at hSw); go_simp; (try with_reducible rfl))
          go_simp
          refine wpAnyH_take (i := 35) (v := ?vc35) rfl (by kernel_rfl) (by kernel_rfl) (by kernel_rfl) (fun _ _ _ h => h) (Or.inl ⟨by kernel_rfl, ?hyc35⟩) (by assumption) ?restc35
          case hyc35 => (intro w hSw; (try dsimp only at hSw); go_simp; (try with_reducible rfl))
          go_simp
          refine wpAnyH_take (i := 36) (v := ?vc36) rfl (by kernel_rfl) (by kernel_rfl) (by kernel_rfl) (fun _ _ _ h => h) (Or.inl ⟨by kernel_rfl, ?hyc36⟩) (by assumption) ?restc36
          case hyc36 => (intro w hSw; (try dsimp only at hSw); go_simp; (try with_reducible rfl))
          go_simp
          refine wpAnyH_take (i := 37) (v := ?vc37) rfl (by kernel_rfl) (by kernel_rfl) (by kernel_rfl) (fun _ _ _ h => h) (Or.inl ⟨by kernel_rfl, ?hyc37⟩) (by assumption) ?restc37
          case hyc37 => (intro w hSw; (try dsimp only at hSw); go_simp; (try with_reducible rfl))
          go_simp
          refine wpAnyH_take (i := 38) (v := ?vc38) rfl (by kernel_rfl) (by kernel_rfl) (by kernel_rfl) (fun _ _ _ h => h) (Or.inl ⟨by kernel_rfl, ?hyc38⟩) (by assumption) ?restc38
          case hyc38 => (intro w hSw; (try dsimp only at hSw); go_simp; (try with_reducible rfl))
          go_simp
          refine wpAnyH_take (i := 39) (v := ?vc39) rfl (by kernel_rfl) (by kernel_rfl) (by kernel_rfl) (fun _ _ _ h => h) (Or.inl ⟨by kernel_rfl, ?hyc39⟩) (by assumption) ?restc39
          case hyc39 => (intro w hSw; (try dsimp only at hSw); go_simp; (try with_reducible rfl))
          go_simp
          refine wpAnyH_take (i := 40) (v := ?vc40) rfl (by kernel_rfl) (by kernel_rfl) (by kernel_rfl) (fun _ _ _ h => h) (Or.inl ⟨by kernel_rfl, ?hyc40⟩) (by assumption) ?restc40
          case hyc40 => (intro w hSw; (try dsimp only at hSw); go_simp; (try with_reducible rfl))
          go_simp
          refine wpAnyH_take (i := 41) (v := ?vc41) rfl (by kernel_rfl) (by kernel_rfl) (by kernel_rfl) (fun _ _ _ h => h) (Or.inl ⟨by kernel_rfl, ?hyc41⟩) (by assumption) ?restc41
          case hyc41 => (intro w hSw; (try dsimp only at hSw); go_simp; (try with_reducible rfl))
          go_simp
          refine wpAnyH_done (by kernel_rfl) ?_ _
          refine NoPanic.normal ?_
          clear kb d0 d1 d2 d3 d4 d5
          go_wp2
          go_roundw
          case rel => exact ⟨k + 1, by omega, by go_num, cb⟩
          case measure => simp [intOf]; omega
    · obtain rfl : k = L.length := by omega
      clear hk hkn hnd hmm
      go_wp2
      go_loopw [7] (fun t wr => ∃ k : Nat, k ≤ r.plus.length ∧ t = .int .i64 k ∧ Below W3.heap.size W3 wr) (fun t _ => r.plus.length - (intOf t).toNat)
      case atStart => exact ⟨0, by omega, rfl, cb⟩
      case round =>
        clear cb kb
        obtain ⟨k, hk, rfl, cb⟩ := hrel
        have kb := (xb.later cb).cells
        have lb := (xb.later cb).lt
        by_cases hkn : k < r.plus.length
        · obtain ⟨b0, off, rfl, hgb, hc⟩ := (rplus.later cb).get (by omega)
          have d0 := hc k hkn 0 _ rfl
          have d1 := hc k hkn 1 _ rfl
          have d2 := hc k hkn 2 _ rfl
          have d3 := hc k hkn 3 _ rfl
          have d4 := hc k hkn 4 _ rfl
          have d5 := hc k hkn 5 _ rfl
          have hmem := hplus.out r.plus[k] (List.getElem_mem hkn)
          have HM := chas_any (c := c5) r.plus[k] (by omega) (R5.later cb)
          rw [decide_eq_true hmem] at HM
          replace HM := Lib.hid HM
          clear hc hmem
          generalize r.plus[k] = x at *
          obtain ⟨x1, x2, x3, x4, x5, x6⟩ := x
          dsimp only at d0 d1 d2 d3 d4 d5
          rw [show CelE.n = 6 from rfl, Nat.add_zero] at d0
          rw [show CelE.n = 6 from rfl, ← Nat.add_assoc] at d1 d2 d3 d4 d5
          unfold cv at HM
          dsimp only at HM
          go_wp2_with fail
          refine HM.out.mono ?_
          rintro e v7 ⟨rfl, b7⟩
          replace cb := cb.trans (b7.mono cb.size)
          clear b7 HM kb lb d0 d1 d2 d3 d4 d5
          have kb := (xb.later cb).cells
          have lb := (xb.later cb).lt
          go_wp2
          go_roundw
          case rel => exact ⟨k + 1, by omega, by go_num, cb⟩
          case measure => simp [intOf]; omega
        · obtain rfl : k = r.plus.length := by omega
          clear hk hkn
          go_wp2
          go_loopw [8] (fun t wr => ∃ k : Nat, k ≤ r.minus.length ∧ t = .int .i64 k ∧ Below W3.heap.size W3 wr) (fun t _ => r.minus.length - (intOf t).toNat)
          case atStart => exact ⟨0, by omega, rfl, cb⟩
          case round =>
            clear cb kb
            obtain ⟨k, hk, rfl, cb⟩ := hrel
            have kb := (xb.later cb).cells
            have lb := (xb.later cb).lt
            by_cases hkn : k < r.minus.length
            · obtain ⟨b0, off, rfl, hgb, hc⟩ := (rminus.later cb).get (by omega)
              have d0 := hc k hkn 0 _ rfl
              have d1 := hc k hkn 1 _ rfl
              have d2 := hc k hkn 2 _ rfl
              have d3 := hc k hkn 3 _ rfl
              have d4 := hc k hkn 4 _ rfl
              have d5 := hc k hkn 5 _ rfl
              have hmem := hminus.out r.minus[k] (List.getElem_mem hkn)
              have HM := chas_any (c := c5) r.minus[k] (by omega) (R5.later cb)
              rw [decide_eq_true hmem] at HM
              replace HM := Lib.hid HM
              clear hc hmem
              generalize r.minus[k] = x at *
              obtain ⟨x1, x2, x3, x4, x5, x6⟩ := x
              dsimp only at d0 d1 d2 d3 d4 d5
              rw [show CelE.n = 6 from rfl, Nat.add_zero] at d0
              rw [show CelE.n = 6 from rfl, ← Nat.add_assoc] at d1 d2 d3 d4 d5
              unfold cv at HM
              dsimp only at HM
              go_wp2_with fail
              refine HM.out.mono ?_
              rintro e v7 ⟨rfl, b7⟩
              replace cb := cb.trans (b7.mono cb.size)
              clear b7 HM kb lb d0 d1 d2 d3 d4 d5
              have kb := (xb.later cb).cells
              have lb := (xb.later cb).lt
              go_wp2
              go_roundw
              case rel => exact ⟨k + 1, by omega, by go_num, cb⟩
              case measure => simp [intOf]; omega
            · obtain rfl : k = r.minus.length := by omega
              clear hk hkn
              have OA := Lib.hid fun w => of29_any (A1 := A1) (A2 := A2) (c1 := c1) (c2 := c2) (r := r) w
              have EV := fun W (cb : Below W3.heap.size W3 W) => eval_any (c1 := c1) (c2 := c2) (c3 := c3) wfr oa.base oi (rplus.later cb) (rminus.later cb) (ri.later cb)
              replace hli := hli.out
              rw [hev2.out hli] at EV
              unfold vv at EV
              replace EV := Lib.hid EV
              have hd : ((i.length : Int) == (L.length : Int)) = false := by simp; omega
              replace hli := Lib.hid hli
              cases hrt : r.rt
              · rw [hrt] at xb kb OA EV
                go_wp2_with fail
                refine (OA.out _).mono ?_
                rintro e W4 ⟨rfl, b4⟩
                replace cb := cb.trans (b4.mono cb.size)
                clear b4
                go_wp2_with fail
                refine (EV.out _ cb).mono ?_
                rintro e W5 ⟨rfl, b5⟩
                replace cb := cb.trans (b5.mono cb.size)
                clear b5 kb lb
                have x9 := Box.new W5 24 #[.int .i64 0, .int .i64 2]
                have HB5 := HB.trans (cb.mono HB.size)
                replace xb := (xb.later cb).alloc (.cells #[.int .i64 0, .int .i64 2] 24)
                replace R5 := (R5.later cb).alloc (.cells #[.int .i64 0, .int .i64 2] 24)
                replace rplus := (rplus.later cb).alloc (.cells #[.int .i64 0, .int .i64 2] 24)
                replace rminus := (rminus.later cb).alloc (.cells #[.int .i64 0, .int .i64 2] 24)
                have HB6 := HB5.alloc HB5.size (.cells #[.int .i64 0, .int .i64 2] 24)
                have kb := xb.cells
                have k9 := x9.cells
                obtain ⟨W6, hW6⟩ : ∃ W6, W6 = W5.alloc (.cells #[.int .i64 0, .int .i64 2] 24) := ⟨_, rfl⟩
                have cb9 : Below W6.heap.size W6 (W5.alloc (.cells #[.int .i64 0, .int .i64 2] 24)).drew := by rw [hW6]; exact below_drewN (Below.refl _ _) 1
                rw [← hW6] at xb x9 R5 rplus rminus HB6
                have HS := fun W (cb : Below W6.heap.size W6 W) => chas_any (c := c5) r.sc (by omega) (R5.later cb)
                have hx9 := True.intro
                unfold cv at HS
                replace HS := Lib.hid HS
                have PS := fun W (cb : Below W6.heap.size W6 W) => psame_any (c1 := c1) (c2 := c2) (d1 := c1) (d2 := c2) wfr.lp wfr.lp wfr.lm wfr.lm (rplus.later cb) (rminus.later cb) (rplus.later cb) (rminus.later cb)
                rw [decide_eq_true rfl] at PS
                rw [hrt] at PS
                replace PS := Lib.hid PS
                replace hW6 := Lib.hid hW6
                clear cb HB HB5
                go_upto_region 20 with fail
                refine wp_region_noPanic ?_
                refine wp_region_held_drew (S := (fun w' => w'.cell? ⟨w.heap.size, 0, none⟩ = some (.int .i64 r.base.n) ∧ w'.cell? ⟨w.heap.size, 1, none⟩ = some (.int .i64 r.base.e) ∧ w'.cell? ⟨w.heap.size, 2, none⟩ = some (.slice A1 r.plus.length c1) ∧ w'.cell? ⟨w.heap.size, 3, none⟩ = some (.slice A2 r.minus.length c2) ∧ w'.cell? ⟨w.heap.size, 4, none⟩ = some (.int .i64 r.sc.r) ∧ w'.cell? ⟨w.heap.size, 5, none⟩ = some (.int .i64 r.sc.e) ∧ w'.cell? ⟨w.heap.size, 6, none⟩ = some (.int .i64 r.sc.a) ∧ w'.cell? ⟨w.heap.size, 7, none⟩ = some (.int .i64 r.sc.p) ∧ w'.cell? ⟨w.heap.size, 8, none⟩ = some (.int .i64 r.sc.c) ∧ w'.cell? ⟨w.heap.size, 9, none⟩ = some (.int .i64 r.sc.q) ∧ w'.cell? ⟨w.heap.size, 10, none⟩ = some (.bool false) ∧ w'.cell? ⟨w.heap.size, 11, none⟩ = some (.int .i64 r.num) ∧ w'.cell? ⟨w.heap.size, 12, none⟩ = some (.int .i64 r.den) ∧ w'.cell? ⟨w.heap.size, 13, none⟩ = some (.bool r.has) ∧ w'.cell? ⟨W5.heap.size, 0, none⟩ = some (.int .i64 0) ∧ w'.cell? ⟨W5.heap.size, 1, none⟩ = some (.int .i64 2))) (by kernel_rfl) ?_ (fun hHeld => ?_)
                · first | assumption | go_keep
                refine wpAnyH_take (i := 0) (v := ?vs0) rfl (by kernel_rfl) (by kernel_rfl) (by kernel_rfl) (fun _ _ _ h => h) (Or.inl ⟨by kernel_rfl, ?hys0⟩) (by assumption) ?rests0
                case hys0 => (intro w hSw; (try dsimp only at hSw); go_simp; (try with_reducible rfl))
                go_simp
                refine wpAnyH_take (i := 1) (v := ?vs1) rfl (by kernel_rfl) (by kernel_rfl) (by kernel_rfl) (fun _ _ _ h => h) (Or.inl ⟨by kernel_rfl, ?hys1⟩) (by assumption) ?rests1
                case hys1 => (intro w hSw; (try dsimp only at hSw); go_simp; (try with_reducible rfl))
                go_simp
                refine wpAnyH_take (i := 2) (v := ?vs2) rfl (by kernel_rfl) (by kernel_rfl) (by kernel_rfl) (fun _ _ _ h => h) (Or.inl ⟨by kernel_rfl, ?hys2⟩) (by assumption) ?rests2
                case hys2 => (intro w hSw; (try dsimp only at hSw); go_simp; (try with_reducible rfl))
                go_simp
                refine wpAnyH_take (i := 3) (v := ?vs3) rfl (by kernel_rfl) (by kernel_rfl) (by kernel_rfl) (fun _ _ _ h => h) (Or.inl ⟨by kernel_rfl, ?hys3⟩) (by assumption) ?rests3
                case hys3 => (intro w hSw; (try dsimp only at hSw); go_simp; (try with_reducible rfl))
                go_simp
                refine wpAnyH_take (i := 4) (v := undef) rfl (by kernel_rfl) (by kernel_rfl) (by kernel_rfl) (fun _ _ _ h => h) (Or.inr ⟨by kernel_rfl, rfl⟩) (by assumption) ?_
                go_simp
                refine wpAnyH_take (i := 5) (v := undef) rfl (by kernel_rfl) (by kernel_rfl) (by kernel_rfl) (fun _ _ _ h => h) (Or.inr ⟨by kernel_rfl, rfl⟩) (by assumption) ?_
                go_simp
                refine wpAnyH_take (i := 6) (v := undef) rfl (by kernel_rfl) (by kernel_rfl) (by kernel_rfl) (fun _ _ _ h => h) (Or.inr ⟨by kernel_rfl, rfl⟩) (by assumption) ?_
                go_simp
                refine wpAnyH_take (i := 7) (v := undef) rfl (by kernel_rfl) (by kernel_rfl) (by kernel_rfl) (fun _ _ _ h => h) (Or.inr ⟨by kernel_rfl, rfl⟩) (by assumption) ?_
                go_simp
                refine wpAnyH_take (i := 8) (v := ?vs8) rfl (by kernel_rfl) (by kernel_rfl) (by kernel_rfl) (fun _ _ _ h => h) (Or.inl ⟨by kernel_rfl, ?hys8⟩) (by assumption) ?rests8
                case hys8 => (intro w hSw; (try dsimp only at hSw); go_simp; (try with_reducible rfl))
                go_simp
                refine wpAnyH_take (i := 9) (v := ?vs9) rfl (by kernel_rfl) (by kernel_rfl) (by kernel_rfl) (fun _ _ _ h => h) (Or.inl ⟨by kernel_rfl, ?hys9⟩) (by assumption) ?rests9
                case hys9 => (intro w hSw; (try dsimp only at hSw); go_simp; (try with_reducible rfl))
                go_simp
                refine wpAnyH_take (i := 10) (v := ?vs10) rfl (by kernel_rfl) (by kernel_rfl) (by kernel_rfl) (fun _ _ _ h => h) (Or.inl ⟨by kernel_rfl, ?hys10⟩) (by assumption) ?rests10
                case hys10 => (intro w hSw; (try dsimp only at hSw); go_simp; (try with_reducible rfl))
                go_simp
                refine wpAnyH_take (i := 11) (v := ?vs11) rfl (by kernel_rfl) (by kernel_rfl) (by kernel_rfl) (fun _ _ _ h => h) (Or.inl ⟨by kernel_rfl, ?hys11⟩) (by assumption) ?rests11
                case hys11 => (intro w hSw; (try dsimp only at hSw); go_simp; (try with_reducible rfl))
                go_simp
                refine wpAnyH_take (i := 12) (v := ?vs12) rfl (by kernel_rfl) (by kernel_rfl) (by kernel_rfl) (fun _ _ _ h => h) (Or.inl ⟨by kernel_rfl, ?hys12⟩) (by assumption) ?rests12
                case hys12 => (intro w hSw; (try dsimp only at hSw); go_simp; (try with_reducible rfl))
                go_simp
                refine wpAnyH_take (i := 13) (v := ?vs13) rfl (by kernel_rfl) (by kernel_rfl) (by kernel_rfl) (fun _ _ _ h => h) (Or.inl ⟨by kernel_rfl, ?hys13⟩) (by assumption) ?rests13
                case hys13 => (intro w hSw; (try dsimp only at hSw); go_simp; (try with_reducible rfl))
                go_simp
                refine wpAnyH_take (i := 14) (v := ?vs14) rfl (by kernel_rfl) (by kernel_rfl) (by kernel_rfl) (fun _ _ _ h => h) (Or.inl ⟨by kernel_rfl, ?hys14⟩) (by assumption) ?rests14
                case hys14 => (intro w hSw; (try dsimp only at hSw); go_simp; (try with_reducible rfl))
                go_simp
                refine wpAnyH_take (i := 15) (v := ?vs15) rfl (by kernel_rfl) (by kernel_rfl) (by kernel_rfl) (fun _ _ _ h => h) (Or.inl ⟨by kernel_rfl, ?hys15⟩) (by assumption) ?rests15
                case hys15 => (intro w hSw; (try dsimp only at hSw); go_simp; (try with_reducible rfl))
                go_simp
                refine wpAnyH_take (i := 16) (v := ?vs16) rfl (by kernel_rfl) (by kernel_rfl) (by kernel_rfl) (fun _ _ _ h => h) (Or.inl ⟨by kernel_rfl, ?hys16⟩) (by assumption) ?rests16
                case hys16 => (intro w hSw; (try dsimp only at hSw); go_simp; (try with_reducible rfl))
                go_simp
                refine wpAnyH_take (i := 17) (v := ?vs17) rfl (by kernel_rfl) (by kernel_rfl) (by kernel_rfl) (fun _ _ _ h => h) (Or.inl ⟨by kernel_rfl, ?hys17⟩) (by assumption) ?rests17
                case hys17 => (intro w hSw; (try dsimp only at hSw); go_simp; (try with_reducible rfl))
                go_simp
                refine wpAnyH_take (i := 18) (v := ?vs18) rfl (by kernel_rfl) (by kernel_rfl) (by kernel_rfl) (fun _ _ _ h => h) (Or.inl ⟨by kernel_rfl, ?hys18⟩) (by assumption) ?rests18
                case hys18 => (intro w hSw; (try dsimp only at hSw); go_simp; (try with_reducible rfl))
                go_simp
                refine wpAnyH_take (i := 19) (v := ?vs19) rfl (by kernel_rfl) (by kernel_rfl) (by kernel_rfl) (fun _ _ _ h => h) (Or.inl ⟨by kernel_rfl, ?hys19⟩) (by assumption) ?rests19
                case hys19 => (intro w hSw; (try dsimp only at hSw); go_simp; (try with_reducible rfl))
                go_simp
                refine wpAnyH_take (i := 20) (v := ?vs20) rfl (by kernel_rfl) (by kernel_rfl) (by kernel_rfl) (fun _ _ _ h => h) (Or.inl ⟨by kernel_rfl, ?hys20⟩) (by assumption) ?rests20
                case hys20 => (intro w hSw; (try dsimp only at hSw); go_simp; (try with_reducible rfl))
                go_simp
                refine wpAnyH_take (i := 21) (v := ?vs21) rfl (by kernel_rfl) (by kernel_rfl) (by kernel_rfl) (fun _ _ _ h => h) (Or.inl ⟨by kernel_rfl, ?hys21⟩) (by assumption) ?rests21
                case hys21 => (intro w hSw; (try dsimp only at hSw); go_simp; (try with_reducible rfl))
                go_simp
                refine wpAnyH_take (i := 22) (v := ?vs22) rfl (by kernel_rfl) (by kernel_rfl) (by kernel_rfl) (fun _ _ _ h => h) (Or.inl ⟨by kernel_rfl, ?hys22⟩) (by assumption) ?rests22
                case hys22 => (intro w hSw; (try dsimp only at hSw); go_simp; (try with_reducible rfl))
                go_simp
                refine wpAnyH_take (i := 24) (v := ?vs24) rfl (by kernel_rfl) (by kernel_rfl) (by kernel_rfl) (fun _ _ _ h => h) (Or.inl ⟨by kernel_rfl, ?hys24⟩) (by assumption) ?rests24
                case hys24 => (intro w hSw; (try dsimp only at hSw); go_simp; (try with_reducible rfl))
                go_simp
                refine wpAnyH_ready (rs := [23]) (by kernel_rfl) (by simp) ?_
                refine AllReadyH.cons rfl (fun K hK => ?_) AllReadyH.nil
                rw [if_pos (by kernel_rfl)]
                go_simp
                refine (OA.out _).mono ?_
                rintro e v23 ⟨rfl, b23⟩
                have cb9 := cb9.trans (b23.mono cb9.size)
                clear b23
                have kb := (xb.later cb9).cells
                have k9 := (x9.later cb9).cells
                go_wp2_with fail
                refine hK.out _ _ (by first | assumption | go_keep) (fun hHeld => ?_)
                clear hK K
                go_simp
                refine wpAnyH_ready (rs := [25]) (by kernel_rfl) (by simp) ?_
                refine AllReadyH.cons rfl (fun K hK => ?_) AllReadyH.nil
                rw [if_pos (by kernel_rfl)]
                go_simp
                refine (OA.out _).mono ?_
                rintro e v25 ⟨rfl, b25⟩
                have cb9 := cb9.trans (b25.mono cb9.size)
                clear b25
                have kb := (xb.later cb9).cells
                have k9 := (x9.later cb9).cells
                go_wp2_with fail
                refine hK.out _ _ (by first | assumption | go_keep) (fun hHeld => ?_)
                clear hK K
                go_simp
                refine wpAnyH_ready (rs := [26]) (by kernel_rfl) (by simp) ?_
                refine AllReadyH.cons rfl (fun K hK => ?_) AllReadyH.nil
                rw [if_pos (by kernel_rfl)]
                go_simp
                refine (PS.out _ cb9).mono ?_
                rintro e v26 ⟨rfl, b26⟩
                have cb9 := cb9.trans (b26.mono cb9.size)
                clear b26
                have kb := (xb.later cb9).cells
                have k9 := (x9.later cb9).cells
                go_wp2_with fail
                refine hK.out _ _ (by first | assumption | go_keep) (fun hHeld => ?_)
                clear hK K
                go_simp
                refine wpAnyH_take (i := 27) (v := ?vs27) rfl (by kernel_rfl) (by kernel_rfl) (by kernel_rfl) (fun _ _ _ h => h) (Or.inl ⟨by kernel_rfl, ?hys27⟩) (by assumption) ?rests27
                case hys27 => (intro w hSw; (try dsimp only at hSw); go_simp; (try with_reducible rfl))
                go_simp
                refine wpAnyH_take (i := 28) (v := ?vs28) rfl (by kernel_rfl) (by kernel_rfl) (by kernel_rfl) (fun _ _ _ h => h) (Or.inl ⟨by kernel_rfl, ?hys28⟩) (by assumption) ?rests28
                case hys28 => (intro w hSw; (try dsimp only at hSw); go_simp; (try with_reducible rfl))
                go_simp
                refine wpAnyH_ready (rs := [29]) (by kernel_rfl) (by simp) ?_
                refine AllReadyH.cons rfl (fun K hK => ?_) AllReadyH.nil
                rw [if_pos (by kernel_rfl)]
                go_simp
                refine (AWA.out _).mono ?_
                rintro e v29 ⟨rfl, b29⟩
                have cb9 := cb9.trans (b29.mono cb9.size)
                clear b29
                have kb := (xb.later cb9).cells
                have k9 := (x9.later cb9).cells
                go_wp2_with fail
                refine hK.out _ _ (by first | assumption | go_keep) (fun hHeld => ?_)
                clear hK K
                go_simp
                refine wpAnyH_take (i := 30) (v := ?vs30) rfl (by kernel_rfl) (by kernel_rfl) (by kernel_rfl) (fun _ _ _ h => h) (Or.inl ⟨by kernel_rfl, ?hys30⟩) (by assumption) ?rests30
                case hys30 => (intro w hSw; (try dsimp only at hSw); go_simp; (try with_reducible rfl))
                go_simp
                refine wpAnyH_ready (rs := [31]) (by kernel_rfl) (by simp) ?_
                refine AllReadyH.cons rfl (fun K hK => ?_) AllReadyH.nil
                rw [if_pos (by kernel_rfl)]
                go_simp
                refine hK.out _ _ hHeld (fun hHeld => ?_)
                clear hK K
                go_simp
                refine wpAnyH_done (by kernel_rfl) ?_ _
                refine NoPanic.normal ?_
                replace HB6 := HB6.trans (cb9.mono HB6.size)
                clear kb k9 cb9
                go_wp2
                go_ret
                exact ⟨rfl, HB6⟩
              · rw [hrt] at xb kb OA EV
                go_wp2_with fail
                refine (OA.out _).mono ?_
                rintro e W4 ⟨rfl, b4⟩
                replace cb := cb.trans (b4.mono cb.size)
                clear b4
                go_wp2_with fail
                refine (EV.out _ cb).mono ?_
                rintro e W5 ⟨rfl, b5⟩
                replace cb := cb.trans (b5.mono cb.size)
                clear b5 kb lb
                have x9 := Box.new W5 24 #[.int .i64 0, .int .i64 2]
                have HB5 := HB.trans (cb.mono HB.size)
                replace xb := (xb.later cb).alloc (.cells #[.int .i64 0, .int .i64 2] 24)
                replace R5 := (R5.later cb).alloc (.cells #[.int .i64 0, .int .i64 2] 24)
                replace rplus := (rplus.later cb).alloc (.cells #[.int .i64 0, .int .i64 2] 24)
                replace rminus := (rminus.later cb).alloc (.cells #[.int .i64 0, .int .i64 2] 24)
                have HB6 := HB5.alloc HB5.size (.cells #[.int .i64 0, .int .i64 2] 24)
                have kb := xb.cells
                have k9 := x9.cells
                obtain ⟨W6, hW6⟩ : ∃ W6, W6 = W5.alloc (.cells #[.int .i64 0, .int .i64 2] 24) := ⟨_, rfl⟩
                have cb9 : Below W6.heap.size W6 (W5.alloc (.cells #[.int .i64 0, .int .i64 2] 24)).drew := by rw [hW6]; exact below_drewN (Below.refl _ _) 1
                rw [← hW6] at xb x9 R5 rplus rminus HB6
                have HS := fun W (cb : Below W6.heap.size W6 W) => chas_any (c := c5) r.sc (by omega) (R5.later cb)
                rw [decide_eq_true (hsc.out hrt)] at HS
                unfold cv at HS
                replace HS := Lib.hid HS
                have PS := fun W (cb : Below W6.heap.size W6 W) => psame_any (c1 := c1) (c2 := c2) (d1 := c1) (d2 := c2) wfr.lp wfr.lp wfr.lm wfr.lm (rplus.later cb) (rminus.later cb) (rplus.later cb) (rminus.later cb)
                rw [decide_eq_true rfl] at PS
                rw [hrt] at PS
                replace PS := Lib.hid PS
                replace hW6 := Lib.hid hW6
                clear cb HB HB5
                go_upto_region 20 with fail
                refine wp_region_noPanic ?_
                refine wp_region_held_drew (S := (fun w' => w'.cell? ⟨w.heap.size, 0, none⟩ = some (.int .i64 r.base.n) ∧ w'.cell? ⟨w.heap.size, 1, none⟩ = some (.int .i64 r.base.e) ∧ w'.cell? ⟨w.heap.size, 2, none⟩ = some (.slice A1 r.plus.length c1) ∧ w'.cell? ⟨w.heap.size, 3, none⟩ = some (.slice A2 r.minus.length c2) ∧ w'.cell? ⟨w.heap.size, 4, none⟩ = some (.int .i64 r.sc.r) ∧ w'.cell? ⟨w.heap.size, 5, none⟩ = some (.int .i64 r.sc.e) ∧ w'.cell? ⟨w.heap.size, 6, none⟩ = some (.int .i64 r.sc.a) ∧ w'.cell? ⟨w.heap.size, 7, none⟩ = some (.int .i64 r.sc.p) ∧ w'.cell? ⟨w.heap.size, 8, none⟩ = some (.int .i64 r.sc.c) ∧ w'.cell? ⟨w.heap.size, 9, none⟩ = some (.int .i64 r.sc.q) ∧ w'.cell? ⟨w.heap.size, 10, none⟩ = some (.bool true) ∧ w'.cell? ⟨w.heap.size, 11, none⟩ = some (.int .i64 r.num) ∧ w'.cell? ⟨w.heap.size, 12, none⟩ = some (.int .i64 r.den) ∧ w'.cell? ⟨w.heap.size, 13, none⟩ = some (.bool r.has) ∧ w'.cell? ⟨W5.heap.size, 0, none⟩ = some (.int .i64 0) ∧ w'.cell? ⟨W5.heap.size, 1, none⟩ = some (.int .i64 2))) (by kernel_rfl) ?_ (fun hHeld => ?_)
                · first | assumption | go_keep
                refine wpAnyH_take (i := 0) (v := ?vt0) rfl (by kernel_rfl) (by kernel_rfl) (by kernel_rfl) (fun _ _ _ h => h) (Or.inl ⟨by kernel_rfl, ?hyt0⟩) (by assumption) ?restt0
                case hyt0 => (intro w hSw; (try dsimp only at hSw); go_simp; (try with_reducible rfl))
                go_simp
                refine wpAnyH_take (i := 1) (v := ?vt1) rfl (by kernel_rfl) (by kernel_rfl) (by kernel_rfl) (fun _ _ _ h => h) (Or.inl ⟨by kernel_rfl, ?hyt1⟩) (by assumption) ?restt1
                case hyt1 => (intro w hSw; (try dsimp only at hSw); go_simp; (try with_reducible rfl))
                go_simp
                refine wpAnyH_take (i := 2) (v := ?vt2) rfl (by kernel_rfl) (by kernel_rfl) (by kernel_rfl) (fun _ _ _ h => h) (Or.inl ⟨by kernel_rfl, ?hyt2⟩) (by assumption) ?restt2
                case hyt2 => (intro w hSw; (try dsimp only at hSw); go_simp; (try with_reducible rfl))
                go_simp
                refine wpAnyH_take (i := 3) (v := ?vt3) rfl (by kernel_rfl) (by kernel_rfl) (by kernel_rfl) (fun _ _ _ h => h) (Or.inl ⟨by kernel_rfl, ?hyt3⟩) (by assumption) ?restt3
                case hyt3 => (intro w hSw; (try dsimp only at hSw); go_simp; (try with_reducible rfl))
                go_simp
                refine wpAnyH_take (i := 4) (v := ?vt4) rfl (by kernel_rfl) (by kernel_rfl) (by kernel_rfl) (fun _ _ _ h => h) (Or.inl ⟨by kernel_rfl, ?hyt4⟩) (by assumption) ?restt4
                case hyt4 => (intro w hSw; (try dsimp only at hSw); go_simp; (try with_reducible rfl))
                go_simp
                refine wpAnyH_take (i := 5) (v := ?vt5) rfl (by kernel_rfl) (by kernel_rfl) (by kernel_rfl) (fun _ _ _ h => h) (Or.inl ⟨by kernel_rfl, ?hyt5⟩) (by assumption) ?restt5
                case hyt5 => (intro w hSw; (try dsimp only at hSw); go_simp; (try with_reducible rfl))
                go_simp
                refine wpAnyH_take (i := 6) (v := ?vt6) rfl (by kernel_rfl) (by kernel_rfl) (by kernel_rfl) (fun _ _ _ h => h) (Or.inl ⟨by kernel_rfl, ?hyt6⟩) (by assumption) ?restt6
                case hyt6 => (intro w hSw; (try dsimp only at hSw); go_simp; (try with_reducible rfl))
                go_simp
                refine wpAnyH_ready (rs := [7]) (by kernel_rfl) (by simp) ?_
                refine AllReadyH.cons rfl (fun K hK => ?_) AllReadyH.nil
                rw [if_pos (by kernel_rfl)]
                go_simp
                refine (HS.out _ cb9).mono ?_
                rintro e v7 ⟨rfl, b7⟩
                have cb9 := cb9.trans (b7.mono cb9.size)
                clear b7
                have kb := (xb.later cb9).cells
                have k9 := (x9.later cb9).cells
                go_wp2_with fail
                refine hK.out _ _ (by first | assumption | go_keep) (fun hHeld => ?_)
                clear hK K
                go_simp
                refine wpAnyH_take (i := 8) (v := ?vt8) rfl (by kernel_rfl) (by kernel_rfl) (by kernel_rfl) (fun _ _ _ h => h) (Or.inl ⟨by kernel_rfl, ?hyt8⟩) (by assumption) ?restt8
                case hyt8 => (intro w hSw; (try dsimp only at hSw); go_simp; (try with_reducible rfl))
                go_simp
                refine wpAnyH_take (i := 9) (v := ?vt9) rfl (by kernel_rfl) (by kernel_rfl) (by kernel_rfl) (fun _ _ _ h => h) (Or.inl ⟨by kernel_rfl, ?hyt9⟩) (by assumption) ?restt9
                case hyt9 => (intro w hSw; (try dsimp only at hSw); go_simp; (try with_reducible rfl))
                go_simp
                refine wpAnyH_take (i := 10) (v := ?vt10) rfl (by kernel_rfl) (by kernel_rfl) (by kernel_rfl) (fun _ _ _ h => h) (Or.inl ⟨by kernel_rfl, ?hyt10⟩) (by assumption) ?restt10
                case hyt10 => (intro w hSw; (try dsimp only at hSw); go_simp; (try with_reducible rfl))
                go_simp
                refine wpAnyH_take (i := 11) (v := ?vt11) rfl (by kernel_rfl) (by kernel_rfl) (by kernel_rfl) (fun _ _ _ h => h) (Or.inl ⟨by kernel_rfl, ?hyt11⟩) (by assumption) ?restt11
                case hyt11 => (intro w hSw; (try dsimp only at hSw); go_simp; (try with_reducible rfl))
                go_simp
                refine wpAnyH_take (i := 12) (v := ?vt12) rfl (by kernel_rfl) (by kernel_rfl) (by kernel_rfl) (fun _ _ _ h => h) (Or.inl ⟨by kernel_rfl, ?hyt12⟩) (by assumption) ?restt12
                case hyt12 => (intro w hSw; (try dsimp only at hSw); go_simp; (try with_reducible rfl))
                go_simp
                refine wpAnyH_take (i := 13) (v := ?vt13) rfl (by kernel_rfl) (by kernel_rfl) (by kernel_rfl) (fun _ _ _ h => h) (Or.inl ⟨by kernel_rfl, ?hyt13⟩) (by assumption) ?restt13
                case hyt13 => (intro w hSw; (try dsimp only at hSw); go_simp; (try with_reducible rfl))
                go_simp
                refine wpAnyH_take (i := 14) (v := ?vt14) rfl (by kernel_rfl) (by kernel_rfl) (by kernel_rfl) (fun _ _ _ h => h) (Or.inl ⟨by kernel_rfl, ?hyt14⟩) (by assumption) ?restt14
                case hyt14 => (intro w hSw; (try dsimp only at hSw); go_simp; (try with_reducible rfl))
                go_simp
                refine wpAnyH_take (i := 15) (v := ?vt15) rfl (by kernel_rfl) (by kernel_rfl) (by kernel_rfl) (fun _ _ _ h => h) (Or.inl ⟨by kernel_rfl, ?hyt15⟩) (by assumption) ?restt15
                case hyt15 => (intro w hSw; (try dsimp only at hSw); go_simp; (try with_reducible rfl))
                go_simp
                refine wpAnyH_take (i := 16) (v := ?vt16) rfl (by kernel_rfl) (by kernel_rfl) (by kernel_rfl) (fun _ _ _ h => h) (Or.inl ⟨by kernel_rfl, ?hyt16⟩) (by assumption) ?restt16
                case hyt16 => (intro w hSw; (try dsimp only at hSw); go_simp; (try with_reducible rfl))
                go_simp
                refine wpAnyH_take (i := 17) (v := ?vt17) rfl (by kernel_rfl) (by kernel_rfl) (by kernel_rfl) (fun _ _ _ h => h) (Or.inl ⟨by kernel_rfl, ?hyt17⟩) (by assumption) ?restt17
                case hyt17 => (intro w hSw; (try dsimp only at hSw); go_simp; (try with_reducible rfl))
                go_simp
                refine wpAnyH_take (i := 18) (v := ?vt18) rfl (by kernel_rfl) (by kernel_rfl) (by kernel_rfl) (fun _ _ _ h => h) (Or.inl ⟨by kernel_rfl, ?hyt18⟩) (by assumption) ?restt18
                case hyt18 => (intro w hSw; (try dsimp only at hSw); go_simp; (try with_reducible rfl))
                go_simp
                refine wpAnyH_take (i := 19) (v := ?vt19) rfl (by kernel_rfl) (by kernel_rfl) (by kernel_rfl) (fun _ _ _ h => h) (Or.inl ⟨by kernel_rfl, ?hyt19⟩) (by assumption) ?restt19
                case hyt19 => (intro w hSw; (try dsimp only at hSw); go_simp; (try with_reducible rfl))
                go_simp
                refine wpAnyH_take (i := 20) (v := ?vt20) rfl (by kernel_rfl) (by kernel_rfl) (by kernel_rfl) (fun _ _ _ h => h) (Or.inl ⟨by kernel_rfl, ?hyt20⟩) (by assumption) ?restt20
                case hyt20 => (intro w hSw; (try dsimp only at hSw); go_simp; (try with_reducible rfl))
                go_simp
                refine wpAnyH_take (i := 21) (v := ?vt21) rfl (by kernel_rfl) (by kernel_rfl) (by kernel_rfl) (fun _ _ _ h => h) (Or.inl ⟨by kernel_rfl, ?hyt21⟩) (by assumption) ?restt21
                case hyt21 => (intro w hSw; (try dsimp only at hSw); go_simp; (try with_reducible rfl))
                go_simp
                refine wpAnyH_take (i := 22) (v := ?vt22) rfl (by kernel_rfl) (by kernel_rfl) (by kernel_rfl) (fun _ _ _ h => h) (Or.inl ⟨by kernel_rfl, ?hyt22⟩) (by assumption) ?restt22
                case hyt22 => (intro w hSw; (try dsimp only at hSw); go_simp; (try with_reducible rfl))
                go_simp
                refine wpAnyH_take (i := 24) (v := ?vt24) rfl (by kernel_rfl) (by kernel_rfl) (by kernel_rfl) (fun _ _ _ h => h) (Or.inl ⟨by kernel_rfl, ?hyt24⟩) (by assumption) ?restt24
                case hyt24 => (intro w hSw; (try dsimp only at hSw); go_simp; (try with_reducible rfl))
                go_simp
                refine wpAnyH_ready (rs := [23]) (by kernel_rfl) (by simp) ?_
                refine AllReadyH.cons rfl (fun K hK => ?_) AllReadyH.nil
                rw [if_pos (by kernel_rfl)]
                go_simp
                refine (OA.out _).mono ?_
                rintro e v23 ⟨rfl, b23⟩
                have cb9 := cb9.trans (b23.mono cb9.size)
                clear b23
                have kb := (xb.later cb9).cells
                have k9 := (x9.later cb9).cells
                go_wp2_with fail
                refine hK.out _ _ (by first | assumption | go_keep) (fun hHeld => ?_)
                clear hK K
                go_simp
                refine wpAnyH_ready (rs := [25]) (by kernel_rfl) (by simp) ?_
                refine AllReadyH.cons rfl (fun K hK => ?_) AllReadyH.nil
                rw [if_pos (by kernel_rfl)]
                go_simp
                refine (OA.out _).mono ?_
                rintro e v25 ⟨rfl, b25⟩
                have cb9 := cb9.trans (b25.mono cb9.size)
                clear b25
                have kb := (xb.later cb9).cells
                have k9 := (x9.later cb9).cells
                go_wp2_with fail
                refine hK.out _ _ (by first | assumption | go_keep) (fun hHeld => ?_)
                clear hK K
                go_simp
                refine wpAnyH_ready (rs := [26]) (by kernel_rfl) (by simp) ?_
                refine AllReadyH.cons rfl (fun K hK => ?_) AllReadyH.nil
                rw [if_pos (by kernel_rfl)]
                go_simp
                refine (PS.out _ cb9).mono ?_
                rintro e v26 ⟨rfl, b26⟩
                have cb9 := cb9.trans (b26.mono cb9.size)
                clear b26
                have kb := (xb.later cb9).cells
                have k9 := (x9.later cb9).cells
                go_wp2_with fail
                refine hK.out _ _ (by first | assumption | go_keep) (fun hHeld => ?_)
                clear hK K
                go_simp
                refine wpAnyH_take (i := 27) (v := ?vt27) rfl (by kernel_rfl) (by kernel_rfl) (by kernel_rfl) (fun _ _ _ h => h) (Or.inl ⟨by kernel_rfl, ?hyt27⟩) (by assumption) ?restt27
                case hyt27 => (intro w hSw; (try dsimp only at hSw); go_simp; (try with_reducible rfl))
                go_simp
                refine wpAnyH_take (i := 28) (v := ?vt28) rfl (by kernel_rfl) (by kernel_rfl) (by kernel_rfl) (fun _ _ _ h => h) (Or.inl ⟨by kernel_rfl, ?hyt28⟩) (by assumption) ?restt28
                case hyt28 => (intro w hSw; (try dsimp only at hSw); go_simp; (try with_reducible rfl))
                go_simp
                refine wpAnyH_ready (rs := [29]) (by kernel_rfl) (by simp) ?_
                refine AllReadyH.cons rfl (fun K hK => ?_) AllReadyH.nil
                rw [if_pos (by kernel_rfl)]
                go_simp
                refine (AWA.out _).mono ?_
                rintro e v29 ⟨rfl, b29⟩
                have cb9 := cb9.trans (b29.mono cb9.size)
                clear b29
                have kb := (xb.later cb9).cells
                have k9 := (x9.later cb9).cells
                go_wp2_with fail
                refine hK.out _ _ (by first | assumption | go_keep) (fun hHeld => ?_)
                clear hK K
                go_simp
                refine wpAnyH_take (i := 30) (v := ?vt30) rfl (by kernel_rfl) (by kernel_rfl) (by kernel_rfl) (fun _ _ _ h => h) (Or.inl ⟨by kernel_rfl, ?hyt30⟩) (by assumption) ?restt30
                case hyt30 => (intro w hSw; (try dsimp only at hSw); go_simp; (try with_reducible rfl))
                go_simp
                refine wpAnyH_ready (rs := [31]) (by kernel_rfl) (by simp) ?_
                refine AllReadyH.cons rfl (fun K hK => ?_) AllReadyH.nil
                rw [if_pos (by kernel_rfl)]
                go_simp
                refine hK.out _ _ hHeld (fun hHeld => ?_)
                clear hK K
                go_simp
                refine wpAnyH_done (by kernel_rfl) ?_ _
                refine NoPanic.normal ?_
                replace HB6 := HB6.trans (cb9.mono HB6.size)
                clear kb k9 cb9
                go_wp2
                go_ret
                exact ⟨rfl, HB6⟩
end
end Go.Proofs.Ytioecjoddgpjbaa
/-
  RecipeParts: both cases.
-/
namespace Go.Proofs.Ytioecjoddgpjbaa
open Go.RowKit
section
variable {A1 A2 A3 : Option Addr} {c1 c2 c3 : Nat} {r : Rcp} {i : List Vl} {w : World}
theorem recipeParts_law (oa : Rok r) (oi : ∀ v ∈ i, OkV v) (hi : i.length ≤ maxLen) (ha1 : CelE.Row w A1 r.plus) (ha2 : CelE.Row w A2 r.minus) (hri : VlE.Row w A3 i) :
    Calls Try.prog 4 #[.agg #[.int .i64 r.base.n, .int .i64 r.base.e, .slice A1 r.plus.length c1, .slice A2 r.minus.length c2, .int .i64 r.sc.r, .int .i64 r.sc.e, .int .i64 r.sc.a, .int .i64 r.sc.p, .int .i64 r.sc.c, .int .i64 r.sc.q, .bool r.rt, .int .i64 r.num, .int .i64 r.den, .bool r.has], .slice A3 i.length c3] w fun e w' => e = .returned (.bool true) ∧ Below w.heap.size w w' := by
  by_cases hq : (readsR r).length = i.length
  · exact recipeParts_eq hq oa oi hi ha1 ha2 hri
  · exact recipeParts_ne hq oa oi hi ha1 ha2 hri
end
end Go.Proofs.Ytioecjoddgpjbaa
/-
  'RecipeParts': whatever the arguments are, the Go function returns true and leaves its arguments as they were; no further condition. The row's proof: the arguments are opened, the walk is applied, and the reading of the arguments is carried over.
-/
namespace Go.Proofs.Ytioecjoddgpjbaa.recipeParts
open Go.ChangeShapes Go.WideShapes Go.ChangeAt Go.RowKit

theorem own : ownKnob Try.prog.godebug = none := by kernel_rfl
theorem laidOut : laidOutB Try.prog = true := by kernel_rfl

set_option maxRecDepth 100000 in
theorem lifted (os : Os) (started : os.Started) (H : Type) (enc : TypeId × Value → H) :
    ReturnsInHanded {} Try.checked os 4 .any (Rows.recipePartsSpec.pre6 enc Try.prog Try.f4 Rows.recipePartsRow.domain false) (Rows.recipePartsSpec.post enc Try.prog Try.f4 false true false false) := by
  refine returnsInHanded_of_change (C := Try.checked) own started (by kernel_rfl) Try.func4
    (ChangeSpec.witness6 (enc := enc) (C := Try.checked) false ⟨#[], #[.agg #[.int .i64 0, .int .i64 0, .slice none 0 0, .slice none 0 0, .int .i64 0, .int .i64 0, .int .i64 0, .int .i64 0, .int .i64 0, .int .i64 0, .bool false, .int .i64 0, .int .i64 0, .bool false], .slice none 0 0], []⟩ 8 (by kernel_rfl) (by kernel_rfl) (by kernel_rfl) (by kernel_rfl)) ?_
  intro W base args ds gs before hval0 hW hcnd _
  have hval : ∀ (j : Nat) t v, Try.f4.params[j]? = some t → args[j]? = some v → Value.okWide Try.prog W .any base t v := hval0
  have hW' := hW
  obtain ⟨p, q, hA0, hV, rfl, hfz, hnd⟩ := hW
  have hA : DataW.TrodAll enc Try.prog W 0 (fun _ => true) true Try.f4.params.toList args.toList ds p := hA0
  rw [Try.params4] at hA hval
  obtain ⟨v0, vs0, d0, ds0, p0, q0, hargs, rfl, rfl, h0, r0'⟩ := trodAll_cons hA
  obtain ⟨v1, vs1, d1, ds1, p1, q1, rfl, rfl, rfl, h1, r1'⟩ := trodAll_cons r0'
  obtain ⟨rfl, rfl, rfl⟩ := trodAll_nil r1'
  obtain rfl : args = #[v0, v1] := by cases args; simp_all
  obtain ⟨rfl, rfl⟩ := trodVars_none hV
  have k0 := h0
  have lt0 : ∀ x ∈ p0, x.block < W.heap.size := by obtain ⟨m, hm⟩ := k0; exact DataW.trod_lt m _ _ _ hm
  have k1 := h1
  have lt1 : ∀ x ∈ p1, x.block < W.heap.size := by obtain ⟨m, hm⟩ := k1; exact DataW.trod_lt m _ _ _ hm
  obtain ⟨a0, A0, B0, c0, d0, rfl, r0, s0, o0⟩ := open_rcp (hval 0 31 v0 rfl rfl) h0
  obtain ⟨A1, c1, l1, rfl, m1, n1, r1, o1⟩ := open_vals Try.underlying32 (hval 1 32 v1 rfl rfl) h1
  clear hA0 hval0
  refine (recipeParts_law o0 o1 (Nat.le_trans m1 n1) r0 s0 r1).mono fun e W' ⟨he, bel⟩ => ?_
  subst he
  exact ⟨_, rfl, _, _, _, [], _, [], hW', trodAll_mk1 (shut_bool Try.underlying4 _), (trodAll_cons_mk (Below.trod laidOut (by kernel_rfl) (of_decide_eq_true (by kernel_rfl)) k0 bel lt0) (trodAll_cons_mk (Below.trod laidOut (by kernel_rfl) (of_decide_eq_true (by kernel_rfl)) k1 bel lt1) trodAll_mk0)), rfl, bel.frame _, fun h => by cases h⟩

theorem proved : Rows.RecipePartsSaid :=
  OpenClaim.holds_of_wide 4 Try.f4 rfl rfl rfl rfl rfl rfl rfl ⟨rfl, rfl, rfl, rfl, rfl⟩ rfl rfl rfl rfl rfl (by kernel_rfl) Try.func4 (by kernel_rfl)
    (of_decide_eq_true (by kernel_rfl)) (by unfold Func.isWrapper; first | (rw [if_pos (by decide +kernel)]; kernel_rfl) | (rw [if_neg (by decide +kernel)]; exact ⟨rfl, rfl⟩))
    (fun os started H enc _ => lifted os started H enc)
#print axioms proved
end Go.Proofs.Ytioecjoddgpjbaa.recipeParts
