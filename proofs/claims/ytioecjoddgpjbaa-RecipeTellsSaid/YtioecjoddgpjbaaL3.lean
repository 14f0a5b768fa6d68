/-
  RecipeTells: whatever recipes come, they read the document's cells, are the same, or not, and come to the document's value.
-/
import Derived.Test.YtioecjoddgpjbaaJe
import Derived.Test.YtioecjoddgpjbaaK2
namespace Go.Proofs.Ytioecjoddgpjbaa
open Go.RowKit

section
variable {A1 A2 B1 B2 A3 : Option Addr} {c1 c2 d1 d2 c3 : Nat} {a b : Rcp} {i : List Vl} {w : World}
set_option maxRecDepth 100000 in
set_option maxHeartbeats 4000000 in
theorem recipeTells_law (oa : Rok a) (ob : Rok b) (oi : ∀ v ∈ i, OkV v) (hi : i.length ≤ maxLen) (ha1 : CelE.Row w A1 a.plus) (ha2 : CelE.Row w A2 a.minus) (hb1 : CelE.Row w B1 b.plus) (hb2 : CelE.Row w B2 b.minus) (hri : VlE.Row w A3 i) :
    Calls Try.prog 3 #[.agg #[.int .i64 a.base.n, .int .i64 a.base.e, .slice A1 a.plus.length c1, .slice A2 a.minus.length c2, .int .i64 a.sc.r, .int .i64 a.sc.e, .int .i64 a.sc.a, .int .i64 a.sc.p, .int .i64 a.sc.c, .int .i64 a.sc.q, .bool a.rt, .int .i64 a.num, .int .i64 a.den, .bool a.has], .agg #[.int .i64 b.base.n, .int .i64 b.base.e, .slice B1 b.plus.length d1, .slice B2 b.minus.length d2, .int .i64 b.sc.r, .int .i64 b.sc.e, .int .i64 b.sc.a, .int .i64 b.sc.p, .int .i64 b.sc.c, .int .i64 b.sc.q, .bool b.rt, .int .i64 b.num, .int .i64 b.den, .bool b.has], .slice A3 i.length c3] w fun e w' => e = .returned (.bool true) ∧ Below w.heap.size w w' := by
  unfold maxLen at hi
  have AWA := Lib.hid fun w => reawake_any w
  have FA := fun w => few29_any (A1 := A1) (A2 := A2) (c1 := c1) (c2 := c2) (r := a) w
  have FB := fun w => few29_any (A1 := B1) (A2 := B2) (c1 := d1) (c2 := d2) (r := b) w
  have hB : Below w.heap.size w ((w.alloc (.cells #[.int .i64 a.base.n, .int .i64 a.base.e, .slice A1 a.plus.length c1, .slice A2 a.minus.length c2, .int .i64 a.sc.r, .int .i64 a.sc.e, .int .i64 a.sc.a, .int .i64 a.sc.p, .int .i64 a.sc.c, .int .i64 a.sc.q, .bool a.rt, .int .i64 a.num, .int .i64 a.den, .bool a.has] 31)).alloc (.cells #[.int .i64 b.base.n, .int .i64 b.base.e, .slice B1 b.plus.length d1, .slice B2 b.minus.length d2, .int .i64 b.sc.r, .int .i64 b.sc.e, .int .i64 b.sc.a, .int .i64 b.sc.p, .int .i64 b.sc.c, .int .i64 b.sc.q, .bool b.rt, .int .i64 b.num, .int .i64 b.den, .bool b.has] 31)) := ((Below.refl _ _).alloc (Nat.le_refl _) _).alloc (by simp) _
  have xa : Box ((w.alloc (.cells #[.int .i64 a.base.n, .int .i64 a.base.e, .slice A1 a.plus.length c1, .slice A2 a.minus.length c2, .int .i64 a.sc.r, .int .i64 a.sc.e, .int .i64 a.sc.a, .int .i64 a.sc.p, .int .i64 a.sc.c, .int .i64 a.sc.q, .bool a.rt, .int .i64 a.num, .int .i64 a.den, .bool a.has] 31)).alloc (.cells #[.int .i64 b.base.n, .int .i64 b.base.e, .slice B1 b.plus.length d1, .slice B2 b.minus.length d2, .int .i64 b.sc.r, .int .i64 b.sc.e, .int .i64 b.sc.a, .int .i64 b.sc.p, .int .i64 b.sc.c, .int .i64 b.sc.q, .bool b.rt, .int .i64 b.num, .int .i64 b.den, .bool b.has] 31)) w.heap.size 31 #[.int .i64 a.base.n, .int .i64 a.base.e, .slice A1 a.plus.length c1, .slice A2 a.minus.length c2, .int .i64 a.sc.r, .int .i64 a.sc.e, .int .i64 a.sc.a, .int .i64 a.sc.p, .int .i64 a.sc.c, .int .i64 a.sc.q, .bool a.rt, .int .i64 a.num, .int .i64 a.den, .bool a.has] := (Box.new w _ _).alloc _
  have xb : Box ((w.alloc (.cells #[.int .i64 a.base.n, .int .i64 a.base.e, .slice A1 a.plus.length c1, .slice A2 a.minus.length c2, .int .i64 a.sc.r, .int .i64 a.sc.e, .int .i64 a.sc.a, .int .i64 a.sc.p, .int .i64 a.sc.c, .int .i64 a.sc.q, .bool a.rt, .int .i64 a.num, .int .i64 a.den, .bool a.has] 31)).alloc (.cells #[.int .i64 b.base.n, .int .i64 b.base.e, .slice B1 b.plus.length d1, .slice B2 b.minus.length d2, .int .i64 b.sc.r, .int .i64 b.sc.e, .int .i64 b.sc.a, .int .i64 b.sc.p, .int .i64 b.sc.c, .int .i64 b.sc.q, .bool b.rt, .int .i64 b.num, .int .i64 b.den, .bool b.has] 31)) (w.heap.size + 1) 31 #[.int .i64 b.base.n, .int .i64 b.base.e, .slice B1 b.plus.length d1, .slice B2 b.minus.length d2, .int .i64 b.sc.r, .int .i64 b.sc.e, .int .i64 b.sc.a, .int .i64 b.sc.p, .int .i64 b.sc.c, .int .i64 b.sc.q, .bool b.rt, .int .i64 b.num, .int .i64 b.den, .bool b.has] := Box.new' (by simp)
  have ka := xa.cells
  have la := xa.lt
  have kb := xb.cells
  have lb := xb.lt
  by_cases fa : a.plus.length ≤ 60 ∧ a.minus.length ≤ 60
  case neg =>
    rw [show (decide (a.plus.length ≤ 60) && decide (a.minus.length ≤ 60)) = false by rw [← Bool.decide_and]; exact decide_eq_false fa] at FA
    replace FA := Lib.hid FA
    clear FB fa ha1 ha2 hb1 hb2 hri
    go_enter Try.func3, Try.ntmps3
    go_wp2_with fail
    refine (FA.out _).mono ?_
    rintro e w1 ⟨rfl, bw1⟩
    replace hB := hB.trans (bw1.mono hB.size)
    replace xa := xa.later bw1
    replace xb := xb.later bw1
    have ka := xa.cells
    have la := xa.lt
    have kb := xb.cells
    have lb := xb.lt
    go_wp2_with fail
    refine (AWA.out _).mono ?_
    rintro e w9 ⟨rfl, b9⟩
    replace hB := hB.trans (b9.mono hB.size)
    go_wp2
    go_ret
    exact ⟨rfl, hB⟩
  rw [show (decide (a.plus.length ≤ 60) && decide (a.minus.length ≤ 60)) = true by rw [← Bool.decide_and]; exact decide_eq_true fa] at FA
  replace FA := Lib.hid FA
  by_cases fb : b.plus.length ≤ 60 ∧ b.minus.length ≤ 60
  case neg =>
    rw [show (decide (b.plus.length ≤ 60) && decide (b.minus.length ≤ 60)) = false by rw [← Bool.decide_and]; exact decide_eq_false fb] at FB
    replace FB := Lib.hid FB
    clear fa fb ha1 ha2 hb1 hb2 hri
    go_enter Try.func3, Try.ntmps3
    go_wp2_with fail
    refine (FA.out _).mono ?_
    rintro e w1 ⟨rfl, bw1⟩
    replace hB := hB.trans (bw1.mono hB.size)
    replace xa := xa.later bw1
    replace xb := xb.later bw1
    have ka := xa.cells
    have la := xa.lt
    have kb := xb.cells
    have lb := xb.lt
    go_wp2_with fail
    refine (FB.out _).mono ?_
    rintro e w2 ⟨rfl, bw2⟩
    replace hB := hB.trans (bw2.mono hB.size)
    replace xa := xa.later bw2
    replace xb := xb.later bw2
    have ka := xa.cells
    have la := xa.lt
    have kb := xb.cells
    have lb := xb.lt
    go_wp2_with fail
    refine (AWA.out _).mono ?_
    rintro e w9 ⟨rfl, b9⟩
    replace hB := hB.trans (b9.mono hB.size)
    go_wp2
    go_ret
    exact ⟨rfl, hB⟩
  rw [show (decide (b.plus.length ≤ 60) && decide (b.minus.length ≤ 60)) = true by rw [← Bool.decide_and]; exact decide_eq_true fb] at FB
  replace FB := Lib.hid FB
  by_cases h200 : 200 < i.length
  · clear fa fb ha1 ha2 hb1 hb2 hri
    have h200i : (200 : Int) < (i.length : Int) := by omega
    go_enter Try.func3, Try.ntmps3
    go_wp2_with fail
    refine (FA.out _).mono ?_
    rintro e w1 ⟨rfl, bw1⟩
    replace hB := hB.trans (bw1.mono hB.size)
    replace xa := xa.later bw1
    replace xb := xb.later bw1
    have ka := xa.cells
    have la := xa.lt
    have kb := xb.cells
    have lb := xb.lt
    go_wp2_with fail
    refine (FB.out _).mono ?_
    rintro e w2 ⟨rfl, bw2⟩
    replace hB := hB.trans (bw2.mono hB.size)
    replace xa := xa.later bw2
    replace xb := xb.later bw2
    have ka := xa.cells
    have la := xa.lt
    have kb := xb.cells
    have lb := xb.lt
    go_wp2_with fail
    refine (AWA.out _).mono ?_
    rintro e w9 ⟨rfl, b9⟩
    replace hB := hB.trans (b9.mono hB.size)
    go_wp2
    go_ret
    exact ⟨rfl, hB⟩
  have wa := oa.wf fa.1 fa.2
  have wb := ob.wf fb.1 fb.2
  have h200i : ¬ (200 : Int) < (i.length : Int) := by omega
  have HR := Lib.hid (And.intro ha1 (And.intro ha2 (And.intro hb1 (And.intro hb2 hri))))
  obtain ⟨L, hL⟩ : ∃ L, L = readsR a := ⟨_, rfl⟩
  have hLn := readsR_len wa
  rw [← hL] at hLn
  clear ha1 ha2 hb1 hb2 hri
  go_enter Try.func3, Try.ntmps3
  go_wp2_with fail
  refine (FA.out _).mono ?_
  rintro e w1 ⟨rfl, bw1⟩
  replace hB := hB.trans (bw1.mono hB.size)
  replace xa := xa.later bw1
  replace xb := xb.later bw1
  have ka := xa.cells
  have la := xa.lt
  have kb := xb.cells
  have lb := xb.lt
  go_wp2_with fail
  refine (FB.out _).mono ?_
  rintro e w2 ⟨rfl, bw2⟩
  replace hB := hB.trans (bw2.mono hB.size)
  replace xa := xa.later bw2
  replace xb := xb.later bw2
  have ka := xa.cells
  have la := xa.lt
  have kb := xb.cells
  have lb := xb.lt
  have r1 := HR.out.1.below hB (Nat.le_refl _)
  have r2 := HR.out.2.1.below hB (Nat.le_refl _)
  have s1 := HR.out.2.2.1.below hB (Nat.le_refl _)
  have s2 := HR.out.2.2.2.1.below hB (Nat.le_refl _)
  have ri := HR.out.2.2.2.2.below hB (Nat.le_refl _)
  have OA := Lib.hid fun w => of29_any (A1 := A1) (A2 := A2) (c1 := c1) (c2 := c2) (r := a) w
  have OB := Lib.hid fun w => of29_any (A1 := B1) (A2 := B2) (c1 := d1) (c2 := d2) (r := b) w
  have RD := fun W (cb : Below w2.heap.size w2 W) => reads_any (c1 := c1) (c2 := c2) wa (r1.later cb) (r2.later cb)
  have RR := fun W (cb : Below w2.heap.size w2 W) => rreads_any (c1 := c1) (c2 := c2) wa (r1.later cb) (r2.later cb)
  rw [← hL] at RD RR
  have SA := fun (A A' : Option Addr) (c c' : Nat) (W : World) (h1 : CelE.Row W A L) (h2 : CelE.Row W A' L) => csame_any (c := c) (c' := c') (by omega) (by omega) h1 h2
  rw [decide_eq_true rfl] at SA
  have EV := fun W (cb : Below w2.heap.size w2 W) => eval_any (c1 := c1) (c2 := c2) (c3 := c3) wa oa.base oi (r1.later cb) (r2.later cb) (ri.later cb)
  have ER := fun W (cb : Below w2.heap.size w2 W) => reval29_any (c1 := c1) (c2 := c2) (c3 := c3) wa oa.base oi (r1.later cb) (r2.later cb) (ri.later cb)
  have PS := fun W (cb : Below w2.heap.size w2 W) => psame_any (c1 := c1) (c2 := c2) (d1 := d1) (d2 := d2) wa.lp wb.lp wa.lm wb.lm (r1.later cb) (r2.later cb) (s1.later cb) (s2.later cb)
  have PR := fun W (cb : Below w2.heap.size w2 W) => rsame29_any (c1 := c1) (c2 := c2) (d1 := d1) (d2 := d2) wa.lp wb.lp wa.lm wb.lm (r1.later cb) (r2.later cb) (s1.later cb) (s2.later cb)
  unfold vv at EV ER
  generalize evalR a i = ev at *
  obtain ⟨q, hq⟩ : ∃ q, decide (a = b) = q := ⟨_, rfl⟩
  rw [hq] at PS PR
  replace RD := Lib.hid RD
  replace RR := Lib.hid RR
  replace SA := Lib.hid SA
  replace EV := Lib.hid EV
  replace ER := Lib.hid ER
  replace PS := Lib.hid PS
  replace PR := Lib.hid PR
  replace hq := Lib.hid hq
  have cb := below_drewN (Below.refl w2.heap.size w2) 1
  clear r1 r2 s1 s2 ri FA FB hL HR
  go_upto_region 3 with fail
  refine wp_region_noPanic ?_
  refine wp_region_held_drew (S := (fun w' => w'.cell? ⟨w.heap.size, 0, none⟩ = some (.int .i64 a.base.n) ∧ w'.cell? ⟨w.heap.size, 1, none⟩ = some (.int .i64 a.base.e) ∧ w'.cell? ⟨w.heap.size, 2, none⟩ = some (.slice A1 a.plus.length c1) ∧ w'.cell? ⟨w.heap.size, 3, none⟩ = some (.slice A2 a.minus.length c2) ∧ w'.cell? ⟨w.heap.size, 4, none⟩ = some (.int .i64 a.sc.r) ∧ w'.cell? ⟨w.heap.size, 5, none⟩ = some (.int .i64 a.sc.e) ∧ w'.cell? ⟨w.heap.size, 6, none⟩ = some (.int .i64 a.sc.a) ∧ w'.cell? ⟨w.heap.size, 7, none⟩ = some (.int .i64 a.sc.p) ∧ w'.cell? ⟨w.heap.size, 8, none⟩ = some (.int .i64 a.sc.c) ∧ w'.cell? ⟨w.heap.size, 9, none⟩ = some (.int .i64 a.sc.q) ∧ w'.cell? ⟨w.heap.size, 10, none⟩ = some (.bool a.rt) ∧ w'.cell? ⟨w.heap.size, 11, none⟩ = some (.int .i64 a.num) ∧ w'.cell? ⟨w.heap.size, 12, none⟩ = some (.int .i64 a.den) ∧ w'.cell? ⟨w.heap.size, 13, none⟩ = some (.bool a.has) ∧ w'.cell? ⟨w.heap.size + 1, 0, none⟩ = some (.int .i64 b.base.n) ∧ w'.cell? ⟨w.heap.size + 1, 1, none⟩ = some (.int .i64 b.base.e) ∧ w'.cell? ⟨w.heap.size + 1, 2, none⟩ = some (.slice B1 b.plus.length d1) ∧ w'.cell? ⟨w.heap.size + 1, 3, none⟩ = some (.slice B2 b.minus.length d2) ∧ w'.cell? ⟨w.heap.size + 1, 4, none⟩ = some (.int .i64 b.sc.r) ∧ w'.cell? ⟨w.heap.size + 1, 5, none⟩ = some (.int .i64 b.sc.e) ∧ w'.cell? ⟨w.heap.size + 1, 6, none⟩ = some (.int .i64 b.sc.a) ∧ w'.cell? ⟨w.heap.size + 1, 7, none⟩ = some (.int .i64 b.sc.p) ∧ w'.cell? ⟨w.heap.size + 1, 8, none⟩ = some (.int .i64 b.sc.c) ∧ w'.cell? ⟨w.heap.size + 1, 9, none⟩ = some (.int .i64 b.sc.q) ∧ w'.cell? ⟨w.heap.size + 1, 10, none⟩ = some (.bool b.rt) ∧ w'.cell? ⟨w.heap.size + 1, 11, none⟩ = some (.int .i64 b.num) ∧ w'.cell? ⟨w.heap.size + 1, 12, none⟩ = some (.int .i64 b.den) ∧ w'.cell? ⟨w.heap.size + 1, 13, none⟩ = some (.bool b.has))) (by kernel_rfl) ?_ (fun hHeld => ?_)
  · first | assumption | go_keep
  refine wpAnyH_take (i := 0) (v := ?vf0) rfl (by kernel_rfl) (by kernel_rfl) (by kernel_rfl) (fun _ _ _ h => h) (Or.inl ⟨by kernel_rfl, ?hyf0⟩) (by assumption) ?restf0
  case hyf0 => (intro w hSw; (try dsimp only at hSw); go_simp; (try with_reducible rfl))
  go_simp
  refine wpAnyH_take (i := 3) (v := ?vf3) rfl (by kernel_rfl) (by kernel_rfl) (by kernel_rfl) (fun _ _ _ h => h) (Or.inl ⟨by kernel_rfl, ?hyf3⟩) (by assumption) ?restf3
  case hyf3 => (intro w hSw; (try dsimp only at hSw); go_simp; (try with_reducible rfl))
  go_simp
  refine wpAnyH_ready (rs := [1]) (by kernel_rfl) (by simp) ?_
  refine AllReadyH.cons rfl (fun K hK => ?_) AllReadyH.nil
  rw [if_pos (by kernel_rfl)]
  go_simp
  refine (OA.out _).mono ?_
  rintro e v1 ⟨rfl, b1⟩
  have cb := cb.trans (b1.mono cb.size)
  clear b1
  have ka := (xa.later cb).cells
  have kb := (xb.later cb).cells
  go_wp2_with fail
  refine hK.out _ _ (by first | assumption | go_keep) (fun hHeld => ?_)
  clear hK K
  go_simp
  refine wpAnyH_ready (rs := [2]) (by kernel_rfl) (by simp) ?_
  refine AllReadyH.cons rfl (fun K hK => ?_) AllReadyH.nil
  rw [if_pos (by kernel_rfl)]
  go_simp
  refine (RD.out _ cb).mono ?_
  rintro e v2 ⟨A23, c23, rfl, _, _, own23, b2⟩
  have r23 := Enc.Row.of_own (E := CelE) own23
  clear own23
  have cb := cb.trans (b2.mono cb.size)
  clear b2
  have ka := (xa.later cb).cells
  have kb := (xb.later cb).cells
  go_wp2_with fail
  refine hK.out _ _ (by first | assumption | go_keep) (fun hHeld => ?_)
  clear hK K
  go_simp
  refine wpAnyH_ready (rs := [4]) (by kernel_rfl) (by simp) ?_
  refine AllReadyH.cons rfl (fun K hK => ?_) AllReadyH.nil
  rw [if_pos (by kernel_rfl)]
  go_simp
  refine (RR.out _ cb).mono ?_
  rintro e v4 ⟨A25, c25, rfl, _, _, own25, b4⟩
  have r25 := Enc.Row.of_own (E := CelE) own25
  have r23 := r23.later b4
  clear own25
  have cb := cb.trans (b4.mono cb.size)
  clear b4
  have ka := (xa.later cb).cells
  have kb := (xb.later cb).cells
  go_wp2_with fail
  refine hK.out _ _ (by first | assumption | go_keep) (fun hHeld => ?_)
  clear hK K
  go_simp
  refine wpAnyH_ready (rs := [5]) (by kernel_rfl) (by simp) ?_
  refine AllReadyH.cons rfl (fun K hK => ?_) AllReadyH.nil
  rw [if_pos (by kernel_rfl)]
  go_simp
  refine (SA.out _ _ _ _ _ r23 r25).mono ?_
  rintro e v5 ⟨rfl, b5⟩
  clear r23 r25
  have cb := cb.trans (b5.mono cb.size)
  clear b5
  have ka := (xa.later cb).cells
  have kb := (xb.later cb).cells
  go_wp2_with fail
  refine hK.out _ _ (by first | assumption | go_keep) (fun hHeld => ?_)
  clear hK K
  go_simp
  refine wpAnyH_take (i := 6) (v := ?vf6) rfl (by kernel_rfl) (by kernel_rfl) (by kernel_rfl) (fun _ _ _ h => h) (Or.inl ⟨by kernel_rfl, ?hyf6⟩) (by assumption) ?restf6
  case hyf6 => (intro w hSw; (try dsimp only at hSw); go_simp; (try with_reducible rfl))
  go_simp
  refine wpAnyH_take (i := 7) (v := ?vf7) rfl (by kernel_rfl) (by kernel_rfl) (by kernel_rfl) (fun _ _ _ h => h) (Or.inl ⟨by kernel_rfl, ?hyf7⟩) (by assumption) ?restf7
  case hyf7 => (intro w hSw; (try dsimp only at hSw); go_simp; (try with_reducible rfl))
  go_simp
  refine wpAnyH_take (i := 9) (v := ?vf9) rfl (by kernel_rfl) (by kernel_rfl) (by kernel_rfl) (fun _ _ _ h => h) (Or.inl ⟨by kernel_rfl, ?hyf9⟩) (by assumption) ?restf9
  case hyf9 => (intro w hSw; (try dsimp only at hSw); go_simp; (try with_reducible rfl))
  go_simp
  refine wpAnyH_take (i := 11) (v := ?vf11) rfl (by kernel_rfl) (by kernel_rfl) (by kernel_rfl) (fun _ _ _ h => h) (Or.inl ⟨by kernel_rfl, ?hyf11⟩) (by assumption) ?restf11
  case hyf11 => (intro w hSw; (try dsimp only at hSw); go_simp; (try with_reducible rfl))
  go_simp
  refine wpAnyH_take (i := 12) (v := ?vf12) rfl (by kernel_rfl) (by kernel_rfl) (by kernel_rfl) (fun _ _ _ h => h) (Or.inl ⟨by kernel_rfl, ?hyf12⟩) (by assumption) ?restf12
  case hyf12 => (intro w hSw; (try dsimp only at hSw); go_simp; (try with_reducible rfl))
  go_simp
  refine wpAnyH_ready (rs := [8]) (by kernel_rfl) (by simp) ?_
  refine AllReadyH.cons rfl (fun K hK => ?_) AllReadyH.nil
  rw [if_pos (by kernel_rfl)]
  go_simp
  refine (OA.out _).mono ?_
  rintro e v8 ⟨rfl, b8⟩
  have cb := cb.trans (b8.mono cb.size)
  clear b8
  have ka := (xa.later cb).cells
  have kb := (xb.later cb).cells
  go_wp2_with fail
  refine hK.out _ _ (by first | assumption | go_keep) (fun hHeld => ?_)
  clear hK K
  go_simp
  refine wpAnyH_ready (rs := [10]) (by kernel_rfl) (by simp) ?_
  refine AllReadyH.cons rfl (fun K hK => ?_) AllReadyH.nil
  rw [if_pos (by kernel_rfl)]
  go_simp
  refine (EV.out _ cb).mono ?_
  rintro e v10 ⟨rfl, b10⟩
  have cb := cb.trans (b10.mono cb.size)
  clear b10
  have ka := (xa.later cb).cells
  have kb := (xb.later cb).cells
  go_wp2_with fail
  refine hK.out _ _ (by first | assumption | go_keep) (fun hHeld => ?_)
  clear hK K
  go_simp
  refine wpAnyH_ready (rs := [13]) (by kernel_rfl) (by simp) ?_
  refine AllReadyH.cons rfl (fun K hK => ?_) AllReadyH.nil
  rw [if_pos (by kernel_rfl)]
  go_simp
  refine (ER.out _ cb).mono ?_
  rintro e v13 ⟨rfl, b13⟩
  have cb := cb.trans (b13.mono cb.size)
  clear b13
  have ka := (xa.later cb).cells
  have kb := (xb.later cb).cells
  go_wp2_with fail
  refine hK.out _ _ (by first | assumption | go_keep) (fun hHeld => ?_)
  clear hK K
  go_simp
  refine wpAnyH_take (i := 14) (v := ?vf14) rfl (by kernel_rfl) (by kernel_rfl) (by kernel_rfl) (fun _ _ _ h => h) (Or.inl ⟨by kernel_rfl, ?hyf14⟩) (by assumption) ?restf14
  case hyf14 => (intro w hSw; (try dsimp only at hSw); go_simp; (try with_reducible rfl))
  go_simp
  refine wpAnyH_take (i := 15) (v := ?vf15) rfl (by kernel_rfl) (by kernel_rfl) (by kernel_rfl) (fun _ _ _ h => h) (Or.inl ⟨by kernel_rfl, ?hyf15⟩) (by assumption) ?restf15
  case hyf15 => (intro w hSw; (try dsimp only at hSw); go_simp; (try with_reducible rfl))
  go_simp
  refine wpAnyH_take (i := 16) (v := ?vf16) rfl (by kernel_rfl) (by kernel_rfl) (by kernel_rfl) (fun _ _ _ h => h) (Or.inl ⟨by kernel_rfl, ?hyf16⟩) (by assumption) ?restf16
  case hyf16 => (intro w hSw; (try dsimp only at hSw); go_simp; (try with_reducible rfl))
  go_simp
  refine wpAnyH_take (i := 17) (v := ?vf17) rfl (by kernel_rfl) (by kernel_rfl) (by kernel_rfl) (fun _ _ _ h => h) (Or.inl ⟨by kernel_rfl, ?hyf17⟩) (by assumption) ?restf17
  case hyf17 => (intro w hSw; (try dsimp only at hSw); go_simp; (try with_reducible rfl))
  go_simp
  refine wpAnyH_take (i := 19) (v := ?vf19) rfl (by kernel_rfl) (by kernel_rfl) (by kernel_rfl) (fun _ _ _ h => h) (Or.inl ⟨by kernel_rfl, ?hyf19⟩) (by assumption) ?restf19
  case hyf19 => (intro w hSw; (try dsimp only at hSw); go_simp; (try with_reducible rfl))
  go_simp
  refine wpAnyH_take (i := 22) (v := ?vf22) rfl (by kernel_rfl) (by kernel_rfl) (by kernel_rfl) (fun _ _ _ h => h) (Or.inl ⟨by kernel_rfl, ?hyf22⟩) (by assumption) ?restf22
  case hyf22 => (intro w hSw; (try dsimp only at hSw); go_simp; (try with_reducible rfl))
  go_simp
  refine wpAnyH_take (i := 23) (v := ?vf23) rfl (by kernel_rfl) (by kernel_rfl) (by kernel_rfl) (fun _ _ _ h => h) (Or.inl ⟨by kernel_rfl, ?hyf23⟩) (by assumption) ?restf23
  case hyf23 => (intro w hSw; (try dsimp only at hSw); go_simp; (try with_reducible rfl))
  go_simp
  refine wpAnyH_ready (rs := [18]) (by kernel_rfl) (by simp) ?_
  refine AllReadyH.cons rfl (fun K hK => ?_) AllReadyH.nil
  rw [if_pos (by kernel_rfl)]
  go_simp
  refine (OA.out _).mono ?_
  rintro e v18 ⟨rfl, b18⟩
  have cb := cb.trans (b18.mono cb.size)
  clear b18
  have ka := (xa.later cb).cells
  have kb := (xb.later cb).cells
  go_wp2_with fail
  refine hK.out _ _ (by first | assumption | go_keep) (fun hHeld => ?_)
  clear hK K
  go_simp
  refine wpAnyH_ready (rs := [20]) (by kernel_rfl) (by simp) ?_
  refine AllReadyH.cons rfl (fun K hK => ?_) AllReadyH.nil
  rw [if_pos (by kernel_rfl)]
  go_simp
  refine (OB.out _).mono ?_
  rintro e v20 ⟨rfl, b20⟩
  have cb := cb.trans (b20.mono cb.size)
  clear b20
  have ka := (xa.later cb).cells
  have kb := (xb.later cb).cells
  go_wp2_with fail
  refine hK.out _ _ (by first | assumption | go_keep) (fun hHeld => ?_)
  clear hK K
  go_simp
  refine wpAnyH_ready (rs := [21]) (by kernel_rfl) (by simp) ?_
  refine AllReadyH.cons rfl (fun K hK => ?_) AllReadyH.nil
  rw [if_pos (by kernel_rfl)]
  go_simp
  refine (PS.out _ cb).mono ?_
  rintro e v21 ⟨rfl, b21⟩
  have cb := cb.trans (b21.mono cb.size)
  clear b21
  have ka := (xa.later cb).cells
  have kb := (xb.later cb).cells
  go_wp2_with fail
  refine hK.out _ _ (by first | assumption | go_keep) (fun hHeld => ?_)
  clear hK K
  go_simp
  refine wpAnyH_ready (rs := [24]) (by kernel_rfl) (by simp) ?_
  refine AllReadyH.cons rfl (fun K hK => ?_) AllReadyH.nil
  rw [if_pos (by kernel_rfl)]
  go_simp
  refine (PR.out _ cb).mono ?_
  rintro e v24 ⟨rfl, b24⟩
  have cb := cb.trans (b24.mono cb.size)
  clear b24
  have ka := (xa.later cb).cells
  have kb := (xb.later cb).cells
  go_wp2_with fail
  refine hK.out _ _ (by first | assumption | go_keep) (fun hHeld => ?_)
  clear hK K
  go_simp
  refine wpAnyH_take (i := 25) (v := ?vf25) rfl (by kernel_rfl) (by kernel_rfl) (by kernel_rfl) (fun _ _ _ h => h) (Or.inl ⟨by kernel_rfl, ?hyf25⟩) (by assumption) ?restf25
  case hyf25 => (intro w hSw; (try dsimp only at hSw); go_simp; (try with_reducible rfl))
  go_simp
  refine wpAnyH_take (i := 26) (v := ?vf26) rfl (by kernel_rfl) (by kernel_rfl) (by kernel_rfl) (fun _ _ _ h => h) (Or.inl ⟨by kernel_rfl, ?hyf26⟩) (by assumption) ?restf26
  case hyf26 => (intro w hSw; (try dsimp only at hSw); go_simp; (try with_reducible rfl))
  go_simp
  refine wpAnyH_take (i := 27) (v := ?vf27) rfl (by kernel_rfl) (by kernel_rfl) (by kernel_rfl) (fun _ _ _ h => h) (Or.inl ⟨by kernel_rfl, ?hyf27⟩) (by assumption) ?restf27
  case hyf27 => (intro w hSw; (try dsimp only at hSw); go_simp; (try with_reducible rfl))
  go_simp
  refine wpAnyH_ready (rs := [28]) (by kernel_rfl) (by simp) ?_
  refine AllReadyH.cons rfl (fun K hK => ?_) AllReadyH.nil
  rw [if_pos (by kernel_rfl)]
  go_simp
  refine (AWA.out _).mono ?_
  rintro e v28 ⟨rfl, b28⟩
  have cb := cb.trans (b28.mono cb.size)
  clear b28
  have ka := (xa.later cb).cells
  have kb := (xb.later cb).cells
  go_wp2_with fail
  refine hK.out _ _ (by first | assumption | go_keep) (fun hHeld => ?_)
  clear hK K
  go_simp
  refine wpAnyH_take (i := 29) (v := ?vf29) rfl (by kernel_rfl) (by kernel_rfl) (by kernel_rfl) (fun _ _ _ h => h) (Or.inl ⟨by kernel_rfl, ?hyf29⟩) (by assumption) ?restf29
  case hyf29 => (intro w hSw; (try dsimp only at hSw); go_simp; (try with_reducible rfl))
  go_simp
  refine wpAnyH_ready (rs := [30]) (by kernel_rfl) (by simp) ?_
  refine AllReadyH.cons rfl (fun K hK => ?_) AllReadyH.nil
  rw [if_pos (by kernel_rfl)]
  go_simp
  refine hK.out _ _ hHeld (fun hHeld => ?_)
  clear hK K
  go_simp
  refine wpAnyH_done (by kernel_rfl) ?_ _
  refine NoPanic.normal ?_
  replace hB := hB.trans (cb.mono hB.size)
  clear ka kb cb xa xb
  go_wp2
  go_ret
  exact ⟨rfl, hB⟩
end
end Go.Proofs.Ytioecjoddgpjbaa
/-
  'RecipeTells': whatever the arguments are, the Go function returns true and leaves its arguments as they were; no further condition. The row's proof: the arguments are opened, the walk is applied, and the reading of the arguments is carried over.
-/
namespace Go.Proofs.Ytioecjoddgpjbaa.recipeTells
open Go.ChangeShapes Go.WideShapes Go.ChangeAt Go.RowKit

theorem own : ownKnob Try.prog.godebug = none := by kernel_rfl
theorem laidOut : laidOutB Try.prog = true := by kernel_rfl

set_option maxRecDepth 100000 in
theorem lifted (os : Os) (started : os.Started) (H : Type) (enc : TypeId × Value → H) :
    ReturnsInHanded {} Try.checked os 3 .any (Rows.recipeTellsSpec.pre6 enc Try.prog Try.f3 Rows.recipeTellsRow.domain false) (Rows.recipeTellsSpec.post enc Try.prog Try.f3 false true false false) := by
  refine returnsInHanded_of_change (C := Try.checked) own started (by kernel_rfl) Try.func3
    (ChangeSpec.witness6 (enc := enc) (C := Try.checked) false ⟨#[], #[.agg #[.int .i64 0, .int .i64 0, .slice none 0 0, .slice none 0 0, .int .i64 0, .int .i64 0, .int .i64 0, .int .i64 0, .int .i64 0, .int .i64 0, .bool false, .int .i64 0, .int .i64 0, .bool false], .agg #[.int .i64 0, .int .i64 0, .slice none 0 0, .slice none 0 0, .int .i64 0, .int .i64 0, .int .i64 0, .int .i64 0, .int .i64 0, .int .i64 0, .bool false, .int .i64 0, .int .i64 0, .bool false], .slice none 0 0], []⟩ 8 (by kernel_rfl) (by kernel_rfl) (by kernel_rfl) (by kernel_rfl)) ?_
  intro W base args ds gs before hval0 hW hcnd _
  have hval : ∀ (j : Nat) t v, Try.f3.params[j]? = some t → args[j]? = some v → Value.okWide Try.prog W .any base t v := hval0
  have hW' := hW
  obtain ⟨p, q, hA0, hV, rfl, hfz, hnd⟩ := hW
  have hA : DataW.TrodAll enc Try.prog W 0 (fun _ => true) true Try.f3.params.toList args.toList ds p := hA0
  rw [Try.params3] at hA hval
  obtain ⟨v0, vs0, d0, ds0, p0, q0, hargs, rfl, rfl, h0, r0'⟩ := trodAll_cons hA
  obtain ⟨v1, vs1, d1, ds1, p1, q1, rfl, rfl, rfl, h1, r1'⟩ := trodAll_cons r0'
  obtain ⟨v2, vs2, d2, ds2, p2, q2, rfl, rfl, rfl, h2, r2'⟩ := trodAll_cons r1'
  obtain ⟨rfl, rfl, rfl⟩ := trodAll_nil r2'
  obtain rfl : args = #[v0, v1, v2] := by cases args; simp_all
  obtain ⟨rfl, rfl⟩ := trodVars_none hV
  have k0 := h0
  have lt0 : ∀ x ∈ p0, x.block < W.heap.size := by obtain ⟨m, hm⟩ := k0; exact DataW.trod_lt m _ _ _ hm
  have k1 := h1
  have lt1 : ∀ x ∈ p1, x.block < W.heap.size := by obtain ⟨m, hm⟩ := k1; exact DataW.trod_lt m _ _ _ hm
  have k2 := h2
  have lt2 : ∀ x ∈ p2, x.block < W.heap.size := by obtain ⟨m, hm⟩ := k2; exact DataW.trod_lt m _ _ _ hm
  obtain ⟨a0, A0, B0, c0, d0, rfl, r0, s0, o0⟩ := open_rcp (hval 0 31 v0 rfl rfl) h0
  obtain ⟨a1, A1, B1, c1, d1, rfl, r1, s1, o1⟩ := open_rcp (hval 1 31 v1 rfl rfl) h1
  obtain ⟨A2, c2, l2, rfl, m2, n2, r2, o2⟩ := open_vals Try.underlying32 (hval 2 32 v2 rfl rfl) h2
  clear hA0 hval0
  refine (recipeTells_law o0 o1 o2 (Nat.le_trans m2 n2) r0 s0 r1 s1 r2).mono fun e W' ⟨he, bel⟩ => ?_
  subst he
  exact ⟨_, rfl, _, _, _, [], _, [], hW', trodAll_mk1 (shut_bool Try.underlying4 _), (trodAll_cons_mk (Below.trod laidOut (by kernel_rfl) (of_decide_eq_true (by kernel_rfl)) k0 bel lt0) (trodAll_cons_mk (Below.trod laidOut (by kernel_rfl) (of_decide_eq_true (by kernel_rfl)) k1 bel lt1) (trodAll_cons_mk (Below.trod laidOut (by kernel_rfl) (of_decide_eq_true (by kernel_rfl)) k2 bel lt2) trodAll_mk0))), rfl, bel.frame _, fun h => by cases h⟩

theorem proved : Rows.RecipeTellsSaid :=
  OpenClaim.holds_of_wide 3 Try.f3 rfl rfl rfl rfl rfl rfl rfl ⟨rfl, rfl, rfl, rfl, rfl⟩ rfl rfl rfl rfl rfl (by kernel_rfl) Try.func3 (by kernel_rfl)
    (of_decide_eq_true (by kernel_rfl)) (by unfold Func.isWrapper; first | (rw [if_pos (by decide +kernel)]; kernel_rfl) | (rw [if_neg (by decide +kernel)]; exact ⟨rfl, rfl⟩))
    (fun os started H enc _ => lifted os started H enc)
#print axioms proved
end Go.Proofs.Ytioecjoddgpjbaa.recipeTells
