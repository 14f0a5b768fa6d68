/-
  recipe: what a recipe comes to.
-/
import Derived.Test.YtioecjoddgpjbaaRea
namespace Go.Proofs.Ytioecjoddgpjbaa
open Go.RowKit

section
variable {A1 A2 A3 : Option Addr} {c1 c2 c3 : Nat} {r : Rcp} {i : List Vl} {w : World}
set_option maxRecDepth 100000 in
set_option maxHeartbeats 4000000 in
theorem eval_any (hwf : WfR r) (hbase : OkV r.base) (hi64 : ∀ v ∈ i, OkV v) (hr1 : CelE.Row w A1 r.plus) (hr2 : CelE.Row w A2 r.minus) (hr3 : VlE.Row w A3 i) : Calls Try.prog 12 #[.agg #[.int .i64 r.base.n, .int .i64 r.base.e, .slice A1 r.plus.length c1, .slice A2 r.minus.length c2, .int .i64 r.sc.r, .int .i64 r.sc.e, .int .i64 r.sc.a, .int .i64 r.sc.p, .int .i64 r.sc.c, .int .i64 r.sc.q, .bool r.rt, .int .i64 r.num, .int .i64 r.den, .bool r.has], .slice A3 i.length c3] w fun e w' => e = .returned (vv (evalR r i)) ∧ Below w.heap.size w w' := by
  obtain ⟨i0, hi, hz0, hz1, hz2⟩ := info_parts Try.infoVal
  have hmm := mm_hint
  have hmf : ∀ (fn : Fn) (first cap : Array Value) (w : World), (Instr.makeFunc fn first cap).run Try.prog w = .ok (.func fn first cap) w := fun _ _ _ _ => rfl
  obtain ⟨L, hL⟩ : ∃ L, L = readsR r := ⟨_, rfl⟩
  have hB1 : Below w.heap.size w ((w.alloc (.cells #[.int .i64 r.base.n, .int .i64 r.base.e, .slice A1 r.plus.length c1, .slice A2 r.minus.length c2, .int .i64 r.sc.r, .int .i64 r.sc.e, .int .i64 r.sc.a, .int .i64 r.sc.p, .int .i64 r.sc.c, .int .i64 r.sc.q, .bool r.rt, .int .i64 r.num, .int .i64 r.den, .bool r.has] 40)).alloc (.cells #[.int .i64 0, .int .i64 0] 24)) := ((Below.refl _ _).alloc (Nat.le_refl _) _).alloc (by simp) _
  have xb : Box ((w.alloc (.cells #[.int .i64 r.base.n, .int .i64 r.base.e, .slice A1 r.plus.length c1, .slice A2 r.minus.length c2, .int .i64 r.sc.r, .int .i64 r.sc.e, .int .i64 r.sc.a, .int .i64 r.sc.p, .int .i64 r.sc.c, .int .i64 r.sc.q, .bool r.rt, .int .i64 r.num, .int .i64 r.den, .bool r.has] 40)).alloc (.cells #[.int .i64 0, .int .i64 0] 24)) w.heap.size 40 #[.int .i64 r.base.n, .int .i64 r.base.e, .slice A1 r.plus.length c1, .slice A2 r.minus.length c2, .int .i64 r.sc.r, .int .i64 r.sc.e, .int .i64 r.sc.a, .int .i64 r.sc.p, .int .i64 r.sc.c, .int .i64 r.sc.q, .bool r.rt, .int .i64 r.num, .int .i64 r.den, .bool r.has] := (Box.new w _ _).alloc _
  have xv : Box ((w.alloc (.cells #[.int .i64 r.base.n, .int .i64 r.base.e, .slice A1 r.plus.length c1, .slice A2 r.minus.length c2, .int .i64 r.sc.r, .int .i64 r.sc.e, .int .i64 r.sc.a, .int .i64 r.sc.p, .int .i64 r.sc.c, .int .i64 r.sc.q, .bool r.rt, .int .i64 r.num, .int .i64 r.den, .bool r.has] 40)).alloc (.cells #[.int .i64 0, .int .i64 0] 24)) (w.heap.size + 1) 24 #[.int .i64 0, .int .i64 0] := Box.new' (by simp)
  have RD := reads_any (c1 := c1) (c2 := c2) hwf (hr1.below hB1 (Nat.le_refl _)) (hr2.below hB1 (Nat.le_refl _))
  have RT := Lib.hid fun (w : World) => rated_any (A1 := A1) (A2 := A2) (c1 := c1) (c2 := c2) (r := r) w
  have hnd := readsR_nodup r
  have hLw := readsR_wf hwf
  have hLn := readsR_len hwf
  have hE1 : L.length ≠ i.length → evalR r i = ⟨0, 2⟩ := fun h => by unfold evalR; rw [if_pos (by rw [← hL]; exact h)]
  have hE0 : L.length = i.length → evalR r i = netV (plusV r L i) (r.minus.map (ofV L i)) := fun h => by unfold evalR; rw [if_neg (by rw [← hL]; exact fun h2 => h2 h), ← hL]
  rw [← hL] at RD hnd hLw hLn
  replace hL := Lib.hid hL
  replace RD := Lib.hid RD
  replace hnd := Lib.hid hnd
  replace hLw := Lib.hid hLw
  have hlp := hwf.lp
  have hlm := hwf.lm
  have k2 := xb.cells
  have l2 := xb.lt
  have HR1 := Lib.hid hr1
  have HR2 := Lib.hid hr2
  have HR3 := Lib.hid hr3
  clear hr1 hr2 hr3
  go_enter Try.func12, Try.ntmps12
  go_wp2_with fail
  refine RD.out.mono ?_
  rintro e W2 ⟨A5, c5, rfl, hc51, hc52, own5, b2⟩
  replace xb := xb.later b2
  replace xv := xv.later b2
  have HB := hB1.trans (b2.mono hB1.size)
  have R5 := Enc.Row.of_own (E := CelE) own5
  clear k2 l2 b2 hB1 RD own5
  by_cases hli : L.length = i.length
  · have hEV := Lib.hid (hE0 hli)
    clear hE0 hE1
    have hd : ((L.length : Int) == (i.length : Int)) = true := by rw [hli]; simp
    have hdn : ((L.length : Int) != (i.length : Int)) = false := by rw [hli]; simp
    have hB0 : Below W2.heap.size W2 ((W2.alloc (.map #[] 0)).alloc (.cells #[.map (some W2.heap.size)] 62)) := ((Below.refl _ _).alloc (Nat.le_refl _) _).alloc (by simp) _
    have hM0 : ValM ((W2.alloc (.map #[] 0)).alloc (.cells #[.map (some W2.heap.size)] 62)) W2.heap.size [] [] := (ValM.made W2).alloc _
    have xg0 : Box ((W2.alloc (.map #[] 0)).alloc (.cells #[.map (some W2.heap.size)] 62)) (W2.heap.size + 1) 62 #[.map (some W2.heap.size)] := Box.new' (by simp)
    have R3 : VlE.Row W2 A3 i := HR3.out.below HB (Nat.le_refl _)
    have HLI := Lib.hid hli
    go_wp2
    go_loopw [24] (fun t wr => ∃ k : Nat, k ≤ L.length ∧ t = .int .i64 k ∧ ValM wr W2.heap.size (L.take k) (i.take k) ∧ Box wr (W2.heap.size + 1) 62 #[.map (some W2.heap.size)] ∧ Below W2.heap.size W2 wr) (fun t _ => L.length - (intOf t).toNat)
    case atStart => exact ⟨0, by omega, rfl, hM0, xg0, hB0⟩
    case round =>
      clear hM0 xg0 hB0
      obtain ⟨k, hk, rfl, hM, xg, hB⟩ := hrel
      by_cases hkn : k < L.length
      · have hki : k < i.length := by omega
        obtain ⟨b0, off, rfl, hgb, hc⟩ := (R5.below hB (by omega)).get (by omega)
        obtain ⟨b2, off2, rfl, hlt2, hc2⟩ := R3.get (by omega)
        have d0 := hc k hkn 0 _ rfl
        have d1 := hc k hkn 1 _ rfl
        have d2 := hc k hkn 2 _ rfl
        have d3 := hc k hkn 3 _ rfl
        have d4 := hc k hkn 4 _ rfl
        have d5 := hc k hkn 5 _ rfl
        have e0 := (hB.cell (p := ⟨b2, off2 + (k * VlE.n + 0), none⟩) hlt2).trans (hc2 k hki 0 _ rfl)
        have e1 := (hB.cell (p := ⟨b2, off2 + (k * VlE.n + 1), none⟩) hlt2).trans (hc2 k hki 1 _ rfl)
        have hgb2 : b2 < wr.heap.size := Nat.lt_of_lt_of_le hlt2 hB.size
        have hxw := hLw.out L[k] (List.getElem_mem hkn)
        have hxn := nodup_take hnd.out hkn
        have hsl := Lib.hid (List.take_succ_eq_append_getElem hkn)
        have hsi := Lib.hid (List.take_succ_eq_append_getElem hki)
        have htl : (L.take k).length = (i.take k).length := by rw [List.length_take, List.length_take, hli]
        clear hc hc2
        generalize L[k] = x at *
        generalize i[k] = v at *
        obtain ⟨x1, x2, x3, x4, x5, x6⟩ := x
        obtain ⟨vn, ve⟩ := v
        dsimp only at d0 d1 d2 d3 d4 d5 e0 e1
        rw [show CelE.n = 6 from rfl, Nat.add_zero] at d0
        rw [show CelE.n = 6 from rfl, ← Nat.add_assoc] at d1 d2 d3 d4 d5
        rw [show VlE.n = 2 from rfl, Nat.add_zero] at e0
        rw [show VlE.n = 2 from rfl, ← Nat.add_assoc] at e1
        have hwsz := hB.size
        have hMlt := hM.lt
        have hgl := xg.lt
        have hM8 := (hM.alloc (.cells #[.int .i64 x1, .int .i64 x2, .int .i64 x3, .int .i64 x4, .int .i64 x5, .int .i64 x6] 27)).drew
        have x8 := (Box.new wr 27 #[.int .i64 x1, .int .i64 x2, .int .i64 x3, .int .i64 x4, .int .i64 x5, .int .i64 x6]).drew
        replace xg := (xg.alloc (.cells #[.int .i64 x1, .int .i64 x2, .int .i64 x3, .int .i64 x4, .int .i64 x5, .int .i64 x6] 27)).drew
        obtain ⟨w8, r1, hM8, g8⟩ := hM8.store (v := ⟨vn, ve⟩) htl hxw hxn
        unfold cv vv at r1
        dsimp only at r1
        have kg := xg.cells
        have k8 := x8.cells
        clear hM hxn hxw
        have e0 : (wr.alloc (.cells #[.int .i64 x1, .int .i64 x2, .int .i64 x3, .int .i64 x4, .int .i64 x5, .int .i64 x6] 27)).drew.cell? ⟨b2, off2 + k * 2, none⟩ = some (.int .i64 vn) := (World.cell?_of_block (Below.heap_alloc wr _ b2 hgb2)).trans e0
        have e1 : (wr.alloc (.cells #[.int .i64 x1, .int .i64 x2, .int .i64 x3, .int .i64 x4, .int .i64 x5, .int .i64 x6] 27)).drew.cell? ⟨b2, off2 + k * 2 + 1, none⟩ = some (.int .i64 ve) := (World.cell?_of_block (Below.heap_alloc wr _ b2 hgb2)).trans e1
        have hlt3 : b2 < (wr.alloc (.cells #[.int .i64 x1, .int .i64 x2, .int .i64 x3, .int .i64 x4, .int .i64 x5, .int .i64 x6] 27)).drew.heap.size := by show b2 < (wr.alloc (.cells #[.int .i64 x1, .int .i64 x2, .int .i64 x3, .int .i64 x4, .int .i64 x5, .int .i64 x6] 27)).heap.size; rw [World.size_alloc]; omega
        go_upto_region 8 with fail
        refine wp_region_noPanic ?_
        refine wp_region_held_drew (S := (fun w' => w'.cell? ⟨W2.heap.size + 1, 0, none⟩ = some (.map (some W2.heap.size)) ∧ w'.cell? ⟨wr.heap.size, 0, none⟩ = some (.int .i64 x1) ∧ w'.cell? ⟨wr.heap.size, 1, none⟩ = some (.int .i64 x2) ∧ w'.cell? ⟨wr.heap.size, 2, none⟩ = some (.int .i64 x3) ∧ w'.cell? ⟨wr.heap.size, 3, none⟩ = some (.int .i64 x4) ∧ w'.cell? ⟨wr.heap.size, 4, none⟩ = some (.int .i64 x5) ∧ w'.cell? ⟨wr.heap.size, 5, none⟩ = some (.int .i64 x6) ∧ w'.cell? ⟨b2, off2 + k * 2, none⟩ = some (.int .i64 vn) ∧ w'.cell? ⟨b2, off2 + k * 2 + 1, none⟩ = some (.int .i64 ve))) (by kernel_rfl) ?_ (fun hHeld => ?_)
        · go_keep
        refine wpAnyH_take (i := 0) (v := ?vh1) rfl (by kernel_rfl) (by kernel_rfl) (by kernel_rfl) (fun _ _ _ h => h) (Or.inl ⟨by kernel_rfl, ?hyh1⟩) (by assumption) ?resth1
        case hyh1 => (intro w hSw; (try dsimp only at hSw); go_simp; (try with_reducible rfl))
        go_simp
        refine wpAnyH_take (i := 1) (v := ?vh2) rfl (by kernel_rfl) (by kernel_rfl) (by kernel_rfl) (fun _ _ _ h => h) (Or.inl ⟨by kernel_rfl, ?hyh2⟩) (by assumption) ?resth2
        case hyh2 => (intro w hSw; (try dsimp only at hSw); go_simp; (try with_reducible rfl))
        go_simp
        refine wpAnyH_take (i := 2) (v := ?vh3) rfl (by kernel_rfl) (by kernel_rfl) (by kernel_rfl) (fun _ _ _ h => h) (Or.inl ⟨by kernel_rfl, ?hyh3⟩) (by assumption) ?resth3
        case hyh3 => (intro w hSw; (try dsimp only at hSw); go_simp; (try with_reducible rfl))
        go_simp
        refine wpAnyH_take (i := 3) (v := ?vh4) rfl (by kernel_rfl) (by kernel_rfl) (by kernel_rfl) (fun _ _ _ h => h) (Or.inl ⟨by kernel_rfl, ?hyh4⟩) (by assumption) ?resth4
        case hyh4 => (intro w hSw; (try dsimp only at hSw); go_simp; (try with_reducible rfl))
        go_simp
        refine wpAnyH_take (i := 4) (v := ?vh5) rfl (by kernel_rfl) (by kernel_rfl) (by kernel_rfl) (fun _ _ _ h => h) (Or.inl ⟨by kernel_rfl, ?hyh5⟩) (by assumption) ?resth5
        case hyh5 => (intro w hSw; (try dsimp only at hSw); go_simp; (try with_reducible rfl))
        go_simp
        refine wpAnyH_take (i := 5) (v := ?vh6) rfl (by kernel_rfl) (by kernel_rfl) (by kernel_rfl) (fun _ _ _ h => h) (Or.inl ⟨by kernel_rfl, ?hyh6⟩) (by assumption) ?resth6
        case hyh6 => (intro w hSw; (try dsimp only at hSw); go_simp; (try with_reducible rfl))
        go_simp
        refine wpAnyH_ready (rs := [6]) (by kernel_rfl) (by simp) ?_
        refine AllReadyH.cons rfl (fun K hK => ?_) AllReadyH.nil
        rw [if_pos (by kernel_rfl)]
        go_simp
        have xg := xg.grown g8 (fun he => by injection he with he; omega)
        have kg := xg.cells
        have x8 := x8.grown g8 (fun he => by injection he with he; omega)
        have k8 := x8.cells
        have e0 := (g8.cell_far ⟨b2, off2 + k * 2, none⟩ hlt3 (fun he => Nat.ne_of_lt hlt2 (Option.some.inj he))).trans e0
        have e1 := (g8.cell_far ⟨b2, off2 + k * 2 + 1, none⟩ hlt3 (fun he => Nat.ne_of_lt hlt2 (Option.some.inj he))).trans e1
        refine hK.out _ _ (by go_keep) (fun hHeld => ?_)
        clear hK K
        go_simp
        refine wpAnyH_done (by kernel_rfl) ?_ _
        refine NoPanic.normal ?_
        have hBr := (below_drewN (hB.alloc (by have := hB.size; omega) (.cells #[.int .i64 x1, .int .i64 x2, .int .i64 x3, .int .i64 x4, .int .i64 x5, .int .i64 x6] 27)) 1).grown g8 (by have := hB.size; simp; omega) (fun k hk => by injection hk with hk; omega)
        rewrite [← hsl.out, ← hsi.out] at hM8
        clear r1 g8 x8 k8 kg e0 e1
        go_wp2
        go_roundw
        case rel => exact ⟨k + 1, by omega, by go_num, hM8, xg, hBr⟩
        case measure => simp [intOf]; omega
      · obtain rfl : k = L.length := by omega
        rewrite [List.take_length] at hM
        have hit : i.take L.length = i := by rw [hli]; exact List.take_length
        rw [hit] at hM
        replace HB := HB.trans (hB.mono HB.size)
        replace xb := xb.later hB
        replace xv := xv.later hB
        have hr1 := HR1.out.below HB (Nat.le_refl _)
        have hr2 := HR2.out.below HB (Nat.le_refl _)
        have TH1 := Lib.hid fun W (cb : Below wr.heap.size wr W) => (those_any (c := c1) (l := r.plus) (by omega) hwf.plus (xg.later cb) (hM.later cb) (hr1.later cb)).mono (R' := fun e w' => ∃ A c, e = .returned (.slice A r.plus.length c) ∧ RowAt w' A (VlE.vs (r.plus.map (ofV L i))) ∧ Below W.heap.size W w') fun e w' ⟨A, c, he, _, _, own, b⟩ => ⟨A, c, by rw [he, List.length_map], Enc.Row.of_own own, b⟩
        have TH2 := Lib.hid fun W (cb : Below wr.heap.size wr W) => (those_any (c := c2) (l := r.minus) (by omega) hwf.minus (xg.later cb) (hM.later cb) (hr2.later cb)).mono (R' := fun e w' => ∃ A c, e = .returned (.slice A r.minus.length c) ∧ VlE.Row w' A (r.minus.map (ofV L i)) ∧ Below W.heap.size W w') fun e w' ⟨A, c, he, _, _, own, b⟩ => ⟨A, c, by rw [he, List.length_map], Enc.Row.of_own own, b⟩
        have cb := below_drewN (Below.refl wr.heap.size wr) 1
        have k2 : ∀ q, wr.cell? ⟨w.heap.size, q, none⟩ = (#[.int .i64 r.base.n, .int .i64 r.base.e, .slice A1 r.plus.length c1, .slice A2 r.minus.length c2, .int .i64 r.sc.r, .int .i64 r.sc.e, .int .i64 r.sc.a, .int .i64 r.sc.p, .int .i64 r.sc.c, .int .i64 r.sc.q, .bool r.rt, .int .i64 r.num, .int .i64 r.den, .bool r.has] : Array Value)[q]? := xb.cells
        clear hB hr1 hr2 hit hk hkn R5 R3
        go_upto_region 11 with fail
        refine wp_region_noPanic ?_
        refine wp_region_held_drew (S := (fun w' => w'.cell? ⟨w.heap.size, 0, none⟩ = some (.int .i64 r.base.n) ∧ w'.cell? ⟨w.heap.size, 1, none⟩ = some (.int .i64 r.base.e) ∧ w'.cell? ⟨w.heap.size, 2, none⟩ = some (.slice A1 r.plus.length c1))) (by kernel_rfl) ?_ (fun hHeld => ?_)
        · go_keep
        refine wpAnyH_take (i := 0) (v := ?vk1) rfl (by kernel_rfl) (by kernel_rfl) (by kernel_rfl) (fun _ _ _ h => h) (Or.inl ⟨by kernel_rfl, ?hyk1⟩) (by assumption) ?restk1
        case hyk1 => (intro w hSw; (try dsimp only at hSw); go_simp; (try with_reducible rfl))
        go_simp
        refine wpAnyH_take (i := 1) (v := ?vk2) rfl (by kernel_rfl) (by kernel_rfl) (by kernel_rfl) (fun _ _ _ h => h) (Or.inl ⟨by kernel_rfl, ?hyk2⟩) (by assumption) ?restk2
        case hyk2 => (intro w hSw; (try dsimp only at hSw); go_simp; (try with_reducible rfl))
        go_simp
        refine wpAnyH_take (i := 3) (v := ?vk3) rfl (by kernel_rfl) (by kernel_rfl) (by kernel_rfl) (fun _ _ _ h => h) (Or.inl ⟨by kernel_rfl, ?hyk3⟩) (by assumption) ?restk3
        case hyk3 => (intro w hSw; (try dsimp only at hSw); go_simp; (try with_reducible rfl))
        go_simp
        refine wpAnyH_take (i := 4) (v := ?vk4) rfl (by kernel_rfl) (by kernel_rfl) (by kernel_rfl) (fun _ _ _ h => h) (Or.inl ⟨by kernel_rfl, ?hyk4⟩) (by assumption) ?restk4
        case hyk4 => (intro w hSw; (try dsimp only at hSw); go_simp; (try with_reducible rfl))
        go_simp
        refine wpAnyH_take (i := 5) (v := ?vk5) rfl (by kernel_rfl) (by kernel_rfl) (by kernel_rfl) (fun _ _ _ h => h) (Or.inl ⟨by kernel_rfl, ?hyk5⟩) (by assumption) ?restk5
        case hyk5 => (intro w hSw; (try dsimp only at hSw); go_simp; (try with_reducible rfl))
        go_simp
        refine wpAnyH_ready (rs := [2, 6]) (by kernel_rfl) (by simp) ?_
        refine AllReadyH.cons rfl (fun K hK => ?_) (AllReadyH.cons rfl (fun K hK => ?_) AllReadyH.nil)
        · rw [if_pos (by kernel_rfl)]
          go_simp
          have ownz := own_of_box (E := VlE) (x := r.base) (base := wr.heap.size) (Nat.le_refl _) (Box.new wr.drew 24 #[.int .i64 r.base.n, .int .i64 r.base.e]) rfl
          have cb := cb.alloc cb.size (.cells #[.int .i64 r.base.n, .int .i64 r.base.e] 24)
          have k2 : ∀ q, (wr.alloc (.cells #[.int .i64 r.base.n, .int .i64 r.base.e] 24)).cell? ⟨w.heap.size, q, none⟩ = (#[.int .i64 r.base.n, .int .i64 r.base.e, .slice A1 r.plus.length c1, .slice A2 r.minus.length c2, .int .i64 r.sc.r, .int .i64 r.sc.e, .int .i64 r.sc.a, .int .i64 r.sc.p, .int .i64 r.sc.c, .int .i64 r.sc.q, .bool r.rt, .int .i64 r.num, .int .i64 r.den, .bool r.has] : Array Value)[q]? := (xb.later cb).cells
          refine hK.out _ _ (by go_keep) (fun hHeld => ?_)
          clear hK K
          go_simp
          refine wpAnyH_ready (rs := [6]) (by kernel_rfl) (by simp) ?_
          refine AllReadyH.cons rfl (fun K hK => ?_) AllReadyH.nil
          rw [if_pos (by kernel_rfl)]
          go_simp
          refine (TH1.out _ cb).mono ?_
          rintro e w11 ⟨A11, c11, rfl, r11, b11⟩
          have ownz := own_below ownz b11 (Nat.le_refl _)
          have cb := cb.trans (b11.mono cb.size)
          have k2 := (xb.later cb).cells
          clear b11
          go_wp2_with fail
          refine hK.out _ _ (by go_keep) (fun hHeld => ?_)
          clear hK K
          go_simp
          refine wpAnyH_ready (rs := [7]) (by kernel_rfl) (by simp) ?_
          refine AllReadyH.cons rfl (fun K hK => ?_) AllReadyH.nil
          refine step_append_rowN rfl _ _ 32 rfl wr.heap.size 24 i0 _ 2 16 Try.underlying32 hi hz0 hz1 hz2 rfl (by decide) _ 1 (VlE.vs [r.base]) rfl ownz A11 r.plus.length c11 (VlE.vs (r.plus.map (ofV L i))) rfl (by rw [VlE.vs_len, List.length_map]; rfl) r11 (VlE.vs_ones _) (by unfold maxLen; omega) (by omega) cb.size ?_
          intro A10 c10 w10 own10 hgr10
          have cb := cb.grown hgr10 cb.size (fun k hk => (ownz.lt k hk).1)
          rw [← VlE.vs_append] at own10
          have k2 := (xb.later cb).cells
          clear ownz hgr10 r11
          refine hK.out _ _ (by go_keep) (fun hHeld => ?_)
          clear hK K
          go_simp
          refine wpAnyH_ready (rs := [8]) (by kernel_rfl) (by simp) ?_
          refine AllReadyH.cons rfl (fun K hK => ?_) AllReadyH.nil
          rw [if_pos (by kernel_rfl)]
          go_simp
          refine hK.out _ _ hHeld (fun hHeld => ?_)
          clear hK K
          go_simp
          refine wpAnyH_done (by kernel_rfl) ?_ _
          refine NoPanic.normal ?_
          clear k2
          have k2 := (xb.later cb).cells
          have l2 := (xb.later cb).lt
          go_wp2_with fail
          refine (RT.out _).mono ?_
          rintro e w12 ⟨rfl, b12⟩
          replace own10 := own_below own10 b12 (Nat.le_refl _)
          replace cb := cb.trans (b12.mono cb.size)
          clear b12 k2 l2
          cases hrt : r.rt
          · rw [hrt] at xb
            have hPL : Hid ([r.base] ++ r.plus.map (ofV L i) = plusV r L i) := by show _ = _; unfold plusV; rw [hrt]; simp
            have hPl : Hid ((plusV r L i).length = 1 + r.plus.length) := by show _ = _; rw [← hPL.out]; simp; omega
            have SC := True.intro
            have rp := Enc.Row.of_own (E := VlE) own10
            have VN := fun (A2 : Option Addr) (c2 : Nat) (W : World) (h1 : VlE.Row W A10 (plusV r L i)) (h2 : VlE.Row W A2 (r.minus.map (ofV L i))) => vnet_any (c1 := c10) (c2 := c2) (p := plusV r L i) (m := r.minus.map (ofV L i)) (by rw [hPl.out]; omega) (by rw [List.length_map]; omega) (amts_ok (plusV_ok hbase hi64)) (amts_ok (minusV_ok hi64)) h1 h2
            rw [hPl.out, List.length_map] at VN
            rw [hPL.out] at rp
            replace VN := Lib.hid VN
            have k2 := (xb.later cb).cells
            have l2 := (xb.later cb).lt
            clear own10 SC
            go_wp2_with fail
            refine (TH2.out _ cb).mono ?_
            rintro e w21 ⟨A21, c21, rfl, r21, b21⟩
            replace rp := rp.later b21
            replace cb := cb.trans (b21.mono cb.size)
            clear b21 k2 l2
            go_wp2_with fail
            refine (VN.out _ _ _ rp r21).mono ?_
            rintro e w22 ⟨rfl, b22⟩
            replace cb := cb.trans (b22.mono cb.size)
            have x9 := xv.later cb
            have k4 := x9.cells
            have f4 := x9.free
            have l4 := x9.lt
            have y4 := (x9.set 0 (.int .i64 (netV (plusV r L i) (r.minus.map (ofV L i))).n)).set 1 (.int .i64 (netV (plusV r L i) (r.minus.map (ofV L i))).e)
            have j4 := y4.cells
            have hBf := HB.trans (cb.mono HB.size)
            clear b22 y4 rp r21 VN x9
            unfold vv
            go_wp2
            refine bodyPost_ret (by unfold results; simp only [Try.results12]; go_simp; rfl) rfl ?_
            exact ⟨by rw [hEV.out]; rfl, (hBf.setCell (by simp) _).setCell (by simp) _⟩
          · rw [hrt] at xb
            have k2 := (xb.later cb).cells
            have kg := (xg.later cb).cells
            have cb : Below wr.heap.size wr w12.drew := below_drewN cb 1
            have LK := ((hM.later cb).look hwf.sc)
            have SC := Lib.hid fun W => rscale26_any r.sc r.rt (ofV L i r.sc) r.num r.den r.has W (ofV_ok hi64).1 (ofV_ok hi64).2
            rw [hrt] at SC
            generalize hsv : scaleV (ofV L i r.sc) r.num r.den r.has = sv at *
            replace hsv := Lib.hid hsv
            unfold cv vv at LK
            unfold vv at SC
            generalize hov : ofV L i r.sc = ov at *
            replace hov := Lib.hid hov
            go_upto_region 13 with fail
            refine wp_region_noPanic ?_
            refine wp_region_held_drew (S := (fun w' => w'.cell? ⟨w.heap.size, 4, none⟩ = some (.int .i64 r.sc.r) ∧ w'.cell? ⟨w.heap.size, 5, none⟩ = some (.int .i64 r.sc.e) ∧ w'.cell? ⟨w.heap.size, 6, none⟩ = some (.int .i64 r.sc.a) ∧ w'.cell? ⟨w.heap.size, 7, none⟩ = some (.int .i64 r.sc.p) ∧ w'.cell? ⟨w.heap.size, 8, none⟩ = some (.int .i64 r.sc.c) ∧ w'.cell? ⟨w.heap.size, 9, none⟩ = some (.int .i64 r.sc.q) ∧ w'.cell? ⟨w.heap.size, 10, none⟩ = some (.bool true) ∧ w'.cell? ⟨w.heap.size, 11, none⟩ = some (.int .i64 r.num) ∧ w'.cell? ⟨w.heap.size, 12, none⟩ = some (.int .i64 r.den) ∧ w'.cell? ⟨w.heap.size, 13, none⟩ = some (.bool r.has) ∧ w'.cell? ⟨W2.heap.size + 1, 0, none⟩ = some (.map (some W2.heap.size)))) (by kernel_rfl) ?_ (fun hHeld => ?_)
            · first | assumption | go_keep
            refine wpAnyH_take (i := 0) (v := ?vma1) rfl (by kernel_rfl) (by kernel_rfl) (by kernel_rfl) (fun _ _ _ h => h) (Or.inl ⟨by kernel_rfl, ?hyma1⟩) (by assumption) ?restma1
            case hyma1 => (intro w hSw; (try dsimp only at hSw); go_simp; (try with_reducible rfl))
            go_simp
            refine wpAnyH_take (i := 1) (v := ?vma2) rfl (by kernel_rfl) (by kernel_rfl) (by kernel_rfl) (fun _ _ _ h => h) (Or.inl ⟨by kernel_rfl, ?hyma2⟩) (by assumption) ?restma2
            case hyma2 => (intro w hSw; (try dsimp only at hSw); go_simp; (try with_reducible rfl))
            go_simp
            refine wpAnyH_take (i := 2) (v := ?vma3) rfl (by kernel_rfl) (by kernel_rfl) (by kernel_rfl) (fun _ _ _ h => h) (Or.inl ⟨by kernel_rfl, ?hyma3⟩) (by assumption) ?restma3
            case hyma3 => (intro w hSw; (try dsimp only at hSw); go_simp; (try with_reducible rfl))
            go_simp
            refine wpAnyH_take (i := 3) (v := ?vma4) rfl (by kernel_rfl) (by kernel_rfl) (by kernel_rfl) (fun _ _ _ h => h) (Or.inl ⟨by kernel_rfl, ?hyma4⟩) (by assumption) ?restma4
            case hyma4 => (intro w hSw; (try dsimp only at hSw); go_simp; (try with_reducible rfl))
            go_simp
            refine wpAnyH_take (i := 4) (v := ?vma5) rfl (by kernel_rfl) (by kernel_rfl) (by kernel_rfl) (fun _ _ _ h => h) (Or.inl ⟨by kernel_rfl, ?hyma5⟩) (by assumption) ?restma5
            case hyma5 => (intro w hSw; (try dsimp only at hSw); go_simp; (try with_reducible rfl))
            go_simp
            refine wpAnyH_take (i := 5) (v := ?vma6) rfl (by kernel_rfl) (by kernel_rfl) (by kernel_rfl) (fun _ _ _ h => h) (Or.inl ⟨by kernel_rfl, ?hyma6⟩) (by assumption) ?restma6
            case hyma6 => (intro w hSw; (try dsimp only at hSw); go_simp; (try with_reducible rfl))
            go_simp
            refine wpAnyH_take (i := 6) (v := ?vma7) rfl (by kernel_rfl) (by kernel_rfl) (by kernel_rfl) (fun _ _ _ h => h) (Or.inl ⟨by kernel_rfl, ?hyma7⟩) (by assumption) ?restma7
            case hyma7 => (intro w hSw; (try dsimp only at hSw); go_simp; (try with_reducible rfl))
            go_simp
            refine wpAnyH_ready (rs := [7]) (by kernel_rfl) (by simp) ?_
            refine AllReadyH.cons rfl (fun K hK => ?_) AllReadyH.nil
            rw [if_pos (by kernel_rfl)]
            go_simp
            refine hK.out _ _ (by first | assumption | go_keep) (fun hHeld => ?_)
            clear hK K
            go_simp
            refine wpAnyH_ready (rs := [8]) (by kernel_rfl) (by simp) ?_
            refine AllReadyH.cons rfl (fun K hK => ?_) AllReadyH.nil
            rw [if_pos (by kernel_rfl)]
            go_simp
            refine (SC.out _).mono ?_
            rintro e w15 ⟨rfl, b15⟩
            have own10 := own_below own10 (below_undrew b15) (Nat.le_refl _)
            have cb := cb.trans (b15.mono cb.size)
            have k2 := (xb.later cb).cells
            have kg := (xg.later cb).cells
            clear b15
            go_wp2_with fail
            refine hK.out _ _ (by first | assumption | go_keep) (fun hHeld => ?_)
            clear hK K
            go_simp
            refine wpAnyH_ready (rs := [9]) (by kernel_rfl) (by simp) ?_
            refine AllReadyH.cons rfl (fun K hK => ?_) AllReadyH.nil
            rw [if_pos (by kernel_rfl)]
            go_simp
            have z15 := Box.new w15 24 #[.int .i64 sv.n, .int .i64 sv.e]
            have own10 := own10.alloc (.cells #[.int .i64 sv.n, .int .i64 sv.e] 24)
            have cb := cb.alloc cb.size (.cells #[.int .i64 sv.n, .int .i64 sv.e] 24)
            have k2 := (xb.later cb).cells
            have kg := (xg.later cb).cells
            refine hK.out _ _ (by first | assumption | go_keep) (fun hHeld => ?_)
            clear hK K
            go_simp
            refine wpAnyH_ready (rs := [10]) (by kernel_rfl) (by simp) ?_
            refine AllReadyH.cons rfl (fun K hK => ?_) AllReadyH.nil
            refine step_append_rowN rfl _ _ 32 rfl wr.heap.size 24 i0 _ 2 16 Try.underlying32 hi hz0 hz1 hz2 rfl (by decide) _ (1 + r.plus.length) (VlE.vs ([r.base] ++ r.plus.map (ofV L i))) rfl own10 (some ⟨w15.heap.size, 0, none⟩) 1 1 (VlE.v sv) rfl rfl (Enc.Row.box1 z15 rfl) (VlE.one _) (by unfold maxLen; omega) (by omega) cb.size ?_
            intro A17 c17 w17 own17 hgr17
            have cb := cb.grown hgr17 cb.size (fun k hk => (own10.lt k hk).1)
            rw [← VlE.vs_snoc] at own17
            have k2 := (xb.later cb).cells
            have kg := (xg.later cb).cells
            clear own10 hgr17 z15
            refine hK.out _ _ (by first | assumption | go_keep) (fun hHeld => ?_)
            clear hK K
            go_simp
            refine wpAnyH_ready (rs := [11]) (by kernel_rfl) (by simp) ?_
            refine AllReadyH.cons rfl (fun K hK => ?_) AllReadyH.nil
            rw [if_pos (by kernel_rfl)]
            go_simp
            refine hK.out _ _ hHeld (fun hHeld => ?_)
            clear hK K
            go_simp
            refine wpAnyH_done (by kernel_rfl) ?_ _
            refine NoPanic.normal ?_
            have hPL : Hid ([r.base] ++ r.plus.map (ofV L i) ++ [sv] = plusV r L i) := by show _ = _; unfold plusV; rw [hrt, hov.out, hsv.out]; simp
            have hPl : Hid ((plusV r L i).length = 1 + r.plus.length + 1) := by show _ = _; rw [← hPL.out]; simp; omega
            clear LK kg
            have rp := Enc.Row.of_own (E := VlE) own17
            have VN := fun (A2 : Option Addr) (c2 : Nat) (W : World) (h1 : VlE.Row W A17 (plusV r L i)) (h2 : VlE.Row W A2 (r.minus.map (ofV L i))) => vnet_any (c1 := c17) (c2 := c2) (p := plusV r L i) (m := r.minus.map (ofV L i)) (by rw [hPl.out]; omega) (by rw [List.length_map]; omega) (amts_ok (plusV_ok hbase hi64)) (amts_ok (minusV_ok hi64)) h1 h2
            rw [hPl.out, List.length_map] at VN
            rw [hPL.out] at rp
            replace VN := Lib.hid VN
            have k2 := (xb.later cb).cells
            have l2 := (xb.later cb).lt
            clear own17 SC
            go_wp2_with fail
            refine (TH2.out _ cb).mono ?_
            rintro e w21 ⟨A21, c21, rfl, r21, b21⟩
            replace rp := rp.later b21
            replace cb := cb.trans (b21.mono cb.size)
            clear b21 k2 l2
            go_wp2_with fail
            refine (VN.out _ _ _ rp r21).mono ?_
            rintro e w22 ⟨rfl, b22⟩
            replace cb := cb.trans (b22.mono cb.size)
            have x9 := xv.later cb
            have k4 := x9.cells
            have f4 := x9.free
            have l4 := x9.lt
            have y4 := (x9.set 0 (.int .i64 (netV (plusV r L i) (r.minus.map (ofV L i))).n)).set 1 (.int .i64 (netV (plusV r L i) (r.minus.map (ofV L i))).e)
            have j4 := y4.cells
            have hBf := HB.trans (cb.mono HB.size)
            clear b22 y4 rp r21 VN x9
            unfold vv
            go_wp2
            refine bodyPost_ret (by unfold results; simp only [Try.results12]; go_simp; rfl) rfl ?_
            exact ⟨by rw [hEV.out]; rfl, (hBf.setCell (by simp) _).setCell (by simp) _⟩
        · rw [if_pos (by kernel_rfl)]
          go_simp
          refine (TH1.out _ cb).mono ?_
          rintro e w11 ⟨A11, c11, rfl, r11, b11⟩
          have cb := cb.trans (b11.mono cb.size)
          have k2 := (xb.later cb).cells
          clear b11
          go_wp2_with fail
          refine hK.out _ _ (by go_keep) (fun hHeld => ?_)
          clear hK K
          go_simp
          refine wpAnyH_ready (rs := [2]) (by kernel_rfl) (by simp) ?_
          refine AllReadyH.cons rfl (fun K hK => ?_) AllReadyH.nil
          rw [if_pos (by kernel_rfl)]
          go_simp
          have ownz := own_of_box (E := VlE) (x := r.base) (base := wr.heap.size) cb.size (Box.new w11 24 #[.int .i64 r.base.n, .int .i64 r.base.e]) rfl
          have r11 := r11.alloc (.cells #[.int .i64 r.base.n, .int .i64 r.base.e] 24)
          have cb := cb.alloc cb.size (.cells #[.int .i64 r.base.n, .int .i64 r.base.e] 24)
          have k2 := (xb.later cb).cells
          refine hK.out _ _ (by go_keep) (fun hHeld => ?_)
          clear hK K
          go_simp
          refine wpAnyH_ready (rs := [7]) (by kernel_rfl) (by simp) ?_
          refine AllReadyH.cons rfl (fun K hK => ?_) AllReadyH.nil
          refine step_append_rowN rfl _ _ 32 rfl wr.heap.size 24 i0 _ 2 16 Try.underlying32 hi hz0 hz1 hz2 rfl (by decide) _ 1 (VlE.vs [r.base]) rfl ownz A11 r.plus.length c11 (VlE.vs (r.plus.map (ofV L i))) rfl (by rw [VlE.vs_len, List.length_map]; rfl) r11 (VlE.vs_ones _) (by unfold maxLen; omega) (by omega) cb.size ?_
          intro A10 c10 w10 own10 hgr10
          have cb := cb.grown hgr10 cb.size (fun k hk => (ownz.lt k hk).1)
          rw [← VlE.vs_append] at own10
          have k2 := (xb.later cb).cells
          clear ownz hgr10 r11
          refine hK.out _ _ (by go_keep) (fun hHeld => ?_)
          clear hK K
          go_simp
          refine wpAnyH_ready (rs := [8]) (by kernel_rfl) (by simp) ?_
          refine AllReadyH.cons rfl (fun K hK => ?_) AllReadyH.nil
          rw [if_pos (by kernel_rfl)]
          go_simp
          refine hK.out _ _ hHeld (fun hHeld => ?_)
          clear hK K
          go_simp
          refine wpAnyH_done (by kernel_rfl) ?_ _
          refine NoPanic.normal ?_
          clear k2
          have k2 := (xb.later cb).cells
          have l2 := (xb.later cb).lt
          go_wp2_with fail
          refine (RT.out _).mono ?_
          rintro e w12 ⟨rfl, b12⟩
          replace own10 := own_below own10 b12 (Nat.le_refl _)
          replace cb := cb.trans (b12.mono cb.size)
          clear b12 k2 l2
          cases hrt : r.rt
          · rw [hrt] at xb
            have hPL : Hid ([r.base] ++ r.plus.map (ofV L i) = plusV r L i) := by show _ = _; unfold plusV; rw [hrt]; simp
            have hPl : Hid ((plusV r L i).length = 1 + r.plus.length) := by show _ = _; rw [← hPL.out]; simp; omega
            have SC := True.intro
            have rp := Enc.Row.of_own (E := VlE) own10
            have VN := fun (A2 : Option Addr) (c2 : Nat) (W : World) (h1 : VlE.Row W A10 (plusV r L i)) (h2 : VlE.Row W A2 (r.minus.map (ofV L i))) => vnet_any (c1 := c10) (c2 := c2) (p := plusV r L i) (m := r.minus.map (ofV L i)) (by rw [hPl.out]; omega) (by rw [List.length_map]; omega) (amts_ok (plusV_ok hbase hi64)) (amts_ok (minusV_ok hi64)) h1 h2
            rw [hPl.out, List.length_map] at VN
            rw [hPL.out] at rp
            replace VN := Lib.hid VN
            have k2 := (xb.later cb).cells
            have l2 := (xb.later cb).lt
            clear own10 SC
            go_wp2_with fail
            refine (TH2.out _ cb).mono ?_
            rintro e w21 ⟨A21, c21, rfl, r21, b21⟩
            replace rp := rp.later b21
            replace cb := cb.trans (b21.mono cb.size)
            clear b21 k2 l2
            go_wp2_with fail
            refine (VN.out _ _ _ rp r21).mono ?_
            rintro e w22 ⟨rfl, b22⟩
            replace cb := cb.trans (b22.mono cb.size)
            have x9 := xv.later cb
            have k4 := x9.cells
            have f4 := x9.free
            have l4 := x9.lt
            have y4 := (x9.set 0 (.int .i64 (netV (plusV r L i) (r.minus.map (ofV L i))).n)).set 1 (.int .i64 (netV (plusV r L i) (r.minus.map (ofV L i))).e)
            have j4 := y4.cells
            have hBf := HB.trans (cb.mono HB.size)
            clear b22 y4 rp r21 VN x9
            unfold vv
            go_wp2
            refine bodyPost_ret (by unfold results; simp only [Try.results12]; go_simp; rfl) rfl ?_
            exact ⟨by rw [hEV.out]; rfl, (hBf.setCell (by simp) _).setCell (by simp) _⟩
          · rw [hrt] at xb
            have k2 := (xb.later cb).cells
            have kg := (xg.later cb).cells
            have cb : Below wr.heap.size wr w12.drew := below_drewN cb 1
            have LK := ((hM.later cb).look hwf.sc)
            have SC := Lib.hid fun W => rscale26_any r.sc r.rt (ofV L i r.sc) r.num r.den r.has W (ofV_ok hi64).1 (ofV_ok hi64).2
            rw [hrt] at SC
            generalize hsv : scaleV (ofV L i r.sc) r.num r.den r.has = sv at *
            replace hsv := Lib.hid hsv
            unfold cv vv at LK
            unfold vv at SC
            generalize hov : ofV L i r.sc = ov at *
            replace hov := Lib.hid hov
            go_upto_region 13 with fail
            refine wp_region_noPanic ?_
            refine wp_region_held_drew (S := (fun w' => w'.cell? ⟨w.heap.size, 4, none⟩ = some (.int .i64 r.sc.r) ∧ w'.cell? ⟨w.heap.size, 5, none⟩ = some (.int .i64 r.sc.e) ∧ w'.cell? ⟨w.heap.size, 6, none⟩ = some (.int .i64 r.sc.a) ∧ w'.cell? ⟨w.heap.size, 7, none⟩ = some (.int .i64 r.sc.p) ∧ w'.cell? ⟨w.heap.size, 8, none⟩ = some (.int .i64 r.sc.c) ∧ w'.cell? ⟨w.heap.size, 9, none⟩ = some (.int .i64 r.sc.q) ∧ w'.cell? ⟨w.heap.size, 10, none⟩ = some (.bool true) ∧ w'.cell? ⟨w.heap.size, 11, none⟩ = some (.int .i64 r.num) ∧ w'.cell? ⟨w.heap.size, 12, none⟩ = some (.int .i64 r.den) ∧ w'.cell? ⟨w.heap.size, 13, none⟩ = some (.bool r.has) ∧ w'.cell? ⟨W2.heap.size + 1, 0, none⟩ = some (.map (some W2.heap.size)))) (by kernel_rfl) ?_ (fun hHeld => ?_)
            · first | assumption | go_keep
            refine wpAnyH_take (i := 0) (v := ?vmb1) rfl (by kernel_rfl) (by kernel_rfl) (by kernel_rfl) (fun _ _ _ h => h) (Or.inl ⟨by kernel_rfl, ?hymb1⟩) (by assumption) ?restmb1
            case hymb1 => (intro w hSw; (try dsimp only at hSw); go_simp; (try with_reducible rfl))
            go_simp
            refine wpAnyH_take (i := 1) (v := ?vmb2) rfl (by kernel_rfl) (by kernel_rfl) (by kernel_rfl) (fun _ _ _ h => h) (Or.inl ⟨by kernel_rfl, ?hymb2⟩) (by assumption) ?restmb2
            case hymb2 => (intro w hSw; (try dsimp only at hSw); go_simp; (try with_reducible rfl))
            go_simp
            refine wpAnyH_take (i := 2) (v := ?vmb3) rfl (by kernel_rfl) (by kernel_rfl) (by kernel_rfl) (fun _ _ _ h => h) (Or.inl ⟨by kernel_rfl, ?hymb3⟩) (by assumption) ?restmb3
            case hymb3 => (intro w hSw; (try dsimp only at hSw); go_simp; (try with_reducible rfl))
            go_simp
            refine wpAnyH_take (i := 3) (v := ?vmb4) rfl (by kernel_rfl) (by kernel_rfl) (by kernel_rfl) (fun _ _ _ h => h) (Or.inl ⟨by kernel_rfl, ?hymb4⟩) (by assumption) ?restmb4
            case hymb4 => (intro w hSw; (try dsimp only at hSw); go_simp; (try with_reducible rfl))
            go_simp
            refine wpAnyH_take (i := 4) (v := ?vmb5) rfl (by kernel_rfl) (by kernel_rfl) (by kernel_rfl) (fun _ _ _ h => h) (Or.inl ⟨by kernel_rfl, ?hymb5⟩) (by assumption) ?restmb5
            case hymb5 => (intro w hSw; (try dsimp only at hSw); go_simp; (try with_reducible rfl))
            go_simp
            refine wpAnyH_take (i := 5) (v := ?vmb6) rfl (by kernel_rfl) (by kernel_rfl) (by kernel_rfl) (fun _ _ _ h => h) (Or.inl ⟨by kernel_rfl, ?hymb6⟩) (by assumption) ?restmb6
            case hymb6 => (intro w hSw; (try dsimp only at hSw); go_simp; (try with_reducible rfl))
            go_simp
            refine wpAnyH_take (i := 6) (v := ?vmb7) rfl (by kernel_rfl) (by kernel_rfl) (by kernel_rfl) (fun _ _ _ h => h) (Or.inl ⟨by kernel_rfl, ?hymb7⟩) (by assumption) ?restmb7
            case hymb7 => (intro w hSw; (try dsimp only at hSw); go_simp; (try with_reducible rfl))
            go_simp
            refine wpAnyH_ready (rs := [7]) (by kernel_rfl) (by simp) ?_
            refine AllReadyH.cons rfl (fun K hK => ?_) AllReadyH.nil
            rw [if_pos (by kernel_rfl)]
            go_simp
            refine hK.out _ _ (by first | assumption | go_keep) (fun hHeld => ?_)
            clear hK K
            go_simp
            refine wpAnyH_ready (rs := [8]) (by kernel_rfl) (by simp) ?_
            refine AllReadyH.cons rfl (fun K hK => ?_) AllReadyH.nil
            rw [if_pos (by kernel_rfl)]
            go_simp
            refine (SC.out _).mono ?_
            rintro e w15 ⟨rfl, b15⟩
            have own10 := own_below own10 (below_undrew b15) (Nat.le_refl _)
            have cb := cb.trans (b15.mono cb.size)
            have k2 := (xb.later cb).cells
            have kg := (xg.later cb).cells
            clear b15
            go_wp2_with fail
            refine hK.out _ _ (by first | assumption | go_keep) (fun hHeld => ?_)
            clear hK K
            go_simp
            refine wpAnyH_ready (rs := [9]) (by kernel_rfl) (by simp) ?_
            refine AllReadyH.cons rfl (fun K hK => ?_) AllReadyH.nil
            rw [if_pos (by kernel_rfl)]
            go_simp
            have z15 := Box.new w15 24 #[.int .i64 sv.n, .int .i64 sv.e]
            have own10 := own10.alloc (.cells #[.int .i64 sv.n, .int .i64 sv.e] 24)
            have cb := cb.alloc cb.size (.cells #[.int .i64 sv.n, .int .i64 sv.e] 24)
            have k2 := (xb.later cb).cells
            have kg := (xg.later cb).cells
            refine hK.out _ _ (by first | assumption | go_keep) (fun hHeld => ?_)
            clear hK K
            go_simp
            refine wpAnyH_ready (rs := [10]) (by kernel_rfl) (by simp) ?_
            refine AllReadyH.cons rfl (fun K hK => ?_) AllReadyH.nil
            refine step_append_rowN rfl _ _ 32 rfl wr.heap.size 24 i0 _ 2 16 Try.underlying32 hi hz0 hz1 hz2 rfl (by decide) _ (1 + r.plus.length) (VlE.vs ([r.base] ++ r.plus.map (ofV L i))) rfl own10 (some ⟨w15.heap.size, 0, none⟩) 1 1 (VlE.v sv) rfl rfl (Enc.Row.box1 z15 rfl) (VlE.one _) (by unfold maxLen; omega) (by omega) cb.size ?_
            intro A17 c17 w17 own17 hgr17
            have cb := cb.grown hgr17 cb.size (fun k hk => (own10.lt k hk).1)
            rw [← VlE.vs_snoc] at own17
            have k2 := (xb.later cb).cells
            have kg := (xg.later cb).cells
            clear own10 hgr17 z15
            refine hK.out _ _ (by first | assumption | go_keep) (fun hHeld => ?_)
            clear hK K
            go_simp
            refine wpAnyH_ready (rs := [11]) (by kernel_rfl) (by simp) ?_
            refine AllReadyH.cons rfl (fun K hK => ?_) AllReadyH.nil
            rw [if_pos (by kernel_rfl)]
            go_simp
            refine hK.out _ _ hHeld (fun hHeld => ?_)
            clear hK K
            go_simp
            refine wpAnyH_done (by kernel_rfl) ?_ _
            refine NoPanic.normal ?_
            have hPL : Hid ([r.base] ++ r.plus.map (ofV L i) ++ [sv] = plusV r L i) := by show _ = _; unfold plusV; rw [hrt, hov.out, hsv.out]; simp
            have hPl : Hid ((plusV r L i).length = 1 + r.plus.length + 1) := by show _ = _; rw [← hPL.out]; simp; omega
            clear LK kg
            have rp := Enc.Row.of_own (E := VlE) own17
            have VN := fun (A2 : Option Addr) (c2 : Nat) (W : World) (h1 : VlE.Row W A17 (plusV r L i)) (h2 : VlE.Row W A2 (r.minus.map (ofV L i))) => vnet_any (c1 := c17) (c2 := c2) (p := plusV r L i) (m := r.minus.map (ofV L i)) (by rw [hPl.out]; omega) (by rw [List.length_map]; omega) (amts_ok (plusV_ok hbase hi64)) (amts_ok (minusV_ok hi64)) h1 h2
            rw [hPl.out, List.length_map] at VN
            rw [hPL.out] at rp
            replace VN := Lib.hid VN
            have k2 := (xb.later cb).cells
            have l2 := (xb.later cb).lt
            clear own17 SC
            go_wp2_with fail
            refine (TH2.out _ cb).mono ?_
            rintro e w21 ⟨A21, c21, rfl, r21, b21⟩
            replace rp := rp.later b21
            replace cb := cb.trans (b21.mono cb.size)
            clear b21 k2 l2
            go_wp2_with fail
            refine (VN.out _ _ _ rp r21).mono ?_
            rintro e w22 ⟨rfl, b22⟩
            replace cb := cb.trans (b22.mono cb.size)
            have x9 := xv.later cb
            have k4 := x9.cells
            have f4 := x9.free
            have l4 := x9.lt
            have y4 := (x9.set 0 (.int .i64 (netV (plusV r L i) (r.minus.map (ofV L i))).n)).set 1 (.int .i64 (netV (plusV r L i) (r.minus.map (ofV L i))).e)
            have j4 := y4.cells
            have hBf := HB.trans (cb.mono HB.size)
            clear b22 y4 rp r21 VN x9
            unfold vv
            go_wp2
            refine bodyPost_ret (by unfold results; simp only [Try.results12]; go_simp; rfl) rfl ?_
            exact ⟨by rw [hEV.out]; rfl, (hBf.setCell (by simp) _).setCell (by simp) _⟩
  · have hEV := Lib.hid (hE1 hli)
    clear hE0 hE1
    have hd : ((L.length : Int) == (i.length : Int)) = false := by simp; omega
    have hdn : ((L.length : Int) != (i.length : Int)) = true := by simp; omega
    have k4 := xv.cells
    have f4 := xv.free
    have l4 := xv.lt
    have y4 := (xv.set 0 (.int .i64 0)).set 1 (.int .i64 2)
    have j4 := y4.cells
    clear y4
    go_wp2
    refine bodyPost_ret (by unfold results; simp only [Try.results12]; go_simp; rfl) rfl ?_
    exact ⟨by rw [hEV.out]; rfl, (HB.setCell (by simp) _).setCell (by simp) _⟩
end
end Go.Proofs.Ytioecjoddgpjbaa
