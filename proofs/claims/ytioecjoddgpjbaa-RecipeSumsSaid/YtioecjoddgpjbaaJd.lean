/-
  recipe: what a recipe comes to, by the document.
-/
import Derived.Test.YtioecjoddgpjbaaRea
namespace Go.Proofs.Ytioecjoddgpjbaa
open Go.RowKit

section
variable {A1 A2 A3 : Option Addr} {c1 c2 c3 : Nat} {r : Rcp} {i : List Vl} {w : World}
set_option maxRecDepth 100000 in
set_option maxHeartbeats 2000000 in
theorem reval29_any (hwf : WfR r) (hbase : OkV r.base) (hi64 : ∀ v ∈ i, OkV v) (hr1 : CelE.Row w A1 r.plus) (hr2 : CelE.Row w A2 r.minus) (hr3 : VlE.Row w A3 i) : Calls Try.prog 13 #[.agg #[.int .i64 r.base.n, .int .i64 r.base.e, .slice A1 r.plus.length c1, .slice A2 r.minus.length c2, .int .i64 r.sc.r, .int .i64 r.sc.e, .int .i64 r.sc.a, .int .i64 r.sc.p, .int .i64 r.sc.c, .int .i64 r.sc.q, .bool r.rt, .int .i64 r.num, .int .i64 r.den, .bool r.has], .slice A3 i.length c3] w fun e w' => e = .returned (vv (evalR r i)) ∧ Below w.heap.size w w' := by
  obtain ⟨i0, hi, hz0, hz1, hz2⟩ := info_parts Try.infoVal
  obtain ⟨L, hL⟩ : ∃ L, L = readsR r := ⟨_, rfl⟩
  obtain ⟨f, hf⟩ : ∃ f, f = ofV L i := ⟨_, rfl⟩
  have hB1 : Below w.heap.size w ((w.alloc (.cells #[.int .i64 r.base.n, .int .i64 r.base.e, .slice A1 r.plus.length c1, .slice A2 r.minus.length c2, .int .i64 r.sc.r, .int .i64 r.sc.e, .int .i64 r.sc.a, .int .i64 r.sc.p, .int .i64 r.sc.c, .int .i64 r.sc.q, .bool r.rt, .int .i64 r.num, .int .i64 r.den, .bool r.has] 31)).alloc (.cells #[.int .i64 0, .int .i64 0] 24)) := ((Below.refl _ _).alloc (Nat.le_refl _) _).alloc (by simp) _
  have xb : Box ((w.alloc (.cells #[.int .i64 r.base.n, .int .i64 r.base.e, .slice A1 r.plus.length c1, .slice A2 r.minus.length c2, .int .i64 r.sc.r, .int .i64 r.sc.e, .int .i64 r.sc.a, .int .i64 r.sc.p, .int .i64 r.sc.c, .int .i64 r.sc.q, .bool r.rt, .int .i64 r.num, .int .i64 r.den, .bool r.has] 31)).alloc (.cells #[.int .i64 0, .int .i64 0] 24)) w.heap.size 31 #[.int .i64 r.base.n, .int .i64 r.base.e, .slice A1 r.plus.length c1, .slice A2 r.minus.length c2, .int .i64 r.sc.r, .int .i64 r.sc.e, .int .i64 r.sc.a, .int .i64 r.sc.p, .int .i64 r.sc.c, .int .i64 r.sc.q, .bool r.rt, .int .i64 r.num, .int .i64 r.den, .bool r.has] := (Box.new w _ _).alloc _
  have xv : Box ((w.alloc (.cells #[.int .i64 r.base.n, .int .i64 r.base.e, .slice A1 r.plus.length c1, .slice A2 r.minus.length c2, .int .i64 r.sc.r, .int .i64 r.sc.e, .int .i64 r.sc.a, .int .i64 r.sc.p, .int .i64 r.sc.c, .int .i64 r.sc.q, .bool r.rt, .int .i64 r.num, .int .i64 r.den, .bool r.has] 31)).alloc (.cells #[.int .i64 0, .int .i64 0] 24)) (w.heap.size + 1) 24 #[.int .i64 0, .int .i64 0] := Box.new' (by simp)
  have RD := rreads_any (c1 := c1) (c2 := c2) hwf (hr1.below hB1 (Nat.le_refl _)) (hr2.below hB1 (Nat.le_refl _))
  have hLn := readsR_len hwf
  have hE1 : L.length ≠ i.length → evalR r i = ⟨0, 2⟩ := fun h => by unfold evalR; rw [if_pos (by rw [← hL]; exact h)]
  have hE0 : L.length = i.length → evalR r i = netV (plusV r L i) (r.minus.map f) := fun h => by unfold evalR; rw [if_neg (by rw [← hL]; exact fun h2 => h2 h), ← hL, hf]
  rw [← hL] at RD hLn
  replace hL := Lib.hid hL
  replace RD := Lib.hid RD
  replace hf := Lib.hid hf
  have hlp := hwf.lp
  have hlm := hwf.lm
  have k2 := xb.cells
  have l2 := xb.lt
  have HR1 := Lib.hid hr1
  have HR2 := Lib.hid hr2
  have HR3 := Lib.hid hr3
  clear hr1 hr2 hr3
  go_enter Try.func13, Try.ntmps13
  go_wp2_with fail
  refine RD.out.mono ?_
  rintro e W2 ⟨A5, c5, rfl, hc51, hc52, own5, b2⟩
  replace xb := xb.later b2
  replace xv := xv.later b2
  have HB := hB1.trans (b2.mono hB1.size)
  have R5 := Enc.Row.of_own (E := CelE) own5
  clear k2 l2 b2 hB1 RD own5
  by_cases hli : L.length = i.length
  · have hEV := Lib.hid (hE0 hli)
    clear hE0 hE1
    have hd : ((L.length : Int) == (i.length : Int)) = true := by rw [hli]; simp
    have hdn : ((L.length : Int) != (i.length : Int)) = false := by rw [hli]; simp
    replace hli := Lib.hid hli
    have R3 : VlE.Row W2 A3 i := HR3.out.below HB (Nat.le_refl _)
    have hr1 : CelE.Row W2 A1 r.plus := HR1.out.below HB (Nat.le_refl _)
    have hr2 : CelE.Row W2 A2 r.minus := HR2.out.below HB (Nat.le_refl _)
    have k2 := xb.cells
    have l2 := xb.lt
    have own0 := own_of_box (E := VlE) (x := r.base) (base := W2.heap.size) (Nat.le_refl _) (Box.new W2 24 #[.int .i64 r.base.n, .int .i64 r.base.e]) rfl
    have hb0 : Below W2.heap.size W2 (W2.alloc (.cells #[.int .i64 r.base.n, .int .i64 r.base.e] 24)) := (Below.refl _ _).alloc (Nat.le_refl _) _
    go_wp2
    go_loopw [6, 7] (fun o t wr => ∃ (k : Nat) (Apq : Option Addr) (cpq : Nat), k ≤ r.plus.length ∧ o = .slice Apq (1 + k) cpq ∧ t = .int .i64 k ∧ wr.ownsRow W2.heap.size 24 2 (.slice Apq (1 + k) cpq) (1 + k) (VlE.vs ([r.base] ++ (r.plus.take k).map f)) ∧ Below W2.heap.size W2 wr) (fun _ t _ => r.plus.length - (intOf t).toNat)
    case atStart => exact ⟨0, _, _, by omega, rfl, rfl, own0, hb0⟩
    case round =>
      obtain ⟨k, Apq, cpq, hk, rfl, rfl, hown, hb⟩ := hrel
      have k2 := (xb.later hb).cells
      have l2 := (xb.later hb).lt
      by_cases hkn : k < r.plus.length
      · obtain ⟨b0, off, rfl, hgb, hc⟩ := (hr1.later hb).get (by omega)
        have d0 := hc k hkn 0 _ rfl
        have d1 := hc k hkn 1 _ rfl
        have d2 := hc k hkn 2 _ rfl
        have d3 := hc k hkn 3 _ rfl
        have d4 := hc k hkn 4 _ rfl
        have d5 := hc k hkn 5 _ rfl
        have OFV := Lib.hid (rof29_any (c1 := c5) (c2 := c3) r.plus[k] (by omega) hli.out (R5.later hb) (R3.later hb))
        have HS : Hid (VlE.vs ([r.base] ++ (r.plus.take (k + 1)).map f) = VlE.vs ([r.base] ++ (r.plus.take k).map f) ++ VlE.v (f r.plus[k])) := by
          show _ = _
          rw [List.take_succ_eq_append_getElem hkn, List.map_append, ← List.append_assoc, VlE.vs_append, List.map_cons, List.map_nil, VlE.vs_one]
        rw [← hf.out] at OFV
        clear hc
        generalize r.plus[k] = x at *
        generalize f x = v at *
        obtain ⟨x1, x2, x3, x4, x5, x6⟩ := x
        obtain ⟨vn, ve⟩ := v
        dsimp only at d0 d1 d2 d3 d4 d5
        rw [show CelE.n = 6 from rfl, Nat.add_zero] at d0
        rw [show CelE.n = 6 from rfl, ← Nat.add_assoc] at d1 d2 d3 d4 d5
        unfold cv vv at OFV
        dsimp only at OFV
        go_wp2_with fail
        refine OFV.out.mono ?_
        rintro e w7 ⟨rfl, b7⟩
        have own7 := own_below hown b7 (Nat.le_refl _)
        have hb7 := hb.trans (b7.mono hb.size)
        have k2 := (xb.later hb7).cells
        have l2 := (xb.later hb7).lt
        have hsz7 := hb7.size
        clear b7 hown hb OFV d0 d1 d2 d3 d4 d5
        go_wp2_with (at_builtin; refine wpList_append_rowN rfl _ _ 32 rfl W2.heap.size 24 i0 _ 2 16 Try.underlying32 hi hz0 hz1 hz2 rfl (by decide) _ (1 + k) (VlE.vs ([r.base] ++ (r.plus.take k).map f)) rfl (own7.alloc _) (some ⟨w7.heap.size, 0, none⟩) 1 1 (VlE.v ⟨vn, ve⟩) rfl rfl (Enc.Row.box1 (Box.new w7 24 #[.int .i64 vn, .int .i64 ve]) rfl) (VlE.one _) (by unfold maxLen; omega) (by omega) (by rw [World.size_alloc]; omega) ?_)
        intro A8 c8 w8 own8 hgr8
        have hb8 := (hb7.alloc hsz7 (.cells #[.int .i64 vn, .int .i64 ve] 24)).grown hgr8 (by rw [World.size_alloc]; omega) (fun k hk => (own7.lt k hk).1)
        clear own7 hgr8 hb7 k2 l2
        have k2 := (xb.later hb8).cells
        have l2 := (xb.later hb8).lt
        go_wp2
        go_roundw
        case rel => exact ⟨k + 1, A8, c8, by omega, rfl, by go_num, by rw [HS.out]; first | exact own8 | (rw [List.map_take]; exact own8), hb8⟩
        case measure => simp [intOf]; omega
      · obtain rfl : k = r.plus.length := by omega
        rewrite [List.take_length] at hown
        clear hk hkn
        have own10 := hown
        have cb := hb
        clear hown hb
        cases hrt : r.rt
        · rw [hrt] at xb k2
          have hPL : Hid ([r.base] ++ r.plus.map f = plusV r L i) := by show _ = _; unfold plusV; rw [hrt, hf.out]; simp
          have hPl : Hid ((plusV r L i).length = 1 + r.plus.length) := by show _ = _; rw [← hPL.out]; simp; omega
          obtain ⟨W9, hW9⟩ : ∃ W9, W9 = wr := ⟨_, rfl⟩
          rewrite [← hW9] at own10 cb ⊢
          clear hW9
          have rp := Enc.Row.of_own (E := VlE) own10
          rw [hPL.out] at rp
          have HB9 := HB.trans (cb.mono HB.size)
          replace xb := xb.later cb
          replace xv := xv.later cb
          replace R5 := R5.later cb
          replace R3 := R3.later cb
          replace hr2 := hr2.later cb
          clear own10 cb
          have k2 := xb.cells
          have l2 := xb.lt
          have hn0 : (1 : Nat) ≤ 2 := by omega
          go_wp2
          go_loopw [8, 9] (fun o t wr => ∃ (k : Nat) (Aaq : Option Addr) (caq : Nat), k ≤ r.minus.length ∧ o = .slice Aaq k caq ∧ t = .int .i64 k ∧ wr.ownsRow W9.heap.size 24 2 (.slice Aaq k caq) k (VlE.vs ((r.minus.take k).map f)) ∧ Below W9.heap.size W9 wr) (fun _ t _ => r.minus.length - (intOf t).toNat)
          case atStart => exact ⟨0, none, 0, by omega, rfl, rfl, World.ownsRow_nil _ _ _ _, Below.refl _ _⟩
          case round =>
            obtain ⟨k, Aaq, caq, hk, rfl, rfl, hown, hb⟩ := hrel
            have k2 := (xb.later hb).cells
            have l2 := (xb.later hb).lt
            by_cases hkn : k < r.minus.length
            · obtain ⟨b0, off, rfl, hgb, hc⟩ := (hr2.later hb).get (by omega)
              have d0 := hc k hkn 0 _ rfl
              have d1 := hc k hkn 1 _ rfl
              have d2 := hc k hkn 2 _ rfl
              have d3 := hc k hkn 3 _ rfl
              have d4 := hc k hkn 4 _ rfl
              have d5 := hc k hkn 5 _ rfl
              have OFV := Lib.hid (rof29_any (c1 := c5) (c2 := c3) r.minus[k] (by omega) hli.out (R5.later hb) (R3.later hb))
              have HS : Hid (VlE.vs ((r.minus.take (k + 1)).map f) = VlE.vs ((r.minus.take k).map f) ++ VlE.v (f r.minus[k])) := by
                show _ = _
                rw [List.take_succ_eq_append_getElem hkn, List.map_append, VlE.vs_append, List.map_cons, List.map_nil, VlE.vs_one]
              rw [← hf.out] at OFV
              clear hc
              generalize r.minus[k] = x at *
              generalize f x = v at *
              obtain ⟨x1, x2, x3, x4, x5, x6⟩ := x
              obtain ⟨vn, ve⟩ := v
              dsimp only at d0 d1 d2 d3 d4 d5
              rw [show CelE.n = 6 from rfl, Nat.add_zero] at d0
              rw [show CelE.n = 6 from rfl, ← Nat.add_assoc] at d1 d2 d3 d4 d5
              unfold cv vv at OFV
              dsimp only at OFV
              go_wp2_with fail
              refine OFV.out.mono ?_
              rintro e w7 ⟨rfl, b7⟩
              have own7 := own_below hown b7 (Nat.le_refl _)
              have hb7 := hb.trans (b7.mono hb.size)
              have k2 := (xb.later hb7).cells
              have l2 := (xb.later hb7).lt
              have hsz7 := hb7.size
              clear b7 hown hb OFV d0 d1 d2 d3 d4 d5
              go_wp2_with (at_builtin; refine wpList_append_rowN rfl _ _ 32 rfl W9.heap.size 24 i0 _ 2 16 Try.underlying32 hi hz0 hz1 hz2 rfl (by decide) _ k (VlE.vs ((r.minus.take k).map f)) rfl (own7.alloc _) (some ⟨w7.heap.size, 0, none⟩) 1 1 (VlE.v ⟨vn, ve⟩) rfl rfl (Enc.Row.box1 (Box.new w7 24 #[.int .i64 vn, .int .i64 ve]) rfl) (VlE.one _) (by unfold maxLen; omega) (by omega) (by rw [World.size_alloc]; omega) ?_)
              intro A8 c8 w8 own8 hgr8
              have hb8 := (hb7.alloc hsz7 (.cells #[.int .i64 vn, .int .i64 ve] 24)).grown hgr8 (by rw [World.size_alloc]; omega) (fun k hk => (own7.lt k hk).1)
              clear own7 hgr8 hb7 k2 l2
              have k2 := (xb.later hb8).cells
              have l2 := (xb.later hb8).lt
              go_wp2
              go_roundw
              case rel => exact ⟨k + 1, A8, c8, by omega, rfl, by go_num, by rw [HS.out]; first | exact own8 | (rw [List.map_take]; exact own8), hb8⟩
              case measure => simp [intOf]; omega
            · obtain rfl : k = r.minus.length := by omega
              rewrite [List.take_length] at hown
              clear hk hkn
              have rm := Enc.Row.of_own (E := VlE) hown
              have VN := rnet28_any (c1 := cpq) (c2 := caq) (p := plusV r L i) (m := r.minus.map f) (by rw [hPl.out]; omega) (by rw [List.length_map]; omega) (amts_ok (plusV_ok hbase hi64)) (amts_ok (by rw [hf.out]; exact minusV_ok hi64)) (rp.later hb) rm
              rw [hPl.out, List.length_map] at VN
              replace VN := Lib.hid VN
              replace xv := xv.later hb
              replace HB9 := HB9.trans (hb.mono HB9.size)
              clear hown rm rp
              go_wp2_with fail
              refine VN.out.mono ?_
              rintro e w22 ⟨rfl, b22⟩
              have x9 := xv.later b22
              have k4 := x9.cells
              have f4 := x9.free
              have l4 := x9.lt
              have y4 := (x9.set 0 (.int .i64 (netV (plusV r L i) (r.minus.map f)).n)).set 1 (.int .i64 (netV (plusV r L i) (r.minus.map f)).e)
              have j4 := y4.cells
              have hBf := HB9.trans (b22.mono HB9.size)
              clear b22 y4 VN x9 k2 l2
              unfold vv
              go_wp2
              refine bodyPost_ret (by unfold results; simp only [Try.results13]; go_simp; rfl) rfl ?_
              exact ⟨by rw [hEV.out]; rfl, (hBf.setCell (by simp) _).setCell (by simp) _⟩
        · rw [hrt] at xb k2
          have OFV := Lib.hid (rof29_any (c1 := c5) (c2 := c3) r.sc (by omega) hli.out (R5.later cb).drew (R3.later cb).drew)
          obtain ⟨ov, hov⟩ : ∃ ov, f r.sc = ov := ⟨_, rfl⟩
          rw [← hf.out, hov] at OFV
          have hovk : OkV ov := by rw [← hov, hf.out]; exact ofV_ok hi64
          have SC := Lib.hid fun W => rscale28_any ov r.num r.den r.has W hovk.1 hovk.2
          obtain ⟨sv, hsv⟩ : ∃ sv, scaleV ov r.num r.den r.has = sv := ⟨_, rfl⟩
          rw [hsv] at SC
          replace hov := Lib.hid hov
          replace hsv := Lib.hid hsv
          unfold cv vv at OFV
          unfold vv at SC
          have cb : Below W2.heap.size W2 wr.drew := below_drewN cb 1
          have hn1 : r.plus.length ≤ 60 := hlp
          go_upto_region 10 with fail
          refine wp_region_noPanic ?_
          refine wp_region_held_drew (S := (fun w' => w'.cell? ⟨w.heap.size, 4, none⟩ = some (.int .i64 r.sc.r) ∧ w'.cell? ⟨w.heap.size, 5, none⟩ = some (.int .i64 r.sc.e) ∧ w'.cell? ⟨w.heap.size, 6, none⟩ = some (.int .i64 r.sc.a) ∧ w'.cell? ⟨w.heap.size, 7, none⟩ = some (.int .i64 r.sc.p) ∧ w'.cell? ⟨w.heap.size, 8, none⟩ = some (.int .i64 r.sc.c) ∧ w'.cell? ⟨w.heap.size, 9, none⟩ = some (.int .i64 r.sc.q) ∧ w'.cell? ⟨w.heap.size, 10, none⟩ = some (.bool true) ∧ w'.cell? ⟨w.heap.size, 11, none⟩ = some (.int .i64 r.num) ∧ w'.cell? ⟨w.heap.size, 12, none⟩ = some (.int .i64 r.den) ∧ w'.cell? ⟨w.heap.size, 13, none⟩ = some (.bool r.has))) (by kernel_rfl) ?_ (fun hHeld => ?_)
          · first | assumption | go_keep
          refine wpAnyH_take (i := 0) (v := ?vm1) rfl (by kernel_rfl) (by kernel_rfl) (by kernel_rfl) (fun _ _ _ h => h) (Or.inl ⟨by kernel_rfl, ?hym1⟩) (by assumption) ?restm1
          case hym1 => (intro w hSw; (try dsimp only at hSw); go_simp; (try with_reducible rfl))
          go_simp
          refine wpAnyH_take (i := 1) (v := ?vm2) rfl (by kernel_rfl) (by kernel_rfl) (by kernel_rfl) (fun _ _ _ h => h) (Or.inl ⟨by kernel_rfl, ?hym2⟩) (by assumption) ?restm2
          case hym2 => (intro w hSw; (try dsimp only at hSw); go_simp; (try with_reducible rfl))
          go_simp
          refine wpAnyH_take (i := 2) (v := ?vm3) rfl (by kernel_rfl) (by kernel_rfl) (by kernel_rfl) (fun _ _ _ h => h) (Or.inl ⟨by kernel_rfl, ?hym3⟩) (by assumption) ?restm3
          case hym3 => (intro w hSw; (try dsimp only at hSw); go_simp; (try with_reducible rfl))
          go_simp
          refine wpAnyH_take (i := 3) (v := ?vm4) rfl (by kernel_rfl) (by kernel_rfl) (by kernel_rfl) (fun _ _ _ h => h) (Or.inl ⟨by kernel_rfl, ?hym4⟩) (by assumption) ?restm4
          case hym4 => (intro w hSw; (try dsimp only at hSw); go_simp; (try with_reducible rfl))
          go_simp
          refine wpAnyH_take (i := 4) (v := ?vm5) rfl (by kernel_rfl) (by kernel_rfl) (by kernel_rfl) (fun _ _ _ h => h) (Or.inl ⟨by kernel_rfl, ?hym5⟩) (by assumption) ?restm5
          case hym5 => (intro w hSw; (try dsimp only at hSw); go_simp; (try with_reducible rfl))
          go_simp
          refine wpAnyH_take (i := 6) (v := ?vm6) rfl (by kernel_rfl) (by kernel_rfl) (by kernel_rfl) (fun _ _ _ h => h) (Or.inl ⟨by kernel_rfl, ?hym6⟩) (by assumption) ?restm6
          case hym6 => (intro w hSw; (try dsimp only at hSw); go_simp; (try with_reducible rfl))
          go_simp
          refine wpAnyH_take (i := 7) (v := ?vm7) rfl (by kernel_rfl) (by kernel_rfl) (by kernel_rfl) (fun _ _ _ h => h) (Or.inl ⟨by kernel_rfl, ?hym7⟩) (by assumption) ?restm7
          case hym7 => (intro w hSw; (try dsimp only at hSw); go_simp; (try with_reducible rfl))
          go_simp
          refine wpAnyH_take (i := 8) (v := ?vm8) rfl (by kernel_rfl) (by kernel_rfl) (by kernel_rfl) (fun _ _ _ h => h) (Or.inl ⟨by kernel_rfl, ?hym8⟩) (by assumption) ?restm8
          case hym8 => (intro w hSw; (try dsimp only at hSw); go_simp; (try with_reducible rfl))
          go_simp
          refine wpAnyH_take (i := 9) (v := ?vm9) rfl (by kernel_rfl) (by kernel_rfl) (by kernel_rfl) (fun _ _ _ h => h) (Or.inl ⟨by kernel_rfl, ?hym9⟩) (by assumption) ?restm9
          case hym9 => (intro w hSw; (try dsimp only at hSw); go_simp; (try with_reducible rfl))
          go_simp
          refine wpAnyH_ready (rs := [5]) (by kernel_rfl) (by simp) ?_
          refine AllReadyH.cons rfl (fun K hK => ?_) AllReadyH.nil
          rw [if_pos (by kernel_rfl)]
          go_simp
          refine OFV.out.mono ?_
          rintro e w14 ⟨rfl, b14⟩
          have own10 := own_below own10 (below_undrew b14) (Nat.le_refl _)
          have cb := cb.trans (b14.mono cb.size)
          have k2 := (xb.later cb).cells
          clear b14
          go_wp2_with fail
          refine hK.out _ _ (by first | assumption | go_keep) (fun hHeld => ?_)
          clear hK K
          go_simp
          refine wpAnyH_ready (rs := [10]) (by kernel_rfl) (by simp) ?_
          refine AllReadyH.cons rfl (fun K hK => ?_) AllReadyH.nil
          rw [if_pos (by kernel_rfl)]
          go_simp
          refine (SC.out _).mono ?_
          rintro e w15 ⟨rfl, b15⟩
          have own10 := own_below own10 b15 (Nat.le_refl _)
          have cb := cb.trans (b15.mono cb.size)
          have k2 := (xb.later cb).cells
          clear b15
          go_wp2_with fail
          refine hK.out _ _ (by first | assumption | go_keep) (fun hHeld => ?_)
          clear hK K
          go_simp
          refine wpAnyH_ready (rs := [11]) (by kernel_rfl) (by simp) ?_
          refine AllReadyH.cons rfl (fun K hK => ?_) AllReadyH.nil
          rw [if_pos (by kernel_rfl)]
          go_simp
          have z15 := Box.new w15 24 #[.int .i64 sv.n, .int .i64 sv.e]
          have own10 := own10.alloc (.cells #[.int .i64 sv.n, .int .i64 sv.e] 24)
          have cb := cb.alloc cb.size (.cells #[.int .i64 sv.n, .int .i64 sv.e] 24)
          have k2 := (xb.later cb).cells
          refine hK.out _ _ (by first | assumption | go_keep) (fun hHeld => ?_)
          clear hK K
          go_simp
          refine wpAnyH_ready (rs := [12]) (by kernel_rfl) (by simp) ?_
          refine AllReadyH.cons rfl (fun K hK => ?_) AllReadyH.nil
          refine step_append_rowN rfl _ _ 32 rfl W2.heap.size 24 i0 _ 2 16 Try.underlying32 hi hz0 hz1 hz2 rfl (by decide) _ (1 + r.plus.length) (VlE.vs ([r.base] ++ r.plus.map f)) rfl own10 (some ⟨w15.heap.size, 0, none⟩) 1 1 (VlE.v sv) rfl rfl (Enc.Row.box1 z15 rfl) (VlE.one _) (by unfold maxLen; omega) (by omega) cb.size ?_
          intro A17 c17 w17 own17 hgr17
          have cb := cb.grown hgr17 cb.size (fun k hk => (own10.lt k hk).1)
          rw [← VlE.vs_snoc] at own17
          have k2 := (xb.later cb).cells
          clear own10 hgr17 z15
          refine hK.out _ _ (by first | assumption | go_keep) (fun hHeld => ?_)
          clear hK K
          go_simp
          refine wpAnyH_ready (rs := [13]) (by kernel_rfl) (by simp) ?_
          refine AllReadyH.cons rfl (fun K hK => ?_) AllReadyH.nil
          rw [if_pos (by kernel_rfl)]
          go_simp
          refine hK.out _ _ hHeld (fun hHeld => ?_)
          clear hK K
          go_simp
          refine wpAnyH_done (by kernel_rfl) ?_ _
          refine NoPanic.normal ?_
          have hPL : Hid ([r.base] ++ r.plus.map f ++ [sv] = plusV r L i) := by show _ = _; unfold plusV; rw [hrt, ← hsv.out, ← hov.out, hf.out]; simp
          have hPl : Hid ((plusV r L i).length = 1 + r.plus.length + 1) := by show _ = _; rw [← hPL.out]; simp; omega
          clear OFV SC k2
          obtain ⟨W9, hW9⟩ : ∃ W9, W9 = w17 := ⟨_, rfl⟩
          rewrite [← hW9] at own17 cb ⊢
          clear hW9
          have rp := Enc.Row.of_own (E := VlE) own17
          rw [hPL.out] at rp
          have HB9 := HB.trans (cb.mono HB.size)
          replace xb := xb.later cb
          replace xv := xv.later cb
          replace R5 := R5.later cb
          replace R3 := R3.later cb
          replace hr2 := hr2.later cb
          clear own17 cb
          have k2 := xb.cells
          have l2 := xb.lt
          have hn0 : (1 : Nat) ≤ 2 := by omega
          go_wp2
          go_loopw [8, 9] (fun o t wr => ∃ (k : Nat) (Abq : Option Addr) (cbq : Nat), k ≤ r.minus.length ∧ o = .slice Abq k cbq ∧ t = .int .i64 k ∧ wr.ownsRow W9.heap.size 24 2 (.slice Abq k cbq) k (VlE.vs ((r.minus.take k).map f)) ∧ Below W9.heap.size W9 wr) (fun _ t _ => r.minus.length - (intOf t).toNat)
          case atStart => exact ⟨0, none, 0, by omega, rfl, rfl, World.ownsRow_nil _ _ _ _, Below.refl _ _⟩
          case round =>
            obtain ⟨k, Abq, cbq, hk, rfl, rfl, hown, hb⟩ := hrel
            have k2 := (xb.later hb).cells
            have l2 := (xb.later hb).lt
            by_cases hkn : k < r.minus.length
            · obtain ⟨b0, off, rfl, hgb, hc⟩ := (hr2.later hb).get (by omega)
              have d0 := hc k hkn 0 _ rfl
              have d1 := hc k hkn 1 _ rfl
              have d2 := hc k hkn 2 _ rfl
              have d3 := hc k hkn 3 _ rfl
              have d4 := hc k hkn 4 _ rfl
              have d5 := hc k hkn 5 _ rfl
              have OFV := Lib.hid (rof29_any (c1 := c5) (c2 := c3) r.minus[k] (by omega) hli.out (R5.later hb) (R3.later hb))
              have HS : Hid (VlE.vs ((r.minus.take (k + 1)).map f) = VlE.vs ((r.minus.take k).map f) ++ VlE.v (f r.minus[k])) := by
                show _ = _
                rw [List.take_succ_eq_append_getElem hkn, List.map_append, VlE.vs_append, List.map_cons, List.map_nil, VlE.vs_one]
              rw [← hf.out] at OFV
              clear hc
              generalize r.minus[k] = x at *
              generalize f x = v at *
              obtain ⟨x1, x2, x3, x4, x5, x6⟩ := x
              obtain ⟨vn, ve⟩ := v
              dsimp only at d0 d1 d2 d3 d4 d5
              rw [show CelE.n = 6 from rfl, Nat.add_zero] at d0
              rw [show CelE.n = 6 from rfl, ← Nat.add_assoc] at d1 d2 d3 d4 d5
              unfold cv vv at OFV
              dsimp only at OFV
              go_wp2_with fail
              refine OFV.out.mono ?_
              rintro e w7 ⟨rfl, b7⟩
              have own7 := own_below hown b7 (Nat.le_refl _)
              have hb7 := hb.trans (b7.mono hb.size)
              have k2 := (xb.later hb7).cells
              have l2 := (xb.later hb7).lt
              have hsz7 := hb7.size
              clear b7 hown hb OFV d0 d1 d2 d3 d4 d5
              go_wp2_with (at_builtin; refine wpList_append_rowN rfl _ _ 32 rfl W9.heap.size 24 i0 _ 2 16 Try.underlying32 hi hz0 hz1 hz2 rfl (by decide) _ k (VlE.vs ((r.minus.take k).map f)) rfl (own7.alloc _) (some ⟨w7.heap.size, 0, none⟩) 1 1 (VlE.v ⟨vn, ve⟩) rfl rfl (Enc.Row.box1 (Box.new w7 24 #[.int .i64 vn, .int .i64 ve]) rfl) (VlE.one _) (by unfold maxLen; omega) (by omega) (by rw [World.size_alloc]; omega) ?_)
              intro A8 c8 w8 own8 hgr8
              have hb8 := (hb7.alloc hsz7 (.cells #[.int .i64 vn, .int .i64 ve] 24)).grown hgr8 (by rw [World.size_alloc]; omega) (fun k hk => (own7.lt k hk).1)
              clear own7 hgr8 hb7 k2 l2
              have k2 := (xb.later hb8).cells
              have l2 := (xb.later hb8).lt
              go_wp2
              go_roundw
              case rel => exact ⟨k + 1, A8, c8, by omega, rfl, by go_num, by rw [HS.out]; first | exact own8 | (rw [List.map_take]; exact own8), hb8⟩
              case measure => simp [intOf]; omega
            · obtain rfl : k = r.minus.length := by omega
              rewrite [List.take_length] at hown
              clear hk hkn
              have rm := Enc.Row.of_own (E := VlE) hown
              have VN := rnet28_any (c1 := c17) (c2 := cbq) (p := plusV r L i) (m := r.minus.map f) (by rw [hPl.out]; omega) (by rw [List.length_map]; omega) (amts_ok (plusV_ok hbase hi64)) (amts_ok (by rw [hf.out]; exact minusV_ok hi64)) (rp.later hb) rm
              rw [hPl.out, List.length_map] at VN
              replace VN := Lib.hid VN
              replace xv := xv.later hb
              replace HB9 := HB9.trans (hb.mono HB9.size)
              clear hown rm rp
              go_wp2_with fail
              refine VN.out.mono ?_
              rintro e w22 ⟨rfl, b22⟩
              have x9 := xv.later b22
              have k4 := x9.cells
              have f4 := x9.free
              have l4 := x9.lt
              have y4 := (x9.set 0 (.int .i64 (netV (plusV r L i) (r.minus.map f)).n)).set 1 (.int .i64 (netV (plusV r L i) (r.minus.map f)).e)
              have j4 := y4.cells
              have hBf := HB9.trans (b22.mono HB9.size)
              clear b22 y4 VN x9 k2 l2
              unfold vv
              go_wp2
              refine bodyPost_ret (by unfold results; simp only [Try.results13]; go_simp; rfl) rfl ?_
              exact ⟨by rw [hEV.out]; rfl, (hBf.setCell (by simp) _).setCell (by simp) _⟩
  · have hEV := Lib.hid (hE1 hli)
    clear hE0 hE1
    have hd : ((L.length : Int) == (i.length : Int)) = false := by simp; omega
    have hdn : ((L.length : Int) != (i.length : Int)) = true := by simp; omega
    have k4 := xv.cells
    have f4 := xv.free
    have l4 := xv.lt
    have y4 := (xv.set 0 (.int .i64 0)).set 1 (.int .i64 2)
    have j4 := y4.cells
    clear y4
    go_wp2
    refine bodyPost_ret (by unfold results; simp only [Try.results13]; go_simp; rfl) rfl ?_
    exact ⟨by rw [hEV.out]; rfl, (HB.setCell (by simp) _).setCell (by simp) _⟩
end
end Go.Proofs.Ytioecjoddgpjbaa
/-
  recipe: recipes held against each other.
-/
namespace Go.Proofs.Ytioecjoddgpjbaa
open Go.RowKit

theorem bool_and_eq (a b : Bool) : (a && b) = decide (a = true ∧ b = true) := by cases a <;> cases b <;> rfl
set_option maxHeartbeats 1000000 in
theorem veq (a b c d : Int) (w : World) : (Op.equalIn 10000 24 (.agg #[.int .i64 a, .int .i64 b]) (.agg #[.int .i64 c, .int .i64 d])).run Try.prog w = .ok (decide ((⟨a, b⟩ : Vl) = ⟨c, d⟩)) w := by
  have u3 := Try.underlying3
  have a3 := Try.isAgg3
  have z3 := Try.sizeOf3
  have u4 := Try.underlying22
  have a4 := Try.isAgg22
  have z4 := Try.sizeOf22
  have hS : Try.prog.underlying 24 = some (.struct (Try.prog.fieldsOf 24)) := by kernel_rfl
  have hp : Try.prog.stoodInHeld 24 = false := by kernel_rfl
  rw [vl_eq, show (10000 : Nat) = 9999 + 1 from rfl, run_equalIn_agg w 9999 _ _ _ hS hp]
  simp only [Program.fieldsOf, Try.underlying24]
  go_simp
  by_cases h1 : a = c
  case neg => simp [h1]
  by_cases h2 : b = d
  case neg => simp [h1, h2]
  simp [h1, h2]
set_option maxHeartbeats 1000000 in
theorem teq (a b c d e f n m a' b' c' d' e' f' n' m' : Int) (t h t' h' : Bool) (w : World) : (Op.equalIn 10000 38 (.agg #[.int .i64 a, .int .i64 b, .int .i64 c, .int .i64 d, .int .i64 e, .int .i64 f, .bool t, .int .i64 n, .int .i64 m, .bool h]) (.agg #[.int .i64 a', .int .i64 b', .int .i64 c', .int .i64 d', .int .i64 e', .int .i64 f', .bool t', .int .i64 n', .int .i64 m', .bool h'])).run Try.prog w =
    .ok (decide ((⟨a, b, c, d, e, f⟩ : Cel) = ⟨a', b', c', d', e', f'⟩) && (t == t') && ((n == n') && (m == m')) && (h == h')) w := by
  have u3 := Try.underlying4
  have a3 := Try.isAgg4
  have z3 := Try.sizeOf4
  have hS : Try.prog.underlying 38 = some (.struct (Try.prog.fieldsOf 38)) := by kernel_rfl
  have hp : Try.prog.stoodInHeld 38 = false := by kernel_rfl
  rw [show (10000 : Nat) = 9999 + 1 from rfl, run_equalIn_agg w 9999 _ _ _ hS hp]
  simp only [Program.fieldsOf, Try.underlying38]
  go_simp
  by_cases h1 : a = a'
  case neg => simp [h1]
  by_cases h2 : b = b'
  case neg => simp [h1, h2]
  by_cases h3 : c = c'
  case neg => simp [h1, h2, h3]
  by_cases h4 : d = d'
  case neg => simp [h1, h2, h3, h4]
  by_cases h5 : e = e'
  case neg => simp [h1, h2, h3, h4, h5]
  by_cases h6 : f = f'
  case neg => simp [h1, h2, h3, h4, h5, h6]
  by_cases h7 : t = t'
  case neg => simp [h1, h2, h3, h4, h5, h6, h7]
  by_cases h8 : n = n'
  case neg => simp [h1, h2, h3, h4, h5, h6, h7, h8]
  by_cases h9 : m = m'
  case neg => simp [h1, h2, h3, h4, h5, h6, h7, h8, h9]
  by_cases h10 : h = h'
  case neg => simp [h1, h2, h3, h4, h5, h6, h7, h8, h9, h10]
  simp [h1, h2, h3, h4, h5, h6, h7, h8, h9, h10]
/-- Recipes, as two arguments. -/
theorem two_args : True := trivial
section
variable {A1 A2 B1 B2 : Option Addr} {c1 c2 d1 d2 : Nat} {a b : Rcp} {w : World}
set_option maxRecDepth 100000 in
set_option maxHeartbeats 2000000 in
theorem psame_any (la : a.plus.length ≤ 60) (lb : b.plus.length ≤ 60) (ma : a.minus.length ≤ 60) (mb : b.minus.length ≤ 60) (ha1 : CelE.Row w A1 a.plus) (ha2 : CelE.Row w A2 a.minus) (hb1 : CelE.Row w B1 b.plus) (hb2 : CelE.Row w B2 b.minus) : Calls Try.prog 14 #[.agg #[.int .i64 a.base.n, .int .i64 a.base.e, .slice A1 a.plus.length c1, .slice A2 a.minus.length c2, .int .i64 a.sc.r, .int .i64 a.sc.e, .int .i64 a.sc.a, .int .i64 a.sc.p, .int .i64 a.sc.c, .int .i64 a.sc.q, .bool a.rt, .int .i64 a.num, .int .i64 a.den, .bool a.has], .agg #[.int .i64 b.base.n, .int .i64 b.base.e, .slice B1 b.plus.length d1, .slice B2 b.minus.length d2, .int .i64 b.sc.r, .int .i64 b.sc.e, .int .i64 b.sc.a, .int .i64 b.sc.p, .int .i64 b.sc.c, .int .i64 b.sc.q, .bool b.rt, .int .i64 b.num, .int .i64 b.den, .bool b.has]] w fun e w' => e = .returned (.bool (decide (a = b))) ∧ Below w.heap.size w w' := by
  have hB : Below w.heap.size w ((w.alloc (.cells #[.int .i64 a.base.n, .int .i64 a.base.e, .slice A1 a.plus.length c1, .slice A2 a.minus.length c2, .int .i64 a.sc.r, .int .i64 a.sc.e, .int .i64 a.sc.a, .int .i64 a.sc.p, .int .i64 a.sc.c, .int .i64 a.sc.q, .bool a.rt, .int .i64 a.num, .int .i64 a.den, .bool a.has] 40)).alloc (.cells #[.int .i64 b.base.n, .int .i64 b.base.e, .slice B1 b.plus.length d1, .slice B2 b.minus.length d2, .int .i64 b.sc.r, .int .i64 b.sc.e, .int .i64 b.sc.a, .int .i64 b.sc.p, .int .i64 b.sc.c, .int .i64 b.sc.q, .bool b.rt, .int .i64 b.num, .int .i64 b.den, .bool b.has] 40)) := ((Below.refl _ _).alloc (Nat.le_refl _) _).alloc (by simp) _
  have xa : Box ((w.alloc (.cells #[.int .i64 a.base.n, .int .i64 a.base.e, .slice A1 a.plus.length c1, .slice A2 a.minus.length c2, .int .i64 a.sc.r, .int .i64 a.sc.e, .int .i64 a.sc.a, .int .i64 a.sc.p, .int .i64 a.sc.c, .int .i64 a.sc.q, .bool a.rt, .int .i64 a.num, .int .i64 a.den, .bool a.has] 40)).alloc (.cells #[.int .i64 b.base.n, .int .i64 b.base.e, .slice B1 b.plus.length d1, .slice B2 b.minus.length d2, .int .i64 b.sc.r, .int .i64 b.sc.e, .int .i64 b.sc.a, .int .i64 b.sc.p, .int .i64 b.sc.c, .int .i64 b.sc.q, .bool b.rt, .int .i64 b.num, .int .i64 b.den, .bool b.has] 40)) w.heap.size 40 #[.int .i64 a.base.n, .int .i64 a.base.e, .slice A1 a.plus.length c1, .slice A2 a.minus.length c2, .int .i64 a.sc.r, .int .i64 a.sc.e, .int .i64 a.sc.a, .int .i64 a.sc.p, .int .i64 a.sc.c, .int .i64 a.sc.q, .bool a.rt, .int .i64 a.num, .int .i64 a.den, .bool a.has] := (Box.new w _ _).alloc _
  have xb : Box ((w.alloc (.cells #[.int .i64 a.base.n, .int .i64 a.base.e, .slice A1 a.plus.length c1, .slice A2 a.minus.length c2, .int .i64 a.sc.r, .int .i64 a.sc.e, .int .i64 a.sc.a, .int .i64 a.sc.p, .int .i64 a.sc.c, .int .i64 a.sc.q, .bool a.rt, .int .i64 a.num, .int .i64 a.den, .bool a.has] 40)).alloc (.cells #[.int .i64 b.base.n, .int .i64 b.base.e, .slice B1 b.plus.length d1, .slice B2 b.minus.length d2, .int .i64 b.sc.r, .int .i64 b.sc.e, .int .i64 b.sc.a, .int .i64 b.sc.p, .int .i64 b.sc.c, .int .i64 b.sc.q, .bool b.rt, .int .i64 b.num, .int .i64 b.den, .bool b.has] 40)) (w.heap.size + 1) 40 #[.int .i64 b.base.n, .int .i64 b.base.e, .slice B1 b.plus.length d1, .slice B2 b.minus.length d2, .int .i64 b.sc.r, .int .i64 b.sc.e, .int .i64 b.sc.a, .int .i64 b.sc.p, .int .i64 b.sc.c, .int .i64 b.sc.q, .bool b.rt, .int .i64 b.num, .int .i64 b.den, .bool b.has] := Box.new' (by simp)
  obtain ⟨W, hW⟩ : ∃ W, W = ((w.alloc (.cells #[.int .i64 a.base.n, .int .i64 a.base.e, .slice A1 a.plus.length c1, .slice A2 a.minus.length c2, .int .i64 a.sc.r, .int .i64 a.sc.e, .int .i64 a.sc.a, .int .i64 a.sc.p, .int .i64 a.sc.c, .int .i64 a.sc.q, .bool a.rt, .int .i64 a.num, .int .i64 a.den, .bool a.has] 40)).alloc (.cells #[.int .i64 b.base.n, .int .i64 b.base.e, .slice B1 b.plus.length d1, .slice B2 b.minus.length d2, .int .i64 b.sc.r, .int .i64 b.sc.e, .int .i64 b.sc.a, .int .i64 b.sc.p, .int .i64 b.sc.c, .int .i64 b.sc.q, .bool b.rt, .int .i64 b.num, .int .i64 b.den, .bool b.has] 40)) := ⟨_, rfl⟩
  rw [← hW] at hB xa xb
  replace hW := Lib.hid hW
  have E1 := Lib.hid fun w (h1 : CelE.Row w A1 a.plus) (h2 : CelE.Row w B1 b.plus) => cequal_any (c := c1) (c' := d1) (by omega) (by omega) h1 h2
  have E2 := Lib.hid fun w (h1 : CelE.Row w A2 a.minus) (h2 : CelE.Row w B2 b.minus) => cequal_any (c := c2) (c' := d2) (by omega) (by omega) h1 h2
  have r1 := ha1.below hB (Nat.le_refl _)
  have r2 := ha2.below hB (Nat.le_refl _)
  have s1 := hb1.below hB (Nat.le_refl _)
  have s2 := hb2.below hB (Nat.le_refl _)
  have V1 := fun w => veq a.base.n a.base.e b.base.n b.base.e w
  clear ha1 ha2 hb1 hb2
  have ka := xa.cells
  have kb := xb.cells
  have la1 := xa.lt
  have lb1 := xb.lt
  by_cases h1 : a.base = b.base
  case neg =>
    have HE : Hid (decide (a = b) = false) := decide_eq_false (fun h => h1 (by rw [h]))
    rw [show decide ((⟨a.base.n, a.base.e⟩ : Vl) = ⟨b.base.n, b.base.e⟩) = false from decide_eq_false h1] at V1
    clear h1 E1 E2 r1 r2 s1 s2
    go_enter Try.func14, Try.ntmps14
    go_wp2_with fail
    rewrite [← hW.out]
    go_wp2
    go_ret
    exact ⟨by rw [HE.out]; try rfl, hB⟩
  rw [show decide ((⟨a.base.n, a.base.e⟩ : Vl) = ⟨b.base.n, b.base.e⟩) = true from decide_eq_true h1] at V1
  have C1 := E1.out W r1 s1
  by_cases h2 : a.plus = b.plus
  case neg =>
    have HE : Hid (decide (a = b) = false) := decide_eq_false (fun h => h2 (by rw [h]))
    rw [decide_eq_false h2] at C1
    replace C1 := Lib.hid C1
    clear h1 h2 E1 E2
    go_enter Try.func14, Try.ntmps14
    go_wp2_with fail
    rewrite [← hW.out]
    refine C1.out.mono ?_
    rintro e w1 ⟨rfl, b1⟩
    replace hB := hB.trans (b1.mono hB.size)
    go_wp2
    go_ret
    exact ⟨by rw [HE.out]; try rfl, hB⟩
  rw [decide_eq_true h2] at C1
  replace C1 := Lib.hid C1
  have C2 := E2.out
  by_cases h3 : a.minus = b.minus
  case neg =>
    have HE : Hid (decide (a = b) = false) := decide_eq_false (fun h => h3 (by rw [h]))
    have C2 := fun w h1 h2 => E2.out w h1 h2
    rw [decide_eq_false h3] at C2
    replace C2 := Lib.hid C2
    clear h1 h2 h3 E1 E2
    go_enter Try.func14, Try.ntmps14
    go_wp2_with fail
    rewrite [← hW.out]
    refine C1.out.mono ?_
    rintro e w1 ⟨rfl, b1⟩
    replace hB := hB.trans (b1.mono hB.size)
    replace xa := xa.later b1
    replace xb := xb.later b1
    have ka := xa.cells
    have kb := xb.cells
    have la1 := xa.lt
    have lb1 := xb.lt
    go_wp2_with fail
    refine (C2.out _ (r2.later b1) (s2.later b1)).mono ?_
    rintro e w2 ⟨rfl, b2⟩
    replace hB := hB.trans (b2.mono hB.size)
    go_wp2
    go_ret
    exact ⟨by rw [HE.out]; try rfl, hB⟩
  clear C2
  have C2 := fun w h1 h2 => E2.out w h1 h2
  rw [decide_eq_true h3] at C2
  replace C2 := Lib.hid C2
  clear E1 E2
  have T1 := fun w => teq a.sc.r a.sc.e a.sc.a a.sc.p a.sc.c a.sc.q a.num a.den b.sc.r b.sc.e b.sc.a b.sc.p b.sc.c b.sc.q b.num b.den a.rt a.has b.rt b.has w
  by_cases h4 : a.sc = b.sc ∧ a.rt = b.rt ∧ a.num = b.num ∧ a.den = b.den ∧ a.has = b.has
  case neg =>
    have HE : Hid (decide (a = b) = false) := decide_eq_false (fun h => h4 (by rw [h]; exact ⟨rfl, rfl, rfl, rfl, rfl⟩))
    have hx : (decide ((⟨a.sc.r, a.sc.e, a.sc.a, a.sc.p, a.sc.c, a.sc.q⟩ : Cel) = ⟨b.sc.r, b.sc.e, b.sc.a, b.sc.p, b.sc.c, b.sc.q⟩) && (a.rt == b.rt) && ((a.num == b.num) && (a.den == b.den)) && (a.has == b.has)) = false := by
      rw [Bool.eq_false_iff]
      intro h
      simp only [Bool.and_eq_true, decide_eq_true_eq, beq_iff_eq] at h
      exact h4 ⟨h.1.1.1, h.1.1.2, h.1.2.1, h.1.2.2, h.2⟩
    rw [hx] at T1
    clear h1 h2 h3 h4 hx
    go_enter Try.func14, Try.ntmps14
    go_wp2_with fail
    rewrite [← hW.out]
    refine C1.out.mono ?_
    rintro e w1 ⟨rfl, b1⟩
    replace hB := hB.trans (b1.mono hB.size)
    replace xa := xa.later b1
    replace xb := xb.later b1
    have ka := xa.cells
    have kb := xb.cells
    have la1 := xa.lt
    have lb1 := xb.lt
    replace r2 := r2.later b1
    replace s2 := s2.later b1
    clear b1 C1 r1 s1
    go_wp2_with fail
    refine (C2.out _ r2 s2).mono ?_
    rintro e w2 ⟨rfl, b2⟩
    replace hB := hB.trans (b2.mono hB.size)
    replace xa := xa.later b2
    replace xb := xb.later b2
    have ka := xa.cells
    have kb := xb.cells
    have la1 := xa.lt
    have lb1 := xb.lt
    clear b2 C2 r2 s2
    go_wp2
    go_ret
    exact ⟨by rw [HE.out]; try rfl, hB⟩
  have hx : (decide ((⟨a.sc.r, a.sc.e, a.sc.a, a.sc.p, a.sc.c, a.sc.q⟩ : Cel) = ⟨b.sc.r, b.sc.e, b.sc.a, b.sc.p, b.sc.c, b.sc.q⟩) && (a.rt == b.rt) && ((a.num == b.num) && (a.den == b.den)) && (a.has == b.has)) = true := by
    obtain ⟨q1, q2, q3, q4, q5⟩ := h4
    simp only [Bool.and_eq_true, decide_eq_true_eq, beq_iff_eq]
    exact ⟨⟨⟨q1, q2⟩, q3, q4⟩, q5⟩
  rw [hx] at T1
  have HE : Hid (decide (a = b) = true) := decide_eq_true (by
    obtain ⟨q1, q2, q3, q4, q5⟩ := h4
    obtain ⟨a1, a2, a3, a4, a5, a6, a7, a8⟩ := a
    obtain ⟨b1, b2, b3, b4, b5, b6, b7, b8⟩ := b
    simp only at h1 h2 h3 q1 q2 q3 q4 q5
    rw [h1, h2, h3, q1, q2, q3, q4, q5])
  clear h1 h2 h3 h4 hx
  go_enter Try.func14, Try.ntmps14
  go_wp2_with fail
  rewrite [← hW.out]
  refine C1.out.mono ?_
  rintro e w1 ⟨rfl, b1⟩
  replace hB := hB.trans (b1.mono hB.size)
  replace xa := xa.later b1
  replace xb := xb.later b1
  have ka := xa.cells
  have kb := xb.cells
  have la1 := xa.lt
  have lb1 := xb.lt
  replace r2 := r2.later b1
  replace s2 := s2.later b1
  clear b1 C1 r1 s1
  go_wp2_with fail
  refine (C2.out _ r2 s2).mono ?_
  rintro e w2 ⟨rfl, b2⟩
  replace hB := hB.trans (b2.mono hB.size)
  replace xa := xa.later b2
  replace xb := xb.later b2
  have ka := xa.cells
  have kb := xb.cells
  have la1 := xa.lt
  have lb1 := xb.lt
  clear b2 C2 r2 s2
  go_wp2
  go_ret
  exact ⟨by rw [HE.out]; try rfl, hB⟩
set_option maxRecDepth 100000 in
set_option maxHeartbeats 2000000 in
theorem rsame29_any (la : a.plus.length ≤ 60) (lb : b.plus.length ≤ 60) (ma : a.minus.length ≤ 60) (mb : b.minus.length ≤ 60) (ha1 : CelE.Row w A1 a.plus) (ha2 : CelE.Row w A2 a.minus) (hb1 : CelE.Row w B1 b.plus) (hb2 : CelE.Row w B2 b.minus) : Calls Try.prog 15 #[.agg #[.int .i64 a.base.n, .int .i64 a.base.e, .slice A1 a.plus.length c1, .slice A2 a.minus.length c2, .int .i64 a.sc.r, .int .i64 a.sc.e, .int .i64 a.sc.a, .int .i64 a.sc.p, .int .i64 a.sc.c, .int .i64 a.sc.q, .bool a.rt, .int .i64 a.num, .int .i64 a.den, .bool a.has], .agg #[.int .i64 b.base.n, .int .i64 b.base.e, .slice B1 b.plus.length d1, .slice B2 b.minus.length d2, .int .i64 b.sc.r, .int .i64 b.sc.e, .int .i64 b.sc.a, .int .i64 b.sc.p, .int .i64 b.sc.c, .int .i64 b.sc.q, .bool b.rt, .int .i64 b.num, .int .i64 b.den, .bool b.has]] w fun e w' => e = .returned (.bool (decide (a = b))) ∧ Below w.heap.size w w' := by
  have hB : Below w.heap.size w ((w.alloc (.cells #[.int .i64 a.base.n, .int .i64 a.base.e, .slice A1 a.plus.length c1, .slice A2 a.minus.length c2, .int .i64 a.sc.r, .int .i64 a.sc.e, .int .i64 a.sc.a, .int .i64 a.sc.p, .int .i64 a.sc.c, .int .i64 a.sc.q, .bool a.rt, .int .i64 a.num, .int .i64 a.den, .bool a.has] 31)).alloc (.cells #[.int .i64 b.base.n, .int .i64 b.base.e, .slice B1 b.plus.length d1, .slice B2 b.minus.length d2, .int .i64 b.sc.r, .int .i64 b.sc.e, .int .i64 b.sc.a, .int .i64 b.sc.p, .int .i64 b.sc.c, .int .i64 b.sc.q, .bool b.rt, .int .i64 b.num, .int .i64 b.den, .bool b.has] 31)) := ((Below.refl _ _).alloc (Nat.le_refl _) _).alloc (by simp) _
  have xa : Box ((w.alloc (.cells #[.int .i64 a.base.n, .int .i64 a.base.e, .slice A1 a.plus.length c1, .slice A2 a.minus.length c2, .int .i64 a.sc.r, .int .i64 a.sc.e, .int .i64 a.sc.a, .int .i64 a.sc.p, .int .i64 a.sc.c, .int .i64 a.sc.q, .bool a.rt, .int .i64 a.num, .int .i64 a.den, .bool a.has] 31)).alloc (.cells #[.int .i64 b.base.n, .int .i64 b.base.e, .slice B1 b.plus.length d1, .slice B2 b.minus.length d2, .int .i64 b.sc.r, .int .i64 b.sc.e, .int .i64 b.sc.a, .int .i64 b.sc.p, .int .i64 b.sc.c, .int .i64 b.sc.q, .bool b.rt, .int .i64 b.num, .int .i64 b.den, .bool b.has] 31)) w.heap.size 31 #[.int .i64 a.base.n, .int .i64 a.base.e, .slice A1 a.plus.length c1, .slice A2 a.minus.length c2, .int .i64 a.sc.r, .int .i64 a.sc.e, .int .i64 a.sc.a, .int .i64 a.sc.p, .int .i64 a.sc.c, .int .i64 a.sc.q, .bool a.rt, .int .i64 a.num, .int .i64 a.den, .bool a.has] := (Box.new w _ _).alloc _
  have xb : Box ((w.alloc (.cells #[.int .i64 a.base.n, .int .i64 a.base.e, .slice A1 a.plus.length c1, .slice A2 a.minus.length c2, .int .i64 a.sc.r, .int .i64 a.sc.e, .int .i64 a.sc.a, .int .i64 a.sc.p, .int .i64 a.sc.c, .int .i64 a.sc.q, .bool a.rt, .int .i64 a.num, .int .i64 a.den, .bool a.has] 31)).alloc (.cells #[.int .i64 b.base.n, .int .i64 b.base.e, .slice B1 b.plus.length d1, .slice B2 b.minus.length d2, .int .i64 b.sc.r, .int .i64 b.sc.e, .int .i64 b.sc.a, .int .i64 b.sc.p, .int .i64 b.sc.c, .int .i64 b.sc.q, .bool b.rt, .int .i64 b.num, .int .i64 b.den, .bool b.has] 31)) (w.heap.size + 1) 31 #[.int .i64 b.base.n, .int .i64 b.base.e, .slice B1 b.plus.length d1, .slice B2 b.minus.length d2, .int .i64 b.sc.r, .int .i64 b.sc.e, .int .i64 b.sc.a, .int .i64 b.sc.p, .int .i64 b.sc.c, .int .i64 b.sc.q, .bool b.rt, .int .i64 b.num, .int .i64 b.den, .bool b.has] := Box.new' (by simp)
  obtain ⟨W, hW⟩ : ∃ W, W = ((w.alloc (.cells #[.int .i64 a.base.n, .int .i64 a.base.e, .slice A1 a.plus.length c1, .slice A2 a.minus.length c2, .int .i64 a.sc.r, .int .i64 a.sc.e, .int .i64 a.sc.a, .int .i64 a.sc.p, .int .i64 a.sc.c, .int .i64 a.sc.q, .bool a.rt, .int .i64 a.num, .int .i64 a.den, .bool a.has] 31)).alloc (.cells #[.int .i64 b.base.n, .int .i64 b.base.e, .slice B1 b.plus.length d1, .slice B2 b.minus.length d2, .int .i64 b.sc.r, .int .i64 b.sc.e, .int .i64 b.sc.a, .int .i64 b.sc.p, .int .i64 b.sc.c, .int .i64 b.sc.q, .bool b.rt, .int .i64 b.num, .int .i64 b.den, .bool b.has] 31)) := ⟨_, rfl⟩
  rw [← hW] at hB xa xb
  replace hW := Lib.hid hW
  have E1 := Lib.hid fun w (h1 : CelE.Row w A1 a.plus) (h2 : CelE.Row w B1 b.plus) => csame_any (c := c1) (c' := d1) (by omega) (by omega) h1 h2
  have E2 := Lib.hid fun w (h1 : CelE.Row w A2 a.minus) (h2 : CelE.Row w B2 b.minus) => csame_any (c := c2) (c' := d2) (by omega) (by omega) h1 h2
  have r1 := ha1.below hB (Nat.le_refl _)
  have r2 := ha2.below hB (Nat.le_refl _)
  have s1 := hb1.below hB (Nat.le_refl _)
  have s2 := hb2.below hB (Nat.le_refl _)
  have V1 := fun w => veq a.base.n a.base.e b.base.n b.base.e w
  clear ha1 ha2 hb1 hb2
  have ka := xa.cells
  have kb := xb.cells
  have la1 := xa.lt
  have lb1 := xb.lt
  by_cases h1 : a.base = b.base
  case neg =>
    have HE : Hid (decide (a = b) = false) := decide_eq_false (fun h => h1 (by rw [h]))
    rw [show decide ((⟨a.base.n, a.base.e⟩ : Vl) = ⟨b.base.n, b.base.e⟩) = false from decide_eq_false h1] at V1
    clear h1 E1 E2 r1 r2 s1 s2
    go_enter Try.func15, Try.ntmps15
    go_wp2_with fail
    rewrite [← hW.out]
    go_wp2
    go_ret
    exact ⟨by rw [HE.out]; try rfl, hB⟩
  rw [show decide ((⟨a.base.n, a.base.e⟩ : Vl) = ⟨b.base.n, b.base.e⟩) = true from decide_eq_true h1] at V1
  have C1 := E1.out W r1 s1
  by_cases h2 : a.plus = b.plus
  case neg =>
    have HE : Hid (decide (a = b) = false) := decide_eq_false (fun h => h2 (by rw [h]))
    rw [decide_eq_false h2] at C1
    replace C1 := Lib.hid C1
    clear h1 h2 E1 E2
    go_enter Try.func15, Try.ntmps15
    go_wp2_with fail
    rewrite [← hW.out]
    refine C1.out.mono ?_
    rintro e w1 ⟨rfl, b1⟩
    replace hB := hB.trans (b1.mono hB.size)
    go_wp2
    go_ret
    exact ⟨by rw [HE.out]; try rfl, hB⟩
  rw [decide_eq_true h2] at C1
  replace C1 := Lib.hid C1
  have C2 := E2.out
  by_cases h3 : a.minus = b.minus
  case neg =>
    have HE : Hid (decide (a = b) = false) := decide_eq_false (fun h => h3 (by rw [h]))
    have C2 := fun w h1 h2 => E2.out w h1 h2
    rw [decide_eq_false h3] at C2
    replace C2 := Lib.hid C2
    clear h1 h2 h3 E1 E2
    go_enter Try.func15, Try.ntmps15
    go_wp2_with fail
    rewrite [← hW.out]
    refine C1.out.mono ?_
    rintro e w1 ⟨rfl, b1⟩
    replace hB := hB.trans (b1.mono hB.size)
    replace xa := xa.later b1
    replace xb := xb.later b1
    have ka := xa.cells
    have kb := xb.cells
    have la1 := xa.lt
    have lb1 := xb.lt
    go_wp2_with fail
    refine (C2.out _ (r2.later b1) (s2.later b1)).mono ?_
    rintro e w2 ⟨rfl, b2⟩
    replace hB := hB.trans (b2.mono hB.size)
    go_wp2
    go_ret
    exact ⟨by rw [HE.out]; try rfl, hB⟩
  clear C2
  have C2 := fun w h1 h2 => E2.out w h1 h2
  rw [decide_eq_true h3] at C2
  replace C2 := Lib.hid C2
  clear E1 E2
  have S1 := fun w => ceq a.sc.r a.sc.e a.sc.a a.sc.p a.sc.c a.sc.q b.sc.r b.sc.e b.sc.a b.sc.p b.sc.c b.sc.q w
  have Q1 := fun w => req a.num a.den b.num b.den w
  by_cases h4 : a.sc = b.sc
  case neg =>
    have HE : Hid (decide (a = b) = false) := decide_eq_false (fun h => h4 (by rw [h]))
    rw [show decide ((⟨a.sc.r, a.sc.e, a.sc.a, a.sc.p, a.sc.c, a.sc.q⟩ : Cel) = ⟨b.sc.r, b.sc.e, b.sc.a, b.sc.p, b.sc.c, b.sc.q⟩) = false from decide_eq_false h4] at S1
    clear h1 h2 h3 h4
    go_enter Try.func15, Try.ntmps15
    go_wp2_with fail
    rewrite [← hW.out]
    refine C1.out.mono ?_
    rintro e w1 ⟨rfl, b1⟩
    replace hB := hB.trans (b1.mono hB.size)
    replace xa := xa.later b1
    replace xb := xb.later b1
    have ka := xa.cells
    have kb := xb.cells
    have la1 := xa.lt
    have lb1 := xb.lt
    replace r2 := r2.later b1
    replace s2 := s2.later b1
    clear b1 C1 r1 s1
    go_wp2_with fail
    refine (C2.out _ r2 s2).mono ?_
    rintro e w2 ⟨rfl, b2⟩
    replace hB := hB.trans (b2.mono hB.size)
    replace xa := xa.later b2
    replace xb := xb.later b2
    have ka := xa.cells
    have kb := xb.cells
    have la1 := xa.lt
    have lb1 := xb.lt
    clear b2 C2 r2 s2
    go_wp2
    go_ret
    exact ⟨by rw [HE.out]; try rfl, hB⟩
  rw [show decide ((⟨a.sc.r, a.sc.e, a.sc.a, a.sc.p, a.sc.c, a.sc.q⟩ : Cel) = ⟨b.sc.r, b.sc.e, b.sc.a, b.sc.p, b.sc.c, b.sc.q⟩) = true from decide_eq_true h4] at S1
  by_cases h5 : a.rt = b.rt
  case neg =>
    have HE : Hid (decide (a = b) = false) := decide_eq_false (fun h => h5 (by rw [h]))
    have hbr : (a.rt == b.rt) = false := by simpa using h5
    clear h1 h2 h3 h4 h5
    go_enter Try.func15, Try.ntmps15
    go_wp2_with fail
    rewrite [← hW.out]
    refine C1.out.mono ?_
    rintro e w1 ⟨rfl, b1⟩
    replace hB := hB.trans (b1.mono hB.size)
    replace xa := xa.later b1
    replace xb := xb.later b1
    have ka := xa.cells
    have kb := xb.cells
    have la1 := xa.lt
    have lb1 := xb.lt
    replace r2 := r2.later b1
    replace s2 := s2.later b1
    clear b1 C1 r1 s1
    go_wp2_with fail
    refine (C2.out _ r2 s2).mono ?_
    rintro e w2 ⟨rfl, b2⟩
    replace hB := hB.trans (b2.mono hB.size)
    replace xa := xa.later b2
    replace xb := xb.later b2
    have ka := xa.cells
    have kb := xb.cells
    have la1 := xa.lt
    have lb1 := xb.lt
    clear b2 C2 r2 s2
    go_wp2
    go_ret
    exact ⟨by rw [HE.out]; try rfl, hB⟩
  have hbr : (a.rt == b.rt) = true := by simpa using h5
  by_cases h6 : a.num = b.num ∧ a.den = b.den
  case neg =>
    have HE : Hid (decide (a = b) = false) := decide_eq_false (fun h => h6 (by rw [h]; exact ⟨rfl, rfl⟩))
    have hx : ((a.num == b.num) && (a.den == b.den)) = false := by
      rw [Bool.eq_false_iff]
      intro h
      simp only [Bool.and_eq_true, beq_iff_eq] at h
      exact h6 h
    rw [hx] at Q1
    clear h1 h2 h3 h4 h5 h6 hx
    go_enter Try.func15, Try.ntmps15
    go_wp2_with fail
    rewrite [← hW.out]
    refine C1.out.mono ?_
    rintro e w1 ⟨rfl, b1⟩
    replace hB := hB.trans (b1.mono hB.size)
    replace xa := xa.later b1
    replace xb := xb.later b1
    have ka := xa.cells
    have kb := xb.cells
    have la1 := xa.lt
    have lb1 := xb.lt
    replace r2 := r2.later b1
    replace s2 := s2.later b1
    clear b1 C1 r1 s1
    go_wp2_with fail
    refine (C2.out _ r2 s2).mono ?_
    rintro e w2 ⟨rfl, b2⟩
    replace hB := hB.trans (b2.mono hB.size)
    replace xa := xa.later b2
    replace xb := xb.later b2
    have ka := xa.cells
    have kb := xb.cells
    have la1 := xa.lt
    have lb1 := xb.lt
    clear b2 C2 r2 s2
    go_wp2
    go_ret
    exact ⟨by rw [HE.out]; try rfl, hB⟩
  have hx : ((a.num == b.num) && (a.den == b.den)) = true := by
    simp only [Bool.and_eq_true, beq_iff_eq]
    exact h6
  rw [hx] at Q1
  by_cases h7 : a.has = b.has
  case neg =>
    have HE : Hid (decide (a = b) = false) := decide_eq_false (fun h => h7 (by rw [h]))
    have hbh : (a.has == b.has) = false := by simpa using h7
    clear h1 h2 h3 h4 h5 h6 h7 hx
    go_enter Try.func15, Try.ntmps15
    go_wp2_with fail
    rewrite [← hW.out]
    refine C1.out.mono ?_
    rintro e w1 ⟨rfl, b1⟩
    replace hB := hB.trans (b1.mono hB.size)
    replace xa := xa.later b1
    replace xb := xb.later b1
    have ka := xa.cells
    have kb := xb.cells
    have la1 := xa.lt
    have lb1 := xb.lt
    replace r2 := r2.later b1
    replace s2 := s2.later b1
    clear b1 C1 r1 s1
    go_wp2_with fail
    refine (C2.out _ r2 s2).mono ?_
    rintro e w2 ⟨rfl, b2⟩
    replace hB := hB.trans (b2.mono hB.size)
    replace xa := xa.later b2
    replace xb := xb.later b2
    have ka := xa.cells
    have kb := xb.cells
    have la1 := xa.lt
    have lb1 := xb.lt
    clear b2 C2 r2 s2
    go_wp2
    go_ret
    exact ⟨by rw [HE.out]; try rfl, hB⟩
  have hbh : (a.has == b.has) = true := by simpa using h7
  have HE : Hid (decide (a = b) = true) := decide_eq_true (by
    obtain ⟨q3, q4⟩ := h6
    obtain ⟨a1, a2, a3, a4, a5, a6, a7, a8⟩ := a
    obtain ⟨b1, b2, b3, b4, b5, b6, b7, b8⟩ := b
    simp only at h1 h2 h3 h4 h5 q3 q4 h7
    rw [h1, h2, h3, h4, h5, q3, q4, h7])
  clear h1 h2 h3 h4 h5 h6 h7 hx
  go_enter Try.func15, Try.ntmps15
  go_wp2_with fail
  rewrite [← hW.out]
  refine C1.out.mono ?_
  rintro e w1 ⟨rfl, b1⟩
  replace hB := hB.trans (b1.mono hB.size)
  replace xa := xa.later b1
  replace xb := xb.later b1
  have ka := xa.cells
  have kb := xb.cells
  have la1 := xa.lt
  have lb1 := xb.lt
  replace r2 := r2.later b1
  replace s2 := s2.later b1
  clear b1 C1 r1 s1
  go_wp2_with fail
  refine (C2.out _ r2 s2).mono ?_
  rintro e w2 ⟨rfl, b2⟩
  replace hB := hB.trans (b2.mono hB.size)
  replace xa := xa.later b2
  replace xb := xb.later b2
  have ka := xa.cells
  have kb := xb.cells
  have la1 := xa.lt
  have lb1 := xb.lt
  clear b2 C2 r2 s2
  go_wp2
  go_ret
  exact ⟨by rw [HE.out]; try rfl, hB⟩
end
end Go.Proofs.Ytioecjoddgpjbaa
