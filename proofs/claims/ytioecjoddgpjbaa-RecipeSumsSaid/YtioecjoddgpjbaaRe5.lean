/-
  recipe: what a recipe reads, by the document.
-/
import Derived.Test.YtioecjoddgpjbaaRe4
namespace Go.Proofs.Ytioecjoddgpjbaa
open Go.RowKit

section
variable {A1 A2 : Option Addr} {c1 c2 : Nat} {r : Rcp} {w : World}
set_option maxRecDepth 100000 in
set_option maxHeartbeats 4000000 in
theorem rreads_any (hwf : WfR r) (hr1 : CelE.Row w A1 r.plus) (hr2 : CelE.Row w A2 r.minus) : Calls Try.prog 11 #[.agg #[.int .i64 r.base.n, .int .i64 r.base.e, .slice A1 r.plus.length c1, .slice A2 r.minus.length c2, .int .i64 r.sc.r, .int .i64 r.sc.e, .int .i64 r.sc.a, .int .i64 r.sc.p, .int .i64 r.sc.c, .int .i64 r.sc.q, .bool r.rt, .int .i64 r.num, .int .i64 r.den, .bool r.has]] w (NewOf CelE 27 (readsR r) w) := by
  obtain ⟨i0, hi, hz0, hz1, hz2⟩ := info_parts Try.infoCel
  obtain ⟨W, hW⟩ : ∃ W, W = w.alloc (.cells #[.int .i64 r.base.n, .int .i64 r.base.e, .slice A1 r.plus.length c1, .slice A2 r.minus.length c2, .int .i64 r.sc.r, .int .i64 r.sc.e, .int .i64 r.sc.a, .int .i64 r.sc.p, .int .i64 r.sc.c, .int .i64 r.sc.q, .bool r.rt, .int .i64 r.num, .int .i64 r.den, .bool r.has] 31) := ⟨_, rfl⟩
  have hb : Below w.heap.size w W := by rw [hW]; exact (Below.refl _ _).alloc (Nat.le_refl _) _
  have x1 : Box W.drew w.heap.size 31 #[.int .i64 r.base.n, .int .i64 r.base.e, .slice A1 r.plus.length c1, .slice A2 r.minus.length c2, .int .i64 r.sc.r, .int .i64 r.sc.e, .int .i64 r.sc.a, .int .i64 r.sc.p, .int .i64 r.sc.c, .int .i64 r.sc.q, .bool r.rt, .int .i64 r.num, .int .i64 r.den, .bool r.has] := by rw [hW]; exact (Box.new w 31 #[.int .i64 r.base.n, .int .i64 r.base.e, .slice A1 r.plus.length c1, .slice A2 r.minus.length c2, .int .i64 r.sc.r, .int .i64 r.sc.e, .int .i64 r.sc.a, .int .i64 r.sc.p, .int .i64 r.sc.c, .int .i64 r.sc.q, .bool r.rt, .int .i64 r.num, .int .i64 r.den, .bool r.has]).drew
  have x1lt : w.heap.size < W.heap.size := x1.lt
  replace hr1 : CelE.Row W A1 r.plus := hr1.below hb (Nat.le_refl _)
  replace hr2 : CelE.Row W A2 r.minus := hr2.below hb (Nat.le_refl _)
  have hlp := hwf.lp
  have hlm := hwf.lm
  obtain ⟨L, hL0⟩ : ∃ L, L = allC r := ⟨_, rfl⟩
  have hAL : Hid (L = (r.plus ++ r.minus) ++ if r.rt = true then [r.sc] else []) := hL0
  have hALn := hwf.len
  rw [show readsR r = unq (allC r) from rfl]
  rw [← hL0] at hALn ⊢
  clear hL0
  have k1 := x1.cells
  have cb : Below W.heap.size W W.drew := below_drewN (Below.refl _ _) 1
  go_enter Try.func11, Try.ntmps11
  go_wp2
  rw [← hW]
  clear hW
  refine wp_region_noPanic ?_
  refine wp_region_held_drew (S := (fun w' => w'.cell? ⟨w.heap.size, 2, none⟩ = some (.slice A1 r.plus.length c1) ∧ w'.cell? ⟨w.heap.size, 3, none⟩ = some (.slice A2 r.minus.length c2))) (by kernel_rfl) ?_ (fun hHeld => ?_)
  · go_keep
  refine wpAnyH_take (i := 1) (v := ?vt1) rfl (by kernel_rfl) (by kernel_rfl) (by kernel_rfl) (fun _ _ _ h => h) (Or.inl ⟨by kernel_rfl, ?hyt1⟩) (by assumption) ?restt1
  case hyt1 => (intro w hSw; (try dsimp only at hSw); go_simp; (try with_reducible rfl))
  go_simp
  refine wpAnyH_take (i := 2) (v := ?vt2) rfl (by kernel_rfl) (by kernel_rfl) (by kernel_rfl) (fun _ _ _ h => h) (Or.inl ⟨by kernel_rfl, ?hyt2⟩) (by assumption) ?restt2
  case hyt2 => (intro w hSw; (try dsimp only at hSw); go_simp; (try with_reducible rfl))
  go_simp
  refine wpAnyH_take (i := 4) (v := ?vt3) rfl (by kernel_rfl) (by kernel_rfl) (by kernel_rfl) (fun _ _ _ h => h) (Or.inl ⟨by kernel_rfl, ?hyt3⟩) (by assumption) ?restt3
  case hyt3 => (intro w hSw; (try dsimp only at hSw); go_simp; (try with_reducible rfl))
  go_simp
  refine wpAnyH_take (i := 5) (v := ?vt4) rfl (by kernel_rfl) (by kernel_rfl) (by kernel_rfl) (fun _ _ _ h => h) (Or.inl ⟨by kernel_rfl, ?hyt4⟩) (by assumption) ?restt4
  case hyt4 => (intro w hSw; (try dsimp only at hSw); go_simp; (try with_reducible rfl))
  go_simp
  refine wpAnyH_ready (rs := [0]) (by kernel_rfl) (by simp) ?_
  refine AllReadyH.cons rfl (fun K hK => ?_) AllReadyH.nil
  rw [if_pos (by kernel_rfl)]
  go_simp
  have own0 : (W.drew.alloc (.cells #[] 27)).ownsRow W.heap.size 27 6 (.slice (some ⟨W.heap.size, 0, none⟩) 0 0) 0 [] := own_empty (Nat.le_refl _) rfl
  have x1 := x1.alloc (.cells #[] 27)
  have k1 : ∀ i, (W.alloc (.cells #[] 27)).cell? ⟨w.heap.size, i, none⟩ = (#[.int .i64 r.base.n, .int .i64 r.base.e, .slice A1 r.plus.length c1, .slice A2 r.minus.length c2, .int .i64 r.sc.r, .int .i64 r.sc.e, .int .i64 r.sc.a, .int .i64 r.sc.p, .int .i64 r.sc.c, .int .i64 r.sc.q, .bool r.rt, .int .i64 r.num, .int .i64 r.den, .bool r.has] : Array Value)[i]? := x1.cells
  have cb := cb.alloc cb.size (.cells #[] 27)
  refine hK.out _ _ (by go_keep) (fun hHeld => ?_)
  clear hK K
  go_simp
  refine wpAnyH_ready (rs := [3]) (by kernel_rfl) (by simp) ?_
  refine AllReadyH.cons rfl (fun K hK => ?_) AllReadyH.nil
  refine step_append_rowN rfl _ _ 25 rfl W.heap.size 27 i0 _ 6 48 Try.underlying25 hi hz0 hz1 hz2 rfl (by decide) _ 0 [] rfl own0 A1 r.plus.length c1 (CelE.vs r.plus) rfl (CelE.vs_len _) (hr1.below cb (Nat.le_refl _)) (CelE.vs_ones _) (by unfold maxLen; omega) (by omega) cb.size ?_
  intro A8 c8 w8 hown8 hgr8
  have x1 := x1.grown hgr8 (fun he => by have := (own0.lt _ he.symm).1; have := x1lt; omega)
  have k1 := x1.cells
  have cb := cb.grown hgr8 cb.size (fun k hk => (own0.lt k hk).1)
  have hown8 : w8.ownsRow W.heap.size 27 6 (.slice A8 r.plus.length c8) r.plus.length (CelE.vs r.plus) := by first | exact hown8 | simpa using hown8
  clear hgr8 own0
  refine hK.out _ _ (by go_keep) (fun hHeld => ?_)
  clear hK K
  go_simp
  refine wpAnyH_ready (rs := [6]) (by kernel_rfl) (by simp) ?_
  refine AllReadyH.cons rfl (fun K hK => ?_) AllReadyH.nil
  refine step_append_rowN rfl _ _ 25 rfl W.heap.size 27 i0 _ 6 48 Try.underlying25 hi hz0 hz1 hz2 rfl (by decide) _ r.plus.length (CelE.vs r.plus) rfl hown8 A2 r.minus.length c2 (CelE.vs r.minus) rfl (CelE.vs_len _) (hr2.below cb (Nat.le_refl _)) (CelE.vs_ones _) (by unfold maxLen; omega) (by omega) cb.size ?_
  intro A9 c9 w9 hown9 hgr9
  have x1 := x1.grown hgr9 (fun he => by have := (hown8.lt _ he.symm).1; have := x1lt; omega)
  have k1 := x1.cells
  have cb := cb.grown hgr9 cb.size (fun k hk => (hown8.lt k hk).1)
  rw [← CelE.vs_append] at hown9
  clear hgr9 hown8
  refine hK.out _ _ (by go_keep) (fun hHeld => ?_)
  clear hK K
  go_simp
  refine wpAnyH_ready (rs := [7]) (by kernel_rfl) (by simp) ?_
  refine AllReadyH.cons rfl (fun K hK => ?_) AllReadyH.nil
  rw [if_pos (by kernel_rfl)]
  go_simp
  refine hK.out _ _ hHeld (fun hHeld => ?_)
  clear hK K
  go_simp
  refine wpAnyH_done (by kernel_rfl) ?_ _
  refine NoPanic.normal ?_
  replace hb := hb.trans (cb.mono hb.size)
  have hown9 := own_base (base' := w.heap.size) hown9 (Nat.le_of_lt x1lt)
  clear cb hr1 hr2
  obtain ⟨N, hN⟩ : ∃ N, N = (r.plus ++ r.minus).length := ⟨_, rfl⟩
  rw [show r.plus.length + r.minus.length = N by rw [hN]; simp] at hown9 ⊢
  replace hN := Lib.hid hN
  cases hrt : r.rt
  · rw [hrt] at x1 k1
    have hL : Hid (L = r.plus ++ r.minus) := by show _ = _; rw [hAL.out, hrt]; simp
    have hN2 := hN.out
    rw [← hL.out] at hown9 hN2
    clear hN x1lt
    have l1 := x1.lt
    subst hN2
    have R := Lib.hid (Enc.Row.of_own (E := CelE) hown9)
    clear hown9 hL hAL
    go_wp2
    go_loopw [4, 5] (fun o i wr => ∃ (k : Nat) (A' : Option Addr) (c' : Nat), k ≤ L.length ∧ o = .slice A' (unq (L.take k)).length c' ∧ i = .int .i64 k ∧ wr.ownsRow w9.heap.size 27 6 (.slice A' (unq (L.take k)).length c') (unq (L.take k)).length (CelE.vs (unq (L.take k))) ∧ Below w9.heap.size w9 wr) (fun _ i _ => L.length - (intOf i).toNat)
    case atStart => exact ⟨0, none, 0, by omega, rfl, rfl, World.ownsRow_nil _ _ _ _, Below.refl _ _⟩
    case round =>
      obtain ⟨k, A', c', hk, rfl, rfl, hown, hB⟩ := hrel
      by_cases hkn : k < L.length
      · obtain ⟨b0, off, rfl, hg, hc⟩ := (R.out.below hB (Nat.le_refl _)).get (by omega)
        have d0 := hc k hkn 0 _ rfl
        have d1 := hc k hkn 1 _ rfl
        have d2 := hc k hkn 2 _ rfl
        have d3 := hc k hkn 3 _ rfl
        have d4 := hc k hkn 4 _ rfl
        have d5 := hc k hkn 5 _ rfl
        clear hc
        have hul := unq_len (L.take k)
        rw [List.length_take] at hul
        have hstep : Hid (unq (L.take (k + 1)) = unqS (unq (L.take k)) L[k]) := by show _ = _; rw [List.take_succ_eq_append_getElem hkn, unq_snoc]
        have HA := chas_any (c := c') L[k] (by omega) (Enc.Row.of_own (E := CelE) hown)
        unfold unqS at hstep
        generalize L[k] = x at *
        obtain ⟨x1, x2, x3, x4, x5, x6⟩ := x
        dsimp only at d0 d1 d2 d3 d4 d5
        rw [show CelE.n = 6 from rfl, Nat.add_zero] at d0
        rw [show CelE.n = 6 from rfl, ← Nat.add_assoc] at d1 d2 d3 d4 d5
        unfold cv at HA
        dsimp only at HA
        by_cases hm : (⟨x1, x2, x3, x4, x5, x6⟩ : Cel) ∈ unq (L.take k)
        · rw [decide_eq_true hm] at HA
          replace HA := Lib.hid HA
          have hun : Hid (unq (L.take (k + 1)) = unq (L.take k)) := by show _ = _; rw [hstep.out, if_pos hm]
          clear hstep hm
          go_wp2_with fail
          refine HA.out.mono ?_
          rintro e w2 ⟨rfl, b2⟩
          have own2 := own_below hown b2 (Nat.le_refl _)
          have hB2 := hB.trans (b2.mono hB.size)
          clear b2 hown hB HA
          rewrite [← hun.out] at own2 ⊢
          go_wp2
          go_roundw
          case rel => exact ⟨k + 1, A', c', by omega, rfl, by go_num, own2, hB2⟩
          case measure => simp [intOf]; omega
        · rw [decide_eq_false hm] at HA
          replace HA := Lib.hid HA
          have hun : Hid (unq (L.take (k + 1)) = unq (L.take k) ++ [⟨x1, x2, x3, x4, x5, x6⟩]) := by show _ = _; rw [hstep.out, if_neg hm]
          clear hstep hm
          go_wp2_with fail
          refine HA.out.mono ?_
          rintro e w2 ⟨rfl, b2⟩
          have own2 := own_below hown b2 (Nat.le_refl _)
          have hB2 := hB.trans (b2.mono hB.size)
          have e0 := (b2.cell (p := ⟨b0, off + k * 6, none⟩) hg).trans d0
          have e1 := (b2.cell (p := ⟨b0, off + k * 6 + 1, none⟩) hg).trans d1
          have e2 := (b2.cell (p := ⟨b0, off + k * 6 + 2, none⟩) hg).trans d2
          have e3 := (b2.cell (p := ⟨b0, off + k * 6 + 3, none⟩) hg).trans d3
          have e4 := (b2.cell (p := ⟨b0, off + k * 6 + 4, none⟩) hg).trans d4
          have e5 := (b2.cell (p := ⟨b0, off + k * 6 + 5, none⟩) hg).trans d5
          clear b2 hown hB HA d0 d1 d2 d3 d4 d5
          go_wp2_with (at_builtin; refine wpList_append_rowN rfl _ _ 25 rfl w9.heap.size 27 i0 _ 6 48 Try.underlying25 hi hz0 hz1 hz2 rfl (by decide) _ (unq (L.take k)).length (CelE.vs (unq (L.take k))) rfl (own2.alloc _) (some ⟨w2.heap.size, 0, none⟩) 1 1 (CelE.v ⟨x1, x2, x3, x4, x5, x6⟩) rfl rfl (Enc.Row.box1 (Box.new w2 27 #[.int .i64 x1, .int .i64 x2, .int .i64 x3, .int .i64 x4, .int .i64 x5, .int .i64 x6]) rfl) (CelE.one _) (by unfold maxLen; omega) (by omega) (by have := hB2.size; simp; omega) ?_)
          intro A8 c8 w8 hown8 hgr8
          have hB8 := (hB2.alloc hB2.size (.cells #[.int .i64 x1, .int .i64 x2, .int .i64 x3, .int .i64 x4, .int .i64 x5, .int .i64 x6] 27)).grown hgr8 (by have := hB2.size; simp; omega) (fun k hk => (own2.lt k hk).1)
          rw [← CelE.vs_snoc, ← hun.out] at hown8
          have hlen := Lib.hid (show (unq (L.take (k + 1))).length = (unq (L.take k)).length + 1 by rw [hun.out]; simp)
          rw [← hlen.out] at hown8
          clear own2 hgr8 hB2 e0 e1 e2 e3 e4 e5
          go_wp2
          go_roundw
          case rel => exact ⟨k + 1, A8, c8, by omega, by rw [hlen.out], by go_num, hown8, hB8⟩
          case measure => simp [intOf]; omega
      · obtain rfl : k = L.length := by omega
        rewrite [List.take_length] at hown ⊢
        have hcap2 := own_cap hown
        have hown2 := own_base (base' := w.heap.size) hown hb.size
        have hB2 := hb.trans (hB.mono hb.size)
        go_wp2
        go_ret
        exact ⟨A', c', rfl, hcap2.1, hcap2.2, hown2, hB2⟩
  · rw [hrt] at x1 k1
    clear x1lt
    have l1 := x1.lt
    have hL : Hid (L = (r.plus ++ r.minus) ++ [r.sc]) := by show _ = _; rw [hAL.out, hrt]; simp
    have hN4 : N ≤ 120 := by have := hN.out; rw [List.length_append] at this; omega
    go_wp2_with (at_builtin; refine wpList_append_rowN rfl _ _ 25 rfl w.heap.size 27 i0 _ 6 48 Try.underlying25 hi hz0 hz1 hz2 rfl (by decide) _ N (CelE.vs (r.plus ++ r.minus)) rfl (hown9.alloc _) (some ⟨w9.heap.size, 0, none⟩) 1 1 (CelE.v r.sc) rfl rfl (Enc.Row.box1 (Box.new w9 27 #[.int .i64 r.sc.r, .int .i64 r.sc.e, .int .i64 r.sc.a, .int .i64 r.sc.p, .int .i64 r.sc.c, .int .i64 r.sc.q]) rfl) (CelE.one _) (by unfold maxLen; omega) (by omega) (by have := hb.size; simp; omega) ?_)
    intro A5 c5 W5 own5 hgr5
    have hb5 := (hb.alloc hb.size (.cells #[.int .i64 r.sc.r, .int .i64 r.sc.e, .int .i64 r.sc.a, .int .i64 r.sc.p, .int .i64 r.sc.c, .int .i64 r.sc.q] 27)).grown hgr5 (by have := hb.size; simp; omega) (fun k hk => (hown9.lt k hk).1)
    have hN3 : N + 1 = L.length := by rw [hL.out, hN.out]; simp; omega
    rw [← CelE.vs_snoc, ← hL.out, hN3] at own5
    rewrite [hN3]
    clear hown9 hgr5 hb hN3 hN x1 k1 l1
    have R := Lib.hid (Enc.Row.of_own (E := CelE) own5)
    clear own5 hL hAL
    go_wp2
    go_loopw [4, 5] (fun o i wr => ∃ (k : Nat) (A' : Option Addr) (c' : Nat), k ≤ L.length ∧ o = .slice A' (unq (L.take k)).length c' ∧ i = .int .i64 k ∧ wr.ownsRow W5.heap.size 27 6 (.slice A' (unq (L.take k)).length c') (unq (L.take k)).length (CelE.vs (unq (L.take k))) ∧ Below W5.heap.size W5 wr) (fun _ i _ => L.length - (intOf i).toNat)
    case atStart => exact ⟨0, none, 0, by omega, rfl, rfl, World.ownsRow_nil _ _ _ _, Below.refl _ _⟩
    case round =>
      obtain ⟨k, A', c', hk, rfl, rfl, hown, hB⟩ := hrel
      by_cases hkn : k < L.length
      · obtain ⟨b0, off, rfl, hg, hc⟩ := (R.out.below hB (Nat.le_refl _)).get (by omega)
        have d0 := hc k hkn 0 _ rfl
        have d1 := hc k hkn 1 _ rfl
        have d2 := hc k hkn 2 _ rfl
        have d3 := hc k hkn 3 _ rfl
        have d4 := hc k hkn 4 _ rfl
        have d5 := hc k hkn 5 _ rfl
        clear hc
        have hul := unq_len (L.take k)
        rw [List.length_take] at hul
        have hstep : Hid (unq (L.take (k + 1)) = unqS (unq (L.take k)) L[k]) := by show _ = _; rw [List.take_succ_eq_append_getElem hkn, unq_snoc]
        have HA := chas_any (c := c') L[k] (by omega) (Enc.Row.of_own (E := CelE) hown)
        unfold unqS at hstep
        generalize L[k] = x at *
        obtain ⟨x1, x2, x3, x4, x5, x6⟩ := x
        dsimp only at d0 d1 d2 d3 d4 d5
        rw [show CelE.n = 6 from rfl, Nat.add_zero] at d0
        rw [show CelE.n = 6 from rfl, ← Nat.add_assoc] at d1 d2 d3 d4 d5
        unfold cv at HA
        dsimp only at HA
        by_cases hm : (⟨x1, x2, x3, x4, x5, x6⟩ : Cel) ∈ unq (L.take k)
        · rw [decide_eq_true hm] at HA
          replace HA := Lib.hid HA
          have hun : Hid (unq (L.take (k + 1)) = unq (L.take k)) := by show _ = _; rw [hstep.out, if_pos hm]
          clear hstep hm
          go_wp2_with fail
          refine HA.out.mono ?_
          rintro e w2 ⟨rfl, b2⟩
          have own2 := own_below hown b2 (Nat.le_refl _)
          have hB2 := hB.trans (b2.mono hB.size)
          clear b2 hown hB HA
          rewrite [← hun.out] at own2 ⊢
          go_wp2
          go_roundw
          case rel => exact ⟨k + 1, A', c', by omega, rfl, by go_num, own2, hB2⟩
          case measure => simp [intOf]; omega
        · rw [decide_eq_false hm] at HA
          replace HA := Lib.hid HA
          have hun : Hid (unq (L.take (k + 1)) = unq (L.take k) ++ [⟨x1, x2, x3, x4, x5, x6⟩]) := by show _ = _; rw [hstep.out, if_neg hm]
          clear hstep hm
          go_wp2_with fail
          refine HA.out.mono ?_
          rintro e w2 ⟨rfl, b2⟩
          have own2 := own_below hown b2 (Nat.le_refl _)
          have hB2 := hB.trans (b2.mono hB.size)
          have e0 := (b2.cell (p := ⟨b0, off + k * 6, none⟩) hg).trans d0
          have e1 := (b2.cell (p := ⟨b0, off + k * 6 + 1, none⟩) hg).trans d1
          have e2 := (b2.cell (p := ⟨b0, off + k * 6 + 2, none⟩) hg).trans d2
          have e3 := (b2.cell (p := ⟨b0, off + k * 6 + 3, none⟩) hg).trans d3
          have e4 := (b2.cell (p := ⟨b0, off + k * 6 + 4, none⟩) hg).trans d4
          have e5 := (b2.cell (p := ⟨b0, off + k * 6 + 5, none⟩) hg).trans d5
          clear b2 hown hB HA d0 d1 d2 d3 d4 d5
          go_wp2_with (at_builtin; refine wpList_append_rowN rfl _ _ 25 rfl W5.heap.size 27 i0 _ 6 48 Try.underlying25 hi hz0 hz1 hz2 rfl (by decide) _ (unq (L.take k)).length (CelE.vs (unq (L.take k))) rfl (own2.alloc _) (some ⟨w2.heap.size, 0, none⟩) 1 1 (CelE.v ⟨x1, x2, x3, x4, x5, x6⟩) rfl rfl (Enc.Row.box1 (Box.new w2 27 #[.int .i64 x1, .int .i64 x2, .int .i64 x3, .int .i64 x4, .int .i64 x5, .int .i64 x6]) rfl) (CelE.one _) (by unfold maxLen; omega) (by omega) (by have := hB2.size; simp; omega) ?_)
          intro A8 c8 w8 hown8 hgr8
          have hB8 := (hB2.alloc hB2.size (.cells #[.int .i64 x1, .int .i64 x2, .int .i64 x3, .int .i64 x4, .int .i64 x5, .int .i64 x6] 27)).grown hgr8 (by have := hB2.size; simp; omega) (fun k hk => (own2.lt k hk).1)
          rw [← CelE.vs_snoc, ← hun.out] at hown8
          have hlen := Lib.hid (show (unq (L.take (k + 1))).length = (unq (L.take k)).length + 1 by rw [hun.out]; simp)
          rw [← hlen.out] at hown8
          clear own2 hgr8 hB2 e0 e1 e2 e3 e4 e5
          go_wp2
          go_roundw
          case rel => exact ⟨k + 1, A8, c8, by omega, by rw [hlen.out], by go_num, hown8, hB8⟩
          case measure => simp [intOf]; omega
      · obtain rfl : k = L.length := by omega
        rewrite [List.take_length] at hown ⊢
        have hcap2 := own_cap hown
        have hown2 := own_base (base' := w.heap.size) hown hb5.size
        have hB2 := hb5.trans (hB.mono hb5.size)
        go_wp2
        go_ret
        exact ⟨A', c', rfl, hcap2.1, hcap2.2, hown2, hB2⟩
end
end Go.Proofs.Ytioecjoddgpjbaa
