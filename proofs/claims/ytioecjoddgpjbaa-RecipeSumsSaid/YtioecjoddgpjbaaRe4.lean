/-
  recipe: what a recipe reads.
-/
import Derived.Test.YtioecjoddgpjbaaRe3
namespace Go.Proofs.Ytioecjoddgpjbaa
open Go.RowKit Go.Maps

/-- A recipe whose numbers are ints, with few cells. -/
structure WfR (r : Rcp) : Prop where
  plus : ∀ x ∈ r.plus, WfC x
  minus : ∀ x ∈ r.minus, WfC x
  sc : WfC r.sc
  lp : r.plus.length ≤ 60
  lm : r.minus.length ≤ 60
theorem WfR.all {r : Rcp} (h : WfR r) : ∀ x ∈ allC r, WfC x := fun x hx => by
  unfold allC at hx
  rcases List.mem_append.1 hx with hx | hx
  · rcases List.mem_append.1 hx with hx | hx
    · exact h.plus x hx
    · exact h.minus x hx
  · split at hx
    · rw [List.mem_singleton.1 hx]; exact h.sc
    · simp at hx
theorem WfR.len {r : Rcp} (h : WfR r) : (allC r).length ≤ 121 := by
  unfold allC
  have := h.lp
  have := h.lm
  rw [List.length_append, List.length_append]
  split <;> simp <;> omega
theorem Enc.Row.box1 {α : Type} {E : Enc α} {w : World} {g t : Nat} {x : α} {cs : Array Value} (h : Box w g t cs) (hc : cs.toList = E.v x) : RowAt w (some ⟨g, 0, none⟩) (E.v x) := by
  have := Enc.Row.box h hc
  unfold Enc.Row at this
  rwa [E.vs_one] at this
section
variable {A1 A2 : Option Addr} {c1 c2 : Nat} {r : Rcp} {w : World}
set_option maxHeartbeats 1000000 in
theorem rated_any (w : World) : Calls Try.prog 24 #[.agg #[.int .i64 r.base.n, .int .i64 r.base.e, .slice A1 r.plus.length c1, .slice A2 r.minus.length c2, .int .i64 r.sc.r, .int .i64 r.sc.e, .int .i64 r.sc.a, .int .i64 r.sc.p, .int .i64 r.sc.c, .int .i64 r.sc.q, .bool r.rt, .int .i64 r.num, .int .i64 r.den, .bool r.has]] w fun e w' => e = .returned (.bool r.rt) ∧ Below w.heap.size w w' := by
  have hb : Below w.heap.size w (w.alloc (.cells #[.int .i64 r.base.n, .int .i64 r.base.e, .slice A1 r.plus.length c1, .slice A2 r.minus.length c2, .int .i64 r.sc.r, .int .i64 r.sc.e, .int .i64 r.sc.a, .int .i64 r.sc.p, .int .i64 r.sc.c, .int .i64 r.sc.q, .bool r.rt, .int .i64 r.num, .int .i64 r.den, .bool r.has] 40)) := (Below.refl _ _).alloc (Nat.le_refl _) _
  go_enter Try.func24, Try.ntmps24
  go_wp2
  go_ret
  exact ⟨rfl, hb⟩
set_option maxRecDepth 100000 in
set_option maxHeartbeats 4000000 in
/-- One cell is counted. -/
theorem reads_any (hwf : WfR r) (hr1 : CelE.Row w A1 r.plus) (hr2 : CelE.Row w A2 r.minus) : Calls Try.prog 9 #[.agg #[.int .i64 r.base.n, .int .i64 r.base.e, .slice A1 r.plus.length c1, .slice A2 r.minus.length c2, .int .i64 r.sc.r, .int .i64 r.sc.e, .int .i64 r.sc.a, .int .i64 r.sc.p, .int .i64 r.sc.c, .int .i64 r.sc.q, .bool r.rt, .int .i64 r.num, .int .i64 r.den, .bool r.has]] w (NewOf CelE 27 (readsR r) w) := by
  obtain ⟨i0, hi, hz0, hz1, hz2⟩ := info_parts Try.infoCel
  have hmm := @run_makeMap Try.prog
  have RT := Lib.hid fun (w : World) => rated_any (A1 := A1) (A2 := A2) (c1 := c1) (c2 := c2) (r := r) w
  have hb0 : Below w.heap.size w (w.alloc (.cells #[.int .i64 r.base.n, .int .i64 r.base.e, .slice A1 r.plus.length c1, .slice A2 r.minus.length c2, .int .i64 r.sc.r, .int .i64 r.sc.e, .int .i64 r.sc.a, .int .i64 r.sc.p, .int .i64 r.sc.c, .int .i64 r.sc.q, .bool r.rt, .int .i64 r.num, .int .i64 r.den, .bool r.has] 40)) := (Below.refl _ _).alloc (Nat.le_refl _) _
  have hb1 := hb0.alloc hb0.size (.cells #[.slice A1 r.plus.length c1, .slice A2 r.minus.length c2] 25)
  have x1 := Box.new w 40 #[.int .i64 r.base.n, .int .i64 r.base.e, .slice A1 r.plus.length c1, .slice A2 r.minus.length c2, .int .i64 r.sc.r, .int .i64 r.sc.e, .int .i64 r.sc.a, .int .i64 r.sc.p, .int .i64 r.sc.c, .int .i64 r.sc.q, .bool r.rt, .int .i64 r.num, .int .i64 r.den, .bool r.has]
  have CC := Lib.hid (concat_any (c1 := c1) (c2 := c2) (g := w.heap.size + 1) (w := (w.alloc (.cells #[.int .i64 r.base.n, .int .i64 r.base.e, .slice A1 r.plus.length c1, .slice A2 r.minus.length c2, .int .i64 r.sc.r, .int .i64 r.sc.e, .int .i64 r.sc.a, .int .i64 r.sc.p, .int .i64 r.sc.c, .int .i64 r.sc.q, .bool r.rt, .int .i64 r.num, .int .i64 r.den, .bool r.has] 40)).alloc (.cells #[.slice A1 r.plus.length c1, .slice A2 r.minus.length c2] 25)) (by have := hwf.lp; omega) (by have := hwf.lm; omega) (Box.new' (by simp)) (hr1.below hb1 (Nat.le_refl _)) (hr2.below hb1 (Nat.le_refl _)))
  obtain ⟨L, hL0⟩ : ∃ L, L = allC r := ⟨_, rfl⟩
  have hAL : Hid (L = (r.plus ++ r.minus) ++ if r.rt = true then [r.sc] else []) := hL0
  have hALn := hwf.len
  have hALw := hwf.all
  rw [show readsR r = unq (allC r) from rfl]
  rw [← hL0] at hALn hALw ⊢
  clear hL0
  replace hALw := Lib.hid hALw
  have hlpm : (r.plus ++ r.minus).length ≤ 120 := by have := hwf.lp; have := hwf.lm; rw [List.length_append]; omega
  clear hr1 hr2
  go_enter Try.func9, Try.ntmps9
  go_wp2_with fail
  refine CC.out.mono ?_
  rintro e W2 ⟨A3, c3, he, _, _, own3, b3⟩
  obtain ⟨N, hN⟩ : ∃ N, N = (r.plus ++ r.minus).length := ⟨_, rfl⟩
  rw [← hN] at he own3 hlpm
  subst he
  replace hN := Lib.hid hN
  have x1 := (x1.alloc (.cells #[.slice A1 r.plus.length c1, .slice A2 r.minus.length c2] 25)).later b3
  have hb := hb1.trans (b3.mono hb1.size)
  have own3 := own_base (base' := w.heap.size) own3 (by simp; omega)
  have k1 := x1.cells
  have l1 := x1.lt
  clear b3 hb0 hb1 CC
  go_wp2_with fail
  refine (RT.out _).mono ?_
  rintro e W3 ⟨rfl, b3⟩
  have x1 := x1.later b3
  have hb := hb.trans (b3.mono hb.size)
  have own3 := own_below own3 b3 (Nat.le_refl _)
  have k1 := x1.cells
  have l1 := x1.lt
  clear b3 RT
  cases hrt : r.rt
  · rw [hrt] at x1 k1
    have hL : Hid (L = r.plus ++ r.minus) := by show _ = _; rw [hAL.out, hrt]; simp
    have hN2 := hN.out
    rw [← hL.out] at own3 hN2
    clear hN
    subst hN2
    have R := Lib.hid (Enc.Row.of_own (E := CelE) own3)
    have hcap := own_cap own3
    clear x1 own3 hL hAL
    have hB4 : Below W3.heap.size W3 (W3.alloc (.map #[] 0)) := (Below.refl _ _).alloc (Nat.le_refl _) _
    have hM0 := CntM.made W3
    go_wp2
    go_loopw [5, 25] (fun o i wr => ∃ (k : Nat) (A' : Option Addr) (c' : Nat), k ≤ L.length ∧ o = .slice A' (unq (L.take k)).length c' ∧ i = .int .i64 k ∧ wr.ownsRow W3.heap.size 27 6 (.slice A' (unq (L.take k)).length c') (unq (L.take k)).length (CelE.vs (unq (L.take k))) ∧ CntM wr W3.heap.size (L.take k) ∧ Below W3.heap.size W3 wr) (fun _ i _ => L.length - (intOf i).toNat)
    case atStart => exact ⟨0, none, 0, by omega, rfl, rfl, World.ownsRow_nil _ _ _ _, hM0, hB4⟩
    case round =>
      clear hM0 hB4
      obtain ⟨k, A', c', hk, rfl, rfl, hown, hM, hB⟩ := hrel
      by_cases hkn : k < L.length
      · obtain ⟨b0, off, rfl, hg, hc⟩ := (R.out.below hB (Nat.le_refl _)).get (by omega)
        have d0 := hc k hkn 0 _ rfl
        have d1 := hc k hkn 1 _ rfl
        have d2 := hc k hkn 2 _ rfl
        have d3 := hc k hkn 3 _ rfl
        have d4 := hc k hkn 4 _ rfl
        have d5 := hc k hkn 5 _ rfl
        have hxw := hALw.out L[k] (List.getElem_mem hkn)
        clear hc
        generalize hx : L[k] = x at *
        replace hx := Lib.hid hx
        obtain ⟨x1, x2, x3, x4, x5, x6⟩ := x
        dsimp only at d0 d1 d2 d3 d4 d5
        rw [show CelE.n = 6 from rfl, Nat.add_zero] at d0
        rw [show CelE.n = 6 from rfl, ← Nat.add_assoc] at d1 d2 d3 d4 d5
        obtain ⟨q, hq⟩ : ∃ q : Nat, (L.take k).count ⟨x1, x2, x3, x4, x5, x6⟩ = q := ⟨_, rfl⟩
        have hql : q ≤ 121 := by
          rw [← hq]
          have h1 := List.count_le_length (a := (⟨x1, x2, x3, x4, x5, x6⟩ : Cel)) (l := L.take k)
          rw [List.length_take] at h1
          omega
        have hcq := Lib.hid hq
        have hcq1 : Hid ((L.take k ++ [(⟨x1, x2, x3, x4, x5, x6⟩ : Cel)]).count ⟨x1, x2, x3, x4, x5, x6⟩ = q + 1) := by show _ = _; rw [List.count_append, hcq.out]; simp
        have hstep : Hid (L.take (k + 1) = L.take k ++ [(⟨x1, x2, x3, x4, x5, x6⟩ : Cel)]) := by show _ = _; rw [List.take_succ_eq_append_getElem hkn, hx.out]
        clear hq hx
        have hMlt := hM.lt
        have x7 := (Box.new wr 27 #[.int .i64 x1, .int .i64 x2, .int .i64 x3, .int .i64 x4, .int .i64 x5, .int .i64 x6]).drew
        have hM7 := (hM.alloc (.cells #[.int .i64 x1, .int .i64 x2, .int .i64 x3, .int .i64 x4, .int .i64 x5, .int .i64 x6] 27)).drew
        have own7 : (wr.alloc (.cells #[.int .i64 x1, .int .i64 x2, .int .i64 x3, .int .i64 x4, .int .i64 x5, .int .i64 x6] 27)).drew.ownsRow W3.heap.size 27 6 (.slice A' (unq (L.take k)).length c') (unq (L.take k)).length (CelE.vs (unq (L.take k))) := hown.alloc _
        have hB7 := below_drewN (hB.alloc hB.size (.cells #[.int .i64 x1, .int .i64 x2, .int .i64 x3, .int .i64 x4, .int .i64 x5, .int .i64 x6] 27)) 1
        obtain ⟨v0, st, w5, w6, r1, g5, r3, r4, hM6, g6⟩ := hM7.plus hxw
        have LK := hM7.look hxw
        rw [hcq.out] at LK r3 r4
        unfold cv at LK r1 r3
        dsimp only at LK r1 r3
        rw [show goInt (st : Int) = .int .i64 (st : Int) from rfl] at r1 r4
        have hwk : IntKind.i64.wrap ((q : Int) + 1) = (q : Int) + 1 := (Go.IntWalk.i64_left _).trans (Go.IntWalk.wrap64_in _ (by omega))
        have k7 := x7.cells
        clear hown hM
        go_upto_region 9 with fail
        refine wp_region_noPanic ?_
        refine wp_region_held_drew (S := (fun w' => w'.cell? ⟨wr.heap.size, 0, none⟩ = some (.int .i64 x1) ∧ w'.cell? ⟨wr.heap.size, 1, none⟩ = some (.int .i64 x2) ∧ w'.cell? ⟨wr.heap.size, 2, none⟩ = some (.int .i64 x3) ∧ w'.cell? ⟨wr.heap.size, 3, none⟩ = some (.int .i64 x4) ∧ w'.cell? ⟨wr.heap.size, 4, none⟩ = some (.int .i64 x5) ∧ w'.cell? ⟨wr.heap.size, 5, none⟩ = some (.int .i64 x6))) (by kernel_rfl) ?_ (fun hHeld => ?_)
        · go_keep
        refine wpAnyH_take (i := 0) (v := ?vw31) rfl (by kernel_rfl) (by kernel_rfl) (by kernel_rfl) (fun _ _ _ h => h) (Or.inl ⟨by kernel_rfl, ?hyw31⟩) (by assumption) ?restw31
        case hyw31 => (intro w hSw; (try dsimp only at hSw); go_simp; (try with_reducible rfl))
        go_simp
        refine wpAnyH_take (i := 1) (v := ?vw32) rfl (by kernel_rfl) (by kernel_rfl) (by kernel_rfl) (fun _ _ _ h => h) (Or.inl ⟨by kernel_rfl, ?hyw32⟩) (by assumption) ?restw32
        case hyw32 => (intro w hSw; (try dsimp only at hSw); go_simp; (try with_reducible rfl))
        go_simp
        refine wpAnyH_ready (rs := [2, 4]) (by kernel_rfl) (by simp) ?_
        refine AllReadyH.cons rfl (fun K hK => ?_) (AllReadyH.cons rfl (fun K hK => ?_) AllReadyH.nil)
        · rw [if_pos (by kernel_rfl)]
          go_simp
          have k7 := x7.cells
          refine hK.out _ _ (by go_keep) (fun hHeld => ?_)
          clear hK K
          go_simp
          refine wpAnyH_take (i := 3) (v := ?vw33) rfl (by kernel_rfl) (by kernel_rfl) (by kernel_rfl) (fun _ _ _ h => h) (Or.inl ⟨by kernel_rfl, ?hyw33⟩) (by assumption) ?restw33
          case hyw33 => (intro w hSw; (try dsimp only at hSw); go_simp; (try with_reducible rfl))
          go_simp
          refine wpAnyH_ready (rs := [4]) (by kernel_rfl) (by simp) ?_
          refine AllReadyH.cons rfl (fun K hK => ?_) AllReadyH.nil
          rw [if_pos (by kernel_rfl)]
          go_simp
          have x7 := x7.grown g5 (fun he => by injection he with he; omega)
          have k7 := x7.cells
          refine hK.out _ _ (by go_keep) (fun hHeld => ?_)
          clear hK K
          go_simp
          refine wpAnyH_take (i := 5) (v := ?vw34) rfl (by kernel_rfl) (by kernel_rfl) (by kernel_rfl) (fun _ _ _ h => h) (Or.inl ⟨by kernel_rfl, ?hyw34⟩) (by assumption) ?restw34
          case hyw34 => (intro w hSw; (try dsimp only at hSw); go_simp; (try with_reducible rfl))
          go_simp
          refine wpAnyH_ready (rs := [6]) (by kernel_rfl) (by simp) ?_
          refine AllReadyH.cons rfl (fun K hK => ?_) AllReadyH.nil
          rw [if_pos (by kernel_rfl)]
          go_simp
          have x7 := x7.grown g6 (fun he => by injection he with he; omega)
          have k7 := x7.cells
          refine hK.out _ _ (by go_keep) (fun hHeld => ?_)
          clear hK K
          go_simp
          refine wpAnyH_done (by kernel_rfl) ?_ _
          refine NoPanic.normal ?_
          clear r1 r3 r4 LK
          have own6 := (own7.kept g5 (.inr (hM7.own own7).symm))
          have M5ne := (hM7.own own7).symm
          have own6 := own6.kept g6 (.inr M5ne)
          have hB6 := (hB7.grown g5 hB7.size (fun k hk => by injection hk with hk; omega))
          have hB6 := hB6.grown g6 hB6.size (fun k hk => by injection hk with hk; omega)
          clear hM7 own7 g5 g6 M5ne hB7
          have k7 := x7.cells
          have l7 := x7.lt
          have LK := hM6.look hxw
          rw [hcq1.out] at LK
          unfold cv at LK
          dsimp only at LK
          rcases Nat.eq_zero_or_pos q with rfl | hq
          · have hun : Hid (unq (L.take (k + 1)) = unq (L.take k) ++ [⟨x1, x2, x3, x4, x5, x6⟩]) := by
              show _ = _
              rw [hstep.out, unq_snoc]
              unfold unqS
              rw [if_neg (by rw [mem_unq]; exact List.count_eq_zero.1 hcq.out)]
            have hul := unq_len (L.take k)
            rw [List.length_take] at hul
            go_wp2_with (at_builtin; refine wpList_append_rowN rfl _ _ 25 rfl W3.heap.size 27 i0 _ 6 48 Try.underlying25 hi hz0 hz1 hz2 rfl (by decide) _ (unq (L.take k)).length (CelE.vs (unq (L.take k))) rfl (own6.alloc _) (some ⟨w6.heap.size, 0, none⟩) 1 1 (CelE.v ⟨x1, x2, x3, x4, x5, x6⟩) rfl rfl (Enc.Row.box1 (Box.new w6 27 #[.int .i64 x1, .int .i64 x2, .int .i64 x3, .int .i64 x4, .int .i64 x5, .int .i64 x6]) rfl) (CelE.one _) (by unfold maxLen; omega) (by omega) (by have := hB6.size; simp; omega) ?_)
            intro A8 c8 w8 hown8 hgr8
            have hM7 := hM6.alloc (.cells #[.int .i64 x1, .int .i64 x2, .int .i64 x3, .int .i64 x4, .int .i64 x5, .int .i64 x6] 27)
            have hM8 := hM7.at (hgr8.block _ hM7.lt (hM7.own (own6.alloc (.cells #[.int .i64 x1, .int .i64 x2, .int .i64 x3, .int .i64 x4, .int .i64 x5, .int .i64 x6] 27))))
            clear hM7
            have hB8 := (hB6.alloc hB6.size (.cells #[.int .i64 x1, .int .i64 x2, .int .i64 x3, .int .i64 x4, .int .i64 x5, .int .i64 x6] 27)).grown hgr8 (by have := hB6.size; simp; omega) (fun k hk => (own6.lt k hk).1)
            rw [← CelE.vs_snoc, ← hun.out] at hown8
            have hlen := Lib.hid (show (unq (L.take (k + 1))).length = (unq (L.take k)).length + 1 by rw [hun.out]; simp)
            rw [← hlen.out] at hown8
            rw [← hstep.out] at hM8
            clear own6 hgr8 hM6 hB6 x7 k7 l7
            go_wp2
            go_roundw
            case rel => exact ⟨k + 1, A8, c8, by omega, by rw [hlen.out], by go_num, hown8, hM8, hB8⟩
            case measure => simp [intOf]; omega
          · have hun : Hid (unq (L.take (k + 1)) = unq (L.take k)) := by
              show _ = _
              rw [hstep.out, unq_snoc]
              unfold unqS
              rw [if_pos (by rw [mem_unq]; exact List.count_pos_iff.1 (by rw [hcq.out]; exact hq))]
            have hq1 : ((q : Int) + 1 == 1) = false := by simp; omega
            rw [← hun.out] at own6 ⊢
            rw [← hstep.out] at hM6
            clear x7 k7 l7
            go_wp2
            go_roundw
            case rel => exact ⟨k + 1, A', c', by omega, rfl, by go_num, own6, hM6, hB6⟩
            case measure => simp [intOf]; omega
        · rw [if_pos (by kernel_rfl)]
          go_simp
          have x7 := x7.grown g5 (fun he => by injection he with he; omega)
          have k7 := x7.cells
          refine hK.out _ _ (by go_keep) (fun hHeld => ?_)
          clear hK K
          go_simp
          refine wpAnyH_take (i := 5) (v := ?vw35) rfl (by kernel_rfl) (by kernel_rfl) (by kernel_rfl) (fun _ _ _ h => h) (Or.inl ⟨by kernel_rfl, ?hyw35⟩) (by assumption) ?restw35
          case hyw35 => (intro w hSw; (try dsimp only at hSw); go_simp; (try with_reducible rfl))
          go_simp
          refine wpAnyH_ready (rs := [2]) (by kernel_rfl) (by simp) ?_
          refine AllReadyH.cons rfl (fun K hK => ?_) AllReadyH.nil
          rw [if_pos (by kernel_rfl)]
          go_simp
          have k7 := x7.cells
          refine hK.out _ _ (by go_keep) (fun hHeld => ?_)
          clear hK K
          go_simp
          refine wpAnyH_take (i := 3) (v := ?vw36) rfl (by kernel_rfl) (by kernel_rfl) (by kernel_rfl) (fun _ _ _ h => h) (Or.inl ⟨by kernel_rfl, ?hyw36⟩) (by assumption) ?restw36
          case hyw36 => (intro w hSw; (try dsimp only at hSw); go_simp; (try with_reducible rfl))
          go_simp
          refine wpAnyH_ready (rs := [6]) (by kernel_rfl) (by simp) ?_
          refine AllReadyH.cons rfl (fun K hK => ?_) AllReadyH.nil
          rw [if_pos (by kernel_rfl)]
          go_simp
          have x7 := x7.grown g6 (fun he => by injection he with he; omega)
          have k7 := x7.cells
          refine hK.out _ _ (by go_keep) (fun hHeld => ?_)
          clear hK K
          go_simp
          refine wpAnyH_done (by kernel_rfl) ?_ _
          refine NoPanic.normal ?_
          clear r1 r3 r4 LK
          have own6 := (own7.kept g5 (.inr (hM7.own own7).symm))
          have M5ne := (hM7.own own7).symm
          have own6 := own6.kept g6 (.inr M5ne)
          have hB6 := (hB7.grown g5 hB7.size (fun k hk => by injection hk with hk; omega))
          have hB6 := hB6.grown g6 hB6.size (fun k hk => by injection hk with hk; omega)
          clear hM7 own7 g5 g6 M5ne hB7
          have k7 := x7.cells
          have l7 := x7.lt
          have LK := hM6.look hxw
          rw [hcq1.out] at LK
          unfold cv at LK
          dsimp only at LK
          rcases Nat.eq_zero_or_pos q with rfl | hq
          · have hun : Hid (unq (L.take (k + 1)) = unq (L.take k) ++ [⟨x1, x2, x3, x4, x5, x6⟩]) := by
              show _ = _
              rw [hstep.out, unq_snoc]
              unfold unqS
              rw [if_neg (by rw [mem_unq]; exact List.count_eq_zero.1 hcq.out)]
            have hul := unq_len (L.take k)
            rw [List.length_take] at hul
            go_wp2_with (at_builtin; refine wpList_append_rowN rfl _ _ 25 rfl W3.heap.size 27 i0 _ 6 48 Try.underlying25 hi hz0 hz1 hz2 rfl (by decide) _ (unq (L.take k)).length (CelE.vs (unq (L.take k))) rfl (own6.alloc _) (some ⟨w6.heap.size, 0, none⟩) 1 1 (CelE.v ⟨x1, x2, x3, x4, x5, x6⟩) rfl rfl (Enc.Row.box1 (Box.new w6 27 #[.int .i64 x1, .int .i64 x2, .int .i64 x3, .int .i64 x4, .int .i64 x5, .int .i64 x6]) rfl) (CelE.one _) (by unfold maxLen; omega) (by omega) (by have := hB6.size; simp; omega) ?_)
            intro A8 c8 w8 hown8 hgr8
            have hM7 := hM6.alloc (.cells #[.int .i64 x1, .int .i64 x2, .int .i64 x3, .int .i64 x4, .int .i64 x5, .int .i64 x6] 27)
            have hM8 := hM7.at (hgr8.block _ hM7.lt (hM7.own (own6.alloc (.cells #[.int .i64 x1, .int .i64 x2, .int .i64 x3, .int .i64 x4, .int .i64 x5, .int .i64 x6] 27))))
            clear hM7
            have hB8 := (hB6.alloc hB6.size (.cells #[.int .i64 x1, .int .i64 x2, .int .i64 x3, .int .i64 x4, .int .i64 x5, .int .i64 x6] 27)).grown hgr8 (by have := hB6.size; simp; omega) (fun k hk => (own6.lt k hk).1)
            rw [← CelE.vs_snoc, ← hun.out] at hown8
            have hlen := Lib.hid (show (unq (L.take (k + 1))).length = (unq (L.take k)).length + 1 by rw [hun.out]; simp)
            rw [← hlen.out] at hown8
            rw [← hstep.out] at hM8
            clear own6 hgr8 hM6 hB6 x7 k7 l7
            go_wp2
            go_roundw
            case rel => exact ⟨k + 1, A8, c8, by omega, by rw [hlen.out], by go_num, hown8, hM8, hB8⟩
            case measure => simp [intOf]; omega
          · have hun : Hid (unq (L.take (k + 1)) = unq (L.take k)) := by
              show _ = _
              rw [hstep.out, unq_snoc]
              unfold unqS
              rw [if_pos (by rw [mem_unq]; exact List.count_pos_iff.1 (by rw [hcq.out]; exact hq))]
            have hq1 : ((q : Int) + 1 == 1) = false := by simp; omega
            rw [← hun.out] at own6 ⊢
            rw [← hstep.out] at hM6
            clear x7 k7 l7
            go_wp2
            go_roundw
            case rel => exact ⟨k + 1, A', c', by omega, rfl, by go_num, own6, hM6, hB6⟩
            case measure => simp [intOf]; omega
      · obtain rfl : k = L.length := by omega
        rw [List.take_length] at hown ⊢
        have hcap2 := own_cap hown
        have hown2 := own_base (base' := w.heap.size) hown hb.size
        have hB2 := hb.trans (hB.mono hb.size)
        go_wp2
        go_ret
        exact ⟨A', c', rfl, hcap2.1, hcap2.2, hown2, hB2⟩
  · rw [hrt] at x1 k1
    have hL : Hid (L = (r.plus ++ r.minus) ++ [r.sc]) := by show _ = _; rw [hAL.out, hrt]; simp
    go_wp2_with (at_builtin; refine wpList_append_rowN rfl _ _ 25 rfl w.heap.size 27 i0 _ 6 48 Try.underlying25 hi hz0 hz1 hz2 rfl (by decide) _ N (CelE.vs (r.plus ++ r.minus)) rfl (own3.alloc _) (some ⟨W3.heap.size, 0, none⟩) 1 1 (CelE.v r.sc) rfl rfl (Enc.Row.box1 (Box.new W3 27 #[.int .i64 r.sc.r, .int .i64 r.sc.e, .int .i64 r.sc.a, .int .i64 r.sc.p, .int .i64 r.sc.c, .int .i64 r.sc.q]) rfl) (CelE.one _) (by unfold maxLen; omega) (by omega) (by have := hb.size; simp; omega) ?_)
    intro A5 c5 W5 own5 hgr5
    have hb5 := (hb.alloc hb.size (.cells #[.int .i64 r.sc.r, .int .i64 r.sc.e, .int .i64 r.sc.a, .int .i64 r.sc.p, .int .i64 r.sc.c, .int .i64 r.sc.q] 27)).grown hgr5 (by have := hb.size; simp; omega) (fun k hk => (own3.lt k hk).1)
    have hN3 : N + 1 = L.length := by rw [hL.out, hN.out]; simp; omega
    rw [← CelE.vs_snoc, ← hL.out, hN3] at own5
    rw [hN3]
    clear own3 hgr5 hb hN3 hN
    have R := Lib.hid (Enc.Row.of_own (E := CelE) own5)
    have hcap := own_cap own5
    clear x1 own5 hL hAL
    have hB4 : Below W5.heap.size W5 (W5.alloc (.map #[] 0)) := (Below.refl _ _).alloc (Nat.le_refl _) _
    have hM0 := CntM.made W5
    go_wp2
    go_loopw [5, 25] (fun o i wr => ∃ (k : Nat) (A' : Option Addr) (c' : Nat), k ≤ L.length ∧ o = .slice A' (unq (L.take k)).length c' ∧ i = .int .i64 k ∧ wr.ownsRow W5.heap.size 27 6 (.slice A' (unq (L.take k)).length c') (unq (L.take k)).length (CelE.vs (unq (L.take k))) ∧ CntM wr W5.heap.size (L.take k) ∧ Below W5.heap.size W5 wr) (fun _ i _ => L.length - (intOf i).toNat)
    case atStart => exact ⟨0, none, 0, by omega, rfl, rfl, World.ownsRow_nil _ _ _ _, hM0, hB4⟩
    case round =>
      clear hM0 hB4
      obtain ⟨k, A', c', hk, rfl, rfl, hown, hM, hB⟩ := hrel
      by_cases hkn : k < L.length
      · obtain ⟨b0, off, rfl, hg, hc⟩ := (R.out.below hB (Nat.le_refl _)).get (by omega)
        have d0 := hc k hkn 0 _ rfl
        have d1 := hc k hkn 1 _ rfl
        have d2 := hc k hkn 2 _ rfl
        have d3 := hc k hkn 3 _ rfl
        have d4 := hc k hkn 4 _ rfl
        have d5 := hc k hkn 5 _ rfl
        have hxw := hALw.out L[k] (List.getElem_mem hkn)
        clear hc
        generalize hx : L[k] = x at *
        replace hx := Lib.hid hx
        obtain ⟨x1, x2, x3, x4, x5, x6⟩ := x
        dsimp only at d0 d1 d2 d3 d4 d5
        rw [show CelE.n = 6 from rfl, Nat.add_zero] at d0
        rw [show CelE.n = 6 from rfl, ← Nat.add_assoc] at d1 d2 d3 d4 d5
        obtain ⟨q, hq⟩ : ∃ q : Nat, (L.take k).count ⟨x1, x2, x3, x4, x5, x6⟩ = q := ⟨_, rfl⟩
        have hql : q ≤ 121 := by
          rw [← hq]
          have h1 := List.count_le_length (a := (⟨x1, x2, x3, x4, x5, x6⟩ : Cel)) (l := L.take k)
          rw [List.length_take] at h1
          omega
        have hcq := Lib.hid hq
        have hcq1 : Hid ((L.take k ++ [(⟨x1, x2, x3, x4, x5, x6⟩ : Cel)]).count ⟨x1, x2, x3, x4, x5, x6⟩ = q + 1) := by show _ = _; rw [List.count_append, hcq.out]; simp
        have hstep : Hid (L.take (k + 1) = L.take k ++ [(⟨x1, x2, x3, x4, x5, x6⟩ : Cel)]) := by show _ = _; rw [List.take_succ_eq_append_getElem hkn, hx.out]
        clear hq hx
        have hMlt := hM.lt
        have x7 := (Box.new wr 27 #[.int .i64 x1, .int .i64 x2, .int .i64 x3, .int .i64 x4, .int .i64 x5, .int .i64 x6]).drew
        have hM7 := (hM.alloc (.cells #[.int .i64 x1, .int .i64 x2, .int .i64 x3, .int .i64 x4, .int .i64 x5, .int .i64 x6] 27)).drew
        have own7 : (wr.alloc (.cells #[.int .i64 x1, .int .i64 x2, .int .i64 x3, .int .i64 x4, .int .i64 x5, .int .i64 x6] 27)).drew.ownsRow W5.heap.size 27 6 (.slice A' (unq (L.take k)).length c') (unq (L.take k)).length (CelE.vs (unq (L.take k))) := hown.alloc _
        have hB7 := below_drewN (hB.alloc hB.size (.cells #[.int .i64 x1, .int .i64 x2, .int .i64 x3, .int .i64 x4, .int .i64 x5, .int .i64 x6] 27)) 1
        obtain ⟨v0, st, w5, w6, r1, g5, r3, r4, hM6, g6⟩ := hM7.plus hxw
        have LK := hM7.look hxw
        rw [hcq.out] at LK r3 r4
        unfold cv at LK r1 r3
        dsimp only at LK r1 r3
        rw [show goInt (st : Int) = .int .i64 (st : Int) from rfl] at r1 r4
        have hwk : IntKind.i64.wrap ((q : Int) + 1) = (q : Int) + 1 := (Go.IntWalk.i64_left _).trans (Go.IntWalk.wrap64_in _ (by omega))
        have k7 := x7.cells
        clear hown hM
        go_upto_region 9 with fail
        refine wp_region_noPanic ?_
        refine wp_region_held_drew (S := (fun w' => w'.cell? ⟨wr.heap.size, 0, none⟩ = some (.int .i64 x1) ∧ w'.cell? ⟨wr.heap.size, 1, none⟩ = some (.int .i64 x2) ∧ w'.cell? ⟨wr.heap.size, 2, none⟩ = some (.int .i64 x3) ∧ w'.cell? ⟨wr.heap.size, 3, none⟩ = some (.int .i64 x4) ∧ w'.cell? ⟨wr.heap.size, 4, none⟩ = some (.int .i64 x5) ∧ w'.cell? ⟨wr.heap.size, 5, none⟩ = some (.int .i64 x6))) (by kernel_rfl) ?_ (fun hHeld => ?_)
        · go_keep
        refine wpAnyH_take (i := 0) (v := ?vw51) rfl (by kernel_rfl) (by kernel_rfl) (by kernel_rfl) (fun _ _ _ h => h) (Or.inl ⟨by kernel_rfl, ?hyw51⟩) (by assumption) ?restw51
        case hyw51 => (intro w hSw; (try dsimp only at hSw); go_simp; (try with_reducible rfl))
        go_simp
        refine wpAnyH_take (i := 1) (v := ?vw52) rfl (by kernel_rfl) (by kernel_rfl) (by kernel_rfl) (fun _ _ _ h => h) (Or.inl ⟨by kernel_rfl, ?hyw52⟩) (by assumption) ?restw52
        case hyw52 => (intro w hSw; (try dsimp only at hSw); go_simp; (try with_reducible rfl))
        go_simp
        refine wpAnyH_ready (rs := [2, 4]) (by kernel_rfl) (by simp) ?_
        refine AllReadyH.cons rfl (fun K hK => ?_) (AllReadyH.cons rfl (fun K hK => ?_) AllReadyH.nil)
        · rw [if_pos (by kernel_rfl)]
          go_simp
          have k7 := x7.cells
          refine hK.out _ _ (by go_keep) (fun hHeld => ?_)
          clear hK K
          go_simp
          refine wpAnyH_take (i := 3) (v := ?vw53) rfl (by kernel_rfl) (by kernel_rfl) (by kernel_rfl) (fun _ _ _ h => h) (Or.inl ⟨by kernel_rfl, ?hyw53⟩) (by assumption) ?restw53
          case hyw53 => (intro w hSw; (try dsimp only at hSw); go_simp; (try with_reducible rfl))
          go_simp
          refine wpAnyH_ready (rs := [4]) (by kernel_rfl) (by simp) ?_
          refine AllReadyH.cons rfl (fun K hK => ?_) AllReadyH.nil
          rw [if_pos (by kernel_rfl)]
          go_simp
          have x7 := x7.grown g5 (fun he => by injection he with he; omega)
          have k7 := x7.cells
          refine hK.out _ _ (by go_keep) (fun hHeld => ?_)
          clear hK K
          go_simp
          refine wpAnyH_take (i := 5) (v := ?vw54) rfl (by kernel_rfl) (by kernel_rfl) (by kernel_rfl) (fun _ _ _ h => h) (Or.inl ⟨by kernel_rfl, ?hyw54⟩) (by assumption) ?restw54
          case hyw54 => (intro w hSw; (try dsimp only at hSw); go_simp; (try with_reducible rfl))
          go_simp
          refine wpAnyH_ready (rs := [6]) (by kernel_rfl) (by simp) ?_
          refine AllReadyH.cons rfl (fun K hK => ?_) AllReadyH.nil
          rw [if_pos (by kernel_rfl)]
          go_simp
          have x7 := x7.grown g6 (fun he => by injection he with he; omega)
          have k7 := x7.cells
          refine hK.out _ _ (by go_keep) (fun hHeld => ?_)
          clear hK K
          go_simp
          refine wpAnyH_done (by kernel_rfl) ?_ _
          refine NoPanic.normal ?_
          clear r1 r3 r4 LK
          have own6 := (own7.kept g5 (.inr (hM7.own own7).symm))
          have M5ne := (hM7.own own7).symm
          have own6 := own6.kept g6 (.inr M5ne)
          have hB6 := (hB7.grown g5 hB7.size (fun k hk => by injection hk with hk; omega))
          have hB6 := hB6.grown g6 hB6.size (fun k hk => by injection hk with hk; omega)
          clear hM7 own7 g5 g6 M5ne hB7
          have k7 := x7.cells
          have l7 := x7.lt
          have LK := hM6.look hxw
          rw [hcq1.out] at LK
          unfold cv at LK
          dsimp only at LK
          rcases Nat.eq_zero_or_pos q with rfl | hq
          · have hun : Hid (unq (L.take (k + 1)) = unq (L.take k) ++ [⟨x1, x2, x3, x4, x5, x6⟩]) := by
              show _ = _
              rw [hstep.out, unq_snoc]
              unfold unqS
              rw [if_neg (by rw [mem_unq]; exact List.count_eq_zero.1 hcq.out)]
            have hul := unq_len (L.take k)
            rw [List.length_take] at hul
            go_wp2_with (at_builtin; refine wpList_append_rowN rfl _ _ 25 rfl W5.heap.size 27 i0 _ 6 48 Try.underlying25 hi hz0 hz1 hz2 rfl (by decide) _ (unq (L.take k)).length (CelE.vs (unq (L.take k))) rfl (own6.alloc _) (some ⟨w6.heap.size, 0, none⟩) 1 1 (CelE.v ⟨x1, x2, x3, x4, x5, x6⟩) rfl rfl (Enc.Row.box1 (Box.new w6 27 #[.int .i64 x1, .int .i64 x2, .int .i64 x3, .int .i64 x4, .int .i64 x5, .int .i64 x6]) rfl) (CelE.one _) (by unfold maxLen; omega) (by omega) (by have := hB6.size; simp; omega) ?_)
            intro A8 c8 w8 hown8 hgr8
            have hM7 := hM6.alloc (.cells #[.int .i64 x1, .int .i64 x2, .int .i64 x3, .int .i64 x4, .int .i64 x5, .int .i64 x6] 27)
            have hM8 := hM7.at (hgr8.block _ hM7.lt (hM7.own (own6.alloc (.cells #[.int .i64 x1, .int .i64 x2, .int .i64 x3, .int .i64 x4, .int .i64 x5, .int .i64 x6] 27))))
            clear hM7
            have hB8 := (hB6.alloc hB6.size (.cells #[.int .i64 x1, .int .i64 x2, .int .i64 x3, .int .i64 x4, .int .i64 x5, .int .i64 x6] 27)).grown hgr8 (by have := hB6.size; simp; omega) (fun k hk => (own6.lt k hk).1)
            rw [← CelE.vs_snoc, ← hun.out] at hown8
            have hlen := Lib.hid (show (unq (L.take (k + 1))).length = (unq (L.take k)).length + 1 by rw [hun.out]; simp)
            rw [← hlen.out] at hown8
            rw [← hstep.out] at hM8
            clear own6 hgr8 hM6 hB6 x7 k7 l7
            go_wp2
            go_roundw
            case rel => exact ⟨k + 1, A8, c8, by omega, by rw [hlen.out], by go_num, hown8, hM8, hB8⟩
            case measure => simp [intOf]; omega
          · have hun : Hid (unq (L.take (k + 1)) = unq (L.take k)) := by
              show _ = _
              rw [hstep.out, unq_snoc]
              unfold unqS
              rw [if_pos (by rw [mem_unq]; exact List.count_pos_iff.1 (by rw [hcq.out]; exact hq))]
            have hq1 : ((q : Int) + 1 == 1) = false := by simp; omega
            rw [← hun.out] at own6 ⊢
            rw [← hstep.out] at hM6
            clear x7 k7 l7
            go_wp2
            go_roundw
            case rel => exact ⟨k + 1, A', c', by omega, rfl, by go_num, own6, hM6, hB6⟩
            case measure => simp [intOf]; omega
        · rw [if_pos (by kernel_rfl)]
          go_simp
          have x7 := x7.grown g5 (fun he => by injection he with he; omega)
          have k7 := x7.cells
          refine hK.out _ _ (by go_keep) (fun hHeld => ?_)
          clear hK K
          go_simp
          refine wpAnyH_take (i := 5) (v := ?vw55) rfl (by kernel_rfl) (by kernel_rfl) (by kernel_rfl) (fun _ _ _ h => h) (Or.inl ⟨by kernel_rfl, ?hyw55⟩) (by assumption) ?restw55
          case hyw55 => (intro w hSw; (try dsimp only at hSw); go_simp; (try with_reducible rfl))
          go_simp
          refine wpAnyH_ready (rs := [2]) (by kernel_rfl) (by simp) ?_
          refine AllReadyH.cons rfl (fun K hK => ?_) AllReadyH.nil
          rw [if_pos (by kernel_rfl)]
          go_simp
          have k7 := x7.cells
          refine hK.out _ _ (by go_keep) (fun hHeld => ?_)
          clear hK K
          go_simp
          refine wpAnyH_take (i := 3) (v := ?vw56) rfl (by kernel_rfl) (by kernel_rfl) (by kernel_rfl) (fun _ _ _ h => h) (Or.inl ⟨by kernel_rfl, ?hyw56⟩) (by assumption) ?restw56
          case hyw56 => (intro w hSw; (try dsimp only at hSw); go_simp; (try with_reducible rfl))
          go_simp
          refine wpAnyH_ready (rs := [6]) (by kernel_rfl) (by simp) ?_
          refine AllReadyH.cons rfl (fun K hK => ?_) AllReadyH.nil
          rw [if_pos (by kernel_rfl)]
          go_simp
          have x7 := x7.grown g6 (fun he => by injection he with he; omega)
          have k7 := x7.cells
          refine hK.out _ _ (by go_keep) (fun hHeld => ?_)
          clear hK K
          go_simp
          refine wpAnyH_done (by kernel_rfl) ?_ _
          refine NoPanic.normal ?_
          clear r1 r3 r4 LK
          have own6 := (own7.kept g5 (.inr (hM7.own own7).symm))
          have M5ne := (hM7.own own7).symm
          have own6 := own6.kept g6 (.inr M5ne)
          have hB6 := (hB7.grown g5 hB7.size (fun k hk => by injection hk with hk; omega))
          have hB6 := hB6.grown g6 hB6.size (fun k hk => by injection hk with hk; omega)
          clear hM7 own7 g5 g6 M5ne hB7
          have k7 := x7.cells
          have l7 := x7.lt
          have LK := hM6.look hxw
          rw [hcq1.out] at LK
          unfold cv at LK
          dsimp only at LK
          rcases Nat.eq_zero_or_pos q with rfl | hq
          · have hun : Hid (unq (L.take (k + 1)) = unq (L.take k) ++ [⟨x1, x2, x3, x4, x5, x6⟩]) := by
              show _ = _
              rw [hstep.out, unq_snoc]
              unfold unqS
              rw [if_neg (by rw [mem_unq]; exact List.count_eq_zero.1 hcq.out)]
            have hul := unq_len (L.take k)
            rw [List.length_take] at hul
            go_wp2_with (at_builtin; refine wpList_append_rowN rfl _ _ 25 rfl W5.heap.size 27 i0 _ 6 48 Try.underlying25 hi hz0 hz1 hz2 rfl (by decide) _ (unq (L.take k)).length (CelE.vs (unq (L.take k))) rfl (own6.alloc _) (some ⟨w6.heap.size, 0, none⟩) 1 1 (CelE.v ⟨x1, x2, x3, x4, x5, x6⟩) rfl rfl (Enc.Row.box1 (Box.new w6 27 #[.int .i64 x1, .int .i64 x2, .int .i64 x3, .int .i64 x4, .int .i64 x5, .int .i64 x6]) rfl) (CelE.one _) (by unfold maxLen; omega) (by omega) (by have := hB6.size; simp; omega) ?_)
            intro A8 c8 w8 hown8 hgr8
            have hM7 := hM6.alloc (.cells #[.int .i64 x1, .int .i64 x2, .int .i64 x3, .int .i64 x4, .int .i64 x5, .int .i64 x6] 27)
            have hM8 := hM7.at (hgr8.block _ hM7.lt (hM7.own (own6.alloc (.cells #[.int .i64 x1, .int .i64 x2, .int .i64 x3, .int .i64 x4, .int .i64 x5, .int .i64 x6] 27))))
            clear hM7
            have hB8 := (hB6.alloc hB6.size (.cells #[.int .i64 x1, .int .i64 x2, .int .i64 x3, .int .i64 x4, .int .i64 x5, .int .i64 x6] 27)).grown hgr8 (by have := hB6.size; simp; omega) (fun k hk => (own6.lt k hk).1)
            rw [← CelE.vs_snoc, ← hun.out] at hown8
            have hlen := Lib.hid (show (unq (L.take (k + 1))).length = (unq (L.take k)).length + 1 by rw [hun.out]; simp)
            rw [← hlen.out] at hown8
            rw [← hstep.out] at hM8
            clear own6 hgr8 hM6 hB6 x7 k7 l7
            go_wp2
            go_roundw
            case rel => exact ⟨k + 1, A8, c8, by omega, by rw [hlen.out], by go_num, hown8, hM8, hB8⟩
            case measure => simp [intOf]; omega
          · have hun : Hid (unq (L.take (k + 1)) = unq (L.take k)) := by
              show _ = _
              rw [hstep.out, unq_snoc]
              unfold unqS
              rw [if_pos (by rw [mem_unq]; exact List.count_pos_iff.1 (by rw [hcq.out]; exact hq))]
            have hq1 : ((q : Int) + 1 == 1) = false := by simp; omega
            rw [← hun.out] at own6 ⊢
            rw [← hstep.out] at hM6
            clear x7 k7 l7
            go_wp2
            go_roundw
            case rel => exact ⟨k + 1, A', c', by omega, rfl, by go_num, own6, hM6, hB6⟩
            case measure => simp [intOf]; omega
      · obtain rfl : k = L.length := by omega
        rw [List.take_length] at hown ⊢
        have hcap2 := own_cap hown
        have hown2 := own_base (base' := w.heap.size) hown hb5.size
        have hB2 := hb5.trans (hB.mono hb5.size)
        go_wp2
        go_ret
        exact ⟨A', c', rfl, hcap2.1, hcap2.2, hown2, hB2⟩
end
end Go.Proofs.Ytioecjoddgpjbaa
