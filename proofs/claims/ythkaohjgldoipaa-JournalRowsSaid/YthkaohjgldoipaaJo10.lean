/-
  journal: the document's Lines.
-/
import Derived.Test.YthkaohjgldoipaaJo9
namespace Go.Proofs.Ythkaohjgldoipaa
open Go.RowKit
section
variable {A : Option Addr} {c : Nat} {l : List Ent} {w : World}
set_option maxRecDepth 100000 in
set_option maxHeartbeats 4000000 in
theorem rlines_any (hm : (linesJ l).length ≤ 1000000) (hm' : l.length ≤ 1000000) (hr : RowE w A l) : Calls Try.prog 15 #[.slice A l.length c] w (NewP 35 (linesJ l) w) := by
  obtain ⟨i0, hi, hz0, hz1, hz2⟩ := info_parts Try.infoPst24
  have R := Lib.hid hr
  have EN := Lib.hid (outJ_end l)
  have Z0 : Hid (outJ l 0 0 = []) := by rw [outJ_zero]; rfl
  clear hr
  go_enter Try.func15, Try.ntmps15
  go_wp2
  go_loopw [3, 4] (fun o i wr => ∃ (k : Nat) (A' : Option Addr) (c' : Nat), k ≤ l.length ∧ o = .slice A' (outJ l k 0).length c' ∧ i = .int .i64 k ∧ wr.ownsRow w.heap.size 35 7 (.slice A' (outJ l k 0).length c') (outJ l k 0).length (pvs (outJ l k 0)) ∧ Below w.heap.size w wr) (fun _ i _ => l.length - (intOf i).toNat)
  case atStart => exact ⟨0, none, 0, by omega, by rw [Z0.out]; rfl, rfl, by rw [Z0.out]; exact World.ownsRow_nil _ _ _ _, Below.refl _ _⟩
  case round =>
    obtain ⟨k, A', c', hk, rfl, rfl, own, hb⟩ := hrel
    by_cases hkn : k < l.length
    · obtain ⟨b0, o0, rfl, hg0, hc0⟩ := R.out.get (by omega)
      obtain ⟨e1, e2, e3⟩ := hc0 k hkn
      have HL := Lib.hid (R.out.2 l[k] (List.getElem_mem hkn))
      have STP := Lib.hid fun (j : Nat) (hj : j < l[k].ls.length) => outJ_step hkn hj
      have PRE := Lib.hid fun (j : Nat) => outJ_pre (j := j) hkn
      have ALL := Lib.hid (outJ_all hkn)
      have hlsm := outJ_ls hkn
      clear hc0 e2
      generalize l[k] = e at *
      obtain ⟨p, r, Ae, ce, ls⟩ := e
      dsimp only at e1 e3 HL STP ALL hlsm
      obtain ⟨wo, rfl⟩ : ∃ w5, w5 = wr := ⟨_, rfl⟩
      go_wp2
      go_loopw [3, 5] (fun o i wr => ∃ (j : Nat) (A' : Option Addr) (c' : Nat), j ≤ ls.length ∧ o = .slice A' (outJ l k j).length c' ∧ i = .int .i64 j ∧ wr.ownsRow w.heap.size 35 7 (.slice A' (outJ l k j).length c') (outJ l k j).length (pvs (outJ l k j)) ∧ Below w.heap.size w wr) (fun _ i _ => ls.length - (intOf i).toNat)
      case atStart => exact ⟨0, A', c', by omega, rfl, rfl, own, hb⟩
      case round =>
        clear hb own
        obtain ⟨j, A', c', hj, rfl, rfl, own, hb⟩ := hrel
        have hpl := (PRE.out j).length_le
        by_cases hjn : j < ls.length
        · obtain ⟨b4, o4, rfl, hg4, hc4⟩ := HL.out.lines (by omega)
          obtain ⟨a1, a2, a3, a4⟩ := hc4 j hjn
          have ST := Lib.hid (STP.out j hjn)
          have hsb := hb.size
          clear hc4
          generalize ls[j] = x at *
          obtain ⟨x1, x2, x3, x4⟩ := x
          dsimp only at a1 a2 a3 a4
          have e1' := (hb.cell (p := ⟨b0, o0 + k * 3, none⟩) hg0).trans e1
          have e3' := (hb.cell (p := ⟨b0, o0 + k * 3 + 2, none⟩) hg0).trans e3
          have a1' := (hb.cell (p := ⟨b4, o4 + j * 4, none⟩) hg4).trans a1
          have a2' := (hb.cell (p := ⟨b4, o4 + j * 4 + 1, none⟩) hg4).trans a2
          have a3' := (hb.cell (p := ⟨b4, o4 + j * 4 + 2, none⟩) hg4).trans a3
          have a4' := (hb.cell (p := ⟨b4, o4 + j * 4 + 3, none⟩) hg4).trans a4
          have hwk1 : IntKind.i64.wrap ((k : Int) + 1) = (k : Int) + 1 := (Go.IntWalk.i64_left _).trans (Go.IntWalk.wrap64_in _ (by omega))
          have hwk2 : IntKind.i64.wrap (((outJ l k j).length : Int) + 1) = ((outJ l k j).length : Int) + 1 := (Go.IntWalk.i64_left _).trans (Go.IntWalk.wrap64_in _ (by omega))
          have hki : (k : Int) < (l.length : Int) := by omega
          have hji : (j : Int) < (ls.length : Int) := by omega
          generalize outJ l k j = pre at *
          go_upto_region 8 with fail
          refine wp_region_noPanic ?_
          refine wp_region_held_drew (S := (fun w' => w'.cell? ⟨b0, o0 + k * 3, none⟩ = some (.int .i64 p) ∧ w'.cell? ⟨b0, o0 + k * 3 + 2, none⟩ = some (.slice (some ⟨b4, o4, none⟩) ls.length ce) ∧ w'.cell? ⟨b4, o4 + j * 4, none⟩ = some (.int .i64 x1) ∧ w'.cell? ⟨b4, o4 + j * 4 + 1, none⟩ = some (.int .i64 x2) ∧ w'.cell? ⟨b4, o4 + j * 4 + 2, none⟩ = some (.int .i64 x3) ∧ w'.cell? ⟨b4, o4 + j * 4 + 3, none⟩ = some (.int .i64 x4))) (by kernel_rfl) ?_ (fun hHeld => ?_)
          · go_keep
          refine wpAnyH_take (i := 0) (v := ?vt1) rfl (by kernel_rfl) (by kernel_rfl) (by kernel_rfl) (fun _ _ _ h => h) (Or.inl ⟨by kernel_rfl, ?hyt1⟩) (by assumption) ?restt1
          case hyt1 => (intro w hSw; (try dsimp only at hSw); go_simp; (try with_reducible rfl))
          go_simp
          refine wpAnyH_take (i := 1) (v := ?vt2) rfl (by kernel_rfl) (by kernel_rfl) (by kernel_rfl) (fun _ _ _ h => h) (Or.inl ⟨by kernel_rfl, ?hyt2⟩) (by assumption) ?restt2
          case hyt2 => (intro w hSw; (try dsimp only at hSw); go_simp; (try with_reducible rfl))
          go_simp
          refine wpAnyH_take (i := 2) (v := ?vt3) rfl (by kernel_rfl) (by kernel_rfl) (by kernel_rfl) (fun _ _ _ h => h) (Or.inl ⟨by kernel_rfl, ?hyt3⟩) (by assumption) ?restt3
          case hyt3 => (intro w hSw; (try dsimp only at hSw); go_simp; (try with_reducible rfl))
          go_simp
          refine wpAnyH_take (i := 3) (v := ?vt4) rfl (by kernel_rfl) (by kernel_rfl) (by kernel_rfl) (fun _ _ _ h => h) (Or.inl ⟨by kernel_rfl, ?hyt4⟩) (by assumption) ?restt4
          case hyt4 => (intro w hSw; (try dsimp only at hSw); go_simp; (try with_reducible rfl))
          go_simp
          refine wpAnyH_take (i := 4) (v := ?vt5) rfl (by kernel_rfl) (by kernel_rfl) (by kernel_rfl) (fun _ _ _ h => h) (Or.inl ⟨by kernel_rfl, ?hyt5⟩) (by assumption) ?restt5
          case hyt5 => (intro w hSw; (try dsimp only at hSw); go_simp; (try with_reducible rfl))
          go_simp
          refine wpAnyH_take (i := 5) (v := ?vt6) rfl (by kernel_rfl) (by kernel_rfl) (by kernel_rfl) (fun _ _ _ h => h) (Or.inl ⟨by kernel_rfl, ?hyt6⟩) (by assumption) ?restt6
          case hyt6 => (intro w hSw; (try dsimp only at hSw); go_simp; (try with_reducible rfl))
          go_simp
          refine wpAnyH_take (i := 6) (v := ?vt7) rfl (by kernel_rfl) (by kernel_rfl) (by kernel_rfl) (fun _ _ _ h => h) (Or.inl ⟨by kernel_rfl, ?hyt7⟩) (by assumption) ?restt7
          case hyt7 => (intro w hSw; (try dsimp only at hSw); go_simp; (try with_reducible rfl))
          go_simp
          refine wpAnyH_take (i := 7) (v := ?vt8) rfl (by kernel_rfl) (by kernel_rfl) (by kernel_rfl) (fun _ _ _ h => h) (Or.inl ⟨by kernel_rfl, ?hyt8⟩) (by assumption) ?restt8
          case hyt8 => (intro w hSw; (try dsimp only at hSw); go_simp; (try with_reducible rfl))
          go_simp
          refine wpAnyH_take (i := 8) (v := ?vt9) rfl (by kernel_rfl) (by kernel_rfl) (by kernel_rfl) (fun _ _ _ h => h) (Or.inl ⟨by kernel_rfl, ?hyt9⟩) (by assumption) ?restt9
          case hyt9 => (intro w hSw; (try dsimp only at hSw); go_simp; (try with_reducible rfl))
          go_simp
          refine wpAnyH_take (i := 9) (v := ?vt10) rfl (by kernel_rfl) (by kernel_rfl) (by kernel_rfl) (fun _ _ _ h => h) (Or.inl ⟨by kernel_rfl, ?hyt10⟩) (by assumption) ?restt10
          case hyt10 => (intro w hSw; (try dsimp only at hSw); go_simp; (try with_reducible rfl))
          go_simp
          refine wpAnyH_take (i := 10) (v := ?vt11) rfl (by kernel_rfl) (by kernel_rfl) (by kernel_rfl) (fun _ _ _ h => h) (Or.inl ⟨by kernel_rfl, ?hyt11⟩) (by assumption) ?restt11
          case hyt11 => (intro w hSw; (try dsimp only at hSw); go_simp; (try with_reducible rfl))
          go_simp
          refine wpAnyH_take (i := 11) (v := ?vt12) rfl (by kernel_rfl) (by kernel_rfl) (by kernel_rfl) (fun _ _ _ h => h) (Or.inl ⟨by kernel_rfl, ?hyt12⟩) (by assumption) ?restt12
          case hyt12 => (intro w hSw; (try dsimp only at hSw); go_simp; (try with_reducible rfl))
          go_simp
          refine wpAnyH_take (i := 12) (v := ?vt13) rfl (by kernel_rfl) (by kernel_rfl) (by kernel_rfl) (fun _ _ _ h => h) (Or.inl ⟨by kernel_rfl, ?hyt13⟩) (by assumption) ?restt13
          case hyt13 => (intro w hSw; (try dsimp only at hSw); go_simp; (try with_reducible rfl))
          go_simp
          refine wpAnyH_take (i := 13) (v := ?vt14) rfl (by kernel_rfl) (by kernel_rfl) (by kernel_rfl) (fun _ _ _ h => h) (Or.inl ⟨by kernel_rfl, ?hyt14⟩) (by assumption) ?restt14
          case hyt14 => (intro w hSw; (try dsimp only at hSw); go_simp; (try with_reducible rfl))
          go_simp
          refine wpAnyH_take (i := 14) (v := ?vt15) rfl (by kernel_rfl) (by kernel_rfl) (by kernel_rfl) (fun _ _ _ h => h) (Or.inl ⟨by kernel_rfl, ?hyt15⟩) (by assumption) ?restt15
          case hyt15 => (intro w hSw; (try dsimp only at hSw); go_simp; (try with_reducible rfl))
          go_simp
          refine wpAnyH_take (i := 15) (v := ?vt16) rfl (by kernel_rfl) (by kernel_rfl) (by kernel_rfl) (fun _ _ _ h => h) (Or.inl ⟨by kernel_rfl, ?hyt16⟩) (by assumption) ?restt16
          case hyt16 => (intro w hSw; (try dsimp only at hSw); go_simp; (try with_reducible rfl))
          go_simp
          refine wpAnyH_take (i := 16) (v := ?vt17) rfl (by kernel_rfl) (by kernel_rfl) (by kernel_rfl) (fun _ _ _ h => h) (Or.inl ⟨by kernel_rfl, ?hyt17⟩) (by assumption) ?restt17
          case hyt17 => (intro w hSw; (try dsimp only at hSw); go_simp; (try with_reducible rfl))
          go_simp
          refine wpAnyH_take (i := 17) (v := ?vt18) rfl (by kernel_rfl) (by kernel_rfl) (by kernel_rfl) (fun _ _ _ h => h) (Or.inl ⟨by kernel_rfl, ?hyt18⟩) (by assumption) ?restt18
          case hyt18 => (intro w hSw; (try dsimp only at hSw); go_simp; (try with_reducible rfl))
          go_simp
          refine wpAnyH_take (i := 18) (v := ?vt19) rfl (by kernel_rfl) (by kernel_rfl) (by kernel_rfl) (fun _ _ _ h => h) (Or.inl ⟨by kernel_rfl, ?hyt19⟩) (by assumption) ?restt19
          case hyt19 => (intro w hSw; (try dsimp only at hSw); go_simp; (try with_reducible rfl))
          go_simp
          refine wpAnyH_take (i := 19) (v := ?vt20) rfl (by kernel_rfl) (by kernel_rfl) (by kernel_rfl) (fun _ _ _ h => h) (Or.inl ⟨by kernel_rfl, ?hyt20⟩) (by assumption) ?restt20
          case hyt20 => (intro w hSw; (try dsimp only at hSw); go_simp; (try with_reducible rfl))
          go_simp
          refine wpAnyH_ready (rs := [20]) (by kernel_rfl) (by simp) ?_
          refine AllReadyH.cons rfl (fun K hK => ?_) AllReadyH.nil
          rw [if_pos (by kernel_rfl)]
          go_simp
          have hb3 : Below w.heap.size w (wr.alloc (.cells #[.int .i64 ((pre.length : Int) + 1), .int .i64 ((k : Int) + 1), .int .i64 p, .int .i64 x1, .int .i64 x2, .int .i64 x3, .int .i64 x4] 35)).drew := below_drewN (hb.alloc hb.size (.cells #[.int .i64 ((pre.length : Int) + 1), .int .i64 ((k : Int) + 1), .int .i64 p, .int .i64 x1, .int .i64 x2, .int .i64 x3, .int .i64 x4] 35)) 1
          have z3 : Box (wr.drew.alloc (.cells #[.int .i64 ((pre.length : Int) + 1), .int .i64 ((k : Int) + 1), .int .i64 p, .int .i64 x1, .int .i64 x2, .int .i64 x3, .int .i64 x4] 35)) wr.heap.size 35 (pv ⟨(pre.length : Int) + 1, (k : Int) + 1, p, ⟨x1, x2, x3, x4⟩⟩).toArray := Box.new wr.drew _ _
          have own3 := (own_drewN own 1).alloc (.cells #[.int .i64 ((pre.length : Int) + 1), .int .i64 ((k : Int) + 1), .int .i64 p, .int .i64 x1, .int .i64 x2, .int .i64 x3, .int .i64 x4] 35)
          have e1' := (hb3.cell (p := ⟨b0, o0 + k * 3, none⟩) hg0).trans e1
          have e3' := (hb3.cell (p := ⟨b0, o0 + k * 3 + 2, none⟩) hg0).trans e3
          have a1' := (hb3.cell (p := ⟨b4, o4 + j * 4, none⟩) hg4).trans a1
          have a2' := (hb3.cell (p := ⟨b4, o4 + j * 4 + 1, none⟩) hg4).trans a2
          have a3' := (hb3.cell (p := ⟨b4, o4 + j * 4 + 2, none⟩) hg4).trans a3
          have a4' := (hb3.cell (p := ⟨b4, o4 + j * 4 + 3, none⟩) hg4).trans a4
          refine hK.out _ _ (by go_keep) (fun hHeld => ?_)
          clear hK K
          go_simp
          refine wpAnyH_ready (rs := [21]) (by kernel_rfl) (by simp) ?_
          refine AllReadyH.cons rfl (fun K hK => ?_) AllReadyH.nil
          refine step_append_rowN rfl _ _ 27 rfl w.heap.size 35 i0 _ 7 56 Try.underlying27 hi hz0 hz1 hz2 rfl (by decide) _ pre.length (pvs pre) rfl own3 (some ⟨wr.heap.size, 0, none⟩) 1 1 (pv ⟨(pre.length : Int) + 1, (k : Int) + 1, p, ⟨x1, x2, x3, x4⟩⟩) rfl rfl (RowAt.of_cells (fun i u hi => by rw [addr_add, Nat.zero_add]; exact (z3.cells i).trans (by rw [List.getElem?_toArray]; exact hi))) (pv_one _) (by unfold maxLen; omega) (by omega) hb3.size ?_
          intro A9 c9 w9 hown9 hgr9
          have hb9 := hb3.grown hgr9 hb3.size (fun g hg => (own3.lt g hg).1)
          clear hgr9 own3 z3 hb3
          have e1' := (hb9.cell (p := ⟨b0, o0 + k * 3, none⟩) hg0).trans e1
          have e3' := (hb9.cell (p := ⟨b0, o0 + k * 3 + 2, none⟩) hg0).trans e3
          have a1' := (hb9.cell (p := ⟨b4, o4 + j * 4, none⟩) hg4).trans a1
          have a2' := (hb9.cell (p := ⟨b4, o4 + j * 4 + 1, none⟩) hg4).trans a2
          have a3' := (hb9.cell (p := ⟨b4, o4 + j * 4 + 2, none⟩) hg4).trans a3
          have a4' := (hb9.cell (p := ⟨b4, o4 + j * 4 + 3, none⟩) hg4).trans a4
          refine hK.out _ _ (by go_keep) (fun hHeld => ?_)
          clear hK K
          go_simp
          refine wpAnyH_ready (rs := [22]) (by kernel_rfl) (by simp) ?_
          refine AllReadyH.cons rfl (fun K hK => ?_) AllReadyH.nil
          rw [if_pos (by kernel_rfl)]
          go_simp
          refine hK.out _ _ hHeld (fun hHeld => ?_)
          clear hK K
          go_simp
          refine wpAnyH_done (by kernel_rfl) ?_ _
          refine NoPanic.normal ?_
          have hzz : pvs pre ++ pv ⟨(pre.length : Int) + 1, (k : Int) + 1, p, ⟨x1, x2, x3, x4⟩⟩ = pvs (outJ l k (j + 1)) := by rw [ST.out, pvs_snoc]
          have hll : pre.length + 1 = (outJ l k (j + 1)).length := by rw [ST.out]; simp
          rw [hzz, hll] at hown9
          replace hll := Lib.hid hll
          clear hzz e1' e3' a1' a2' a3' a4' hb own
          go_wp2
          go_roundw
          case rel => exact ⟨j + 1, A9, c9, by omega, by rw [hll.out], by go_num, hown9, hb9⟩
          case measure => simp [intOf]; omega
        · obtain rfl : j = ls.length := by omega
          rw [ALL.out] at own ⊢
          have e3' := (hb.cell (p := ⟨b0, o0 + k * 3 + 2, none⟩) hg0).trans e3
          go_wp2
          go_roundw
          case rel => exact ⟨k + 1, A', c', by omega, rfl, by go_num, own, hb⟩
          case measure => simp [intOf]; omega
    · obtain rfl : k = l.length := by omega
      rw [EN.out] at own ⊢
      go_wp2
      go_ret
      exact ⟨A', c', rfl, own, hb⟩
end
end Go.Proofs.Ythkaohjgldoipaa
