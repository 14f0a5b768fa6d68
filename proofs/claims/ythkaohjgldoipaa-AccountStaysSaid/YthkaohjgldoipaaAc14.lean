/-
  account: Walk.
-/
import Derived.Test.YthkaohjgldoipaaAc13
import Derived.Deep.OwnRows
namespace Go.Proofs.Ythkaohjgldoipaa
open Go.RowKit
theorem Try.infoInts : (Try.prog.info? 55).map (fun i => (i.zero, i.size, i.bytes)) = some (some (.slice none 0 0), 1, 24) := by kernel_rfl
theorem slots_made (w : World) (l : List Acc) (o : Obj) : SlotsV ((w.alloc (.cells (madeCells #[.slice none 0 0] (l.length + 1)) 55)).alloc o) (w.heap.size + 2) w.heap.size (l.length + 1) (fun _ => .slice none 0 0) (belT l 0) := by
  have x := (Box.new w 55 (madeCells #[.slice none 0 0] (l.length + 1))).alloc o
  refine ⟨fun a ha => ?_, fun a _ => x.free a, fun a _ => World.ownsRow_nil _ _ _ _, fun a b _ _ _ => .inl rfl, by omega, by rw [World.size_alloc, World.size_alloc]; omega⟩
  rw [x.cells a, ← Array.getElem?_toList, toList_madeCells_one, List.getElem?_replicate, if_pos ha]
section
variable {A : Option Addr} {c : Nat} {l : List Acc} {w : World}
set_option maxRecDepth 100000 in
set_option maxHeartbeats 8000000 in
theorem awalk_any (hm : l.length ≤ 1000000) (hr : RowC w A l) : Calls Try.prog 46 #[.slice A l.length c] w fun e w' => ∃ A' c', e = .returned (.slice A' (walkA l).length c') ∧ w'.ownsRow w.heap.size 77 2 (.slice A' (walkA l).length c') (walkA l).length (nvs (walkA l)) ∧ Below w.heap.size w w' := by
  obtain ⟨i0, hi, hz0, hz1, hz2⟩ := info_parts Try.infoInt'
  have hmf : ∀ (fn : Fn) (first cap : Array Value) (w : World), (Instr.makeFunc fn first cap).run Try.prog w = .ok (.func fn first cap) w := fun _ _ _ _ => rfl
  have hsf := fun (w : World) (a : Addr) (fn : Fn) (x y : Array Value) (m : Mode) => run_store Try.prog w a (.func fn x y) m rfl
  have hmk : ∀ w : World, (Instr.makeSlice 102 (.int .i64 ((l.length : Int) + 1)) (.int .i64 ((l.length : Int) + 1))).run Try.prog w = .ok (.slice (some ⟨w.heap.size, 0, none⟩) (l.length + 1) (l.length + 1)) (w.alloc (.cells (madeCells #[.slice none 0 0] (l.length + 1)) 55)) :=
    fun w => run_make_row' (P := Try.prog) 102 55 (.slice none 0 0) 24 Try.underlying102 Try.infoInts rfl .i64 .i64 (l.length + 1) (by omega) (by omega) w
  have SV0 := slots_made w l (.cells #[.slice (some ⟨w.heap.size, 0, none⟩) (l.length + 1) (l.length + 1)] 102)
  have y20 : Box ((w.alloc (.cells (madeCells #[.slice none 0 0] (l.length + 1)) 55)).alloc (.cells #[.slice (some ⟨w.heap.size, 0, none⟩) (l.length + 1) (l.length + 1)] 102)) (w.heap.size + 1) 102 #[.slice (some ⟨w.heap.size, 0, none⟩) (l.length + 1) (l.length + 1)] := Box.new' (by simp)
  have HR0 := (hr.alloc (.cells (madeCells #[.slice none 0 0] (l.length + 1)) 55)).alloc (.cells #[.slice (some ⟨w.heap.size, 0, none⟩) (l.length + 1) (l.length + 1)] 102)
  have B0 : Below w.heap.size w ((w.alloc (.cells (madeCells #[.slice none 0 0] (l.length + 1)) 55)).alloc (.cells #[.slice (some ⟨w.heap.size, 0, none⟩) (l.length + 1) (l.length + 1)] 102)) := ((Below.refl _ _).alloc (Nat.le_refl _) _).alloc (by simp) _
  obtain ⟨wl, hwl0⟩ : ∃ wl, wl = walkA l := ⟨_, rfl⟩
  rw [← hwl0]
  replace hwl0 := Lib.hid hwl0
  go_enter Try.func46, Try.ntmps46
  go_wp2
  clear hmk
  go_loopw [14] (fun i wr => ∃ (k : Nat) (V : Nat → Value), k ≤ l.length ∧ i = .int .i64 k ∧ SlotsV wr (w.heap.size + 2) w.heap.size (l.length + 1) V (belT l k) ∧ Box wr (w.heap.size + 1) 102 #[.slice (some ⟨w.heap.size, 0, none⟩) (l.length + 1) (l.length + 1)] ∧ RowC wr A l ∧ Below w.heap.size w wr) (fun i _ => l.length - (intOf i).toNat)
  case atStart => exact ⟨0, _, by omega, rfl, SV0, y20, HR0, B0⟩
  case round =>
    clear SV0 y20 HR0 B0
    obtain ⟨k, V, hk, rfl, SV, y2, HR, hb⟩ := hrel
    by_cases hkn : k < l.length
    · obtain ⟨b0, off, rfl, hg, hcc⟩ := HR.get (by omega)
      obtain ⟨h1, h2, h3, h4⟩ := hcc k hkn
      have HIT := Lib.hid fun (a : Nat) (h : l[k].p = (a : Int)) => belT_hit hkn h
      have MIS := Lib.hid fun (a : Nat) (h : l[k].p ≠ (a : Int)) => belT_miss hkn h
      clear hcc
      generalize l[k].p = p0 at *
      generalize l[k].k = d0 at *
      generalize l[k].s = s0 at *
      generalize l[k].q = q0 at *
      rcases (by omega : p0 < 0 ∨ (0 ≤ p0 ∧ (l.length : Int) < p0) ∨ (0 ≤ p0 ∧ p0 ≤ (l.length : Int))) with hp | ⟨hp, hp'⟩ | ⟨hp, hp'⟩
      · have SV1 := (SV.alloc (.cells #[.int .i64 p0, .int .i64 d0, .bool s0, .bool q0] 60)).congr (fun a ha => (MIS.out a (by omega)).symm)
        have y21 := y2.alloc (.cells #[.int .i64 p0, .int .i64 d0, .bool s0, .bool q0] 60)
        have HR1 := HR.alloc (.cells #[.int .i64 p0, .int .i64 d0, .bool s0, .bool q0] 60)
        have hb1 := hb.alloc hb.size (.cells #[.int .i64 p0, .int .i64 d0, .bool s0, .bool q0] 60)
        clear SV y2 HR HIT MIS
        go_wp2
        go_roundw
        case rel => exact ⟨k + 1, V, by omega, by go_num, SV1, y21, HR1, hb1⟩
        case measure => simp [intOf]; omega
      · have SV1 := (SV.alloc (.cells #[.int .i64 p0, .int .i64 d0, .bool s0, .bool q0] 60)).congr (fun a ha => (MIS.out a (by omega)).symm)
        have y21 := y2.alloc (.cells #[.int .i64 p0, .int .i64 d0, .bool s0, .bool q0] 60)
        have HR1 := HR.alloc (.cells #[.int .i64 p0, .int .i64 d0, .bool s0, .bool q0] 60)
        have hb1 := hb.alloc hb.size (.cells #[.int .i64 p0, .int .i64 d0, .bool s0, .bool q0] 60)
        clear SV y2 HR HIT MIS
        go_wp2
        go_roundw
        case rel => exact ⟨k + 1, V, by omega, by go_num, SV1, y21, HR1, hb1⟩
        case measure => simp [intOf]; omega
      · obtain ⟨p, rfl⟩ : ∃ p : Nat, p0 = p := ⟨p0.toNat, by omega⟩
        have hp1 : p < l.length + 1 := by omega
        have FX : Hid (∀ a, a < l.length + 1 → (if a = p then belT l k p ++ [(k : Int) + 1] else belT l k a) = belT l (k + 1) a) := fun a ha => by
          by_cases e : a = p
          · rw [if_pos e, e]; exact (HIT.out p rfl).symm
          · rw [if_neg e]; exact (MIS.out a (by omega)).symm
        have hbl := belT_len l k p
        have hsv := SV.size
        have NEY : some wr.heap.size ≠ (V p).ownBlock := fun he => by have := ((SV.own p hp1).lt _ he.symm).2; omega
        replace SV := (SV.alloc (.cells #[.int .i64 p, .int .i64 d0, .bool s0, .bool q0] 60)).drew
        replace y2 := (y2.alloc (.cells #[.int .i64 p, .int .i64 d0, .bool s0, .bool q0] 60)).drew
        have y5 := (Box.new wr 60 #[.int .i64 p, .int .i64 d0, .bool s0, .bool q0]).drew
        replace HR := (HR.alloc (.cells #[.int .i64 p, .int .i64 d0, .bool s0, .bool q0] 60)).drew
        have hws := hb.size
        replace hb := below_drewN (hb.alloc hb.size (.cells #[.int .i64 p, .int .i64 d0, .bool s0, .bool q0] 60)) 1
        have k2 := y2.cells
        have k5 := y5.cells
        have kp := SV.cell p hp1
        have hpi : (p : Int) < (l.length : Int) + 1 := by omega
        have hwk : IntKind.i64.wrap ((k : Int) + 1) = (k : Int) + 1 := (Go.IntWalk.i64_left _).trans (Go.IntWalk.wrap64_in _ (by omega))
        have ney5 := NEY
        clear HIT MIS
        go_upto_region 6 with fail
        refine wp_region_noPanic ?_
        refine wp_region_held_drew (S := (fun w' => w'.cell? ⟨w.heap.size + 1, 0, none⟩ = some (.slice (some ⟨w.heap.size, 0, none⟩) (l.length + 1) (l.length + 1)) ∧ w'.cell? ⟨wr.heap.size, 0, none⟩ = some (.int .i64 p))) (by kernel_rfl) ?_ (fun hHeld => ?_)
        · go_keep
        refine wpAnyH_take (i := 0) (v := ?vz1) rfl (by kernel_rfl) (by kernel_rfl) (by kernel_rfl) (fun _ _ _ h => h) (Or.inl ⟨by kernel_rfl, ?hyz1⟩) (by assumption) ?restz1
        case hyz1 => (intro w hSw; (try dsimp only at hSw); go_simp; (try with_reducible rfl))
        go_simp
        refine wpAnyH_take (i := 1) (v := ?vz2) rfl (by kernel_rfl) (by kernel_rfl) (by kernel_rfl) (fun _ _ _ h => h) (Or.inl ⟨by kernel_rfl, ?hyz2⟩) (by assumption) ?restz2
        case hyz2 => (intro w hSw; (try dsimp only at hSw); go_simp; (try with_reducible rfl))
        go_simp
        refine wpAnyH_take (i := 2) (v := ?vz3) rfl (by kernel_rfl) (by kernel_rfl) (by kernel_rfl) (fun _ _ _ h => h) (Or.inl ⟨by kernel_rfl, ?hyz3⟩) (by assumption) ?restz3
        case hyz3 => (intro w hSw; (try dsimp only at hSw); go_simp; (try with_reducible rfl))
        go_simp
        refine wpAnyH_take (i := 3) (v := ?vz4) rfl (by kernel_rfl) (by kernel_rfl) (by kernel_rfl) (fun _ _ _ h => h) (Or.inl ⟨by kernel_rfl, ?hyz4⟩) (by assumption) ?restz4
        case hyz4 => (intro w hSw; (try dsimp only at hSw); go_simp; (try with_reducible rfl))
        go_simp
        refine wpAnyH_take (i := 4) (v := ?vz5) rfl (by kernel_rfl) (by kernel_rfl) (by kernel_rfl) (fun _ _ _ h => h) (Or.inl ⟨by kernel_rfl, ?hyz5⟩) (by assumption) ?restz5
        case hyz5 => (intro w hSw; (try dsimp only at hSw); go_simp; (try with_reducible rfl))
        go_simp
        refine wpAnyH_take (i := 5) (v := ?vz6) rfl (by kernel_rfl) (by kernel_rfl) (by kernel_rfl) (fun _ _ _ h => h) (Or.inl ⟨by kernel_rfl, ?hyz6⟩) (by assumption) ?restz6
        case hyz6 => (intro w hSw; (try dsimp only at hSw); go_simp; (try with_reducible rfl))
        go_simp
        refine wpAnyH_take (i := 6) (v := ?vz7) rfl (by kernel_rfl) (by kernel_rfl) (by kernel_rfl) (fun _ _ _ h => h) (Or.inl ⟨by kernel_rfl, ?hyz7⟩) (by assumption) ?restz7
        case hyz7 => (intro w hSw; (try dsimp only at hSw); go_simp; (try with_reducible rfl))
        go_simp
        refine wpAnyH_take (i := 8) (v := ?vz8) rfl (by kernel_rfl) (by kernel_rfl) (by kernel_rfl) (fun _ _ _ h => h) (Or.inl ⟨by kernel_rfl, ?hyz8⟩) (by assumption) ?restz8
        case hyz8 => (intro w hSw; (try dsimp only at hSw); go_simp; (try with_reducible rfl))
        go_simp
        refine wpAnyH_take (i := 9) (v := ?vz9) rfl (by kernel_rfl) (by kernel_rfl) (by kernel_rfl) (fun _ _ _ h => h) (Or.inl ⟨by kernel_rfl, ?hyz9⟩) (by assumption) ?restz9
        case hyz9 => (intro w hSw; (try dsimp only at hSw); go_simp; (try with_reducible rfl))
        go_simp
        refine wpAnyH_ready (rs := [7, 10]) (by kernel_rfl) (by simp) ?_
        refine AllReadyH.cons rfl (fun K hK => ?_) (AllReadyH.cons rfl (fun K hK => ?_) AllReadyH.nil)
        · rw [if_pos (by kernel_rfl)]
          go_simp
          refine hK.out _ _ (by go_keep) (fun hHeld => ?_)
          clear hK K
          go_simp
          refine wpAnyH_ready (rs := [10]) (by kernel_rfl) (by simp) ?_
          refine AllReadyH.cons rfl (fun K hK => ?_) AllReadyH.nil
          rw [if_pos (by kernel_rfl)]
          go_simp
          have z9 : Box ((wr.alloc (.cells #[.int .i64 p, .int .i64 d0, .bool s0, .bool q0] 60)).drew.alloc (.cells #[.int .i64 ((k : Int) + 1)] 3)) (wr.heap.size + 1) 3 #[.int .i64 ((k : Int) + 1)] := Box.new' (by show _ = (wr.alloc _).heap.size; rw [World.size_alloc])
          have SV := SV.alloc (.cells #[.int .i64 ((k : Int) + 1)] 3)
          have y2 := y2.alloc (.cells #[.int .i64 ((k : Int) + 1)] 3)
          have y5 := y5.alloc (.cells #[.int .i64 ((k : Int) + 1)] 3)
          have hb := hb.alloc hb.size (.cells #[.int .i64 ((k : Int) + 1)] 3)
          have kp := SV.cell p hp1
          have k2 := y2.cells
          have k5 := y5.cells
          have k2a : ∀ i, ((wr.alloc (.cells #[.int .i64 p, .int .i64 d0, .bool s0, .bool q0] 60)).alloc (.cells #[.int .i64 ((k : Int) + 1)] 3)).cell? ⟨w.heap.size + 1, i, none⟩ = (#[.slice (some ⟨w.heap.size, 0, none⟩) (l.length + 1) (l.length + 1)] : Array Value)[i]? := k2
          have k5a : ∀ i, ((wr.alloc (.cells #[.int .i64 p, .int .i64 d0, .bool s0, .bool q0] 60)).alloc (.cells #[.int .i64 ((k : Int) + 1)] 3)).cell? ⟨wr.heap.size, i, none⟩ = (#[.int .i64 p, .int .i64 d0, .bool s0, .bool q0] : Array Value)[i]? := k5
          have kpa : ((wr.alloc (.cells #[.int .i64 p, .int .i64 d0, .bool s0, .bool q0] 60)).alloc (.cells #[.int .i64 ((k : Int) + 1)] 3)).cell? ⟨w.heap.size, p, none⟩ = some (V p) := kp
          refine hK.out _ _ (by go_keep) (fun hHeld => ?_)
          clear hK K
          go_simp
          refine wpAnyH_ready (rs := [11]) (by kernel_rfl) (by simp) ?_
          refine AllReadyH.cons rfl (fun K hK => ?_) AllReadyH.nil
          refine step_append_lies _ rfl _ _ 55 rfl (w.heap.size + 2) 3 i0 (.int .i64 0) 1 8 Try.underlying55 hi hz0 hz1 hz2 rfl (by decide) (V p) (belT l k p).length (ivals (belT l k p)) rfl (SV.own p hp1) ⟨wr.heap.size + 1, 0, none⟩ 1 1 [.int .i64 ((k : Int) + 1)] rfl rfl (World.news_of_block (cs := #[.int .i64 ((k : Int) + 1)]) z9) (ivals_one [(k : Int) + 1]) (by decide) (by unfold maxLen; omega) (by omega) SV.size _ rfl ?_
          intro g9 c9 w9 hown9 hgr9 hloc9 hlt9
          have SV9 := SV.push hp1 hgr9 hown9 hloc9
          have y2 := y2.grown hgr9 (fun he => by have := ((SV.own p hp1).lt _ he.symm).1; omega)
          have y5 := y5.grown hgr9 ney5
          have k2 := y2.cells
          have k5 := y5.cells
          have fz := (hgr9.frozen_far ⟨w.heap.size, p, none⟩ (Nat.lt_of_lt_of_le SV.low SV.size) (fun he => absurd ((SV.own p hp1).lt w.heap.size he.symm).1 (by omega))).trans (SV.free p hp1)
          have cz := (hgr9.cell_far ⟨w.heap.size, p, none⟩ (Nat.lt_of_lt_of_le SV.low SV.size) (fun he => absurd ((SV.own p hp1).lt w.heap.size he.symm).1 (by omega))).trans (SV.cell p hp1)
          have hb := hb.grown hgr9 hb.size (fun g hg => by have := ((SV.own p hp1).lt g hg).1; omega)
          refine hK.out _ _ (by go_keep) (fun hHeld => ?_)
          clear hK K
          go_simp
          refine wpAnyH_take (i := 12) (v := ?vz10) rfl (by kernel_rfl) (by kernel_rfl) (by kernel_rfl) (fun _ _ _ h => h) (Or.inl ⟨by kernel_rfl, ?hyz10⟩) (by assumption) ?restz10
          case hyz10 => (intro w hSw; (try dsimp only at hSw); go_simp; (try with_reducible rfl))
          go_simp
          refine wpAnyH_ready (rs := [13]) (by kernel_rfl) (by simp) ?_
          refine AllReadyH.cons rfl (fun K hK => ?_) AllReadyH.nil
          rw [if_pos (by kernel_rfl)]
          go_simp
          have y2 := y2.far' (g' := w.heap.size) (i := p) (by omega) (.slice (some ⟨g9, 0, none⟩) ((belT l k p).length + 1) c9)
          have y5 := y5.far' (g' := w.heap.size) (i := p) (by omega) (.slice (some ⟨g9, 0, none⟩) ((belT l k p).length + 1) c9)
          have k2 := y2.cells
          have k5 := y5.cells
          refine hK.out _ _ (by go_keep) (fun hHeld => ?_)
          clear hK K
          go_simp
          refine wpAnyH_done (by kernel_rfl) ?_ _
          refine NoPanic.normal ?_
          have hb := hb.setCell (p := ⟨w.heap.size, p, none⟩) (Nat.le_refl _) (.slice (some ⟨g9, 0, none⟩) ((belT l k p).length + 1) c9)
          clear k2 k5 fz cz y5 hgr9 hown9 SV
          go_wp2
          go_roundw
          case rel => exact ⟨k + 1, _, by omega, by go_num, SV9.congr FX.out, y2, hr.below hb (Nat.le_refl _), hb⟩
          case measure => simp [intOf]; omega
        · rw [if_pos (by kernel_rfl)]
          go_simp
          have z9 : Box ((wr.alloc (.cells #[.int .i64 p, .int .i64 d0, .bool s0, .bool q0] 60)).drew.alloc (.cells #[.int .i64 ((k : Int) + 1)] 3)) (wr.heap.size + 1) 3 #[.int .i64 ((k : Int) + 1)] := Box.new' (by show _ = (wr.alloc _).heap.size; rw [World.size_alloc])
          have SV := SV.alloc (.cells #[.int .i64 ((k : Int) + 1)] 3)
          have y2 := y2.alloc (.cells #[.int .i64 ((k : Int) + 1)] 3)
          have y5 := y5.alloc (.cells #[.int .i64 ((k : Int) + 1)] 3)
          have hb := hb.alloc hb.size (.cells #[.int .i64 ((k : Int) + 1)] 3)
          have kp := SV.cell p hp1
          have k2 := y2.cells
          have k5 := y5.cells
          have k2a : ∀ i, ((wr.alloc (.cells #[.int .i64 p, .int .i64 d0, .bool s0, .bool q0] 60)).alloc (.cells #[.int .i64 ((k : Int) + 1)] 3)).cell? ⟨w.heap.size + 1, i, none⟩ = (#[.slice (some ⟨w.heap.size, 0, none⟩) (l.length + 1) (l.length + 1)] : Array Value)[i]? := k2
          have k5a : ∀ i, ((wr.alloc (.cells #[.int .i64 p, .int .i64 d0, .bool s0, .bool q0] 60)).alloc (.cells #[.int .i64 ((k : Int) + 1)] 3)).cell? ⟨wr.heap.size, i, none⟩ = (#[.int .i64 p, .int .i64 d0, .bool s0, .bool q0] : Array Value)[i]? := k5
          have kpa : ((wr.alloc (.cells #[.int .i64 p, .int .i64 d0, .bool s0, .bool q0] 60)).alloc (.cells #[.int .i64 ((k : Int) + 1)] 3)).cell? ⟨w.heap.size, p, none⟩ = some (V p) := kp
          refine hK.out _ _ (by go_keep) (fun hHeld => ?_)
          clear hK K
          go_simp
          refine wpAnyH_ready (rs := [7]) (by kernel_rfl) (by simp) ?_
          refine AllReadyH.cons rfl (fun K hK => ?_) AllReadyH.nil
          rw [if_pos (by kernel_rfl)]
          go_simp
          refine hK.out _ _ (by go_keep) (fun hHeld => ?_)
          clear hK K
          go_simp
          refine wpAnyH_ready (rs := [11]) (by kernel_rfl) (by simp) ?_
          refine AllReadyH.cons rfl (fun K hK => ?_) AllReadyH.nil
          refine step_append_lies _ rfl _ _ 55 rfl (w.heap.size + 2) 3 i0 (.int .i64 0) 1 8 Try.underlying55 hi hz0 hz1 hz2 rfl (by decide) (V p) (belT l k p).length (ivals (belT l k p)) rfl (SV.own p hp1) ⟨wr.heap.size + 1, 0, none⟩ 1 1 [.int .i64 ((k : Int) + 1)] rfl rfl (World.news_of_block (cs := #[.int .i64 ((k : Int) + 1)]) z9) (ivals_one [(k : Int) + 1]) (by decide) (by unfold maxLen; omega) (by omega) SV.size _ rfl ?_
          intro g9 c9 w9 hown9 hgr9 hloc9 hlt9
          have SV9 := SV.push hp1 hgr9 hown9 hloc9
          have y2 := y2.grown hgr9 (fun he => by have := ((SV.own p hp1).lt _ he.symm).1; omega)
          have y5 := y5.grown hgr9 ney5
          have k2 := y2.cells
          have k5 := y5.cells
          have fz := (hgr9.frozen_far ⟨w.heap.size, p, none⟩ (Nat.lt_of_lt_of_le SV.low SV.size) (fun he => absurd ((SV.own p hp1).lt w.heap.size he.symm).1 (by omega))).trans (SV.free p hp1)
          have cz := (hgr9.cell_far ⟨w.heap.size, p, none⟩ (Nat.lt_of_lt_of_le SV.low SV.size) (fun he => absurd ((SV.own p hp1).lt w.heap.size he.symm).1 (by omega))).trans (SV.cell p hp1)
          have hb := hb.grown hgr9 hb.size (fun g hg => by have := ((SV.own p hp1).lt g hg).1; omega)
          refine hK.out _ _ (by go_keep) (fun hHeld => ?_)
          clear hK K
          go_simp
          refine wpAnyH_take (i := 12) (v := ?vz11) rfl (by kernel_rfl) (by kernel_rfl) (by kernel_rfl) (fun _ _ _ h => h) (Or.inl ⟨by kernel_rfl, ?hyz11⟩) (by assumption) ?restz11
          case hyz11 => (intro w hSw; (try dsimp only at hSw); go_simp; (try with_reducible rfl))
          go_simp
          refine wpAnyH_ready (rs := [13]) (by kernel_rfl) (by simp) ?_
          refine AllReadyH.cons rfl (fun K hK => ?_) AllReadyH.nil
          rw [if_pos (by kernel_rfl)]
          go_simp
          have y2 := y2.far' (g' := w.heap.size) (i := p) (by omega) (.slice (some ⟨g9, 0, none⟩) ((belT l k p).length + 1) c9)
          have y5 := y5.far' (g' := w.heap.size) (i := p) (by omega) (.slice (some ⟨g9, 0, none⟩) ((belT l k p).length + 1) c9)
          have k2 := y2.cells
          have k5 := y5.cells
          refine hK.out _ _ (by go_keep) (fun hHeld => ?_)
          clear hK K
          go_simp
          refine wpAnyH_done (by kernel_rfl) ?_ _
          refine NoPanic.normal ?_
          have hb := hb.setCell (p := ⟨w.heap.size, p, none⟩) (Nat.le_refl _) (.slice (some ⟨g9, 0, none⟩) ((belT l k p).length + 1) c9)
          clear k2 k5 fz cz y5 hgr9 hown9 SV
          go_wp2
          go_roundw
          case rel => exact ⟨k + 1, _, by omega, by go_num, SV9.congr FX.out, y2, hr.below hb (Nat.le_refl _), hb⟩
          case measure => simp [intOf]; omega
    · obtain rfl : k = l.length := by omega
      have ROWS : ∀ a : Nat, a ≤ l.length → ∃ A c, wr.cell? ⟨w.heap.size, a, none⟩ = some (.slice A (belA l a).length c) ∧ RowS (fun b => b < wr.heap.size + 2 ∧ b ≠ wr.heap.size) wr A (ivals (belA l a)) := fun a ha => by
        have h1 := SV.cell a (by omega)
        have h2 := SV.own a (by omega)
        rw [belT_all] at h2
        obtain ⟨A', c', hv, _⟩ := own_form h2
        rw [hv] at h1 h2
        exact ⟨A', c', h1, RowS.of_own h2 fun b _ hb => ⟨by omega, by omega⟩⟩
      have hsv := SV.size
      have y2b := (y2.alloc (.cells #[.slice none 0 0] 72)).alloc (.cells #[.func (.func 75) #[] #[.pointer (some ⟨w.heap.size + 1, 0, none⟩), .pointer (some ⟨wr.heap.size, 0, none⟩), .pointer (some ⟨wr.heap.size + 1, 0, none⟩)]] 103)
      have HE : Env ((wr.alloc (.cells #[.slice none 0 0] 72)).alloc (.cells #[.func (.func 75) #[] #[.pointer (some ⟨w.heap.size + 1, 0, none⟩), .pointer (some ⟨wr.heap.size, 0, none⟩), .pointer (some ⟨wr.heap.size + 1, 0, none⟩)]] 103)) (wr.heap.size + 2) (w.heap.size + 1) wr.heap.size (wr.heap.size + 1) w.heap.size l :=
        ⟨y2b, Box.new' (by simp), fun a ha => by
          obtain ⟨A', c', h1, h2⟩ := ROWS a ha
          have hb2 : Below wr.heap.size wr ((wr.alloc (.cells #[.slice none 0 0] 72)).alloc (.cells #[.func (.func 75) #[] #[.pointer (some ⟨w.heap.size + 1, 0, none⟩), .pointer (some ⟨wr.heap.size, 0, none⟩), .pointer (some ⟨wr.heap.size + 1, 0, none⟩)]] 103)) := ((Below.refl _ _).alloc (Nat.le_refl _) _).alloc (by simp) _
          exact ⟨A', c', (hb2.cell (p := ⟨w.heap.size, a, none⟩) (by show w.heap.size < _; omega)).trans h1, (h2.alloc _).alloc _⟩, by omega, by omega, by omega, by omega, by omega, by omega, by omega, by rw [World.size_alloc, World.size_alloc]; omega⟩
      have HO : Outs ((wr.alloc (.cells #[.slice none 0 0] 72)).alloc (.cells #[.func (.func 75) #[] #[.pointer (some ⟨w.heap.size + 1, 0, none⟩), .pointer (some ⟨wr.heap.size, 0, none⟩), .pointer (some ⟨wr.heap.size + 1, 0, none⟩)]] 103)) (wr.heap.size + 2) wr.heap.size [] := ⟨none, 0, (Box.new _ _ _).alloc _, World.ownsRow_nil _ _ _ _⟩
      have hwl := walkG_len (k := l.length + 1) (lvl_zero l)
      have D := down_any hm (l.length + 1) 0 0 _ [] (lvl_zero l) (by omega) (by omega) (by simpa using Nat.le_trans hwl hm) HE HO
      rw [List.nil_append, show ((0 : Nat) : Int) = 0 from rfl] at D
      have hWA : walkG l (l.length + 1) 0 0 = walkA l := rfl
      rw [hWA, ← hwl0.out] at D
      replace D := Lib.hid D
      have hb3 := (hb.alloc hb.size (.cells #[.slice none 0 0] 72)).alloc (by rw [World.size_alloc]; have := hb.size; omega) (.cells #[.func (.func 75) #[] #[.pointer (some ⟨w.heap.size + 1, 0, none⟩), .pointer (some ⟨wr.heap.size, 0, none⟩), .pointer (some ⟨wr.heap.size + 1, 0, none⟩)]] 103)
      clear ROWS y2b HE HO hwl hWA SV y2 HR
      go_wp2_with fail
      refine D.out.mono ?_
      rintro e w6 ⟨rfl, ⟨A6, c6, x6, own6⟩, _, HK6⟩
      have k6 := x6.cells
      have l6 := x6.lt
      have hb6 := hb3.trans (HK6.below (B0 := w.heap.size) (by omega) (by omega))
      clear x6 HK6 hb3
      go_wp2
      go_ret
      have own7 := own_base (base' := w.heap.size) own6 (Nat.le_trans (Nat.le_trans (Nat.le_add_right _ 2) hsv) (Nat.le_add_right _ 2))
      exact ⟨A6, c6, rfl, own7, hb6⟩
end
end Go.Proofs.Ythkaohjgldoipaa
