/-
  bits: Each, for whatever loop takes its numbers.
-/
import Derived.Test.YtgilmpakdohijaaDoorBi5
import Derived.RangeFuncNested
import Derived.RangeFuncBound
import Derived.RangeFuncCalls
import Derived.RangeFuncLeaves
import Derived.RangeFuncBox
import Derived.Maps.AppendAt
import Derived.Shelf.Abstract
import Derived.OwnWalkIn
import Derived.TacticsInMore
import Derived.LoopNIn
import Derived.LoopIn
namespace Go.Proofs.YtgilmpakdohijaaDoor
open Go.RowKit Go.Shelf
attribute [local go_sem] Oper.semAt_some

theorem Tb.of0 {w w' : World} (h : Tb w) (e : w'.heap[0]? = w.heap[0]?) : Tb w' := fun j hj => (World.cell?_of_block (w := w) e).trans (h j hj)
/-- The words that Each reads: in a block that no round changes. -/
def RdW (W : World) (A : Option Addr) (ws : List Nat) (Un : Nat → Prop) : Prop := ∀ i (hi : i < ws.length), ∃ b, A = some ⟨b, 0, none⟩ ∧ W.cell? ⟨b, i, none⟩ = some (.int .u64 (ws[i] : Int)) ∧ Un b
section
variable {A : Option Addr} {base gt c : Nat} {ws : List Nat}
set_option maxRecDepth 100000 in
set_option maxHeartbeats 2000000 in
theorem beach1_in (n : Nat) (hn : 3 ≤ n) (lp Bl : Nat) (bs : List Nat) (g : Nat) (J Jx : List Int → World → Prop)
    (w : World) (hJ : AbidesFrom w.heap.size J)
    (hY : ∀ pre (x : Int) W, J pre W → pre.length < 65536 → YieldAt Fence.wide (n - 1) Tryd.prog lp #[.int .i64 x] W fun e W' =>
      (e = .returned (.bool true) ∧ J (pre ++ [x]) W' ∧ Kb bs g W W') ∨ (e = .returned (.bool false) ∧ Jx (pre ++ [x]) W'))
    (T : Tb w) (hbs : ∀ b ∈ bs, b < w.heap.size ∧ b ≠ 0) (hg : g ∈ bs) (hrc : ∀ b, rowC w g = some b → b < w.heap.size ∧ b ≠ 0)
    (hBl : Box w Bl 23 #[.pointer (some ⟨gt, 0, none⟩)]) (hS : SetB w base gt A c ws) (hj0 : J [] w) :
    CallsIn Fence.wide n Tryd.prog 32 #[.func (.yield lp) #[] #[], .pointer (some ⟨Bl, 0, none⟩)] w fun e W' => (∃ v, e = .returned v) ∧
      ((∃ ys, ys = allW ws ∧ J ys W') ∨ (∃ pre, pre <+: allW ws ∧ Jx pre W')) := by
  have kl := hBl.cells
  have kS := hS.box.cells
  have lS := hS.box.lt
  have IS := Lib.hid ((callsIn_wide (n := n - 1)).2 (bis_any hS.box))
  have CL := Lib.hid ((callsIn_wide (n := n - 1)).2 (bclone_any hS.wf.len hS.own))
  have HY := Lib.hid hY
  clear hBl hY
  refine callsIn_of_wp Tryd.func32 rfl trivial ?_ rfl
  simp only [Tryd.ntmps32, List.size_toArray, List.length_cons, List.length_nil, Nat.reduceAdd, Nat.reduceSub, Array.replicate_succ, Array.replicate_zero, List.push_toArray, List.append_toArray, List.nil_append, List.cons_append]
  gi_wp2
  refine ⟨trivial, fun _ => by omega, IS.out.mono ?_⟩
  rintro e _ ⟨rfl, rfl⟩
  gi_wp2
  refine ⟨trivial, fun _ => by omega, CL.out.mono ?_⟩
  rintro e w1 ⟨A2, c2, rfl, own1, b1⟩
  have hU0 : ∀ b, b = 0 ∨ w.heap.size ≤ b → (∃ o, w1.heap[b]? = some o ∧ o.isCells = true) → Un bs g w1 b := fun b hb hlt => by
    refine ⟨hlt, fun hm => ?_, fun he => ?_⟩
    · have := hbs b hm; omega
    · rw [rowC_below b1 (hbs g hg).1] at he
      have := hrc b he.symm; omega
  have hRd : RdW w1 A2 ws (Un bs g w1) := fun i hi => by
    obtain ⟨A3, c3, hv, hf⟩ := own_form own1
    obtain ⟨g2, hA, hg1, hg2⟩ := hf (by omega)
    injection hv with hv1 _ hv3
    subst hv1 hv3 hA
    have hc : w1.cell? ⟨g2, i, none⟩ = some (.int .u64 (ws[i] : Int)) := by rw [own1.cellAt i (by omega)]; exact wv_get _ _ hi
    exact ⟨g2, rfl, hc, hU0 g2 (.inr hg1) (cells_of_cell hc)⟩
  have hT1 := T.later b1
  have hU1 := hU0 0 (.inl rfl) (cells_of_cell (hT1 0 (by decide)))
  have hj1 : J [] w1 := hJ [] w w1 none hj0 ⟨b1.os, b1.tape, b1.output, b1.size, fun k hk _ => b1.block k hk⟩ (fun _ e => by cases e)
  have hlen := hS.wf.len
  have hwf := hS.wf
  clear hU0 own1 kl kS lS hS hbs hrc hj0 T b1
  gi_wp2
  gi_loopw [14] (fun i wr => ∃ k : Nat, k ≤ ws.length ∧ i = .int .i64 k ∧ J (belowW ws (64 * k)) wr ∧ RdW wr A2 ws (Un bs g wr) ∧ Tb wr ∧ Un bs g wr 0) (fun i _ => ws.length - (intOf i).toNat)
  case atStart => exact ⟨0, by omega, rfl, hj1, hRd, hT1, hU1⟩
  case round =>
    clear hj1 hRd hT1 hU1
    obtain ⟨k, hk, rfl, hJs, hRd, hT, hU⟩ := hrel
    by_cases hkn : k < ws.length
    · obtain ⟨g2, rfl, hcl, hu2⟩ := hRd k hkn
      have hx := hwf.lt _ (List.getElem_mem hkn)
      have hlast : Hid (∀ j, j ≤ 64 → ws[k] / 2 ^ j * 2 ^ j = 0 → belowW ws (64 * k + j) = belowW ws (64 * (k + 1))) := fun j hj h => below_word hkn hj (cut_zero h)
      have hnext : Hid (∀ j, j ≤ 64 → ws[k] / 2 ^ j * 2 ^ j ≠ 0 → ∃ t, Lib.ctz 64 (ws[k] / 2 ^ j * 2 ^ j) = t ∧ j ≤ t ∧ t < 64 ∧ (ws[k] / 2 ^ j * 2 ^ j) &&& (ws[k] / 2 ^ j * 2 ^ j - 1) = ws[k] / 2 ^ (t + 1) * 2 ^ (t + 1) ∧ belowW ws (64 * k + (t + 1)) = belowW ws (64 * k + j) ++ [64 * (k : Int) + (t : Int)]) := fun j hj h => by
        obtain ⟨t, h1, h2, h3, h4, h5, h6⟩ := cut_next hx h
        exact ⟨t, h1, h2, h3, h6, below_next hkn h2 h3 h4 h5⟩
      clear hcl hu2
      obtain ⟨g2', hA, hcl, hu2⟩ := hRd k hkn
      injection hA with hA; injection hA with hA; subst hA
      generalize hxk : ws[k] = x at *
      clear hxk hu2
      gi_wp2
      gi_loopw [4] (fun s wr => ∃ j : Nat, j ≤ 64 ∧ s = .int .u64 ((x / 2 ^ j * 2 ^ j : Nat) : Int) ∧ J (belowW ws (64 * k + j)) wr ∧ RdW wr (some ⟨g2, 0, none⟩) ws (Un bs g wr) ∧ Tb wr ∧ Un bs g wr 0) (fun s _ => (intOf s).toNat)
      case atStart => exact ⟨0, by omega, by simp, hJs, hRd, hT, hU⟩
      case round =>
        clear hJs hRd hT hU hcl
        obtain ⟨j, hj, rfl, hJs, hRd, hT, hU⟩ := hrel
        have hv : x / 2 ^ j * 2 ^ j < 18446744073709551616 := Nat.lt_of_le_of_lt (Nat.div_mul_le_self _ _) hx
        have hpl := belowW_len ws (64 * k + j)
        by_cases hz : x / 2 ^ j * 2 ^ j = 0
        · rw [hlast.out j hj hz] at hJs
          rw [hz]
          clear hv hz hnext hlast
          gi_wp2
          go_roundw
          case rel => exact ⟨k + 1, by omega, by go_num, hJs, hRd, hT, hU⟩
          case measure => simp [intOf]; omega
        · obtain ⟨t, h1, h2, h3, h4, h5⟩ := hnext.out j hj hz
          have TZ := Lib.hid ((callsIn_wide (n := n - 1)).2 (tz64_any _ hv hz wr hT))
          rw [h1] at TZ
          have hy : x / 2 ^ (t + 1) * 2 ^ (t + 1) < x / 2 ^ j * 2 ^ j := by
            rw [← h4]
            exact Nat.lt_of_le_of_lt Nat.and_le_right (by omega)
          have hyy : Hid (x / 2 ^ (t + 1) * 2 ^ (t + 1) = x / 2 ^ (t + 1) * 2 ^ (t + 1)) := rfl
          have hand : bits .and .u64 ((x / 2 ^ j * 2 ^ j : Nat) : Int) (((x / 2 ^ j * 2 ^ j : Nat) : Int) - 1) = ((x / 2 ^ (t + 1) * 2 ^ (t + 1) : Nat) : Int) := by
            rw [show (((x / 2 ^ j * 2 ^ j : Nat) : Int) - 1) = ((x / 2 ^ j * 2 ^ j - 1 : Nat) : Int) by omega, bits_and_u64_nat _ _ (by omega) (by omega), h4]
          generalize hy9 : x / 2 ^ (t + 1) * 2 ^ (t + 1) = y at *
          replace hy9 := Lib.hid hy9
          clear h1 h4 hyy hnext hlast
          generalize x / 2 ^ j * 2 ^ j = v at *
          obtain ⟨fn, tmps, assign, body, hyl, hR⟩ := HY.out (belowW ws (64 * k + j)) (64 * (k : Int) + (t : Int)) wr hJs (by omega)
          rw [← h5] at hR
          have hpre := belowW_pre (ws := ws) (B := 64 * k + (t + 1)) (C := 64 * ws.length) (by omega)
          replace hpre := Lib.hid hpre
          replace h5 := Lib.hid h5
          have hzi : ((v : Int) == 0) = false := by simp; omega
          clear hpl
          gi_wp2
          refine ⟨trivial, fun _ => by omega, TZ.out.mono ?_⟩
          rintro e _ ⟨rfl, rfl⟩
          gi_wp2
          refine ⟨fun _ => by omega, hR.mono ?_⟩
          rintro e W3 (⟨rfl, hJ3, hk3⟩ | ⟨rfl, hJx3⟩)
          · have hU3 := hk3.un hU
            have hT3 := hT.of0 hU3.1
            have hRd3 : RdW W3 (some ⟨g2, 0, none⟩) ws (Un bs g W3) := fun i hi => by
              obtain ⟨b, hA, hc, hu⟩ := hRd i hi
              have hu3 := hk3.un hu
              exact ⟨b, hA, (World.cell?_of_block (w := wr) (a := ⟨b, i, none⟩) hu3.1).trans hc, hu3.2⟩
            clear hk3 hR hyl hRd hT hU
            gi_wp2
            go_roundw
            case rel => exact ⟨t + 1, by omega, by rw [hy9.out], hJ3, hRd3, hT3, hU3.2⟩
            case measure => simp [intOf]; omega
          · gi_wp2
            refine bodyPost_ret (results_none rfl _ _ _) rfl ?_
            exact ⟨⟨_, rfl⟩, .inr ⟨_, hpre.out, hJx3⟩⟩
    · obtain rfl : k = ws.length := by omega
      gi_wp2
      go_end0
      exact ⟨⟨_, rfl⟩, .inl ⟨_, rfl, hJs⟩⟩
theorem SetB.later {w w' : World} {g : Nat} (h : SetB w base g A c ws) (hb : Below w.heap.size w w') : SetB w' base g A c ws := ⟨h.box.later hb, own_below h.own hb (Nat.le_refl _), h.wf⟩
/-- Each's value tells the set's numbers, all or as many as are taken. -/
theorem beach_stops (n : Nat) (hn : 3 ≤ n) (Bl : Nat) (bs : List Nat) (g : Nat) (w : World) (T : Tb w) (hbs : ∀ b ∈ bs, b < w.heap.size ∧ b ≠ 0) (hg : g ∈ bs) (hrc : ∀ b, rowC w g = some b → b < w.heap.size ∧ b ≠ 0)
    (hBl : Box w Bl 23 #[.pointer (some ⟨gt, 0, none⟩)]) (hS : SetB w base gt A c ws) :
    SeqStopsK Fence.wide n Tryd.prog 32 #[.pointer (some ⟨Bl, 0, none⟩)] (fun x : Int => #[.int .i64 x]) (Kb bs g) (fun ys => ys = allW ws) (fun pre => pre <+: allW ws) 65536 w := fun lp J Jx W hW hJ _ hY h0 =>
  beach1_in n hn lp Bl bs g J Jx W hJ hY (T.later hW) (fun b hb => ⟨Nat.lt_of_lt_of_le (hbs b hb).1 hW.size, (hbs b hb).2⟩) hg (fun b hb => by
    rw [rowC_below hW (hbs g hg).1] at hb
    exact ⟨Nat.lt_of_lt_of_le (hrc b hb).1 hW.size, (hrc b hb).2⟩) (hBl.later hW) (hS.later hW) h0
end
end Go.Proofs.YtgilmpakdohijaaDoor
