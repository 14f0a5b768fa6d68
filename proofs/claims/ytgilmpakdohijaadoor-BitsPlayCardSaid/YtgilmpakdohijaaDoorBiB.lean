/-
  bits: the law's first.
-/
import Derived.Test.YtgilmpakdohijaaDoorBiA
namespace Go.Proofs.YtgilmpakdohijaaDoor
open Go.RowKit

/-- What first holds: how many, and the numbers so far. -/
def FirB (w : World) (base g3 g5 : Nat) (most : Int) (pre : List Int) : Prop :=
  Box w g3 3 #[.int .i64 most] ∧ ∃ A c, Box w g5 22 #[.slice A pre.length c] ∧ w.ownsRow base 3 1 (.slice A pre.length c) pre.length (ivals pre)
theorem FirB.later {w w' : World} {base g3 g5 : Nat} {most : Int} {pre : List Int} (h : FirB w base g3 g5 most pre) (hb : Below w.heap.size w w') : FirB w' base g3 g5 most pre := by
  obtain ⟨h1, A, c, h2, h3⟩ := h
  exact ⟨h1.later hb, A, c, h2.later hb, own_below h3 hb (Nat.le_refl _)⟩
set_option maxRecDepth 100000 in
set_option maxHeartbeats 2000000 in
theorem bfirst1 {base g3 g5 : Nat} {most : Int} {pre : List Int} {w : World} (x : Int) (hp : pre.length ≤ 100000) (hb : base ≤ w.heap.size) (hg5 : base ≤ g5) (hg3 : g3 < base) (h : FirB w base g3 g5 most pre) :
    Calls Tryd.prog 26 #[.int .i64 x, .pointer (some ⟨g5, 0, none⟩), .pointer (some ⟨g3, 0, none⟩)] w fun e w' => e = .returned (.bool (decide ((pre.length : Int) + 1 < most))) ∧ FirB w' base g3 g5 most (pre ++ [x]) ∧ Kb [g5] g5 w w' ∧ Below base w w' := by
  obtain ⟨i0, hi, hz0, hz1, hz2⟩ := info_parts Tryd.infoInt'
  obtain ⟨b3, A5, c5, b5, own⟩ := h
  have k5 := b5.cells
  have f5 := b5.free
  have l5 := b5.lt
  have l3 := b3.lt
  go_enter Tryd.func26, Tryd.ntmps26
  go_wp2_with (at_builtin; refine wpList_append_lies _ rfl _ _ 22 rfl base 3 i0 (.int .i64 0) 1 8 Tryd.underlying22 hi hz0 hz1 hz2 rfl (by decide) _ pre.length (ivals pre) rfl (own.alloc _) ⟨w.heap.size, 0, none⟩ 1 1 [.int .i64 x] rfl rfl (World.news_of_block (cs := #[.int .i64 x]) (Box.new w 3 #[.int .i64 x])) (fun u hu => by simp at hu; subst hu; rfl) (by decide) (by unfold maxLen; omega) (by omega) (by simp; omega) _ rfl ?_)
  intro g4 c4 w4 own4 hgr4 hloc4 hlt4
  have own1 := own.alloc (.cells #[.int .i64 x] 3)
  have y5 := (b5.alloc (.cells #[.int .i64 x] 3)).grown hgr4 (own_ne_box own1 (b5.alloc _) (by decide))
  have n53 : g3 ≠ g5 := Box.ne b3 b5 (by decide)
  have y3 := (b3.alloc (.cells #[.int .i64 x] 3)).grown hgr4 (fun he => by have := own1.lt g3 he.symm; omega)
  have BL : Below base w w4 := ((Below.refl _ w).alloc hb _).grown hgr4 (by simp; omega) (fun g hg => (own1.lt g hg).1)
  have hl : (Value.slice (some ⟨g4, 0, none⟩) (pre.length + 1) c4).ownBlock = (Value.slice A5 pre.length c5).ownBlock ∨ (Value.slice (some ⟨g4, 0, none⟩) (pre.length + 1) c4).ownBlock = some (w.alloc (.cells #[.int .i64 x] 3)).heap.size := by
    rcases hloc4 with h4 | h4
    · exact .inl h4.symm
    · exact .inr (by rw [h4]; simp [Value.ownBlock])
  have Z5 := y5.set 0 (.slice (some ⟨g4, 0, none⟩) (pre.length + 1) c4)
  have KB := kb_append (tmp := .cells #[.int .i64 x] 3) b5 Z5 hgr4 hl
  have OW := own4.kept (grownBy_setCell' w4 g5 (.slice (some ⟨g4, 0, none⟩) (pre.length + 1) c4)) (.inr (own_ne_box own4 y5 (by decide)).symm)
  have OW' : (w4.setCell ⟨g5, 0, none⟩ (.slice (some ⟨g4, 0, none⟩) (pre.length + 1) c4)).ownsRow base 3 1 (.slice (some ⟨g4, 0, none⟩) (pre ++ [x]).length c4) (pre ++ [x]).length (ivals (pre ++ [x])) := by
    rw [show ivals (pre ++ [x]) = ivals pre ++ [.int .i64 x] by simp [ivals], List.length_append]; exact OW
  have Z5' : Box (w4.setCell ⟨g5, 0, none⟩ (.slice (some ⟨g4, 0, none⟩) (pre.length + 1) c4)) g5 22 #[.slice (some ⟨g4, 0, none⟩) (pre ++ [x]).length c4] := by rw [List.length_append]; exact Z5
  have Z3 := y3.far' (i := 0) n53 (.slice (some ⟨g4, 0, none⟩) (pre.length + 1) c4)
  have B2 : Below base w (w4.setCell ⟨g5, 0, none⟩ (.slice (some ⟨g4, 0, none⟩) (pre.length + 1) c4)) := BL.setCell (p := ⟨g5, 0, none⟩) hg5 _
  clear k5 f5 hgr4 own own1 own4 OW BL Z5 hl hloc4
  have k5 := y5.cells
  have f5 := y5.free
  have k3 := y3.cells
  have l5 := y5.lt
  have l3 := y3.lt
  go_wp2
  go_ret
  exact ⟨rfl, ⟨Z3, _, c4, Z5', OW'⟩, KB, B2⟩
theorem take_len {α : Type} {p L : List α} {m : Nat} (h : p <+: L) (hm : p.length = m) : L.take m = p := by
  rw [← hm]; exact (List.prefix_iff_eq_take.1 h).symm
section
variable {A : Option Addr} {base0 base gt c : Nat} {ws : List Nat}
set_option maxRecDepth 100000 in
set_option maxHeartbeats 2000000 in
theorem beachf {Bl g3 g5 : Nat} {most : Int} {w : World} (hmo : 1 ≤ most) (T : Tb w) (hb : base ≤ w.heap.size) (hg5 : base ≤ g5) (hg3 : g3 < base)
    (hBl : Box w Bl 23 #[.pointer (some ⟨gt, 0, none⟩)]) (hS : SetB w base0 gt A c ws) (hF : FirB w base g3 g5 most []) :
    Calls Tryd.prog 32 #[.func (.func 26) #[] #[.pointer (some ⟨g5, 0, none⟩), .pointer (some ⟨g3, 0, none⟩)], .pointer (some ⟨Bl, 0, none⟩)] w fun e w' => e = .returned (.tuple #[]) ∧
      FirB w' base g3 g5 most ((allW ws).take most.toNat) ∧ Below base w w' := by
  have kl := hBl.cells
  have kS := hS.box.cells
  have lS := hS.box.lt
  have IS := Lib.hid (bis_any hS.box)
  have CL := Lib.hid (bclone_any hS.wf.len hS.own)
  clear hBl
  go_enter Tryd.func32, Tryd.ntmps32
  go_wp2_with fail
  refine IS.out.mono ?_
  rintro e _ ⟨rfl, rfl⟩
  go_wp2_with fail
  refine CL.out.mono ?_
  rintro e w1 ⟨A2, c2, rfl, own1, b1⟩
  have hF1 := hF.later b1
  have hrl : ∀ b, rowC w1 g5 = some b → b < w.heap.size ∧ b ≠ 0 := fun b he => by
    obtain ⟨_, A5, c5, h5, ow5⟩ := hF
    rw [rowC_below b1 h5.lt, rowC_boxed h5] at he
    have := ow5.lt b he
    omega
  have l5 : g5 < w.heap.size := by obtain ⟨_, A5, c5, h5, _⟩ := hF; exact h5.lt
  have hU0 : ∀ b, b = 0 ∨ w.heap.size ≤ b → (∃ o, w1.heap[b]? = some o ∧ o.isCells = true) → Un [g5] g5 w1 b := fun b hb hlt => by
    refine ⟨hlt, fun hm => ?_, fun he => ?_⟩
    · simp at hm; omega
    · have := hrl b he.symm; omega
  have hRd : RdW w1 A2 ws (Un [g5] g5 w1) := fun i hi => by
    obtain ⟨A3, c3, hv, hf⟩ := own_form own1
    obtain ⟨g2, hA, hg1, hg2⟩ := hf (by omega)
    injection hv with hv1 _ hv3
    subst hv1 hv3 hA
    have hc : w1.cell? ⟨g2, i, none⟩ = some (.int .u64 (ws[i] : Int)) := by rw [own1.cellAt i (by omega)]; exact wv_get _ _ hi
    exact ⟨g2, rfl, hc, hU0 g2 (.inr hg1) (cells_of_cell hc)⟩
  have hT1 := T.later b1
  have hU1 := hU0 0 (.inl rfl) (cells_of_cell (hT1 0 (by decide)))
  have hB1 := b1.mono hb
  have hlen := hS.wf.len
  have hwf := hS.wf
  clear hU0 own1 kl kS lS hS T b1 hF hrl
  go_wp2
  go_loopw [14] (fun i wr => ∃ k : Nat, k ≤ ws.length ∧ i = .int .i64 k ∧ FirB wr base g3 g5 most (belowW ws (64 * k)) ∧ ((belowW ws (64 * k)).length : Int) < most ∧ Below base w wr ∧ RdW wr A2 ws (Un [g5] g5 wr) ∧ Tb wr ∧ Un [g5] g5 wr 0) (fun i _ => ws.length - (intOf i).toNat)
  case atStart => exact ⟨0, by omega, rfl, hF1, by simp [belowW]; omega, hB1, hRd, hT1, hU1⟩
  case round =>
    clear hF1 hRd hT1 hU1 hB1
    obtain ⟨k, hk, rfl, hF, hlt, hB, hRd, hT, hU⟩ := hrel
    by_cases hkn : k < ws.length
    · obtain ⟨g2, rfl, hcl, hu2⟩ := hRd k hkn
      have hx := hwf.lt _ (List.getElem_mem hkn)
      have hlast : Hid (∀ j, j ≤ 64 → ws[k] / 2 ^ j * 2 ^ j = 0 → belowW ws (64 * k + j) = belowW ws (64 * (k + 1))) := fun j hj h => below_word hkn hj (cut_zero h)
      have hnext : Hid (∀ j, j ≤ 64 → ws[k] / 2 ^ j * 2 ^ j ≠ 0 → ∃ t, Lib.ctz 64 (ws[k] / 2 ^ j * 2 ^ j) = t ∧ j ≤ t ∧ t < 64 ∧ (ws[k] / 2 ^ j * 2 ^ j) &&& (ws[k] / 2 ^ j * 2 ^ j - 1) = ws[k] / 2 ^ (t + 1) * 2 ^ (t + 1) ∧ belowW ws (64 * k + (t + 1)) = belowW ws (64 * k + j) ++ [64 * (k : Int) + (t : Int)]) := fun j hj h => by
        obtain ⟨t, h1, h2, h3, h4, h5, h6⟩ := cut_next hx h
        exact ⟨t, h1, h2, h3, h6, below_next hkn h2 h3 h4 h5⟩
      clear hcl hu2
      obtain ⟨g2', hA, hcl, hu2⟩ := hRd k hkn
      injection hA with hA; injection hA with hA; subst hA
      generalize hxk : ws[k] = x at *
      clear hxk hu2
      go_wp2
      go_loopw [4] (fun s wr => ∃ j : Nat, j ≤ 64 ∧ s = .int .u64 ((x / 2 ^ j * 2 ^ j : Nat) : Int) ∧ FirB wr base g3 g5 most (belowW ws (64 * k + j)) ∧ ((belowW ws (64 * k + j)).length : Int) < most ∧ Below base w wr ∧ RdW wr (some ⟨g2, 0, none⟩) ws (Un [g5] g5 wr) ∧ Tb wr ∧ Un [g5] g5 wr 0) (fun s _ => (intOf s).toNat)
      case atStart => exact ⟨0, by omega, by simp, hF, hlt, hB, hRd, hT, hU⟩
      case round =>
        clear hF hRd hT hU hcl hB hlt
        obtain ⟨j, hj, rfl, hF, hlt, hB, hRd, hT, hU⟩ := hrel
        have hv : x / 2 ^ j * 2 ^ j < 18446744073709551616 := Nat.lt_of_le_of_lt (Nat.div_mul_le_self _ _) hx
        have hpl := belowW_len ws (64 * k + j)
        by_cases hz : x / 2 ^ j * 2 ^ j = 0
        · rw [hlast.out j hj hz] at hF hlt
          rw [hz]
          clear hv hz hnext hlast
          go_wp2
          go_roundw
          case rel => exact ⟨k + 1, by omega, by go_num, hF, hlt, hB, hRd, hT, hU⟩
          case measure => simp [intOf]; omega
        · obtain ⟨t, h1, h2, h3, h4, h5⟩ := hnext.out j hj hz
          have TZ := Lib.hid (tz64_any _ hv hz wr hT)
          rw [h1] at TZ
          have hy : x / 2 ^ (t + 1) * 2 ^ (t + 1) < x / 2 ^ j * 2 ^ j := by
            rw [← h4]
            exact Nat.lt_of_le_of_lt Nat.and_le_right (by omega)
          have hand : bits .and .u64 ((x / 2 ^ j * 2 ^ j : Nat) : Int) (((x / 2 ^ j * 2 ^ j : Nat) : Int) - 1) = ((x / 2 ^ (t + 1) * 2 ^ (t + 1) : Nat) : Int) := by
            rw [show (((x / 2 ^ j * 2 ^ j : Nat) : Int) - 1) = ((x / 2 ^ j * 2 ^ j - 1 : Nat) : Int) by omega, bits_and_u64_nat _ _ (by omega) (by omega), h4]
          generalize hy9 : x / 2 ^ (t + 1) * 2 ^ (t + 1) = y at *
          replace hy9 := Lib.hid hy9
          clear h1 h4 hnext hlast
          generalize x / 2 ^ j * 2 ^ j = v at *
          have FI := bfirst1 (64 * (k : Int) + (t : Int)) (by omega) (Nat.le_trans hb hB.size) hg5 hg3 hF
          rw [← h5] at FI
          have hsl : (belowW ws (64 * k + (t + 1))).length = (belowW ws (64 * k + j)).length + 1 := by rw [h5]; simp
          have hpre := belowW_pre (ws := ws) (B := 64 * k + (t + 1)) (C := 64 * ws.length) (by omega)
          replace FI := Lib.hid FI
          have TK : Hid ((((belowW ws (64 * k + j)).length + 1 : Nat) : Int) = most → (allW ws).take most.toNat = belowW ws (64 * k + (t + 1))) := fun h => take_len hpre (by rw [hsl]; omega)
          replace hsl := Lib.hid hsl
          generalize belowW ws (64 * k + j) = pre at *
          clear hpre h5
          have hzi : ((v : Int) == 0) = false := by simp; omega
          go_wp2_with fail
          refine TZ.out.mono ?_
          rintro e _ ⟨rfl, rfl⟩
          go_wp2_with fail
          refine FI.out.mono ?_
          rintro e w3 ⟨rfl, hF3, hk3, hb3⟩
          have hU3 := hk3.un hU
          have hT3 := hT.of0 hU3.1
          have hRd3 : RdW w3 (some ⟨g2, 0, none⟩) ws (Un [g5] g5 w3) := fun i hi => by
            obtain ⟨b, hA, hc, hu⟩ := hRd i hi
            have hu3 := hk3.un hu
            exact ⟨b, hA, (World.cell?_of_block (w := wr) (a := ⟨b, i, none⟩) hu3.1).trans hc, hu3.2⟩
          have hB3 := hB.trans hb3
          clear hk3 hRd hT hU hF hB
          by_cases hgo : (pre.length : Int) + 1 < most
          · have hgd : decide ((pre.length : Int) + 1 < most) = true := decide_eq_true hgo
            go_wp2
            go_roundw
            case rel => exact ⟨t + 1, by omega, by rw [hy9.out], hF3, by rw [hsl.out]; omega, hB3, hRd3, hT3, hU3.2⟩
            case measure => simp [intOf]; omega
          · have hgd : decide ((pre.length : Int) + 1 < most) = false := decide_eq_false hgo
            have TK2 := Lib.hid (TK.out (by omega))
            clear hgo TK hlt
            go_wp2
            refine bodyPost_ret (results_none rfl _ _ _) rfl ?_
            exact ⟨rfl, by rw [TK2.out]; exact hF3, hB3⟩
    · obtain rfl : k = ws.length := by omega
      have ht : (allW ws).take most.toNat = belowW ws (64 * ws.length) := by
        show (belowW ws (64 * ws.length)).take _ = _
        exact List.take_of_length_le (by omega)
      go_wp2
      go_end0
      exact ⟨rfl, by rw [ht]; exact hF, hB⟩
theorem run_eql_seq (w : World) (f : Fn) (b c : Array Value) : (binOp .eql 46 (.func f b c) .nilFunc).run Tryd.prog w = .ok (.bool false) w := by
  have h1 : ∀ d : Nat, (Op.equalIn (d + 1) 46 (.func f b c) .nilFunc).run Tryd.prog w = .ok false w := fun d => by simp [Op.equalIn, run_underlying Tryd.underlying46]
  simp only [binOp]
  simp [Op.equal, Op.maxDepth, h1 9999]
set_option maxRecDepth 100000 in
set_option maxHeartbeats 2000000 in
theorem bfirst_any {w : World} (most : Int) (hmo : 1 ≤ most) (T : Tb w) (hS : SetB w base0 gt A c ws) :
    Calls Tryd.prog 16 #[.pointer (some ⟨gt, 0, none⟩), .int .i64 most] w (NewRow ((allW ws).take most.toNat) w) := by
  have EA := Lib.hid fun (p : Option Addr) (w : World) => beach_any p w
  have B3 : Below w.heap.size w (((w.alloc (.cells #[.int .i64 most] 3)).alloc (.cells #[.slice none 0 0] 22)).alloc (.cells #[.pointer (some ⟨gt, 0, none⟩)] 23)) := (((Below.refl _ w).alloc (Nat.le_refl _) _).alloc (by simp) _).alloc (by simp; omega) _
  have F3 : FirB (((w.alloc (.cells #[.int .i64 most] 3)).alloc (.cells #[.slice none 0 0] 22)).alloc (.cells #[.pointer (some ⟨gt, 0, none⟩)] 23)) (w.heap.size + 1) w.heap.size (w.heap.size + 1) most [] :=
    ⟨((Box.new w _ _).alloc _).alloc _, none, 0, (Box.new' (w := w.alloc (.cells #[.int .i64 most] 3)) (by simp)).alloc _, World.ownsRow_nil _ _ _ _⟩
  have E := Lib.hid (beachf (base := w.heap.size + 1) hmo (T.later B3) (by simp) (Nat.le_refl _) (by omega) (Box.new' (w := (w.alloc (.cells #[.int .i64 most] 3)).alloc (.cells #[.slice none 0 0] 22)) (g := w.heap.size + 1 + 1) (by simp)) (hS.later B3) F3)
  clear F3 hS T
  generalize (allW ws).take most.toNat = L at *
  have EQ := run_eql_seq
  go_enter Tryd.func16, Tryd.ntmps16
  go_wp2_with fail
  refine (EA.out _ _).mono ?_
  rintro e _ ⟨rfl, rfl⟩
  go_wp2_with fail
  refine E.out.mono ?_
  rintro e w4 ⟨rfl, ⟨_, A5, c5, y5, own5⟩, b4⟩
  have k5 := y5.cells
  have l5 := y5.lt
  have B4 := B3.trans (b4.mono (Nat.le_add_right _ 1))
  have own6 := own_base (base' := w.heap.size) own5 (Nat.le_add_right _ 1)
  have hcap := own_cap own5
  clear y5 B3 b4
  go_wp2
  go_ret
  exact ⟨A5, c5, rfl, hcap.1, hcap.2, own6, B4⟩
end
end Go.Proofs.YtgilmpakdohijaaDoor
