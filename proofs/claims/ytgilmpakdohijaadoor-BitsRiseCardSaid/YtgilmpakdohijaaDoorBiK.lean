/-
  BitsPlay: whatever is put into a set and taken out of it, it tells what the document says, call by call.
-/
import Derived.Test.YtgilmpakdohijaaDoorBiJ
namespace Go.Proofs.YtgilmpakdohijaaDoor
open Go.RowKit

/-- A slice of calls that came in: element i lies at two cells. -/
def ActsAt (w : World) (A : Option Addr) (l : List (Int × Int)) : Prop :=
  0 < l.length → ∃ b off, A = some ⟨b, off, none⟩ ∧ b < w.heap.size ∧ ∀ j (h : j < l.length), w.cell? ⟨b, off + j * 2, none⟩ = some (.int .i64 l[j].1) ∧ w.cell? ⟨b, off + j * 2 + 1, none⟩ = some (.int .i64 l[j].2)

theorem acts_of {w : World} {A : Option Addr} {n : Nat} {xs : List Int} (hl : xs.length = n * 2) (hr : RowAt w A (ivals xs)) :
    ∃ l : List (Int × Int), l.length = n ∧ ActsAt w A l := by
  refine ⟨(List.range n).map fun i => (xs[i * 2]?.getD 0, xs[i * 2 + 1]?.getD 0), by simp, fun hn => ?_⟩
  · simp only [List.length_map, List.length_range] at hn
    obtain ⟨b, off, rfl, hb, hc⟩ := hr.iget (by omega)
    refine ⟨b, off, rfl, hb, fun j hj => ?_⟩
    simp only [List.length_map, List.length_range] at hj
    simp only [List.getElem_map, List.getElem_range]
    have h1 := hc (j * 2) (by omega)
    have h2 := hc (j * 2 + 1) (by omega)
    rw [List.getElem?_eq_getElem (by omega), List.getElem?_eq_getElem (by omega)]
    exact ⟨h1, by rw [Nat.add_assoc]; exact h2⟩

/-- A row beside one set. -/
structure Fr (W : World) (g : Nat) (A1 A : Option Addr) (xs : List Value) : Prop where
  row : RowAt W A xs
  ap : ∀ b off, A = some ⟨b, off, none⟩ → b < W.heap.size ∧ b ≠ g ∧ oB A1 ≠ some b
section
variable {W W' : World} {g base c : Nat} {A1 A1' A A' : Option Addr} {ws : List Nat} {xs ys : List Value}
theorem Fr.chg (h : Fr W g A1 A xs) (hC : Chg W W' g (oB A1)) (hM : Moved W (oB A1) (oB A1')) : Fr W' g A1' A xs := by
  refine ⟨fun hn => ?_, fun b off he => ?_⟩
  · obtain ⟨b, off, he, hlt, hc⟩ := h.row hn
    have h1 := h.ap b off he
    exact ⟨b, off, he, Nat.lt_of_lt_of_le hlt hC.size, fun j u hj => (World.cell?_of_block (a := ⟨b, off + j, none⟩) (hC.block b hlt h1.2.1 (fun e => h1.2.2 e.symm))).trans (hc j u hj)⟩
  · have h1 := h.ap b off he
    refine ⟨Nat.lt_of_lt_of_le h1.1 hC.size, h1.2.1, fun e => ?_⟩
    rcases hM with h2 | ⟨b', h2, h3⟩
    · rw [h2] at e; exact h1.2.2 e
    · rw [h2] at e; injection e with e; omega
theorem Fr.later (h : Fr W g A1 A xs) (b : Below W.heap.size W W') : Fr W' g A1 A xs := ⟨h.row.below b (Nat.le_refl _), fun b' off he => ⟨Nat.lt_of_lt_of_le (h.ap b' off he).1 b.size, (h.ap b' off he).2⟩⟩
theorem Fr.turn (h : Fr W g A1 A xs) (hS : SetB W base g A1 c ws) (hb : Below W.heap.size W W') (hr : RowAt W' A' ys) (hn : NewA W W' A A') : Fr W' g A1 A' ys := by
  refine ⟨hr, fun b off he => ?_⟩
  rcases hn with rfl | hn
  · exact (h.later hb).ap b off he
  · have h1 := hn b off he
    have h2 := hS.box.lt
    refine ⟨h1.2, by omega, fun e => ?_⟩
    have := hS.row_lt e
    omega
end
theorem below_undrew {w w' : World} (h : Below w.drew.heap.size w.drew w') : Below w.heap.size w w' := ⟨h.os, h.tape, h.output, h.size, h.block⟩
theorem SetB.drew {w : World} {base g c : Nat} {A : Option Addr} {ws : List Nat} (h : SetB w base g A c ws) : SetB w.drew base g A c ws := ⟨h.box.drew, h.own, h.wf⟩
section
variable {A : Option Addr} {c : Nat} {l : List (Int × Int)} {w : World}
set_option maxRecDepth 100000 in
set_option maxHeartbeats 4000000 in
theorem bitsPlay_law (n : Int) (hrow : ActsAt w A l) (T : Tb w) :
    Calls Tryd.prog 5 #[.slice A l.length c, .int .i64 n] w fun e w' => e = .returned (.bool true) ∧ Below w.heap.size w w' := by
  have AW := Lib.hid fun w (T : Tb w) => bawake_any w T
  have NW := Lib.hid fun (w : World) => bnew_any w
  have hT0 : 1 ≤ w.heap.size := World.block_lt_of_cell? w _ (T 0 (by decide))
  have TT := Lib.hid T
  clear T
  have hB0 : Below w.heap.size w (w.alloc (.cells #[.slice none 0 0, .bool true] 51)) := (Below.refl _ w).alloc (Nat.le_refl _) _
  have hS0 : SetB (w.alloc (.cells #[.slice none 0 0, .bool true] 51)) w.heap.size w.heap.size none 0 [] := ⟨Box.new w _ _, World.ownsRow_nil _ _ _ _, ⟨by decide, by simp⟩⟩
  go_enter Tryd.func5, Tryd.ntmps5
  go_wp2_with fail
  refine (NW.out _).mono ?_
  rintro e _ ⟨rfl, rfl⟩
  generalize hw : (w.alloc (.cells #[.slice none 0 0, .bool true] 51)) = W0 at *
  clear hw
  by_cases h1 : 100 < l.length
  · go_wp2_with fail
    refine (AW.out _ (TT.out.later hB0)).mono ?_
    rintro e w9 ⟨rfl, h9⟩
    go_wp2
    go_ret
    exact ⟨rfl, hB0.trans (h9.mono hB0.size)⟩
  · go_wp2
    go_loopw [6, 7] (fun o i wr => ∃ (k : Nat) (A1 Ax : Option Addr) (c1 cx : Nat) (ws : List Nat) (X : List Int), k ≤ l.length ∧ o = .slice Ax X.length cx ∧ i = .int .i64 k ∧ X.length ≤ cx ∧ cx ≤ maxLen ∧ SetB wr w.heap.size w.heap.size A1 c1 ws ∧ allW ws = X ∧ Fr wr w.heap.size A1 Ax (ivals X) ∧ Below w.heap.size w wr) (fun _ i _ => l.length - (intOf i).toNat)
    case atStart => exact ⟨0, none, none, 0, 0, [], [], by omega, rfl, rfl, Nat.le_refl _, by unfold maxLen; omega, hS0, rfl, ⟨RowAt.nil _ _, fun b off h => by cases h⟩, hB0⟩
    case round =>
      clear hS0 hB0
      obtain ⟨k, A1, Ax, c1, cx, ws, X, hk, rfl, rfl, hxc, hxm, hS, hall, F, hB⟩ := hrel
      by_cases hkl : k < l.length
      · obtain ⟨Ab, off, rfl, hAb, hcell⟩ := hrow (by omega)
        obtain ⟨x1, x2⟩ := hcell k hkl
        generalize hx : l[k] = x at x1 x2
        obtain ⟨kind, n0⟩ := x
        clear hx hcell hrow
        simp only at x1 x2
        have y1 : wr.cell? ⟨Ab, off + k * 2, none⟩ = some (.int .i64 kind) := (hB.cell (by exact hAb)).trans x1
        have y2 : wr.cell? ⟨Ab, off + k * 2 + 1, none⟩ = some (.int .i64 n0) := (hB.cell (by exact hAb)).trans x2
        have DO := bdo_any kind n0 hB.size hS
        have hXl : X.length ≤ 65536 := by rw [← hall]; exact allW_len hS.wf
        have hXi : InR X := by rw [← hall]; exact allW_in hS.wf
        rw [hall] at DO
        have RD := fun w (hr : RowAt w Ax (ivals X)) => refdo_any (c := cx) kind n0 (by omega) hxc hxm hr hXi
        obtain ⟨r, hr⟩ : ∃ r, r = doE X kind n0 := ⟨_, rfl⟩
        obtain ⟨Y, hY⟩ : ∃ Y, Y = doL X kind n0 := ⟨_, rfl⟩
        rw [← hr, ← hY] at DO RD
        clear hr hY
        replace DO := Lib.hid DO
        replace RD := Lib.hid RD
        go_wp2_with fail
        refine DO.out.mono ?_
        rintro e W3 ⟨A3, c3, ws3, rfl, hS3, hall3, hC, hM⟩
        replace F := F.chg hC hM
        have hB3 := hB.trans (hC.below (Nat.le_refl _) (fun b hb => (hS.row_lt hb).1) hB.size)
        have y1 : W3.cell? ⟨Ab, off + k * 2, none⟩ = some (.int .i64 kind) := (hB3.cell (by exact hAb)).trans x1
        have y2 : W3.cell? ⟨Ab, off + k * 2 + 1, none⟩ = some (.int .i64 n0) := (hB3.cell (by exact hAb)).trans x2
        clear hS hall hB DO hC hM
        go_wp2_with fail
        refine (RD.out _ F.row).mono ?_
        rintro e W4 ⟨A4, c4, rfl, h41, h42, hr4, b4, n4⟩
        have F4 := F.turn hS3 b4 hr4 n4
        have hS4 := hS3.later b4
        have hB4 := hB3.trans (b4.mono hB3.size)
        have y4 : W4.cell? ⟨Ab, off + k * 2 + 1, none⟩ = some (.int .i64 n0) := (hB4.cell (by exact hAb)).trans x2
        clear F hr4 hS3 hB3 n4 RD y1 y2 b4
        have hYl : Y.length ≤ 65536 := by rw [← hall3]; exact allW_len hS4.wf
        have LE := blen_any hS4.drew
        rw [hall3] at LE
        have hC4 := F4.row.drew
        have HS1 := bhas_q n hS4.drew hall3 rfl
        have HR1 := has_any (c := c4) (n := n) (by unfold maxLen; omega) hC4
        have HS2 := bhas_q n0 hS4.drew hall3 rfl
        have HR2 := has_any (c := c4) (n := n0) (by unfold maxLen; omega) hC4
        have AL := ball_any ((TT.out.later hB4).drew) hS4.drew
        rw [hall3] at AL
        generalize decide (n ∈ Y) = q1 at *
        generalize decide (n0 ∈ Y) = q2 at *
        replace LE := Lib.hid LE
        replace HS1 := Lib.hid HS1
        replace HS2 := Lib.hid HS2
        replace HR1 := Lib.hid HR1
        replace HR2 := Lib.hid HR2
        replace AL := Lib.hid AL
        clear hC4
        go_upto_region 11 with fail
        refine wp_region_noPanic ?_
        refine wp_region_held_drew (S := (fun w' => w'.cell? ⟨Ab, off + k * 2 + 1, none⟩ = some (.int .i64 n0))) (by kernel_rfl) ?_ (fun hHeld => ?_)
        · go_keep
        refine wpAnyH_take (i := 0) (v := ?vb0) rfl (by kernel_rfl) (by kernel_rfl) (by kernel_rfl) (fun _ _ _ h => h) (Or.inl ⟨by kernel_rfl, ?hyb0⟩) (by assumption) ?restb0
        case hyb0 => (intro w hSw; (try dsimp only at hSw); go_simp; (try with_reducible rfl))
        go_simp
        refine wpAnyH_take (i := 1) (v := ?vb1) rfl (by kernel_rfl) (by kernel_rfl) (by kernel_rfl) (fun _ _ _ h => h) (Or.inl ⟨by kernel_rfl, ?hyb1⟩) (by assumption) ?restb1
        case hyb1 => (intro w hSw; (try dsimp only at hSw); go_simp; (try with_reducible rfl))
        go_simp
        refine wpAnyH_take (i := 2) (v := ?vb2) rfl (by kernel_rfl) (by kernel_rfl) (by kernel_rfl) (fun _ _ _ h => h) (Or.inl ⟨by kernel_rfl, ?hyb2⟩) (by assumption) ?restb2
        case hyb2 => (intro w hSw; (try dsimp only at hSw); go_simp; (try with_reducible rfl))
        go_simp
        refine wpAnyH_take (i := 3) (v := ?vb3) rfl (by kernel_rfl) (by kernel_rfl) (by kernel_rfl) (fun _ _ _ h => h) (Or.inl ⟨by kernel_rfl, ?hyb3⟩) (by assumption) ?restb3
        case hyb3 => (intro w hSw; (try dsimp only at hSw); go_simp; (try with_reducible rfl))
        go_simp
        refine wpAnyH_take (i := 4) (v := ?vb4) rfl (by kernel_rfl) (by kernel_rfl) (by kernel_rfl) (fun _ _ _ h => h) (Or.inl ⟨by kernel_rfl, ?hyb4⟩) (by assumption) ?restb4
        case hyb4 => (intro w hSw; (try dsimp only at hSw); go_simp; (try with_reducible rfl))
        go_simp
        refine wpAnyH_take (i := 6) (v := ?vb6) rfl (by kernel_rfl) (by kernel_rfl) (by kernel_rfl) (fun _ _ _ h => h) (Or.inl ⟨by kernel_rfl, ?hyb6⟩) (by assumption) ?restb6
        case hyb6 => (intro w hSw; (try dsimp only at hSw); go_simp; (try with_reducible rfl))
        go_simp
        refine wpAnyH_take (i := 7) (v := ?vb7) rfl (by kernel_rfl) (by kernel_rfl) (by kernel_rfl) (fun _ _ _ h => h) (Or.inl ⟨by kernel_rfl, ?hyb7⟩) (by assumption) ?restb7
        case hyb7 => (intro w hSw; (try dsimp only at hSw); go_simp; (try with_reducible rfl))
        go_simp
        refine wpAnyH_ready (rs := [5]) (by kernel_rfl) (by simp) ?_
        refine AllReadyH.cons rfl (fun K hK => ?_) AllReadyH.nil
        rw [if_pos (by kernel_rfl)]
        go_simp
        refine LE.out.mono ?_
        rintro e _ ⟨rfl, rfl⟩
        go_wp2_with fail
        refine hK.out _ _ (by go_keep) (fun hHeld => ?_)
        clear hK K
        go_simp
        refine wpAnyH_take (i := 8) (v := ?vb8) rfl (by kernel_rfl) (by kernel_rfl) (by kernel_rfl) (fun _ _ _ h => h) (Or.inl ⟨by kernel_rfl, ?hyb8⟩) (by assumption) ?restb8
        case hyb8 => (intro w hSw; (try dsimp only at hSw); go_simp; (try with_reducible rfl))
        go_simp
        refine wpAnyH_take (i := 9) (v := ?vb9) rfl (by kernel_rfl) (by kernel_rfl) (by kernel_rfl) (fun _ _ _ h => h) (Or.inl ⟨by kernel_rfl, ?hyb9⟩) (by assumption) ?restb9
        case hyb9 => (intro w hSw; (try dsimp only at hSw); go_simp; (try with_reducible rfl))
        go_simp
        refine wpAnyH_take (i := 10) (v := ?vb10) rfl (by kernel_rfl) (by kernel_rfl) (by kernel_rfl) (fun _ _ _ h => h) (Or.inl ⟨by kernel_rfl, ?hyb10⟩) (by assumption) ?restb10
        case hyb10 => (intro w hSw; (try dsimp only at hSw); go_simp; (try with_reducible rfl))
        go_simp
        refine wpAnyH_take (i := 11) (v := ?vb11) rfl (by kernel_rfl) (by kernel_rfl) (by kernel_rfl) (fun _ _ _ h => h) (Or.inl ⟨by kernel_rfl, ?hyb11⟩) (by assumption) ?restb11
        case hyb11 => (intro w hSw; (try dsimp only at hSw); go_simp; (try with_reducible rfl))
        go_simp
        refine wpAnyH_take (i := 12) (v := ?vb12) rfl (by kernel_rfl) (by kernel_rfl) (by kernel_rfl) (fun _ _ _ h => h) (Or.inl ⟨by kernel_rfl, ?hyb12⟩) (by assumption) ?restb12
        case hyb12 => (intro w hSw; (try dsimp only at hSw); go_simp; (try with_reducible rfl))
        go_simp
        refine wpAnyH_take (i := 14) (v := ?vb14) rfl (by kernel_rfl) (by kernel_rfl) (by kernel_rfl) (fun _ _ _ h => h) (Or.inl ⟨by kernel_rfl, ?hyb14⟩) (by assumption) ?restb14
        case hyb14 => (intro w hSw; (try dsimp only at hSw); go_simp; (try with_reducible rfl))
        go_simp
        refine wpAnyH_take (i := 15) (v := ?vb15) rfl (by kernel_rfl) (by kernel_rfl) (by kernel_rfl) (fun _ _ _ h => h) (Or.inl ⟨by kernel_rfl, ?hyb15⟩) (by assumption) ?restb15
        case hyb15 => (intro w hSw; (try dsimp only at hSw); go_simp; (try with_reducible rfl))
        go_simp
        refine wpAnyH_ready (rs := [13]) (by kernel_rfl) (by simp) ?_
        refine AllReadyH.cons rfl (fun K hK => ?_) AllReadyH.nil
        rw [if_pos (by kernel_rfl)]
        go_simp
        refine HS1.out.mono ?_
        rintro e _ ⟨rfl, rfl⟩
        go_wp2_with fail
        refine hK.out _ _ (by go_keep) (fun hHeld => ?_)
        clear hK K
        go_simp
        refine wpAnyH_ready (rs := [16]) (by kernel_rfl) (by simp) ?_
        refine AllReadyH.cons rfl (fun K hK => ?_) AllReadyH.nil
        rw [if_pos (by kernel_rfl)]
        go_simp
        refine HR1.out.mono ?_
        rintro e _ ⟨rfl, rfl⟩
        go_wp2_with fail
        refine hK.out _ _ (by go_keep) (fun hHeld => ?_)
        clear hK K
        go_simp
        refine wpAnyH_take (i := 17) (v := ?vb17) rfl (by kernel_rfl) (by kernel_rfl) (by kernel_rfl) (fun _ _ _ h => h) (Or.inl ⟨by kernel_rfl, ?hyb17⟩) (by assumption) ?restb17
        case hyb17 => (intro w hSw; (try dsimp only at hSw); go_simp; (try with_reducible rfl))
        go_simp
        refine wpAnyH_take (i := 18) (v := ?vb18) rfl (by kernel_rfl) (by kernel_rfl) (by kernel_rfl) (fun _ _ _ h => h) (Or.inl ⟨by kernel_rfl, ?hyb18⟩) (by assumption) ?restb18
        case hyb18 => (intro w hSw; (try dsimp only at hSw); go_simp; (try with_reducible rfl))
        go_simp
        refine wpAnyH_take (i := 19) (v := ?vb19) rfl (by kernel_rfl) (by kernel_rfl) (by kernel_rfl) (fun _ _ _ h => h) (Or.inl ⟨by kernel_rfl, ?hyb19⟩) (by assumption) ?restb19
        case hyb19 => (intro w hSw; (try dsimp only at hSw); go_simp; (try with_reducible rfl))
        go_simp
        refine wpAnyH_take (i := 20) (v := ?vb20) rfl (by kernel_rfl) (by kernel_rfl) (by kernel_rfl) (fun _ _ _ h => h) (Or.inl ⟨by kernel_rfl, ?hyb20⟩) (by assumption) ?restb20
        case hyb20 => (intro w hSw; (try dsimp only at hSw); go_simp; (try with_reducible rfl))
        go_simp
        refine wpAnyH_take (i := 21) (v := ?vb21) rfl (by kernel_rfl) (by kernel_rfl) (by kernel_rfl) (fun _ _ _ h => h) (Or.inl ⟨by kernel_rfl, ?hyb21⟩) (by assumption) ?restb21
        case hyb21 => (intro w hSw; (try dsimp only at hSw); go_simp; (try with_reducible rfl))
        go_simp
        refine wpAnyH_take (i := 22) (v := ?vb22) rfl (by kernel_rfl) (by kernel_rfl) (by kernel_rfl) (fun _ _ _ h => h) (Or.inl ⟨by kernel_rfl, ?hyb22⟩) (by assumption) ?restb22
        case hyb22 => (intro w hSw; (try dsimp only at hSw); go_simp; (try with_reducible rfl))
        go_simp
        refine wpAnyH_take (i := 23) (v := ?vb23) rfl (by kernel_rfl) (by kernel_rfl) (by kernel_rfl) (fun _ _ _ h => h) (Or.inl ⟨by kernel_rfl, ?hyb23⟩) (by assumption) ?restb23
        case hyb23 => (intro w hSw; (try dsimp only at hSw); go_simp; (try with_reducible rfl))
        go_simp
        refine wpAnyH_take (i := 24) (v := ?vb24) rfl (by kernel_rfl) (by kernel_rfl) (by kernel_rfl) (fun _ _ _ h => h) (Or.inl ⟨by kernel_rfl, ?hyb24⟩) (by assumption) ?restb24
        case hyb24 => (intro w hSw; (try dsimp only at hSw); go_simp; (try with_reducible rfl))
        go_simp
        refine wpAnyH_take (i := 25) (v := ?vb25) rfl (by kernel_rfl) (by kernel_rfl) (by kernel_rfl) (fun _ _ _ h => h) (Or.inl ⟨by kernel_rfl, ?hyb25⟩) (by assumption) ?restb25
        case hyb25 => (intro w hSw; (try dsimp only at hSw); go_simp; (try with_reducible rfl))
        go_simp
        refine wpAnyH_take (i := 27) (v := ?vb27) rfl (by kernel_rfl) (by kernel_rfl) (by kernel_rfl) (fun _ _ _ h => h) (Or.inl ⟨by kernel_rfl, ?hyb27⟩) (by assumption) ?restb27
        case hyb27 => (intro w hSw; (try dsimp only at hSw); go_simp; (try with_reducible rfl))
        go_simp
        refine wpAnyH_take (i := 28) (v := ?vb28) rfl (by kernel_rfl) (by kernel_rfl) (by kernel_rfl) (fun _ _ _ h => h) (Or.inl ⟨by kernel_rfl, ?hyb28⟩) (by assumption) ?restb28
        case hyb28 => (intro w hSw; (try dsimp only at hSw); go_simp; (try with_reducible rfl))
        go_simp
        refine wpAnyH_take (i := 29) (v := ?vb29) rfl (by kernel_rfl) (by kernel_rfl) (by kernel_rfl) (fun _ _ _ h => h) (Or.inl ⟨by kernel_rfl, ?hyb29⟩) (by assumption) ?restb29
        case hyb29 => (intro w hSw; (try dsimp only at hSw); go_simp; (try with_reducible rfl))
        go_simp
        refine wpAnyH_take (i := 30) (v := ?vb30) rfl (by kernel_rfl) (by kernel_rfl) (by kernel_rfl) (fun _ _ _ h => h) (Or.inl ⟨by kernel_rfl, ?hyb30⟩) (by assumption) ?restb30
        case hyb30 => (intro w hSw; (try dsimp only at hSw); go_simp; (try with_reducible rfl))
        go_simp
        refine wpAnyH_take (i := 31) (v := ?vb31) rfl (by kernel_rfl) (by kernel_rfl) (by kernel_rfl) (fun _ _ _ h => h) (Or.inl ⟨by kernel_rfl, ?hyb31⟩) (by assumption) ?restb31
        case hyb31 => (intro w hSw; (try dsimp only at hSw); go_simp; (try with_reducible rfl))
        go_simp
        refine wpAnyH_take (i := 32) (v := ?vb32) rfl (by kernel_rfl) (by kernel_rfl) (by kernel_rfl) (fun _ _ _ h => h) (Or.inl ⟨by kernel_rfl, ?hyb32⟩) (by assumption) ?restb32
        case hyb32 => (intro w hSw; (try dsimp only at hSw); go_simp; (try with_reducible rfl))
        go_simp
        refine wpAnyH_ready (rs := [26]) (by kernel_rfl) (by simp) ?_
        refine AllReadyH.cons rfl (fun K hK => ?_) AllReadyH.nil
        rw [if_pos (by kernel_rfl)]
        go_simp
        refine HS2.out.mono ?_
        rintro e _ ⟨rfl, rfl⟩
        go_wp2_with fail
        refine hK.out _ _ (by go_keep) (fun hHeld => ?_)
        clear hK K
        go_simp
        refine wpAnyH_ready (rs := [33]) (by kernel_rfl) (by simp) ?_
        refine AllReadyH.cons rfl (fun K hK => ?_) AllReadyH.nil
        rw [if_pos (by kernel_rfl)]
        go_simp
        refine HR2.out.mono ?_
        rintro e _ ⟨rfl, rfl⟩
        go_wp2_with fail
        refine hK.out _ _ (by go_keep) (fun hHeld => ?_)
        clear hK K
        go_simp
        refine wpAnyH_take (i := 34) (v := ?vb34) rfl (by kernel_rfl) (by kernel_rfl) (by kernel_rfl) (fun _ _ _ h => h) (Or.inl ⟨by kernel_rfl, ?hyb34⟩) (by assumption) ?restb34
        case hyb34 => (intro w hSw; (try dsimp only at hSw); go_simp; (try with_reducible rfl))
        go_simp
        refine wpAnyH_take (i := 35) (v := ?vb35) rfl (by kernel_rfl) (by kernel_rfl) (by kernel_rfl) (fun _ _ _ h => h) (Or.inl ⟨by kernel_rfl, ?hyb35⟩) (by assumption) ?restb35
        case hyb35 => (intro w hSw; (try dsimp only at hSw); go_simp; (try with_reducible rfl))
        go_simp
        refine wpAnyH_take (i := 36) (v := ?vb36) rfl (by kernel_rfl) (by kernel_rfl) (by kernel_rfl) (fun _ _ _ h => h) (Or.inl ⟨by kernel_rfl, ?hyb36⟩) (by assumption) ?restb36
        case hyb36 => (intro w hSw; (try dsimp only at hSw); go_simp; (try with_reducible rfl))
        go_simp
        refine wpAnyH_take (i := 37) (v := ?vb37) rfl (by kernel_rfl) (by kernel_rfl) (by kernel_rfl) (fun _ _ _ h => h) (Or.inl ⟨by kernel_rfl, ?hyb37⟩) (by assumption) ?restb37
        case hyb37 => (intro w hSw; (try dsimp only at hSw); go_simp; (try with_reducible rfl))
        go_simp
        refine wpAnyH_take (i := 39) (v := ?vb39) rfl (by kernel_rfl) (by kernel_rfl) (by kernel_rfl) (fun _ _ _ h => h) (Or.inl ⟨by kernel_rfl, ?hyb39⟩) (by assumption) ?restb39
        case hyb39 => (intro w hSw; (try dsimp only at hSw); go_simp; (try with_reducible rfl))
        go_simp
        refine wpAnyH_ready (rs := [38]) (by kernel_rfl) (by simp) ?_
        refine AllReadyH.cons rfl (fun K hK => ?_) AllReadyH.nil
        rw [if_pos (by kernel_rfl)]
        go_simp
        refine AL.out.mono ?_
        rintro e W5 ⟨A5, c5, rfl, h51, h52, own5, b5⟩
        replace b5 := below_undrew b5
        have hr5 := RowAt.of_own own5
        have cb5 := hB4.trans (b5.mono hB4.size)
        replace F4 := F4.later b5
        have hS5 := hS4.later b5
        have y4 : W5.cell? ⟨Ab, off + k * 2 + 1, none⟩ = some (.int .i64 n0) := (cb5.cell (by exact hAb)).trans x2
        clear own5
        go_wp2_with fail
        refine hK.out _ _ (by go_keep) (fun hHeld => ?_)
        clear hK K
        go_simp
        refine wpAnyH_ready (rs := [40]) (by kernel_rfl) (by simp) ?_
        refine AllReadyH.cons rfl (fun K hK => ?_) AllReadyH.nil
        rw [if_pos (by kernel_rfl)]
        go_simp
        have S1 := sameInts_any A5 c5 Y A4 c4 Y W5 (by unfold maxLen; omega) (by unfold maxLen; omega) hr5 F4.row
        rw [decide_eq_true rfl] at S1
        replace S1 := Lib.hid S1
        refine S1.out.mono ?_
        rintro e W6 ⟨rfl, hW6⟩
        have b6 := below_drew0 hW6
        replace F4 := F4.later b6
        have hS6 := hS5.later b6
        have cb6 := cb5.trans (b6.mono cb5.size)
        have y6 : W6.cell? ⟨Ab, off + k * 2 + 1, none⟩ = some (.int .i64 n0) := (cb6.cell (by exact hAb)).trans x2
        clear b6 hW6 S1
        go_wp2_with fail
        refine hK.out _ _ (by go_keep) (fun hHeld => ?_)
        clear hK K
        go_simp
        refine wpAnyH_take (i := 41) (v := ?vb41) rfl (by kernel_rfl) (by kernel_rfl) (by kernel_rfl) (fun _ _ _ h => h) (Or.inl ⟨by kernel_rfl, ?hyb41⟩) (by assumption) ?restb41
        case hyb41 => (intro w hSw; (try dsimp only at hSw); go_simp; (try with_reducible rfl))
        go_simp
        refine wpAnyH_take (i := 42) (v := ?vb42) rfl (by kernel_rfl) (by kernel_rfl) (by kernel_rfl) (fun _ _ _ h => h) (Or.inl ⟨by kernel_rfl, ?hyb42⟩) (by assumption) ?restb42
        case hyb42 => (intro w hSw; (try dsimp only at hSw); go_simp; (try with_reducible rfl))
        go_simp
        refine wpAnyH_done (by kernel_rfl) ?_ _
        refine NoPanic.normal ?_
        go_wp2
        go_roundw
        case rel => exact ⟨k + 1, A3, A4, c3, c4, ws3, Y, by omega, rfl, by go_num, h41, h42, hS6, hall3, F4, cb6⟩
        case measure => simp [intOf]; omega
      · go_wp2_with fail
        refine (AW.out _ (TT.out.later hB)).mono ?_
        rintro e w9 ⟨rfl, h9⟩
        go_wp2
        go_ret
        exact ⟨rfl, hB.trans (h9.mono hB.size)⟩
theorem bitsPlay_row (n : Int) {A : Option Addr} {k cap : Nat} {xs : List Int} {w : World} (hx : xs.length = k * 2) (hr : RowAt w A (ivals xs)) (T : Tb w) :
    Calls Tryd.prog 5 #[.slice A k cap, .int .i64 n] w fun e w' => e = .returned (.bool true) ∧ Below w.heap.size w w' := by
  obtain ⟨l, rfl, hl⟩ := acts_of hx hr
  exact bitsPlay_law n hl T
end
end Go.Proofs.YtgilmpakdohijaaDoor
