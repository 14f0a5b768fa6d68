/-
  The reference's Total and Net: sums of ints, of at most 10000 each.
-/
import Derived.Test.YtioecjoddgpjbaaV
namespace Go.Proofs.Ytioecjoddgpjbaa
open Go.RowKit

/-- The sum of ints. -/
def sumI (l : List Int) : Int := l.foldl (· + ·) 0
theorem sumI_snoc (l : List Int) (k : Nat) (h : k < l.length) : sumI (l.take (k + 1)) = sumI (l.take k) + l[k] := by
  unfold sumI
  rw [List.take_succ_eq_append_getElem h, List.foldl_append]
  rfl
/-- Every number of a list is in an int's range. -/
def I64s (l : List Int) : Prop := ∀ x ∈ l, -9223372036854775808 ≤ x ∧ x ≤ 9223372036854775807
theorem I64s.get {l : List Int} (h : I64s l) (k : Nat) (hk : k < l.length) : -9223372036854775808 ≤ l[k] ∧ l[k] ≤ 9223372036854775807 := h _ (List.getElem_mem hk)

set_option maxRecDepth 100000 in
set_option maxHeartbeats 2000000 in
theorem total_any (A : Option Addr) (c : Nat) (l : List Int) (w : World) (hl : l.length ≤ 10000) (hb : I64s l) (hr : RowAt w A (ivals l)) :
    Calls Try.prog 59 #[.slice A l.length c] w fun e w' => ∃ v, e = .returned v ∧ BigIs (fun x => w.heap.size ≤ x) w' v (sumI l) (l.length + 20) ∧ Below w.heap.size w w' := by
  have HB := Lib.hid hb
  clear hb
  go_enter Try.func59, Try.ntmps59
  go_wp2
  go_loopw [4] (fun i wr => ∃ (k : Nat) (s : Bool) (A' : Option Addr) (c' n' : Nat), k ≤ l.length ∧ i = .int .i64 k ∧ BigIs (fun x => w.heap.size + 2 ≤ x) wr (.agg #[.bool s, .slice A' n' c']) (sumI (l.take k)) (k + 19) ∧ Below w.heap.size w wr ∧
      Box wr w.heap.size 52 #[.bool false, .slice none 0 0] ∧ Box wr (w.heap.size + 1) 52 #[.bool s, .slice A' n' c']) (fun i _ => l.length - (intOf i).toNat)
  case atStart => exact ⟨0, false, none, 0, 0, by omega, rfl, ⟨none, 0, [], rfl, can_nil, by simp [val, sumI], by simp, by simp, by simp, RowS.nil _ _ _⟩, ((Below.refl _ _).alloc (Nat.le_refl _) _).alloc (by simp) _, (Box.new _ _ _).alloc _, Box.new' (by simp)⟩
  case round =>
    obtain ⟨k, s, A', c', n', hk, rfl, hB, hb, b0, b1⟩ := hrel
    have hsz : w.heap.size + 2 ≤ wr.heap.size := by have := b1.lt; omega
    by_cases hkl : k < l.length
    · obtain ⟨b, off, rfl, hbl, hcell⟩ := hr.iget (by omega)
      have hx : wr.cell? ⟨b, off + k, none⟩ = some (.int .i64 l[k]) := (hb.cell (by exact hbl)).trans (hcell k hkl)
      have hE := Lib.hid (sumI_snoc l k hkl)
      obtain ⟨x1, x2⟩ := HB.out.get k hkl
      clear hcell
      generalize l[k] = x at *
      go_wp2_with fail
      have c1 := b1.cells
      have hlt : (k : Int) < (l.length : Int) := by omega
      go_region_with (first | (go_at_call 17; refine (of_any _ _ x1 x2).mono ?_; rintro e wn ⟨v5, rfl, m5, hbn⟩; have c5 := (b1.drew.later hbn).cells) | (go_at_call 18; refine (plus_any (hB.drew.later hbn) m5 (by omega) (by omega)).mono ?_; rintro e wm ⟨v7, rfl, ⟨A6, c6, x6, rfl, m6⟩, hbm⟩; have bx := (b1.drew.later hbn).later hbm; have bc := bx.cells; have bf := bx.free))
      all_goals
        have hs5 : wr.heap.size ≤ wn.heap.size := hbn.size
        have hs6 := hbm.size
        have hB5 : Below wr.heap.size wr wn := ⟨hbn.os, hbn.tape, hbn.output, hbn.size, hbn.block⟩
        have b0m := (b0.later hB5).later hbm
        have hb7 : Below w.heap.size w wm := hb.trans ((hB5.mono (by omega)).trans (hbm.mono (by omega)))
        have M := Lib.hid m6
        clear m6 bc bf c5 c1 hbn hB5 m5 hbm b0 b1 hB hb
        have cc := bx.cells
        have cf := bx.free
        rewrite [← hE.out] at M
        go_wp2
        go_roundw
        case rel =>
          obtain ⟨g1, g2, g3, g4, g5, g6⟩ := M.out
          exact ⟨k + 1, _, A6, c6, x6.length, by omega, by go_num, ⟨A6, c6, x6, by rw [hE.out], g1, g2, by omega, g4, g5, ((g6.setCell (by omega) _).setCell (by omega) _).mono (fun b _ h => by omega)⟩, (hb7.setCell (by simp) _).setCell (by simp) _, (b0m.far' (by omega) _).far' (by omega) _, by simpa using (bx.set 0 _).set 1 _⟩
        case measure => simp [intOf]; omega
    · obtain rfl : k = l.length := by omega
      rw [List.take_length] at hB
      have c0 := b0.cells
      have f0 := b0.free
      have c1 := b1.cells
      go_wp2
      refine bodyPost_ret (by unfold results; simp only [Try.results59]; go_simp; rfl) rfl ?_
      exact ⟨_, rfl, ((hB.setCell (by omega) _).setCell (by omega) _).mono (fun b _ h => by omega) (by omega), (hb.setCell (Nat.le_refl _) _).setCell (Nat.le_refl _) _⟩
end Go.Proofs.Ytioecjoddgpjbaa
