/-
  The reference's numbers, further: Minus, Cmp, Int, Told, Total, Net: what integers do, for numbers of at most 90000 digits.
-/
import Derived.Test.YtioecjoddgpjbaaT
namespace Go.Proofs.Ytioecjoddgpjbaa
open Go.RowKit

section
variable {S S' : Nat → Prop} {w : World} {va vb : Value} {a b : Int} {L L' : Nat}
set_option maxHeartbeats 2000000 in
theorem minus_any (ha : BigIs S w va a L) (hb : BigIs S' w vb b L') (hL : L ≤ 100000) (hL' : L' ≤ 100000) :
    Calls Try.prog 19 #[va, vb] w fun e w' => ∃ v, e = .returned v ∧ BigIs (fun x => w.heap.size ≤ x) w' v (a - b) (max L L' + 1) ∧ Below w.heap.size w w' := by
  have ha : BigIs (fun x => x < w.heap.size + 2) w va a L := ha.mono (fun b h _ => by omega) (Nat.le_refl _)
  have hb : BigIs (fun x => x < w.heap.size + 2) w vb b L' := hb.mono (fun b h _ => by omega) (Nat.le_refl _)
  obtain ⟨A, c, xs, rfl, hxs⟩ := ha
  obtain ⟨A', c', ys, rfl, hys⟩ := hb
  have ha : BigIs (fun x => x < w.heap.size + 2) w (.agg #[.bool (decide (a < 0)), .slice A xs.length c]) a L := ⟨A, c, xs, rfl, hxs⟩
  have hb : BigIs (fun x => x < w.heap.size + 2) w (.agg #[.bool (decide (b < 0)), .slice A' ys.length c']) b L' := ⟨A', c', ys, rfl, hys⟩
  clear hxs hys
  generalize decide (a < 0) = s at *
  generalize decide (b < 0) = t at *
  go_enter Try.func19, Try.ntmps19
  go_upto_region 1 with fail
  obtain ⟨W0, hW0⟩ : ∃ W0, W0 = ((w.alloc (.cells #[.bool s, .slice A xs.length c] 52)).alloc (.cells #[.bool t, .slice A' ys.length c'] 52)).alloc (.cells #[.bool false, .slice none 0 0] 52) := ⟨_, rfl⟩
  have b0 : Box W0 w.heap.size 52 #[.bool s, .slice A xs.length c] := by rw [hW0]; exact ((Box.new _ _ _).alloc _).alloc _
  have b1 : Box W0 (w.heap.size + 1) 52 #[.bool t, .slice A' ys.length c'] := by rw [hW0]; exact (Box.new' (by simp)).alloc _
  have b2 : Box W0 (w.heap.size + 1 + 1) 52 #[.bool false, .slice none 0 0] := by rw [hW0]; exact Box.new' (by simp)
  have r0 := ((ha.alloc (.cells #[.bool s, .slice A xs.length c] 52)).alloc (.cells #[.bool t, .slice A' ys.length c'] 52)).alloc (.cells #[.bool false, .slice none 0 0] 52)
  have r1 := ((hb.alloc (.cells #[.bool s, .slice A xs.length c] 52)).alloc (.cells #[.bool t, .slice A' ys.length c'] 52)).alloc (.cells #[.bool false, .slice none 0 0] 52)
  rw [← hW0] at r0 r1
  have hb : Below w.heap.size w W0 := by rw [hW0]; exact (((Below.refl _ _).alloc (Nat.le_refl _) _).alloc (by simp) _).alloc (by simp; omega) _
  have hs' : w.heap.size + 3 ≤ W0.heap.size := by rw [hW0]; simp
  rewrite [← hW0]
  clear hW0 ha
  have k0 := b0.cells
  have k1 := b1.cells
  go_region_with (first | (go_at_call 35; refine (flip_any r1.drew).mono ?_; rintro e w5 ⟨v5, rfl, m5, hb5⟩; have c5 := (b0.drew.later hb5).cells) | (go_at_call 18; refine (plus_any (r0.drew.later hb5) m5 hL hL').mono ?_; rintro e w6 ⟨v6, rfl, ⟨A6, c6, x6, rfl, m6⟩, hb6⟩; have bx := (b2.drew.later hb5).later hb6; have bc := bx.cells; have bf := bx.free))
  all_goals (clear bc bf c5 k0 k1; have cc := bx.cells; have cf := bx.free; have M := Lib.hid m6; clear m6; have hs5 : W0.heap.size ≤ w5.heap.size := hb5.size; have hs6 := hb6.size; have hb7 : Below w.heap.size w w6 := hb.trans (((⟨hb5.os, hb5.tape, hb5.output, hb5.size, hb5.block⟩ : Below W0.heap.size W0 w5).mono (by omega)).trans (hb6.mono (by omega))); clear hb5 hb6; rw [show a + -b = a - b by omega] at M ⊢)
  all_goals go_wp2
  all_goals (refine bodyPost_ret (by unfold results; simp only [Try.results19]; go_simp; rfl) rfl ?_)
  all_goals (obtain ⟨g1, g2, g3, g4, g5, g6⟩ := M.out)
  all_goals exact ⟨_, rfl, ⟨A6, c6, x6, rfl, g1, g2, g3, g4, g5, ((g6.setCell (by omega) _).setCell (by omega) _).mono (fun b _ h => by omega)⟩, (hb7.setCell (by simp; omega) _).setCell (by simp; omega) _⟩
end

section
variable {S S' : Nat → Prop} {w : World} {va vb : Value} {a b : Int} {L L' : Nat}
set_option maxHeartbeats 1000000 in
theorem cmp_any (ha : BigIs S w va a L) (hb : BigIs S' w vb b L') (hL : L ≤ 100000) (hL' : L' ≤ 100000) :
    Calls Try.prog 36 #[va, vb] w fun e w' => e = .returned (.int .i64 (cmpI a b)) ∧ Below w.heap.size w w' := by
  obtain ⟨A, c, xs, rfl, hxs⟩ := ha
  obtain ⟨A', c', ys, rfl, hys⟩ := hb
  have ha : BigIs S w (.agg #[.bool (decide (a < 0)), .slice A xs.length c]) a L := ⟨A, c, xs, rfl, hxs⟩
  have hb : BigIs S' w (.agg #[.bool (decide (b < 0)), .slice A' ys.length c']) b L' := ⟨A', c', ys, rfl, hys⟩
  clear hxs hys
  generalize decide (a < 0) = s at *
  generalize decide (b < 0) = t at *
  go_enter Try.func36, Try.ntmps36
  go_wp2_with fail
  refine (minus_any ((ha.alloc _).alloc _) ((hb.alloc _).alloc _) hL hL').mono ?_
  rintro e w5 ⟨v5, rfl, ⟨A5, c5, x5, rfl, g1, g2, g3, g4, g5, g6⟩, hb5⟩
  have hb6 : Below w.heap.size w w5 := (((Below.refl _ _).alloc (Nat.le_refl _) _).alloc (by simp) _).trans (hb5.mono (by simp; omega))
  have hs6 := hb6.size
  have hz := Lib.hid (sd_len g1 g2)
  clear hb5 g6 g2 g4 g5 g3
  by_cases h1 : a - b < 0
  · have e1 := Lib.hid (show cmpI a b = -1 by unfold cmpI; rw [if_pos (by omega)])
    rewrite [decide_eq_true h1]
    go_wp2
    go_ret
    exact ⟨by rw [e1.out]; rfl, hb6.alloc hs6 _⟩
  · rewrite [decide_eq_false h1]
    by_cases h2 : 0 < x5.length
    · have e1 := Lib.hid (show cmpI a b = 1 by have := hz.out; unfold cmpI; rw [if_neg (by omega), if_pos (by omega)])
      go_wp2
      go_ret
      exact ⟨by rw [e1.out]; rfl, hb6.alloc hs6 _⟩
    · have e1 := Lib.hid (show cmpI a b = 0 by have := hz.out; unfold cmpI; rw [if_neg (by omega), if_neg (by omega)])
      go_wp2
      go_ret
      exact ⟨by rw [e1.out]; rfl, hb6.alloc hs6 _⟩
end

def leastI : Int := -9223372036854775808
def mostI : Int := 9223372036854775807
theorem leastI_eq : leastI = -9223372036854775808 := rfl
theorem mostI_eq : mostI = 9223372036854775807 := rfl

/-- The first k digits from the top on are no more than the number. -/
theorem val_drop_le {xs : List Int} (h : Dg xs) (k : Nat) (hk : k ≤ xs.length) : 0 ≤ val (xs.drop k) ∧ val (xs.drop k) ≤ val xs := by
  have h1 := val_split xs k hk
  have h2 := val_nonneg (h.take k)
  have h3 := val_nonneg (h.drop k)
  have h4 := ten_pos k
  have h5 : 1 * val (xs.drop k) ≤ ten k * val (xs.drop k) := Int.mul_le_mul_of_nonneg_right h4 h3
  omega

section
variable {S : Nat → Prop} {w : World} {va : Value} {z : Int} {L : Nat}

/-- The test of Int: is a number in range? -/
def IntRel (w : World) (N : Nat) (g : Nat) (cs : Array Value) (t : Bool) (v15 : Value) (w' : World) : Prop := v15 = .bool t ∧ Below N w w' ∧ Box w' g 52 cs

set_option maxRecDepth 100000 in
set_option maxHeartbeats 4000000 in
theorem int_less (ha : BigIs S w va z L) (hL : L ≤ 100000) (h1 : z < leastI) :
    Calls Try.prog 20 #[va] w fun e w' => e = .returned (.tuple #[.int .i64 0, .bool false]) ∧ Below w.heap.size w w' := by
  have q1 : cmpI z leastI < 0 := by unfold cmpI; rw [if_pos h1]; omega
  clear h1
  obtain ⟨A, c, xs, rfl, hxs⟩ := ha
  have ha : BigIs S w (.agg #[.bool (decide (z < 0)), .slice A xs.length c]) z L := ⟨A, c, xs, rfl, hxs⟩
  clear hxs
  generalize decide (z < 0) = s at *
  go_enter Try.func20, Try.ntmps20
  go_upto_region 1 with fail
  obtain ⟨W0, hW0⟩ : ∃ W0, W0 = w.alloc (.cells #[.bool s, .slice A xs.length c] 52) := ⟨_, rfl⟩
  have b0 : Box W0 w.heap.size 52 #[.bool s, .slice A xs.length c] := by rw [hW0]; exact Box.new _ _ _
  have r0 : BigIs S W0 _ z L := hW0 ▸ ha.alloc _
  have hb : Below w.heap.size w W0 := by rw [hW0]; exact (Below.refl _ _).alloc (Nat.le_refl _) _
  have hs' : w.heap.size + 1 ≤ W0.heap.size := by rw [hW0]; simp
  rewrite [← hW0]
  clear hW0 ha
  have k0 := b0.cells
  go_region_with (first | (go_at_call 17; refine (of_any _ _ (by omega) (by omega)).mono ?_; rintro e w5 ⟨v5, rfl, m5, hb5⟩; have m5 : BigIs _ _ v5 leastI 19 := m5; have c5 := (b0.drew.later hb5).cells) | (go_at_call 36; refine (cmp_any (r0.drew.later hb5) m5 hL (by omega)).mono ?_; rintro e w6 ⟨rfl, hb6⟩; have c6 := ((b0.drew.later hb5).later hb6).cells))
  all_goals have hb9 : Below w.heap.size w w6 := hb.trans (((⟨hb5.os, hb5.tape, hb5.output, hb5.size, hb5.block⟩ : Below W0.heap.size W0 w5).mono (by omega)).trans (hb6.mono (by have : W0.heap.size ≤ w5.heap.size := hb5.size; omega)))
  all_goals clear hb5 hb6 c5 c6 k0 m5
  all_goals (go_wp2; go_ret2)
  all_goals exact ⟨rfl, hb9⟩
end
end Go.Proofs.Ytioecjoddgpjbaa
