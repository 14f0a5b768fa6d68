/-
  The reference's Int: an integer of at most 90000 digits is told if it is in an int's range.
-/
import Derived.Test.YtioecjoddgpjbaaU
namespace Go.Proofs.Ytioecjoddgpjbaa
open Go.RowKit

theorem cmp_as {S S' : Nat → Prop} {w : World} {va vb : Value} {a b : Int} {L L' : Nat} {q : Int} (hq : Hid (cmpI a b = q)) (ha : BigIs S w va a L) (hb : BigIs S' w vb b L') (hL : L ≤ 100000) (hL' : L' ≤ 100000) :
    Calls Try.prog 36 #[va, vb] w fun e w' => e = .returned (.int .i64 q) ∧ Below w.heap.size w w' :=
  hq.out ▸ cmp_any ha hb hL hL'

section
variable {S : Nat → Prop} {w : World} {va : Value} {z : Int} {L : Nat}
set_option maxRecDepth 100000 in
set_option maxHeartbeats 4000000 in
theorem int_more (ha : BigIs S w va z L) (hL : L ≤ 100000) (h1 : mostI < z) :
    Calls Try.prog 20 #[va] w fun e w' => e = .returned (.tuple #[.int .i64 0, .bool false]) ∧ Below w.heap.size w w' := by
  have q1 : 0 ≤ cmpI z leastI := by unfold cmpI; rw [if_neg (by rw [leastI_eq, mostI_eq] at *; omega)]; split <;> omega
  have q2 : 0 < cmpI z mostI := by unfold cmpI; rw [if_neg (by omega), if_pos h1]; omega
  obtain ⟨p, hp⟩ : ∃ p, cmpI z leastI = p := ⟨_, rfl⟩
  obtain ⟨q, hq⟩ : ∃ q, cmpI z mostI = q := ⟨_, rfl⟩
  rw [hp] at q1
  rw [hq] at q2
  have Hp := Lib.hid hp
  have Hq := Lib.hid hq
  have d1 : decide (p < 0) = false := decide_eq_false (by omega)
  have d2 : decide (0 < q) = true := decide_eq_true (by omega)
  clear h1 hp hq q1 q2
  obtain ⟨A, c, xs, rfl, hxs⟩ := ha
  have ha : BigIs S w (.agg #[.bool (decide (z < 0)), .slice A xs.length c]) z L := ⟨A, c, xs, rfl, hxs⟩
  obtain ⟨cx, vx, lx, kx, mx, rx⟩ := hxs
  have Hs : Hid (∃ s, decide (z < 0) = s) := ⟨_, rfl⟩
  have Vx := Lib.hid vx
  clear vx kx mx
  generalize hs : decide (z < 0) = s at ha ⊢
  have Hs := Lib.hid hs
  clear hs
  go_enter Try.func20, Try.ntmps20
  go_upto_region 1 with fail
  obtain ⟨W0, hW0⟩ : ∃ W0, W0 = w.alloc (.cells #[.bool s, .slice A xs.length c] 52) := ⟨_, rfl⟩
  have b0 : Box W0 w.heap.size 52 #[.bool s, .slice A xs.length c] := by rw [hW0]; exact Box.new _ _ _
  have r0 : BigIs S W0 (.agg #[.bool s, .slice A xs.length c]) z L := hW0 ▸ ha.alloc _
  have rW : RowAt W0 A (ivals xs) := hW0 ▸ rx.at.alloc _
  have hb : Below w.heap.size w W0 := by rw [hW0]; exact (Below.refl _ _).alloc (Nat.le_refl _) _
  have hs' : w.heap.size + 1 ≤ W0.heap.size := by rw [hW0]; simp
  rewrite [← hW0]
  clear hW0 ha
  have HK : Hid (∀ w', Below W0.heap.size W0 w' → w'.cell? ⟨w.heap.size, 0, none⟩ = some (.bool s) ∧ w'.cell? ⟨w.heap.size, 1, none⟩ = some (.slice A xs.length c) ∧ BigIs S w' (.agg #[.bool s, .slice A xs.length c]) z L ∧ Below W0.heap.size W0 w') :=
    fun w' h => ⟨(b0.later h).cells 0, (b0.later h).cells 1, r0.later h, h⟩
  clear r0
  go_region_held3 (fun w' => w'.cell? ⟨w.heap.size, 0, none⟩ = some (.bool s) ∧ w'.cell? ⟨w.heap.size, 1, none⟩ = some (.slice A xs.length c) ∧ BigIs S w' (.agg #[.bool s, .slice A xs.length c]) z L ∧ Below W0.heap.size W0 w') (first | exact HK.out _ (Below.refl _ _).drew | (go_split_ands; exact HK.out _ (Below.trans (by assumption) (Below.mono hbn (Below.size (by assumption)))))) (first | (go_split_ands; go_at_call 17; refine (of_any _ _ (by omega) (by omega)).mono ?_; rintro e wn ⟨v5, rfl, m5, hbn⟩; have m5 : BigIs _ _ v5 leastI 19 := m5) | (go_split_ands; go_at_call 17; refine (of_any _ _ (by omega) (by omega)).mono ?_; rintro e wn ⟨v7, rfl, m7, hbn⟩; have m7 : BigIs _ _ v7 mostI 19 := m7) | (go_split_ands; go_at_call 36; refine (cmp_as Hq (by assumption) m7 hL (by omega)).mono ?_; rintro e wn ⟨rfl, hbn⟩) | (go_split_ands; go_at_call 36; refine (cmp_as Hp (by assumption) m5 hL (by omega)).mono ?_; rintro e wn ⟨rfl, hbn⟩))
  have hB9 : Below W0.heap.size W0 wn := by go_split_ands; assumption
  have hb9 : Below w.heap.size w wn := hb.trans (hB9.mono (by omega))
  clear HK hb hB9 b0 rW d1 d2 m5 m7
  go_wp2
  go_ret2
  exact ⟨rfl, hb9⟩

set_option maxRecDepth 100000 in
set_option maxHeartbeats 4000000 in
theorem int_in (ha : BigIs S w va z L) (hL : L ≤ 100000) (h1 : leastI ≤ z) (h2 : z ≤ mostI) :
    Calls Try.prog 20 #[va] w fun e w' => e = .returned (.tuple #[.int .i64 z, .bool true]) ∧ Below w.heap.size w w' := by
  have q1 : 0 ≤ cmpI z leastI := by unfold cmpI; rw [if_neg (by omega)]; split <;> omega
  have q2 : cmpI z mostI ≤ 0 := by
    unfold cmpI
    split
    · omega
    · rw [if_neg (by omega)]; omega
  have Lo : Hid (-9223372036854775808 ≤ z) := h1
  have Hi : Hid (z ≤ 9223372036854775807) := h2
  obtain ⟨p, hp⟩ : ∃ p, cmpI z leastI = p := ⟨_, rfl⟩
  obtain ⟨q, hq⟩ : ∃ q, cmpI z mostI = q := ⟨_, rfl⟩
  rw [hp] at q1
  rw [hq] at q2
  have Hp := Lib.hid hp
  have Hq := Lib.hid hq
  have d1 : decide (p < 0) = false := decide_eq_false (by omega)
  have d2 : decide (0 < q) = false := decide_eq_false (by omega)
  clear h1 h2 hp hq q1 q2
  obtain ⟨A, c, xs, rfl, hxs⟩ := ha
  have ha : BigIs S w (.agg #[.bool (decide (z < 0)), .slice A xs.length c]) z L := ⟨A, c, xs, rfl, hxs⟩
  obtain ⟨cx, vx, lx, kx, mx, rx⟩ := hxs
  have Hs : Hid (∃ s, decide (z < 0) = s) := ⟨_, rfl⟩
  have Vx := Lib.hid vx
  clear vx kx mx
  generalize hs : decide (z < 0) = s at ha ⊢
  have Hs := Lib.hid hs
  clear hs
  go_enter Try.func20, Try.ntmps20
  go_upto_region 1 with fail
  obtain ⟨W0, hW0⟩ : ∃ W0, W0 = w.alloc (.cells #[.bool s, .slice A xs.length c] 52) := ⟨_, rfl⟩
  have b0 : Box W0 w.heap.size 52 #[.bool s, .slice A xs.length c] := by rw [hW0]; exact Box.new _ _ _
  have r0 : BigIs S W0 (.agg #[.bool s, .slice A xs.length c]) z L := hW0 ▸ ha.alloc _
  have rW : RowAt W0 A (ivals xs) := hW0 ▸ rx.at.alloc _
  have hb : Below w.heap.size w W0 := by rw [hW0]; exact (Below.refl _ _).alloc (Nat.le_refl _) _
  have hs' : w.heap.size + 1 ≤ W0.heap.size := by rw [hW0]; simp
  rewrite [← hW0]
  clear hW0 ha
  have HK : Hid (∀ w', Below W0.heap.size W0 w' → w'.cell? ⟨w.heap.size, 0, none⟩ = some (.bool s) ∧ w'.cell? ⟨w.heap.size, 1, none⟩ = some (.slice A xs.length c) ∧ BigIs S w' (.agg #[.bool s, .slice A xs.length c]) z L ∧ Below W0.heap.size W0 w') :=
    fun w' h => ⟨(b0.later h).cells 0, (b0.later h).cells 1, r0.later h, h⟩
  clear r0
  go_region_held3 (fun w' => w'.cell? ⟨w.heap.size, 0, none⟩ = some (.bool s) ∧ w'.cell? ⟨w.heap.size, 1, none⟩ = some (.slice A xs.length c) ∧ BigIs S w' (.agg #[.bool s, .slice A xs.length c]) z L ∧ Below W0.heap.size W0 w') (first | exact HK.out _ (Below.refl _ _).drew | (go_split_ands; exact HK.out _ (Below.trans (by assumption) (Below.mono hbn (Below.size (by assumption)))))) (first | (go_split_ands; go_at_call 17; refine (of_any _ _ (by omega) (by omega)).mono ?_; rintro e wn ⟨v5, rfl, m5, hbn⟩; have m5 : BigIs _ _ v5 leastI 19 := m5) | (go_split_ands; go_at_call 17; refine (of_any _ _ (by omega) (by omega)).mono ?_; rintro e wn ⟨v7, rfl, m7, hbn⟩; have m7 : BigIs _ _ v7 mostI 19 := m7) | (go_split_ands; go_at_call 36; refine (cmp_as Hq (by assumption) m7 hL (by omega)).mono ?_; rintro e wn ⟨rfl, hbn⟩) | (go_split_ands; go_at_call 36; refine (cmp_as Hp (by assumption) m5 hL (by omega)).mono ?_; rintro e wn ⟨rfl, hbn⟩))
  have hB9 : Below W0.heap.size W0 wn := by go_split_ands; assumption
  have hb9 : Below w.heap.size w wn := hb.trans (hB9.mono (by omega))
  have rN : RowAt wn A (ivals xs) := rW.below hB9 (Nat.le_refl _)
  obtain ⟨c0, c1, _, _⟩ := HK.out wn hB9
  clear HK hb hB9 b0 rW d1 d2 m5 m7
  cases s
  · have hz : Hid (0 ≤ z) := by have := Hs.out; show _ ≤ _; simpa using this
    have Vz : Hid (val xs = z) := by have := Vx.out; have := hz.out; show _ = _; omega
    go_wp2
    go_loop [4, 5] (fun n i => ∃ k : Nat, k ≤ xs.length ∧ i = .int .i64 (k - 1) ∧ n = .int .i64 (val (xs.drop k))) (fun _ i => (intOf i + 1).toNat)
    case atStart => exact ⟨xs.length, Nat.le_refl _, rfl, by rw [val_drop_nil _ _ (Nat.le_refl _)]⟩
    case round =>
      obtain ⟨k, hk, rfl, rfl⟩ := hrel
      by_cases hk0 : 0 < k
      · obtain ⟨b, off, rfl, _, hc⟩ := rN.iget (by omega)
        have hx := hc (k - 1) (by omega)
        have hd := cx.1.get (k - 1) (by omega)
        have E := Lib.hid (val_drop xs (k - 1) (by omega))
        rw [show k - 1 + 1 = k by omega] at E
        have B := val_drop_le cx.1 (k - 1) (by omega)
        have B' := val_drop_le cx.1 k hk
        rw [E.out, Vz.out] at B
        have hi := Hi.out
        clear hc
        generalize xs[k - 1] = d at *
        generalize val (xs.drop k) = m at *
        have hm0 : 0 ≤ m := B'.1
        have hb1 : m * 10 ≤ 9223372036854775807 := by omega
        have hb2 : m * 10 + d ≤ 9223372036854775807 := by omega
        have hlt : (k : Int) - 1 < (xs.length : Int) := by omega
        have hge : (0 : Int) ≤ (k : Int) - 1 := by omega
        have e1 : ((k : Int) - 1).toNat = k - 1 := by omega
        clear B B' hi
        go_wp2
        go_round
        case rel => exact ⟨k - 1, by omega, by go_num, by rw [E.out]; go_num⟩
        case measure => simp [intOf]; omega
      · obtain rfl : k = 0 := by omega
        go_wp2
        go_ret2
        exact ⟨by rw [← Vz.out]; rfl, hb9⟩
  · have hz : Hid (z < 0) := by have := Hs.out; show _ < _; simpa using this
    have Vz : Hid (-val xs = z) := by have := Vx.out; have := hz.out; show _ = _; omega
    go_wp2
    go_loop [4, 5] (fun n i => ∃ k : Nat, k ≤ xs.length ∧ i = .int .i64 (k - 1) ∧ n = .int .i64 (-val (xs.drop k))) (fun _ i => (intOf i + 1).toNat)
    case atStart => exact ⟨xs.length, Nat.le_refl _, rfl, by rw [val_drop_nil _ _ (Nat.le_refl _)]; rfl⟩
    case round =>
      obtain ⟨k, hk, rfl, rfl⟩ := hrel
      by_cases hk0 : 0 < k
      · obtain ⟨b, off, rfl, _, hc⟩ := rN.iget (by omega)
        have hx := hc (k - 1) (by omega)
        have hd := cx.1.get (k - 1) (by omega)
        have E := Lib.hid (val_drop xs (k - 1) (by omega))
        rw [show k - 1 + 1 = k by omega] at E
        have B := val_drop_le cx.1 (k - 1) (by omega)
        have B' := val_drop_le cx.1 k hk
        rw [E.out] at B
        have hv := Vz.out
        have lo := Lo.out
        clear hc
        generalize xs[k - 1] = d at *
        generalize val (xs.drop k) = m at *
        have hb0 : -9223372036854775808 ≤ -m := by omega
        have hb1 : -9223372036854775808 ≤ -m * 10 := by omega
        have hb2 : -9223372036854775808 ≤ -m * 10 - d := by omega
        have hm0 : 0 ≤ m := B'.1
        have hlt : (k : Int) - 1 < (xs.length : Int) := by omega
        have hge : (0 : Int) ≤ (k : Int) - 1 := by omega
        have e1 : ((k : Int) - 1).toNat = k - 1 := by omega
        clear B B' hv lo
        go_wp2
        go_round
        case rel => exact ⟨k - 1, by omega, by go_num, by rw [E.out]; go_num⟩
        case measure => simp [intOf]; omega
      · obtain rfl : k = 0 := by omega
        go_wp2
        go_ret2
        exact ⟨by rw [← Vz.out]; rfl, hb9⟩

/-- A number in range is told; another one is ErrOver. -/
def toldI (z : Int) : Int × Int := if leastI ≤ z ∧ z ≤ mostI then (z, 0) else (0, 10)
set_option maxHeartbeats 1000000 in
theorem told_any (ha : BigIs S w va z L) (hL : L ≤ 100000) :
    Calls Try.prog 58 #[va] w fun e w' => e = .returned (.tuple #[.int .i64 (toldI z).1, .int .i64 (toldI z).2]) ∧ Below w.heap.size w w' := by
  obtain ⟨A, c, xs, rfl, hxs⟩ := ha
  have ha : BigIs S w (.agg #[.bool (decide (z < 0)), .slice A xs.length c]) z L := ⟨A, c, xs, rfl, hxs⟩
  clear hxs
  generalize decide (z < 0) = s at *
  by_cases h1 : leastI ≤ z ∧ z ≤ mostI
  · have T := Lib.hid (show toldI z = (z, 0) by unfold toldI; rw [if_pos h1])
    rw [T.out]
    go_enter Try.func58, Try.ntmps58
    go_wp2_with fail
    refine (int_in (ha.alloc _) hL h1.1 h1.2).mono ?_
    rintro e w5 ⟨rfl, hb5⟩
    have hb6 : Below w.heap.size w w5 := ((Below.refl _ _).alloc (Nat.le_refl _) _).trans (hb5.mono (by simp))
    clear hb5 h1
    go_wp2
    go_ret2
    exact ⟨rfl, hb6⟩
  · have T := Lib.hid (show toldI z = (0, 10) by unfold toldI; rw [if_neg h1])
    rw [T.out]
    rcases (by omega : z < leastI ∨ mostI < z) with h2 | h2
    · clear h1
      go_enter Try.func58, Try.ntmps58
      go_wp2_with fail
      refine (int_less (ha.alloc _) hL h2).mono ?_
      rintro e w5 ⟨rfl, hb5⟩
      have hb6 : Below w.heap.size w w5 := ((Below.refl _ _).alloc (Nat.le_refl _) _).trans (hb5.mono (by simp))
      clear hb5 h2
      go_wp2
      go_ret2
      exact ⟨rfl, hb6⟩
    · clear h1
      go_enter Try.func58, Try.ntmps58
      go_wp2_with fail
      refine (int_more (ha.alloc _) hL h2).mono ?_
      rintro e w5 ⟨rfl, hb5⟩
      have hb6 : Below w.heap.size w w5 := ((Below.refl _ _).alloc (Nat.le_refl _) _).trans (hb5.mono (by simp))
      clear hb5 h2
      go_wp2
      go_ret2
      exact ⟨rfl, hb6⟩
end
end Go.Proofs.Ytioecjoddgpjbaa
