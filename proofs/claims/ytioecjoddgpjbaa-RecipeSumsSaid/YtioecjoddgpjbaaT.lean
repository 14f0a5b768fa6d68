/-
  The reference's numbers: Flip, Plus, Minus, Cmp: what integers do, for numbers of at most 90000 digits.
-/
import Derived.Test.YtioecjoddgpjbaaS
namespace Go.Proofs.Ytioecjoddgpjbaa
open Go.RowKit

theorem RowS.belowS {N : Nat} {w w' : World} {A : Option Addr} {xs : List Value} (h : RowS (fun b => b < N) w A xs) (hb : Below N w w') : RowS (fun b => b < N) w' A xs :=
  h.keep hb.size fun b hS _ => hb.block b hS

/-- What Plus owes: a sign, and canonical digits in new memory. -/
def SignDigits (neg : Nat → Bool) (z : Int) (L : Nat) (w : World) (e : Ending) (w' : World) : Prop :=
  ∃ A c zs, e = .returned (.agg #[.bool (neg zs.length), .slice A zs.length c]) ∧ Can zs ∧ val zs = z ∧ zs.length ≤ L ∧ zs.length ≤ c ∧ c ≤ maxLen ∧ RowS (fun b => w.heap.size ≤ b) w' A (ivals zs) ∧ Below w.heap.size w w'

theorem sd_len {zs : List Int} {z : Int} (h : Can zs) (hv : val zs = z) : 0 < zs.length ↔ 0 < z := by
  constructor
  · intro hn
    have := can_ge h (List.length_pos_iff.1 hn)
    have := ten_pos (zs.length - 1)
    omega
  · intro hz
    rcases Nat.eq_zero_or_pos zs.length with h0 | h0
    · have := List.eq_nil_of_length_eq_zero h0
      subst this
      simp [val] at hv
      omega
    · exact h0

section
variable {w : World} {A A' : Option Addr} {c c' : Nat} {xs ys : List Int} {s t : Bool}

set_option maxRecDepth 100000 in
set_option maxHeartbeats 2000000 in
theorem plus_same (hx : xs.length ≤ 100000) (hy : ys.length ≤ 100000) (dx : Dg xs) (dy : Dg ys) (hr : RowAt w A (ivals xs)) (hr' : RowAt w A' (ivals ys)) :
    Calls Try.prog 18 #[.agg #[.bool s, .slice A xs.length c], .agg #[.bool s, .slice A' ys.length c']] w (SignDigits (fun _ => s) (val xs + val ys) (max xs.length ys.length + 1) w) := by
  go_enter Try.func18, Try.ntmps18
  go_upto_region 2 with fail
  obtain ⟨W0, hW0⟩ : ∃ W0, W0 = ((w.alloc (.cells #[.bool s, .slice A xs.length c] 52)).alloc (.cells #[.bool s, .slice A' ys.length c'] 52)).alloc (.cells #[.bool false, .slice none 0 0] 52) := ⟨_, rfl⟩
  have b0 : Box W0 w.heap.size 52 #[.bool s, .slice A xs.length c] := by rw [hW0]; exact ((Box.new _ _ _).alloc _).alloc _
  have b1 : Box W0 (w.heap.size + 1) 52 #[.bool s, .slice A' ys.length c'] := by rw [hW0]; exact (Box.new' (by simp)).alloc _
  have b2 : Box W0 (w.heap.size + 1 + 1) 52 #[.bool false, .slice none 0 0] := by rw [hW0]; exact Box.new' (by simp)
  have r0 : RowS (fun b => b < w.heap.size + 2) W0 A (ivals xs) := by rw [hW0]; exact (((hr.s (fun b h => by omega)).alloc _).alloc _).alloc _
  have r1 : RowS (fun b => b < w.heap.size + 2) W0 A' (ivals ys) := by rw [hW0]; exact (((hr'.s (fun b h => by omega)).alloc _).alloc _).alloc _
  have hb : Below w.heap.size w W0 := by rw [hW0]; exact (((Below.refl _ _).alloc (Nat.le_refl _) _).alloc (by simp) _).alloc (by simp; omega) _
  have hs' : w.heap.size + 3 ≤ W0.heap.size := by rw [hW0]; simp
  rewrite [← hW0]
  clear hW0
  have SK : ∀ w', Below (w.heap.size + 2) W0 w' → w'.cell? ⟨w.heap.size, 0, none⟩ = some (.bool s) ∧ w'.cell? ⟨w.heap.size, 1, none⟩ = some (.slice A xs.length c) ∧ w'.cell? ⟨w.heap.size + 1, 0, none⟩ = some (.bool s) ∧ w'.cell? ⟨w.heap.size + 1, 1, none⟩ = some (.slice A' ys.length c') ∧ RowAt w' A (ivals xs) ∧ RowAt w' A' (ivals ys) ∧ Below (w.heap.size + 2) W0 w' :=
    fun w' h => ⟨(b0.below h (by omega)).cells 0, (b0.below h (by omega)).cells 1, (b1.below h (by omega)).cells 0, (b1.below h (by omega)).cells 1, (r0.belowS h).at, (r1.belowS h).at, h⟩
  have HK := Lib.hid SK
  clear SK r0 r1 b0 b1
  go_region_held3 (fun w' => w'.cell? ⟨w.heap.size, 0, none⟩ = some (.bool s) ∧ w'.cell? ⟨w.heap.size, 1, none⟩ = some (.slice A xs.length c) ∧ w'.cell? ⟨w.heap.size + 1, 0, none⟩ = some (.bool s) ∧ w'.cell? ⟨w.heap.size + 1, 1, none⟩ = some (.slice A' ys.length c') ∧ RowAt w' A (ivals xs) ∧ RowAt w' A' (ivals ys) ∧ Below (w.heap.size + 2) W0 w') (first | exact HK.out _ (Below.refl _ _).drew | (go_split_ands; exact HK.out _ (Below.trans (by assumption) (Below.mono hb6 (by have := Below.size (B := w.heap.size + 2) (w := W0) (by assumption); omega)))) | (go_split_ands; exact HK.out _ (Below.setCell (Below.setCell (by assumption) (by simp) _) (by simp) _))) (first | (go_split_ands; go_at_call 32; refine (more_any _ _ xs _ _ ys _ hx hy dx dy (by assumption) (by assumption)).mono ?_; rintro e w6 ⟨Z, d, zs, rfl, g1, g2, g3, g4, g5, g6, hb6⟩; have bx := (Box.drew b2).later hb6; have bc := bx.cells; have bf := bx.free))
  clear bc bf
  have hs6 : W0.heap.size ≤ w6.heap.size := hb6.size
  have hb7 : Below w.heap.size w w6 := hb.trans ((⟨hb6.os, hb6.tape, hb6.output, hb6.size, hb6.block⟩ : Below W0.heap.size W0 w6).mono (by omega))
  have cc := bx.cells
  have cf := bx.free
  have g6 : RowS (fun b => W0.heap.size ≤ b) w6 Z (ivals zs) := g6
  have G := Lib.hid g6
  clear g6 hb6
  go_wp2
  refine bodyPost_ret (by unfold results; simp only [Try.results18]; go_simp; rfl) rfl ?_
  exact ⟨Z, d, zs, rfl, g1, g2, g3, g4, g5, ((G.out.setCell (by omega) _).setCell (by omega) _).mono (fun b _ h => by omega), (hb7.setCell (by simp; omega) _).setCell (by simp; omega) _⟩

set_option maxRecDepth 100000 in
set_option maxHeartbeats 2000000 in
theorem plus_ge_tf (hx : xs.length ≤ 100000) (hy : ys.length ≤ 100000) (cx : Can xs) (cy : Can ys) (hle : val ys ≤ val xs) (hr : RowAt w A (ivals xs)) (hr' : RowAt w A' (ivals ys)) :
    Calls Try.prog 18 #[.agg #[.bool true, .slice A xs.length c], .agg #[.bool false, .slice A' ys.length c']] w (SignDigits (fun n => true && decide (0 < n)) (val xs - val ys) xs.length w) := by
  have hcmp : 0 ≤ cmpI (val xs) (val ys) := by unfold cmpI; split <;> (try split) <;> omega
  have Hle := Lib.hid hle
  clear hle
  go_enter Try.func18, Try.ntmps18
  go_upto_region 3 with fail
  obtain ⟨W0, hW0⟩ : ∃ W0, W0 = ((w.alloc (.cells #[.bool true, .slice A xs.length c] 52)).alloc (.cells #[.bool false, .slice A' ys.length c'] 52)).alloc (.cells #[.bool false, .slice none 0 0] 52) := ⟨_, rfl⟩
  have b0 : Box W0 w.heap.size 52 #[.bool true, .slice A xs.length c] := by rw [hW0]; exact ((Box.new _ _ _).alloc _).alloc _
  have b1 : Box W0 (w.heap.size + 1) 52 #[.bool false, .slice A' ys.length c'] := by rw [hW0]; exact (Box.new' (by simp)).alloc _
  have b2 : Box W0 (w.heap.size + 1 + 1) 52 #[.bool false, .slice none 0 0] := by rw [hW0]; exact Box.new' (by simp)
  have r0 : RowS (fun b => b < w.heap.size + 2) W0 A (ivals xs) := by rw [hW0]; exact (((hr.s (fun b h => by omega)).alloc _).alloc _).alloc _
  have r1 : RowS (fun b => b < w.heap.size + 2) W0 A' (ivals ys) := by rw [hW0]; exact (((hr'.s (fun b h => by omega)).alloc _).alloc _).alloc _
  have hb : Below w.heap.size w W0 := by rw [hW0]; exact (((Below.refl _ _).alloc (Nat.le_refl _) _).alloc (by simp) _).alloc (by simp; omega) _
  have hs' : w.heap.size + 3 ≤ W0.heap.size := by rw [hW0]; simp
  rewrite [← hW0]
  clear hW0
  have SK : ∀ w', Below (w.heap.size + 2) W0 w' → w'.cell? ⟨w.heap.size, 0, none⟩ = some (.bool true) ∧ w'.cell? ⟨w.heap.size, 1, none⟩ = some (.slice A xs.length c) ∧ w'.cell? ⟨w.heap.size + 1, 0, none⟩ = some (.bool false) ∧ w'.cell? ⟨w.heap.size + 1, 1, none⟩ = some (.slice A' ys.length c') ∧ RowAt w' A (ivals xs) ∧ RowAt w' A' (ivals ys) ∧ Below (w.heap.size + 2) W0 w' :=
    fun w' h => ⟨(b0.below h (by omega)).cells 0, (b0.below h (by omega)).cells 1, (b1.below h (by omega)).cells 0, (b1.below h (by omega)).cells 1, (r0.belowS h).at, (r1.belowS h).at, h⟩
  have HK := Lib.hid SK
  clear SK r0 r1 b0 b1
  have I := Lib.hid (HK.out _ (Below.refl _ _))
  obtain ⟨i0, i1, i2, i3, i4, i5, _⟩ := I.out
  have q0 := Lib.hid i4
  have q1 := Lib.hid i5
  go_wp2_with fail
  refine (digits_any _ _ xs _ _ ys _ hx hy cx cy q0.out q1.out).mono ?_
  rintro e w5 ⟨rfl, nn, rfl⟩
  clear i0 i1 i2 i3 i4 i5 I q0 q1
  obtain ⟨W1, hW1⟩ : ∃ W1, W1 = W0.drewN nn := ⟨_, rfl⟩
  rewrite [← hW1]
  have hB1 : Below (w.heap.size + 2) W0 W1 := by rw [hW1]; exact below_drewN (Below.refl _ _) nn
  have b2 : Box W1 (w.heap.size + 1 + 1) 52 #[.bool false, .slice none 0 0] := by rw [hW1]; exact b2.drewN nn
  have hb : Below w.heap.size w W1 := by rw [hW1]; exact below_drewN hb nn
  have hs1 : w.heap.size + 3 ≤ W1.heap.size := by rw [hW1]; exact hs'
  clear hW1
  obtain ⟨i0, i1, i2, i3, i4, i5, _⟩ := HK.out _ hB1
  clear hB1 HK
  have q0 := Lib.hid i4
  have q1 := Lib.hid i5
  clear i4 i5
  have c2 := b2.cells
  have f2 := b2.free
  go_wp2_with fail
  refine (fewer_any _ _ xs _ _ ys _ hx cx cy Hle.out q0.out q1.out).mono ?_
  rintro e w6 ⟨Z, d, zs, rfl, g1, g2, g3, g4, g5, g6, hb6⟩
  have k0 := cell_later hb6 i0
  have bx := b2.later hb6
  clear i0 i1 i2 i3 c2 f2
  have hs6 : W1.heap.size ≤ w6.heap.size := hb6.size
  have hb7 : Below w.heap.size w w6 := hb.trans (hb6.mono (by omega))
  have cc := bx.cells
  have cf := bx.free
  have G := Lib.hid g6
  clear g6 hb6
  by_cases hz : 0 < zs.length
  · have hz' : decide ((0 : Int) < (zs.length : Int)) = true := by simpa using hz
    have e1 := Lib.hid (decide_eq_true hz)
    go_wp2
    refine bodyPost_ret (by unfold results; simp only [Try.results18]; go_simp; rfl) rfl ?_
    exact ⟨Z, d, zs, by simp [hz], g1, g2, g3, g4, g5, ((G.out.setCell (by omega) _).setCell (by omega) _).mono (fun b _ h => by omega), (hb7.setCell (by simp; omega) _).setCell (by simp; omega) _⟩
  · have hz' : decide ((0 : Int) < (zs.length : Int)) = false := by simpa using hz
    have e1 := Lib.hid (decide_eq_false hz)
    go_wp2
    refine bodyPost_ret (by unfold results; simp only [Try.results18]; go_simp; rfl) rfl ?_
    exact ⟨Z, d, zs, by simp [hz], g1, g2, g3, g4, g5, ((G.out.setCell (by omega) _).setCell (by omega) _).mono (fun b _ h => by omega), (hb7.setCell (by simp; omega) _).setCell (by simp; omega) _⟩

set_option maxRecDepth 100000 in
set_option maxHeartbeats 2000000 in
theorem plus_lt_tf (hx : xs.length ≤ 100000) (hy : ys.length ≤ 100000) (cx : Can xs) (cy : Can ys) (hlt : val xs < val ys) (hr : RowAt w A (ivals xs)) (hr' : RowAt w A' (ivals ys)) :
    Calls Try.prog 18 #[.agg #[.bool true, .slice A xs.length c], .agg #[.bool false, .slice A' ys.length c']] w (SignDigits (fun _ => false) (val ys - val xs) ys.length w) := by
  have hcmp : cmpI (val xs) (val ys) = -1 := by unfold cmpI; rw [if_pos hlt]
  have Hcmp := Lib.hid hcmp
  have Hle : Hid (val xs ≤ val ys) := by show _ ≤ _; omega
  clear hlt hcmp
  go_enter Try.func18, Try.ntmps18
  go_upto_region 3 with fail
  obtain ⟨W0, hW0⟩ : ∃ W0, W0 = ((w.alloc (.cells #[.bool true, .slice A xs.length c] 52)).alloc (.cells #[.bool false, .slice A' ys.length c'] 52)).alloc (.cells #[.bool false, .slice none 0 0] 52) := ⟨_, rfl⟩
  have b0 : Box W0 w.heap.size 52 #[.bool true, .slice A xs.length c] := by rw [hW0]; exact ((Box.new _ _ _).alloc _).alloc _
  have b1 : Box W0 (w.heap.size + 1) 52 #[.bool false, .slice A' ys.length c'] := by rw [hW0]; exact (Box.new' (by simp)).alloc _
  have b2 : Box W0 (w.heap.size + 1 + 1) 52 #[.bool false, .slice none 0 0] := by rw [hW0]; exact Box.new' (by simp)
  have r0 : RowS (fun b => b < w.heap.size + 2) W0 A (ivals xs) := by rw [hW0]; exact (((hr.s (fun b h => by omega)).alloc _).alloc _).alloc _
  have r1 : RowS (fun b => b < w.heap.size + 2) W0 A' (ivals ys) := by rw [hW0]; exact (((hr'.s (fun b h => by omega)).alloc _).alloc _).alloc _
  have hb : Below w.heap.size w W0 := by rw [hW0]; exact (((Below.refl _ _).alloc (Nat.le_refl _) _).alloc (by simp) _).alloc (by simp; omega) _
  have hs' : w.heap.size + 3 ≤ W0.heap.size := by rw [hW0]; simp
  rewrite [← hW0]
  clear hW0
  have SK : ∀ w', Below (w.heap.size + 2) W0 w' → w'.cell? ⟨w.heap.size, 0, none⟩ = some (.bool true) ∧ w'.cell? ⟨w.heap.size, 1, none⟩ = some (.slice A xs.length c) ∧ w'.cell? ⟨w.heap.size + 1, 0, none⟩ = some (.bool false) ∧ w'.cell? ⟨w.heap.size + 1, 1, none⟩ = some (.slice A' ys.length c') ∧ RowAt w' A (ivals xs) ∧ RowAt w' A' (ivals ys) ∧ Below (w.heap.size + 2) W0 w' :=
    fun w' h => ⟨(b0.below h (by omega)).cells 0, (b0.below h (by omega)).cells 1, (b1.below h (by omega)).cells 0, (b1.below h (by omega)).cells 1, (r0.belowS h).at, (r1.belowS h).at, h⟩
  have HK := Lib.hid SK
  clear SK r0 r1 b0 b1
  have I := Lib.hid (HK.out _ (Below.refl _ _))
  obtain ⟨i0, i1, i2, i3, i4, i5, _⟩ := I.out
  have q0 := Lib.hid i4
  have q1 := Lib.hid i5
  go_wp2_with fail
  refine (digits_any _ _ xs _ _ ys _ hx hy cx cy q0.out q1.out).mono ?_
  rintro e w5 ⟨rfl, nn, rfl⟩
  rewrite [Hcmp.out]
  clear i0 i1 i2 i3 i4 i5 I q0 q1
  obtain ⟨W1, hW1⟩ : ∃ W1, W1 = W0.drewN nn := ⟨_, rfl⟩
  rewrite [← hW1]
  have hB1 : Below (w.heap.size + 2) W0 W1 := by rw [hW1]; exact below_drewN (Below.refl _ _) nn
  have b2 : Box W1 (w.heap.size + 1 + 1) 52 #[.bool false, .slice none 0 0] := by rw [hW1]; exact b2.drewN nn
  have hb : Below w.heap.size w W1 := by rw [hW1]; exact below_drewN hb nn
  have hs' : w.heap.size + 3 ≤ W1.heap.size := by rw [hW1]; exact hs'
  have HK : Hid (∀ w', Below (w.heap.size + 2) W1 w' → w'.cell? ⟨w.heap.size, 0, none⟩ = some (.bool true) ∧ w'.cell? ⟨w.heap.size, 1, none⟩ = some (.slice A xs.length c) ∧ w'.cell? ⟨w.heap.size + 1, 0, none⟩ = some (.bool false) ∧ w'.cell? ⟨w.heap.size + 1, 1, none⟩ = some (.slice A' ys.length c') ∧ RowAt w' A (ivals xs) ∧ RowAt w' A' (ivals ys) ∧ Below (w.heap.size + 2) W1 w') := fun w' h => by
    obtain ⟨a0, a1, a2, a3, a4, a5, _⟩ := HK.out w' (hB1.trans h)
    exact ⟨a0, a1, a2, a3, a4, a5, h⟩
  clear hW1 hB1
  go_upto_region 6 with fail
  go_region_held3 (fun w' => w'.cell? ⟨w.heap.size, 0, none⟩ = some (.bool true) ∧ w'.cell? ⟨w.heap.size, 1, none⟩ = some (.slice A xs.length c) ∧ w'.cell? ⟨w.heap.size + 1, 0, none⟩ = some (.bool false) ∧ w'.cell? ⟨w.heap.size + 1, 1, none⟩ = some (.slice A' ys.length c') ∧ RowAt w' A (ivals xs) ∧ RowAt w' A' (ivals ys) ∧ Below (w.heap.size + 2) W1 w') (first | exact HK.out _ (Below.refl _ _).drew | (go_split_ands; exact HK.out _ (Below.trans (by assumption) (Below.mono hb6 (by have := Below.size (B := w.heap.size + 2) (w := W1) (by assumption); omega)))) | (go_split_ands; exact HK.out _ (Below.setCell (Below.setCell (by assumption) (by simp) _) (by simp) _))) (first | (go_split_ands; go_at_call 34; refine (fewer_any _ _ ys _ _ xs _ hy cy cx Hle.out (by assumption) (by assumption)).mono ?_; rintro e w6 ⟨Z, d, zs, rfl, g1, g2, g3, g4, g5, g6, hb6⟩; have bx := (Box.drew b2).later hb6; have bc := bx.cells; have bf := bx.free))
  clear bc bf
  have hs6 : W1.heap.size ≤ w6.heap.size := hb6.size
  have hb7 : Below w.heap.size w w6 := hb.trans ((⟨hb6.os, hb6.tape, hb6.output, hb6.size, hb6.block⟩ : Below W1.heap.size W1 w6).mono (by omega))
  have cc := bx.cells
  have cf := bx.free
  have g6 : RowS (fun b => W1.heap.size ≤ b) w6 Z (ivals zs) := g6
  have G := Lib.hid g6
  clear g6 hb6
  go_wp2
  refine bodyPost_ret (by unfold results; simp only [Try.results18]; go_simp; rfl) rfl ?_
  exact ⟨Z, d, zs, rfl, g1, g2, g3, g4, g5, ((G.out.setCell (by omega) _).setCell (by omega) _).mono (fun b _ h => by omega), (hb7.setCell (by simp; omega) _).setCell (by simp; omega) _⟩

set_option maxRecDepth 100000 in
set_option maxHeartbeats 2000000 in
theorem plus_ge_ft (hx : xs.length ≤ 100000) (hy : ys.length ≤ 100000) (cx : Can xs) (cy : Can ys) (hle : val ys ≤ val xs) (hr : RowAt w A (ivals xs)) (hr' : RowAt w A' (ivals ys)) :
    Calls Try.prog 18 #[.agg #[.bool false, .slice A xs.length c], .agg #[.bool true, .slice A' ys.length c']] w (SignDigits (fun n => false && decide (0 < n)) (val xs - val ys) xs.length w) := by
  have hcmp : 0 ≤ cmpI (val xs) (val ys) := by unfold cmpI; split <;> (try split) <;> omega
  have Hle := Lib.hid hle
  clear hle
  go_enter Try.func18, Try.ntmps18
  go_upto_region 3 with fail
  obtain ⟨W0, hW0⟩ : ∃ W0, W0 = ((w.alloc (.cells #[.bool false, .slice A xs.length c] 52)).alloc (.cells #[.bool true, .slice A' ys.length c'] 52)).alloc (.cells #[.bool false, .slice none 0 0] 52) := ⟨_, rfl⟩
  have b0 : Box W0 w.heap.size 52 #[.bool false, .slice A xs.length c] := by rw [hW0]; exact ((Box.new _ _ _).alloc _).alloc _
  have b1 : Box W0 (w.heap.size + 1) 52 #[.bool true, .slice A' ys.length c'] := by rw [hW0]; exact (Box.new' (by simp)).alloc _
  have b2 : Box W0 (w.heap.size + 1 + 1) 52 #[.bool false, .slice none 0 0] := by rw [hW0]; exact Box.new' (by simp)
  have r0 : RowS (fun b => b < w.heap.size + 2) W0 A (ivals xs) := by rw [hW0]; exact (((hr.s (fun b h => by omega)).alloc _).alloc _).alloc _
  have r1 : RowS (fun b => b < w.heap.size + 2) W0 A' (ivals ys) := by rw [hW0]; exact (((hr'.s (fun b h => by omega)).alloc _).alloc _).alloc _
  have hb : Below w.heap.size w W0 := by rw [hW0]; exact (((Below.refl _ _).alloc (Nat.le_refl _) _).alloc (by simp) _).alloc (by simp; omega) _
  have hs' : w.heap.size + 3 ≤ W0.heap.size := by rw [hW0]; simp
  rewrite [← hW0]
  clear hW0
  have SK : ∀ w', Below (w.heap.size + 2) W0 w' → w'.cell? ⟨w.heap.size, 0, none⟩ = some (.bool false) ∧ w'.cell? ⟨w.heap.size, 1, none⟩ = some (.slice A xs.length c) ∧ w'.cell? ⟨w.heap.size + 1, 0, none⟩ = some (.bool true) ∧ w'.cell? ⟨w.heap.size + 1, 1, none⟩ = some (.slice A' ys.length c') ∧ RowAt w' A (ivals xs) ∧ RowAt w' A' (ivals ys) ∧ Below (w.heap.size + 2) W0 w' :=
    fun w' h => ⟨(b0.below h (by omega)).cells 0, (b0.below h (by omega)).cells 1, (b1.below h (by omega)).cells 0, (b1.below h (by omega)).cells 1, (r0.belowS h).at, (r1.belowS h).at, h⟩
  have HK := Lib.hid SK
  clear SK r0 r1 b0 b1
  have I := Lib.hid (HK.out _ (Below.refl _ _))
  obtain ⟨i0, i1, i2, i3, i4, i5, _⟩ := I.out
  have q0 := Lib.hid i4
  have q1 := Lib.hid i5
  go_wp2_with fail
  refine (digits_any _ _ xs _ _ ys _ hx hy cx cy q0.out q1.out).mono ?_
  rintro e w5 ⟨rfl, nn, rfl⟩
  clear i0 i1 i2 i3 i4 i5 I q0 q1
  obtain ⟨W1, hW1⟩ : ∃ W1, W1 = W0.drewN nn := ⟨_, rfl⟩
  rewrite [← hW1]
  have hB1 : Below (w.heap.size + 2) W0 W1 := by rw [hW1]; exact below_drewN (Below.refl _ _) nn
  have b2 : Box W1 (w.heap.size + 1 + 1) 52 #[.bool false, .slice none 0 0] := by rw [hW1]; exact b2.drewN nn
  have hb : Below w.heap.size w W1 := by rw [hW1]; exact below_drewN hb nn
  have hs1 : w.heap.size + 3 ≤ W1.heap.size := by rw [hW1]; exact hs'
  clear hW1
  obtain ⟨i0, i1, i2, i3, i4, i5, _⟩ := HK.out _ hB1
  clear hB1 HK
  have q0 := Lib.hid i4
  have q1 := Lib.hid i5
  clear i4 i5
  have c2 := b2.cells
  have f2 := b2.free
  go_wp2_with fail
  refine (fewer_any _ _ xs _ _ ys _ hx cx cy Hle.out q0.out q1.out).mono ?_
  rintro e w6 ⟨Z, d, zs, rfl, g1, g2, g3, g4, g5, g6, hb6⟩
  have k0 := cell_later hb6 i0
  have bx := b2.later hb6
  clear i0 i1 i2 i3 c2 f2
  have hs6 : W1.heap.size ≤ w6.heap.size := hb6.size
  have hb7 : Below w.heap.size w w6 := hb.trans (hb6.mono (by omega))
  have cc := bx.cells
  have cf := bx.free
  have G := Lib.hid g6
  clear g6 hb6
  go_wp2
  refine bodyPost_ret (by unfold results; simp only [Try.results18]; go_simp; rfl) rfl ?_
  exact ⟨Z, d, zs, rfl, g1, g2, g3, g4, g5, ((G.out.setCell (by omega) _).setCell (by omega) _).mono (fun b _ h => by omega), (hb7.setCell (by simp; omega) _).setCell (by simp; omega) _⟩

set_option maxRecDepth 100000 in
set_option maxHeartbeats 2000000 in
theorem plus_lt_ft (hx : xs.length ≤ 100000) (hy : ys.length ≤ 100000) (cx : Can xs) (cy : Can ys) (hlt : val xs < val ys) (hr : RowAt w A (ivals xs)) (hr' : RowAt w A' (ivals ys)) :
    Calls Try.prog 18 #[.agg #[.bool false, .slice A xs.length c], .agg #[.bool true, .slice A' ys.length c']] w (SignDigits (fun _ => true) (val ys - val xs) ys.length w) := by
  have hcmp : cmpI (val xs) (val ys) = -1 := by unfold cmpI; rw [if_pos hlt]
  have Hcmp := Lib.hid hcmp
  have Hle : Hid (val xs ≤ val ys) := by show _ ≤ _; omega
  clear hlt hcmp
  go_enter Try.func18, Try.ntmps18
  go_upto_region 3 with fail
  obtain ⟨W0, hW0⟩ : ∃ W0, W0 = ((w.alloc (.cells #[.bool false, .slice A xs.length c] 52)).alloc (.cells #[.bool true, .slice A' ys.length c'] 52)).alloc (.cells #[.bool false, .slice none 0 0] 52) := ⟨_, rfl⟩
  have b0 : Box W0 w.heap.size 52 #[.bool false, .slice A xs.length c] := by rw [hW0]; exact ((Box.new _ _ _).alloc _).alloc _
  have b1 : Box W0 (w.heap.size + 1) 52 #[.bool true, .slice A' ys.length c'] := by rw [hW0]; exact (Box.new' (by simp)).alloc _
  have b2 : Box W0 (w.heap.size + 1 + 1) 52 #[.bool false, .slice none 0 0] := by rw [hW0]; exact Box.new' (by simp)
  have r0 : RowS (fun b => b < w.heap.size + 2) W0 A (ivals xs) := by rw [hW0]; exact (((hr.s (fun b h => by omega)).alloc _).alloc _).alloc _
  have r1 : RowS (fun b => b < w.heap.size + 2) W0 A' (ivals ys) := by rw [hW0]; exact (((hr'.s (fun b h => by omega)).alloc _).alloc _).alloc _
  have hb : Below w.heap.size w W0 := by rw [hW0]; exact (((Below.refl _ _).alloc (Nat.le_refl _) _).alloc (by simp) _).alloc (by simp; omega) _
  have hs' : w.heap.size + 3 ≤ W0.heap.size := by rw [hW0]; simp
  rewrite [← hW0]
  clear hW0
  have SK : ∀ w', Below (w.heap.size + 2) W0 w' → w'.cell? ⟨w.heap.size, 0, none⟩ = some (.bool false) ∧ w'.cell? ⟨w.heap.size, 1, none⟩ = some (.slice A xs.length c) ∧ w'.cell? ⟨w.heap.size + 1, 0, none⟩ = some (.bool true) ∧ w'.cell? ⟨w.heap.size + 1, 1, none⟩ = some (.slice A' ys.length c') ∧ RowAt w' A (ivals xs) ∧ RowAt w' A' (ivals ys) ∧ Below (w.heap.size + 2) W0 w' :=
    fun w' h => ⟨(b0.below h (by omega)).cells 0, (b0.below h (by omega)).cells 1, (b1.below h (by omega)).cells 0, (b1.below h (by omega)).cells 1, (r0.belowS h).at, (r1.belowS h).at, h⟩
  have HK := Lib.hid SK
  clear SK r0 r1 b0 b1
  have I := Lib.hid (HK.out _ (Below.refl _ _))
  obtain ⟨i0, i1, i2, i3, i4, i5, _⟩ := I.out
  have q0 := Lib.hid i4
  have q1 := Lib.hid i5
  go_wp2_with fail
  refine (digits_any _ _ xs _ _ ys _ hx hy cx cy q0.out q1.out).mono ?_
  rintro e w5 ⟨rfl, nn, rfl⟩
  rewrite [Hcmp.out]
  clear i0 i1 i2 i3 i4 i5 I q0 q1
  obtain ⟨W1, hW1⟩ : ∃ W1, W1 = W0.drewN nn := ⟨_, rfl⟩
  rewrite [← hW1]
  have hB1 : Below (w.heap.size + 2) W0 W1 := by rw [hW1]; exact below_drewN (Below.refl _ _) nn
  have b2 : Box W1 (w.heap.size + 1 + 1) 52 #[.bool false, .slice none 0 0] := by rw [hW1]; exact b2.drewN nn
  have hb : Below w.heap.size w W1 := by rw [hW1]; exact below_drewN hb nn
  have hs' : w.heap.size + 3 ≤ W1.heap.size := by rw [hW1]; exact hs'
  have HK : Hid (∀ w', Below (w.heap.size + 2) W1 w' → w'.cell? ⟨w.heap.size, 0, none⟩ = some (.bool false) ∧ w'.cell? ⟨w.heap.size, 1, none⟩ = some (.slice A xs.length c) ∧ w'.cell? ⟨w.heap.size + 1, 0, none⟩ = some (.bool true) ∧ w'.cell? ⟨w.heap.size + 1, 1, none⟩ = some (.slice A' ys.length c') ∧ RowAt w' A (ivals xs) ∧ RowAt w' A' (ivals ys) ∧ Below (w.heap.size + 2) W1 w') := fun w' h => by
    obtain ⟨a0, a1, a2, a3, a4, a5, _⟩ := HK.out w' (hB1.trans h)
    exact ⟨a0, a1, a2, a3, a4, a5, h⟩
  clear hW1 hB1
  go_upto_region 6 with fail
  go_region_held3 (fun w' => w'.cell? ⟨w.heap.size, 0, none⟩ = some (.bool false) ∧ w'.cell? ⟨w.heap.size, 1, none⟩ = some (.slice A xs.length c) ∧ w'.cell? ⟨w.heap.size + 1, 0, none⟩ = some (.bool true) ∧ w'.cell? ⟨w.heap.size + 1, 1, none⟩ = some (.slice A' ys.length c') ∧ RowAt w' A (ivals xs) ∧ RowAt w' A' (ivals ys) ∧ Below (w.heap.size + 2) W1 w') (first | exact HK.out _ (Below.refl _ _).drew | (go_split_ands; exact HK.out _ (Below.trans (by assumption) (Below.mono hb6 (by have := Below.size (B := w.heap.size + 2) (w := W1) (by assumption); omega)))) | (go_split_ands; exact HK.out _ (Below.setCell (Below.setCell (by assumption) (by simp) _) (by simp) _))) (first | (go_split_ands; go_at_call 34; refine (fewer_any _ _ ys _ _ xs _ hy cy cx Hle.out (by assumption) (by assumption)).mono ?_; rintro e w6 ⟨Z, d, zs, rfl, g1, g2, g3, g4, g5, g6, hb6⟩; have bx := (Box.drew b2).later hb6; have bc := bx.cells; have bf := bx.free))
  clear bc bf
  have hs6 : W1.heap.size ≤ w6.heap.size := hb6.size
  have hb7 : Below w.heap.size w w6 := hb.trans ((⟨hb6.os, hb6.tape, hb6.output, hb6.size, hb6.block⟩ : Below W1.heap.size W1 w6).mono (by omega))
  have cc := bx.cells
  have cf := bx.free
  have g6 : RowS (fun b => W1.heap.size ≤ b) w6 Z (ivals zs) := g6
  have G := Lib.hid g6
  clear g6 hb6
  go_wp2
  refine bodyPost_ret (by unfold results; simp only [Try.results18]; go_simp; rfl) rfl ?_
  exact ⟨Z, d, zs, rfl, g1, g2, g3, g4, g5, ((G.out.setCell (by omega) _).setCell (by omega) _).mono (fun b _ h => by omega), (hb7.setCell (by simp; omega) _).setCell (by simp; omega) _⟩
end

section
variable {S S' : Nat → Prop} {w : World} {va vb : Value} {a b : Int} {L L' : Nat}

theorem plus_any (ha : BigIs S w va a L) (hb : BigIs S' w vb b L') (hL : L ≤ 100000) (hL' : L' ≤ 100000) :
    Calls Try.prog 18 #[va, vb] w fun e w' => ∃ v, e = .returned v ∧ BigIs (fun x => w.heap.size ≤ x) w' v (a + b) (max L L' + 1) ∧ Below w.heap.size w w' := by
  obtain ⟨A, c, xs, rfl, cx, vx, lx, kx, mx, rx⟩ := ha
  obtain ⟨A', c', ys, rfl, cy, vy, ly, ky, my, ry⟩ := hb
  by_cases h1 : a < 0
  · rw [decide_eq_true h1]
    by_cases h2 : b < 0
    · rw [decide_eq_true h2]
      refine (plus_same (by omega) (by omega) cx.1 cy.1 rx.at ry.at).mono fun e w' ⟨Z, d, zs, he, g1, g2, g3, g4, g5, g6, g7⟩ => ?_
      exact ⟨_, he, ⟨Z, d, zs, by rw [decide_eq_true (by omega)], g1, by omega, by omega, g4, g5, g6⟩, g7⟩
    · rw [decide_eq_false h2]
      by_cases h3 : val ys ≤ val xs
      · refine (plus_ge_tf (by omega) (by omega) cx cy h3 rx.at ry.at).mono fun e w' ⟨Z, d, zs, he, g1, g2, g3, g4, g5, g6, g7⟩ => ?_
        have hz := sd_len g1 g2
        refine ⟨_, he, ⟨Z, d, zs, ?_, g1, by omega, by omega, g4, g5, g6⟩, g7⟩
        rw [show (fun n => true && decide (0 < n)) zs.length = decide (a + b < 0) from (Bool.true_and _).trans (decide_eq_decide.2 (by omega))]
      · refine (plus_lt_tf (by omega) (by omega) cx cy (by omega) rx.at ry.at).mono fun e w' ⟨Z, d, zs, he, g1, g2, g3, g4, g5, g6, g7⟩ => ?_
        exact ⟨_, he, ⟨Z, d, zs, by rw [decide_eq_false (by omega)], g1, by omega, by omega, g4, g5, g6⟩, g7⟩
  · rw [decide_eq_false h1]
    by_cases h2 : b < 0
    · rw [decide_eq_true h2]
      by_cases h3 : val ys ≤ val xs
      · refine (plus_ge_ft (by omega) (by omega) cx cy h3 rx.at ry.at).mono fun e w' ⟨Z, d, zs, he, g1, g2, g3, g4, g5, g6, g7⟩ => ?_
        exact ⟨_, he, ⟨Z, d, zs, by rw [decide_eq_false (show ¬ a + b < 0 by omega)]; rfl, g1, by omega, by omega, g4, g5, g6⟩, g7⟩
      · refine (plus_lt_ft (by omega) (by omega) cx cy (by omega) rx.at ry.at).mono fun e w' ⟨Z, d, zs, he, g1, g2, g3, g4, g5, g6, g7⟩ => ?_
        exact ⟨_, he, ⟨Z, d, zs, by rw [decide_eq_true (by omega)], g1, by omega, by omega, g4, g5, g6⟩, g7⟩
    · rw [decide_eq_false h2]
      refine (plus_same (by omega) (by omega) cx.1 cy.1 rx.at ry.at).mono fun e w' ⟨Z, d, zs, he, g1, g2, g3, g4, g5, g6, g7⟩ => ?_
      exact ⟨_, he, ⟨Z, d, zs, by rw [decide_eq_false (by omega)], g1, by omega, by omega, g4, g5, g6⟩, g7⟩

set_option maxHeartbeats 1000000 in
theorem flip_any (ha : BigIs S w va a L) :
    Calls Try.prog 35 #[va] w fun e w' => ∃ v, e = .returned v ∧ BigIs S w' v (-a) L ∧ Below w.heap.size w w' := by
  obtain ⟨A, c, xs, rfl, cx, vx, lx, kx, mx, rx⟩ := ha
  have rx : RowS (fun x => S x ∧ x < w.heap.size) w A (ivals xs) := rx.mono fun b h1 h2 => ⟨h2, h1⟩
  have hz := sd_len cx vx
  have fin : ∀ t : Bool, decide (-a < 0) = t → ∀ w', RowS (fun x => S x ∧ x < w.heap.size) w' A (ivals xs) → BigIs S w' (.agg #[.bool t, .slice A xs.length c]) (-a) L := fun t ht w' h => ⟨A, c, xs, by rw [ht], cx, by omega, lx, kx, mx, h.mono fun _ _ h => h.1⟩
  have Fin := Lib.hid fin
  have R := Lib.hid rx
  clear fin rx vx kx mx
  by_cases h1 : a < 0
  · rw [decide_eq_true h1]
    have e1 := Lib.hid (decide_eq_false (show ¬ -a < 0 by omega))
    go_enter Try.func35, Try.ntmps35
    go_wp2
    refine bodyPost_ret (by unfold results; simp only [Try.results35]; go_simp; rfl) rfl ?_
    refine ⟨_, rfl, ?_, ((Below.refl _ _).alloc (Nat.le_refl _) _).alloc (by simp) _⟩
    exact Fin.out _ e1.out _ ((R.out.alloc _).alloc _)
  · rw [decide_eq_false h1]
    by_cases h2 : 0 < xs.length
    · have h2' : decide ((0 : Int) < (xs.length : Int)) = true := by simpa using h2
      have e1 := Lib.hid (decide_eq_true (show -a < 0 by omega))
      clear hz
      go_enter Try.func35, Try.ntmps35
      go_wp2
      refine bodyPost_ret (by unfold results; simp only [Try.results35]; go_simp; rfl) rfl ?_
      refine ⟨_, rfl, ?_, ((Below.refl _ _).alloc (Nat.le_refl _) _).alloc (by simp) _⟩
      exact Fin.out _ e1.out _ ((R.out.alloc _).alloc _)
    · have h2' : decide ((0 : Int) < (xs.length : Int)) = false := by simpa using h2
      have e1 := Lib.hid (decide_eq_false (show ¬ -a < 0 by omega))
      clear hz
      go_enter Try.func35, Try.ntmps35
      go_wp2
      refine bodyPost_ret (by unfold results; simp only [Try.results35]; go_simp; rfl) rfl ?_
      refine ⟨_, rfl, ?_, ((Below.refl _ _).alloc (Nat.le_refl _) _).alloc (by simp) _⟩
      exact Fin.out _ e1.out _ ((R.out.alloc _).alloc _)

end
end Go.Proofs.Ytioecjoddgpjbaa
