/-
  The program's wide.Cmp, Sign; the reference's Fits, Told.
-/
import Derived.Test.YtkdpiikfiodopaaDoorWide2
namespace Go.Proofs.YtkdpiikfiodopaaDoor
open Go.RowKit

set_option maxHeartbeats 400000 in
theorem compare_i64 {a b : Int} {w : World} : Calls Tryd.prog 109 #[.int .i64 a, .int .i64 b] w fun e w' => e = .returned (.int .i64 (cmpI a b)) ∧ w = w' := by
  have hn : ∀ (x : Int) (w : World), Calls Tryd.prog 119 #[.int .i64 x] w fun e w' => e = .returned (.bool false) ∧ w = w' := by
    intro x w
    go_enter Tryd.func119, Tryd.ntmps119
    go_wp2
    go_ret
    exact ⟨rfl, rfl⟩
  have Hn := Lib.hid hn
  clear hn
  rcases (by omega : a < b ∨ b < a ∨ a = b) with h | h | h
  · have T := Lib.hid (show cmpI a b = -1 by unfold cmpI; rw [if_pos h])
    rw [T.out]
    go_enter Tryd.func109, Tryd.ntmps109
    go_wp2_with (go_at_call 119; refine (Hn.out _ _).mono ?_; rintro e w' ⟨rfl, rfl⟩)
    go_ret
    exact ⟨rfl, rfl⟩
  · have T := Lib.hid (show cmpI a b = 1 by unfold cmpI; rw [if_neg (by omega), if_pos h])
    rw [T.out]
    go_enter Tryd.func109, Tryd.ntmps109
    go_wp2_with (go_at_call 119; refine (Hn.out _ _).mono ?_; rintro e w' ⟨rfl, rfl⟩)
    go_ret
    exact ⟨rfl, rfl⟩
  · subst h
    have T := Lib.hid (show cmpI a a = 0 by unfold cmpI; rw [if_neg (by omega), if_neg (by omega)])
    rw [T.out]
    go_enter Tryd.func109, Tryd.ntmps109
    go_wp2_with (go_at_call 119; refine (Hn.out _ _).mono ?_; rintro e w' ⟨rfl, rfl⟩)
    go_ret
    exact ⟨rfl, rfl⟩
set_option maxHeartbeats 400000 in
theorem compare_u64 {a b : Int} {w : World} : Calls Tryd.prog 110 #[.int .u64 a, .int .u64 b] w fun e w' => e = .returned (.int .i64 (cmpI a b)) ∧ w = w' := by
  have hn : ∀ (x : Int) (w : World), Calls Tryd.prog 120 #[.int .u64 x] w fun e w' => e = .returned (.bool false) ∧ w = w' := by
    intro x w
    go_enter Tryd.func120, Tryd.ntmps120
    go_wp2
    go_ret
    exact ⟨rfl, rfl⟩
  have Hn := Lib.hid hn
  clear hn
  rcases (by omega : a < b ∨ b < a ∨ a = b) with h | h | h
  · have T := Lib.hid (show cmpI a b = -1 by unfold cmpI; rw [if_pos h])
    rw [T.out]
    go_enter Tryd.func110, Tryd.ntmps110
    go_wp2_with (go_at_call 120; refine (Hn.out _ _).mono ?_; rintro e w' ⟨rfl, rfl⟩)
    go_ret
    exact ⟨rfl, rfl⟩
  · have T := Lib.hid (show cmpI a b = 1 by unfold cmpI; rw [if_neg (by omega), if_pos h])
    rw [T.out]
    go_enter Tryd.func110, Tryd.ntmps110
    go_wp2_with (go_at_call 120; refine (Hn.out _ _).mono ?_; rintro e w' ⟨rfl, rfl⟩)
    go_ret
    exact ⟨rfl, rfl⟩
  · subst h
    have T := Lib.hid (show cmpI a a = 0 by unfold cmpI; rw [if_neg (by omega), if_neg (by omega)])
    rw [T.out]
    go_enter Tryd.func110, Tryd.ntmps110
    go_wp2_with (go_at_call 120; refine (Hn.out _ _).mono ?_; rintro e w' ⟨rfl, rfl⟩)
    go_ret
    exact ⟨rfl, rfl⟩

theorem RowAt.lit {w : World} {t : TypeId} (l : List Int) (cs : Array Value) (h : cs = (ivals l).toArray) : RowAt (w.alloc (.cells cs t)) (some ⟨w.heap.size, 0, none⟩) (ivals l) := by
  subst h
  refine RowAt.of_cells fun j u hj => ?_
  rw [addr_add, (Box.new w t _).cells]
  simpa using hj

def orI (p q : Int) : Int := if p = 0 then q else p
set_option maxHeartbeats 400000 in
theorem or_any {A : Option Addr} {p q : Int} {w : World} (hr : RowAt w A (ivals [p, q])) :
    Calls Tryd.prog 108 #[.slice A 2 2] w fun e w' => e = .returned (.int .i64 (orI p q)) ∧ w = w' := by
  obtain ⟨b, off, rfl, _, hc⟩ := hr.iget (by simp)
  have c0 : w.cell? ⟨b, off, none⟩ = some (.int .i64 p) := hc 0 (by simp)
  have c1 : w.cell? ⟨b, off + 1, none⟩ = some (.int .i64 q) := hc 1 (by simp)
  clear hc hr
  by_cases hp : p = 0
  · have e := Lib.hid (show orI p q = q from if_pos hp)
    rw [e.out]
    subst hp
    by_cases hq : q = 0
    · subst hq
      go_enter Tryd.func108, Tryd.ntmps108
      go_wp2
      go_loop [8] (fun i => ∃ k : Nat, k ≤ 2 ∧ i = .int .i64 k) (fun i => 2 - (intOf i).toNat)
      case atStart => exact ⟨0, by omega, rfl⟩
      case round =>
        obtain ⟨k, hk, rfl⟩ := hrel
        rcases (by omega : k = 0 ∨ k = 1 ∨ k = 2) with rfl | rfl | rfl
        · go_wp2
          go_round
          case rel => exact ⟨1, by omega, rfl⟩
          case measure => simp [intOf]
        · go_wp2
          go_round
          case rel => exact ⟨2, by omega, rfl⟩
          case measure => simp [intOf]
        · go_wp2
          go_ret
          exact ⟨rfl, rfl⟩
    · have hb : (q != 0) = true := by simpa using hq
      go_enter Tryd.func108, Tryd.ntmps108
      go_wp2
      go_loop [8] (fun i => ∃ k : Nat, k ≤ 1 ∧ i = .int .i64 k) (fun i => 2 - (intOf i).toNat)
      case atStart => exact ⟨0, by omega, rfl⟩
      case round =>
        obtain ⟨k, hk, rfl⟩ := hrel
        rcases (by omega : k = 0 ∨ k = 1) with rfl | rfl
        · go_wp2
          go_round
          case rel => exact ⟨1, by omega, rfl⟩
          case measure => simp [intOf]
        · go_wp2
          go_ret
          exact ⟨rfl, rfl⟩
  · have e := Lib.hid (show orI p q = p from if_neg hp)
    rw [e.out]
    have hb : (p != 0) = true := by simpa using hp
    go_enter Tryd.func108, Tryd.ntmps108
    go_wp2
    go_loop [8] (fun i => i = .int .i64 0) (fun i => 2 - (intOf i).toNat)
    case atStart => rfl
    case round =>
      obtain rfl := hrel
      go_wp2
      go_ret
      exact ⟨rfl, rfl⟩
theorem cmpI_lt {a b : Int} (h : a < b) : cmpI a b = -1 := by unfold cmpI; rw [if_pos h]
theorem cmpI_gt {a b : Int} (h : b < a) : cmpI a b = 1 := by unfold cmpI; rw [if_neg (by omega), if_pos h]
theorem cmpI_eq {a b : Int} (h : a = b) : cmpI a b = 0 := by unfold cmpI; rw [if_neg (by omega), if_neg (by omega)]
theorem orI_cmp (x y : Int) : orI (cmpI (x / 18446744073709551616) (y / 18446744073709551616)) (cmpI (x % 18446744073709551616) (y % 18446744073709551616)) = cmpI x y := by
  unfold orI
  rcases (by omega : x / 18446744073709551616 < y / 18446744073709551616 ∨ y / 18446744073709551616 < x / 18446744073709551616 ∨ x / 18446744073709551616 = y / 18446744073709551616) with h | h | h
  · rw [cmpI_lt h, cmpI_lt (show x < y by omega), if_neg (by omega)]
  · rw [cmpI_gt h, cmpI_gt (show y < x by omega), if_neg (by omega)]
  · rw [cmpI_eq h, if_pos rfl]
    rcases (by omega : x % 18446744073709551616 < y % 18446744073709551616 ∨ y % 18446744073709551616 < x % 18446744073709551616 ∨ x % 18446744073709551616 = y % 18446744073709551616) with g | g | g
    · rw [cmpI_lt g, cmpI_lt (show x < y by omega)]
    · rw [cmpI_gt g, cmpI_gt (show y < x by omega)]
    · rw [cmpI_eq g, cmpI_eq (show x = y by omega)]

set_option maxHeartbeats 1000000 in
theorem wcmp_any {x y : Int} {w : World} :
    Calls Tryd.prog 92 #[WV x, WV y] w fun e w' => e = .returned (.int .i64 (cmpI x y)) ∧ Below w.heap.size w w' := by
  rw [WV_out, WV_out, ← orI_cmp]
  generalize x / 18446744073709551616 = xh at *
  generalize x % 18446744073709551616 = xl at *
  generalize y / 18446744073709551616 = yh at *
  generalize y % 18446744073709551616 = yl at *
  have C1 := Lib.hid fun w => compare_i64 (a := xh) (b := yh) (w := w)
  have C2 := Lib.hid fun w => compare_u64 (a := xl) (b := yl) (w := w)
  generalize cmpI xh yh = p at *
  generalize cmpI xl yl = q at *
  go_enter Tryd.func92, Tryd.ntmps92
  go_wp2
  obtain ⟨W0, hW0⟩ : ∃ W0, W0 = (w.alloc (.cells #[.int .i64 xh, .int .u64 xl] 69)).alloc (.cells #[.int .i64 yh, .int .u64 yl] 69) := ⟨_, rfl⟩
  have x0 : Box W0 w.heap.size 69 #[.int .i64 xh, .int .u64 xl] := by rw [hW0]; exact (Box.new _ _ _).alloc _
  have x1 : Box W0 (w.heap.size + 1) 69 #[.int .i64 yh, .int .u64 yl] := by rw [hW0]; exact Box.new' (by simp)
  have hB : Below w.heap.size w W0 := by rw [hW0]; exact ((Below.refl _ _).alloc (Nat.le_refl _) _).alloc (by simp) _
  rewrite [← hW0]
  clear hW0
  have k0 := x0.cells
  have k1 := x1.cells
  have l0 : w.heap.size < W0.heap.size := x0.lt
  have l1 : w.heap.size + 1 < W0.heap.size := x1.lt
  go_region_held3 (fun w' => w'.cell? ⟨w.heap.size, 0, none⟩ = some (.int .i64 xh) ∧ w'.cell? ⟨w.heap.size, 1, none⟩ = some (.int .u64 xl) ∧ w'.cell? ⟨w.heap.size + 1, 0, none⟩ = some (.int .i64 yh) ∧ w'.cell? ⟨w.heap.size + 1, 1, none⟩ = some (.int .u64 yl)) (go_keep)
    (first
      | (go_at_call 109; refine (C1.out _).mono ?_; rintro e _ ⟨rfl, rfl⟩)
      | (go_at_call 110; refine (C2.out _).mono ?_; rintro e _ ⟨rfl, rfl⟩)
      | (go_at_call 108; refine (or_any (p := p) (q := q) ((RowAt.lit (w := W0) (t := 3) [p, q] #[.int .i64 p, .int .i64 q] rfl).drew)).mono ?_; rintro e _ ⟨rfl, rfl⟩))
  go_wp2
  go_ret
  exact ⟨rfl, (hB.alloc hB.size _).drew⟩

section
variable {S : Nat → Prop} {w : World} {v : Value} {z : Int} {L : Nat}
theorem BigIs.form2 (h : BigIs S w v z L) : ∃ t A n c, v = .agg #[.bool t, .slice A n c] := by
  obtain ⟨A, c, xs, e, _⟩ := h
  exact ⟨_, A, _, c, e⟩

/-- Does a number fit? -/
def fitsB (z : Int) : Bool := decide (-170141183460469231731687303715884105728 ≤ z) && decide (z ≤ 170141183460469231731687303715884105727)
theorem fitsB_in {z : Int} (h : W128 z) : fitsB z = true := by unfold fitsB; rw [decide_eq_true h.1, decide_eq_true h.2]; rfl
theorem fitsB_out {z : Int} (h : z < -170141183460469231731687303715884105728 ∨ 170141183460469231731687303715884105727 < z) : fitsB z = false := by
  unfold fitsB
  rcases h with h | h
  · rw [decide_eq_false (by omega)]; rfl
  · rw [decide_eq_false (show ¬ z ≤ 170141183460469231731687303715884105727 by omega), Bool.and_false]
theorem cmpI_range (a b : Int) : -1 ≤ cmpI a b ∧ cmpI a b ≤ 1 := by
  unfold cmpI
  split
  · omega
  · split <;> omega

end
end Go.Proofs.YtkdpiikfiodopaaDoor
