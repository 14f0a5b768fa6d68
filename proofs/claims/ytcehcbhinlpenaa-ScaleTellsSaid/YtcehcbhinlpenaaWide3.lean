/-
  The program's wide.Cmp, Sign; the reference's Fits, Told.
-/
import Derived.Test.YtcehcbhinlpenaaWide2
namespace Go.Proofs.Ytcehcbhinlpenaa
open Go.RowKit

set_option maxHeartbeats 400000 in
theorem compare_i64 {a b : Int} {w : World} : Calls Try.prog 54 #[.int .i64 a, .int .i64 b] w fun e w' => e = .returned (.int .i64 (cmpI a b)) ∧ w = w' := by
  have hn : ∀ (x : Int) (w : World), Calls Try.prog 61 #[.int .i64 x] w fun e w' => e = .returned (.bool false) ∧ w = w' := by
    intro x w
    go_enter Try.func61, Try.ntmps61
    go_wp2
    go_ret
    exact ⟨rfl, rfl⟩
  have Hn := Lib.hid hn
  clear hn
  rcases (by omega : a < b ∨ b < a ∨ a = b) with h | h | h
  · have T := Lib.hid (show cmpI a b = -1 by unfold cmpI; rw [if_pos h])
    rw [T.out]
    go_enter Try.func54, Try.ntmps54
    go_wp2_with (go_at_call 61; refine (Hn.out _ _).mono ?_; rintro e w' ⟨rfl, rfl⟩)
    go_ret
    exact ⟨rfl, rfl⟩
  · have T := Lib.hid (show cmpI a b = 1 by unfold cmpI; rw [if_neg (by omega), if_pos h])
    rw [T.out]
    go_enter Try.func54, Try.ntmps54
    go_wp2_with (go_at_call 61; refine (Hn.out _ _).mono ?_; rintro e w' ⟨rfl, rfl⟩)
    go_ret
    exact ⟨rfl, rfl⟩
  · subst h
    have T := Lib.hid (show cmpI a a = 0 by unfold cmpI; rw [if_neg (by omega), if_neg (by omega)])
    rw [T.out]
    go_enter Try.func54, Try.ntmps54
    go_wp2_with (go_at_call 61; refine (Hn.out _ _).mono ?_; rintro e w' ⟨rfl, rfl⟩)
    go_ret
    exact ⟨rfl, rfl⟩
set_option maxHeartbeats 400000 in
theorem compare_u64 {a b : Int} {w : World} : Calls Try.prog 55 #[.int .u64 a, .int .u64 b] w fun e w' => e = .returned (.int .i64 (cmpI a b)) ∧ w = w' := by
  have hn : ∀ (x : Int) (w : World), Calls Try.prog 62 #[.int .u64 x] w fun e w' => e = .returned (.bool false) ∧ w = w' := by
    intro x w
    go_enter Try.func62, Try.ntmps62
    go_wp2
    go_ret
    exact ⟨rfl, rfl⟩
  have Hn := Lib.hid hn
  clear hn
  rcases (by omega : a < b ∨ b < a ∨ a = b) with h | h | h
  · have T := Lib.hid (show cmpI a b = -1 by unfold cmpI; rw [if_pos h])
    rw [T.out]
    go_enter Try.func55, Try.ntmps55
    go_wp2_with (go_at_call 62; refine (Hn.out _ _).mono ?_; rintro e w' ⟨rfl, rfl⟩)
    go_ret
    exact ⟨rfl, rfl⟩
  · have T := Lib.hid (show cmpI a b = 1 by unfold cmpI; rw [if_neg (by omega), if_pos h])
    rw [T.out]
    go_enter Try.func55, Try.ntmps55
    go_wp2_with (go_at_call 62; refine (Hn.out _ _).mono ?_; rintro e w' ⟨rfl, rfl⟩)
    go_ret
    exact ⟨rfl, rfl⟩
  · subst h
    have T := Lib.hid (show cmpI a a = 0 by unfold cmpI; rw [if_neg (by omega), if_neg (by omega)])
    rw [T.out]
    go_enter Try.func55, Try.ntmps55
    go_wp2_with (go_at_call 62; refine (Hn.out _ _).mono ?_; rintro e w' ⟨rfl, rfl⟩)
    go_ret
    exact ⟨rfl, rfl⟩

theorem RowAt.lit {w : World} {t : TypeId} (l : List Int) (cs : Array Value) (h : cs = (ivals l).toArray) : RowAt (w.alloc (.cells cs t)) (some ⟨w.heap.size, 0, none⟩) (ivals l) := by
  subst h
  refine RowAt.of_cells fun j u hj => ?_
  rw [addr_add, (Box.new w t _).cells]
  simpa using hj

def orI (p q : Int) : Int := if p = 0 then q else p
set_option maxHeartbeats 400000 in
theorem or_any {A : Option Addr} {p q : Int} {w : World} (hr : RowAt w A (ivals [p, q])) :
    Calls Try.prog 53 #[.slice A 2 2] w fun e w' => e = .returned (.int .i64 (orI p q)) ∧ w = w' := by
  obtain ⟨b, off, rfl, _, hc⟩ := hr.iget (by simp)
  have c0 : w.cell? ⟨b, off, none⟩ = some (.int .i64 p) := hc 0 (by simp)
  have c1 : w.cell? ⟨b, off + 1, none⟩ = some (.int .i64 q) := hc 1 (by simp)
  clear hc hr
  by_cases hp : p = 0
  · have e := Lib.hid (show orI p q = q from if_pos hp)
    rw [e.out]
    subst hp
    by_cases hq : q = 0
    · subst hq
      go_enter Try.func53, Try.ntmps53
      go_wp2
      go_loop [8] (fun i => ∃ k : Nat, k ≤ 2 ∧ i = .int .i64 k) (fun i => 2 - (intOf i).toNat)
      case atStart => exact ⟨0, by omega, rfl⟩
      case round =>
        obtain ⟨k, hk, rfl⟩ := hrel
        rcases (by omega : k = 0 ∨ k = 1 ∨ k = 2) with rfl | rfl | rfl
        · go_wp2
          go_round
          case rel => exact ⟨1, by omega, rfl⟩
          case measure => simp [intOf]
        · go_wp2
          go_round
          case rel => exact ⟨2, by omega, rfl⟩
          case measure => simp [intOf]
        · go_wp2
          go_ret
          exact ⟨rfl, rfl⟩
    · have hb : (q != 0) = true := by simpa using hq
      go_enter Try.func53, Try.ntmps53
      go_wp2
      go_loop [8] (fun i => ∃ k : Nat, k ≤ 1 ∧ i = .int .i64 k) (fun i => 2 - (intOf i).toNat)
      case atStart => exact ⟨0, by omega, rfl⟩
      case round =>
        obtain ⟨k, hk, rfl⟩ := hrel
        rcases (by omega : k = 0 ∨ k = 1) with rfl | rfl
        · go_wp2
          go_round
          case rel => exact ⟨1, by omega, rfl⟩
          case measure => simp [intOf]
        · go_wp2
          go_ret
          exact ⟨rfl, rfl⟩
  · have e := Lib.hid (show orI p q = p from if_neg hp)
    rw [e.out]
    have hb : (p != 0) = true := by simpa using hp
    go_enter Try.func53, Try.ntmps53
    go_wp2
    go_loop [8] (fun i => i = .int .i64 0) (fun i => 2 - (intOf i).toNat)
    case atStart => rfl
    case round =>
      obtain rfl := hrel
      go_wp2
      go_ret
      exact ⟨rfl, rfl⟩
theorem cmpI_lt {a b : Int} (h : a < b) : cmpI a b = -1 := by unfold cmpI; rw [if_pos h]
theorem cmpI_gt {a b : Int} (h : b < a) : cmpI a b = 1 := by unfold cmpI; rw [if_neg (by omega), if_pos h]
theorem cmpI_eq {a b : Int} (h : a = b) : cmpI a b = 0 := by unfold cmpI; rw [if_neg (by omega), if_neg (by omega)]
theorem orI_cmp (x y : Int) : orI (cmpI (x / 18446744073709551616) (y / 18446744073709551616)) (cmpI (x % 18446744073709551616) (y % 18446744073709551616)) = cmpI x y := by
  unfold orI
  rcases (by omega : x / 18446744073709551616 < y / 18446744073709551616 ∨ y / 18446744073709551616 < x / 18446744073709551616 ∨ x / 18446744073709551616 = y / 18446744073709551616) with h | h | h
  · rw [cmpI_lt h, cmpI_lt (show x < y by omega), if_neg (by omega)]
  · rw [cmpI_gt h, cmpI_gt (show y < x by omega), if_neg (by omega)]
  · rw [cmpI_eq h, if_pos rfl]
    rcases (by omega : x % 18446744073709551616 < y % 18446744073709551616 ∨ y % 18446744073709551616 < x % 18446744073709551616 ∨ x % 18446744073709551616 = y % 18446744073709551616) with g | g | g
    · rw [cmpI_lt g, cmpI_lt (show x < y by omega)]
    · rw [cmpI_gt g, cmpI_gt (show y < x by omega)]
    · rw [cmpI_eq g, cmpI_eq (show x = y by omega)]

set_option maxHeartbeats 1000000 in
theorem wcmp_any {x y : Int} {w : World} :
    Calls Try.prog 27 #[WV x, WV y] w fun e w' => e = .returned (.int .i64 (cmpI x y)) ∧ Below w.heap.size w w' := by
  rw [WV_out, WV_out, ← orI_cmp]
  generalize x / 18446744073709551616 = xh at *
  generalize x % 18446744073709551616 = xl at *
  generalize y / 18446744073709551616 = yh at *
  generalize y % 18446744073709551616 = yl at *
  have C1 := Lib.hid fun w => compare_i64 (a := xh) (b := yh) (w := w)
  have C2 := Lib.hid fun w => compare_u64 (a := xl) (b := yl) (w := w)
  generalize cmpI xh yh = p at *
  generalize cmpI xl yl = q at *
  go_enter Try.func27, Try.ntmps27
  go_wp2
  obtain ⟨W0, hW0⟩ : ∃ W0, W0 = (w.alloc (.cells #[.int .i64 xh, .int .u64 xl] 28)).alloc (.cells #[.int .i64 yh, .int .u64 yl] 28) := ⟨_, rfl⟩
  have x0 : Box W0 w.heap.size 28 #[.int .i64 xh, .int .u64 xl] := by rw [hW0]; exact (Box.new _ _ _).alloc _
  have x1 : Box W0 (w.heap.size + 1) 28 #[.int .i64 yh, .int .u64 yl] := by rw [hW0]; exact Box.new' (by simp)
  have hB : Below w.heap.size w W0 := by rw [hW0]; exact ((Below.refl _ _).alloc (Nat.le_refl _) _).alloc (by simp) _
  rewrite [← hW0]
  clear hW0
  have k0 := x0.cells
  have k1 := x1.cells
  have l0 : w.heap.size < W0.heap.size := x0.lt
  have l1 : w.heap.size + 1 < W0.heap.size := x1.lt
  go_region_held3 (fun w' => w'.cell? ⟨w.heap.size, 0, none⟩ = some (.int .i64 xh) ∧ w'.cell? ⟨w.heap.size, 1, none⟩ = some (.int .u64 xl) ∧ w'.cell? ⟨w.heap.size + 1, 0, none⟩ = some (.int .i64 yh) ∧ w'.cell? ⟨w.heap.size + 1, 1, none⟩ = some (.int .u64 yl)) (go_keep)
    (first
      | (go_at_call 54; refine (C1.out _).mono ?_; rintro e _ ⟨rfl, rfl⟩)
      | (go_at_call 55; refine (C2.out _).mono ?_; rintro e _ ⟨rfl, rfl⟩)
      | (go_at_call 53; refine (or_any (p := p) (q := q) ((RowAt.lit (w := W0) (t := 3) [p, q] #[.int .i64 p, .int .i64 q] rfl).drew)).mono ?_; rintro e _ ⟨rfl, rfl⟩))
  go_wp2
  go_ret
  exact ⟨rfl, (hB.alloc hB.size _).drew⟩

theorem wsign_any {x : Int} {w : World} :
    Calls Try.prog 28 #[WV x] w fun e w' => e = .returned (.int .i64 (cmpI x 0)) ∧ Below w.heap.size w w' := by
  have C := Lib.hid fun w => wcmp_any (x := x) (y := 0) (w := w)
  simp only [WV_out, show (0 : Int) / 18446744073709551616 = 0 from rfl, show (0 : Int) % 18446744073709551616 = 0 from rfl] at C ⊢
  generalize x / 18446744073709551616 = xh at *
  generalize x % 18446744073709551616 = xl at *
  go_enter Try.func28, Try.ntmps28
  go_wp2_with fail
  refine (C.out _).mono ?_
  rintro e w1 ⟨rfl, b1⟩
  go_wp2
  go_ret
  exact ⟨rfl, below_up b1⟩

section
variable {S : Nat → Prop} {w : World} {v : Value} {z : Int} {L : Nat}
theorem BigIs.form2 (h : BigIs S w v z L) : ∃ t A n c, v = .agg #[.bool t, .slice A n c] := by
  obtain ⟨A, c, xs, e, _⟩ := h
  exact ⟨_, A, _, c, e⟩

theorem rofz_any {z : Int} (hz : W128 z) {w : World} :
    Calls Try.prog 17 #[WV z] w fun e w' => ∃ v, e = .returned v ∧ BigIs (fun x => w.heap.size ≤ x) w' v z 58 ∧ Below w.heap.size w w' := by
  obtain ⟨h1, h2⟩ := hz
  have := rof_any (h := z / 18446744073709551616) (l := z % 18446744073709551616) (w := w) (by omega) (by omega) (by omega) (by omega)
  rw [show z / 18446744073709551616 * 18446744073709551616 + z % 18446744073709551616 = z by omega] at this
  exact this

/-- Does a number fit? -/
def fitsB (z : Int) : Bool := decide (-170141183460469231731687303715884105728 ≤ z) && decide (z ≤ 170141183460469231731687303715884105727)
theorem fitsB_in {z : Int} (h : W128 z) : fitsB z = true := by unfold fitsB; rw [decide_eq_true h.1, decide_eq_true h.2]; rfl
theorem fitsB_out {z : Int} (h : z < -170141183460469231731687303715884105728 ∨ 170141183460469231731687303715884105727 < z) : fitsB z = false := by
  unfold fitsB
  rcases h with h | h
  · rw [decide_eq_false (by omega)]; rfl
  · rw [decide_eq_false (show ¬ z ≤ 170141183460469231731687303715884105727 by omega), Bool.and_false]
theorem cmpI_range (a b : Int) : -1 ≤ cmpI a b ∧ cmpI a b ≤ 1 := by
  unfold cmpI
  split
  · omega
  · split <;> omega

set_option maxHeartbeats 1000000 in
theorem fits_any (h : BigIs S w v z L) (hL : L ≤ 100000) :
    Calls Try.prog 50 #[v] w fun e w' => e = .returned (.bool (fitsB z)) ∧ Below w.heap.size w w' := by
  have T := Lib.hid fun w => rofz_any (z := 170141183460469231731687303715884105727) ⟨by omega, by omega⟩ (w := w)
  have B := Lib.hid fun w => rofz_any (z := -170141183460469231731687303715884105728) ⟨by omega, by omega⟩ (w := w)
  simp only [WV_out, show (170141183460469231731687303715884105727 : Int) / 18446744073709551616 = 9223372036854775807 from rfl, show (170141183460469231731687303715884105727 : Int) % 18446744073709551616 = 18446744073709551615 from rfl] at T
  simp only [WV_out, show (-170141183460469231731687303715884105728 : Int) / 18446744073709551616 = -9223372036854775808 from rfl, show (-170141183460469231731687303715884105728 : Int) % 18446744073709551616 = 0 from rfl] at B
  have C1 := Lib.hid fun (w : World) S S' va vb (ha : BigIs S w va z L) (hb : BigIs S' w vb (-170141183460469231731687303715884105728) 58) => cmp_any ha hb hL (by omega)
  have C2 := Lib.hid fun (w : World) S S' va vb (ha : BigIs S w va z L) (hb : BigIs S' w vb 170141183460469231731687303715884105727 58) => cmp_any ha hb hL (by omega)
  obtain ⟨t, A, n, c, rfl⟩ := h.form2
  have f : Hid (fitsB z = (decide (0 ≤ cmpI z (-170141183460469231731687303715884105728)) && decide (cmpI z 170141183460469231731687303715884105727 ≤ 0))) := by
    show _ = _
    rcases (by omega : z < -170141183460469231731687303715884105728 ∨ 170141183460469231731687303715884105727 < z ∨ (-170141183460469231731687303715884105728 ≤ z ∧ z ≤ 170141183460469231731687303715884105727)) with g | g | g
    · rw [fitsB_out (.inl g), cmpI_lt g]; rfl
    · rw [fitsB_out (.inr g), cmpI_gt g]; simp
    · have g1 : 0 ≤ cmpI z (-170141183460469231731687303715884105728) := by unfold cmpI; rw [if_neg (by omega)]; split <;> omega
      have g2 : cmpI z 170141183460469231731687303715884105727 ≤ 0 := by unfold cmpI; split; omega; rw [if_neg (by omega)]; omega
      rw [fitsB_in g, decide_eq_true g1, decide_eq_true g2]; rfl
  have p1 := cmpI_range z (-170141183460469231731687303715884105728)
  have p2 := cmpI_range z 170141183460469231731687303715884105727
  generalize cmpI z (-170141183460469231731687303715884105728) = p at *
  generalize cmpI z 170141183460469231731687303715884105727 = q at *
  generalize fitsB z = b at *
  by_cases h1 : 0 ≤ p <;> by_cases h2 : q ≤ 0
  all_goals
    go_enter Try.func50, Try.ntmps50
    go_wp2_with fail
    refine (T.out _).mono ?_
    rintro e w1 ⟨v1, rfl, m1, b1⟩
    obtain ⟨t1, A1, n1, c1, rfl⟩ := m1.form2
    have B1 := below_up b1
    have x0 := (Box.new w 24 #[.bool t, .slice A n c]).later b1
    go_wp2_with fail
    refine (B.out _).mono ?_
    rintro e w2 ⟨v2, rfl, m2, b2⟩
    obtain ⟨t2, A2, n2, c2, rfl⟩ := m2.form2
    have y0 := (x0.alloc (.cells #[.bool t1, .slice A1 n1 c1] 24)).later b2
    have y1 := (Box.new w1 24 #[.bool t1, .slice A1 n1 c1]).later b2
    have B2 := B1.trans ((below_up b2).mono B1.size)
    have m1 := m1.below (below_up b2) (Nat.le_refl _)
    have h' := (h.below B2 (Nat.le_refl _)).alloc (.cells #[.bool t2, .slice A2 n2 c2] 24)
    have m2' := m2.alloc (.cells #[.bool t2, .slice A2 n2 c2] 24)
    have k0 := y0.cells
    have l0 := y0.lt
    clear b1 b2 B1 x0 m2
    go_wp2_with fail
    refine (C1.out _ _ _ _ _ h' m2').mono ?_
    rintro e w3 ⟨rfl, b3⟩
    have k0' := ((y0.alloc _).later b3).cells
    have k1' := ((y1.alloc _).later b3).cells
    have B3 := B2.trans ((below_up b3).mono B2.size)
    have h3 := h'.below b3 (Nat.le_refl _)
    have m3 := (m1.alloc (.cells #[.bool t2, .slice A2 n2 c2] 24)).below b3 (Nat.le_refl _)
    clear k0 l0 y0 y1 b3 B2 h' m2' m1
  · go_wp2_with fail
    refine (C2.out _ _ _ _ _ h3 m3).mono ?_
    rintro e w4 ⟨rfl, b4⟩
    have B4 := B3.trans (b4.mono B3.size)
    clear b4 B3 k0' k1'
    go_wp2
    go_ret
    exact ⟨by rw [f.out, decide_eq_true h1, decide_eq_true h2]; rfl, B4⟩
  · go_wp2_with fail
    refine (C2.out _ _ _ _ _ h3 m3).mono ?_
    rintro e w4 ⟨rfl, b4⟩
    have B4 := B3.trans (b4.mono B3.size)
    clear b4 B3 k0' k1'
    go_wp2
    go_ret
    exact ⟨by rw [f.out, decide_eq_true h1, decide_eq_false (show ¬ q ≤ 0 by omega)]; rfl, B4⟩
  · go_wp2
    go_ret
    exact ⟨by rw [f.out, decide_eq_false (show ¬ 0 ≤ p by omega)]; rfl, B3⟩
  · go_wp2
    go_ret
    exact ⟨by rw [f.out, decide_eq_false (show ¬ 0 ≤ p by omega)]; rfl, B3⟩

set_option maxHeartbeats 1000000 in
theorem rtold_any (h : BigIs S w v z L) (hL : L ≤ 100000) :
    Calls Try.prog 23 #[WV (toldW z).1, .int .i64 (toldW z).2, v] w fun e w' => e = .returned (.bool true) ∧ Below w.heap.size w w' := by
  have F := Lib.hid fun (w : World) S va (ha : BigIs S w va z L) => fits_any ha hL
  have E0 := fun w => weqz 0 0 w
  rw [decide_eq_true rfl] at E0
  simp only [show (0 : Int) / 18446744073709551616 = 0 from rfl, show (0 : Int) % 18446744073709551616 = 0 from rfl] at E0
  obtain ⟨t, A, n, c, rfl⟩ := h.form2
  rcases (by unfold W128; omega : (z < -170141183460469231731687303715884105728 ∨ 170141183460469231731687303715884105727 < z) ∨ W128 z) with hz | hz
  · rw [fitsB_out hz] at F
    rw [toldW_out hz]
    show Calls _ _ #[.agg #[.int .i64 0, .int .u64 0], .int .i64 10, _] _ _
    go_enter Try.func23, Try.ntmps23
    have h' := (h.alloc (.cells #[.int .i64 0, .int .u64 0] 28)).alloc (.cells #[.bool t, .slice A n c] 24)
    go_wp2_with fail
    refine (F.out _ _ _ h').mono ?_
    rintro e w1 ⟨rfl, b1⟩
    have k0 := ((Box.new w 28 #[.int .i64 0, .int .u64 0]).alloc (.cells #[.bool t, .slice A n c] 24) |>.later b1).cells
    have B1 := below_up (below_up b1)
    clear b1
    go_wp2
    go_ret
    exact ⟨rfl, B1⟩
  · rw [fitsB_in hz] at F
    rw [toldW_in hz.1 hz.2]
    have O := Lib.hid fun w => rofz_any hz (w := w)
    have C := Lib.hid fun (w : World) S S' va vb (ha : BigIs S w va z 58) (hb : BigIs S' w vb z L) => cmp_any ha hb (by omega) hL
    rw [cmpI_eq rfl] at C
    simp only [WV_out] at O
    show Calls _ _ #[.agg #[.int .i64 (z / 18446744073709551616), .int .u64 (z % 18446744073709551616)], .int .i64 0, _] _ _
    generalize z / 18446744073709551616 = zh at *
    generalize z % 18446744073709551616 = zl at *
    go_enter Try.func23, Try.ntmps23
    have h' := (h.alloc (.cells #[.int .i64 zh, .int .u64 zl] 28)).alloc (.cells #[.bool t, .slice A n c] 24)
    go_wp2_with fail
    refine (F.out _ _ _ h').mono ?_
    rintro e w1 ⟨rfl, b1⟩
    have x0 := ((Box.new w 28 #[.int .i64 zh, .int .u64 zl]).alloc (.cells #[.bool t, .slice A n c] 24)).later b1
    have x1 := (Box.new' (w := w.alloc (.cells #[.int .i64 zh, .int .u64 zl] 28)) (g := w.heap.size + 1) (t := 24) (cs := #[.bool t, .slice A n c]) (by simp)).later b1
    have B1 := below_up (below_up b1)
    have h1 := h'.below b1 (Nat.le_refl _)
    have k0 := x0.cells
    have k1 := x1.cells
    clear b1
    go_wp2
    go_region_held3 (fun w' => w'.cell? ⟨w.heap.size, 0, none⟩ = some (.int .i64 zh) ∧ w'.cell? ⟨w.heap.size, 1, none⟩ = some (.int .u64 zl) ∧ w'.cell? ⟨w.heap.size + 1, 0, none⟩ = some (.bool t) ∧ w'.cell? ⟨w.heap.size + 1, 1, none⟩ = some (.slice A n c)) (go_keep)
      (first
        | (go_at_call 17; refine (O.out _).mono ?_; rintro e w2 ⟨v2, rfl, m2, b2⟩; have k2 := (x0.drew.later b2).cells; have x2 := x1.drew.later b2; have k2' := x2.cells)
        | (go_at_call 16; refine (C.out _ _ _ _ _ m2 (h1.drew.below b2 (Nat.le_refl _))).mono ?_; rintro e w3 ⟨rfl, b3⟩; have k3 := ((x0.drew.later b2).later b3).cells; have k3' := (x2.later b3).cells))
    have B2 := B1.trans ((below_undrew b2).mono B1.size)
    have B3 := B2.trans (b3.mono B2.size)
    go_wp2
    go_ret
    exact ⟨rfl, B3⟩
end
end Go.Proofs.Ytcehcbhinlpenaa
