/-
  The statement of chapter 6 on more and on fewer decimals: DecimalFiner.
-/
import Derived.Test.YtmdflhgmlipplaaDoorDe9
namespace Go.Proofs.YtmdflhgmlipplaaDoor
open Go.RowKit

theorem near_scale {z d g : Int} (h1 : 1 ≤ d) (hg : 1 ≤ g) : nearI (g * z) (g * d) = nearI z d := by
  have hgd : 1 ≤ g * d := by
    have := Int.mul_le_mul hg h1 (by omega) (by omega : (0 : Int) ≤ g)
    omega
  obtain ⟨k1, k2, k3⟩ := near_spec (z := z) h1
  generalize hn : nearI z d = n at *
  have e : ∀ t : Int, g * z - g * d * n = g * (z - d * n) := fun _ => by grind
  have e' := e 0
  have h' : -(g * d) ≤ 2 * (g * z - g * d * n) ∧ 2 * (g * z - g * d * n) ≤ g * d ∧ (2 * (g * z - g * d * n) = g * d ∨ 2 * (g * z - g * d * n) = -(g * d) → n % 2 = 0) := by
    rw [e']
    generalize z - d * n = t at *
    have m1 : g * (-d) ≤ g * (2 * t) := Int.mul_le_mul_of_nonneg_left k1 (by omega)
    have m2 : g * (2 * t) ≤ g * d := Int.mul_le_mul_of_nonneg_left k2 (by omega)
    have m3 : g * (2 * t) = 2 * (g * t) := by grind
    have m4 : g * (-d) = -(g * d) := by grind
    refine ⟨by omega, by omega, fun h => k3 ?_⟩
    rcases h with h | h
    · refine .inl (Int.eq_of_mul_eq_mul_left (show g ≠ 0 by omega) ?_)
      omega
    · refine .inr (Int.eq_of_mul_eq_mul_left (show g ≠ 0 by omega) ?_)
      omega
  have u1 := near_one hgd (Int.le_refl _) (near_spec (z := g * z) hgd) h'
  have u2 := near_one hgd (Int.le_refl _) h' (near_spec (z := g * z) hgd)
  omega
theorem near_exact {y d : Int} (h1 : 1 ≤ d) : nearI (d * y) d = y := by
  have h' : -d ≤ 2 * (d * y - d * y) ∧ 2 * (d * y - d * y) ≤ d ∧ (2 * (d * y - d * y) = d ∨ 2 * (d * y - d * y) = -d → y % 2 = 0) := by
    refine ⟨by omega, by omega, fun h => by omega⟩
  have u1 := near_one h1 (Int.le_refl _) (near_spec (z := d * y) h1) h'
  have u2 := near_one h1 (Int.le_refl _) h' (near_spec (z := d * y) h1)
  omega
theorem near_le {x d : Int} (h1 : 1 ≤ d) : (0 ≤ x → 0 ≤ nearI x d ∧ nearI x d ≤ x) ∧ (x ≤ 0 → x ≤ nearI x d ∧ nearI x d ≤ 0) := by
  have z : nearI 0 d = 0 := by have := near_exact (y := 0) h1; rwa [Int.mul_zero] at this
  have e := near_exact (y := x) h1
  refine ⟨fun h => ⟨?_, ?_⟩, fun h => ⟨?_, ?_⟩⟩
  · rw [← z]; exact near_mono h1 h
  · have : 1 * x ≤ d * x := Int.mul_le_mul_of_nonneg_right h1 h
    have := near_mono h1 (show x ≤ d * x by omega)
    omega
  · have : d * x ≤ 1 * x := Int.mul_le_mul_of_nonpos_right h1 h
    have := near_mono h1 (show d * x ≤ x by omega)
    omega
  · rw [← z]; exact near_mono h1 h
theorem even_in {z d : Int} (h : 1 ≤ d) (h1 : leastI ≤ nearI z d) (h2 : nearI z d ≤ mostI) : evenI z d = (nearI z d, 0) := by
  unfold evenI
  rw [if_neg (by omega)]
  exact if_pos ⟨h1, h2⟩
theorem big_in (x : Int) (L : Nat) {S : Nat → Prop} {w : World} {s : Bool} {v : Value} (h : BigIs S w (.agg #[.bool s, v]) x L) : BigIs S w (.agg #[.bool false, v]) x.natAbs L := by
  obtain ⟨A, c, xs, h1, h2, h3, h4, h5, h6, h7⟩ := h
  injection h1 with h1
  injection h1 with h1
  simp only [List.cons.injEq, Value.bool.injEq, and_true] at h1
  obtain ⟨_, rfl⟩ := h1
  exact ⟨A, c, xs, by rw [decide_eq_false (by omega)], h2, by omega, h4, h5, h6, h7⟩
/-- What the law's numbers are, within its range. -/
theorem finer {x : Int} {a k : Nat} (hk : a + k ≤ 6) (x1 : leastI ≤ x) (x2 : x ≤ mostI) :
    (resI x a (a + k : Nat)).2 = 0 ∧ resI (resI x a (a + k : Nat)).1 (a + k : Nat) a = (x, 0) ∨ (resI x a (a + k : Nat)).2 ≠ 0 := by
  by_cases h : (resI x a (a + k : Nat)).2 = 0
  · refine .inl ⟨h, ?_⟩
    have hm : mayD a = true ∧ mayD (a + k : Nat) = true := ⟨mayD_iff.2 (by omega), mayD_iff.2 (by omega)⟩
    have e1 : resI x a (a + k : Nat) = evenI (x * ten (a + k)) (ten a) := by unfold resI; rw [if_pos hm]; rfl
    rw [e1] at h ⊢
    have h2 := even_ok.1 h
    have e2 : x * ten (a + k) = ten a * (x * ten k) := by rw [ten_add]; grind
    rw [h2.2.1, e2, near_exact (ten_pos a)]
    unfold resI
    rw [if_pos ⟨hm.2, hm.1⟩]
    show evenI (x * ten k * ten a) (ten (a + k)) = (x, 0)
    have e3 : x * ten k * ten a = ten (a + k) * x := by rw [ten_add]; grind
    rw [e3, even_in (ten_pos _) (by rw [near_exact (ten_pos _)]; exact x1) (by rw [near_exact (ten_pos _)]; exact x2), near_exact (ten_pos _)]
  · exact .inr h
theorem coarser {x : Int} {a k : Nat} (hk : a + k ≤ 6) (x1 : leastI ≤ x) (x2 : x ≤ mostI) :
    resI x (a + k : Nat) a = (nearI x (ten k), 0) ∧ leastI ≤ nearI x (ten k) ∧ nearI x (ten k) ≤ mostI := by
  have hm : mayD (a + k : Nat) = true ∧ mayD a = true := ⟨mayD_iff.2 (by omega), mayD_iff.2 (by omega)⟩
  have hb : leastI ≤ nearI x (ten k) ∧ nearI x (ten k) ≤ mostI := by
    have h := near_le (x := x) (ten_pos k)
    unfold leastI mostI at *
    omega
  refine ⟨?_, hb⟩
  unfold resI
  rw [if_pos hm]
  show evenI (x * ten a) (ten (a + k)) = _
  have e : x * ten a = ten a * x := Int.mul_comm _ _
  have e2 : nearI (x * ten a) (ten (a + k)) = nearI x (ten k) := by rw [e, ten_add]; exact near_scale (ten_pos k) (ten_pos a)
  rw [even_in (ten_pos _) (by rw [e2]; exact hb.1) (by rw [e2]; exact hb.2), e2]
theorem half {x : Int} {k : Nat} : cmpI (((x - nearI x (ten k) * ten k).natAbs : Int) + ((x - nearI x (ten k) * ten k).natAbs : Int)) (ten k) ≤ 0 := by
  have h := (near_off (z := x) (ten_pos k)).1
  rcases (by omega : ((x - nearI x (ten k) * ten k).natAbs : Int) + ((x - nearI x (ten k) * ten k).natAbs : Int) < ten k ∨ ((x - nearI x (ten k) * ten k).natAbs : Int) + ((x - nearI x (ten k) * ten k).natAbs : Int) = ten k) with h | h
  · rw [cmpI_lt h]; decide
  · rw [cmpI_eq h]; decide

theorem big_keepS {S S' : Nat → Prop} {w wx : World} {v : Value} {z : Int} {L : Nat} (m : BigIs S w v z L) (hN : ∀ b, S b → S' b) (hs : w.heap.size ≤ wx.heap.size) (hk : ∀ b, S b → b < w.heap.size → wx.heap[b]? = w.heap[b]?) : BigIs S' wx v z L := by
  obtain ⟨A, c, xs, h1, h2, h3, h4, h5, h6, h7⟩ := m
  exact ⟨A, c, xs, h1, h2, h3, h4, h5, h6, (h7.keep hs hk).mono fun b _ hb => hN b hb⟩
/-- What the statement leaves that makes the number in a block of its own: the digits lie elsewhere. -/
def OffCut (z : Int) (L : Nat) (W : World) (s : Value) (wx : World) : Prop :=
  ∃ g t A n c, s = .pointer (some ⟨g, 0, none⟩) ∧ W.heap.size ≤ g ∧ Box wx g 40 #[.bool t, .slice A n c] ∧
    BigIs (fun b => b ≠ g) wx (.agg #[.bool t, .slice A n c]) z L ∧ Below W.heap.size W wx

set_option maxRecDepth 100000 in
set_option maxHeartbeats 2000000 in
theorem dfiner_out (x d0 d1 : Int) (w : World) (h : d0 < 0 ∨ d1 < d0 ∨ 6 < d1) : Calls Tryd.prog 6 #[.int .i64 x, .agg #[.int .i64 d0, .int .i64 d1]] w fun e w' => e = .returned (.bool true) ∧ Below w.heap.size w w' := by
  have AW := Lib.hid fun w => deawake_any w
  have B0 := Below.refl w.heap.size w
  rcases (by omega : d0 < 0 ∨ (0 ≤ d0 ∧ d1 < d0) ∨ (0 ≤ d0 ∧ d0 ≤ d1 ∧ 6 < d1)) with h | ⟨h1, h⟩ | ⟨h1, h2, h⟩
  all_goals
    go_enter Tryd.func6, Tryd.ntmps6
    go_wp2_with fail
    refine (AW.out _).mono ?_
    rintro e w1 ⟨rfl, b1⟩
    have b1 := below_up b1
    go_wp2
    go_ret
    exact ⟨rfl, b1⟩

set_option maxRecDepth 100000 in
set_option maxHeartbeats 8000000 in
theorem dfiner_law (x d0 d1 : Int) (w : World) (x1 : -9223372036854775808 ≤ x) (x2 : x ≤ 9223372036854775807) : Calls Tryd.prog 6 #[.int .i64 x, .agg #[.int .i64 d0, .int .i64 d1]] w fun e w' => e = .returned (.bool true) ∧ Below w.heap.size w w' := by
  by_cases h : d0 < 0 ∨ d1 < d0 ∨ 6 < d1
  · exact dfiner_out x d0 d1 w h
  obtain ⟨h0, h1, h2⟩ : 0 ≤ d0 ∧ d0 ≤ d1 ∧ d1 ≤ 6 := by omega
  clear h
  have AW := Lib.hid fun w => deawake_any w
  have U1 := Lib.hid fun w => drescale_any x d0 d1 w x1 x2
  have hub : leastI ≤ (resI x d0 d1).1 ∧ (resI x d0 d1).1 ≤ mostI := by
    unfold resI
    split
    · exact even_ok.2.2
    · exact ⟨by decide, by decide⟩
  have U2 := fun w => drescale_any (resI x d0 d1).1 d1 d0 w (by have := hub.1; unfold leastI at this; exact this) (by have := hub.2; unfold mostI at this; exact this)
  have U3 := Lib.hid fun w => drescale_any x d1 d0 w x1 x2
  obtain ⟨k, hk, ka⟩ : ∃ k : Nat, d1 - d0 = k ∧ d1 = (d0.toNat + k : Nat) := ⟨(d1 - d0).toNat, by omega, by omega⟩
  have e0 : d0 = d0.toNat := by omega
  have hfin := finer (x := x) (a := d0.toNat) (k := k) (by omega) x1 x2
  have hdown := coarser (x := x) (a := d0.toNat) (k := k) (by omega) x1 x2
  rw [← ka, ← e0] at hfin hdown
  have TN := Lib.hid fun w => rtens_any k w (by omega)
  have hT := ten_le6 (k := k) (by omega)
  have hhalf := half (x := x) (k := k)
  clear e0 ka hub
  rw [hdown.1] at U3
  replace hdown := hdown.2
  rw [leastI_eq, mostI_eq] at hdown
  generalize nearI x (ten k) = y at *
  generalize ten k = K at *
  have OK := Lib.hid fun w => of_any K w (by omega) (by omega)
  have OX := Lib.hid fun w => of_any x w x1 x2
  have OY := Lib.hid fun w => of_any y w hdown.1 hdown.2
  have TM := Lib.hid fun (w : World) S S' va vb (ha : BigIs S w va y 19) (hb : BigIs S' w vb K 19) => times_any ha hb (by omega)
  have MN := Lib.hid fun (w : World) S S' va vb (ha : BigIs S w va x 19) (hb : BigIs S' w vb (y * K) (19 + 19)) => minus_any ha hb (by omega) (by omega)
  generalize hz : x - y * K = z at *
  have PL := Lib.hid fun (w : World) S S' va vb (ha : BigIs S w va z.natAbs (max 19 (19 + 19) + 1)) (hb : BigIs S' w vb z.natAbs (max 19 (19 + 19) + 1)) => plus_any ha hb (by omega) (by omega)
  have CM := Lib.hid fun (w : World) S S' va vb (ha : BigIs S w va ((z.natAbs : Int) + z.natAbs) (max (max 19 (19 + 19) + 1) (max 19 (19 + 19) + 1) + 1)) (hb : BigIs S' w vb K 19) => cmp_any ha hb (by omega) (by omega)
  generalize cmpI ((z.natAbs : Int) + z.natAbs) K = cm at *
  clear hz hT hdown x1 x2
  generalize resI x d0 d1 = q at *
  obtain ⟨u, f⟩ := q
  have hc : (decide (cm ≤ 0)) = true := decide_eq_true hhalf
  rcases hfin with ⟨hf, he⟩ | hf
  · replace hf : f = 0 := hf
    subst hf
    replace he : resI u d1 d0 = (x, 0) := he
    dsimp only at U2
    rw [he] at U2
    replace U2 := Lib.hid U2
    clear he
    go_enter Tryd.func6, Tryd.ntmps6
    have B0 := Below.refl w.heap.size w
    go_wp2_with fail
    refine (U1.out _).mono ?_
    rintro e w1 ⟨rfl, b1⟩
    have x3 := (Box.new w 22 #[.int .i64 d0, .int .i64 d1]).later b1
    have b1 := below_up b1
    have B1 := B0.trans (b1.mono B0.size)
    clear b1 B0
    have k_x3 := x3.cells
    have l_x3 := x3.lt
    go_wp2_with fail
    refine (U2.out _).mono ?_
    rintro e w2 ⟨rfl, b2⟩
    replace x3 := x3.later b2
    have B2 := B1.trans (b2.mono B1.size)
    clear b2 B1
    clear k_x3 l_x3
    have k_x3 := x3.cells
    have l_x3 := x3.lt
    go_wp2_with fail
    refine (U3.out _).mono ?_
    rintro e w3 ⟨rfl, b3⟩
    replace x3 := x3.later b3
    have B3 := B2.trans (b3.mono B2.size)
    clear b3 B2
    clear k_x3 l_x3
    have k_x3 := x3.cells
    have l_x3 := x3.lt
    go_wp2_with fail
    refine (TN.out _).mono ?_
    rintro e _ ⟨rfl, rfl⟩
    go_wp2_with fail
    refine (OK.out _).mono ?_
    rintro e w4 ⟨vk, rfl, mK, b4⟩
    replace x3 := x3.later b4
    have B4 := B3.trans (b4.mono B3.size)
    clear b4 B3
    obtain ⟨tk, AK, nk, ck, rfl⟩ := mK.form2
    clear k_x3 l_x3 x3
    go_upto_region 10 with fail
    obtain ⟨W1, hW1⟩ : ∃ W1, W1 = w4.alloc (.cells #[.bool tk, .slice AK nk ck] 40) := ⟨_, rfl⟩
    have x11 : Box W1 w4.heap.size 40 #[.bool tk, .slice AK nk ck] := by rw [hW1]; exact Box.new _ _ _
    have b9 : Below w4.heap.size w4 W1 := by rw [hW1]; exact (Below.refl _ _).alloc (Nat.le_refl _) _
    rewrite [← hW1]
    clear hW1
    replace mK := mK.below b9 (Nat.le_refl _)
    have B5 := B4.trans (b9.mono B4.size)
    clear b9 B4
    replace mK := mK.mono (S' := fun b => b < W1.heap.size) (fun b h _ => h) (Nat.le_refl _)
    generalize w4.heap.size = g11 at *
    go_cut [12] from 72 to 79 (fun s12 wx => OffCut z (max 19 (19 + 19) + 1) W1 s12 wx)
    case first =>
      have kkx11 := x11.cells
      have nex11 := Nat.ne_of_gt x11.lt
      first | go_region_held3 (fun w' => w'.cell? ⟨g11, 0, none⟩ = some (.bool tk) ∧ w'.cell? ⟨g11, 1, none⟩ = some (.slice AK nk ck)) (go_keep)
        (first
          | (go_at_call 14; (with_reducible refine (OX.out _).mono ?_); rintro e w60 ⟨v1, rfl, m1, b60⟩; have yx11 : Box w60 (g11) 40 #[.bool tk, .slice AK nk ck] := (by first | exact (x11).drew.later b60 | exact (x11.alloc _).drew.later b60); have kyx11 := yx11.cells; have nex110 := Nat.ne_of_gt yx11.lt; have cb : Below W1.heap.size W1 w60 := (by first | exact (below_undrew b60) | exact (below_up (below_undrew b60))); (first | (have z1 := z1.later b60; have kz1 := z1.cells; have fz1 := z1.free) | (have z1 := (Box.new W1 40 #[.bool false, .slice none 0 0]).drew.later b60; have kz1 := z1.cells; have fz1 := z1.free) | skip); (first | replace mK := (mK).drew.below b60 (Nat.le_refl _) | replace mK := (mK.alloc _).drew.below b60 (Nat.le_refl _)); have m1 := m1.mono (S' := fun _ => True) (fun _ _ _ => trivial) (Nat.le_refl _); (first | (have z1l := z1.lt) | skip); have s60 := b60.size; have u60 := cb.size)
          | (go_at_call 14; (with_reducible refine (OY.out _).mono ?_); rintro e w61 ⟨v2, rfl, m2, b61⟩; have yx11 : Box w61 (g11) 40 #[.bool tk, .slice AK nk ck] := (by first | exact (yx11).later b61 | exact (yx11.alloc _).later b61); have kyx11 := yx11.cells; have nex111 := Nat.ne_of_gt yx11.lt; have cb : Below W1.heap.size W1 w61 := (by first | exact cb.trans (b61.mono cb.size) | exact cb.trans ((below_up b61).mono cb.size)); (first | (have z1 := z1.later b61; have kz1 := z1.cells; have fz1 := z1.free) | (have z1 := (Box.new w60 40 #[.bool false, .slice none 0 0]).later b61; have kz1 := z1.cells; have fz1 := z1.free) | skip); (first | replace mK := (mK).below b61 (Nat.le_refl _) | replace mK := (mK.alloc _).below b61 (Nat.le_refl _)); (first | replace m1 := (m1).below b61 (Nat.le_refl _) | replace m1 := (m1.alloc _).below b61 (Nat.le_refl _)); have m2 := m2.mono (S' := fun _ => True) (fun _ _ _ => trivial) (Nat.le_refl _); (first | (have z1l := z1.lt) | skip); have s61 := b61.size; have u61 := cb.size)
          | (go_at_call 17; (with_reducible refine (TM.out _ (fun _ => True) (fun b => b < W1.heap.size) _ _ ?_ ?_).mono ?_); (first | exact m2 | exact m2.alloc _ | exact (m2.alloc _).alloc _); (first | exact mK | exact mK.alloc _ | exact (mK.alloc _).alloc _); rintro e w62 ⟨v3, rfl, m3, b62⟩; have yx11 : Box w62 (g11) 40 #[.bool tk, .slice AK nk ck] := (by first | exact (yx11).later b62 | exact (yx11.alloc _).later b62); have kyx11 := yx11.cells; have nex112 := Nat.ne_of_gt yx11.lt; have cb : Below W1.heap.size W1 w62 := (by first | exact cb.trans (b62.mono cb.size) | exact cb.trans ((below_up b62).mono cb.size)); (first | (have z1 := z1.later b62; have kz1 := z1.cells; have fz1 := z1.free) | (have z1 := (Box.new w61 40 #[.bool false, .slice none 0 0]).later b62; have kz1 := z1.cells; have fz1 := z1.free) | skip); (first | replace mK := (mK).below b62 (Nat.le_refl _) | replace mK := (mK.alloc _).below b62 (Nat.le_refl _)); (first | replace m1 := (m1).below b62 (Nat.le_refl _) | replace m1 := (m1.alloc _).below b62 (Nat.le_refl _)); have m3 := m3.mono (S' := fun _ => True) (fun _ _ _ => trivial) (Nat.le_refl _); clear m2; (first | (have z1l := z1.lt) | skip); have s62 := b62.size; have u62 := cb.size)
          | (go_at_call 16; (with_reducible refine (MN.out _ (fun _ => True) (fun _ => True) _ _ ?_ ?_).mono ?_); (first | exact m1 | exact m1.alloc _ | exact (m1.alloc _).alloc _); (first | exact m3 | exact m3.alloc _ | exact (m3.alloc _).alloc _); rintro e w63 ⟨v7, rfl, m7, b63⟩; have yx11 : Box w63 (g11) 40 #[.bool tk, .slice AK nk ck] := (by first | exact (yx11).later b63 | exact (yx11.alloc _).later b63); have kyx11 := yx11.cells; have nex113 := Nat.ne_of_gt yx11.lt; have cb : Below W1.heap.size W1 w63 := (by first | exact cb.trans (b63.mono cb.size) | exact cb.trans ((below_up b63).mono cb.size)); (first | (have z1 := z1.later b63; have kz1 := z1.cells; have fz1 := z1.free) | (have z1 := (Box.new w62 40 #[.bool false, .slice none 0 0]).later b63; have kz1 := z1.cells; have fz1 := z1.free) | skip); (first | replace mK := (mK).below b63 (Nat.le_refl _) | replace mK := (mK.alloc _).below b63 (Nat.le_refl _)); clear m1 m3; obtain ⟨t7, A7, n7, c7, rfl⟩ := m7.form2; have m7 := m7.mono (fun b h1 h2 => And.intro h1 h2) (Nat.le_refl _); have s63 := b63.size))
      all_goals (go_wp2_with fail; go_meet)
      all_goals
        have cs := cb.size
        refine ⟨_, t7, A7, n7, c7, rfl, ?_, ?_, big_keepS m7 ?_ ?_ ?_, ?_⟩
        · (first | omega | (simp; omega))
        · repeat' (first | (with_reducible exact z1) | (with_reducible exact z2) | ((with_reducible refine Box.new' ?_); (first | rfl | (simp; done) | (simp [World.setCell]; done))) | (with_reducible refine box2 (a := .bool false) (b := .slice none 0 0) ?_ _ _) | (with_reducible refine Box.alloc ?_ _) | (with_reducible refine Box.far' ?_ ?_ _))
          all_goals omega
        · rintro b ⟨h1, h2⟩
          first | omega | (simp at h2; omega)
        · (first | exact Nat.le_refl _ | (simp [World.setCell]; done) | (simp; omega))
        · rintro b ⟨h1, h2⟩ hb
          try simp at h2
          repeat' (with_reducible (first | rfl | refine (Below.heap_setCell _ _ _ _ ?_).trans ?_ | refine (Below.heap_alloc _ _ _ ?_).trans ?_))
          all_goals (first | omega | (dsimp only; omega) | (simp; omega))
        · repeat' (with_reducible (first | exact cb | refine Below.alloc ?_ ?_ _ | refine Below.setCell ?_ ?_ _))
          all_goals first | exact cs | omega | (dsimp only; omega) | (simp; omega)
    case rest =>
      obtain ⟨g12, t12, A12, n12, c12v, rfl, hg12, x12, m12, bc⟩ := hcut
      obtain ⟨w20, rfl⟩ : ∃ w0 : World, w0 = wc := ⟨_, rfl⟩
      have lW := x11.lt
      have SW := B5.size
      replace mK := mK.below bc (Nat.le_refl _)
      replace x11 := x11.later bc
      have B6 := B5.trans (bc.mono B5.size)
      clear bc B5
      have c12 := x12.cells
      have l12 := x12.lt
      have f12 := x12.free
      go_upto_region 12 with fail
      obtain ⟨W2, hW2⟩ : ∃ W2, W2 = w20.setCell ⟨g12, 0, none⟩ (.bool false) := ⟨_, rfl⟩
      replace m12 : BigIs (fun b => b ≠ g12) W2 (.agg #[.bool false, .slice A12 n12 c12v]) z.natAbs (max 19 (19 + 19) + 1) := by rw [hW2]; exact (big_in _ _ m12).setCell (fun h => h rfl) _
      replace x12 : Box W2 g12 40 #[.bool false, .slice A12 n12 c12v] := by rw [hW2]; exact x12.set 0 (.bool false)
      replace x11 : Box W2 g11 40 #[.bool tk, .slice AK nk ck] := by rw [hW2]; exact x11.far' (by omega) _
      replace mK : BigIs (fun b => b < W1.heap.size) W2 (.agg #[.bool tk, .slice AK nk ck]) K 19 := by rw [hW2]; exact mK.setCell (by omega) _
      replace B6 : Below w.heap.size w W2 := by rw [hW2]; exact B6.setCell (by dsimp only; omega) (.bool false)
      rewrite [← hW2]
      clear hW2 c12 l12 f12
      have kkx11 := x11.cells
      have kkx12 := x12.cells
      first | go_region_held3 (fun w' => w'.cell? ⟨g11, 0, none⟩ = some (.bool tk) ∧ w'.cell? ⟨g11, 1, none⟩ = some (.slice AK nk ck) ∧ w'.cell? ⟨g12, 0, none⟩ = some (.bool false) ∧ w'.cell? ⟨g12, 1, none⟩ = some (.slice A12 n12 c12v)) (go_keep)
        (first
          | (go_at_call 19; (with_reducible refine (PL.out _ (fun b => b ≠ g12) (fun b => b ≠ g12) _ _ ?_ ?_).mono ?_); exact m12; exact m12; rintro e w80 ⟨v8, rfl, m8, b80⟩; have yx11 : Box w80 (g11) 40 #[.bool tk, .slice AK nk ck] := (by first | exact (x11).drew.later b80); have kyx11 := yx11.cells; have yx12 : Box w80 (g12) 40 #[.bool false, .slice A12 n12 c12v] := (by first | exact (x12).drew.later b80); have kyx12 := yx12.cells; have cb : Below W2.heap.size W2 w80 := (by first | exact (below_undrew b80)); have mK := mK.drew.below b80 (Nat.le_refl _); obtain ⟨t8, A8, n8, c8, rfl⟩ := m8.form2)
          | (go_at_call 18; (with_reducible refine (CM.out _ _ (fun b => b < W1.heap.size) _ _ m8 ?_).mono ?_); exact mK; rintro e w81 ⟨rfl, b81⟩; have yx11 : Box w81 (g11) 40 #[.bool tk, .slice AK nk ck] := (by first | exact (yx11).later b81); have kyx11 := yx11.cells; have yx12 : Box w81 (g12) 40 #[.bool false, .slice A12 n12 c12v] := (by first | exact (yx12).later b81); have kyx12 := yx12.cells; have cb : Below W2.heap.size W2 w81 := (by first | exact cb.trans (b81.mono cb.size)))
          | (go_at_call 11; (with_reducible refine (AW.out _).mono ?_); rintro e w82 ⟨rfl, b82⟩; have yx11 : Box w82 (g11) 40 #[.bool tk, .slice AK nk ck] := (by first | exact (yx11).later b82); have kyx11 := yx11.cells; have yx12 : Box w82 (g12) 40 #[.bool false, .slice A12 n12 c12v] := (by first | exact (yx12).later b82); have kyx12 := yx12.cells; have cb : Below W2.heap.size W2 w82 := (by first | exact cb.trans (b82.mono cb.size))))
      go_wp2
      go_ret
      exact ⟨rfl, B6.trans (cb.mono B6.size)⟩
  · replace hf : ¬ f = 0 := hf
    clear U2
    go_enter Tryd.func6, Tryd.ntmps6
    have B0 := Below.refl w.heap.size w
    go_wp2_with fail
    refine (U1.out _).mono ?_
    rintro e w1 ⟨rfl, b1⟩
    have x3 := (Box.new w 22 #[.int .i64 d0, .int .i64 d1]).later b1
    have b1 := below_up b1
    have B1 := B0.trans (b1.mono B0.size)
    clear b1 B0
    have k_x3 := x3.cells
    have l_x3 := x3.lt
    go_wp2_with fail
    refine (U3.out _).mono ?_
    rintro e w2 ⟨rfl, b2⟩
    replace x3 := x3.later b2
    have B2 := B1.trans (b2.mono B1.size)
    clear b2 B1
    clear k_x3 l_x3
    have k_x3 := x3.cells
    have l_x3 := x3.lt
    go_wp2_with fail
    refine (TN.out _).mono ?_
    rintro e _ ⟨rfl, rfl⟩
    go_wp2_with fail
    refine (OK.out _).mono ?_
    rintro e w3 ⟨vk, rfl, mK, b3⟩
    replace x3 := x3.later b3
    have B3 := B2.trans (b3.mono B2.size)
    clear b3 B2
    obtain ⟨tk, AK, nk, ck, rfl⟩ := mK.form2
    clear k_x3 l_x3 x3
    go_upto_region 10 with fail
    obtain ⟨W1, hW1⟩ : ∃ W1, W1 = w3.alloc (.cells #[.bool tk, .slice AK nk ck] 40) := ⟨_, rfl⟩
    have x11 : Box W1 w3.heap.size 40 #[.bool tk, .slice AK nk ck] := by rw [hW1]; exact Box.new _ _ _
    have b9 : Below w3.heap.size w3 W1 := by rw [hW1]; exact (Below.refl _ _).alloc (Nat.le_refl _) _
    rewrite [← hW1]
    clear hW1
    replace mK := mK.below b9 (Nat.le_refl _)
    have B4 := B3.trans (b9.mono B3.size)
    clear b9 B3
    replace mK := mK.mono (S' := fun b => b < W1.heap.size) (fun b h _ => h) (Nat.le_refl _)
    generalize w3.heap.size = g11 at *
    go_cut [12] from 72 to 79 (fun s12 wx => OffCut z (max 19 (19 + 19) + 1) W1 s12 wx)
    case first =>
      have kkx11 := x11.cells
      have nex11 := Nat.ne_of_gt x11.lt
      first | go_region_held3 (fun w' => w'.cell? ⟨g11, 0, none⟩ = some (.bool tk) ∧ w'.cell? ⟨g11, 1, none⟩ = some (.slice AK nk ck)) (go_keep)
        (first
          | (go_at_call 14; (with_reducible refine (OX.out _).mono ?_); rintro e w60 ⟨v1, rfl, m1, b60⟩; have yx11 : Box w60 (g11) 40 #[.bool tk, .slice AK nk ck] := (by first | exact (x11).drew.later b60 | exact (x11.alloc _).drew.later b60); have kyx11 := yx11.cells; have nex110 := Nat.ne_of_gt yx11.lt; have cb : Below W1.heap.size W1 w60 := (by first | exact (below_undrew b60) | exact (below_up (below_undrew b60))); (first | (have z1 := z1.later b60; have kz1 := z1.cells; have fz1 := z1.free) | (have z1 := (Box.new W1 40 #[.bool false, .slice none 0 0]).drew.later b60; have kz1 := z1.cells; have fz1 := z1.free) | skip); (first | replace mK := (mK).drew.below b60 (Nat.le_refl _) | replace mK := (mK.alloc _).drew.below b60 (Nat.le_refl _)); have m1 := m1.mono (S' := fun _ => True) (fun _ _ _ => trivial) (Nat.le_refl _); (first | (have z1l := z1.lt) | skip); have s60 := b60.size; have u60 := cb.size)
          | (go_at_call 14; (with_reducible refine (OY.out _).mono ?_); rintro e w61 ⟨v2, rfl, m2, b61⟩; have yx11 : Box w61 (g11) 40 #[.bool tk, .slice AK nk ck] := (by first | exact (yx11).later b61 | exact (yx11.alloc _).later b61); have kyx11 := yx11.cells; have nex111 := Nat.ne_of_gt yx11.lt; have cb : Below W1.heap.size W1 w61 := (by first | exact cb.trans (b61.mono cb.size) | exact cb.trans ((below_up b61).mono cb.size)); (first | (have z1 := z1.later b61; have kz1 := z1.cells; have fz1 := z1.free) | (have z1 := (Box.new w60 40 #[.bool false, .slice none 0 0]).later b61; have kz1 := z1.cells; have fz1 := z1.free) | skip); (first | replace mK := (mK).below b61 (Nat.le_refl _) | replace mK := (mK.alloc _).below b61 (Nat.le_refl _)); (first | replace m1 := (m1).below b61 (Nat.le_refl _) | replace m1 := (m1.alloc _).below b61 (Nat.le_refl _)); have m2 := m2.mono (S' := fun _ => True) (fun _ _ _ => trivial) (Nat.le_refl _); (first | (have z1l := z1.lt) | skip); have s61 := b61.size; have u61 := cb.size)
          | (go_at_call 17; (with_reducible refine (TM.out _ (fun _ => True) (fun b => b < W1.heap.size) _ _ ?_ ?_).mono ?_); (first | exact m2 | exact m2.alloc _ | exact (m2.alloc _).alloc _); (first | exact mK | exact mK.alloc _ | exact (mK.alloc _).alloc _); rintro e w62 ⟨v3, rfl, m3, b62⟩; have yx11 : Box w62 (g11) 40 #[.bool tk, .slice AK nk ck] := (by first | exact (yx11).later b62 | exact (yx11.alloc _).later b62); have kyx11 := yx11.cells; have nex112 := Nat.ne_of_gt yx11.lt; have cb : Below W1.heap.size W1 w62 := (by first | exact cb.trans (b62.mono cb.size) | exact cb.trans ((below_up b62).mono cb.size)); (first | (have z1 := z1.later b62; have kz1 := z1.cells; have fz1 := z1.free) | (have z1 := (Box.new w61 40 #[.bool false, .slice none 0 0]).later b62; have kz1 := z1.cells; have fz1 := z1.free) | skip); (first | replace mK := (mK).below b62 (Nat.le_refl _) | replace mK := (mK.alloc _).below b62 (Nat.le_refl _)); (first | replace m1 := (m1).below b62 (Nat.le_refl _) | replace m1 := (m1.alloc _).below b62 (Nat.le_refl _)); have m3 := m3.mono (S' := fun _ => True) (fun _ _ _ => trivial) (Nat.le_refl _); clear m2; (first | (have z1l := z1.lt) | skip); have s62 := b62.size; have u62 := cb.size)
          | (go_at_call 16; (with_reducible refine (MN.out _ (fun _ => True) (fun _ => True) _ _ ?_ ?_).mono ?_); (first | exact m1 | exact m1.alloc _ | exact (m1.alloc _).alloc _); (first | exact m3 | exact m3.alloc _ | exact (m3.alloc _).alloc _); rintro e w63 ⟨v7, rfl, m7, b63⟩; have yx11 : Box w63 (g11) 40 #[.bool tk, .slice AK nk ck] := (by first | exact (yx11).later b63 | exact (yx11.alloc _).later b63); have kyx11 := yx11.cells; have nex113 := Nat.ne_of_gt yx11.lt; have cb : Below W1.heap.size W1 w63 := (by first | exact cb.trans (b63.mono cb.size) | exact cb.trans ((below_up b63).mono cb.size)); (first | (have z1 := z1.later b63; have kz1 := z1.cells; have fz1 := z1.free) | (have z1 := (Box.new w62 40 #[.bool false, .slice none 0 0]).later b63; have kz1 := z1.cells; have fz1 := z1.free) | skip); (first | replace mK := (mK).below b63 (Nat.le_refl _) | replace mK := (mK.alloc _).below b63 (Nat.le_refl _)); clear m1 m3; obtain ⟨t7, A7, n7, c7, rfl⟩ := m7.form2; have m7 := m7.mono (fun b h1 h2 => And.intro h1 h2) (Nat.le_refl _); have s63 := b63.size))
      all_goals (go_wp2_with fail; go_meet)
      all_goals
        have cs := cb.size
        refine ⟨_, t7, A7, n7, c7, rfl, ?_, ?_, big_keepS m7 ?_ ?_ ?_, ?_⟩
        · (first | omega | (simp; omega))
        · repeat' (first | (with_reducible exact z1) | (with_reducible exact z2) | ((with_reducible refine Box.new' ?_); (first | rfl | (simp; done) | (simp [World.setCell]; done))) | (with_reducible refine box2 (a := .bool false) (b := .slice none 0 0) ?_ _ _) | (with_reducible refine Box.alloc ?_ _) | (with_reducible refine Box.far' ?_ ?_ _))
          all_goals omega
        · rintro b ⟨h1, h2⟩
          first | omega | (simp at h2; omega)
        · (first | exact Nat.le_refl _ | (simp [World.setCell]; done) | (simp; omega))
        · rintro b ⟨h1, h2⟩ hb
          try simp at h2
          repeat' (with_reducible (first | rfl | refine (Below.heap_setCell _ _ _ _ ?_).trans ?_ | refine (Below.heap_alloc _ _ _ ?_).trans ?_))
          all_goals (first | omega | (dsimp only; omega) | (simp; omega))
        · repeat' (with_reducible (first | exact cb | refine Below.alloc ?_ ?_ _ | refine Below.setCell ?_ ?_ _))
          all_goals first | exact cs | omega | (dsimp only; omega) | (simp; omega)
    case rest =>
      obtain ⟨g12, t12, A12, n12, c12v, rfl, hg12, x12, m12, bc⟩ := hcut
      obtain ⟨w20, rfl⟩ : ∃ w0 : World, w0 = wc := ⟨_, rfl⟩
      have lW := x11.lt
      have SW := B4.size
      replace mK := mK.below bc (Nat.le_refl _)
      replace x11 := x11.later bc
      have B5 := B4.trans (bc.mono B4.size)
      clear bc B4
      have c12 := x12.cells
      have l12 := x12.lt
      have f12 := x12.free
      go_upto_region 12 with fail
      obtain ⟨W2, hW2⟩ : ∃ W2, W2 = w20.setCell ⟨g12, 0, none⟩ (.bool false) := ⟨_, rfl⟩
      replace m12 : BigIs (fun b => b ≠ g12) W2 (.agg #[.bool false, .slice A12 n12 c12v]) z.natAbs (max 19 (19 + 19) + 1) := by rw [hW2]; exact (big_in _ _ m12).setCell (fun h => h rfl) _
      replace x12 : Box W2 g12 40 #[.bool false, .slice A12 n12 c12v] := by rw [hW2]; exact x12.set 0 (.bool false)
      replace x11 : Box W2 g11 40 #[.bool tk, .slice AK nk ck] := by rw [hW2]; exact x11.far' (by omega) _
      replace mK : BigIs (fun b => b < W1.heap.size) W2 (.agg #[.bool tk, .slice AK nk ck]) K 19 := by rw [hW2]; exact mK.setCell (by omega) _
      replace B5 : Below w.heap.size w W2 := by rw [hW2]; exact B5.setCell (by dsimp only; omega) (.bool false)
      rewrite [← hW2]
      clear hW2 c12 l12 f12
      have kkx11 := x11.cells
      have kkx12 := x12.cells
      first | go_region_held3 (fun w' => w'.cell? ⟨g11, 0, none⟩ = some (.bool tk) ∧ w'.cell? ⟨g11, 1, none⟩ = some (.slice AK nk ck) ∧ w'.cell? ⟨g12, 0, none⟩ = some (.bool false) ∧ w'.cell? ⟨g12, 1, none⟩ = some (.slice A12 n12 c12v)) (go_keep)
        (first
          | (go_at_call 19; (with_reducible refine (PL.out _ (fun b => b ≠ g12) (fun b => b ≠ g12) _ _ ?_ ?_).mono ?_); exact m12; exact m12; rintro e w80 ⟨v8, rfl, m8, b80⟩; have yx11 : Box w80 (g11) 40 #[.bool tk, .slice AK nk ck] := (by first | exact (x11).drew.later b80); have kyx11 := yx11.cells; have yx12 : Box w80 (g12) 40 #[.bool false, .slice A12 n12 c12v] := (by first | exact (x12).drew.later b80); have kyx12 := yx12.cells; have cb : Below W2.heap.size W2 w80 := (by first | exact (below_undrew b80)); have mK := mK.drew.below b80 (Nat.le_refl _); obtain ⟨t8, A8, n8, c8, rfl⟩ := m8.form2)
          | (go_at_call 18; (with_reducible refine (CM.out _ _ (fun b => b < W1.heap.size) _ _ m8 ?_).mono ?_); exact mK; rintro e w81 ⟨rfl, b81⟩; have yx11 : Box w81 (g11) 40 #[.bool tk, .slice AK nk ck] := (by first | exact (yx11).later b81); have kyx11 := yx11.cells; have yx12 : Box w81 (g12) 40 #[.bool false, .slice A12 n12 c12v] := (by first | exact (yx12).later b81); have kyx12 := yx12.cells; have cb : Below W2.heap.size W2 w81 := (by first | exact cb.trans (b81.mono cb.size)))
          | (go_at_call 11; (with_reducible refine (AW.out _).mono ?_); rintro e w82 ⟨rfl, b82⟩; have yx11 : Box w82 (g11) 40 #[.bool tk, .slice AK nk ck] := (by first | exact (yx11).later b82); have kyx11 := yx11.cells; have yx12 : Box w82 (g12) 40 #[.bool false, .slice A12 n12 c12v] := (by first | exact (yx12).later b82); have kyx12 := yx12.cells; have cb : Below W2.heap.size W2 w82 := (by first | exact cb.trans (b82.mono cb.size))))
      go_wp2
      go_ret
      exact ⟨rfl, B5.trans (cb.mono B5.size)⟩
end Go.Proofs.YtmdflhgmlipplaaDoor
