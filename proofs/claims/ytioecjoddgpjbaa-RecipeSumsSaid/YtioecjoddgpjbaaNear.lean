/-
  The reference of chapter 3: Nearest, Even, Scale, Floor.
-/
import Derived.Test.YtioecjoddgpjbaaDiv
import Derived.Test.YtioecjoddgpjbaaSc2
namespace Go.Proofs.Ytioecjoddgpjbaa
open Go.RowKit

theorem box2 {w : World} {g : Nat} {t : TypeId} {a b : Value} (h : Box w g t #[a, b]) (a' b' : Value) : Box ((w.setCell ⟨g, 0, none⟩ a').setCell ⟨g, 1, none⟩ b') g t #[a', b'] := by
  have := (h.set 0 a').set 1 b'
  simpa using this
theorem big_keep {S : Nat → Prop} {N : Nat} {w wx : World} {v : Value} {z : Int} {L : Nat} (m : BigIs S w v z L) (hN : ∀ b, S b → N ≤ b) (hs : w.heap.size ≤ wx.heap.size) (hk : ∀ b, S b → b < w.heap.size → wx.heap[b]? = w.heap[b]?) : BigIs (fun b => N ≤ b) wx v z L := by
  obtain ⟨A, c, xs, h1, h2, h3, h4, h5, h6, h7⟩ := m
  exact ⟨A, c, xs, h1, h2, h3, h4, h5, h6, (h7.keep hs hk).mono fun b _ hb => hN b hb⟩
/-- What a statement leaves that makes two new numbers, each in a block of its own. -/
def TwoCut (N : Nat) (x y : Int) (L L' : Nat) (W : World) (s5 s6 : Value) (wx : World) : Prop :=
  ∃ g5 g6 t5 A5 n5 c5 t6 A6 n6 c6, s5 = .pointer (some ⟨g5, 0, none⟩) ∧ s6 = .pointer (some ⟨g6, 0, none⟩) ∧ Box wx g5 52 #[.bool t5, .slice A5 n5 c5] ∧ Box wx g6 52 #[.bool t6, .slice A6 n6 c6] ∧
    BigIs (fun b => N ≤ b) wx (.agg #[.bool t5, .slice A5 n5 c5]) x L ∧ BigIs (fun b => N ≤ b) wx (.agg #[.bool t6, .slice A6 n6 c6]) y L' ∧ Below W.heap.size W wx
def OneCut (N : Nat) (x : Int) (L : Nat) (W : World) (s5 : Value) (wx : World) : Prop :=
  ∃ g5 t5 A5 n5 c5, s5 = .pointer (some ⟨g5, 0, none⟩) ∧ Box wx g5 52 #[.bool t5, .slice A5 n5 c5] ∧
    BigIs (fun b => N ≤ b) wx (.agg #[.bool t5, .slice A5 n5 c5]) x L ∧ Below W.heap.size W wx

set_option maxRecDepth 100000 in
set_option maxHeartbeats 8000000 in
theorem near_any {S : Nat → Prop} {w : World} {v : Value} {z d : Int} {L : Nat} (hz : BigIs S w v z L) (hL : L ≤ 80000) (hL2 : 19 ≤ L + 2) (d1 : 1 ≤ d) (d2 : d ≤ 9223372036854775807) :
    Calls Try.prog 68 #[v, .int .i64 d] w fun e w' => ∃ u, e = .returned u ∧ BigIs (fun b => w.heap.size ≤ b) w' u (nearI z d) (L + 3) ∧ Below w.heap.size w w' := by
  have OF := Lib.hid fun (w : World) => of_any d w (by omega) d2
  have O1 := Lib.hid fun (w : World) => of_any 1 w (by omega) (by omega)
  have DV := Lib.hid fun (w : World) S S' va vb (ha : BigIs S w va z L) (hb : BigIs S' w vb d 19) => div_any ha hb d1 (by omega)
  have PL := Lib.hid fun (w : World) S S' va vb (ha : BigIs S w va (z / d) (L + 2)) (hb : BigIs S' w vb 1 19) => plus_any ha hb (by omega) (by omega)
  have RR := Lib.hid fun (w : World) S S' va vb (ha : BigIs S w va (z % d) 19) (hb : BigIs S' w vb (z % d) 19) => plus_any ha hb (by omega) (by omega)
  have CM := Lib.hid fun (w : World) S S' va vb (ha : BigIs S w va (z % d + z % d) (max 19 19 + 1)) (hb : BigIs S' w vb d 19) => cmp_any ha hb (by omega) (by omega)
  obtain ⟨s, A, n, c, rfl⟩ := hz.form2
  rw [show max (L + 2) 19 + 1 = L + 3 by omega] at PL
  go_enter Try.func68, Try.ntmps68
  go_wp2
  obtain ⟨W1, hW1⟩ : ∃ W1, W1 = (w.alloc (.cells #[.bool s, .slice A n c] 52)).alloc (.cells #[.bool false, .slice none 0 0] 52) := ⟨_, rfl⟩
  have x2 : Box W1 w.heap.size 52 #[.bool s, .slice A n c] := by rw [hW1]; exact (Box.new _ _ _).alloc _
  have x4 : Box W1 (w.heap.size + 1) 52 #[.bool false, .slice none 0 0] := by rw [hW1]; exact Box.new' (by simp)
  have B1 : Below w.heap.size w W1 := by rw [hW1]; exact ((Below.refl _ _).alloc (Nat.le_refl _) _).alloc (by simp) _
  have m0 : BigIs S W1 (.agg #[.bool s, .slice A n c]) z L := by rw [hW1]; exact (hz.alloc _).alloc _
  rewrite [← hW1]
  clear hW1 hz
  have hN1 := x4.lt
  go_cut [5, 6] from 10 to 17 (fun s5 s6 wx => TwoCut (w.heap.size + 2) (z / d) (z % d) (L + 2) 19 W1 s5 s6 wx)
  case first =>
    have kkx2 := x2.cells
    have nex2 := Nat.ne_of_gt x2.lt
    have nfx2 := Nat.ne_of_gt (Nat.lt_succ_of_lt x2.lt)
    first | go_region_held3 (fun w' => w'.cell? ⟨w.heap.size, 0, none⟩ = some (.bool s) ∧ w'.cell? ⟨w.heap.size, 1, none⟩ = some (.slice A n c)) (go_keep)
      (first
        | (go_at_call 17; (with_reducible refine (OF.out _).mono ?_); rintro e w60 ⟨v1, rfl, m1, b60⟩; have yx2 : Box w60 (w.heap.size) 52 #[.bool s, .slice A n c] := (by first | exact (x2).drew.later b60 | exact (x2.alloc _).drew.later b60 | exact ((x2.alloc _).alloc _).drew.later b60); have kyx2 := yx2.cells; have nex20 := Nat.ne_of_gt yx2.lt; have nfx20 := Nat.ne_of_gt (Nat.lt_succ_of_lt yx2.lt); have cb : Below W1.heap.size W1 w60 := (by first | exact (below_undrew b60) | exact (below_up (below_undrew b60)) | exact (below_up (below_up (below_undrew b60)))); (first | (have zl0a := z1.lt; have zl0b := z2.lt; have z1 := z1.later b60; have z2 := z2.later b60; have kz1 := z1.cells; have fz1 := z1.free; have lz1 := z1.lt; have kz2 := z2.cells; have fz2 := z2.free; have lz2 := z2.lt) | (have zl0a := z1.lt; have z1 := z1.later b60; have kz1 := z1.cells; have fz1 := z1.free; have lz1 := z1.lt) | (have zne := Nat.ne_of_lt z1.lt; have zl0b := (z1.alloc (.cells #[.bool false, .slice none 0 0] 52)).lt; have z1 := (z1.alloc _).drew.later b60; have z2 := (Box.new W1 52 #[.bool false, .slice none 0 0]).drew; have zl0a := z2.lt; have z2 := z2.later b60; have kz1 := z1.cells; have fz1 := z1.free; have lz1 := z1.lt; have kz2 := z2.cells; have fz2 := z2.free; have lz2 := z2.lt) | (have z1 := ((Box.new W1 52 #[.bool false, .slice none 0 0]).alloc (.cells #[.bool false, .slice none 0 0] 52)).drew; have z2 := (Box.new' (w := W1.alloc (.cells #[.bool false, .slice none 0 0] 52)) (g := W1.heap.size + 1) (t := 52) (cs := #[.bool false, .slice none 0 0]) (by simp)).drew; have zl0a := z1.lt; have zl0b := z2.lt; have zne := Nat.ne_of_lt (Nat.lt_succ_self W1.heap.size); have z1 := z1.later b60; have z2 := z2.later b60; have kz1 := z1.cells; have fz1 := z1.free; have lz1 := z1.lt; have kz2 := z2.cells; have fz2 := z2.free; have lz2 := z2.lt) | (have z1 := (Box.new W1 52 #[.bool false, .slice none 0 0]).drew; have zl0a := z1.lt; have z1 := z1.later b60; have kz1 := z1.cells; have fz1 := z1.free; have lz1 := z1.lt) | skip); (first | replace m0 := (m0).drew.below b60 (Nat.le_refl _) | replace m0 := (m0.alloc _).drew.below b60 (Nat.le_refl _) | replace m0 := ((m0.alloc _).alloc _).drew.below b60 (Nat.le_refl _)); have s60 := cb.size; have m1 := m1.mono (S' := fun _ => True) (fun _ _ _ => trivial) (Nat.le_refl _))
        | (go_at_call 78; (with_reducible refine (DV.out _ S (fun _ => True) _ _ ?_ ?_).mono ?_); (first | exact m0 | exact m0.alloc _ | exact (m0.alloc _).alloc _); (first | exact m1 | exact m1.alloc _ | exact (m1.alloc _).alloc _); rintro e w61 ⟨v5, v6, rfl, m5, m6, b61⟩; have yx2 : Box w61 (w.heap.size) 52 #[.bool s, .slice A n c] := (by first | exact (yx2).later b61 | exact (yx2.alloc _).later b61 | exact ((yx2.alloc _).alloc _).later b61); have kyx2 := yx2.cells; have nex21 := Nat.ne_of_gt yx2.lt; have nfx21 := Nat.ne_of_gt (Nat.lt_succ_of_lt yx2.lt); have cb : Below W1.heap.size W1 w61 := (by first | exact cb.trans (b61.mono cb.size) | exact cb.trans ((below_up b61).mono cb.size) | exact cb.trans ((below_up (below_up b61)).mono cb.size)); (first | (have zl1a := z1.lt; have zl1b := z2.lt; have z1 := z1.later b61; have z2 := z2.later b61; have kz1 := z1.cells; have fz1 := z1.free; have lz1 := z1.lt; have kz2 := z2.cells; have fz2 := z2.free; have lz2 := z2.lt) | (have zl1a := z1.lt; have z1 := z1.later b61; have kz1 := z1.cells; have fz1 := z1.free; have lz1 := z1.lt) | (have zne := Nat.ne_of_lt z1.lt; have zl1b := (z1.alloc (.cells #[.bool false, .slice none 0 0] 52)).lt; have z1 := (z1.alloc _).later b61; have z2 := (Box.new w60 52 #[.bool false, .slice none 0 0]); have zl1a := z2.lt; have z2 := z2.later b61; have kz1 := z1.cells; have fz1 := z1.free; have lz1 := z1.lt; have kz2 := z2.cells; have fz2 := z2.free; have lz2 := z2.lt) | (have z1 := ((Box.new w60 52 #[.bool false, .slice none 0 0]).alloc (.cells #[.bool false, .slice none 0 0] 52)); have z2 := (Box.new' (w := w60.alloc (.cells #[.bool false, .slice none 0 0] 52)) (g := w60.heap.size + 1) (t := 52) (cs := #[.bool false, .slice none 0 0]) (by simp)); have zl1a := z1.lt; have zl1b := z2.lt; have zne := Nat.ne_of_lt (Nat.lt_succ_self w60.heap.size); have z1 := z1.later b61; have z2 := z2.later b61; have kz1 := z1.cells; have fz1 := z1.free; have lz1 := z1.lt; have kz2 := z2.cells; have fz2 := z2.free; have lz2 := z2.lt) | (have z1 := (Box.new w60 52 #[.bool false, .slice none 0 0]); have zl1a := z1.lt; have z1 := z1.later b61; have kz1 := z1.cells; have fz1 := z1.free; have lz1 := z1.lt) | skip); (first | replace m0 := (m0).below b61 (Nat.le_refl _) | replace m0 := (m0.alloc _).below b61 (Nat.le_refl _) | replace m0 := ((m0.alloc _).alloc _).below b61 (Nat.le_refl _)); (first | replace m1 := (m1).below b61 (Nat.le_refl _) | replace m1 := (m1.alloc _).below b61 (Nat.le_refl _) | replace m1 := ((m1.alloc _).alloc _).below b61 (Nat.le_refl _)); obtain ⟨t5, A5, n5, c5, rfl⟩ := m5.form2; obtain ⟨t6, A6, n6, c6, rfl⟩ := m6.form2; have m5 := m5.mono (fun b h1 h2 => And.intro h1 h2) (Nat.le_refl _); have m6 := m6.mono (fun b h1 h2 => And.intro h1 h2) (Nat.le_refl _); have s61 := b61.size))
    all_goals (go_wp2_with fail; go_meet)
    all_goals
      have cs := cb.size
      refine ⟨_, _, t5, A5, n5, c5, t6, A6, n6, c6, rfl, rfl, ?_, ?_, big_keep m5 ?_ ?_ ?_, big_keep m6 ?_ ?_ ?_, ?_⟩
      · repeat' (first | (with_reducible exact z1) | (with_reducible exact z2) | ((with_reducible refine Box.new' ?_); (first | rfl | (simp; done) | (simp [World.setCell]; done))) | (with_reducible refine box2 (a := .bool false) (b := .slice none 0 0) ?_ _ _) | (with_reducible refine Box.alloc ?_ _) | (with_reducible refine Box.far' ?_ ?_ _))
        all_goals omega
      · repeat' (first | (with_reducible exact z1) | (with_reducible exact z2) | ((with_reducible refine Box.new' ?_); (first | rfl | (simp; done) | (simp [World.setCell]; done))) | (with_reducible refine box2 (a := .bool false) (b := .slice none 0 0) ?_ _ _) | (with_reducible refine Box.alloc ?_ _) | (with_reducible refine Box.far' ?_ ?_ _))
        all_goals omega
      · rintro b ⟨h1, h2⟩
        first | omega | (simp at h2; omega)
      · (first | exact Nat.le_refl _ | (simp [World.setCell]; done) | (simp; omega))
      · rintro b ⟨h1, h2⟩ hb
        try simp at h2
        repeat' (with_reducible (first | rfl | refine (Below.heap_setCell _ _ _ _ ?_).trans ?_ | refine (Below.heap_alloc _ _ _ ?_).trans ?_))
        all_goals (first | omega | (dsimp only; omega) | (simp; omega))
      · rintro b ⟨h1, h2⟩
        first | omega | (simp at h2; omega)
      · (first | exact Nat.le_refl _ | (simp [World.setCell]; done) | (simp; omega))
      · rintro b ⟨h1, h2⟩ hb
        try simp at h2
        repeat' (with_reducible (first | rfl | refine (Below.heap_setCell _ _ _ _ ?_).trans ?_ | refine (Below.heap_alloc _ _ _ ?_).trans ?_))
        all_goals (first | omega | (dsimp only; omega) | (simp; omega))
      · repeat' (with_reducible (first | exact cb | refine Below.alloc ?_ ?_ _ | refine Below.setCell ?_ ?_ _))
        all_goals first | exact cs | omega | (dsimp only; omega) | (simp; omega)
  case rest =>
    obtain ⟨g5, g6, t5, A5, n5, c5, t6, A6, n6, c6, rfl, rfl, x5, x6, m5, m6, bc⟩ := hcut
    obtain ⟨w2, rfl⟩ : ∃ w0 : World, w0 = wc := ⟨_, rfl⟩
    replace x2 := x2.later bc
    replace x4 := x4.later bc
    replace m0 := m0.below bc (Nat.le_refl _)
    have B2 := B1.trans (bc.mono B1.size)
    clear bc B1
    have hN2 := x4.lt
    go_upto_region 2 with fail
    go_cut [7] from 17 to 20 (fun s7 wx => OneCut (w.heap.size + 2) (z / d + 1) (L + 3) w2 s7 wx)
    case first =>
      have kkx5 := x5.cells
      have nex5 := Nat.ne_of_gt x5.lt
      first | go_region_held3 (fun w' => w'.cell? ⟨g5, 0, none⟩ = some (.bool t5) ∧ w'.cell? ⟨g5, 1, none⟩ = some (.slice A5 n5 c5)) (go_keep)
        (first
          | (go_at_call 17; (with_reducible refine (O1.out _).mono ?_); rintro e w60 ⟨v1, rfl, m1, b60⟩; have yx5 : Box w60 (g5) 52 #[.bool t5, .slice A5 n5 c5] := (by first | exact (x5).drew.later b60 | exact (x5.alloc _).drew.later b60); have kyx5 := yx5.cells; have nex50 := Nat.ne_of_gt yx5.lt; have cb : Below w2.heap.size w2 w60 := (by first | exact (below_undrew b60) | exact (below_up (below_undrew b60))); (first | (have z1 := z1.later b60; have kz1 := z1.cells; have fz1 := z1.free) | (have z1 := (Box.new w2 52 #[.bool false, .slice none 0 0]).drew.later b60; have kz1 := z1.cells; have fz1 := z1.free) | skip); (first | replace m5 := (m5).drew.below b60 (Nat.le_refl _) | replace m5 := (m5.alloc _).drew.below b60 (Nat.le_refl _)); (first | (have z1l := z1.lt) | skip); have s60 := cb.size; have m1 := m1.mono (S' := fun _ => True) (fun _ _ _ => trivial) (Nat.le_refl _))
          | (go_at_call 18; (with_reducible refine (PL.out _ (fun b => w.heap.size + 2 ≤ b) (fun _ => True) _ _ ?_ ?_).mono ?_); (first | exact m5 | exact m5.alloc _ | exact (m5.alloc _).alloc _); (first | exact m1 | exact m1.alloc _ | exact (m1.alloc _).alloc _); rintro e w61 ⟨v7, rfl, m7, b61⟩; have yx5 : Box w61 (g5) 52 #[.bool t5, .slice A5 n5 c5] := (by first | exact (yx5).later b61 | exact (yx5.alloc _).later b61); have kyx5 := yx5.cells; have nex51 := Nat.ne_of_gt yx5.lt; have cb : Below w2.heap.size w2 w61 := (by first | exact cb.trans (b61.mono cb.size) | exact cb.trans ((below_up b61).mono cb.size)); (first | (have z1 := z1.later b61; have kz1 := z1.cells; have fz1 := z1.free) | (have z1 := (Box.new w60 52 #[.bool false, .slice none 0 0]).later b61; have kz1 := z1.cells; have fz1 := z1.free) | skip); (first | replace m5 := (m5).below b61 (Nat.le_refl _) | replace m5 := (m5.alloc _).below b61 (Nat.le_refl _)); (first | replace m1 := (m1).below b61 (Nat.le_refl _) | replace m1 := (m1.alloc _).below b61 (Nat.le_refl _)); obtain ⟨t7, A7, n7, c7, rfl⟩ := m7.form2; have m7 := m7.mono (fun b h1 h2 => And.intro h1 h2) (Nat.le_refl _); have s61 := b61.size))
      all_goals (go_wp2_with fail; go_meet)
      all_goals
        have cs := cb.size
        refine ⟨_, t7, A7, n7, c7, rfl, ?_, big_keep m7 ?_ ?_ ?_, ?_⟩
        · repeat' (first | (with_reducible exact z1) | (with_reducible exact z2) | ((with_reducible refine Box.new' ?_); (first | rfl | (simp; done) | (simp [World.setCell]; done))) | (with_reducible refine box2 (a := .bool false) (b := .slice none 0 0) ?_ _ _) | (with_reducible refine Box.alloc ?_ _) | (with_reducible refine Box.far' ?_ ?_ _))
          all_goals omega
        · rintro b ⟨h1, h2⟩
          first | omega | (simp at h2; omega)
        · (first | exact Nat.le_refl _ | (simp [World.setCell]; done) | (simp; omega))
        · rintro b ⟨h1, h2⟩ hb
          try simp at h2
          repeat' (with_reducible (first | rfl | refine (Below.heap_setCell _ _ _ _ ?_).trans ?_ | refine (Below.heap_alloc _ _ _ ?_).trans ?_))
          all_goals (first | omega | (dsimp only; omega) | (simp; omega))
        · repeat' (with_reducible (first | exact cb | refine Below.alloc ?_ ?_ _ | refine Below.setCell ?_ ?_ _))
          all_goals first | exact cs | omega | (dsimp only; omega) | (simp; omega)
    case rest =>
      obtain ⟨g7, t7, A7, n7, c7, rfl, x7, m7, bc⟩ := hcut
      obtain ⟨w3, rfl⟩ : ∃ w0 : World, w0 = wc := ⟨_, rfl⟩
      replace x2 := x2.later bc
      replace x4 := x4.later bc
      replace m0 := m0.below bc (Nat.le_refl _)
      replace x5 := x5.later bc
      replace x6 := x6.later bc
      replace m5 := m5.below bc (Nat.le_refl _)
      replace m6 := m6.below bc (Nat.le_refl _)
      have B3 := B2.trans (bc.mono B2.size)
      clear bc B2
      have k6 := x6.cells
      go_wp2_with fail
      refine (RR.out _ _ _ _ _ m6 m6).mono ?_
      rintro e w101 ⟨v8, rfl, m8, b101⟩
      replace x2 := x2.later b101
      replace x4 := x4.later b101
      replace m0 := m0.below b101 (Nat.le_refl _)
      replace x5 := x5.later b101
      replace x6 := x6.later b101
      replace m5 := m5.below b101 (Nat.le_refl _)
      replace m6 := m6.below b101 (Nat.le_refl _)
      replace x7 := x7.later b101
      replace m7 := m7.below b101 (Nat.le_refl _)
      have B4 := B3.trans (b101.mono B3.size)
      clear b101 B3
      clear k6
      obtain ⟨t8, A8, n8, c8, rfl⟩ := m8.form2
      go_wp2_with fail
      refine (OF.out _).mono ?_
      rintro e w102 ⟨v9, rfl, m9, b102⟩
      replace x2 := x2.later b102
      replace x4 := x4.later b102
      replace m0 := m0.below b102 (Nat.le_refl _)
      replace x5 := x5.later b102
      replace x6 := x6.later b102
      replace m5 := m5.below b102 (Nat.le_refl _)
      replace m6 := m6.below b102 (Nat.le_refl _)
      replace x7 := x7.later b102
      replace m7 := m7.below b102 (Nat.le_refl _)
      replace m8 := m8.below b102 (Nat.le_refl _)
      have B5 := B4.trans (b102.mono B4.size)
      clear b102 B4
      obtain ⟨t9, A9, n9, c9, rfl⟩ := m9.form2
      go_wp2_with fail
      refine (CM.out _ _ _ _ _ m8 m9).mono ?_
      rintro e w103 ⟨rfl, b103⟩
      replace x2 := x2.later b103
      replace x4 := x4.later b103
      replace m0 := m0.below b103 (Nat.le_refl _)
      replace x5 := x5.later b103
      replace x6 := x6.later b103
      replace m5 := m5.below b103 (Nat.le_refl _)
      replace m6 := m6.below b103 (Nat.le_refl _)
      replace x7 := x7.later b103
      replace m7 := m7.below b103 (Nat.le_refl _)
      replace m8 := m8.below b103 (Nat.le_refl _)
      replace m9 := m9.below b103 (Nat.le_refl _)
      have B6 := B5.trans (b103.mono B5.size)
      clear b103 B5
      clear m8 m9 m6 x6 x2
      have k5 := x5.cells
      have k7 := x7.cells
      have k4 := x4.cells
      have f4 := x4.free
      have l4 := x4.lt
      have l5 := x5.lt
      have l7 := x7.lt
      obtain ⟨A, c, xs, hv, hcan, hval, _, _, _, hrow⟩ := m5
      have hv' := hv
      injection hv with hv
      injection hv with hv
      simp only [List.cons.injEq, Value.bool.injEq, Value.slice.injEq, and_true] at hv
      obtain ⟨rfl, rfl, rfl, rfl⟩ := hv
      clear hv'
      have hodd : (0 < xs.length ∧ ∃ d0 b off, A5 = some ⟨b, off, none⟩ ∧ b < w103.heap.size ∧ 0 ≤ d0 ∧ d0 ≤ 9 ∧ w103.cell? ⟨b, off, none⟩ = some (.int .i64 d0) ∧ (d0 % 2 = 1 ↔ z / d % 2 = 1)) ∨ (xs.length = 0 ∧ z / d % 2 = 0) := by
        cases xs with
        | nil => exact .inr ⟨rfl, by simp [val] at hval; omega⟩
        | cons d0 r =>
          obtain ⟨b, off, hA, _, hb, hc⟩ := hrow.iget (by simp)
          refine .inl ⟨by simp, d0, b, off, hA, hb, (hcan.1.cons).1.1, (hcan.1.cons).1.2, ?_, ?_⟩
          · have := hc 0 (by simp)
            simpa using this
          · simp only [val] at hval
            omega
      have hcm : (2 * (z % d) < d ∧ cmpI (z % d + z % d) d = -1) ∨ (2 * (z % d) = d ∧ cmpI (z % d + z % d) d = 0) ∨ (d < 2 * (z % d) ∧ cmpI (z % d + z % d) d = 1) := by
        rcases (by omega : 2 * (z % d) < d ∨ 2 * (z % d) = d ∨ d < 2 * (z % d)) with h | h | h
        · exact .inl ⟨h, cmpI_lt (by omega)⟩
        · exact .inr (.inl ⟨h, cmpI_eq (by omega)⟩)
        · exact .inr (.inr ⟨h, cmpI_gt (by omega)⟩)
      have hN0 : nearI z d = if upI z d then z / d + 1 else z / d := rfl
      have HN := Lib.hid hN0
      clear hN0 OF O1 DV PL RR CM
      have up : ∀ (u : Bool), upI z d = u → u = true → nearI z d = z / d + 1 := fun u h h2 => by rw [HN.out, h, h2, if_pos rfl]
      have down : ∀ (u : Bool), upI z d = u → u = false → nearI z d = z / d := fun u h h2 => by rw [HN.out, h, h2, if_neg (by decide)]
      have U := Lib.hid (And.intro up down)
      clear up down
      have five : BigIs (fun b => w.heap.size + 2 ≤ b) w103 (.agg #[.bool (decide (z / d < 0)), .slice A5 xs.length c5]) (z / d) (L + 2) := ⟨_, _, _, rfl, hcan, hval, by assumption, by assumption, by assumption, hrow⟩
      have F5 := Lib.hid five
      have HC := Lib.hid hcan
      clear five hcan hval hrow
      generalize hb5 : decide (z / d < 0) = t5 at *
      clear hb5
      have FIN : ∀ (P : Prop), P → P := fun _ h => h
      rcases hcm with ⟨c1, hc⟩ | ⟨c1, hc⟩ | ⟨c1, hc⟩
      all_goals
        rewrite [hc]
        clear hc
        rcases hodd with ⟨h0, d0, b, off, rfl, hbl, d00, d09, hcell, hpar⟩ | ⟨h0, hpar⟩
        · by_cases hp : d0 % 2 = 1
          · have hpb : (d0 % 2 == 1) = true := beq_iff_eq.2 hp
            have hq := Lib.hid (hpar.1 hp)
            clear hpar hp
            go_wp2
            refine bodyPost_ret (by unfold results; simp only [Try.results68]; go_simp; rfl) rfl ?_
            refine ⟨_, rfl, ?_, (B6.setCell (by simp) _).setCell (by simp) _⟩
            first
              | (rw [U.out.1 _ (by unfold upI; rw [decide_eq_false (by omega), decide_eq_true c1, decide_eq_true hq.out]; rfl) rfl]; exact ((m7.setCell (g := w.heap.size + 1) (i := 0) (by omega) _).setCell (g := w.heap.size + 1) (i := 1) (by omega) _).mono (fun b _ h => by omega) (Nat.le_refl _))
              | (rw [U.out.1 _ (by unfold upI; rw [decide_eq_true c1]; rfl) rfl]; exact ((m7.setCell (g := w.heap.size + 1) (i := 0) (by omega) _).setCell (g := w.heap.size + 1) (i := 1) (by omega) _).mono (fun b _ h => by omega) (Nat.le_refl _))
              | (rw [U.out.2 _ (by unfold upI; rw [decide_eq_false (by omega), decide_eq_false (by omega : ¬ 2 * (z % d) = d)]; rfl) rfl]; exact ((F5.out.setCell (g := w.heap.size + 1) (i := 0) (by omega) _).setCell (g := w.heap.size + 1) (i := 1) (by omega) _).mono (fun b _ h => by omega) (show L + 2 ≤ L + 3 by omega))
          · have hpb : (d0 % 2 == 1) = false := beq_eq_false_iff_ne.2 hp
            have hq := Lib.hid (show ¬ z / d % 2 = 1 from fun h => hp (hpar.2 h))
            clear hpar hp
            go_wp2
            refine bodyPost_ret (by unfold results; simp only [Try.results68]; go_simp; rfl) rfl ?_
            refine ⟨_, rfl, ?_, (B6.setCell (by simp) _).setCell (by simp) _⟩
            first
              | (rw [U.out.1 _ (by unfold upI; rw [decide_eq_true c1]; rfl) rfl]; exact ((m7.setCell (g := w.heap.size + 1) (i := 0) (by omega) _).setCell (g := w.heap.size + 1) (i := 1) (by omega) _).mono (fun b _ h => by omega) (Nat.le_refl _))
              | (rw [U.out.2 _ (by unfold upI; rw [decide_eq_false (by omega : ¬ d < 2 * (z % d)), decide_eq_false hq.out, Bool.and_false]; rfl) rfl]; exact ((F5.out.setCell (g := w.heap.size + 1) (i := 0) (by omega) _).setCell (g := w.heap.size + 1) (i := 1) (by omega) _).mono (fun b _ h => by omega) (show L + 2 ≤ L + 3 by omega))
        · have hq := Lib.hid (show ¬ z / d % 2 = 1 by omega)
          clear hpar
          have h0' : ¬ 0 < xs.length := by omega
          clear h0
          go_wp2
          refine bodyPost_ret (by unfold results; simp only [Try.results68]; go_simp; rfl) rfl ?_
          refine ⟨_, rfl, ?_, (B6.setCell (by simp) _).setCell (by simp) _⟩
          first
            | (rw [U.out.1 _ (by unfold upI; rw [decide_eq_true c1]; rfl) rfl]; exact ((m7.setCell (g := w.heap.size + 1) (i := 0) (by omega) _).setCell (g := w.heap.size + 1) (i := 1) (by omega) _).mono (fun b _ h => by omega) (Nat.le_refl _))
            | (rw [U.out.2 _ (by unfold upI; rw [decide_eq_false (by omega : ¬ d < 2 * (z % d)), decide_eq_false hq.out, Bool.and_false]; rfl) rfl]; exact ((F5.out.setCell (g := w.heap.size + 1) (i := 0) (by omega) _).setCell (g := w.heap.size + 1) (i := 1) (by omega) _).mono (fun b _ h => by omega) (show L + 2 ≤ L + 3 by omega))
end Go.Proofs.Ytioecjoddgpjbaa
