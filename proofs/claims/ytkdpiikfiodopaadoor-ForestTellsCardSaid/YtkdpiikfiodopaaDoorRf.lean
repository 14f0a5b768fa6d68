/-
  The reference of chapter 4: cross, Same, Less, Norm.
-/
import Derived.Test.YtkdpiikfiodopaaDoorRe
import Derived.Test.YtkdpiikfiodopaaDoorRAw
namespace Go.Proofs.YtkdpiikfiodopaaDoor
open Go.RowKit

def NormCut (p : Int × Int) (W : World) (s3 : Value) (wx : World) : Prop := ∃ g, s3 = .pointer (some ⟨g, 0, none⟩) ∧ Box wx g 23 #[.int .i64 p.1, .int .i64 p.2] ∧ Below W.heap.size W wx
set_option maxRecDepth 100000 in
set_option maxHeartbeats 2000000 in
theorem r4norm_any (n d : Int) (w : World) :
    Calls Tryd.prog 44 #[.agg #[.int .i64 n, .int .i64 d]] w fun e' w' => e' = .returned (.agg #[.int .i64 (normI n d).1, .int .i64 (normI n d).2]) ∧ Below w.heap.size w w' := by
  have CA := Lib.hid fun w => r4check_any n d w
  cases h : okR n d
  · rw [okR_false h] at CA
    rw [show normI n d = (0, 0) from if_neg (by rw [h]; decide)]
    go_enter Tryd.func44, Tryd.ntmps44
    have B0 := Below.refl w.heap.size w
    go_wp2_with fail
    refine (CA.out _).mono ?_
    rintro e w1 ⟨rfl, b1⟩
    have x1 := ((Box.new w 23 #[.int .i64 n, .int .i64 d]).alloc (.cells #[.int .i64 0, .int .i64 0] 23)).later b1
    have x2 := (Box.new' (w := w.alloc (.cells #[.int .i64 n, .int .i64 d] 23)) (g := w.heap.size + 1) (t := 23) (cs := #[.int .i64 0, .int .i64 0]) (by simp)).later b1
    have b1 := below_up b1
    have b1 := below_up b1
    have B1 := B0.trans (b1.mono B0.size)
    clear b1 B0
    have k2 := x2.cells
    have l2 := x2.lt
    have f2 := x2.free
    go_wp2
    refine bodyPost_ret (by unfold results; simp only [Tryd.results44]; go_simp; rfl) rfl ?_
    exact ⟨rfl, (B1.setCell (by simp) _).setCell (by simp) _⟩
  · rw [okR_true h] at CA
    have h' := (okR_iff n d).1 h
    have On := Lib.hid fun (w : World) => of_any n w (by omega) (by omega)
    have Od := Lib.hid fun (w : World) => of_any d w (by omega) (by omega)
    have LO := Lib.hid fun (w : World) S S' va vb (ha : BigIs S w va n 19) (hb : BigIs S' w vb d 19) => lowest_any ha hb h'.1 h'.2.1 (by omega) (by omega)
    obtain ⟨g1, g2, g3, e1, e2, e3, e4⟩ := gcdI_spec h'.1 h'.2.1
    have hl : lowestI n d = (lowI n d, true) := if_pos (by omega)
    rw [hl] at LO
    rw [show normI n d = lowI n d from if_pos h]
    generalize lowI n d = p at *
    clear h h' hl g1 g2 g3 e1 e2 e3 e4
    go_enter Tryd.func44, Tryd.ntmps44
    have B0 := Below.refl w.heap.size w
    go_wp2_with fail
    refine (CA.out _).mono ?_
    rintro e w1 ⟨rfl, b1⟩
    have x1 := ((Box.new w 23 #[.int .i64 n, .int .i64 d]).alloc (.cells #[.int .i64 0, .int .i64 0] 23)).later b1
    have x2 := (Box.new' (w := w.alloc (.cells #[.int .i64 n, .int .i64 d] 23)) (g := w.heap.size + 1) (t := 23) (cs := #[.int .i64 0, .int .i64 0]) (by simp)).later b1
    have b1 := below_up b1
    have b1 := below_up b1
    have B1 := B0.trans (b1.mono B0.size)
    clear b1 B0
    go_upto_region 3 with fail
    go_cut [3, 4] from 9 to 19 (fun s3 s4 wx => s4 = .bool true ∧ NormCut p w1 s3 wx)
    case first =>
      have kkx1 := x1.cells
      have nex1 := Nat.ne_of_gt x1.lt
      first | go_region_held3 (fun w' => w'.cell? ⟨w.heap.size, 0, none⟩ = some (.int .i64 n) ∧ w'.cell? ⟨w.heap.size, 1, none⟩ = some (.int .i64 d)) (go_keep)
        (first
          | (go_at_call 49; (with_reducible refine (On.out _).mono ?_); rintro e w60 ⟨v1, rfl, m1, b60⟩; have yx1 : Box w60 (w.heap.size) 23 #[.int .i64 n, .int .i64 d] := (by first | exact (x1).drew.later b60 | exact (x1.alloc _).drew.later b60); have kyx1 := yx1.cells; have nex10 := Nat.ne_of_gt yx1.lt; have cb : Below w1.heap.size w1 w60 := (by first | exact (below_undrew b60) | exact (below_up (below_undrew b60))); (first | (have z1 := z1.later b60; have kz1 := z1.cells; have fz1 := z1.free) | (have z1 := (Box.new w1 23 #[.int .i64 0, .int .i64 0]).drew.later b60; have kz1 := z1.cells; have fz1 := z1.free) | skip); have m1 := m1.mono (S' := fun _ => True) (fun _ _ _ => trivial) (Nat.le_refl _); obtain ⟨t1, A1, j1, c1, rfl⟩ := m1.form2; (first | (have z1l := z1.lt) | skip); have s60 := cb.size)
          | (go_at_call 49; (with_reducible refine (Od.out _).mono ?_); rintro e w61 ⟨v2, rfl, m2, b61⟩; have yx1 : Box w61 (w.heap.size) 23 #[.int .i64 n, .int .i64 d] := (by first | exact (yx1).later b61 | exact (yx1.alloc _).later b61); have kyx1 := yx1.cells; have nex11 := Nat.ne_of_gt yx1.lt; have cb : Below w1.heap.size w1 w61 := (by first | exact cb.trans (b61.mono cb.size) | exact cb.trans ((below_up b61).mono cb.size)); (first | (have z1 := z1.later b61; have kz1 := z1.cells; have fz1 := z1.free) | (have z1 := (Box.new w60 23 #[.int .i64 0, .int .i64 0]).later b61; have kz1 := z1.cells; have fz1 := z1.free) | skip); (first | replace m1 := (m1).below b61 (Nat.le_refl _) | replace m1 := (m1.alloc _).below b61 (Nat.le_refl _)); have m2 := m2.mono (S' := fun _ => True) (fun _ _ _ => trivial) (Nat.le_refl _); obtain ⟨t2, A2, j2, c2, rfl⟩ := m2.form2; have s61 := cb.size)
          | (go_at_call 47; (with_reducible refine (LO.out _ (fun _ => True) (fun _ => True) _ _ ?_ ?_).mono ?_); (first | exact m1 | exact m1.alloc _); (first | exact m2 | exact m2.alloc _); rintro e w62 ⟨rfl, b62⟩; have yx1 : Box w62 (w.heap.size) 23 #[.int .i64 n, .int .i64 d] := (by first | exact (yx1).later b62 | exact (yx1.alloc _).later b62); have kyx1 := yx1.cells; have nex12 := Nat.ne_of_gt yx1.lt; have cb : Below w1.heap.size w1 w62 := (by first | exact cb.trans (b62.mono cb.size) | exact cb.trans ((below_up b62).mono cb.size)); (first | (have z1 := z1.later b62; have kz1 := z1.cells; have fz1 := z1.free) | (have z1 := (Box.new w61 23 #[.int .i64 0, .int .i64 0]).later b62; have kz1 := z1.cells; have fz1 := z1.free) | skip); (first | replace m1 := (m1).below b62 (Nat.le_refl _) | replace m1 := (m1.alloc _).below b62 (Nat.le_refl _)); (first | replace m2 := (m2).below b62 (Nat.le_refl _) | replace m2 := (m2.alloc _).below b62 (Nat.le_refl _)); have s62 := cb.size))
      all_goals (go_wp2_with fail; go_meet)
      all_goals
        have cs := cb.size
        refine ⟨rfl, _, rfl, ?_, ?_⟩
        · repeat' (first | (with_reducible exact z1) | ((with_reducible refine Box.new' ?_); (first | rfl | (simp; done) | (simp [World.setCell]; done))) | (with_reducible refine box2r (a := .int .i64 0) (b := .int .i64 0) ?_ _ _) | (with_reducible refine Box.alloc ?_ _) | (with_reducible refine Box.far' ?_ ?_ _))
          all_goals omega
        · repeat' (with_reducible (first | exact cb | refine Below.alloc ?_ ?_ _ | refine Below.setCell ?_ ?_ _))
          all_goals first | exact cs | omega | (dsimp only; omega) | (simp; omega)
    case rest =>
      obtain ⟨rfl, g3, rfl, x3, bc⟩ := hcut
      obtain ⟨w9, rfl⟩ : ∃ w0 : World, w0 = wc := ⟨_, rfl⟩
      replace x1 := x1.later bc
      replace x2 := x2.later bc
      have B2 := B1.trans (bc.mono B1.size)
      clear bc B1
      have k2 := x2.cells
      have l2 := x2.lt
      have f2 := x2.free
      have k3 := x3.cells
      have l3 := x3.lt
      go_wp2
      refine bodyPost_ret (by unfold results; simp only [Tryd.results44]; go_simp; rfl) rfl ?_
      exact ⟨rfl, (B2.setCell (by simp) _).setCell (by simp) _⟩
end Go.Proofs.YtkdpiikfiodopaaDoor
