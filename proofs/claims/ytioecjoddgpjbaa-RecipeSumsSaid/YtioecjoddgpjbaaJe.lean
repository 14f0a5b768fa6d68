/-
  recipe: the law's Of, Few, some, awake.
-/
import Derived.Test.YtioecjoddgpjbaaReb
import Derived.Test.YtioecjoddgpjbaaJd
import Derived.Test.YtioecjoddgpjbaaRea
import Derived.Test.YtioecjoddgpjbaaK3
namespace Go.Proofs.Ytioecjoddgpjbaa
open Go.RowKit

/-- Cells of a block that are set one behind the other. -/
def setAll (w : World) (g : Nat) : Nat → List Value → World
  | _, [] => w
  | o, v :: r => setAll (w.setCell ⟨g, o, none⟩ v) g (o + 1) r
theorem Box.farAll {b g t : Nat} {cs : Array Value} (hne : b ≠ g) : ∀ {w : World} (o : Nat) (l : List Value), Box w b t cs → Box (setAll w g o l) b t cs
  | _, _, [], h => h
  | _, o, v :: r, h => Box.farAll hne (o + 1) r (h.far' hne v)
theorem below_all {B g : Nat} {w0 : World} (hg : B ≤ g) : ∀ {w : World} (o : Nat) (l : List Value), Below B w0 w → Below B w0 (setAll w g o l)
  | _, _, [], h => h
  | _, o, v :: r, h => below_all hg (o + 1) r (h.setCell (p := ⟨g, o, none⟩) hg v)
section
variable {A1 A2 : Option Addr} {c1 c2 : Nat} {r : Rcp}
set_option maxHeartbeats 1000000 in
theorem of29_any (w : World) : Calls Try.prog 10 #[.agg #[.int .i64 r.base.n, .int .i64 r.base.e, .slice A1 r.plus.length c1, .slice A2 r.minus.length c2, .int .i64 r.sc.r, .int .i64 r.sc.e, .int .i64 r.sc.a, .int .i64 r.sc.p, .int .i64 r.sc.c, .int .i64 r.sc.q, .bool r.rt, .int .i64 r.num, .int .i64 r.den, .bool r.has]] w fun e w' => e = .returned (.agg #[.int .i64 r.base.n, .int .i64 r.base.e, .slice A1 r.plus.length c1, .slice A2 r.minus.length c2, .int .i64 r.sc.r, .int .i64 r.sc.e, .int .i64 r.sc.a, .int .i64 r.sc.p, .int .i64 r.sc.c, .int .i64 r.sc.q, .bool r.rt, .int .i64 r.num, .int .i64 r.den, .bool r.has]) ∧ Below w.heap.size w w' := by
  have hB : ∀ o1 o2 : Obj, Below w.heap.size w ((w.alloc o1).alloc o2) := fun o1 o2 => ((Below.refl _ _).alloc (Nat.le_refl _) _).alloc (by simp) _
  go_enter Try.func10, Try.ntmps10
  go_wp2
  refine bodyPost_ret (by unfold results; simp only [Try.results10]; go_simp; rfl) rfl ?_
  exact ⟨rfl, hB _ _⟩
set_option maxHeartbeats 1000000 in
theorem few29_any (w : World) : Calls Try.prog 6 #[.agg #[.int .i64 r.base.n, .int .i64 r.base.e, .slice A1 r.plus.length c1, .slice A2 r.minus.length c2, .int .i64 r.sc.r, .int .i64 r.sc.e, .int .i64 r.sc.a, .int .i64 r.sc.p, .int .i64 r.sc.c, .int .i64 r.sc.q, .bool r.rt, .int .i64 r.num, .int .i64 r.den, .bool r.has]] w fun e w' => e = .returned (.bool (decide (r.plus.length ≤ 60) && decide (r.minus.length ≤ 60))) ∧ Below w.heap.size w w' := by
  have hB : ∀ o1 : Obj, Below w.heap.size w (w.alloc o1) := fun o1 => (Below.refl _ _).alloc (Nat.le_refl _) _
  by_cases h1 : r.plus.length ≤ 60
  · have d1 : decide ((r.plus.length : Int) ≤ 60) = true := decide_eq_true (by omega)
    by_cases h2 : r.minus.length ≤ 60
    · have d2 : decide ((r.minus.length : Int) ≤ 60) = true := decide_eq_true (by omega)
      rw [decide_eq_true h1, decide_eq_true h2]
      clear h1 h2
      go_enter Try.func6, Try.ntmps6
      go_wp2
      go_ret
      exact ⟨rfl, hB _⟩
    · have d2 : decide ((r.minus.length : Int) ≤ 60) = false := decide_eq_false (by omega)
      rw [decide_eq_true h1, decide_eq_false h2]
      clear h1 h2
      go_enter Try.func6, Try.ntmps6
      go_wp2
      go_ret
      exact ⟨rfl, hB _⟩
  · have d1 : decide ((r.plus.length : Int) ≤ 60) = false := decide_eq_false (by omega)
    rw [decide_eq_false h1, Bool.false_and]
    clear h1
    go_enter Try.func6, Try.ntmps6
    go_wp2
    go_ret
    exact ⟨rfl, hB _⟩
end
set_option maxHeartbeats 1000000 in
theorem at29_any (n : Int) (w : World) : Calls Try.prog 22 #[.int .i64 n] w fun e w' => e = .returned (.agg #[.int .i64 1, .int .i64 n, .int .i64 4, .int .i64 0, .int .i64 0, .int .i64 0]) ∧ Below w.heap.size w w' := by
  have hB : ∀ o1 : Obj, Below w.heap.size w (w.alloc o1) := fun o1 => (Below.refl _ _).alloc (Nat.le_refl _) _
  go_enter Try.func22, Try.ntmps22
  go_wp2
  refine bodyPost_ret (by unfold results; simp only [Try.results22]; go_simp; rfl) rfl ?_
  exact ⟨rfl, hB _⟩
def atC (n : Int) : Cel := ⟨1, n, 4, 0, 0, 0⟩
def someR : Rcp := ⟨⟨5, 0⟩, [atC 1, atC 1], [atC 2], atC 3, true, 1, 2, true⟩
def bareR : Rcp := ⟨⟨5, 0⟩, [atC 1, atC 1], [atC 2], atC 3, true, 1, 2, false⟩
theorem wf_at (n : Int) (h : (Lit.int .i64 n).wf = true) : WfC (atC n) := fun z hz => by
  simp only [atC, List.mem_cons, List.not_mem_nil, or_false] at hz
  rcases hz with rfl | rfl | rfl | rfl | rfl | rfl <;> first | decide | exact h
theorem wf_some : WfR someR := ⟨fun x hx => by
    simp only [someR, List.mem_cons, List.not_mem_nil, or_false] at hx
    rcases hx with rfl | rfl <;> exact wf_at 1 (by decide), fun x hx => by
    simp only [someR, List.mem_cons, List.not_mem_nil, or_false] at hx
    rcases hx with rfl; exact wf_at 2 (by decide), wf_at 3 (by decide), by decide, by decide⟩
theorem wf_bare : WfR bareR := ⟨wf_some.plus, wf_some.minus, wf_some.sc, by decide, by decide⟩
set_option maxRecDepth 100000 in
set_option maxHeartbeats 2000000 in
theorem some29_any (w : World) : Calls Try.prog 21 #[] w fun e w' => ∃ A1 A2, e = .returned (.agg #[.int .i64 5, .int .i64 0, .slice A1 2 2, .slice A2 1 1, .int .i64 1, .int .i64 3, .int .i64 4, .int .i64 0, .int .i64 0, .int .i64 0, .bool true, .int .i64 1, .int .i64 2, .bool true]) ∧ CelE.Row w' A1 someR.plus ∧ CelE.Row w' A2 someR.minus ∧ Below w.heap.size w w' := by
  have AT := Lib.hid fun n w => at29_any n w
  have hB : Below w.heap.size w (w.alloc (.cells #[.int .i64 0, .int .i64 0, .slice none 0 0, .slice none 0 0, .int .i64 0, .int .i64 0, .int .i64 0, .int .i64 0, .int .i64 0, .int .i64 0, .bool false, .int .i64 0, .int .i64 0, .bool false] 31)) := (Below.refl _ _).alloc (Nat.le_refl _) _
  have x0 := Box.new w 31 #[.int .i64 0, .int .i64 0, .slice none 0 0, .slice none 0 0, .int .i64 0, .int .i64 0, .int .i64 0, .int .i64 0, .int .i64 0, .int .i64 0, .bool false, .int .i64 0, .int .i64 0, .bool false]
  go_enter Try.func21, Try.ntmps21
  go_wp2_with fail
  refine (AT.out 1 _).mono ?_
  rintro e w1 ⟨rfl, b1⟩
  replace x0 := x0.later b1
  replace hB := hB.trans (b1.mono hB.size)
  clear b1
  go_wp2_with fail
  refine (AT.out 1 _).mono ?_
  rintro e w2 ⟨rfl, b2⟩
  replace x0 := x0.later b2
  replace hB := hB.trans (b2.mono hB.size)
  clear b2
  have z1 := Box.new w2 27 #[.int .i64 1, .int .i64 1, .int .i64 4, .int .i64 0, .int .i64 0, .int .i64 0, .int .i64 1, .int .i64 1, .int .i64 4, .int .i64 0, .int .i64 0, .int .i64 0]
  have hB2 := hB.alloc hB.size (.cells #[.int .i64 1, .int .i64 1, .int .i64 4, .int .i64 0, .int .i64 0, .int .i64 0, .int .i64 1, .int .i64 1, .int .i64 4, .int .i64 0, .int .i64 0, .int .i64 0] 27)
  have x0 := x0.alloc (.cells #[.int .i64 1, .int .i64 1, .int .i64 4, .int .i64 0, .int .i64 0, .int .i64 0, .int .i64 1, .int .i64 1, .int .i64 4, .int .i64 0, .int .i64 0, .int .i64 0] 27)
  go_wp2_with fail
  refine (AT.out 2 _).mono ?_
  rintro e w3 ⟨rfl, b3⟩
  replace x0 := x0.later b3
  replace z1 := z1.later b3
  replace hB2 := hB2.trans (b3.mono hB2.size)
  clear b3
  have z2 := Box.new w3 27 #[.int .i64 1, .int .i64 2, .int .i64 4, .int .i64 0, .int .i64 0, .int .i64 0]
  replace z1 := z1.alloc (.cells #[.int .i64 1, .int .i64 2, .int .i64 4, .int .i64 0, .int .i64 0, .int .i64 0] 27)
  have hB3 := hB2.alloc hB2.size (.cells #[.int .i64 1, .int .i64 2, .int .i64 4, .int .i64 0, .int .i64 0, .int .i64 0] 27)
  have x0 := x0.alloc (.cells #[.int .i64 1, .int .i64 2, .int .i64 4, .int .i64 0, .int .i64 0, .int .i64 0] 27)
  go_wp2_with fail
  refine (AT.out 3 _).mono ?_
  rintro e w4 ⟨rfl, b4⟩
  replace x0 := x0.later b4
  replace z1 := z1.later b4
  replace z2 := z2.later b4
  replace hB3 := hB3.trans (b4.mono hB3.size)
  clear b4
  have ne1 : w2.heap.size ≠ w.heap.size := Box.ne z1 x0 (by decide)
  have ne2 : w3.heap.size ≠ w.heap.size := Box.ne z2 x0 (by decide)
  have k0 := x0.cells
  have f0 := x0.free
  have l0 := x0.lt
  have y0 := ((((((((((((((x0.set 0 (.int .i64 5)).set 1 (.int .i64 0)).set 2 (.slice (some ⟨w2.heap.size, 0, none⟩) 2 2)).set 3 (.slice (some ⟨w3.heap.size, 0, none⟩) 1 1)).set 4 (.int .i64 1)).set 5 (.int .i64 3)).set 6 (.int .i64 4)).set 7 (.int .i64 0)).set 8 (.int .i64 0)).set 9 (.int .i64 0)).set 10 (.bool true)).set 11 (.int .i64 1)).set 12 (.int .i64 2)).set 13 (.bool true))
  have j0 := y0.cells
  have r1 : CelE.Row (setAll w4 w.heap.size 0 [.int .i64 5, .int .i64 0, .slice (some ⟨w2.heap.size, 0, none⟩) 2 2, .slice (some ⟨w3.heap.size, 0, none⟩) 1 1, .int .i64 1, .int .i64 3, .int .i64 4, .int .i64 0, .int .i64 0, .int .i64 0, .bool true, .int .i64 1, .int .i64 2, .bool true]) (some ⟨w2.heap.size, 0, none⟩) someR.plus := Enc.Row.boxes (Box.farAll ne1 0 _ z1) rfl
  have r2 : CelE.Row (setAll w4 w.heap.size 0 [.int .i64 5, .int .i64 0, .slice (some ⟨w2.heap.size, 0, none⟩) 2 2, .slice (some ⟨w3.heap.size, 0, none⟩) 1 1, .int .i64 1, .int .i64 3, .int .i64 4, .int .i64 0, .int .i64 0, .int .i64 0, .bool true, .int .i64 1, .int .i64 2, .bool true]) (some ⟨w3.heap.size, 0, none⟩) someR.minus := Enc.Row.boxes (Box.farAll ne2 0 _ z2) rfl
  have hBf : Below w.heap.size w (setAll w4 w.heap.size 0 [.int .i64 5, .int .i64 0, .slice (some ⟨w2.heap.size, 0, none⟩) 2 2, .slice (some ⟨w3.heap.size, 0, none⟩) 1 1, .int .i64 1, .int .i64 3, .int .i64 4, .int .i64 0, .int .i64 0, .int .i64 0, .bool true, .int .i64 1, .int .i64 2, .bool true]) := below_all (Nat.le_refl _) 0 _ hB3
  simp only [setAll, Nat.zero_add, Nat.reduceAdd] at r1 r2 hBf
  clear z1 z2 x0 y0 hB hB2 hB3
  go_wp2
  refine bodyPost_ret (by unfold results; simp only [Try.results21]; go_simp; rfl) rfl ?_
  exact ⟨some ⟨w2.heap.size, 0, none⟩, some ⟨w3.heap.size, 0, none⟩, rfl, r1, r2, hBf⟩
theorem ev1 {A1 A2 A3 : Option Addr} {c3 : Nat} {w : World} (h1 : CelE.Row w A1 someR.plus) (h2 : CelE.Row w A2 someR.minus) (h3 : VlE.Row w A3 [⟨7, 0⟩, ⟨2, 0⟩, ⟨8, 0⟩]) : Calls Try.prog 12 #[.agg #[.int .i64 5, .int .i64 0, .slice A1 2 2, .slice A2 1 1, .int .i64 1, .int .i64 3, .int .i64 4, .int .i64 0, .int .i64 0, .int .i64 0, .bool true, .int .i64 1, .int .i64 2, .bool true], .slice A3 3 c3] w fun e w' => e = .returned (.agg #[.int .i64 21, .int .i64 0]) ∧ Below w.heap.size w w' := by
  have h := eval_any (c1 := 2) (c2 := 1) (c3 := c3) (r := someR) (i := [⟨7, 0⟩, ⟨2, 0⟩, ⟨8, 0⟩]) (w := w) wf_some ⟨by decide, by decide⟩ (by simp [OkV]) h1 h2 h3
  rw [show evalR someR [⟨7, 0⟩, ⟨2, 0⟩, ⟨8, 0⟩] = ⟨21, 0⟩ by decide +kernel] at h
  exact h
theorem ev2 {A1 A2 A3 : Option Addr} {c3 : Nat} {w : World} (h1 : CelE.Row w A1 someR.plus) (h2 : CelE.Row w A2 someR.minus) (h3 : VlE.Row w A3 [⟨7, 0⟩, ⟨0, 40⟩, ⟨8, 0⟩]) : Calls Try.prog 12 #[.agg #[.int .i64 5, .int .i64 0, .slice A1 2 2, .slice A2 1 1, .int .i64 1, .int .i64 3, .int .i64 4, .int .i64 0, .int .i64 0, .int .i64 0, .bool true, .int .i64 1, .int .i64 2, .bool true], .slice A3 3 c3] w fun e w' => e = .returned (.agg #[.int .i64 0, .int .i64 40]) ∧ Below w.heap.size w w' := by
  have h := eval_any (c1 := 2) (c2 := 1) (c3 := c3) (r := someR) (i := [⟨7, 0⟩, ⟨0, 40⟩, ⟨8, 0⟩]) (w := w) wf_some ⟨by decide, by decide⟩ (by simp [OkV]) h1 h2 h3
  rw [show evalR someR [⟨7, 0⟩, ⟨0, 40⟩, ⟨8, 0⟩] = ⟨0, 40⟩ by decide +kernel] at h
  exact h
theorem ev3 {A1 A2 A3 : Option Addr} {c3 : Nat} {w : World} (h1 : CelE.Row w A1 someR.plus) (h2 : CelE.Row w A2 someR.minus) (h3 : VlE.Row w A3 []) : Calls Try.prog 12 #[.agg #[.int .i64 5, .int .i64 0, .slice A1 2 2, .slice A2 1 1, .int .i64 1, .int .i64 3, .int .i64 4, .int .i64 0, .int .i64 0, .int .i64 0, .bool true, .int .i64 1, .int .i64 2, .bool true], .slice A3 0 c3] w fun e w' => e = .returned (.agg #[.int .i64 0, .int .i64 2]) ∧ Below w.heap.size w w' := by
  have h := eval_any (c1 := 2) (c2 := 1) (c3 := c3) (r := someR) (i := []) (w := w) wf_some ⟨by decide, by decide⟩ (by simp [OkV]) h1 h2 h3
  rw [show evalR someR [] = ⟨0, 2⟩ by decide +kernel] at h
  exact h
theorem ev4 {A1 A2 A3 : Option Addr} {c3 : Nat} {w : World} (h1 : CelE.Row w A1 someR.plus) (h2 : CelE.Row w A2 someR.minus) (h3 : VlE.Row w A3 [⟨7, 0⟩, ⟨2, 0⟩, ⟨8, 0⟩]) : Calls Try.prog 12 #[.agg #[.int .i64 5, .int .i64 0, .slice A1 2 2, .slice A2 1 1, .int .i64 1, .int .i64 3, .int .i64 4, .int .i64 0, .int .i64 0, .int .i64 0, .bool true, .int .i64 1, .int .i64 2, .bool false], .slice A3 3 c3] w fun e w' => e = .returned (.agg #[.int .i64 0, .int .i64 40]) ∧ Below w.heap.size w w' := by
  have h := eval_any (c1 := 2) (c2 := 1) (c3 := c3) (r := bareR) (i := [⟨7, 0⟩, ⟨2, 0⟩, ⟨8, 0⟩]) (w := w) wf_bare ⟨by decide, by decide⟩ (by simp [OkV]) h1 h2 h3
  rw [show evalR bareR [⟨7, 0⟩, ⟨2, 0⟩, ⟨8, 0⟩] = ⟨0, 40⟩ by decide +kernel] at h
  exact h
theorem rd_some {A1 A2 : Option Addr} {w : World} (h1 : CelE.Row w A1 someR.plus) (h2 : CelE.Row w A2 someR.minus) : Calls Try.prog 9 #[.agg #[.int .i64 5, .int .i64 0, .slice A1 2 2, .slice A2 1 1, .int .i64 1, .int .i64 3, .int .i64 4, .int .i64 0, .int .i64 0, .int .i64 0, .bool true, .int .i64 1, .int .i64 2, .bool true]] w fun e w' => ∃ A c, e = .returned (.slice A 3 c) ∧ CelE.Row w' A [atC 1, atC 2, atC 3] ∧ Below w.heap.size w w' := by
  have h := reads_any (c1 := 2) (c2 := 1) (r := someR) (w := w) wf_some h1 h2
  rw [show readsR someR = [atC 1, atC 2, atC 3] by decide +kernel] at h
  exact h.mono fun e w' ⟨A, c, he, _, _, own, b⟩ => ⟨A, c, he, Enc.Row.of_own own, b⟩
theorem sa_some {A1 A2 : Option Addr} {c1 c2 : Nat} {w : World} (h1 : CelE.Row w A1 [atC 1, atC 2, atC 3]) (h2 : CelE.Row w A2 [atC 1, atC 2, atC 3]) : Calls Try.prog 8 #[.slice A1 3 c1, .slice A2 3 c2] w fun e w' => e = .returned (.bool true) ∧ Below w.heap.size w w' := by
  have h := csame_any (c := c1) (c' := c2) (by decide) (by decide) h1 h2
  rw [decide_eq_true rfl] at h
  exact h
theorem ps_yes {A1 A2 : Option Addr} {w : World} (h1 : CelE.Row w A1 someR.plus) (h2 : CelE.Row w A2 someR.minus) : Calls Try.prog 14 #[.agg #[.int .i64 5, .int .i64 0, .slice A1 2 2, .slice A2 1 1, .int .i64 1, .int .i64 3, .int .i64 4, .int .i64 0, .int .i64 0, .int .i64 0, .bool true, .int .i64 1, .int .i64 2, .bool true], .agg #[.int .i64 5, .int .i64 0, .slice A1 2 2, .slice A2 1 1, .int .i64 1, .int .i64 3, .int .i64 4, .int .i64 0, .int .i64 0, .int .i64 0, .bool true, .int .i64 1, .int .i64 2, .bool true]] w fun e w' => e = .returned (.bool true) ∧ Below w.heap.size w w' := by
  have h := psame_any (c1 := 2) (c2 := 1) (d1 := 2) (d2 := 1) (a := someR) (b := someR) (by decide) (by decide) (by decide) (by decide) h1 h2 h1 h2
  rw [decide_eq_true rfl] at h
  exact h
theorem ps_no {A1 A2 : Option Addr} {w : World} (h1 : CelE.Row w A1 someR.plus) (h2 : CelE.Row w A2 someR.minus) : Calls Try.prog 14 #[.agg #[.int .i64 5, .int .i64 0, .slice A1 2 2, .slice A2 1 1, .int .i64 1, .int .i64 3, .int .i64 4, .int .i64 0, .int .i64 0, .int .i64 0, .bool true, .int .i64 1, .int .i64 2, .bool true], .agg #[.int .i64 5, .int .i64 0, .slice A1 2 2, .slice A2 1 1, .int .i64 1, .int .i64 3, .int .i64 4, .int .i64 0, .int .i64 0, .int .i64 0, .bool true, .int .i64 1, .int .i64 2, .bool false]] w fun e w' => e = .returned (.bool false) ∧ Below w.heap.size w w' := by
  have h := psame_any (c1 := 2) (c2 := 1) (d1 := 2) (d2 := 1) (a := someR) (b := bareR) (by decide) (by decide) (by decide) (by decide) h1 h2 h1 h2
  rw [show decide (someR = bareR) = false by decide +kernel] at h
  exact h
set_option maxRecDepth 100000 in
set_option maxHeartbeats 4000000 in
theorem reawake_any (w : World) : Calls Try.prog 7 #[] w fun e w' => e = .returned (.bool true) ∧ Below w.heap.size w w' := by
  have SO := Lib.hid (some29_any w)
  have OF : ∀ (A1 A2 : Option Addr) w, Calls Try.prog 10 #[.agg #[.int .i64 5, .int .i64 0, .slice A1 2 2, .slice A2 1 1, .int .i64 1, .int .i64 3, .int .i64 4, .int .i64 0, .int .i64 0, .int .i64 0, .bool true, .int .i64 1, .int .i64 2, .bool true]] w fun e w' => e = .returned (.agg #[.int .i64 5, .int .i64 0, .slice A1 2 2, .slice A2 1 1, .int .i64 1, .int .i64 3, .int .i64 4, .int .i64 0, .int .i64 0, .int .i64 0, .bool true, .int .i64 1, .int .i64 2, .bool true]) ∧ Below w.heap.size w w' := fun A1 A2 w => of29_any (A1 := A1) (A2 := A2) (c1 := 2) (c2 := 1) (r := someR) w
  have AT := Lib.hid fun n w => at29_any n w
  replace OF := Lib.hid OF
  go_enter Try.func7, Try.ntmps7
  go_wp2_with fail
  refine SO.out.mono ?_
  rintro e w1 ⟨A1, A2, rfl, r1, r2, hB⟩
  go_wp2_with fail
  refine (OF.out A1 A2 w1).mono ?_
  rintro e w2 ⟨rfl, b⟩
  replace hB := hB.trans (b.mono hB.size)
  replace r1 := r1.later b
  replace r2 := r2.later b
  clear b
  clear SO OF
  replace r1 := r1.alloc (.cells #[.int .i64 5, .int .i64 0, .slice A1 2 2, .slice A2 1 1, .int .i64 1, .int .i64 3, .int .i64 4, .int .i64 0, .int .i64 0, .int .i64 0, .bool true, .int .i64 1, .int .i64 2, .bool true] 40)
  replace r2 := r2.alloc (.cells #[.int .i64 5, .int .i64 0, .slice A1 2 2, .slice A2 1 1, .int .i64 1, .int .i64 3, .int .i64 4, .int .i64 0, .int .i64 0, .int .i64 0, .bool true, .int .i64 1, .int .i64 2, .bool true] 40)
  replace hB := hB.alloc hB.size (.cells #[.int .i64 5, .int .i64 0, .slice A1 2 2, .slice A2 1 1, .int .i64 1, .int .i64 3, .int .i64 4, .int .i64 0, .int .i64 0, .int .i64 0, .bool true, .int .i64 1, .int .i64 2, .bool true] 40)
  have x1 := Box.new w2 40 #[.int .i64 5, .int .i64 0, .slice A1 2 2, .slice A2 1 1, .int .i64 1, .int .i64 3, .int .i64 4, .int .i64 0, .int .i64 0, .int .i64 0, .bool true, .int .i64 1, .int .i64 2, .bool true]
  replace r1 := r1.alloc (.cells #[.int .i64 7, .int .i64 0, .int .i64 2, .int .i64 0, .int .i64 8, .int .i64 0] 24)
  replace r2 := r2.alloc (.cells #[.int .i64 7, .int .i64 0, .int .i64 2, .int .i64 0, .int .i64 8, .int .i64 0] 24)
  replace x1 := x1.alloc (.cells #[.int .i64 7, .int .i64 0, .int .i64 2, .int .i64 0, .int .i64 8, .int .i64 0] 24)
  replace hB := hB.alloc hB.size (.cells #[.int .i64 7, .int .i64 0, .int .i64 2, .int .i64 0, .int .i64 8, .int .i64 0] 24)
  have zi : Box ((w2.alloc (.cells #[.int .i64 5, .int .i64 0, .slice A1 2 2, .slice A2 1 1, .int .i64 1, .int .i64 3, .int .i64 4, .int .i64 0, .int .i64 0, .int .i64 0, .bool true, .int .i64 1, .int .i64 2, .bool true] 40)).alloc (.cells #[.int .i64 7, .int .i64 0, .int .i64 2, .int .i64 0, .int .i64 8, .int .i64 0] 24)) (w2.heap.size + 1) 24 #[.int .i64 7, .int .i64 0, .int .i64 2, .int .i64 0, .int .i64 8, .int .i64 0] := Box.new' (by simp)
  have E1 := Lib.hid (ev1 (c3 := 3) r1 r2 (Enc.Row.boxes zi rfl))
  clear zi
  go_wp2_with fail
  refine (E1.out).mono ?_
  rintro e w3 ⟨rfl, b⟩
  replace hB := hB.trans (b.mono hB.size)
  replace r1 := r1.later b
  replace r2 := r2.later b
  replace x1 := x1.later b
  have kx1 := x1.cells
  have lx1 := x1.lt
  clear b
  replace r1 := r1.alloc (.cells #[.int .i64 21, .int .i64 0] 24)
  replace r2 := r2.alloc (.cells #[.int .i64 21, .int .i64 0] 24)
  replace x1 := x1.alloc (.cells #[.int .i64 21, .int .i64 0] 24)
  replace hB := hB.alloc hB.size (.cells #[.int .i64 21, .int .i64 0] 24)
  have y2 := Box.new w3 24 #[.int .i64 21, .int .i64 0]
  replace r1 := r1.alloc (.cells #[.int .i64 7, .int .i64 0, .int .i64 0, .int .i64 40, .int .i64 8, .int .i64 0] 24)
  replace r2 := r2.alloc (.cells #[.int .i64 7, .int .i64 0, .int .i64 0, .int .i64 40, .int .i64 8, .int .i64 0] 24)
  replace x1 := x1.alloc (.cells #[.int .i64 7, .int .i64 0, .int .i64 0, .int .i64 40, .int .i64 8, .int .i64 0] 24)
  replace y2 := y2.alloc (.cells #[.int .i64 7, .int .i64 0, .int .i64 0, .int .i64 40, .int .i64 8, .int .i64 0] 24)
  replace hB := hB.alloc hB.size (.cells #[.int .i64 7, .int .i64 0, .int .i64 0, .int .i64 40, .int .i64 8, .int .i64 0] 24)
  have zi : Box ((w3.alloc (.cells #[.int .i64 21, .int .i64 0] 24)).alloc (.cells #[.int .i64 7, .int .i64 0, .int .i64 0, .int .i64 40, .int .i64 8, .int .i64 0] 24)) (w3.heap.size + 1) 24 #[.int .i64 7, .int .i64 0, .int .i64 0, .int .i64 40, .int .i64 8, .int .i64 0] := Box.new' (by simp)
  have E2 := Lib.hid (ev2 (c3 := 3) r1 r2 (Enc.Row.boxes zi rfl))
  clear zi E1
  go_wp2_with fail
  refine (E2.out).mono ?_
  rintro e w4 ⟨rfl, b⟩
  replace hB := hB.trans (b.mono hB.size)
  replace r1 := r1.later b
  replace r2 := r2.later b
  replace x1 := x1.later b
  replace y2 := y2.later b
  clear kx1 lx1
  have kx1 := x1.cells
  have lx1 := x1.lt
  have ky2 := y2.cells
  have ly2 := y2.lt
  clear b
  replace r1 := r1.alloc (.cells #[.int .i64 0, .int .i64 40] 24)
  replace r2 := r2.alloc (.cells #[.int .i64 0, .int .i64 40] 24)
  replace x1 := x1.alloc (.cells #[.int .i64 0, .int .i64 40] 24)
  replace y2 := y2.alloc (.cells #[.int .i64 0, .int .i64 40] 24)
  replace hB := hB.alloc hB.size (.cells #[.int .i64 0, .int .i64 40] 24)
  have y3 := Box.new w4 24 #[.int .i64 0, .int .i64 40]
  have E3 := Lib.hid (ev3 (A3 := none) (c3 := 0) r1 r2 (Enc.Row.nil _ _))
  clear E2
  go_wp2_with fail
  refine (E3.out).mono ?_
  rintro e w5 ⟨rfl, b⟩
  replace hB := hB.trans (b.mono hB.size)
  replace r1 := r1.later b
  replace r2 := r2.later b
  replace x1 := x1.later b
  replace y2 := y2.later b
  replace y3 := y3.later b
  clear kx1 lx1 ky2 ly2
  have kx1 := x1.cells
  have lx1 := x1.lt
  have ky2 := y2.cells
  have ly2 := y2.lt
  have ky3 := y3.cells
  have ly3 := y3.lt
  clear b
  replace r1 := r1.alloc (.cells #[.int .i64 0, .int .i64 2] 24)
  replace r2 := r2.alloc (.cells #[.int .i64 0, .int .i64 2] 24)
  replace x1 := x1.alloc (.cells #[.int .i64 0, .int .i64 2] 24)
  replace y2 := y2.alloc (.cells #[.int .i64 0, .int .i64 2] 24)
  replace y3 := y3.alloc (.cells #[.int .i64 0, .int .i64 2] 24)
  replace hB := hB.alloc hB.size (.cells #[.int .i64 0, .int .i64 2] 24)
  have y4 := Box.new w5 24 #[.int .i64 0, .int .i64 2]
  replace r1 := r1.alloc (.cells #[.int .i64 5, .int .i64 0, .slice A1 2 2, .slice A2 1 1, .int .i64 1, .int .i64 3, .int .i64 4, .int .i64 0, .int .i64 0, .int .i64 0, .bool true, .int .i64 1, .int .i64 2, .bool false] 40)
  replace r2 := r2.alloc (.cells #[.int .i64 5, .int .i64 0, .slice A1 2 2, .slice A2 1 1, .int .i64 1, .int .i64 3, .int .i64 4, .int .i64 0, .int .i64 0, .int .i64 0, .bool true, .int .i64 1, .int .i64 2, .bool false] 40)
  replace x1 := x1.alloc (.cells #[.int .i64 5, .int .i64 0, .slice A1 2 2, .slice A2 1 1, .int .i64 1, .int .i64 3, .int .i64 4, .int .i64 0, .int .i64 0, .int .i64 0, .bool true, .int .i64 1, .int .i64 2, .bool false] 40)
  replace y2 := y2.alloc (.cells #[.int .i64 5, .int .i64 0, .slice A1 2 2, .slice A2 1 1, .int .i64 1, .int .i64 3, .int .i64 4, .int .i64 0, .int .i64 0, .int .i64 0, .bool true, .int .i64 1, .int .i64 2, .bool false] 40)
  replace y3 := y3.alloc (.cells #[.int .i64 5, .int .i64 0, .slice A1 2 2, .slice A2 1 1, .int .i64 1, .int .i64 3, .int .i64 4, .int .i64 0, .int .i64 0, .int .i64 0, .bool true, .int .i64 1, .int .i64 2, .bool false] 40)
  replace y4 := y4.alloc (.cells #[.int .i64 5, .int .i64 0, .slice A1 2 2, .slice A2 1 1, .int .i64 1, .int .i64 3, .int .i64 4, .int .i64 0, .int .i64 0, .int .i64 0, .bool true, .int .i64 1, .int .i64 2, .bool false] 40)
  replace hB := hB.alloc hB.size (.cells #[.int .i64 5, .int .i64 0, .slice A1 2 2, .slice A2 1 1, .int .i64 1, .int .i64 3, .int .i64 4, .int .i64 0, .int .i64 0, .int .i64 0, .bool true, .int .i64 1, .int .i64 2, .bool false] 40)
  have x5 : Box ((w5.alloc (.cells #[.int .i64 0, .int .i64 2] 24)).alloc (.cells #[.int .i64 5, .int .i64 0, .slice A1 2 2, .slice A2 1 1, .int .i64 1, .int .i64 3, .int .i64 4, .int .i64 0, .int .i64 0, .int .i64 0, .bool true, .int .i64 1, .int .i64 2, .bool false] 40)) (w5.heap.size + 1) 40 #[.int .i64 5, .int .i64 0, .slice A1 2 2, .slice A2 1 1, .int .i64 1, .int .i64 3, .int .i64 4, .int .i64 0, .int .i64 0, .int .i64 0, .bool true, .int .i64 1, .int .i64 2, .bool false] := Box.new' (by simp)
  replace r1 := r1.alloc (.cells #[.int .i64 7, .int .i64 0, .int .i64 2, .int .i64 0, .int .i64 8, .int .i64 0] 24)
  replace r2 := r2.alloc (.cells #[.int .i64 7, .int .i64 0, .int .i64 2, .int .i64 0, .int .i64 8, .int .i64 0] 24)
  replace x1 := x1.alloc (.cells #[.int .i64 7, .int .i64 0, .int .i64 2, .int .i64 0, .int .i64 8, .int .i64 0] 24)
  replace y2 := y2.alloc (.cells #[.int .i64 7, .int .i64 0, .int .i64 2, .int .i64 0, .int .i64 8, .int .i64 0] 24)
  replace y3 := y3.alloc (.cells #[.int .i64 7, .int .i64 0, .int .i64 2, .int .i64 0, .int .i64 8, .int .i64 0] 24)
  replace y4 := y4.alloc (.cells #[.int .i64 7, .int .i64 0, .int .i64 2, .int .i64 0, .int .i64 8, .int .i64 0] 24)
  replace x5 := x5.alloc (.cells #[.int .i64 7, .int .i64 0, .int .i64 2, .int .i64 0, .int .i64 8, .int .i64 0] 24)
  replace hB := hB.alloc hB.size (.cells #[.int .i64 7, .int .i64 0, .int .i64 2, .int .i64 0, .int .i64 8, .int .i64 0] 24)
  have zi : Box (((w5.alloc (.cells #[.int .i64 0, .int .i64 2] 24)).alloc (.cells #[.int .i64 5, .int .i64 0, .slice A1 2 2, .slice A2 1 1, .int .i64 1, .int .i64 3, .int .i64 4, .int .i64 0, .int .i64 0, .int .i64 0, .bool true, .int .i64 1, .int .i64 2, .bool false] 40)).alloc (.cells #[.int .i64 7, .int .i64 0, .int .i64 2, .int .i64 0, .int .i64 8, .int .i64 0] 24)) (w5.heap.size + 1 + 1) 24 #[.int .i64 7, .int .i64 0, .int .i64 2, .int .i64 0, .int .i64 8, .int .i64 0] := Box.new' (by simp)
  have E4 := Lib.hid (ev4 (c3 := 3) r1 r2 (Enc.Row.boxes zi rfl))
  clear zi E3
  go_wp2_with fail
  refine (E4.out).mono ?_
  rintro e w6 ⟨rfl, b⟩
  replace hB := hB.trans (b.mono hB.size)
  replace r1 := r1.later b
  replace r2 := r2.later b
  replace x1 := x1.later b
  replace y2 := y2.later b
  replace y3 := y3.later b
  replace y4 := y4.later b
  replace x5 := x5.later b
  clear kx1 lx1 ky2 ly2 ky3 ly3
  have kx1 := x1.cells
  have lx1 := x1.lt
  have ky2 := y2.cells
  have ly2 := y2.lt
  have ky3 := y3.cells
  have ly3 := y3.lt
  have ky4 := y4.cells
  have ly4 := y4.lt
  have kx5 := x5.cells
  have lx5 := x5.lt
  clear b
  replace r1 := r1.alloc (.cells #[.int .i64 0, .int .i64 40] 24)
  replace r2 := r2.alloc (.cells #[.int .i64 0, .int .i64 40] 24)
  replace x1 := x1.alloc (.cells #[.int .i64 0, .int .i64 40] 24)
  replace y2 := y2.alloc (.cells #[.int .i64 0, .int .i64 40] 24)
  replace y3 := y3.alloc (.cells #[.int .i64 0, .int .i64 40] 24)
  replace y4 := y4.alloc (.cells #[.int .i64 0, .int .i64 40] 24)
  replace x5 := x5.alloc (.cells #[.int .i64 0, .int .i64 40] 24)
  replace hB := hB.alloc hB.size (.cells #[.int .i64 0, .int .i64 40] 24)
  have y6 := Box.new w6 24 #[.int .i64 0, .int .i64 40]
  clear E4
  have RD := Lib.hid (rd_some r1 r2)
  go_wp2_with fail
  refine (RD.out).mono ?_
  rintro e w7 ⟨A7, c7, rfl, r7, b⟩
  replace hB := hB.trans (b.mono hB.size)
  replace r1 := r1.later b
  replace r2 := r2.later b
  replace x1 := x1.later b
  replace y2 := y2.later b
  replace y3 := y3.later b
  replace y4 := y4.later b
  replace x5 := x5.later b
  replace y6 := y6.later b
  clear kx1 lx1 ky2 ly2 ky3 ly3 ky4 ly4 kx5 lx5
  have kx1 := x1.cells
  have lx1 := x1.lt
  have ky2 := y2.cells
  have ly2 := y2.lt
  have ky3 := y3.cells
  have ly3 := y3.lt
  have ky4 := y4.cells
  have ly4 := y4.lt
  have kx5 := x5.cells
  have lx5 := x5.lt
  have ky6 := y6.cells
  have ly6 := y6.lt
  clear b
  go_wp2_with fail
  refine (AT.out 1 w7).mono ?_
  rintro e w8 ⟨rfl, b⟩
  replace hB := hB.trans (b.mono hB.size)
  replace r1 := r1.later b
  replace r2 := r2.later b
  replace x1 := x1.later b
  replace y2 := y2.later b
  replace y3 := y3.later b
  replace y4 := y4.later b
  replace x5 := x5.later b
  replace y6 := y6.later b
  replace r7 := r7.later b
  clear kx1 lx1 ky2 ly2 ky3 ly3 ky4 ly4 kx5 lx5 ky6 ly6
  have kx1 := x1.cells
  have lx1 := x1.lt
  have ky2 := y2.cells
  have ly2 := y2.lt
  have ky3 := y3.cells
  have ly3 := y3.lt
  have ky4 := y4.cells
  have ly4 := y4.lt
  have kx5 := x5.cells
  have lx5 := x5.lt
  have ky6 := y6.cells
  have ly6 := y6.lt
  clear b
  go_wp2_with fail
  refine (AT.out 2 w8).mono ?_
  rintro e w9 ⟨rfl, b⟩
  replace hB := hB.trans (b.mono hB.size)
  replace r1 := r1.later b
  replace r2 := r2.later b
  replace x1 := x1.later b
  replace y2 := y2.later b
  replace y3 := y3.later b
  replace y4 := y4.later b
  replace x5 := x5.later b
  replace y6 := y6.later b
  replace r7 := r7.later b
  clear kx1 lx1 ky2 ly2 ky3 ly3 ky4 ly4 kx5 lx5 ky6 ly6
  have kx1 := x1.cells
  have lx1 := x1.lt
  have ky2 := y2.cells
  have ly2 := y2.lt
  have ky3 := y3.cells
  have ly3 := y3.lt
  have ky4 := y4.cells
  have ly4 := y4.lt
  have kx5 := x5.cells
  have lx5 := x5.lt
  have ky6 := y6.cells
  have ly6 := y6.lt
  clear b
  go_wp2_with fail
  refine (AT.out 3 w9).mono ?_
  rintro e wa ⟨rfl, b⟩
  replace hB := hB.trans (b.mono hB.size)
  replace r1 := r1.later b
  replace r2 := r2.later b
  replace x1 := x1.later b
  replace y2 := y2.later b
  replace y3 := y3.later b
  replace y4 := y4.later b
  replace x5 := x5.later b
  replace y6 := y6.later b
  replace r7 := r7.later b
  clear kx1 lx1 ky2 ly2 ky3 ly3 ky4 ly4 kx5 lx5 ky6 ly6
  have kx1 := x1.cells
  have lx1 := x1.lt
  have ky2 := y2.cells
  have ly2 := y2.lt
  have ky3 := y3.cells
  have ly3 := y3.lt
  have ky4 := y4.cells
  have ly4 := y4.lt
  have kx5 := x5.cells
  have lx5 := x5.lt
  have ky6 := y6.cells
  have ly6 := y6.lt
  clear b
  replace r1 := r1.alloc (.cells #[.int .i64 1, .int .i64 1, .int .i64 4, .int .i64 0, .int .i64 0, .int .i64 0, .int .i64 1, .int .i64 2, .int .i64 4, .int .i64 0, .int .i64 0, .int .i64 0, .int .i64 1, .int .i64 3, .int .i64 4, .int .i64 0, .int .i64 0, .int .i64 0] 27)
  replace r2 := r2.alloc (.cells #[.int .i64 1, .int .i64 1, .int .i64 4, .int .i64 0, .int .i64 0, .int .i64 0, .int .i64 1, .int .i64 2, .int .i64 4, .int .i64 0, .int .i64 0, .int .i64 0, .int .i64 1, .int .i64 3, .int .i64 4, .int .i64 0, .int .i64 0, .int .i64 0] 27)
  replace x1 := x1.alloc (.cells #[.int .i64 1, .int .i64 1, .int .i64 4, .int .i64 0, .int .i64 0, .int .i64 0, .int .i64 1, .int .i64 2, .int .i64 4, .int .i64 0, .int .i64 0, .int .i64 0, .int .i64 1, .int .i64 3, .int .i64 4, .int .i64 0, .int .i64 0, .int .i64 0] 27)
  replace y2 := y2.alloc (.cells #[.int .i64 1, .int .i64 1, .int .i64 4, .int .i64 0, .int .i64 0, .int .i64 0, .int .i64 1, .int .i64 2, .int .i64 4, .int .i64 0, .int .i64 0, .int .i64 0, .int .i64 1, .int .i64 3, .int .i64 4, .int .i64 0, .int .i64 0, .int .i64 0] 27)
  replace y3 := y3.alloc (.cells #[.int .i64 1, .int .i64 1, .int .i64 4, .int .i64 0, .int .i64 0, .int .i64 0, .int .i64 1, .int .i64 2, .int .i64 4, .int .i64 0, .int .i64 0, .int .i64 0, .int .i64 1, .int .i64 3, .int .i64 4, .int .i64 0, .int .i64 0, .int .i64 0] 27)
  replace y4 := y4.alloc (.cells #[.int .i64 1, .int .i64 1, .int .i64 4, .int .i64 0, .int .i64 0, .int .i64 0, .int .i64 1, .int .i64 2, .int .i64 4, .int .i64 0, .int .i64 0, .int .i64 0, .int .i64 1, .int .i64 3, .int .i64 4, .int .i64 0, .int .i64 0, .int .i64 0] 27)
  replace x5 := x5.alloc (.cells #[.int .i64 1, .int .i64 1, .int .i64 4, .int .i64 0, .int .i64 0, .int .i64 0, .int .i64 1, .int .i64 2, .int .i64 4, .int .i64 0, .int .i64 0, .int .i64 0, .int .i64 1, .int .i64 3, .int .i64 4, .int .i64 0, .int .i64 0, .int .i64 0] 27)
  replace y6 := y6.alloc (.cells #[.int .i64 1, .int .i64 1, .int .i64 4, .int .i64 0, .int .i64 0, .int .i64 0, .int .i64 1, .int .i64 2, .int .i64 4, .int .i64 0, .int .i64 0, .int .i64 0, .int .i64 1, .int .i64 3, .int .i64 4, .int .i64 0, .int .i64 0, .int .i64 0] 27)
  replace r7 := r7.alloc (.cells #[.int .i64 1, .int .i64 1, .int .i64 4, .int .i64 0, .int .i64 0, .int .i64 0, .int .i64 1, .int .i64 2, .int .i64 4, .int .i64 0, .int .i64 0, .int .i64 0, .int .i64 1, .int .i64 3, .int .i64 4, .int .i64 0, .int .i64 0, .int .i64 0] 27)
  replace hB := hB.alloc hB.size (.cells #[.int .i64 1, .int .i64 1, .int .i64 4, .int .i64 0, .int .i64 0, .int .i64 0, .int .i64 1, .int .i64 2, .int .i64 4, .int .i64 0, .int .i64 0, .int .i64 0, .int .i64 1, .int .i64 3, .int .i64 4, .int .i64 0, .int .i64 0, .int .i64 0] 27)
  have za := Box.new wa 27 #[.int .i64 1, .int .i64 1, .int .i64 4, .int .i64 0, .int .i64 0, .int .i64 0, .int .i64 1, .int .i64 2, .int .i64 4, .int .i64 0, .int .i64 0, .int .i64 0, .int .i64 1, .int .i64 3, .int .i64 4, .int .i64 0, .int .i64 0, .int .i64 0]
  have SA := Lib.hid (sa_some (c1 := c7) (c2 := 3) r7 (Enc.Row.boxes za rfl))
  clear RD
  go_wp2_with fail
  refine (SA.out).mono ?_
  rintro e wb ⟨rfl, b⟩
  replace hB := hB.trans (b.mono hB.size)
  replace r1 := r1.later b
  replace r2 := r2.later b
  replace x1 := x1.later b
  replace y2 := y2.later b
  replace y3 := y3.later b
  replace y4 := y4.later b
  replace x5 := x5.later b
  replace y6 := y6.later b
  clear kx1 lx1 ky2 ly2 ky3 ly3 ky4 ly4 kx5 lx5 ky6 ly6
  have kx1 := x1.cells
  have lx1 := x1.lt
  have ky2 := y2.cells
  have ly2 := y2.lt
  have ky3 := y3.cells
  have ly3 := y3.lt
  have ky4 := y4.cells
  have ly4 := y4.lt
  have kx5 := x5.cells
  have lx5 := x5.lt
  have ky6 := y6.cells
  have ly6 := y6.lt
  clear b
  have PA := Lib.hid (ps_yes r1 r2)
  go_wp2_with fail
  refine (PA.out).mono ?_
  rintro e wc ⟨rfl, b⟩
  replace hB := hB.trans (b.mono hB.size)
  replace r1 := r1.later b
  replace r2 := r2.later b
  replace x1 := x1.later b
  replace y2 := y2.later b
  replace y3 := y3.later b
  replace y4 := y4.later b
  replace x5 := x5.later b
  replace y6 := y6.later b
  clear kx1 lx1 ky2 ly2 ky3 ly3 ky4 ly4 kx5 lx5 ky6 ly6
  have kx1 := x1.cells
  have lx1 := x1.lt
  have ky2 := y2.cells
  have ly2 := y2.lt
  have ky3 := y3.cells
  have ly3 := y3.lt
  have ky4 := y4.cells
  have ly4 := y4.lt
  have kx5 := x5.cells
  have lx5 := x5.lt
  have ky6 := y6.cells
  have ly6 := y6.lt
  clear b
  have PB := Lib.hid (ps_no r1 r2)
  go_wp2_with fail
  refine (PB.out).mono ?_
  rintro e wd ⟨rfl, b⟩
  replace hB := hB.trans (b.mono hB.size)
  replace r1 := r1.later b
  replace r2 := r2.later b
  replace x1 := x1.later b
  replace y2 := y2.later b
  replace y3 := y3.later b
  replace y4 := y4.later b
  replace x5 := x5.later b
  replace y6 := y6.later b
  clear kx1 lx1 ky2 ly2 ky3 ly3 ky4 ly4 kx5 lx5 ky6 ly6
  have kx1 := x1.cells
  have lx1 := x1.lt
  have ky2 := y2.cells
  have ly2 := y2.lt
  have ky3 := y3.cells
  have ly3 := y3.lt
  have ky4 := y4.cells
  have ly4 := y4.lt
  have kx5 := x5.cells
  have lx5 := x5.lt
  have ky6 := y6.cells
  have ly6 := y6.lt
  clear b
  clear SA PA PB AT r1 r2
  go_wp2
  go_ret
  exact ⟨rfl, hB⟩
end Go.Proofs.Ytioecjoddgpjbaa
/-
  recipe: arguments opened.
-/
namespace Go.Proofs.Ytioecjoddgpjbaa
open Go.RowKit Go.ChangeShapes Go.WideShapes Go.ChangeAt Go.Deep

/-- What a recipe that came in is, however many cells it has. -/
structure Rok (r : Rcp) : Prop where
  plus : ∀ x ∈ r.plus, WfC x
  minus : ∀ x ∈ r.minus, WfC x
  sc : WfC r.sc
  base : OkV r.base
theorem Rok.wf {r : Rcp} (h : Rok r) (h1 : r.plus.length ≤ 60) (h2 : r.minus.length ≤ 60) : WfR r := ⟨h.plus, h.minus, h.sc, h1, h2⟩
theorem wf_in {z : Int} (h1 : -9223372036854775808 ≤ z) (h2 : z ≤ 9223372036854775807) : (Lit.int .i64 z).wf = true := WalkArith.wf_i64 (by omega)
section
variable {H : Type} {enc : TypeId × Value → H} {w : World} {base : Nat} {spare : Nat → Bool} {held : Bool}
/-- A slice of elements that have so many values each, within a value. -/
theorem trod_rows {P : Program} {α : Type} (V : α → List Value) (good : α → Prop) {t e : TypeId} {fuel : Nat} {cs : List Value} {x : DataW H × List MemPlace} (ht : P.underlying t = some (.slice e))
    (hop : ∀ fuel cs x, DataW.trod enc P w 0 (fun _ => true) true fuel e cs = some x → ∃ a, cs = V a ∧ good a) (hlen : ∀ a, (V a).length = P.cellsOf e) (hf : DataW.trod enc P w 0 (fun _ => true) true fuel t cs = some x) :
    ∃ (A : Option Addr) (c : Nat) (l : List α), cs = [.slice A l.length c] ∧ l.length ≤ c ∧ c ≤ maxLen ∧ RowAt w A (l.flatMap V) ∧ ∀ x ∈ l, good x := by
  rcases open_slice ht hf with ⟨hcs, _⟩ | ⟨a, len0, cap0, m, n, D, Pl, hcs, _, hl, hm, hmm, _, hi⟩
  · exact ⟨none, 0, [], hcs, Nat.le_refl _, Nat.zero_le _, RowAt.nil _ _, fun x hx => absurd hx (by simp)⟩
  · have each : ∀ i, i < len0 → ∃ b, good b ∧ ∀ j u, (V b)[j]? = some u → w.cell? (a.add (i * P.cellsOf e + j)) = some u := by
      intro i hil
      obtain ⟨cs', hc, htr⟩ := hi i (by simp at hmm; omega)
      obtain ⟨b, h1, h2⟩ := hop _ _ _ htr
      obtain ⟨_, hcl, hat⟩ := World.cells?_some hc
      refine ⟨b, h2, fun j u hj => ?_⟩
      have hjl : j < P.cellsOf e := by have := (List.getElem?_eq_some_iff.1 hj).1; rw [hlen] at this; exact this
      have := hat j (by omega)
      rw [Go.Deep.add_add] at this
      rw [this, h1]
      exact hj
    have all : ∀ k, k ≤ len0 → ∃ l : List α, l.length = k ∧ (l.flatMap V).length = k * P.cellsOf e ∧ (∀ x ∈ l, good x) ∧ ∀ j u, (l.flatMap V)[j]? = some u → w.cell? (a.add j) = some u := by
      intro k
      induction k with
      | zero => exact fun _ => ⟨[], rfl, by simp, by simp, by simp⟩
      | succ k ih =>
        intro hk
        obtain ⟨xs, h0, h1, h2, h3⟩ := ih (by omega)
        obtain ⟨y, g2, g3⟩ := each k (by omega)
        refine ⟨xs ++ [y], by simp [h0], by rw [List.flatMap_append, List.length_append, h1, Nat.succ_mul]; simp [hlen], fun x hx => ?_, fun j u hj => ?_⟩
        · rcases List.mem_append.1 hx with hx | hx
          · exact h2 x hx
          · obtain rfl := List.mem_singleton.1 hx
            exact g2
        · rw [List.flatMap_append, List.getElem?_append, h1] at hj
          split at hj
          · exact h3 j u hj
          · rename_i hlt
            have := g3 (j - k * P.cellsOf e) u (by simpa using hj)
            rwa [show k * P.cellsOf e + (j - k * P.cellsOf e) = j by omega] at this
    obtain ⟨l, h0, h1, h2, h3⟩ := all len0 (Nat.le_refl _)
    subst h0
    exact ⟨some a, cap0, l, hcs, hl, hm, RowAt.of_cells h3, h2⟩
set_option maxRecDepth 100000 in
theorem cel_of {fuel : Nat} {cs : List Value} {x : DataW H × List MemPlace} (h : DataW.trod enc Try.prog w base spare held fuel 27 cs = some x) : ∃ a : Cel, cs = CelE.v a ∧ WfC a := by
  obtain ⟨hl, hf⟩ := trod_struct_at Try.underlying27 (by kernel_rfl) (by kernel_rfl) h
  obtain ⟨a, h0, l0, u0⟩ := (hf 0 _ rfl).1 rfl
  obtain ⟨b, h1, l1, u1⟩ := (hf 1 _ rfl).1 rfl
  obtain ⟨c, h2, l2, u2⟩ := (hf 2 _ rfl).1 rfl
  obtain ⟨d, h3, l3, u3⟩ := (hf 3 _ rfl).1 rfl
  obtain ⟨e, h4, l4, u4⟩ := (hf 4 _ rfl).1 rfl
  obtain ⟨f, h5, l5, u5⟩ := (hf 5 _ rfl).1 rfl
  have hl : cs.length = 6 := hl
  refine ⟨⟨a, b, c, d, e, f⟩, ?_, fun z hz => ?_⟩
  · match cs, hl with
    | [_, _, _, _, _, _], _ =>
      simp at h0 h1 h2 h3 h4 h5
      rw [h0, h1, h2, h3, h4, h5]
      rfl
  · simp only [List.mem_cons, List.not_mem_nil, or_false] at hz
    rcases hz with rfl | rfl | rfl | rfl | rfl | rfl
    · exact wf_in l0 u0
    · exact wf_in l1 u1
    · exact wf_in l2 u2
    · exact wf_in l3 u3
    · exact wf_in l4 u4
    · exact wf_in l5 u5
set_option maxRecDepth 100000 in
theorem vl_of {fuel : Nat} {cs : List Value} {x : DataW H × List MemPlace} (h : DataW.trod enc Try.prog w base spare held fuel 24 cs = some x) : ∃ a : Vl, cs = VlE.v a ∧ OkV a := by
  obtain ⟨hl, hf⟩ := trod_struct_at Try.underlying24 (by kernel_rfl) (by kernel_rfl) h
  obtain ⟨a, h0, l0, u0⟩ := (hf 0 _ rfl).1 rfl
  obtain ⟨b, h1, _⟩ := (hf 1 _ rfl).1 Try.underlying22
  have hl : cs.length = 2 := hl
  refine ⟨⟨a, b⟩, ?_, l0, u0⟩
  match cs, hl with
  | [_, _], _ =>
    simp at h0 h1
    rw [h0, h1]
    rfl
set_option maxRecDepth 100000 in
theorem rat_of {fuel : Nat} {cs : List Value} {x : DataW H × List MemPlace} (h : DataW.trod enc Try.prog w base spare held fuel 29 cs = some x) : ∃ a b : Int, cs = [.int .i64 a, .int .i64 b] := by
  obtain ⟨hl, hf⟩ := trod_struct_at Try.underlying29 (by kernel_rfl) (by kernel_rfl) h
  obtain ⟨a, h0, l0, u0⟩ := (hf 0 _ rfl).1 rfl
  obtain ⟨b, h1, _⟩ := (hf 1 _ rfl).1 rfl
  have hl : cs.length = 2 := hl
  refine ⟨a, b, ?_⟩
  match cs, hl with
  | [_, _], _ =>
    simp at h0 h1
    rw [h0, h1]
def rcs (r : Rcp) (A1 A2 : Option Addr) (c1 c2 : Nat) : List Value := [.int .i64 r.base.n, .int .i64 r.base.e, .slice A1 r.plus.length c1, .slice A2 r.minus.length c2, .int .i64 r.sc.r, .int .i64 r.sc.e, .int .i64 r.sc.a, .int .i64 r.sc.p, .int .i64 r.sc.c, .int .i64 r.sc.q, .bool r.rt, .int .i64 r.num, .int .i64 r.den, .bool r.has]
set_option maxRecDepth 100000 in
theorem rcp_of {fuel : Nat} {cs : List Value} {x : DataW H × List MemPlace} (h : DataW.trod enc Try.prog w 0 (fun _ => true) true fuel 31 cs = some x) : ∃ (r : Rcp) (A1 A2 : Option Addr) (c1 c2 : Nat), cs = rcs r A1 A2 c1 c2 ∧ CelE.Row w A1 r.plus ∧ CelE.Row w A2 r.minus ∧ Rok r := by
  obtain ⟨ys, n, _, _, hlen, hyl, hf⟩ := DataW.trod_struct Try.underlying31 h
  have hcells : Try.prog.cellsOf 31 = 14 := by kernel_rfl
  have k24 : Try.prog.cellsOf 24 = 2 := by kernel_rfl
  have k25 : Try.prog.cellsOf 25 = 1 := by kernel_rfl
  have k27 : Try.prog.cellsOf 27 = 6 := by kernel_rfl
  have k29 : Try.prog.cellsOf 29 = 2 := by kernel_rfl
  have k4 : Try.prog.cellsOf 4 = 1 := by kernel_rfl
  have hl : cs.length = 14 := by omega
  have hy : ys.length = 7 := hyl
  match cs, hl, ys, hy with
  | [e0, e1, e2, e3, e4, e5, e6, e7, e8, e9, e10, e11, e12, e13], _, [y0, y1, y2, y3, y4, y5, y6], _ =>
    have f0 : DataW.trod enc Try.prog w 0 (fun _ => true) true n 24 (List.take (Try.prog.cellsOf 24) [e0, e1, e2, e3, e4, e5, e6, e7, e8, e9, e10, e11, e12, e13]) = some y0 := hf 0 _ rfl
    have f1 : DataW.trod enc Try.prog w 0 (fun _ => true) true n 25 (List.take (Try.prog.cellsOf 25) [e2, e3, e4, e5, e6, e7, e8, e9, e10, e11, e12, e13]) = some y1 := hf 1 _ rfl
    have f2 : DataW.trod enc Try.prog w 0 (fun _ => true) true n 25 (List.take (Try.prog.cellsOf 25) [e3, e4, e5, e6, e7, e8, e9, e10, e11, e12, e13]) = some y2 := hf 2 _ rfl
    have f3 : DataW.trod enc Try.prog w 0 (fun _ => true) true n 27 (List.take (Try.prog.cellsOf 27) [e4, e5, e6, e7, e8, e9, e10, e11, e12, e13]) = some y3 := hf 3 _ rfl
    have f4 : DataW.trod enc Try.prog w 0 (fun _ => true) true n 4 (List.take (Try.prog.cellsOf 4) [e10, e11, e12, e13]) = some y4 := hf 4 _ rfl
    have f5 : DataW.trod enc Try.prog w 0 (fun _ => true) true n 29 (List.take (Try.prog.cellsOf 29) [e11, e12, e13]) = some y5 := hf 5 _ rfl
    have f6 : DataW.trod enc Try.prog w 0 (fun _ => true) true n 4 (List.take (Try.prog.cellsOf 4) [e13]) = some y6 := hf 6 _ rfl
    rw [k24] at f0
    rw [k25] at f1 f2
    rw [k27] at f3
    rw [k4] at f4 f6
    rw [k29] at f5
    obtain ⟨vb, hv, hvo⟩ := vl_of f0
    obtain ⟨A1, c1, l1, hs1, _, _, hr1, hw1⟩ := trod_rows CelE.v WfC Try.underlying25 (fun _ _ _ h => cel_of h) (fun _ => k27.symm) f1
    obtain ⟨A2, c2, l2, hs2, _, _, hr2, hw2⟩ := trod_rows CelE.v WfC Try.underlying25 (fun _ _ _ h => cel_of h) (fun _ => k27.symm) f2
    obtain ⟨s, hs3, hw3⟩ := cel_of f3
    obtain ⟨rt, hb4, _⟩ := DataW.trod_bool Try.underlying4 f4
    obtain ⟨nu, de, hq5⟩ := rat_of f5
    obtain ⟨ha, hb6, _⟩ := DataW.trod_bool Try.underlying4 f6
    refine ⟨⟨vb, l1, l2, s, rt, nu, de, ha⟩, A1, A2, c1, c2, ?_, hr1, hr2, ⟨hw1, hw2, hw3, hvo⟩⟩
    simp only [List.take_succ_cons, List.take_zero, CelE, VlE, List.cons.injEq, and_true] at hv hs1 hs2 hs3 hb4 hq5 hb6
    obtain ⟨rfl, rfl⟩ := hv
    obtain ⟨rfl, rfl, rfl, rfl, rfl, rfl⟩ := hs3
    obtain ⟨rfl, rfl⟩ := hq5
    rw [hs1, hs2, hb4, hb6]
    rfl
set_option maxRecDepth 100000 in
theorem open_rcp {v : Value} {d : DataW H} {p : List MemPlace} (hv : Value.okWide Try.prog w .any base 31 v) (h : DataW.Trod enc Try.prog w 0 (fun _ => true) true 31 v d p) :
    ∃ (r : Rcp) (A1 A2 : Option Addr) (c1 c2 : Nat), v = .agg (rcs r A1 A2 c1 c2).toArray ∧ CelE.Row w A1 r.plus ∧ CelE.Row w A2 r.minus ∧ Rok r := by
  obtain ⟨cs, rfl, _⟩ := okWide_struct Try.underlying31 hv
  obtain ⟨fuel, hf⟩ := h
  obtain ⟨r, A1, A2, c1, c2, h1, h2⟩ := rcp_of hf
  have h1 : cs.toList = rcs r A1 A2 c1 c2 := h1
  exact ⟨r, A1, A2, c1, c2, by rw [← h1], h2⟩
set_option maxRecDepth 100000 in
theorem open_vals {t : TypeId} {v : Value} {d : DataW H} {p : List MemPlace} (ht : Try.prog.underlying t = some (.slice 24)) (hv : Value.okWide Try.prog w .any base t v) (h : DataW.Trod enc Try.prog w 0 (fun _ => true) true t v d p) :
    ∃ (A : Option Addr) (c : Nat) (l : List Vl), v = .slice A l.length c ∧ l.length ≤ c ∧ c ≤ maxLen ∧ VlE.Row w A l ∧ ∀ x ∈ l, OkV x := by
  obtain ⟨A, c, l, h1, h2, h3, h4, h5⟩ := open_rows_arg VlE.v OkV ht (fun _ _ _ h => vl_of h) (fun _ => (show 2 = Try.prog.cellsOf 24 by kernel_rfl)) hv h
  exact ⟨A, c, l, h1, h2, h3, h4, h5⟩
end
end Go.Proofs.Ytioecjoddgpjbaa
