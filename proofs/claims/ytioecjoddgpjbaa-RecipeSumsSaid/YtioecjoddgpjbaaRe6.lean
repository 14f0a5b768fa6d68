/-
  recipe: values: told, scaled, by the program and by the document.
-/
import Derived.Test.YtioecjoddgpjbaaRe5
import Derived.Test.YtioecjoddgpjbaaReP
import Derived.Test.YtioecjoddgpjbaaReA
namespace Go.Proofs.Ytioecjoddgpjbaa
open Go.RowKit

set_option maxHeartbeats 1000000 in
theorem vtold_any (n e : Int) (w : World) : Calls Try.prog 40 #[.int .i64 n, .int .i64 e] w fun x w' => x = .returned (vv (toldV n e)) ∧ Below w.heap.size w w' := by
  by_cases h : e = 0
  · subst h
    rw [show toldV n 0 = ⟨n, 0⟩ from if_neg (by simp)]
    unfold vv
    go_enter Try.func40, Try.ntmps40
    go_wp2
    refine bodyPost_ret (by unfold results; simp only [Try.results40]; go_simp; rfl) rfl ?_
    exact ⟨rfl, (Below.refl _ _).alloc (Nat.le_refl _) _⟩
  · have hne : (e != 0) = true := by simpa using h
    rw [show toldV n e = ⟨0, e⟩ from if_pos h]
    unfold vv
    go_enter Try.func40, Try.ntmps40
    go_wp2
    refine bodyPost_ret (by unfold results; simp only [Try.results40]; go_simp; rfl) rfl ?_
    exact ⟨rfl, (Below.refl _ _).alloc (Nat.le_refl _) _⟩
set_option maxHeartbeats 1000000 in
theorem rtold28_any (n e : Int) (w : World) : Calls Try.prog 43 #[.int .i64 n, .int .i64 e] w fun x w' => x = .returned (vv (toldV n e)) ∧ Below w.heap.size w w' := by
  by_cases h : e = 0
  · subst h
    rw [show toldV n 0 = ⟨n, 0⟩ from if_neg (by simp)]
    unfold vv
    go_enter Try.func43, Try.ntmps43
    go_wp2
    refine bodyPost_ret (by unfold results; simp only [Try.results43]; go_simp; rfl) rfl ?_
    exact ⟨rfl, (Below.refl _ _).alloc (Nat.le_refl _) _⟩
  · have hne : (e != 0) = true := by simpa using h
    rw [show toldV n e = ⟨0, e⟩ from if_pos h]
    unfold vv
    go_enter Try.func43, Try.ntmps43
    go_wp2
    refine bodyPost_ret (by unfold results; simp only [Try.results43]; go_simp; rfl) rfl ?_
    exact ⟨rfl, (Below.refl _ _).alloc (Nat.le_refl _) _⟩
set_option maxHeartbeats 2000000 in
theorem vscale_any (v : Vl) (num den : Int) (has : Bool) (w : World) (v1 : -9223372036854775808 ≤ v.n) (v2 : v.n ≤ 9223372036854775807) : Calls Try.prog 38 #[vv v, .agg #[.int .i64 num, .int .i64 den], .bool has] w fun x w' => x = .returned (vv (scaleV v num den has)) ∧ Below w.heap.size w w' := by
  obtain ⟨a, e⟩ := v
  unfold vv
  dsimp only at v1 v2 ⊢
  by_cases h : e = 0
  · subst h
    by_cases h0 : a = 0
    · subst h0
      rw [show scaleV ⟨0, 0⟩ num den has = ⟨0, 0⟩ by simp [scaleV]]
      go_enter Try.func38, Try.ntmps38
      go_wp2
      refine bodyPost_ret (by unfold results; simp only [Try.results38]; go_simp; rfl) rfl ?_
      exact ⟨rfl, (((Below.refl _ w).alloc (Nat.le_refl _) _).alloc (by simp) _).alloc (by simp; omega) _⟩
    · have h0e : (a == 0) = false := by simpa using h0
      cases has
      · rw [show scaleV ⟨a, 0⟩ num den false = ⟨0, 40⟩ by simp [scaleV, h0]]
        go_enter Try.func38, Try.ntmps38
        go_wp2
        refine bodyPost_ret (by unfold results; simp only [Try.results38]; go_simp; rfl) rfl ?_
        exact ⟨rfl, (((Below.refl _ w).alloc (Nat.le_refl _) _).alloc (by simp) _).alloc (by simp; omega) _⟩
      · rw [show scaleV ⟨a, 0⟩ num den true = toldV (applyI a num den).1 (applyI a num den).2 by simp [scaleV, h0]]
        have AP := apply_any a num den (((w.alloc (.cells #[.int .i64 a, .int .i64 0] 24)).alloc (.cells #[.int .i64 num, .int .i64 den] 29)).alloc (.cells #[.int .i64 0, .int .i64 0] 24)) v1 v2
        have TO := fun n e w => vtold_any n e w
        generalize (applyI a num den).1 = p1 at *
        generalize (applyI a num den).2 = p2 at *
        replace AP := Lib.hid AP
        replace TO := Lib.hid TO
        have B3 : Below w.heap.size w (((w.alloc (.cells #[.int .i64 a, .int .i64 0] 24)).alloc (.cells #[.int .i64 num, .int .i64 den] 29)).alloc (.cells #[.int .i64 0, .int .i64 0] 24)) := (((Below.refl _ w).alloc (Nat.le_refl _) _).alloc (by simp) _).alloc (by simp; omega) _
        have x6 : Box (((w.alloc (.cells #[.int .i64 a, .int .i64 0] 24)).alloc (.cells #[.int .i64 num, .int .i64 den] 29)).alloc (.cells #[.int .i64 0, .int .i64 0] 24)) (w.heap.size + 1 + 1) 24 #[.int .i64 0, .int .i64 0] := Box.new' (by simp)
        go_enter Try.func38, Try.ntmps38
        go_wp2_with fail
        refine AP.out.mono ?_
        rintro x w1 ⟨rfl, b1⟩
        replace x6 := x6.later b1
        replace B3 := B3.trans (b1.mono B3.size)
        clear b1 AP
        go_wp2_with fail
        refine (TO.out _ _ _).mono ?_
        rintro x w2 ⟨rfl, b2⟩
        replace x6 := x6.later b2
        replace B3 := B3.trans (b2.mono B3.size)
        have k6 := x6.cells
        have f6 := x6.free
        have l6 := x6.lt
        have y6 := (x6.set 0 (.int .i64 (toldV p1 p2).n)).set 1 (.int .i64 (toldV p1 p2).e)
        have j6 := y6.cells
        clear b2 TO y6
        unfold vv
        go_wp2
        refine bodyPost_ret (by unfold results; simp only [Try.results38]; go_simp; rfl) rfl ?_
        exact ⟨rfl, (B3.setCell (by simp; omega) _).setCell (by simp; omega) _⟩
  · have hne : (e != 0) = true := by simpa using h
    rw [show scaleV ⟨a, e⟩ num den has = ⟨0, e⟩ from if_pos h]
    go_enter Try.func38, Try.ntmps38
    go_wp2
    refine bodyPost_ret (by unfold results; simp only [Try.results38]; go_simp; rfl) rfl ?_
    exact ⟨rfl, (((Below.refl _ w).alloc (Nat.le_refl _) _).alloc (by simp) _).alloc (by simp; omega) _⟩
set_option maxHeartbeats 2000000 in
theorem rscale28_any (v : Vl) (num den : Int) (has : Bool) (w : World) (v1 : -9223372036854775808 ≤ v.n) (v2 : v.n ≤ 9223372036854775807) : Calls Try.prog 29 #[vv v, .agg #[.int .i64 num, .int .i64 den], .bool has] w fun x w' => x = .returned (vv (scaleV v num den has)) ∧ Below w.heap.size w w' := by
  obtain ⟨a, e⟩ := v
  unfold vv
  dsimp only at v1 v2 ⊢
  by_cases h : e = 0
  · subst h
    by_cases h0 : a = 0
    · subst h0
      rw [show scaleV ⟨0, 0⟩ num den has = ⟨0, 0⟩ by simp [scaleV]]
      go_enter Try.func29, Try.ntmps29
      go_wp2
      refine bodyPost_ret (by unfold results; simp only [Try.results29]; go_simp; rfl) rfl ?_
      exact ⟨rfl, (((Below.refl _ w).alloc (Nat.le_refl _) _).alloc (by simp) _).alloc (by simp; omega) _⟩
    · have h0e : (a == 0) = false := by simpa using h0
      cases has
      · rw [show scaleV ⟨a, 0⟩ num den false = ⟨0, 40⟩ by simp [scaleV, h0]]
        go_enter Try.func29, Try.ntmps29
        go_wp2
        refine bodyPost_ret (by unfold results; simp only [Try.results29]; go_simp; rfl) rfl ?_
        exact ⟨rfl, (((Below.refl _ w).alloc (Nat.le_refl _) _).alloc (by simp) _).alloc (by simp; omega) _⟩
      · rw [show scaleV ⟨a, 0⟩ num den true = toldV (applyI a num den).1 (applyI a num den).2 by simp [scaleV, h0]]
        have AP := r4apply_any a num den (((w.alloc (.cells #[.int .i64 a, .int .i64 0] 24)).alloc (.cells #[.int .i64 num, .int .i64 den] 29)).alloc (.cells #[.int .i64 0, .int .i64 0] 24)) v1 v2
        have TO := fun n e w => rtold28_any n e w
        generalize (applyI a num den).1 = p1 at *
        generalize (applyI a num den).2 = p2 at *
        replace AP := Lib.hid AP
        replace TO := Lib.hid TO
        have B3 : Below w.heap.size w (((w.alloc (.cells #[.int .i64 a, .int .i64 0] 24)).alloc (.cells #[.int .i64 num, .int .i64 den] 29)).alloc (.cells #[.int .i64 0, .int .i64 0] 24)) := (((Below.refl _ w).alloc (Nat.le_refl _) _).alloc (by simp) _).alloc (by simp; omega) _
        have x6 : Box (((w.alloc (.cells #[.int .i64 a, .int .i64 0] 24)).alloc (.cells #[.int .i64 num, .int .i64 den] 29)).alloc (.cells #[.int .i64 0, .int .i64 0] 24)) (w.heap.size + 1 + 1) 24 #[.int .i64 0, .int .i64 0] := Box.new' (by simp)
        go_enter Try.func29, Try.ntmps29
        go_wp2_with fail
        refine AP.out.mono ?_
        rintro x w1 ⟨rfl, b1⟩
        replace x6 := x6.later b1
        replace B3 := B3.trans (b1.mono B3.size)
        clear b1 AP
        go_wp2_with fail
        refine (TO.out _ _ _).mono ?_
        rintro x w2 ⟨rfl, b2⟩
        replace x6 := x6.later b2
        replace B3 := B3.trans (b2.mono B3.size)
        have k6 := x6.cells
        have f6 := x6.free
        have l6 := x6.lt
        have y6 := (x6.set 0 (.int .i64 (toldV p1 p2).n)).set 1 (.int .i64 (toldV p1 p2).e)
        have j6 := y6.cells
        clear b2 TO y6
        unfold vv
        go_wp2
        refine bodyPost_ret (by unfold results; simp only [Try.results29]; go_simp; rfl) rfl ?_
        exact ⟨rfl, (B3.setCell (by simp; omega) _).setCell (by simp; omega) _⟩
  · have hne : (e != 0) = true := by simpa using h
    rw [show scaleV ⟨a, e⟩ num den has = ⟨0, e⟩ from if_pos h]
    go_enter Try.func29, Try.ntmps29
    go_wp2
    refine bodyPost_ret (by unfold results; simp only [Try.results29]; go_simp; rfl) rfl ?_
    exact ⟨rfl, (((Below.refl _ w).alloc (Nat.le_refl _) _).alloc (by simp) _).alloc (by simp; omega) _⟩
end Go.Proofs.Ytioecjoddgpjbaa
