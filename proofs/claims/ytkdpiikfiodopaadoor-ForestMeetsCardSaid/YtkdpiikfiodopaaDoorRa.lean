/-
  Chapter 4: Check, Norm, Same.
-/
import Derived.Test.YtkdpiikfiodopaaDoorTz
namespace Go.Proofs.YtkdpiikfiodopaaDoor
open Go.RowKit

theorem below_drew {B : Nat} {a w : World} (h : Below B a w) : Below B a w.drew := ⟨h.os, h.tape, h.output, h.size, h.block⟩

/-- A rate that may be. -/
def okR (n d : Int) : Bool := decide (1 ≤ n) && decide (1 ≤ d) && decide (n ≤ 1000000000000) && decide (d ≤ 1000000000000)
theorem okR_iff (n d : Int) : okR n d = true ↔ 1 ≤ n ∧ 1 ≤ d ∧ n ≤ 1000000000000 ∧ d ≤ 1000000000000 := by
  unfold okR
  simp [and_assoc]
def chkI (n d : Int) : Int := if okR n d = true then 0 else 11
theorem chkI_in {n d : Int} (h : 1 ≤ n ∧ 1 ≤ d ∧ n ≤ 1000000000000 ∧ d ≤ 1000000000000) : chkI n d = 0 := if_pos ((okR_iff n d).2 h)
theorem chkI_out {n d : Int} (h : ¬ (1 ≤ n ∧ 1 ≤ d ∧ n ≤ 1000000000000 ∧ d ≤ 1000000000000)) : chkI n d = 11 := if_neg fun h' => h ((okR_iff n d).1 h')
def gcdI (n d : Int) : Int := (Nat.gcd n.toNat d.toNat : Nat)
/-- The lowest terms of a rate that may be. -/
def lowI (n d : Int) : Int × Int := (n / gcdI n d, d / gcdI n d)
def normI (n d : Int) : Int × Int := if okR n d = true then lowI n d else (0, 0)

set_option maxHeartbeats 1000000 in
theorem check_any (n d : Int) (w : World) :
    Calls Tryd.prog 41 #[.agg #[.int .i64 n, .int .i64 d]] w fun e w' => e = .returned (.int .i64 (chkI n d)) ∧ Below w.heap.size w w' := by
  obtain ⟨q, hq⟩ : ∃ q, chkI n d = q := ⟨_, rfl⟩
  have h1 := fun h => hq ▸ chkI_in (n := n) (d := d) h
  have h2 := fun h => hq ▸ chkI_out (n := n) (d := d) h
  rw [hq]
  have H := Lib.hid (And.intro h1 h2)
  clear h1 h2 hq
  have B := (Below.refl w.heap.size w).alloc (Nat.le_refl _) (.cells #[.int .i64 n, .int .i64 d] 23)
  rcases (by omega : n < d ∨ n = d ∨ d < n) with h | rfl | h
  all_goals
    go_enter Tryd.func41, Tryd.ntmps41
    go_wp2
    all_goals
      go_ret
      first
        | exact ⟨congrArg (fun z => Ending.returned (.int .i64 z)) (H.out.1 (by omega)).symm, B⟩
        | exact ⟨congrArg (fun z => Ending.returned (.int .i64 z)) (H.out.2 (by omega)).symm, B⟩

/-- Two rates, held against each other. -/
theorem req (a b c d : Int) (w : World) : (Op.equalIn 10000 23 (.agg #[.int .i64 a, .int .i64 b]) (.agg #[.int .i64 c, .int .i64 d])).run Tryd.prog w = .ok ((a == c) && (b == d)) w := by
  have u3 := Tryd.underlying3
  have a3 := Tryd.isAgg3
  have z3 := Tryd.sizeOf3
  have hS : Tryd.prog.underlying 23 = some (.struct (Tryd.prog.fieldsOf 23)) := by kernel_rfl
  have hp : Tryd.prog.stoodInHeld 23 = false := by kernel_rfl
  rw [show (10000 : Nat) = 9999 + 1 from rfl, run_equalIn_agg w 9999 _ _ _ hS hp]
  simp only [Program.fieldsOf, Tryd.underlying23]
  go_simp
  by_cases h1 : a = c <;> by_cases h2 : b = d <;> simp [h1, h2]

theorem gcdI_spec {n d : Int} (h1 : 1 ≤ n) (h2 : 1 ≤ d) : 1 ≤ gcdI n d ∧ gcdI n d ≤ n ∧ gcdI n d ≤ d ∧ 1 ≤ n / gcdI n d ∧ 1 ≤ d / gcdI n d ∧ n / gcdI n d ≤ n ∧ d / gcdI n d ≤ d := by
  unfold gcdI
  have g1 := Nat.gcd_pos_of_pos_left d.toNat (show 0 < n.toNat by omega)
  have g2 := Nat.gcd_le_left d.toNat (show 0 < n.toNat by omega)
  have g3 := Nat.gcd_le_right n.toNat (show 0 < d.toNat by omega)
  generalize Nat.gcd n.toNat d.toNat = g at *
  have e1 : (1 : Int) ≤ (g : Int) := by omega
  refine ⟨e1, by omega, by omega, ?_, ?_, Int.ediv_le_self _ (by omega), Int.ediv_le_self _ (by omega)⟩
  · rw [Int.le_ediv_iff_mul_le (by omega)]
    omega
  · rw [Int.le_ediv_iff_mul_le (by omega)]
    omega

set_option maxHeartbeats 1000000 in
theorem norm_any (n d : Int) (w : World) (T : Tb w) :
    Calls Tryd.prog 42 #[.agg #[.int .i64 n, .int .i64 d]] w fun e w' => e = .returned (.agg #[.int .i64 (normI n d).1, .int .i64 (normI n d).2]) ∧ Below w.heap.size w w' := by
  have CH := Lib.hid fun w => check_any n d w
  by_cases h : okR n d = true
  · have h' := (okR_iff n d).1 h
    rw [chkI_in h'] at CH
    have CM := Lib.hid fun (w : World) (T : Tb w) => common_any n.toNat d.toNat (by omega) (by omega) (by omega) (by omega) w T
    obtain ⟨g1, g2, g3, e1, e2, e3, e4⟩ := gcdI_spec h'.1 h'.2.1
    have hn : normI n d = lowI n d := if_pos h
    rw [hn]
    unfold lowI
    have q1 : n.tdiv (gcdI n d) = n / gcdI n d := Int.tdiv_eq_ediv_of_nonneg (by omega)
    have q2 : d.tdiv (gcdI n d) = d / gcdI n d := Int.tdiv_eq_ediv_of_nonneg (by omega)
    have c1 : (n.toNat : Int) = n := by omega
    have c2 : (d.toNat : Int) = d := by omega
    change Hid (∀ (w : World), Tb w → Calls Tryd.prog 77 #[.int .u64 (n.toNat : Int), .int .u64 (d.toNat : Int)] w fun e w' => e = .returned (.int .i64 (gcdI n d)) ∧ w = w') at CM
    rw [c1, c2] at CM
    have wn : IntKind.u64.wrap n = n := by rw [wrapU]; omega
    have wd : IntKind.u64.wrap d = d := by rw [wrapU]; omega
    obtain ⟨hn1, hd1, hn2, hd2⟩ := h'
    clear h hn c1 c2
    generalize gcdI n d = g at *
    have hg0 : g ≠ 0 := by omega
    have hgb : (g == 0) = false := beq_eq_false_iff_ne.2 hg0
    generalize hx : n / g = x at *
    generalize hy : d / g = y at *
    clear hx hy
    go_enter Tryd.func42, Tryd.ntmps42
    go_wp2_with fail
    refine (CH.out _).mono ?_
    rintro e w1 ⟨rfl, b1⟩
    have x1 := ((Box.new w 23 #[.int .i64 n, .int .i64 d]).alloc (.cells #[.int .i64 0, .int .i64 0] 23)).later b1
    have x2 := (Box.new' (w := w.alloc (.cells #[.int .i64 n, .int .i64 d] 23)) (g := w.heap.size + 1) (t := 23) (cs := #[.int .i64 0, .int .i64 0]) (by simp)).later b1
    have T1 := ((T.alloc (.cells #[.int .i64 n, .int .i64 d] 23)).alloc (.cells #[.int .i64 0, .int .i64 0] 23)).later b1
    have b1 := below_up (below_up b1)
    have k1 := x1.cells
    have l1 := x1.lt
    have k2 := x2.cells
    have f2 := x2.free
    have l2 := x2.lt
    go_wp2_with fail
    refine (CM.out _ T1).mono ?_
    rintro e _ ⟨rfl, rfl⟩
    clear CM CH T T1
    go_wp2_with fail
    go_region
    all_goals
      go_wp2
      refine bodyPost_ret (by unfold results; simp only [Tryd.results42]; go_simp; rfl) rfl ?_
      exact ⟨rfl, below_drew ((b1.setCell (by simp) _).setCell (by simp) _)⟩
  · rw [chkI_out (fun h' => h ((okR_iff n d).2 h'))] at CH
    have hn : normI n d = (0, 0) := if_neg h
    rw [hn]
    clear h hn
    go_enter Tryd.func42, Tryd.ntmps42
    go_wp2_with fail
    refine (CH.out _).mono ?_
    rintro e w1 ⟨rfl, b1⟩
    have x2 := (Box.new' (w := w.alloc (.cells #[.int .i64 n, .int .i64 d] 23)) (g := w.heap.size + 1) (t := 23) (cs := #[.int .i64 0, .int .i64 0]) (by simp)).later b1
    have b1 := below_up (below_up b1)
    have k2 := x2.cells
    have f2 := x2.free
    have l2 := x2.lt
    go_wp2
    refine bodyPost_ret (by unfold results; simp only [Tryd.results42]; go_simp; rfl) rfl ?_
    exact ⟨rfl, (b1.setCell (by simp) _).setCell (by simp) _⟩
end Go.Proofs.YtkdpiikfiodopaaDoor
