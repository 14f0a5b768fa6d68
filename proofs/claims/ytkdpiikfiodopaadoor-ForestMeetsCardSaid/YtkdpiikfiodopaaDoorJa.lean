/-
  Chapter 4 in plain arithmetic: the product in lowest terms, crosswise or at once.
-/
import Derived.Test.YtkdpiikfiodopaaDoorRf
import Derived.Test.YtkdpiikfiodopaaDoorRef3
namespace Go.Proofs.YtkdpiikfiodopaaDoor
open Go.RowKit

theorem lowI_low' {n d : Int} (hg : Nat.gcd n.toNat d.toNat = 1) : lowI n d = (n, d) := by
  unfold lowI gcdI
  rw [hg]
  simp
theorem lowI_of {n d g p q : Int} (hg : 1 ≤ g) (p1 : 1 ≤ p) (q1 : 1 ≤ q) (hn : n = g * p) (hd : d = g * q) (hc : Nat.gcd p.toNat q.toNat = 1) : lowI n d = (p, q) := by
  have h1 : 1 ≤ n := by rw [hn]; exact Int.mul_pos (by omega) (by omega)
  have h2 : 1 ≤ d := by rw [hd]; exact Int.mul_pos (by omega) (by omega)
  rw [(low_iff h1 h2 p1 q1).2 (by rw [hn, hd]; grind), lowI_low' hc]
theorem toNat_mul' {a b : Int} (ha : 1 ≤ a) (hb : 1 ≤ b) : (a * b).toNat = a.toNat * b.toNat := by
  have h : ((a.toNat * b.toNat : Nat) : Int) = a * b := by rw [Int.natCast_mul, show ((a.toNat : Nat) : Int) = a by omega, show ((b.toNat : Nat) : Int) = b by omega]
  omega
theorem times_low {n d m e : Int} (h1 : okR n d = true) (h2 : okR m e = true) :
    lowI (n * m) (d * e) = ((tmX n d m e).1 * (tmY n d m e).1, (tmX n d m e).2 * (tmY n d m e).2) := by
  obtain ⟨a1, a2, a3, a4⟩ := (okR_iff n d).1 h1
  obtain ⟨b1, b2, b3, b4⟩ := (okR_iff m e).1 h2
  have o1 := (lowI_ok h1).1
  have o2 := (lowI_ok h2).1
  obtain ⟨g, g1, en, ed, p1, q1, c1⟩ := lowI_spec a1 a2
  obtain ⟨k, k1, em, ee, r1, s1, c2⟩ := lowI_spec b1 b2
  unfold tmX tmY
  rw [show normI n d = lowI n d from if_pos h1, show normI m e = lowI m e from if_pos h2]
  generalize lowI n d = A at *
  generalize lowI m e = B at *
  obtain ⟨p, q⟩ := A
  obtain ⟨r, s⟩ := B
  simp only at *
  have o3 : okR p s = true := by
    have := (okR_iff _ _).1 o1
    have := (okR_iff _ _).1 o2
    exact (okR_iff _ _).2 (by omega)
  have o4 : okR r q = true := by
    have := (okR_iff _ _).1 o1
    have := (okR_iff _ _).1 o2
    exact (okR_iff _ _).2 (by omega)
  rw [show normI p s = lowI p s from if_pos o3, show normI r q = lowI r q from if_pos o4]
  obtain ⟨u, u1, ep, es, x1, x2, c3⟩ := lowI_spec p1 s1
  obtain ⟨v, v1, er, eq, y1, y2, c4⟩ := lowI_spec r1 q1
  generalize lowI p s = X at *
  generalize lowI r q = Y at *
  obtain ⟨X1, X2⟩ := X
  obtain ⟨Y1, Y2⟩ := Y
  simp only at *
  have m1 : 1 ≤ X1 * Y1 := Int.mul_pos (by omega) (by omega)
  have m2 : 1 ≤ X2 * Y2 := Int.mul_pos (by omega) (by omega)
  have G : 1 ≤ g * k * (u * v) := Int.mul_pos (Int.mul_pos (by omega) (by omega)) (Int.mul_pos (by omega) (by omega))
  refine lowI_of G m1 m2 (by rw [en, em, ep, er]; grind) (by rw [ed, ee, eq, es]; grind) ?_
  rw [toNat_mul' x1 y1, toNat_mul' x2 y2]
  have d1 : X1.toNat ∣ p.toNat := ⟨u.toNat, by rw [ep, toNat_mul' u1 x1, Nat.mul_comm]⟩
  have d2 : X2.toNat ∣ s.toNat := ⟨u.toNat, by rw [es, toNat_mul' u1 x2, Nat.mul_comm]⟩
  have d3 : Y1.toNat ∣ r.toNat := ⟨v.toNat, by rw [er, toNat_mul' v1 y1, Nat.mul_comm]⟩
  have d4 : Y2.toNat ∣ q.toNat := ⟨v.toNat, by rw [eq, toNat_mul' v1 y2, Nat.mul_comm]⟩
  have e1 : Nat.Coprime X1.toNat Y2.toNat := (Nat.Coprime.coprime_dvd_left d1 (Nat.Coprime.coprime_dvd_right d4 c1))
  have e2 : Nat.Coprime Y1.toNat X2.toNat := (Nat.Coprime.coprime_dvd_left d3 (Nat.Coprime.coprime_dvd_right d2 c2))
  exact Nat.Coprime.mul_left (Nat.Coprime.mul_right c3 e1) (Nat.Coprime.mul_right e2 c4)
def times4I (n d m e : Int) : (Int × Int) × Int := if okR n d = true ∧ okR m e = true then (if (lowestI (n * m) (d * e)).2 = true then ((lowestI (n * m) (d * e)).1, 0) else ((0, 0), 10)) else ((0, 0), 11)
theorem times4_eq (n d m e : Int) : times4I n d m e = timesI n d m e := by
  unfold times4I timesI
  by_cases h : okR n d = true ∧ okR m e = true
  · rw [if_pos h, if_pos h]
    have hl := times_low h.1 h.2
    have f1 : n * m / gcdI (n * m) (d * e) = (tmX n d m e).1 * (tmY n d m e).1 := congrArg Prod.fst hl
    have f2 : d * e / gcdI (n * m) (d * e) = (tmX n d m e).2 * (tmY n d m e).2 := congrArg Prod.snd hl
    unfold lowestI
    rw [f1, f2]
    split <;> simp
  · rw [if_neg h, if_neg h]
end Go.Proofs.YtkdpiikfiodopaaDoor
/-
  The reference of chapter 4: Inverse, Apply, Times.
-/
namespace Go.Proofs.YtkdpiikfiodopaaDoor
open Go.RowKit

set_option maxRecDepth 100000 in
set_option maxHeartbeats 1000000 in
theorem r4inverse_any (n d : Int) (w : World) :
    Calls Tryd.prog 10 #[.agg #[.int .i64 n, .int .i64 d]] w fun e' w' => e' = .returned (.tuple #[.agg #[.int .i64 (invI n d).1.1, .int .i64 (invI n d).1.2], .int .i64 (invI n d).2]) ∧ Below w.heap.size w w' := by
  have CA := Lib.hid fun w => r4check_any n d w
  have NR := Lib.hid fun (w : World) => r4norm_any d n w
  unfold invI
  cases h : okR n d
  · rw [okR_false h] at CA
    rw [if_neg (by decide)]
    go_enter Tryd.func10, Tryd.ntmps10
    have B0 := Below.refl w.heap.size w
    go_wp2_with fail
    refine (CA.out _).mono ?_
    rintro e w1 ⟨rfl, b1⟩
    have x1 := ((Box.new w 23 #[.int .i64 n, .int .i64 d]).alloc (.cells #[.int .i64 0, .int .i64 0] 23)).later b1
    have x2 := (Box.new' (w := w.alloc (.cells #[.int .i64 n, .int .i64 d] 23)) (g := w.heap.size + 1) (t := 23) (cs := #[.int .i64 0, .int .i64 0]) (by simp)).later b1
    have b1 := below_up b1
    have b1 := below_up b1
    have B1 := B0.trans (b1.mono B0.size)
    clear b1 B0
    have k1 := x1.cells
    have k2 := x2.cells
    have l1 := x1.lt
    have l2 := x2.lt
    have f2 := x2.free
    go_wp2
    refine bodyPost_ret (by unfold results; simp only [Tryd.results10]; go_simp; rfl) rfl ?_
    exact ⟨rfl, (B1.setCell (by simp) _).setCell (by simp) _⟩
  · rw [okR_true h] at CA
    rw [if_pos rfl]
    generalize normI d n = p at *
    go_enter Tryd.func10, Tryd.ntmps10
    have B0 := Below.refl w.heap.size w
    go_wp2_with fail
    refine (CA.out _).mono ?_
    rintro e w1 ⟨rfl, b1⟩
    have x1 := ((Box.new w 23 #[.int .i64 n, .int .i64 d]).alloc (.cells #[.int .i64 0, .int .i64 0] 23)).later b1
    have x2 := (Box.new' (w := w.alloc (.cells #[.int .i64 n, .int .i64 d] 23)) (g := w.heap.size + 1) (t := 23) (cs := #[.int .i64 0, .int .i64 0]) (by simp)).later b1
    have b1 := below_up b1
    have b1 := below_up b1
    have B1 := B0.trans (b1.mono B0.size)
    clear b1 B0
    have k1 := x1.cells
    have k2 := x2.cells
    have l1 := x1.lt
    have l2 := x2.lt
    have f2 := x2.free
    clear CA
    go_wp2_with fail
    refine (NR.out _).mono ?_
    rintro e w2 ⟨rfl, b2⟩
    replace x1 := x1.later b2
    replace x2 := x2.later b2
    have B2 := B1.trans (b2.mono B1.size)
    clear b2 B1
    clear k1 k2 l1 l2 f2
    have k2 := x2.cells
    have l2 := x2.lt
    have f2 := x2.free
    go_wp2
    refine bodyPost_ret (by unfold results; simp only [Tryd.results10]; go_simp; rfl) rfl ?_
    exact ⟨rfl, (B2.setCell (by simp) _).setCell (by simp) _⟩

set_option maxRecDepth 100000 in
set_option maxHeartbeats 1000000 in
theorem r4apply_any (x n d : Int) (w : World) (x1 : -9223372036854775808 ≤ x) (x2 : x ≤ 9223372036854775807) :
    Calls Tryd.prog 14 #[.int .i64 x, .agg #[.int .i64 n, .int .i64 d]] w fun e' w' => e' = .returned (.tuple #[.int .i64 (applyI x n d).1, .int .i64 (applyI x n d).2]) ∧ Below w.heap.size w w' := by
  have CA := Lib.hid fun w => r4check_any n d w
  unfold applyI
  cases h : okR n d
  · rw [okR_false h] at CA
    rw [if_neg (by decide)]
    go_enter Tryd.func14, Tryd.ntmps14
    have B0 := Below.refl w.heap.size w
    go_wp2_with fail
    refine (CA.out _).mono ?_
    rintro e w1 ⟨rfl, b1⟩
    have x3 := (Box.new w 23 #[.int .i64 n, .int .i64 d]).later b1
    have b1 := below_up b1
    have B1 := B0.trans (b1.mono B0.size)
    clear b1 B0
    have k3 := x3.cells
    have l3 := x3.lt
    go_wp2
    go_ret2
    exact ⟨rfl, B1⟩
  · have h' := (okR_iff n d).1 h
    rw [okR_true h] at CA
    rw [if_pos rfl]
    have SC := Lib.hid fun w => rscale_any (x := x) (n := n) (d := d) x1 x2 (by omega) (by omega) (by omega) w
    generalize evenI (x * n) d = p at *
    clear h h' x1 x2
    go_enter Tryd.func14, Tryd.ntmps14
    have B0 := Below.refl w.heap.size w
    go_wp2_with fail
    refine (CA.out _).mono ?_
    rintro e w1 ⟨rfl, b1⟩
    have x3 := (Box.new w 23 #[.int .i64 n, .int .i64 d]).later b1
    have b1 := below_up b1
    have B1 := B0.trans (b1.mono B0.size)
    clear b1 B0
    have k3 := x3.cells
    have l3 := x3.lt
    clear CA
    go_wp2_with fail
    refine (SC.out _).mono ?_
    rintro e w2 ⟨rfl, b2⟩
    replace x3 := x3.later b2
    have B2 := B1.trans (b2.mono B1.size)
    clear b2 B1
    go_wp2
    go_ret2
    exact ⟨rfl, B2⟩

set_option maxRecDepth 100000 in
set_option maxHeartbeats 1000000 in
theorem r4times_bad (n d m e : Int) (w : World) (hok : ¬ (okR n d = true ∧ okR m e = true)) :
    Calls Tryd.prog 12 #[.agg #[.int .i64 n, .int .i64 d], .agg #[.int .i64 m, .int .i64 e]] w fun e' w' => e' = .returned (.tuple #[.agg #[.int .i64 0, .int .i64 0], .int .i64 11]) ∧ Below w.heap.size w w' := by
  have CA := Lib.hid fun w => r4check_any n d w
  have CB := Lib.hid fun w => r4check_any m e w
  cases h : okR n d
  · rw [okR_false h] at CA
    go_enter Tryd.func12, Tryd.ntmps12
    have B0 := Below.refl w.heap.size w
    go_wp2_with fail
    refine (CA.out _).mono ?_
    rintro e w1 ⟨rfl, b1⟩
    have x2 := (((Box.new w 23 #[.int .i64 n, .int .i64 d]).alloc (.cells #[.int .i64 m, .int .i64 e] 23)).alloc (.cells #[.int .i64 0, .int .i64 0] 23)).later b1
    have x3 := ((Box.new' (w := (w.alloc (.cells #[.int .i64 n, .int .i64 d] 23))) (g := w.heap.size + 1) (t := 23) (cs := #[.int .i64 m, .int .i64 e]) (by simp)).alloc (.cells #[.int .i64 0, .int .i64 0] 23)).later b1
    have x4 := (Box.new' (w := ((w.alloc (.cells #[.int .i64 n, .int .i64 d] 23)).alloc (.cells #[.int .i64 m, .int .i64 e] 23))) (g := w.heap.size + 2) (t := 23) (cs := #[.int .i64 0, .int .i64 0]) (by simp)).later b1
    have b1 := below_up b1
    have b1 := below_up b1
    have b1 := below_up b1
    have B1 := B0.trans (b1.mono B0.size)
    clear b1 B0
    have k4 := x4.cells
    have l4 := x4.lt
    have f4 := x4.free
    go_wp2
    refine bodyPost_ret (by unfold results; simp only [Tryd.results12]; go_simp; rfl) rfl ?_
    exact ⟨rfl, (B1.setCell (by simp; omega) _).setCell (by simp; omega) _⟩
  · have h2 : okR m e = false := by
      cases h2 : okR m e
      · rfl
      · exact absurd ⟨h, h2⟩ hok
    rw [okR_true h] at CA
    rw [okR_false h2] at CB
    go_enter Tryd.func12, Tryd.ntmps12
    have B0 := Below.refl w.heap.size w
    go_wp2_with fail
    refine (CA.out _).mono ?_
    rintro e w1 ⟨rfl, b1⟩
    have x2 := (((Box.new w 23 #[.int .i64 n, .int .i64 d]).alloc (.cells #[.int .i64 m, .int .i64 e] 23)).alloc (.cells #[.int .i64 0, .int .i64 0] 23)).later b1
    have x3 := ((Box.new' (w := (w.alloc (.cells #[.int .i64 n, .int .i64 d] 23))) (g := w.heap.size + 1) (t := 23) (cs := #[.int .i64 m, .int .i64 e]) (by simp)).alloc (.cells #[.int .i64 0, .int .i64 0] 23)).later b1
    have x4 := (Box.new' (w := ((w.alloc (.cells #[.int .i64 n, .int .i64 d] 23)).alloc (.cells #[.int .i64 m, .int .i64 e] 23))) (g := w.heap.size + 2) (t := 23) (cs := #[.int .i64 0, .int .i64 0]) (by simp)).later b1
    have b1 := below_up b1
    have b1 := below_up b1
    have b1 := below_up b1
    have B1 := B0.trans (b1.mono B0.size)
    clear b1 B0
    clear CA
    have k3 := x3.cells
    have l3 := x3.lt
    go_wp2_with fail
    refine (CB.out _).mono ?_
    rintro e w2 ⟨rfl, b2⟩
    replace x2 := x2.later b2
    replace x3 := x3.later b2
    replace x4 := x4.later b2
    have B2 := B1.trans (b2.mono B1.size)
    clear b2 B1
    clear k3 l3
    have k4 := x4.cells
    have l4 := x4.lt
    have f4 := x4.free
    go_wp2
    refine bodyPost_ret (by unfold results; simp only [Tryd.results12]; go_simp; rfl) rfl ?_
    exact ⟨rfl, (B2.setCell (by simp; omega) _).setCell (by simp; omega) _⟩

def LowCut (p : Int × Int) (W : World) (s6 : Value) (wx : World) : Prop := ∃ g, s6 = .pointer (some ⟨g, 0, none⟩) ∧ Box wx g 23 #[.int .i64 p.1, .int .i64 p.2] ∧ Below W.heap.size W wx
set_option maxRecDepth 100000 in
set_option maxHeartbeats 2000000 in
theorem r4times_good (n d m e : Int) (w : World) (h1 : okR n d = true) (h2 : okR m e = true) (q : (Int × Int) × Bool) (hq : Hid (lowestI (n * m) (d * e) = q)) :
    Calls Tryd.prog 12 #[.agg #[.int .i64 n, .int .i64 d], .agg #[.int .i64 m, .int .i64 e]] w fun e' w' => e' = .returned (.tuple #[.agg #[.int .i64 (if q.2 = true then q.1 else (0, 0)).1, .int .i64 (if q.2 = true then q.1 else (0, 0)).2], .int .i64 (if q.2 = true then 0 else 10)]) ∧ Below w.heap.size w w' := by
  have CA := Lib.hid fun w => r4check_any n d w
  have CB := Lib.hid fun w => r4check_any m e w
  rw [okR_true h1] at CA
  rw [okR_true h2] at CB
  obtain ⟨a1, a2, a3, a4⟩ := (okR_iff n d).1 h1
  obtain ⟨b1, b2, b3, b4⟩ := (okR_iff m e).1 h2
  have p1 : 1 ≤ n * m := Int.mul_pos (by omega) (by omega)
  have p2 : 1 ≤ d * e := Int.mul_pos (by omega) (by omega)
  have On := Lib.hid fun (w : World) => of_any n w (by omega) (by omega)
  have Om := Lib.hid fun (w : World) => of_any m w (by omega) (by omega)
  have Od := Lib.hid fun (w : World) => of_any d w (by omega) (by omega)
  have Oe := Lib.hid fun (w : World) => of_any e w (by omega) (by omega)
  have TA := Lib.hid fun (w : World) S S' va vb (ha : BigIs S w va n 19) (hb : BigIs S' w vb m 19) => times_any ha hb (by omega)
  have TB := Lib.hid fun (w : World) S S' va vb (ha : BigIs S w va d 19) (hb : BigIs S' w vb e 19) => times_any ha hb (by omega)
  have LO := Lib.hid fun (w : World) S S' va vb (ha : BigIs S w va (n * m) 38) (hb : BigIs S' w vb (d * e) 38) => lowest_any ha hb p1 p2 (by omega) (by omega)
  rw [hq.out] at LO
  clear hq p1 p2 a1 a2 a3 a4 b1 b2 b3 b4 h1 h2
  go_enter Tryd.func12, Tryd.ntmps12
  have B0 := Below.refl w.heap.size w
  go_wp2_with fail
  refine (CA.out _).mono ?_
  rintro e w1 ⟨rfl, b1⟩
  have x2 := (((Box.new w 23 #[.int .i64 n, .int .i64 d]).alloc (.cells #[.int .i64 m, .int .i64 e] 23)).alloc (.cells #[.int .i64 0, .int .i64 0] 23)).later b1
  have x3 := ((Box.new' (w := (w.alloc (.cells #[.int .i64 n, .int .i64 d] 23))) (g := w.heap.size + 1) (t := 23) (cs := #[.int .i64 m, .int .i64 e]) (by simp)).alloc (.cells #[.int .i64 0, .int .i64 0] 23)).later b1
  have x4 := (Box.new' (w := ((w.alloc (.cells #[.int .i64 n, .int .i64 d] 23)).alloc (.cells #[.int .i64 m, .int .i64 e] 23))) (g := w.heap.size + 2) (t := 23) (cs := #[.int .i64 0, .int .i64 0]) (by simp)).later b1
  have b1 := below_up b1
  have b1 := below_up b1
  have b1 := below_up b1
  have B1 := B0.trans (b1.mono B0.size)
  clear b1 B0
  have k3 := x3.cells
  have l3 := x3.lt
  go_wp2_with fail
  refine (CB.out _).mono ?_
  rintro e w2 ⟨rfl, b2⟩
  replace x2 := x2.later b2
  replace x3 := x3.later b2
  replace x4 := x4.later b2
  have B2 := B1.trans (b2.mono B1.size)
  clear b2 B1
  clear k3 l3 CA CB
  go_upto_region 3 with fail
  obtain ⟨q1, q2⟩ := q
  go_cut [6, 7] from 17 to 35 (fun s6 s7 wx => s7 = .bool q2 ∧ LowCut q1 w2 s6 wx)
  case first =>
    have kkx2 := x2.cells
    have nex2 := Nat.ne_of_gt x2.lt
    have kkx3 := x3.cells
    have nex3 := Nat.ne_of_gt x3.lt
    first | go_region_held3 (fun w' => w'.cell? ⟨w.heap.size, 0, none⟩ = some (.int .i64 n) ∧ w'.cell? ⟨w.heap.size, 1, none⟩ = some (.int .i64 d) ∧ w'.cell? ⟨w.heap.size + 1, 0, none⟩ = some (.int .i64 m) ∧ w'.cell? ⟨w.heap.size + 1, 1, none⟩ = some (.int .i64 e)) (go_keep)
      (first
        | (go_at_call 49; (with_reducible refine (On.out _).mono ?_); rintro e w60 ⟨v1, rfl, m1, b60⟩; have yx2 : Box w60 (w.heap.size) 23 #[.int .i64 n, .int .i64 d] := (by first | exact (x2).drew.later b60 | exact (x2.alloc _).drew.later b60); have kyx2 := yx2.cells; have nex20 := Nat.ne_of_gt yx2.lt; have yx3 : Box w60 (w.heap.size + 1) 23 #[.int .i64 m, .int .i64 e] := (by first | exact (x3).drew.later b60 | exact (x3.alloc _).drew.later b60); have kyx3 := yx3.cells; have nex30 := Nat.ne_of_gt yx3.lt; have cb : Below w2.heap.size w2 w60 := (by first | exact (below_undrew b60) | exact (below_up (below_undrew b60))); (first | (have z1 := z1.later b60; have kz1 := z1.cells; have fz1 := z1.free) | (have z1 := (Box.new w2 23 #[.int .i64 0, .int .i64 0]).drew.later b60; have kz1 := z1.cells; have fz1 := z1.free) | skip); have m1 := m1.mono (S' := fun _ => True) (fun _ _ _ => trivial) (Nat.le_refl _); obtain ⟨t1, A1, j1, c1, rfl⟩ := m1.form2; (first | (have z1l := z1.lt) | skip); have s60 := cb.size)
        | (go_at_call 49; (with_reducible refine (Om.out _).mono ?_); rintro e w61 ⟨v2, rfl, m2, b61⟩; have yx2 : Box w61 (w.heap.size) 23 #[.int .i64 n, .int .i64 d] := (by first | exact (yx2).later b61 | exact (yx2.alloc _).later b61); have kyx2 := yx2.cells; have nex21 := Nat.ne_of_gt yx2.lt; have yx3 : Box w61 (w.heap.size + 1) 23 #[.int .i64 m, .int .i64 e] := (by first | exact (yx3).later b61 | exact (yx3.alloc _).later b61); have kyx3 := yx3.cells; have nex31 := Nat.ne_of_gt yx3.lt; have cb : Below w2.heap.size w2 w61 := (by first | exact cb.trans (b61.mono cb.size) | exact cb.trans ((below_up b61).mono cb.size)); (first | (have z1 := z1.later b61; have kz1 := z1.cells; have fz1 := z1.free) | (have z1 := (Box.new w60 23 #[.int .i64 0, .int .i64 0]).later b61; have kz1 := z1.cells; have fz1 := z1.free) | skip); (first | replace m1 := (m1).below b61 (Nat.le_refl _) | replace m1 := (m1.alloc _).below b61 (Nat.le_refl _)); have m2 := m2.mono (S' := fun _ => True) (fun _ _ _ => trivial) (Nat.le_refl _); obtain ⟨t2, A2, j2, c2, rfl⟩ := m2.form2; have s61 := cb.size)
        | (go_at_call 48; (with_reducible refine (TA.out _ (fun _ => True) (fun _ => True) _ _ ?_ ?_).mono ?_); (first | exact m1 | exact m1.alloc _); (first | exact m2 | exact m2.alloc _); rintro e w62 ⟨v3, rfl, m3, b62⟩; have yx2 : Box w62 (w.heap.size) 23 #[.int .i64 n, .int .i64 d] := (by first | exact (yx2).later b62 | exact (yx2.alloc _).later b62); have kyx2 := yx2.cells; have nex22 := Nat.ne_of_gt yx2.lt; have yx3 : Box w62 (w.heap.size + 1) 23 #[.int .i64 m, .int .i64 e] := (by first | exact (yx3).later b62 | exact (yx3.alloc _).later b62); have kyx3 := yx3.cells; have nex32 := Nat.ne_of_gt yx3.lt; have cb : Below w2.heap.size w2 w62 := (by first | exact cb.trans (b62.mono cb.size) | exact cb.trans ((below_up b62).mono cb.size)); (first | (have z1 := z1.later b62; have kz1 := z1.cells; have fz1 := z1.free) | (have z1 := (Box.new w61 23 #[.int .i64 0, .int .i64 0]).later b62; have kz1 := z1.cells; have fz1 := z1.free) | skip); (first | replace m1 := (m1).below b62 (Nat.le_refl _) | replace m1 := (m1.alloc _).below b62 (Nat.le_refl _)); (first | replace m2 := (m2).below b62 (Nat.le_refl _) | replace m2 := (m2.alloc _).below b62 (Nat.le_refl _)); have m3 := m3.mono (S' := fun _ => True) (fun _ _ _ => trivial) (Nat.le_refl _); obtain ⟨t3, A3, j3, c3, rfl⟩ := m3.form2; have s62 := cb.size)
        | (go_at_call 49; (with_reducible refine (Od.out _).mono ?_); rintro e w63 ⟨v4, rfl, m4, b63⟩; have yx2 : Box w63 (w.heap.size) 23 #[.int .i64 n, .int .i64 d] := (by first | exact (yx2).later b63 | exact (yx2.alloc _).later b63); have kyx2 := yx2.cells; have nex23 := Nat.ne_of_gt yx2.lt; have yx3 : Box w63 (w.heap.size + 1) 23 #[.int .i64 m, .int .i64 e] := (by first | exact (yx3).later b63 | exact (yx3.alloc _).later b63); have kyx3 := yx3.cells; have nex33 := Nat.ne_of_gt yx3.lt; have cb : Below w2.heap.size w2 w63 := (by first | exact cb.trans (b63.mono cb.size) | exact cb.trans ((below_up b63).mono cb.size)); (first | (have z1 := z1.later b63; have kz1 := z1.cells; have fz1 := z1.free) | (have z1 := (Box.new w62 23 #[.int .i64 0, .int .i64 0]).later b63; have kz1 := z1.cells; have fz1 := z1.free) | skip); (first | replace m3 := (m3).below b63 (Nat.le_refl _) | replace m3 := (m3.alloc _).below b63 (Nat.le_refl _)); have m4 := m4.mono (S' := fun _ => True) (fun _ _ _ => trivial) (Nat.le_refl _); obtain ⟨t4, A4, j4, c4, rfl⟩ := m4.form2; have s63 := cb.size)
        | (go_at_call 49; (with_reducible refine (Oe.out _).mono ?_); rintro e w64 ⟨v5, rfl, m5, b64⟩; have yx2 : Box w64 (w.heap.size) 23 #[.int .i64 n, .int .i64 d] := (by first | exact (yx2).later b64 | exact (yx2.alloc _).later b64); have kyx2 := yx2.cells; have nex24 := Nat.ne_of_gt yx2.lt; have yx3 : Box w64 (w.heap.size + 1) 23 #[.int .i64 m, .int .i64 e] := (by first | exact (yx3).later b64 | exact (yx3.alloc _).later b64); have kyx3 := yx3.cells; have nex34 := Nat.ne_of_gt yx3.lt; have cb : Below w2.heap.size w2 w64 := (by first | exact cb.trans (b64.mono cb.size) | exact cb.trans ((below_up b64).mono cb.size)); (first | (have z1 := z1.later b64; have kz1 := z1.cells; have fz1 := z1.free) | (have z1 := (Box.new w63 23 #[.int .i64 0, .int .i64 0]).later b64; have kz1 := z1.cells; have fz1 := z1.free) | skip); (first | replace m3 := (m3).below b64 (Nat.le_refl _) | replace m3 := (m3.alloc _).below b64 (Nat.le_refl _)); (first | replace m4 := (m4).below b64 (Nat.le_refl _) | replace m4 := (m4.alloc _).below b64 (Nat.le_refl _)); have m5 := m5.mono (S' := fun _ => True) (fun _ _ _ => trivial) (Nat.le_refl _); obtain ⟨t5, A5, j5, c5, rfl⟩ := m5.form2; have s64 := cb.size)
        | (go_at_call 48; (with_reducible refine (TB.out _ (fun _ => True) (fun _ => True) _ _ ?_ ?_).mono ?_); (first | exact m4 | exact m4.alloc _); (first | exact m5 | exact m5.alloc _); rintro e w65 ⟨v6, rfl, m6, b65⟩; have yx2 : Box w65 (w.heap.size) 23 #[.int .i64 n, .int .i64 d] := (by first | exact (yx2).later b65 | exact (yx2.alloc _).later b65); have kyx2 := yx2.cells; have nex25 := Nat.ne_of_gt yx2.lt; have yx3 : Box w65 (w.heap.size + 1) 23 #[.int .i64 m, .int .i64 e] := (by first | exact (yx3).later b65 | exact (yx3.alloc _).later b65); have kyx3 := yx3.cells; have nex35 := Nat.ne_of_gt yx3.lt; have cb : Below w2.heap.size w2 w65 := (by first | exact cb.trans (b65.mono cb.size) | exact cb.trans ((below_up b65).mono cb.size)); (first | (have z1 := z1.later b65; have kz1 := z1.cells; have fz1 := z1.free) | (have z1 := (Box.new w64 23 #[.int .i64 0, .int .i64 0]).later b65; have kz1 := z1.cells; have fz1 := z1.free) | skip); (first | replace m3 := (m3).below b65 (Nat.le_refl _) | replace m3 := (m3.alloc _).below b65 (Nat.le_refl _)); (first | replace m4 := (m4).below b65 (Nat.le_refl _) | replace m4 := (m4.alloc _).below b65 (Nat.le_refl _)); (first | replace m5 := (m5).below b65 (Nat.le_refl _) | replace m5 := (m5.alloc _).below b65 (Nat.le_refl _)); have m6 := m6.mono (S' := fun _ => True) (fun _ _ _ => trivial) (Nat.le_refl _); obtain ⟨t6, A6, j6, c6, rfl⟩ := m6.form2; have s65 := cb.size)
        | (go_at_call 47; (with_reducible refine (LO.out _ (fun _ => True) (fun _ => True) _ _ ?_ ?_).mono ?_); (first | exact m3 | exact m3.alloc _); (first | exact m6 | exact m6.alloc _); rintro e w66 ⟨rfl, b66⟩; have yx2 : Box w66 (w.heap.size) 23 #[.int .i64 n, .int .i64 d] := (by first | exact (yx2).later b66 | exact (yx2.alloc _).later b66); have kyx2 := yx2.cells; have nex26 := Nat.ne_of_gt yx2.lt; have yx3 : Box w66 (w.heap.size + 1) 23 #[.int .i64 m, .int .i64 e] := (by first | exact (yx3).later b66 | exact (yx3.alloc _).later b66); have kyx3 := yx3.cells; have nex36 := Nat.ne_of_gt yx3.lt; have cb : Below w2.heap.size w2 w66 := (by first | exact cb.trans (b66.mono cb.size) | exact cb.trans ((below_up b66).mono cb.size)); (first | (have z1 := z1.later b66; have kz1 := z1.cells; have fz1 := z1.free) | (have z1 := (Box.new w65 23 #[.int .i64 0, .int .i64 0]).later b66; have kz1 := z1.cells; have fz1 := z1.free) | skip); (first | replace m3 := (m3).below b66 (Nat.le_refl _) | replace m3 := (m3.alloc _).below b66 (Nat.le_refl _)); (first | replace m6 := (m6).below b66 (Nat.le_refl _) | replace m6 := (m6.alloc _).below b66 (Nat.le_refl _)); have s66 := cb.size))
    all_goals (go_wp2_with fail; go_meet)
    all_goals
      have cs := cb.size
      refine ⟨rfl, _, rfl, ?_, ?_⟩
      · repeat' (first | (with_reducible exact z1) | ((with_reducible refine Box.new' ?_); (first | rfl | (simp; done) | (simp [World.setCell]; done))) | (with_reducible refine box2r (a := .int .i64 0) (b := .int .i64 0) ?_ _ _) | (with_reducible refine Box.alloc ?_ _) | (with_reducible refine Box.far' ?_ ?_ _))
        all_goals omega
      · repeat' (with_reducible (first | exact cb | refine Below.alloc ?_ ?_ _ | refine Below.setCell ?_ ?_ _))
        all_goals first | exact cs | omega | (dsimp only; omega) | (simp; omega)
  case rest =>
    obtain ⟨rfl, g6, rfl, x6, bc⟩ := hcut
    obtain ⟨w9, rfl⟩ : ∃ w0 : World, w0 = wc := ⟨_, rfl⟩
    replace x2 := x2.later bc
    replace x3 := x3.later bc
    replace x4 := x4.later bc
    have B3 := B2.trans (bc.mono B2.size)
    clear bc B2
    have k4 := x4.cells
    have l4 := x4.lt
    have f4 := x4.free
    have k6 := x6.cells
    have l6 := x6.lt
    cases q2
    all_goals
      go_wp2
      refine bodyPost_ret (by unfold results; simp only [Tryd.results12]; go_simp; rfl) rfl ?_
      exact ⟨rfl, (B3.setCell (by simp; omega) _).setCell (by simp; omega) _⟩

theorem r4times_any (n d m e : Int) (w : World) :
    Calls Tryd.prog 12 #[.agg #[.int .i64 n, .int .i64 d], .agg #[.int .i64 m, .int .i64 e]] w fun e' w' => e' = .returned (.tuple #[.agg #[.int .i64 (timesI n d m e).1.1, .int .i64 (timesI n d m e).1.2], .int .i64 (timesI n d m e).2]) ∧ Below w.heap.size w w' := by
  rw [← times4_eq]
  unfold times4I
  by_cases h : okR n d = true ∧ okR m e = true
  · rw [if_pos h]
    have := r4times_good n d m e w h.1 h.2 _ (Lib.hid rfl)
    generalize lowestI (n * m) (d * e) = q at *
    obtain ⟨q1, q2⟩ := q
    cases q2 <;> exact this
  · rw [if_neg h]
    exact r4times_bad n d m e w h
end Go.Proofs.YtkdpiikfiodopaaDoor
