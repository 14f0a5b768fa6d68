/-
  Chapter 4 in plain arithmetic: the product in lowest terms, crosswise or at once.
-/
import Derived.Test.YtkdpiikfiodopaaDoorRf
namespace Go.Proofs.YtkdpiikfiodopaaDoor
open Go.RowKit

theorem lowI_low' {n d : Int} (hg : Nat.gcd n.toNat d.toNat = 1) : lowI n d = (n, d) := by
  unfold lowI gcdI
  rw [hg]
  simp
theorem lowI_of {n d g p q : Int} (hg : 1 ≤ g) (p1 : 1 ≤ p) (q1 : 1 ≤ q) (hn : n = g * p) (hd : d = g * q) (hc : Nat.gcd p.toNat q.toNat = 1) : lowI n d = (p, q) := by
  have h1 : 1 ≤ n := by rw [hn]; exact Int.mul_pos (by omega) (by omega)
  have h2 : 1 ≤ d := by rw [hd]; exact Int.mul_pos (by omega) (by omega)
  rw [(low_iff h1 h2 p1 q1).2 (by rw [hn, hd]; grind), lowI_low' hc]
theorem toNat_mul' {a b : Int} (ha : 1 ≤ a) (hb : 1 ≤ b) : (a * b).toNat = a.toNat * b.toNat := by
  have h : ((a.toNat * b.toNat : Nat) : Int) = a * b := by rw [Int.natCast_mul, show ((a.toNat : Nat) : Int) = a by omega, show ((b.toNat : Nat) : Int) = b by omega]
  omega
theorem times_low {n d m e : Int} (h1 : okR n d = true) (h2 : okR m e = true) :
    lowI (n * m) (d * e) = ((tmX n d m e).1 * (tmY n d m e).1, (tmX n d m e).2 * (tmY n d m e).2) := by
  obtain ⟨a1, a2, a3, a4⟩ := (okR_iff n d).1 h1
  obtain ⟨b1, b2, b3, b4⟩ := (okR_iff m e).1 h2
  have o1 := (lowI_ok h1).1
  have o2 := (lowI_ok h2).1
  obtain ⟨g, g1, en, ed, p1, q1, c1⟩ := lowI_spec a1 a2
  obtain ⟨k, k1, em, ee, r1, s1, c2⟩ := lowI_spec b1 b2
  unfold tmX tmY
  rw [show normI n d = lowI n d from if_pos h1, show normI m e = lowI m e from if_pos h2]
  generalize lowI n d = A at *
  generalize lowI m e = B at *
  obtain ⟨p, q⟩ := A
  obtain ⟨r, s⟩ := B
  simp only at *
  have o3 : okR p s = true := by
    have := (okR_iff _ _).1 o1
    have := (okR_iff _ _).1 o2
    exact (okR_iff _ _).2 (by omega)
  have o4 : okR r q = true := by
    have := (okR_iff _ _).1 o1
    have := (okR_iff _ _).1 o2
    exact (okR_iff _ _).2 (by omega)
  rw [show normI p s = lowI p s from if_pos o3, show normI r q = lowI r q from if_pos o4]
  obtain ⟨u, u1, ep, es, x1, x2, c3⟩ := lowI_spec p1 s1
  obtain ⟨v, v1, er, eq, y1, y2, c4⟩ := lowI_spec r1 q1
  generalize lowI p s = X at *
  generalize lowI r q = Y at *
  obtain ⟨X1, X2⟩ := X
  obtain ⟨Y1, Y2⟩ := Y
  simp only at *
  have m1 : 1 ≤ X1 * Y1 := Int.mul_pos (by omega) (by omega)
  have m2 : 1 ≤ X2 * Y2 := Int.mul_pos (by omega) (by omega)
  have G : 1 ≤ g * k * (u * v) := Int.mul_pos (Int.mul_pos (by omega) (by omega)) (Int.mul_pos (by omega) (by omega))
  refine lowI_of G m1 m2 (by rw [en, em, ep, er]; grind) (by rw [ed, ee, eq, es]; grind) ?_
  rw [toNat_mul' x1 y1, toNat_mul' x2 y2]
  have d1 : X1.toNat ∣ p.toNat := ⟨u.toNat, by rw [ep, toNat_mul' u1 x1, Nat.mul_comm]⟩
  have d2 : X2.toNat ∣ s.toNat := ⟨u.toNat, by rw [es, toNat_mul' u1 x2, Nat.mul_comm]⟩
  have d3 : Y1.toNat ∣ r.toNat := ⟨v.toNat, by rw [er, toNat_mul' v1 y1, Nat.mul_comm]⟩
  have d4 : Y2.toNat ∣ q.toNat := ⟨v.toNat, by rw [eq, toNat_mul' v1 y2, Nat.mul_comm]⟩
  have e1 : Nat.Coprime X1.toNat Y2.toNat := (Nat.Coprime.coprime_dvd_left d1 (Nat.Coprime.coprime_dvd_right d4 c1))
  have e2 : Nat.Coprime Y1.toNat X2.toNat := (Nat.Coprime.coprime_dvd_left d3 (Nat.Coprime.coprime_dvd_right d2 c2))
  exact Nat.Coprime.mul_left (Nat.Coprime.mul_right c3 e1) (Nat.Coprime.mul_right e2 c4)
def times4I (n d m e : Int) : (Int × Int) × Int := if okR n d = true ∧ okR m e = true then (if (lowestI (n * m) (d * e)).2 = true then ((lowestI (n * m) (d * e)).1, 0) else ((0, 0), 10)) else ((0, 0), 11)
theorem times4_eq (n d m e : Int) : times4I n d m e = timesI n d m e := by
  unfold times4I timesI
  by_cases h : okR n d = true ∧ okR m e = true
  · rw [if_pos h, if_pos h]
    have hl := times_low h.1 h.2
    have f1 : n * m / gcdI (n * m) (d * e) = (tmX n d m e).1 * (tmY n d m e).1 := congrArg Prod.fst hl
    have f2 : d * e / gcdI (n * m) (d * e) = (tmX n d m e).2 * (tmY n d m e).2 := congrArg Prod.snd hl
    unfold lowestI
    rw [f1, f2]
    split <;> simp
  · rw [if_neg h, if_neg h]
end Go.Proofs.YtkdpiikfiodopaaDoor
