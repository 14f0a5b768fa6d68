/-
  Chapter 4 in plain arithmetic: orders and lowest terms.
-/
import Derived.Test.YtkdpiikfiodopaaDoorRc
namespace Go.Proofs.YtkdpiikfiodopaaDoor
open Go.RowKit

theorem gcdI_dvd {n d : Int} (h1 : 1 ≤ n) (h2 : 1 ≤ d) : gcdI n d * (n / gcdI n d) = n ∧ gcdI n d * (d / gcdI n d) = d := by
  unfold gcdI
  have e1 : ((Nat.gcd n.toNat d.toNat : Nat) : Int) ∣ n := by
    have := Int.natCast_dvd_natCast.2 (Nat.gcd_dvd_left n.toNat d.toNat)
    rwa [show ((n.toNat : Nat) : Int) = n by omega] at this
  have e2 : ((Nat.gcd n.toNat d.toNat : Nat) : Int) ∣ d := by
    have := Int.natCast_dvd_natCast.2 (Nat.gcd_dvd_right n.toNat d.toNat)
    rwa [show ((d.toNat : Nat) : Int) = d by omega] at this
  exact ⟨Int.mul_ediv_cancel' e1, Int.mul_ediv_cancel' e2⟩

/-- What the lowest terms of n of d are: coprime, with one factor. -/
theorem lowI_spec {n d : Int} (h1 : 1 ≤ n) (h2 : 1 ≤ d) : ∃ g : Int, 1 ≤ g ∧ n = g * (lowI n d).1 ∧ d = g * (lowI n d).2 ∧ 1 ≤ (lowI n d).1 ∧ 1 ≤ (lowI n d).2 ∧ Nat.gcd (lowI n d).1.toNat (lowI n d).2.toNat = 1 := by
  obtain ⟨g1, g2, g3, e1, e2, e3, e4⟩ := gcdI_spec h1 h2
  obtain ⟨k1, k2⟩ := gcdI_dvd h1 h2
  refine ⟨gcdI n d, g1, k1.symm, k2.symm, e1, e2, ?_⟩
  unfold lowI
  simp only
  have hg : gcdI n d = (Nat.gcd n.toNat d.toNat : Nat) := rfl
  have q1 : (n / gcdI n d).toNat = n.toNat / Nat.gcd n.toNat d.toNat := by
    rw [hg]
    have : n / ((Nat.gcd n.toNat d.toNat : Nat) : Int) = ((n.toNat / Nat.gcd n.toNat d.toNat : Nat) : Int) := by
      rw [Int.natCast_ediv, show ((n.toNat : Nat) : Int) = n by omega]
    rw [this]
    exact Int.toNat_natCast _
  have q2 : (d / gcdI n d).toNat = d.toNat / Nat.gcd n.toNat d.toNat := by
    rw [hg]
    have : d / ((Nat.gcd n.toNat d.toNat : Nat) : Int) = ((d.toNat / Nat.gcd n.toNat d.toNat : Nat) : Int) := by
      rw [Int.natCast_ediv, show ((d.toNat : Nat) : Int) = d by omega]
    rw [this]
    exact Int.toNat_natCast _
  rw [q1, q2]
  exact Nat.gcd_div_gcd_div_gcd_of_pos_left (by omega)

/-- Coprime terms of one rate are the same. -/
theorem terms_unique {p q r s : Nat} (hp : 1 ≤ p) (h1 : Nat.gcd p q = 1) (h2 : Nat.gcd r s = 1) (h : p * s = r * q) : p = r ∧ q = s := by
  have c1 : p ∣ r := Nat.Coprime.dvd_of_dvd_mul_right (k := p) (n := q) (m := r) h1 ⟨s, h.symm⟩
  have c2 : r ∣ p := Nat.Coprime.dvd_of_dvd_mul_right (k := r) (n := s) (m := p) h2 ⟨q, h⟩
  have e : p = r := Nat.dvd_antisymm c1 c2
  refine ⟨e, ?_⟩
  subst e
  exact (Nat.eq_of_mul_eq_mul_left (by omega) h).symm

/-- Two rates have the same lowest terms just when their products crosswise are the same. -/
theorem low_iff {n d m e : Int} (h1 : 1 ≤ n) (h2 : 1 ≤ d) (h3 : 1 ≤ m) (h4 : 1 ≤ e) : lowI n d = lowI m e ↔ n * e = m * d := by
  obtain ⟨g, g1, en, ed, p1, q1, c1⟩ := lowI_spec h1 h2
  obtain ⟨k, k1, em, ee, r1, s1, c2⟩ := lowI_spec h3 h4
  generalize lowI n d = X at *
  generalize lowI m e = Y at *
  obtain ⟨p, q⟩ := X
  obtain ⟨r, s⟩ := Y
  simp only at en ed p1 q1 c1 em ee r1 s1 c2
  have hx : n * e = g * k * (p * s) := by rw [en, ee]; grind
  have hy : m * d = g * k * (r * q) := by rw [em, ed]; grind
  have hgk : g * k ≠ 0 := by
    have := Int.mul_pos (show 0 < g by omega) (show 0 < k by omega)
    omega
  constructor
  · intro h
    injection h with h5 h6
    subst h5 h6
    rw [hx, hy]
  · intro h
    rw [hx, hy] at h
    have h' := Int.eq_of_mul_eq_mul_left hgk h
    have hn : p.toNat * s.toNat = r.toNat * q.toNat := by
      have e1 : ((p.toNat * s.toNat : Nat) : Int) = p * s := by rw [Int.natCast_mul, show ((p.toNat : Nat) : Int) = p by omega, show ((s.toNat : Nat) : Int) = s by omega]
      have e2 : ((r.toNat * q.toNat : Nat) : Int) = r * q := by rw [Int.natCast_mul, show ((r.toNat : Nat) : Int) = r by omega, show ((q.toNat : Nat) : Int) = q by omega]
      omega
    obtain ⟨u1, u2⟩ := terms_unique (by omega) c1 c2 hn
    rw [show p = r by omega, show q = s by omega]
theorem same_iff {n d m e : Int} (h1 : okR n d = true) (h2 : okR m e = true) : sameI n d m e = true ↔ n * e = m * d := by
  obtain ⟨a1, a2, a3, a4⟩ := (okR_iff n d).1 h1
  obtain ⟨b1, b2, b3, b4⟩ := (okR_iff m e).1 h2
  unfold sameI normI
  rw [if_pos h1, if_pos h2, h1, Bool.true_and, ← low_iff a1 a2 b1 b2]
  generalize lowI n d = X
  generalize lowI m e = Y
  obtain ⟨p, q⟩ := X
  obtain ⟨r, s⟩ := Y
  simp
theorem less_iff {n d m e : Int} (h1 : okR n d = true) (h2 : okR m e = true) : lessI n d m e = true ↔ n * e < m * d := by
  unfold lessI
  rw [h1, h2]
  simp
theorem lowI_ok {n d : Int} (h : okR n d = true) : okR (lowI n d).1 (lowI n d).2 = true ∧ okR (lowI d n).1 (lowI d n).2 = true := by
  obtain ⟨a1, a2, a3, a4⟩ := (okR_iff n d).1 h
  obtain ⟨g1, g2, g3, e1, e2, e3, e4⟩ := gcdI_spec a1 a2
  obtain ⟨g1', g2', g3', e1', e2', e3', e4'⟩ := gcdI_spec a2 a1
  constructor
  · exact (okR_iff _ _).2 ⟨e1, e2, by unfold lowI; simp only; omega, by unfold lowI; simp only; omega⟩
  · exact (okR_iff _ _).2 ⟨e1', e2', by unfold lowI; simp only; omega, by unfold lowI; simp only; omega⟩
/-- The inverses stand the other way round. -/
theorem inv_cross {n d m e : Int} (h1 : okR n d = true) (h2 : okR m e = true) :
    ((lowI e m).1 * (lowI d n).2 < (lowI d n).1 * (lowI e m).2 ↔ n * e < m * d) ∧ ((lowI d n).1 * (lowI e m).2 = (lowI e m).1 * (lowI d n).2 ↔ n * e = m * d) := by
  obtain ⟨a1, a2, a3, a4⟩ := (okR_iff n d).1 h1
  obtain ⟨b1, b2, b3, b4⟩ := (okR_iff m e).1 h2
  obtain ⟨g, g1, ed, en, p1, q1, c1⟩ := lowI_spec a2 a1
  obtain ⟨k, k1, ee, em, r1, s1, c2⟩ := lowI_spec b2 b1
  generalize lowI d n = X at *
  generalize lowI e m = Y at *
  obtain ⟨p, q⟩ := X
  obtain ⟨r, s⟩ := Y
  simp only at en ed p1 q1 c1 em ee r1 s1 c2 ⊢
  have hgk : 0 < g * k := Int.mul_pos (by omega) (by omega)
  have hx : n * e = g * k * (r * q) := by rw [en, ee]; grind
  have hy : m * d = g * k * (p * s) := by rw [em, ed]; grind
  rw [hx, hy]
  constructor
  · exact ⟨fun h => Int.mul_lt_mul_of_pos_left h hgk, fun h => Int.lt_of_mul_lt_mul_left h (by omega)⟩
  · exact ⟨fun h => by rw [h], fun h => (Int.eq_of_mul_eq_mul_left (by omega) h).symm⟩
theorem less_trans {n d m e l f : Int} (h1 : okR n d = true) (h2 : okR m e = true) (h3 : okR l f = true) (h4 : n * e < m * d) (h5 : m * f < l * e) : n * f < l * d := by
  obtain ⟨a1, a2, a3, a4⟩ := (okR_iff n d).1 h1
  obtain ⟨b1, b2, b3, b4⟩ := (okR_iff m e).1 h2
  obtain ⟨c1, c2, c3, c4⟩ := (okR_iff l f).1 h3
  have k1 : n * e * f < m * d * f := Int.mul_lt_mul_of_pos_right h4 (by omega)
  have k2 : m * f * d < l * e * d := Int.mul_lt_mul_of_pos_right h5 (by omega)
  have k3 : e * (n * f) < e * (l * d) := by
    have e1 : e * (n * f) = n * e * f := by grind
    have e2 : e * (l * d) = l * e * d := by grind
    have e3 : m * d * f = m * f * d := by grind
    omega
  exact Int.lt_of_mul_lt_mul_left k3 (by omega)
end Go.Proofs.YtkdpiikfiodopaaDoor
