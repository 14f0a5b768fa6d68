/-
  bits: the document's Drop.
-/
import Derived.Test.YtgilmpakdohijaaDoorBiC
namespace Go.Proofs.YtgilmpakdohijaaDoor
open Go.RowKit

/-- A row is what it was, or new. -/
def NewA (w w' : World) (A A' : Option Addr) : Prop := A' = A ∨ ∀ b off, A' = some ⟨b, off, none⟩ → w.heap.size ≤ b ∧ b < w'.heap.size
theorem NewA.of_own {w w' : World} {A A' : Option Addr} {base e n c : Nat} {xs : List Value} (h : w'.ownsRow base e 1 (.slice A' n c) n xs) (hb : w.heap.size ≤ base) : NewA w w' A A' := .inr fun b off he => by
  subst he
  have := h.lt b rfl
  omega
def RdropP (A : Option Addr) (l : List Int) (n : Int) (w : World) (e : Ending) (w' : World) : Prop :=
  ∃ A' c', e = .returned (.tuple #[.slice A' (if n ∈ l then l.filter fun y => y != n else l).length c', .int .i64 (if n ∈ l then 0 else 35)]) ∧ (if n ∈ l then l.filter fun y => y != n else l).length ≤ c' ∧ c' ≤ maxLen ∧ RowAt w' A' (ivals (if n ∈ l then l.filter fun y => y != n else l)) ∧ Below w.heap.size w w' ∧ NewA w w' A A'
set_option maxRecDepth 100000 in
set_option maxHeartbeats 2000000 in
theorem rdrop_any {A : Option Addr} {c : Nat} {l : List Int} {w : World} (n : Int) (hl : l.length ≤ 1000000) (hlc0 : l.length ≤ c) (hcm0 : c ≤ maxLen) (hr : RowAt w A (ivals l)) (hin : ¬ (n < 0 ∨ 65536 ≤ n)) :
    Calls Tryd.prog 31 #[.slice A l.length c, .int .i64 n] w (RdropP A l n w) := by
  obtain ⟨i0, hi, hz0, hz1, hz2⟩ := info_parts Tryd.infoInt'
  obtain ⟨p, hp⟩ : ∃ p : Int → Bool, p = fun x => x != n := ⟨_, rfl⟩
  have hpi : Hid (∀ x, (x != n) = p x) := fun x => by rw [hp]
  have hin1 : decide (n < 0) = false := decide_eq_false (by omega)
  have hin2 : decide (65535 < n) = false := decide_eq_false (by omega)
  have hfin : Hid (n ∈ l → (l.filter p).length < l.length) := fun h => by
    rcases Nat.lt_or_ge (l.filter p).length l.length with h1 | h1
    · exact h1
    · have h2 := List.filter_eq_self.1 ((List.filter_sublist (p := p) (l := l)).eq_of_length_le h1) n h
      rw [hp] at h2
      simp at h2
  have hfin2 : Hid (¬ n ∈ l → l.filter p = l) := fun h => List.filter_eq_self.2 fun y hy => by
    rw [hp]
    simp
    rintro rfl
    exact h hy
  have hsame : Hid ((l.filter fun y => y != n) = l.filter p) := by show _ = _; rw [hp]
  clear hp hin
  have HR := Lib.hid hr
  clear hr
  go_enter Tryd.func31, Tryd.ntmps31
  go_wp2
  go_loopw [6, 7] (fun o t wr => ∃ (k : Nat) (A' : Option Addr) (c' : Nat), k ≤ l.length ∧ o = .slice A' ((l.take k).filter p).length c' ∧ t = .int .i64 k ∧ ((l.take k).filter p).length ≤ c' ∧ c' ≤ maxLen ∧ wr.ownsRow w.heap.size 3 1 (.slice A' ((l.take k).filter p).length c') ((l.take k).filter p).length (ivals ((l.take k).filter p)) ∧ Below w.heap.size w wr)
    (fun _ t _ => l.length - (intOf t).toNat)
  case atStart => exact ⟨0, none, 0, by omega, rfl, rfl, by simp, by unfold maxLen; omega, World.ownsRow_nil _ _ _ _, Below.refl _ _⟩
  case round =>
    obtain ⟨k, A', c', hk, rfl, rfl, hlc, hmx, hown, hb⟩ := hrel
    by_cases hkn : k < l.length
    · obtain ⟨g0, o0, rfl, hg0, hc0⟩ := (HR.out.below hb (Nat.le_refl _)) (by rw [ivals_len]; omega)
      have hcl : wr.cell? ⟨g0, o0 + k, none⟩ = some (.int .i64 l[k]) := hc0 k _ (by simp [ivals, hkn])
      have hst := ft_snoc p hkn
      have hlen := ft_len p l k hk
      have hpk := hpi.out l[k]
      clear hc0
      generalize l[k] = x at *
      generalize (l.take k).filter p = out at *
      have hsz := hb.size
      have hN : out.length + 1 ≤ 1099511627776 := by omega
      cases hq : p x
      · rw [hq] at hst
        rw [if_neg (by decide), List.append_nil] at hst
        replace hst := Lib.hid hst
        rw [hq] at hpk
        have hne := hpk
        go_wp2
        go_roundw
        case rel => exact ⟨k + 1, A', c', by omega, by rw [hst.out], by go_num, by rw [hst.out]; exact hlc, hmx, by rw [hst.out]; exact hown, hb⟩
        case measure => simp [intOf]; omega
      · rw [hq] at hst
        rw [if_pos rfl] at hst
        replace hst := Lib.hid hst
        rw [hq] at hpk
        have hne := hpk
        go_wp2_with (at_builtin; refine wpList_append_int rfl _ _ 22 rfl w.heap.size 3 i0 Tryd.underlying22 hi hz0 hz1 hz2 _ _ _ rfl hown x rfl hN hsz ?_)
        intro g3' c3 w4 hown4 hr4 hc3 hm3 hg3 hg3' hsz3
        have hb4 := hb.grown hr4 hsz (fun k hk => (hown.lt k hk).1)
        clear hown hr4 hb
        go_wp2
        go_roundw
        case rel => exact ⟨k + 1, some ⟨g3', 0, none⟩, c3, by omega, by rw [hst.out]; simp, by go_num, by rw [hst.out]; simp; exact hc3, hm3, by rw [hst.out, ivals_append, List.length_append]; exact hown4, hb4⟩
        case measure => simp [intOf]; omega
    · obtain rfl : k = l.length := by omega
      rw [List.take_length] at hlc hown ⊢
      by_cases hm : n ∈ l
      · have h1 := hfin.out hm
        generalize hF : l.filter p = F at *
        have hd : ((F.length : Int) == (l.length : Int)) = false := by simp; omega
        go_wp2
        go_ret2
        unfold RdropP
        rw [if_pos hm, hsame.out, if_pos hm]
        exact ⟨A', c', rfl, hlc, hmx, RowAt.of_own hown, hb, NewA.of_own hown (Nat.le_refl _)⟩
      · have h1 := hfin2.out hm
        rw [h1] at hlc hown ⊢
        have hd : ((l.length : Int) == (l.length : Int)) = true := by simp
        go_wp2
        go_ret2
        unfold RdropP
        rw [if_neg hm, if_neg hm]
        exact ⟨A, c, rfl, hlc0, hcm0, HR.out.below hb (Nat.le_refl _), hb, .inl rfl⟩
end Go.Proofs.YtgilmpakdohijaaDoor
