/-
  bits: the document's Rising, Put; what a call does by the document; Put at no set.
-/
import Derived.Test.YtgilmpakdohijaaDoorBiE
import Derived.Test.YtgilmpakdohijaaDoorBiF
namespace Go.Proofs.YtgilmpakdohijaaDoor
open Go.RowKit

theorem withR_le {n : Int} : ∀ l : List Int, (withR l n).length ≤ l.length + 1
  | [] => by simp [withR]
  | x :: r => by
    have ih := withR_le (n := n) r
    unfold withR
    repeat' split
    all_goals simp
    all_goals omega
theorem risF_le (l : List Int) : (risF l).length ≤ l.length := by
  unfold risF
  suffices h : ∀ (l a : List Int), (l.foldl withR a).length ≤ a.length + l.length by simpa using h l []
  intro l
  induction l with
  | nil => intro a; simp
  | cons x r ih =>
    intro a
    rw [List.foldl_cons, List.length_cons]
    have h1 := ih (withR a x)
    have h2 := withR_le (n := x) a
    omega
set_option maxRecDepth 100000 in
set_option maxHeartbeats 2000000 in
theorem rrising_any {A : Option Addr} {c : Nat} {l : List Int} {w : World} (hl : l.length ≤ 1000000) (hr : RowAt w A (ivals l)) :
    Calls Tryd.prog 11 #[.slice A l.length c] w (fun e w' => ∃ A' c', e = .returned (.slice A' (risF l).length c') ∧ (risF l).length ≤ c' ∧ c' ≤ maxLen ∧ RowAt w' A' (ivals (risF l)) ∧ Below w.heap.size w w') := by
  have WI := Lib.hid fun (A : Option Addr) (c : Nat) (l : List Int) (w : World) (n : Int) h1 h2 h3 h4 => rwith_any (A := A) (c := c) (l := l) (w := w) n h1 h2 h3 h4
  have HR := Lib.hid hr
  clear hr
  go_enter Tryd.func11, Tryd.ntmps11
  go_wp2
  go_loopw [3, 4] (fun o t wr => ∃ (k : Nat) (A' : Option Addr) (c' : Nat), k ≤ l.length ∧ o = .slice A' (risF (l.take k)).length c' ∧ t = .int .i64 k ∧ (risF (l.take k)).length ≤ c' ∧ c' ≤ maxLen ∧ RowAt wr A' (ivals (risF (l.take k))) ∧ Below w.heap.size w wr)
    (fun _ t _ => l.length - (intOf t).toNat)
  case atStart => exact ⟨0, none, 0, by omega, rfl, rfl, by simp [risF], by unfold maxLen; omega, RowAt.nil _ _, Below.refl _ _⟩
  case round =>
    obtain ⟨k, A', c', hk, rfl, rfl, hlc, hmx, hrow, hb⟩ := hrel
    by_cases hkn : k < l.length
    · obtain ⟨g0, o0, rfl, hg0, hc0⟩ := (HR.out.below hb (Nat.le_refl _)) (by rw [ivals_len]; omega)
      have hcl : wr.cell? ⟨g0, o0 + k, none⟩ = some (.int .i64 l[k]) := hc0 k _ (by simp [ivals, hkn])
      have hst : Hid (risF (l.take (k + 1)) = withR (risF (l.take k)) l[k]) := by
        show _ = _
        unfold risF
        rw [List.take_succ_eq_append_getElem hkn, List.foldl_append]; rfl
      have hlen := risF_le (l.take k)
      rw [List.length_take] at hlen
      clear hc0
      generalize l[k] = x at *
      generalize risF (l.take k) = out at *
      have CK := Lib.hid (WI.out A' c' out wr x (by omega) hlc hmx hrow)
      clear hrow
      go_wp2_with fail
      refine CK.out.mono ?_
      rintro e w2 ⟨A2, c2, rfl, hl2, hm2, hr2, hb2, _⟩
      have hb3 := hb.trans (hb2.mono hb.size)
      rw [← hst.out] at hl2 hr2 ⊢
      clear hst
      go_wp2
      go_roundw
      case rel => exact ⟨k + 1, A2, c2, by omega, rfl, by go_num, hl2, hm2, hr2, hb3⟩
      case measure => simp [intOf]; omega
    · obtain rfl : k = l.length := by omega
      rw [List.take_length] at hlc hrow ⊢
      go_wp2
      go_ret
      exact ⟨A', c', rfl, hlc, hmx, hrow, hb⟩
/-- A row of numbers and a code as results. -/
def RefP (A : Option Addr) (L : List Int) (r : Int) (w : World) (e : Ending) (w' : World) : Prop := ∃ A' c', e = .returned (.tuple #[.slice A' L.length c', .int .i64 r]) ∧ L.length ≤ c' ∧ c' ≤ maxLen ∧ RowAt w' A' (ivals L) ∧ Below w.heap.size w w' ∧ NewA w w' A A'
theorem NewA.pre {w W W' : World} {A A' : Option Addr} (h : NewA W W' A A') (hb : Below w.heap.size w W) : NewA w W' A A' := h.imp_right fun k b off he => ⟨Nat.le_trans hb.size (k b off he).1, (k b off he).2⟩
section
variable {A : Option Addr} {c : Nat} {l : List Int} {w : World}
set_option maxHeartbeats 1000000 in
theorem rput_new (n : Int) (hl : l.length ≤ 1000000) (hlc : l.length ≤ c) (hcm : c ≤ maxLen) (hr : RowAt w A (ivals l)) (hin : ¬ (n < 0 ∨ 65536 ≤ n)) (hm : ¬ n ∈ l) : Calls Tryd.prog 30 #[.slice A l.length c, .int .i64 n] w (RefP A (withR l n) 0 w) := by
  have HA := has_any (c := c) (n := n) (by unfold maxLen; omega) hr
  rw [decide_eq_false hm] at HA
  replace HA := Lib.hid HA
  have WI := Lib.hid (rwith_any n hl hlc hcm hr)
  have hd : decide (n < 0) = false := decide_eq_false (by omega)
  have hd2 : decide (65535 < n) = false := decide_eq_false (by omega)
  clear hin hm
  go_enter Tryd.func30, Tryd.ntmps30
  go_wp2_with fail
  refine HA.out.mono ?_
  rintro e _ ⟨rfl, rfl⟩
  go_wp2_with fail
  refine WI.out.mono ?_
  rintro e w2 ⟨A2, c2, rfl, h2⟩
  go_wp2
  go_ret2
  exact ⟨A2, c2, rfl, h2⟩
theorem rput_any (n : Int) (hl : l.length ≤ 1000000) (hlc : l.length ≤ c) (hcm : c ≤ maxLen) (hr : RowAt w A (ivals l)) : Calls Tryd.prog 30 #[.slice A l.length c, .int .i64 n] w (RefP A (doL l 0 n) (doE l 0 n) w) := by
  unfold doL doE putL
  rw [if_pos rfl, if_pos rfl]
  by_cases h : n < 0 ∨ 65536 ≤ n
  · rw [if_pos h, if_pos h]
    refine (rput_out n h).mono ?_
    rintro e _ ⟨rfl, rfl⟩
    exact ⟨A, c, rfl, hlc, hcm, hr, Below.refl _ _, .inl rfl⟩
  · rw [if_neg h, if_neg h]
    by_cases h2 : n ∈ l
    · rw [if_pos h2, if_pos h2]
      refine (rput_has n hl hr h h2).mono ?_
      rintro e _ ⟨rfl, rfl⟩
      exact ⟨A, c, rfl, hlc, hcm, hr, Below.refl _ _, .inl rfl⟩
    · rw [if_neg h2, if_neg h2]
      exact rput_new n hl hlc hcm hr h h2
theorem rdrop_all (n : Int) (hl : l.length ≤ 1000000) (hlc : l.length ≤ c) (hcm : c ≤ maxLen) (hr : RowAt w A (ivals l)) (hi : InR l) : Calls Tryd.prog 31 #[.slice A l.length c, .int .i64 n] w (RefP A (doL l 1 n) (doE l 1 n) w) := by
  unfold doL doE
  rw [if_neg (by decide), if_pos rfl, if_neg (by decide), if_pos rfl]
  by_cases h : n < 0 ∨ 65536 ≤ n
  · rw [if_pos h, filter_no (fun hm => by have := hi n hm; omega)]
    refine (rdrop_out n h).mono ?_
    rintro e _ ⟨rfl, rfl⟩
    exact ⟨A, c, rfl, hlc, hcm, hr, Below.refl _ _, .inl rfl⟩
  · rw [if_neg h]
    refine (rdrop_any n hl hlc hcm hr h).mono ?_
    rintro e w' ⟨A', c', rfl, h1, h2, h3, h4, h5⟩
    have he : (if n ∈ l then l.filter fun y => y != n else l) = l.filter fun y => !decide (y = n) := by
      by_cases hm : n ∈ l
      · rw [if_pos hm]; rfl
      · rw [if_neg hm, filter_no hm]
    rw [he] at h1 h3 ⊢
    exact ⟨A', c', rfl, h1, h2, h3, h4, h5⟩
set_option maxRecDepth 100000 in
set_option maxHeartbeats 2000000 in
theorem refdo_any (k n : Int) (hl : l.length ≤ 1000000) (hlc : l.length ≤ c) (hcm : c ≤ maxLen) (hr : RowAt w A (ivals l)) (hi : InR l) : Calls Tryd.prog 20 #[.slice A l.length c, .agg #[.int .i64 k, .int .i64 n]] w (RefP A (doL l k n) (doE l k n) w) := by
  obtain ⟨o, ho⟩ : ∃ o : Obj, o = .cells #[.int .i64 k, .int .i64 n] 39 := ⟨_, rfl⟩
  have hB1 : Below w.heap.size w (w.alloc o) := (Below.refl _ w).alloc (Nat.le_refl _) _
  have PU := Lib.hid (rput_any n hl hlc hcm (hr.alloc o))
  have DR := Lib.hid (rdrop_all n hl hlc hcm (hr.alloc o) hi)
  subst ho
  by_cases h0 : k = 0
  · subst h0
    generalize doL l 0 n = L at *
    generalize doE l 0 n = r at *
    clear DR
    go_enter Tryd.func20, Tryd.ntmps20
    go_wp2_with fail
    refine PU.out.mono ?_
    rintro e w2 ⟨A2, c2, rfl, h2, h3, h4, h5, h8⟩
    have h6 := hB1.trans (h5.mono hB1.size)
    clear PU
    go_wp2
    go_ret2
    exact ⟨A2, c2, rfl, h2, h3, h4, h6, h8.pre hB1⟩
  · have k0 : (k == 0) = false := by simpa using h0
    by_cases h1 : k = 1
    · subst h1
      generalize doL l 1 n = L at *
      generalize doE l 1 n = r at *
      clear PU
      go_enter Tryd.func20, Tryd.ntmps20
      go_wp2_with fail
      refine DR.out.mono ?_
      rintro e w2 ⟨A2, c2, rfl, h2, h3, h4, h5, h8⟩
      have h6 := hB1.trans (h5.mono hB1.size)
      clear DR
      go_wp2
      go_ret2
      exact ⟨A2, c2, rfl, h2, h3, h4, h6, h8.pre hB1⟩
    · have k1 : (k == 1) = false := by simpa using h1
      unfold doL doE
      rw [if_neg h0, if_neg h0, if_neg h1, if_neg h1]
      clear PU DR
      go_enter Tryd.func20, Tryd.ntmps20
      go_wp2
      go_ret2
      exact ⟨none, 0, rfl, Nat.le_refl _, by unfold maxLen; omega, RowAt.nil _ _, hB1, .inr fun b off h => by cases h⟩
end
set_option maxHeartbeats 1000000 in
theorem bput_nil (n : Int) (w : World) : Calls Tryd.prog 21 #[.pointer none, .int .i64 n] w fun e w' => e = .returned (.int .i64 1) ∧ w = w' := by
  have WY := Lib.hid fun n w => bwhy_nil n w
  go_enter Tryd.func21, Tryd.ntmps21
  go_wp2_with fail
  refine (WY.out _ _).mono ?_
  rintro e _ ⟨rfl, rfl⟩
  go_wp2
  go_ret
  exact ⟨rfl, rfl⟩
end Go.Proofs.YtgilmpakdohijaaDoor
