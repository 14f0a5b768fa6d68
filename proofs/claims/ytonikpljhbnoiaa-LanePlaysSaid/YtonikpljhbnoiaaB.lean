/-
  The statements' own example, awake, returns true and leaves what was there as it was; no condition.
-/
import Derived.Test.YtonikpljhbnoiaaA
namespace Go.Proofs.Ytonikpljhbnoiaa
open Go.RowKit Go.Conc

theorem new_in (w : World) (n : Nat) (h1 : 1 ≤ n) (h2 : n ≤ 1000) :
    Calls Try.prog 7 #[.int .i64 n] w fun e w' => ∃ g c, e = .returned (.tuple #[.pointer (some ⟨g, 0, none⟩), .int .i64 0]) ∧ QAt w' 58 g c n [] ∧ w.heap.size ≤ g ∧ w.heap.size ≤ c ∧ Below w.heap.size w w' :=
  (new_yes w n h1 h2).mono fun e w' ⟨a, b, c, _⟩ => ⟨_, _, a, b, by omega, by omega, c⟩
theorem snew_in (w : World) (n : Nat) (h1 : 1 ≤ n) (h2 : n ≤ 1000) :
    Calls Try.prog 13 #[.int .i64 n] w fun e w' => ∃ g c, e = .returned (.tuple #[.pointer (some ⟨g, 0, none⟩), .int .i64 0]) ∧ QAt w' 64 g c n [] ∧ w.heap.size ≤ g ∧ w.heap.size ≤ c ∧ Below w.heap.size w w' :=
  (snew_yes w n h1 h2).mono fun e w' ⟨a, b, c, _⟩ => ⟨_, _, a, b, by omega, by omega, c⟩

set_option maxRecDepth 100000 in
set_option maxHeartbeats 2000000 in
theorem awake_any (w : World) :
    Calls Try.prog 6 #[] w fun e w' => e = .returned (.bool true) ∧ Below w.heap.size w w' := by
  go_enter Try.func6, Try.ntmps6
  go_wp2_with fail
  refine (new_in _ 1 (by omega) (by omega)).mono ?_
  rintro e w1 ⟨g, c, rfl, hq, hg1, hc1, hb⟩
  have hql := hq.lt
  go_wp2_with fail
  refine (new_in _ 2 (by omega) (by omega)).mono ?_
  rintro e w2 ⟨g', c', rfl, hp, hg2, hc2, hb2⟩
  have hq := hq.below hb2 (by omega) (by omega)
  have hb := hb.trans (hb2.mono (by omega))
  clear hb2
  have hne : c ≠ c' := by omega
  have hbs := hb.size
  go_wp2_with fail
  refine (put_yes _ _ _ _ _ _ hq (by simp)).mono ?_
  rintro e w3 ⟨rfl, hq3, hr⟩
  have hp := hp.grown hq hr (Ne.symm hne)
  have hb := hb.grown hr (by omega) (by simp; omega)
  have hbs := hb.size
  clear hq hr
  go_wp2_with fail
  refine (put_full _ _ _ _ _ _ hq3 (by simp)).mono ?_
  rintro e w' ⟨rfl, rfl⟩
  go_wp2_with fail
  refine (put_yes _ _ _ _ _ _ hp (by simp)).mono ?_
  rintro e w4 ⟨rfl, hp3, hr⟩
  have hq4 := hq3.grown hp hr hne
  have hb := hb.grown hr (by omega) (by simp; omega)
  have hbs := hb.size
  clear hq3 hp hr
  go_wp2_with fail
  refine (len_any _ _ _ _ _ hq4).mono ?_
  rintro e w' ⟨rfl, rfl⟩
  go_wp2_with fail
  refine (either_fst _ _ _ _ _ _ _ hq4).mono ?_
  rintro e w5 ⟨rfl, hq5, hr⟩
  have hp5 := hp3.grown hq4 hr (Ne.symm hne)
  have hb := hb.grown hr (by omega) (by simp; omega)
  have hbs := hb.size
  clear hq4 hp3 hr
  go_wp2_with fail
  refine (either_snd _ _ _ _ _ _ _ _ _ hq5 hp5).mono ?_
  rintro e w6 ⟨rfl, hp6, hr⟩
  have hq6 := hq5.grown hp5 hr hne
  have hb := hb.grown hr (by omega) (by simp; omega)
  have hbs := hb.size
  clear hq5 hp5 hr
  go_wp2_with fail
  refine (either_none _ _ _ _ _ _ _ hq6 hp6).mono ?_
  rintro e w' ⟨rfl, rfl⟩
  go_wp2_with fail
  refine (new_no _ 0 (by omega)).mono ?_
  rintro e w' ⟨rfl, rfl⟩
  go_wp2_with fail
  refine (take_nil _).mono ?_
  rintro e w' ⟨rfl, rfl⟩
  go_wp2_with fail
  refine (put_nil _ _).mono ?_
  rintro e w' ⟨rfl, rfl⟩
  go_wp2_with fail
  refine (room_any _ _ _ _ _ hp6).mono ?_
  rintro e w' ⟨rfl, rfl⟩
  go_wp2_with fail
  refine (len_any _ _ _ _ _ hp6).mono ?_
  rintro e w' ⟨rfl, rfl⟩
  go_wp2_with fail
  go_ret
  exact ⟨rfl, hb⟩
end Go.Proofs.Ytonikpljhbnoiaa
