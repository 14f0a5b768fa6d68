/-
  bits: the document's Both.
-/
import Derived.Test.YtgilmpakdohijaaDoorBiB
import Derived.Test.YtgilmpakdohijaaDoorHas
namespace Go.Proofs.YtgilmpakdohijaaDoor
open Go.RowKit

theorem ft_snoc (p : Int → Bool) {l : List Int} {k : Nat} (hk : k < l.length) : (l.take (k + 1)).filter p = (l.take k).filter p ++ if p l[k] = true then [l[k]] else [] := by
  rw [List.take_succ_eq_append_getElem hk, List.filter_append, List.filter_cons, List.filter_nil]
theorem ft_len (p : Int → Bool) (l : List Int) (k : Nat) (hk : k ≤ l.length) : ((l.take k).filter p).length ≤ k := by
  have h := List.length_filter_le p (l.take k)
  rw [List.length_take] at h
  omega
set_option maxRecDepth 100000 in
set_option maxHeartbeats 2000000 in
theorem rboth_any {A A1 : Option Addr} {c c1 : Nat} {l m : List Int} {w : World} (hl : l.length ≤ 1000000) (hm : m.length ≤ 1000000) (hr : RowAt w A (ivals l)) (hr1 : RowAt w A1 (ivals m)) :
    Calls Tryd.prog 12 #[.slice A l.length c, .slice A1 m.length c1] w (NewRow (l.filter fun x => decide (x ∈ m)) w) := by
  obtain ⟨i0, hi, hz0, hz1, hz2⟩ := info_parts Tryd.infoInt'
  have HA := Lib.hid fun (x : Int) (w : World) (h : RowAt w A1 (ivals m)) => has_any (c := c1) (n := x) (by unfold maxLen; omega) h
  obtain ⟨p, hp⟩ : ∃ p : Int → Bool, p = fun x => decide (x ∈ m) := ⟨_, rfl⟩
  rw [← hp]
  have hpi : Hid (∀ x, decide (x ∈ m) = p x) := fun x => by rw [hp]
  clear hp
  have HR := Lib.hid hr
  have HR1 := Lib.hid hr1
  clear hr hr1
  go_enter Tryd.func12, Tryd.ntmps12
  go_wp2
  go_loopw [5, 6] (fun o t wr => ∃ (k : Nat) (A' : Option Addr) (c' : Nat), k ≤ l.length ∧ o = .slice A' ((l.take k).filter p).length c' ∧ t = .int .i64 k ∧ ((l.take k).filter p).length ≤ c' ∧ c' ≤ maxLen ∧ wr.ownsRow w.heap.size 3 1 (.slice A' ((l.take k).filter p).length c') ((l.take k).filter p).length (ivals ((l.take k).filter p)) ∧ Below w.heap.size w wr)
    (fun _ t _ => l.length - (intOf t).toNat)
  case atStart => exact ⟨0, none, 0, by omega, rfl, rfl, by simp, by unfold maxLen; omega, World.ownsRow_nil _ _ _ _, Below.refl _ _⟩
  case round =>
    obtain ⟨k, A', c', hk, rfl, rfl, hlc, hmx, hown, hb⟩ := hrel
    by_cases hkn : k < l.length
    · obtain ⟨g0, o0, rfl, hg0, hc0⟩ := (HR.out.below hb (Nat.le_refl _)) (by rw [ivals_len]; omega)
      have hcl : wr.cell? ⟨g0, o0 + k, none⟩ = some (.int .i64 l[k]) := hc0 k _ (by simp [ivals, hkn])
      have hst := ft_snoc p hkn
      have hlen := ft_len p l k hk
      have hpk := hpi.out l[k]
      clear hc0
      generalize l[k] = x at *
      generalize (l.take k).filter p = out at *
      have hsz := hb.size
      have hN : out.length + 1 ≤ 1099511627776 := by omega
      cases hq : p x
      · rw [hq] at hst
        rw [if_neg (by decide), List.append_nil] at hst
        replace hst := Lib.hid hst
        rw [hq] at hpk
        have CK := Lib.hid (HA.out x wr (HR1.out.below hb (Nat.le_refl _)))
        rw [hpk] at CK
        go_wp2_with fail
        refine CK.out.mono ?_
        rintro e _ ⟨rfl, rfl⟩
        go_wp2
        go_roundw
        case rel => exact ⟨k + 1, A', c', by omega, by rw [hst.out], by go_num, by rw [hst.out]; exact hlc, hmx, by rw [hst.out]; exact hown, hb⟩
        case measure => simp [intOf]; omega
      · rw [hq] at hst
        rw [if_pos rfl] at hst
        replace hst := Lib.hid hst
        rw [hq] at hpk
        have CK := Lib.hid (HA.out x wr (HR1.out.below hb (Nat.le_refl _)))
        rw [hpk] at CK
        go_wp2_with fail
        refine CK.out.mono ?_
        rintro e _ ⟨rfl, rfl⟩
        go_wp2_with (at_builtin; refine wpList_append_int rfl _ _ 22 rfl w.heap.size 3 i0 Tryd.underlying22 hi hz0 hz1 hz2 _ _ _ rfl hown x rfl hN hsz ?_)
        intro g3' c3 w4 hown4 hr4 hc3 hm3 hg3 hg3' hsz3
        have hb4 := hb.grown hr4 hsz (fun k hk => (hown.lt k hk).1)
        clear hown hr4 hb
        go_wp2
        go_roundw
        case rel => exact ⟨k + 1, some ⟨g3', 0, none⟩, c3, by omega, by rw [hst.out]; simp, by go_num, by rw [hst.out]; simp; exact hc3, hm3, by rw [hst.out, ivals_append, List.length_append]; exact hown4, hb4⟩
        case measure => simp [intOf]; omega
    · obtain rfl : k = l.length := by omega
      rw [List.take_length] at hlc hown ⊢
      go_wp2
      go_ret
      exact ⟨A', c', rfl, hlc, hmx, hown, hb⟩
end Go.Proofs.YtgilmpakdohijaaDoor
