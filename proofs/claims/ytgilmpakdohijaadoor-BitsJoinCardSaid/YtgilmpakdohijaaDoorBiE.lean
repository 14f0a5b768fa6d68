/-
  bits: the document's With.
-/
import Derived.Test.YtgilmpakdohijaaDoorBiM
namespace Go.Proofs.YtgilmpakdohijaaDoor
open Go.RowKit

theorem withR_end {n : Int} : ∀ {l : List Int}, l.length ≤ firstOf (fun x => decide (n ≤ x)) l → withR l n = l ++ [n]
  | [], _ => rfl
  | x :: r, h => by
    unfold firstOf at h
    unfold withR
    by_cases hx : n ≤ x
    · rw [if_pos (by simpa using hx)] at h; simp at h
    · rw [if_neg (by simpa using hx)] at h
      rw [if_pos (by omega), withR_end (by simp at h; omega)]; rfl
theorem withR_at {n : Int} : ∀ {l : List Int} {k : Nat} (hk : k < l.length), firstOf (fun x => decide (n ≤ x)) l = k → withR l n = if l[k] = n then l else l.take k ++ [n] ++ l.drop k
  | x :: r, k, hk, h => by
    unfold firstOf at h
    unfold withR
    by_cases hx : n ≤ x
    · rw [if_pos (by simpa using hx)] at h
      subst h
      rw [if_neg (by omega)]
      simp
    · rw [if_neg (by simpa using hx)] at h
      subst h
      rw [if_pos (by omega), withR_at (by simpa using hk) rfl]
      simp only [List.getElem_cons_succ, List.take_succ_cons, List.drop_succ_cons]
      split <;> simp
theorem row_one {w : World} {g : Nat} {n : Int} (h : Box w g 3 #[.int .i64 n]) : RowAt w (some ⟨g, 0, none⟩) [.int .i64 n] := by
  refine RowAt.of_cells fun j u hj => ?_
  rw [addr_add, Nat.zero_add]
  exact (h.cells j).trans (by rw [← hj]; exact List.getElem?_toArray ..)
/-- A row of numbers as a result, with room. -/
def WithP (A : Option Addr) (L : List Int) (w : World) (e : Ending) (w' : World) : Prop := ∃ A' c', e = .returned (.slice A' L.length c') ∧ L.length ≤ c' ∧ c' ≤ maxLen ∧ RowAt w' A' (ivals L) ∧ Below w.heap.size w w' ∧ NewA w w' A A'
set_option maxRecDepth 100000 in
set_option maxHeartbeats 4000000 in
theorem rwith_any {A : Option Addr} {c : Nat} {l : List Int} {w : World} (n : Int) (hl : l.length ≤ 1000000) (hlc : l.length ≤ c) (hcm : c ≤ maxLen) (hr : RowAt w A (ivals l)) :
    Calls Tryd.prog 24 #[.slice A l.length c, .int .i64 n] w (WithP A (withR l n) w) := by
  obtain ⟨i0, hi, hz0, hz1, hz2⟩ := info_parts Tryd.infoInt'
  have HR := Lib.hid hr
  have hcn : l.length = 0 → A = none ∨ A ≠ none := fun _ => Classical.em _
  clear hr
  go_enter Tryd.func24, Tryd.ntmps24
  go_wp2
  go_loop [5] (fun i => ∃ k : Nat, k ≤ l.length ∧ i = .int .i64 k ∧ Hid (k ≤ firstOf (fun x => decide (n ≤ x)) l)) (fun i => l.length - (intOf i).toNat)
  case atStart => exact ⟨0, by omega, rfl, Nat.zero_le _⟩
  case round =>
    obtain ⟨k, hk, rfl, hf⟩ := hrel
    by_cases hkn : k < l.length
    · obtain ⟨g0, o0, rfl, hg0, hc0⟩ := HR.out (by rw [ivals_len]; omega)
      have hcl : w.cell? ⟨g0, o0 + k, none⟩ = some (.int .i64 l[k]) := hc0 k _ (by simp [ivals, hkn])
      have hwa : Hid (firstOf (fun x => decide (n ≤ x)) l = k → withR l n = if l[k] = n then l else l.take k ++ [n] ++ l.drop k) := fun h => withR_at hkn h
      by_cases hx : l[k] < n
      · have H := Lib.hid (firstOf_step hkn hf.out (by simp; omega))
        have hd : decide (l[k] < n) = true := decide_eq_true hx
        generalize l[k] = x at *
        clear hf hx hc0 hwa
        go_wp2
        go_round
        case rel => exact ⟨k + 1, by omega, by go_num, H⟩
        case measure => simp [intOf]; omega
      · have H := firstOf_hit hkn hf.out (by simp; omega)
        have hwb := hwa.out H
        have hd : decide (l[k] < n) = false := decide_eq_false hx
        by_cases he : l[k] = n
        · rw [if_pos he] at hwb
          have he2 : (l[k] == n) = true := by simpa using he
          replace hwb := Lib.hid hwb
          generalize l[k] = x at *
          clear hf hx hwa H he
          go_wp2
          go_ret
          rw [hwb.out]
          exact ⟨_, c, rfl, hlc, hcm, HR.out, Below.refl _ _, .inl rfl⟩
        · rw [if_neg he] at hwb
          have he2 : (l[k] == n) = false := by simpa using he
          replace hwb := Lib.hid hwb
          generalize l[k] = x at *
          clear hf hx hwa H he
          go_wp2
          have hkc : k ≤ c := by omega
          have hck : ¬ c = k := by omega
          have r1 : RowAt w (some ⟨g0, o0, none⟩) (ivals (l.take k)) := by unfold ivals; rw [List.map_take]; exact RowAt.take HR.out k
          have r2 : RowAt w (some ⟨g0, o0 + k, none⟩) (ivals (l.drop k)) := by have h := RowAt.drop HR.out k; unfold ivals at h ⊢; rw [List.map_drop]; simpa [addr_add] using h
          have cb : Below w.heap.size w w.drew := below_drewN (Below.refl _ _) 1
          refine wp_region_noPanic ?_
          refine wp_region_held_drew (S := (fun _ => True)) (by kernel_rfl) ?_ (fun hHeld => ?_)
          · go_keep
          refine wpAnyH_take (i := 1) (v := ?vt1) rfl (by kernel_rfl) (by kernel_rfl) (by kernel_rfl) (fun _ _ _ h => h) (Or.inl ⟨by kernel_rfl, ?hyt1⟩) (by assumption) ?restt1
          case hyt1 => (intro w hSw; (try dsimp only at hSw); go_simp; (try with_reducible rfl))
          go_simp
          refine wpAnyH_take (i := 2) (v := ?vt2) rfl (by kernel_rfl) (by kernel_rfl) (by kernel_rfl) (fun _ _ _ h => h) (Or.inl ⟨by kernel_rfl, ?hyt2⟩) (by assumption) ?restt2
          case hyt2 => (intro w hSw; (try dsimp only at hSw); go_simp; (try with_reducible rfl))
          go_simp
          refine wpAnyH_take (i := 3) (v := ?vt3) rfl (by kernel_rfl) (by kernel_rfl) (by kernel_rfl) (fun _ _ _ h => h) (Or.inl ⟨by kernel_rfl, ?hyt3⟩) (by assumption) ?restt3
          case hyt3 => (intro w hSw; (try dsimp only at hSw); go_simp; (try with_reducible rfl))
          go_simp
          refine wpAnyH_take (i := 5) (v := ?vt4) rfl (by kernel_rfl) (by kernel_rfl) (by kernel_rfl) (fun _ _ _ h => h) (Or.inl ⟨by kernel_rfl, ?hyt4⟩) (by assumption) ?restt4
          case hyt4 => (intro w hSw; (try dsimp only at hSw); go_simp; (try with_reducible rfl))
          go_simp
          refine wpAnyH_take (i := 8) (v := ?vt5) rfl (by kernel_rfl) (by kernel_rfl) (by kernel_rfl) (fun _ _ _ h => h) (Or.inl ⟨by kernel_rfl, ?hyt5⟩) (by assumption) ?restt5
          case hyt5 => (intro w hSw; (try dsimp only at hSw); go_simp; (try with_reducible rfl))
          go_simp
          refine wpAnyH_take (i := 9) (v := ?vt6) rfl (by kernel_rfl) (by kernel_rfl) (by kernel_rfl) (fun _ _ _ h => h) (Or.inl ⟨by kernel_rfl, ?hyt6⟩) (by assumption) ?restt6
          case hyt6 => (intro w hSw; (try dsimp only at hSw); go_simp; (try with_reducible rfl))
          go_simp
          refine wpAnyH_take (i := 10) (v := ?vt7) rfl (by kernel_rfl) (by kernel_rfl) (by kernel_rfl) (fun _ _ _ h => h) (Or.inl ⟨by kernel_rfl, ?hyt7⟩) (by assumption) ?restt7
          case hyt7 => (intro w hSw; (try dsimp only at hSw); go_simp; (try with_reducible rfl))
          go_simp
          refine wpAnyH_ready (rs := [0, 6]) (by kernel_rfl) (by simp) ?_
          refine AllReadyH.cons rfl (fun K hK => ?_) (AllReadyH.cons rfl (fun K hK => ?_) AllReadyH.nil)
          · rw [if_pos (by kernel_rfl)]
            go_simp
            have own0 : (w.drew.alloc (.cells #[] 3)).ownsRow w.heap.size 3 1 (.slice (some ⟨w.heap.size, 0, none⟩) 0 0) 0 [] := own_empty (Nat.le_refl _) rfl
            have cb := cb.alloc cb.size (.cells #[] 3)
            refine hK.out _ _ (by go_keep) (fun hHeld => ?_)
            clear hK K
            go_simp
            refine wpAnyH_ready (rs := [4, 6]) (by kernel_rfl) (by simp) ?_
            refine AllReadyH.cons rfl (fun K hK => ?_) (AllReadyH.cons rfl (fun K hK => ?_) AllReadyH.nil)
            · refine step_append_rowN rfl _ _ 22 rfl w.heap.size 3 i0 (.int .i64 0) 1 8 Tryd.underlying22 hi hz0 hz1 hz2 rfl (by decide) _ 0 [] rfl own0 (some ⟨g0, o0, none⟩) k c (ivals (l.take k)) rfl (by rw [ivals_len]; simp; try omega) (r1.below cb (Nat.le_refl _)) (ivals_one _) (by unfold maxLen; omega) (by omega) cb.size ?_
              intro A7 c7 w7 hown7 hgr7
              have cb := cb.grown hgr7 cb.size (fun k hk => (own0.lt k hk).1)
              have hown7 : w7.ownsRow w.heap.size 3 1 (.slice A7 k c7) k (ivals (l.take k)) := by first | exact hown7 | simpa using hown7
              refine hK.out _ _ (by go_keep) (fun hHeld => ?_)
              clear hK K
              go_simp
              refine wpAnyH_ready (rs := [6]) (by kernel_rfl) (by simp) ?_
              refine AllReadyH.cons rfl (fun K hK => ?_) AllReadyH.nil
              rw [if_pos (by kernel_rfl)]
              go_simp
              have z3 := Box.new w7 3 #[.int .i64 n]
              have hown7 := hown7.alloc (.cells #[.int .i64 n] 3)
              have cb := cb.alloc cb.size (.cells #[.int .i64 n] 3)
              clear hgr7 own0
              refine hK.out _ _ (by go_keep) (fun hHeld => ?_)
              clear hK K
              go_simp
              refine wpAnyH_ready (rs := [7]) (by kernel_rfl) (by simp) ?_
              refine AllReadyH.cons rfl (fun K hK => ?_) AllReadyH.nil
              refine step_append_rowN rfl _ _ 22 rfl w.heap.size 3 i0 (.int .i64 0) 1 8 Tryd.underlying22 hi hz0 hz1 hz2 rfl (by decide) _ k (ivals (l.take k)) rfl hown7 (some ⟨w7.heap.size, 0, none⟩) 1 1 [.int .i64 n] rfl rfl (row_one z3) (ivals_one [n]) (by unfold maxLen; omega) (by omega) cb.size ?_
              intro A8 c8 w8 hown8 hgr8
              have cb := cb.grown hgr8 cb.size (fun k hk => (hown7.lt k hk).1)
              clear hown7 hgr8 z3
              refine hK.out _ _ (by go_keep) (fun hHeld => ?_)
              clear hK K
              go_simp
              refine wpAnyH_ready (rs := [11]) (by kernel_rfl) (by simp) ?_
              refine AllReadyH.cons rfl (fun K hK => ?_) AllReadyH.nil
              refine step_append_rowN rfl _ _ 22 rfl w.heap.size 3 i0 (.int .i64 0) 1 8 Tryd.underlying22 hi hz0 hz1 hz2 rfl (by decide) _ (k + 1) (ivals (l.take k) ++ [Value.int .i64 n]) rfl hown8 (some ⟨g0, o0 + k, none⟩) (l.length - k) (c - k) (ivals (l.drop k)) rfl (by rw [ivals_len]; simp) (r2.below cb (Nat.le_refl _)) (ivals_one _) (by unfold maxLen; omega) (by omega) cb.size ?_
              intro A9 c9 w9 hown9 hgr9
              have cb := cb.grown hgr9 cb.size (fun k hk => (hown8.lt k hk).1)
              clear hown8
              refine hK.out _ _ (by go_keep) (fun hHeld => ?_)
              clear hK K
              go_simp
              refine wpAnyH_ready (rs := [12]) (by kernel_rfl) (by simp) ?_
              refine AllReadyH.cons rfl (fun K hK => ?_) AllReadyH.nil
              rw [if_pos (by kernel_rfl)]
              go_simp
              refine hK.out _ _ hHeld (fun hHeld => ?_)
              clear hK K
              go_simp
              refine wpAnyH_done (by kernel_rfl) ?_ _
              refine NoPanic.normal ?_
              have hcap := own_cap hown9
              have hlen := Lib.hid (show (withR l n).length = k + 1 + (l.length - k) by rw [hwb.out]; simp; try omega)
              have HRow : RowAt w9 A9 (ivals (withR l n)) := by rw [hwb.out, ivals_append, ivals_append]; exact RowAt.of_own hown9
              have HNA := fun A => NewA.of_own (w := w) (A := A) hown9 (Nat.le_refl _)
              clear hown9 hgr9
              go_wp2
              go_ret
              exact ⟨A9, c9, by first | (rw [hlen.out]; rfl) | rw [hlen.out], by rw [hlen.out]; exact hcap.1, hcap.2, HRow, cb, HNA _⟩
            · rw [if_pos (by kernel_rfl)]
              go_simp
              have z3 : Box ((w.drew.alloc (.cells #[] 3)).alloc (.cells #[.int .i64 n] 3)) (w.heap.size + 1) 3 #[.int .i64 n] := Box.new' (by rw [World.size_alloc]; rfl)
              have own0 := own0.alloc (.cells #[.int .i64 n] 3)
              have cb := cb.alloc cb.size (.cells #[.int .i64 n] 3)
              refine hK.out _ _ (by go_keep) (fun hHeld => ?_)
              clear hK K
              go_simp
              refine wpAnyH_ready (rs := [4]) (by kernel_rfl) (by simp) ?_
              refine AllReadyH.cons rfl (fun K hK => ?_) AllReadyH.nil
              refine step_append_rowN rfl _ _ 22 rfl w.heap.size 3 i0 (.int .i64 0) 1 8 Tryd.underlying22 hi hz0 hz1 hz2 rfl (by decide) _ 0 [] rfl own0 (some ⟨g0, o0, none⟩) k c (ivals (l.take k)) rfl (by rw [ivals_len]; simp; try omega) (r1.below cb (Nat.le_refl _)) (ivals_one _) (by unfold maxLen; omega) (by omega) cb.size ?_
              intro A7 c7 w7 hown7 hgr7
              have cb := cb.grown hgr7 cb.size (fun k hk => (own0.lt k hk).1)
              have hown7 : w7.ownsRow w.heap.size 3 1 (.slice A7 k c7) k (ivals (l.take k)) := by first | exact hown7 | simpa using hown7
              have z3 := z3.grown hgr7 (fun he => by injection he with he; first | exact Nat.ne_of_lt (Nat.lt_succ_self _) he.symm | exact Nat.ne_of_lt (Nat.lt_succ_self _) he)
              clear hgr7 own0
              refine hK.out _ _ (by go_keep) (fun hHeld => ?_)
              clear hK K
              go_simp
              refine wpAnyH_ready (rs := [7]) (by kernel_rfl) (by simp) ?_
              refine AllReadyH.cons rfl (fun K hK => ?_) AllReadyH.nil
              refine step_append_rowN rfl _ _ 22 rfl w.heap.size 3 i0 (.int .i64 0) 1 8 Tryd.underlying22 hi hz0 hz1 hz2 rfl (by decide) _ k (ivals (l.take k)) rfl hown7 (some ⟨w.heap.size + 1, 0, none⟩) 1 1 [.int .i64 n] rfl rfl (row_one z3) (ivals_one [n]) (by unfold maxLen; omega) (by omega) cb.size ?_
              intro A8 c8 w8 hown8 hgr8
              have cb := cb.grown hgr8 cb.size (fun k hk => (hown7.lt k hk).1)
              clear hown7 hgr8 z3
              refine hK.out _ _ (by go_keep) (fun hHeld => ?_)
              clear hK K
              go_simp
              refine wpAnyH_ready (rs := [11]) (by kernel_rfl) (by simp) ?_
              refine AllReadyH.cons rfl (fun K hK => ?_) AllReadyH.nil
              refine step_append_rowN rfl _ _ 22 rfl w.heap.size 3 i0 (.int .i64 0) 1 8 Tryd.underlying22 hi hz0 hz1 hz2 rfl (by decide) _ (k + 1) (ivals (l.take k) ++ [Value.int .i64 n]) rfl hown8 (some ⟨g0, o0 + k, none⟩) (l.length - k) (c - k) (ivals (l.drop k)) rfl (by rw [ivals_len]; simp) (r2.below cb (Nat.le_refl _)) (ivals_one _) (by unfold maxLen; omega) (by omega) cb.size ?_
              intro A9 c9 w9 hown9 hgr9
              have cb := cb.grown hgr9 cb.size (fun k hk => (hown8.lt k hk).1)
              clear hown8
              refine hK.out _ _ (by go_keep) (fun hHeld => ?_)
              clear hK K
              go_simp
              refine wpAnyH_ready (rs := [12]) (by kernel_rfl) (by simp) ?_
              refine AllReadyH.cons rfl (fun K hK => ?_) AllReadyH.nil
              rw [if_pos (by kernel_rfl)]
              go_simp
              refine hK.out _ _ hHeld (fun hHeld => ?_)
              clear hK K
              go_simp
              refine wpAnyH_done (by kernel_rfl) ?_ _
              refine NoPanic.normal ?_
              have hcap := own_cap hown9
              have hlen := Lib.hid (show (withR l n).length = k + 1 + (l.length - k) by rw [hwb.out]; simp; try omega)
              have HRow : RowAt w9 A9 (ivals (withR l n)) := by rw [hwb.out, ivals_append, ivals_append]; exact RowAt.of_own hown9
              have HNA := fun A => NewA.of_own (w := w) (A := A) hown9 (Nat.le_refl _)
              clear hown9 hgr9
              go_wp2
              go_ret
              exact ⟨A9, c9, by first | (rw [hlen.out]; rfl) | rw [hlen.out], by rw [hlen.out]; exact hcap.1, hcap.2, HRow, cb, HNA _⟩
          · rw [if_pos (by kernel_rfl)]
            go_simp
            have z3 := Box.new w.drew 3 #[.int .i64 n]
            have cb := cb.alloc cb.size (.cells #[.int .i64 n] 3)
            refine hK.out _ _ (by go_keep) (fun hHeld => ?_)
            clear hK K
            go_simp
            refine wpAnyH_ready (rs := [0]) (by kernel_rfl) (by simp) ?_
            refine AllReadyH.cons rfl (fun K hK => ?_) AllReadyH.nil
            rw [if_pos (by kernel_rfl)]
            go_simp
            have own0 : ((w.drew.alloc (.cells #[.int .i64 n] 3)).alloc (.cells #[] 3)).ownsRow w.heap.size 3 1 (.slice (some ⟨w.heap.size + 1, 0, none⟩) 0 0) 0 [] := own_empty cb.size (by rw [World.size_alloc]; rfl)
            have z3 := z3.alloc (.cells #[] 3)
            have cb := cb.alloc cb.size (.cells #[] 3)
            refine hK.out _ _ (by go_keep) (fun hHeld => ?_)
            clear hK K
            go_simp
            refine wpAnyH_ready (rs := [4]) (by kernel_rfl) (by simp) ?_
            refine AllReadyH.cons rfl (fun K hK => ?_) AllReadyH.nil
            refine step_append_rowN rfl _ _ 22 rfl w.heap.size 3 i0 (.int .i64 0) 1 8 Tryd.underlying22 hi hz0 hz1 hz2 rfl (by decide) _ 0 [] rfl own0 (some ⟨g0, o0, none⟩) k c (ivals (l.take k)) rfl (by rw [ivals_len]; simp; try omega) (r1.below cb (Nat.le_refl _)) (ivals_one _) (by unfold maxLen; omega) (by omega) cb.size ?_
            intro A7 c7 w7 hown7 hgr7
            have cb := cb.grown hgr7 cb.size (fun k hk => (own0.lt k hk).1)
            have hown7 : w7.ownsRow w.heap.size 3 1 (.slice A7 k c7) k (ivals (l.take k)) := by first | exact hown7 | simpa using hown7
            have z3 := z3.grown hgr7 (fun he => by injection he with he; first | exact Nat.ne_of_lt (Nat.lt_succ_self _) he.symm | exact Nat.ne_of_lt (Nat.lt_succ_self _) he)
            clear hgr7 own0
            refine hK.out _ _ (by go_keep) (fun hHeld => ?_)
            clear hK K
            go_simp
            refine wpAnyH_ready (rs := [7]) (by kernel_rfl) (by simp) ?_
            refine AllReadyH.cons rfl (fun K hK => ?_) AllReadyH.nil
            refine step_append_rowN rfl _ _ 22 rfl w.heap.size 3 i0 (.int .i64 0) 1 8 Tryd.underlying22 hi hz0 hz1 hz2 rfl (by decide) _ k (ivals (l.take k)) rfl hown7 (some ⟨w.heap.size, 0, none⟩) 1 1 [.int .i64 n] rfl rfl (row_one z3) (ivals_one [n]) (by unfold maxLen; omega) (by omega) cb.size ?_
            intro A8 c8 w8 hown8 hgr8
            have cb := cb.grown hgr8 cb.size (fun k hk => (hown7.lt k hk).1)
            clear hown7 hgr8 z3
            refine hK.out _ _ (by go_keep) (fun hHeld => ?_)
            clear hK K
            go_simp
            refine wpAnyH_ready (rs := [11]) (by kernel_rfl) (by simp) ?_
            refine AllReadyH.cons rfl (fun K hK => ?_) AllReadyH.nil
            refine step_append_rowN rfl _ _ 22 rfl w.heap.size 3 i0 (.int .i64 0) 1 8 Tryd.underlying22 hi hz0 hz1 hz2 rfl (by decide) _ (k + 1) (ivals (l.take k) ++ [Value.int .i64 n]) rfl hown8 (some ⟨g0, o0 + k, none⟩) (l.length - k) (c - k) (ivals (l.drop k)) rfl (by rw [ivals_len]; simp) (r2.below cb (Nat.le_refl _)) (ivals_one _) (by unfold maxLen; omega) (by omega) cb.size ?_
            intro A9 c9 w9 hown9 hgr9
            have cb := cb.grown hgr9 cb.size (fun k hk => (hown8.lt k hk).1)
            clear hown8
            refine hK.out _ _ (by go_keep) (fun hHeld => ?_)
            clear hK K
            go_simp
            refine wpAnyH_ready (rs := [12]) (by kernel_rfl) (by simp) ?_
            refine AllReadyH.cons rfl (fun K hK => ?_) AllReadyH.nil
            rw [if_pos (by kernel_rfl)]
            go_simp
            refine hK.out _ _ hHeld (fun hHeld => ?_)
            clear hK K
            go_simp
            refine wpAnyH_done (by kernel_rfl) ?_ _
            refine NoPanic.normal ?_
            have hcap := own_cap hown9
            have hlen := Lib.hid (show (withR l n).length = k + 1 + (l.length - k) by rw [hwb.out]; simp; try omega)
            have HRow : RowAt w9 A9 (ivals (withR l n)) := by rw [hwb.out, ivals_append, ivals_append]; exact RowAt.of_own hown9
            have HNA := fun A => NewA.of_own (w := w) (A := A) hown9 (Nat.le_refl _)
            clear hown9 hgr9
            go_wp2
            go_ret
            exact ⟨A9, c9, by first | (rw [hlen.out]; rfl) | rw [hlen.out], by rw [hlen.out]; exact hcap.1, hcap.2, HRow, cb, HNA _⟩
    · obtain rfl : k = l.length := by omega
      have hwb : Hid (withR l n = l.take l.length ++ [n] ++ l.drop l.length) := by show _ = _; rw [List.take_length, List.drop_length, List.append_nil]; exact withR_end hf.out
      have r1 : RowAt w A (ivals (l.take l.length)) := by rw [List.take_length]; exact HR.out
      clear hf hk hkn
      by_cases hck : c = l.length
      · have r2 : RowAt w A (ivals (l.drop l.length)) := by rw [List.drop_length]; exact RowAt.nil _ _
        have cb : Below w.heap.size w w.drew := below_drewN (Below.refl _ _) 1
        go_wp2
        refine wp_region_noPanic ?_
        refine wp_region_held_drew (S := (fun _ => True)) (by kernel_rfl) ?_ (fun hHeld => ?_)
        · go_keep
        refine wpAnyH_take (i := 1) (v := ?vp1) rfl (by kernel_rfl) (by kernel_rfl) (by kernel_rfl) (fun _ _ _ h => h) (Or.inl ⟨by kernel_rfl, ?hyp1⟩) (by assumption) ?restp1
        case hyp1 => (intro w hSw; (try dsimp only at hSw); go_simp; (try with_reducible rfl))
        go_simp
        refine wpAnyH_take (i := 2) (v := ?vp2) rfl (by kernel_rfl) (by kernel_rfl) (by kernel_rfl) (fun _ _ _ h => h) (Or.inl ⟨by kernel_rfl, ?hyp2⟩) (by assumption) ?restp2
        case hyp2 => (intro w hSw; (try dsimp only at hSw); go_simp; (try with_reducible rfl))
        go_simp
        refine wpAnyH_take (i := 3) (v := ?vp3) rfl (by kernel_rfl) (by kernel_rfl) (by kernel_rfl) (fun _ _ _ h => h) (Or.inl ⟨by kernel_rfl, ?hyp3⟩) (by assumption) ?restp3
        case hyp3 => (intro w hSw; (try dsimp only at hSw); go_simp; (try with_reducible rfl))
        go_simp
        refine wpAnyH_take (i := 5) (v := ?vp4) rfl (by kernel_rfl) (by kernel_rfl) (by kernel_rfl) (fun _ _ _ h => h) (Or.inl ⟨by kernel_rfl, ?hyp4⟩) (by assumption) ?restp4
        case hyp4 => (intro w hSw; (try dsimp only at hSw); go_simp; (try with_reducible rfl))
        go_simp
        refine wpAnyH_take (i := 8) (v := ?vp5) rfl (by kernel_rfl) (by kernel_rfl) (by kernel_rfl) (fun _ _ _ h => h) (Or.inl ⟨by kernel_rfl, ?hyp5⟩) (by assumption) ?restp5
        case hyp5 => (intro w hSw; (try dsimp only at hSw); go_simp; (try with_reducible rfl))
        go_simp
        refine wpAnyH_take (i := 9) (v := ?vp6) rfl (by kernel_rfl) (by kernel_rfl) (by kernel_rfl) (fun _ _ _ h => h) (Or.inl ⟨by kernel_rfl, ?hyp6⟩) (by assumption) ?restp6
        case hyp6 => (intro w hSw; (try dsimp only at hSw); go_simp; (try with_reducible rfl))
        go_simp
        refine wpAnyH_take (i := 10) (v := ?vp7) rfl (by kernel_rfl) (by kernel_rfl) (by kernel_rfl) (fun _ _ _ h => h) (Or.inl ⟨by kernel_rfl, ?hyp7⟩) (by assumption) ?restp7
        case hyp7 => (intro w hSw; (try dsimp only at hSw); go_simp; (try with_reducible rfl))
        go_simp
        refine wpAnyH_ready (rs := [0, 6]) (by kernel_rfl) (by simp) ?_
        refine AllReadyH.cons rfl (fun K hK => ?_) (AllReadyH.cons rfl (fun K hK => ?_) AllReadyH.nil)
        · rw [if_pos (by kernel_rfl)]
          go_simp
          have own0 : (w.drew.alloc (.cells #[] 3)).ownsRow w.heap.size 3 1 (.slice (some ⟨w.heap.size, 0, none⟩) 0 0) 0 [] := own_empty (Nat.le_refl _) rfl
          have cb := cb.alloc cb.size (.cells #[] 3)
          refine hK.out _ _ (by go_keep) (fun hHeld => ?_)
          clear hK K
          go_simp
          refine wpAnyH_ready (rs := [4, 6]) (by kernel_rfl) (by simp) ?_
          refine AllReadyH.cons rfl (fun K hK => ?_) (AllReadyH.cons rfl (fun K hK => ?_) AllReadyH.nil)
          · refine step_append_rowN rfl _ _ 22 rfl w.heap.size 3 i0 (.int .i64 0) 1 8 Tryd.underlying22 hi hz0 hz1 hz2 rfl (by decide) _ 0 [] rfl own0 A l.length l.length (ivals (l.take l.length)) rfl (by rw [ivals_len]; simp; try omega) (r1.below cb (Nat.le_refl _)) (ivals_one _) (by unfold maxLen; omega) (by omega) cb.size ?_
            intro A7 c7 w7 hown7 hgr7
            have cb := cb.grown hgr7 cb.size (fun k hk => (own0.lt k hk).1)
            have hown7 : w7.ownsRow w.heap.size 3 1 (.slice A7 l.length c7) l.length (ivals (l.take l.length)) := by first | exact hown7 | simpa using hown7
            refine hK.out _ _ (by go_keep) (fun hHeld => ?_)
            clear hK K
            go_simp
            refine wpAnyH_ready (rs := [6]) (by kernel_rfl) (by simp) ?_
            refine AllReadyH.cons rfl (fun K hK => ?_) AllReadyH.nil
            rw [if_pos (by kernel_rfl)]
            go_simp
            have z3 := Box.new w7 3 #[.int .i64 n]
            have hown7 := hown7.alloc (.cells #[.int .i64 n] 3)
            have cb := cb.alloc cb.size (.cells #[.int .i64 n] 3)
            clear hgr7 own0
            refine hK.out _ _ (by go_keep) (fun hHeld => ?_)
            clear hK K
            go_simp
            refine wpAnyH_ready (rs := [7]) (by kernel_rfl) (by simp) ?_
            refine AllReadyH.cons rfl (fun K hK => ?_) AllReadyH.nil
            refine step_append_rowN rfl _ _ 22 rfl w.heap.size 3 i0 (.int .i64 0) 1 8 Tryd.underlying22 hi hz0 hz1 hz2 rfl (by decide) _ l.length (ivals (l.take l.length)) rfl hown7 (some ⟨w7.heap.size, 0, none⟩) 1 1 [.int .i64 n] rfl rfl (row_one z3) (ivals_one [n]) (by unfold maxLen; omega) (by omega) cb.size ?_
            intro A8 c8 w8 hown8 hgr8
            have cb := cb.grown hgr8 cb.size (fun k hk => (hown7.lt k hk).1)
            clear hown7 hgr8 z3
            refine hK.out _ _ (by go_keep) (fun hHeld => ?_)
            clear hK K
            go_simp
            refine wpAnyH_ready (rs := [11]) (by kernel_rfl) (by simp) ?_
            refine AllReadyH.cons rfl (fun K hK => ?_) AllReadyH.nil
            refine step_append_rowN rfl _ _ 22 rfl w.heap.size 3 i0 (.int .i64 0) 1 8 Tryd.underlying22 hi hz0 hz1 hz2 rfl (by decide) _ (l.length + 1) (ivals (l.take l.length) ++ [Value.int .i64 n]) rfl hown8 A 0 0 (ivals (l.drop l.length)) rfl (by rw [ivals_len]; simp) (r2.below cb (Nat.le_refl _)) (ivals_one _) (by unfold maxLen; omega) (by omega) cb.size ?_
            intro A9 c9 w9 hown9 hgr9
            have cb := cb.grown hgr9 cb.size (fun k hk => (hown8.lt k hk).1)
            clear hown8
            refine hK.out _ _ (by go_keep) (fun hHeld => ?_)
            clear hK K
            go_simp
            refine wpAnyH_ready (rs := [12]) (by kernel_rfl) (by simp) ?_
            refine AllReadyH.cons rfl (fun K hK => ?_) AllReadyH.nil
            rw [if_pos (by kernel_rfl)]
            go_simp
            refine hK.out _ _ hHeld (fun hHeld => ?_)
            clear hK K
            go_simp
            refine wpAnyH_done (by kernel_rfl) ?_ _
            refine NoPanic.normal ?_
            have hcap := own_cap hown9
            have hlen := Lib.hid (show (withR l n).length = l.length + 1 + 0 by rw [hwb.out]; simp; try omega)
            have HRow : RowAt w9 A9 (ivals (withR l n)) := by rw [hwb.out, ivals_append, ivals_append]; exact RowAt.of_own hown9
            have HNA := fun A => NewA.of_own (w := w) (A := A) hown9 (Nat.le_refl _)
            clear hown9 hgr9
            go_wp2
            go_ret
            exact ⟨A9, c9, by first | (rw [hlen.out]; rfl) | rw [hlen.out], by rw [hlen.out]; exact hcap.1, hcap.2, HRow, cb, HNA _⟩
          · rw [if_pos (by kernel_rfl)]
            go_simp
            have z3 : Box ((w.drew.alloc (.cells #[] 3)).alloc (.cells #[.int .i64 n] 3)) (w.heap.size + 1) 3 #[.int .i64 n] := Box.new' (by rw [World.size_alloc]; rfl)
            have own0 := own0.alloc (.cells #[.int .i64 n] 3)
            have cb := cb.alloc cb.size (.cells #[.int .i64 n] 3)
            refine hK.out _ _ (by go_keep) (fun hHeld => ?_)
            clear hK K
            go_simp
            refine wpAnyH_ready (rs := [4]) (by kernel_rfl) (by simp) ?_
            refine AllReadyH.cons rfl (fun K hK => ?_) AllReadyH.nil
            refine step_append_rowN rfl _ _ 22 rfl w.heap.size 3 i0 (.int .i64 0) 1 8 Tryd.underlying22 hi hz0 hz1 hz2 rfl (by decide) _ 0 [] rfl own0 A l.length l.length (ivals (l.take l.length)) rfl (by rw [ivals_len]; simp; try omega) (r1.below cb (Nat.le_refl _)) (ivals_one _) (by unfold maxLen; omega) (by omega) cb.size ?_
            intro A7 c7 w7 hown7 hgr7
            have cb := cb.grown hgr7 cb.size (fun k hk => (own0.lt k hk).1)
            have hown7 : w7.ownsRow w.heap.size 3 1 (.slice A7 l.length c7) l.length (ivals (l.take l.length)) := by first | exact hown7 | simpa using hown7
            have z3 := z3.grown hgr7 (fun he => by injection he with he; first | exact Nat.ne_of_lt (Nat.lt_succ_self _) he.symm | exact Nat.ne_of_lt (Nat.lt_succ_self _) he)
            clear hgr7 own0
            refine hK.out _ _ (by go_keep) (fun hHeld => ?_)
            clear hK K
            go_simp
            refine wpAnyH_ready (rs := [7]) (by kernel_rfl) (by simp) ?_
            refine AllReadyH.cons rfl (fun K hK => ?_) AllReadyH.nil
            refine step_append_rowN rfl _ _ 22 rfl w.heap.size 3 i0 (.int .i64 0) 1 8 Tryd.underlying22 hi hz0 hz1 hz2 rfl (by decide) _ l.length (ivals (l.take l.length)) rfl hown7 (some ⟨w.heap.size + 1, 0, none⟩) 1 1 [.int .i64 n] rfl rfl (row_one z3) (ivals_one [n]) (by unfold maxLen; omega) (by omega) cb.size ?_
            intro A8 c8 w8 hown8 hgr8
            have cb := cb.grown hgr8 cb.size (fun k hk => (hown7.lt k hk).1)
            clear hown7 hgr8 z3
            refine hK.out _ _ (by go_keep) (fun hHeld => ?_)
            clear hK K
            go_simp
            refine wpAnyH_ready (rs := [11]) (by kernel_rfl) (by simp) ?_
            refine AllReadyH.cons rfl (fun K hK => ?_) AllReadyH.nil
            refine step_append_rowN rfl _ _ 22 rfl w.heap.size 3 i0 (.int .i64 0) 1 8 Tryd.underlying22 hi hz0 hz1 hz2 rfl (by decide) _ (l.length + 1) (ivals (l.take l.length) ++ [Value.int .i64 n]) rfl hown8 A 0 0 (ivals (l.drop l.length)) rfl (by rw [ivals_len]; simp) (r2.below cb (Nat.le_refl _)) (ivals_one _) (by unfold maxLen; omega) (by omega) cb.size ?_
            intro A9 c9 w9 hown9 hgr9
            have cb := cb.grown hgr9 cb.size (fun k hk => (hown8.lt k hk).1)
            clear hown8
            refine hK.out _ _ (by go_keep) (fun hHeld => ?_)
            clear hK K
            go_simp
            refine wpAnyH_ready (rs := [12]) (by kernel_rfl) (by simp) ?_
            refine AllReadyH.cons rfl (fun K hK => ?_) AllReadyH.nil
            rw [if_pos (by kernel_rfl)]
            go_simp
            refine hK.out _ _ hHeld (fun hHeld => ?_)
            clear hK K
            go_simp
            refine wpAnyH_done (by kernel_rfl) ?_ _
            refine NoPanic.normal ?_
            have hcap := own_cap hown9
            have hlen := Lib.hid (show (withR l n).length = l.length + 1 + 0 by rw [hwb.out]; simp; try omega)
            have HRow : RowAt w9 A9 (ivals (withR l n)) := by rw [hwb.out, ivals_append, ivals_append]; exact RowAt.of_own hown9
            have HNA := fun A => NewA.of_own (w := w) (A := A) hown9 (Nat.le_refl _)
            clear hown9 hgr9
            go_wp2
            go_ret
            exact ⟨A9, c9, by first | (rw [hlen.out]; rfl) | rw [hlen.out], by rw [hlen.out]; exact hcap.1, hcap.2, HRow, cb, HNA _⟩
        · rw [if_pos (by kernel_rfl)]
          go_simp
          have z3 := Box.new w.drew 3 #[.int .i64 n]
          have cb := cb.alloc cb.size (.cells #[.int .i64 n] 3)
          refine hK.out _ _ (by go_keep) (fun hHeld => ?_)
          clear hK K
          go_simp
          refine wpAnyH_ready (rs := [0]) (by kernel_rfl) (by simp) ?_
          refine AllReadyH.cons rfl (fun K hK => ?_) AllReadyH.nil
          rw [if_pos (by kernel_rfl)]
          go_simp
          have own0 : ((w.drew.alloc (.cells #[.int .i64 n] 3)).alloc (.cells #[] 3)).ownsRow w.heap.size 3 1 (.slice (some ⟨w.heap.size + 1, 0, none⟩) 0 0) 0 [] := own_empty cb.size (by rw [World.size_alloc]; rfl)
          have z3 := z3.alloc (.cells #[] 3)
          have cb := cb.alloc cb.size (.cells #[] 3)
          refine hK.out _ _ (by go_keep) (fun hHeld => ?_)
          clear hK K
          go_simp
          refine wpAnyH_ready (rs := [4]) (by kernel_rfl) (by simp) ?_
          refine AllReadyH.cons rfl (fun K hK => ?_) AllReadyH.nil
          refine step_append_rowN rfl _ _ 22 rfl w.heap.size 3 i0 (.int .i64 0) 1 8 Tryd.underlying22 hi hz0 hz1 hz2 rfl (by decide) _ 0 [] rfl own0 A l.length l.length (ivals (l.take l.length)) rfl (by rw [ivals_len]; simp; try omega) (r1.below cb (Nat.le_refl _)) (ivals_one _) (by unfold maxLen; omega) (by omega) cb.size ?_
          intro A7 c7 w7 hown7 hgr7
          have cb := cb.grown hgr7 cb.size (fun k hk => (own0.lt k hk).1)
          have hown7 : w7.ownsRow w.heap.size 3 1 (.slice A7 l.length c7) l.length (ivals (l.take l.length)) := by first | exact hown7 | simpa using hown7
          have z3 := z3.grown hgr7 (fun he => by injection he with he; first | exact Nat.ne_of_lt (Nat.lt_succ_self _) he.symm | exact Nat.ne_of_lt (Nat.lt_succ_self _) he)
          clear hgr7 own0
          refine hK.out _ _ (by go_keep) (fun hHeld => ?_)
          clear hK K
          go_simp
          refine wpAnyH_ready (rs := [7]) (by kernel_rfl) (by simp) ?_
          refine AllReadyH.cons rfl (fun K hK => ?_) AllReadyH.nil
          refine step_append_rowN rfl _ _ 22 rfl w.heap.size 3 i0 (.int .i64 0) 1 8 Tryd.underlying22 hi hz0 hz1 hz2 rfl (by decide) _ l.length (ivals (l.take l.length)) rfl hown7 (some ⟨w.heap.size, 0, none⟩) 1 1 [.int .i64 n] rfl rfl (row_one z3) (ivals_one [n]) (by unfold maxLen; omega) (by omega) cb.size ?_
          intro A8 c8 w8 hown8 hgr8
          have cb := cb.grown hgr8 cb.size (fun k hk => (hown7.lt k hk).1)
          clear hown7 hgr8 z3
          refine hK.out _ _ (by go_keep) (fun hHeld => ?_)
          clear hK K
          go_simp
          refine wpAnyH_ready (rs := [11]) (by kernel_rfl) (by simp) ?_
          refine AllReadyH.cons rfl (fun K hK => ?_) AllReadyH.nil
          refine step_append_rowN rfl _ _ 22 rfl w.heap.size 3 i0 (.int .i64 0) 1 8 Tryd.underlying22 hi hz0 hz1 hz2 rfl (by decide) _ (l.length + 1) (ivals (l.take l.length) ++ [Value.int .i64 n]) rfl hown8 A 0 0 (ivals (l.drop l.length)) rfl (by rw [ivals_len]; simp) (r2.below cb (Nat.le_refl _)) (ivals_one _) (by unfold maxLen; omega) (by omega) cb.size ?_
          intro A9 c9 w9 hown9 hgr9
          have cb := cb.grown hgr9 cb.size (fun k hk => (hown8.lt k hk).1)
          clear hown8
          refine hK.out _ _ (by go_keep) (fun hHeld => ?_)
          clear hK K
          go_simp
          refine wpAnyH_ready (rs := [12]) (by kernel_rfl) (by simp) ?_
          refine AllReadyH.cons rfl (fun K hK => ?_) AllReadyH.nil
          rw [if_pos (by kernel_rfl)]
          go_simp
          refine hK.out _ _ hHeld (fun hHeld => ?_)
          clear hK K
          go_simp
          refine wpAnyH_done (by kernel_rfl) ?_ _
          refine NoPanic.normal ?_
          have hcap := own_cap hown9
          have hlen := Lib.hid (show (withR l n).length = l.length + 1 + 0 by rw [hwb.out]; simp; try omega)
          have HRow : RowAt w9 A9 (ivals (withR l n)) := by rw [hwb.out, ivals_append, ivals_append]; exact RowAt.of_own hown9
          have HNA := fun A => NewA.of_own (w := w) (A := A) hown9 (Nat.le_refl _)
          clear hown9 hgr9
          go_wp2
          go_ret
          exact ⟨A9, c9, by first | (rw [hlen.out]; rfl) | rw [hlen.out], by rw [hlen.out]; exact hcap.1, hcap.2, HRow, cb, HNA _⟩

      · have r2 : RowAt w (A.map (·.add l.length)) (ivals (l.drop l.length)) := by rw [List.drop_length]; exact RowAt.nil _ _
        have cb : Below w.heap.size w w.drew := below_drewN (Below.refl _ _) 1
        go_wp2
        refine wp_region_noPanic ?_
        refine wp_region_held_drew (S := (fun _ => True)) (by kernel_rfl) ?_ (fun hHeld => ?_)
        · go_keep
        refine wpAnyH_take (i := 1) (v := ?vq1) rfl (by kernel_rfl) (by kernel_rfl) (by kernel_rfl) (fun _ _ _ h => h) (Or.inl ⟨by kernel_rfl, ?hyq1⟩) (by assumption) ?restq1
        case hyq1 => (intro w hSw; (try dsimp only at hSw); go_simp; (try with_reducible rfl))
        go_simp
        refine wpAnyH_take (i := 2) (v := ?vq2) rfl (by kernel_rfl) (by kernel_rfl) (by kernel_rfl) (fun _ _ _ h => h) (Or.inl ⟨by kernel_rfl, ?hyq2⟩) (by assumption) ?restq2
        case hyq2 => (intro w hSw; (try dsimp only at hSw); go_simp; (try with_reducible rfl))
        go_simp
        refine wpAnyH_take (i := 3) (v := ?vq3) rfl (by kernel_rfl) (by kernel_rfl) (by kernel_rfl) (fun _ _ _ h => h) (Or.inl ⟨by kernel_rfl, ?hyq3⟩) (by assumption) ?restq3
        case hyq3 => (intro w hSw; (try dsimp only at hSw); go_simp; (try with_reducible rfl))
        go_simp
        refine wpAnyH_take (i := 5) (v := ?vq4) rfl (by kernel_rfl) (by kernel_rfl) (by kernel_rfl) (fun _ _ _ h => h) (Or.inl ⟨by kernel_rfl, ?hyq4⟩) (by assumption) ?restq4
        case hyq4 => (intro w hSw; (try dsimp only at hSw); go_simp; (try with_reducible rfl))
        go_simp
        refine wpAnyH_take (i := 8) (v := ?vq5) rfl (by kernel_rfl) (by kernel_rfl) (by kernel_rfl) (fun _ _ _ h => h) (Or.inl ⟨by kernel_rfl, ?hyq5⟩) (by assumption) ?restq5
        case hyq5 => (intro w hSw; (try dsimp only at hSw); go_simp; (try with_reducible rfl))
        go_simp
        refine wpAnyH_take (i := 9) (v := ?vq6) rfl (by kernel_rfl) (by kernel_rfl) (by kernel_rfl) (fun _ _ _ h => h) (Or.inl ⟨by kernel_rfl, ?hyq6⟩) (by assumption) ?restq6
        case hyq6 => (intro w hSw; (try dsimp only at hSw); go_simp; (try with_reducible rfl))
        go_simp
        refine wpAnyH_take (i := 10) (v := ?vq7) rfl (by kernel_rfl) (by kernel_rfl) (by kernel_rfl) (fun _ _ _ h => h) (Or.inl ⟨by kernel_rfl, ?hyq7⟩) (by assumption) ?restq7
        case hyq7 => (intro w hSw; (try dsimp only at hSw); go_simp; (try with_reducible rfl))
        go_simp
        refine wpAnyH_ready (rs := [0, 6]) (by kernel_rfl) (by simp) ?_
        refine AllReadyH.cons rfl (fun K hK => ?_) (AllReadyH.cons rfl (fun K hK => ?_) AllReadyH.nil)
        · rw [if_pos (by kernel_rfl)]
          go_simp
          have own0 : (w.drew.alloc (.cells #[] 3)).ownsRow w.heap.size 3 1 (.slice (some ⟨w.heap.size, 0, none⟩) 0 0) 0 [] := own_empty (Nat.le_refl _) rfl
          have cb := cb.alloc cb.size (.cells #[] 3)
          refine hK.out _ _ (by go_keep) (fun hHeld => ?_)
          clear hK K
          go_simp
          refine wpAnyH_ready (rs := [4, 6]) (by kernel_rfl) (by simp) ?_
          refine AllReadyH.cons rfl (fun K hK => ?_) (AllReadyH.cons rfl (fun K hK => ?_) AllReadyH.nil)
          · refine step_append_rowN rfl _ _ 22 rfl w.heap.size 3 i0 (.int .i64 0) 1 8 Tryd.underlying22 hi hz0 hz1 hz2 rfl (by decide) _ 0 [] rfl own0 A l.length c (ivals (l.take l.length)) rfl (by rw [ivals_len]; simp; try omega) (r1.below cb (Nat.le_refl _)) (ivals_one _) (by unfold maxLen; omega) (by omega) cb.size ?_
            intro A7 c7 w7 hown7 hgr7
            have cb := cb.grown hgr7 cb.size (fun k hk => (own0.lt k hk).1)
            have hown7 : w7.ownsRow w.heap.size 3 1 (.slice A7 l.length c7) l.length (ivals (l.take l.length)) := by first | exact hown7 | simpa using hown7
            refine hK.out _ _ (by go_keep) (fun hHeld => ?_)
            clear hK K
            go_simp
            refine wpAnyH_ready (rs := [6]) (by kernel_rfl) (by simp) ?_
            refine AllReadyH.cons rfl (fun K hK => ?_) AllReadyH.nil
            rw [if_pos (by kernel_rfl)]
            go_simp
            have z3 := Box.new w7 3 #[.int .i64 n]
            have hown7 := hown7.alloc (.cells #[.int .i64 n] 3)
            have cb := cb.alloc cb.size (.cells #[.int .i64 n] 3)
            clear hgr7 own0
            refine hK.out _ _ (by go_keep) (fun hHeld => ?_)
            clear hK K
            go_simp
            refine wpAnyH_ready (rs := [7]) (by kernel_rfl) (by simp) ?_
            refine AllReadyH.cons rfl (fun K hK => ?_) AllReadyH.nil
            refine step_append_rowN rfl _ _ 22 rfl w.heap.size 3 i0 (.int .i64 0) 1 8 Tryd.underlying22 hi hz0 hz1 hz2 rfl (by decide) _ l.length (ivals (l.take l.length)) rfl hown7 (some ⟨w7.heap.size, 0, none⟩) 1 1 [.int .i64 n] rfl rfl (row_one z3) (ivals_one [n]) (by unfold maxLen; omega) (by omega) cb.size ?_
            intro A8 c8 w8 hown8 hgr8
            have cb := cb.grown hgr8 cb.size (fun k hk => (hown7.lt k hk).1)
            clear hown7 hgr8 z3
            refine hK.out _ _ (by go_keep) (fun hHeld => ?_)
            clear hK K
            go_simp
            refine wpAnyH_ready (rs := [11]) (by kernel_rfl) (by simp) ?_
            refine AllReadyH.cons rfl (fun K hK => ?_) AllReadyH.nil
            refine step_append_rowN rfl _ _ 22 rfl w.heap.size 3 i0 (.int .i64 0) 1 8 Tryd.underlying22 hi hz0 hz1 hz2 rfl (by decide) _ (l.length + 1) (ivals (l.take l.length) ++ [Value.int .i64 n]) rfl hown8 _ 0 _ (ivals (l.drop l.length)) rfl (by rw [ivals_len]; simp) (r2.below cb (Nat.le_refl _)) (ivals_one _) (by unfold maxLen; omega) (by omega) cb.size ?_
            intro A9 c9 w9 hown9 hgr9
            have cb := cb.grown hgr9 cb.size (fun k hk => (hown8.lt k hk).1)
            clear hown8
            refine hK.out _ _ (by go_keep) (fun hHeld => ?_)
            clear hK K
            go_simp
            refine wpAnyH_ready (rs := [12]) (by kernel_rfl) (by simp) ?_
            refine AllReadyH.cons rfl (fun K hK => ?_) AllReadyH.nil
            rw [if_pos (by kernel_rfl)]
            go_simp
            refine hK.out _ _ hHeld (fun hHeld => ?_)
            clear hK K
            go_simp
            refine wpAnyH_done (by kernel_rfl) ?_ _
            refine NoPanic.normal ?_
            have hcap := own_cap hown9
            have hlen := Lib.hid (show (withR l n).length = l.length + 1 + 0 by rw [hwb.out]; simp; try omega)
            have HRow : RowAt w9 A9 (ivals (withR l n)) := by rw [hwb.out, ivals_append, ivals_append]; exact RowAt.of_own hown9
            have HNA := fun A => NewA.of_own (w := w) (A := A) hown9 (Nat.le_refl _)
            clear hown9 hgr9
            go_wp2
            go_ret
            exact ⟨A9, c9, by first | (rw [hlen.out]; rfl) | rw [hlen.out], by rw [hlen.out]; exact hcap.1, hcap.2, HRow, cb, HNA _⟩
          · rw [if_pos (by kernel_rfl)]
            go_simp
            have z3 : Box ((w.drew.alloc (.cells #[] 3)).alloc (.cells #[.int .i64 n] 3)) (w.heap.size + 1) 3 #[.int .i64 n] := Box.new' (by rw [World.size_alloc]; rfl)
            have own0 := own0.alloc (.cells #[.int .i64 n] 3)
            have cb := cb.alloc cb.size (.cells #[.int .i64 n] 3)
            refine hK.out _ _ (by go_keep) (fun hHeld => ?_)
            clear hK K
            go_simp
            refine wpAnyH_ready (rs := [4]) (by kernel_rfl) (by simp) ?_
            refine AllReadyH.cons rfl (fun K hK => ?_) AllReadyH.nil
            refine step_append_rowN rfl _ _ 22 rfl w.heap.size 3 i0 (.int .i64 0) 1 8 Tryd.underlying22 hi hz0 hz1 hz2 rfl (by decide) _ 0 [] rfl own0 A l.length c (ivals (l.take l.length)) rfl (by rw [ivals_len]; simp; try omega) (r1.below cb (Nat.le_refl _)) (ivals_one _) (by unfold maxLen; omega) (by omega) cb.size ?_
            intro A7 c7 w7 hown7 hgr7
            have cb := cb.grown hgr7 cb.size (fun k hk => (own0.lt k hk).1)
            have hown7 : w7.ownsRow w.heap.size 3 1 (.slice A7 l.length c7) l.length (ivals (l.take l.length)) := by first | exact hown7 | simpa using hown7
            have z3 := z3.grown hgr7 (fun he => by injection he with he; first | exact Nat.ne_of_lt (Nat.lt_succ_self _) he.symm | exact Nat.ne_of_lt (Nat.lt_succ_self _) he)
            clear hgr7 own0
            refine hK.out _ _ (by go_keep) (fun hHeld => ?_)
            clear hK K
            go_simp
            refine wpAnyH_ready (rs := [7]) (by kernel_rfl) (by simp) ?_
            refine AllReadyH.cons rfl (fun K hK => ?_) AllReadyH.nil
            refine step_append_rowN rfl _ _ 22 rfl w.heap.size 3 i0 (.int .i64 0) 1 8 Tryd.underlying22 hi hz0 hz1 hz2 rfl (by decide) _ l.length (ivals (l.take l.length)) rfl hown7 (some ⟨w.heap.size + 1, 0, none⟩) 1 1 [.int .i64 n] rfl rfl (row_one z3) (ivals_one [n]) (by unfold maxLen; omega) (by omega) cb.size ?_
            intro A8 c8 w8 hown8 hgr8
            have cb := cb.grown hgr8 cb.size (fun k hk => (hown7.lt k hk).1)
            clear hown7 hgr8 z3
            refine hK.out _ _ (by go_keep) (fun hHeld => ?_)
            clear hK K
            go_simp
            refine wpAnyH_ready (rs := [11]) (by kernel_rfl) (by simp) ?_
            refine AllReadyH.cons rfl (fun K hK => ?_) AllReadyH.nil
            refine step_append_rowN rfl _ _ 22 rfl w.heap.size 3 i0 (.int .i64 0) 1 8 Tryd.underlying22 hi hz0 hz1 hz2 rfl (by decide) _ (l.length + 1) (ivals (l.take l.length) ++ [Value.int .i64 n]) rfl hown8 _ 0 _ (ivals (l.drop l.length)) rfl (by rw [ivals_len]; simp) (r2.below cb (Nat.le_refl _)) (ivals_one _) (by unfold maxLen; omega) (by omega) cb.size ?_
            intro A9 c9 w9 hown9 hgr9
            have cb := cb.grown hgr9 cb.size (fun k hk => (hown8.lt k hk).1)
            clear hown8
            refine hK.out _ _ (by go_keep) (fun hHeld => ?_)
            clear hK K
            go_simp
            refine wpAnyH_ready (rs := [12]) (by kernel_rfl) (by simp) ?_
            refine AllReadyH.cons rfl (fun K hK => ?_) AllReadyH.nil
            rw [if_pos (by kernel_rfl)]
            go_simp
            refine hK.out _ _ hHeld (fun hHeld => ?_)
            clear hK K
            go_simp
            refine wpAnyH_done (by kernel_rfl) ?_ _
            refine NoPanic.normal ?_
            have hcap := own_cap hown9
            have hlen := Lib.hid (show (withR l n).length = l.length + 1 + 0 by rw [hwb.out]; simp; try omega)
            have HRow : RowAt w9 A9 (ivals (withR l n)) := by rw [hwb.out, ivals_append, ivals_append]; exact RowAt.of_own hown9
            have HNA := fun A => NewA.of_own (w := w) (A := A) hown9 (Nat.le_refl _)
            clear hown9 hgr9
            go_wp2
            go_ret
            exact ⟨A9, c9, by first | (rw [hlen.out]; rfl) | rw [hlen.out], by rw [hlen.out]; exact hcap.1, hcap.2, HRow, cb, HNA _⟩
        · rw [if_pos (by kernel_rfl)]
          go_simp
          have z3 := Box.new w.drew 3 #[.int .i64 n]
          have cb := cb.alloc cb.size (.cells #[.int .i64 n] 3)
          refine hK.out _ _ (by go_keep) (fun hHeld => ?_)
          clear hK K
          go_simp
          refine wpAnyH_ready (rs := [0]) (by kernel_rfl) (by simp) ?_
          refine AllReadyH.cons rfl (fun K hK => ?_) AllReadyH.nil
          rw [if_pos (by kernel_rfl)]
          go_simp
          have own0 : ((w.drew.alloc (.cells #[.int .i64 n] 3)).alloc (.cells #[] 3)).ownsRow w.heap.size 3 1 (.slice (some ⟨w.heap.size + 1, 0, none⟩) 0 0) 0 [] := own_empty cb.size (by rw [World.size_alloc]; rfl)
          have z3 := z3.alloc (.cells #[] 3)
          have cb := cb.alloc cb.size (.cells #[] 3)
          refine hK.out _ _ (by go_keep) (fun hHeld => ?_)
          clear hK K
          go_simp
          refine wpAnyH_ready (rs := [4]) (by kernel_rfl) (by simp) ?_
          refine AllReadyH.cons rfl (fun K hK => ?_) AllReadyH.nil
          refine step_append_rowN rfl _ _ 22 rfl w.heap.size 3 i0 (.int .i64 0) 1 8 Tryd.underlying22 hi hz0 hz1 hz2 rfl (by decide) _ 0 [] rfl own0 A l.length c (ivals (l.take l.length)) rfl (by rw [ivals_len]; simp; try omega) (r1.below cb (Nat.le_refl _)) (ivals_one _) (by unfold maxLen; omega) (by omega) cb.size ?_
          intro A7 c7 w7 hown7 hgr7
          have cb := cb.grown hgr7 cb.size (fun k hk => (own0.lt k hk).1)
          have hown7 : w7.ownsRow w.heap.size 3 1 (.slice A7 l.length c7) l.length (ivals (l.take l.length)) := by first | exact hown7 | simpa using hown7
          have z3 := z3.grown hgr7 (fun he => by injection he with he; first | exact Nat.ne_of_lt (Nat.lt_succ_self _) he.symm | exact Nat.ne_of_lt (Nat.lt_succ_self _) he)
          clear hgr7 own0
          refine hK.out _ _ (by go_keep) (fun hHeld => ?_)
          clear hK K
          go_simp
          refine wpAnyH_ready (rs := [7]) (by kernel_rfl) (by simp) ?_
          refine AllReadyH.cons rfl (fun K hK => ?_) AllReadyH.nil
          refine step_append_rowN rfl _ _ 22 rfl w.heap.size 3 i0 (.int .i64 0) 1 8 Tryd.underlying22 hi hz0 hz1 hz2 rfl (by decide) _ l.length (ivals (l.take l.length)) rfl hown7 (some ⟨w.heap.size, 0, none⟩) 1 1 [.int .i64 n] rfl rfl (row_one z3) (ivals_one [n]) (by unfold maxLen; omega) (by omega) cb.size ?_
          intro A8 c8 w8 hown8 hgr8
          have cb := cb.grown hgr8 cb.size (fun k hk => (hown7.lt k hk).1)
          clear hown7 hgr8 z3
          refine hK.out _ _ (by go_keep) (fun hHeld => ?_)
          clear hK K
          go_simp
          refine wpAnyH_ready (rs := [11]) (by kernel_rfl) (by simp) ?_
          refine AllReadyH.cons rfl (fun K hK => ?_) AllReadyH.nil
          refine step_append_rowN rfl _ _ 22 rfl w.heap.size 3 i0 (.int .i64 0) 1 8 Tryd.underlying22 hi hz0 hz1 hz2 rfl (by decide) _ (l.length + 1) (ivals (l.take l.length) ++ [Value.int .i64 n]) rfl hown8 _ 0 _ (ivals (l.drop l.length)) rfl (by rw [ivals_len]; simp) (r2.below cb (Nat.le_refl _)) (ivals_one _) (by unfold maxLen; omega) (by omega) cb.size ?_
          intro A9 c9 w9 hown9 hgr9
          have cb := cb.grown hgr9 cb.size (fun k hk => (hown8.lt k hk).1)
          clear hown8
          refine hK.out _ _ (by go_keep) (fun hHeld => ?_)
          clear hK K
          go_simp
          refine wpAnyH_ready (rs := [12]) (by kernel_rfl) (by simp) ?_
          refine AllReadyH.cons rfl (fun K hK => ?_) AllReadyH.nil
          rw [if_pos (by kernel_rfl)]
          go_simp
          refine hK.out _ _ hHeld (fun hHeld => ?_)
          clear hK K
          go_simp
          refine wpAnyH_done (by kernel_rfl) ?_ _
          refine NoPanic.normal ?_
          have hcap := own_cap hown9
          have hlen := Lib.hid (show (withR l n).length = l.length + 1 + 0 by rw [hwb.out]; simp; try omega)
          have HRow : RowAt w9 A9 (ivals (withR l n)) := by rw [hwb.out, ivals_append, ivals_append]; exact RowAt.of_own hown9
          have HNA := fun A => NewA.of_own (w := w) (A := A) hown9 (Nat.le_refl _)
          clear hown9 hgr9
          go_wp2
          go_ret
          exact ⟨A9, c9, by first | (rw [hlen.out]; rfl) | rw [hlen.out], by rw [hlen.out]; exact hcap.1, hcap.2, HRow, cb, HNA _⟩

end Go.Proofs.YtgilmpakdohijaaDoor
