/-
  lock: Clone of locks, Add.
-/
import Derived.Test.YtepegkbikjjkjaaLk
import Derived.Lib.SliceRun
namespace Go.Proofs.Ytepegkbikjjkjaa
open Go.RowKit

theorem Try.infoLock : (Try.prog.info? 24).map (fun i => (i.zero, i.size, i.bytes)) = some (some (.agg #[.int .i64 0, .int .i64 0]), 2, 16) := by kernel_rfl
theorem below_undrew {w w' : World} (h : Below w.drew.heap.size w.drew w') : Below w.heap.size w w' := ⟨h.os, h.tape, h.output, h.size, h.block⟩

/-- A row of locks of the call's own. -/
def NewLocks (l : List (Int × Int)) (w : World) (e : Ending) (w' : World) : Prop :=
  ∃ A c, e = .returned (.slice A l.length c) ∧ w'.ownsRow w.heap.size 24 2 (.slice A l.length c) l.length (ivals (lks l)) ∧ Below w.heap.size w w'

set_option maxHeartbeats 1000000 in
theorem lclone_any {A : Option Addr} {c : Nat} {l : List (Int × Int)} {w : World} (hm : l.length ≤ 1000000) (hr : RowL w A l) :
    Calls Try.prog 12 #[.slice A l.length c] w (NewLocks l w) := by
  obtain ⟨i0, hi, hz0, hz1, hz2⟩ := info_parts Try.infoLock
  rcases A with _ | a
  · obtain rfl : l = [] := by
      rcases Nat.eq_zero_or_pos l.length with h | h
      · exact List.eq_nil_of_length_eq_zero h
      · obtain ⟨b, off, h, _⟩ := hr.get h
        cases h
    have hE := fun (w : World) (n c : Nat) => Lib.run_eql_slice_nil (P := Try.prog) w 22 24 none n c 0 0 Try.underlying22
    rw [Option.isNone_none] at hE
    go_enter Try.func12, Try.ntmps12
    go_wp2
    go_ret
    exact ⟨none, 0, rfl, World.ownsRow_nil _ _ _ _, Below.refl _ _⟩
  · have hE := fun (w : World) (n c : Nat) => Lib.run_eql_slice_nil (P := Try.prog) w 22 24 (some a) n c 0 0 Try.underlying22
    rw [Option.isNone_some] at hE
    have hn : ∀ j u, (ivals (lks l))[j]? = some u → (w.alloc (.cells #[] 24)).cell? (a.add j) = some u := by
      intro j u hj
      have hjl : j < (ivals (lks l)).length := (List.getElem?_eq_some_iff.1 hj).1
      obtain ⟨b, off, he, _, hc⟩ := (RowAt.alloc hr (.cells #[] 24)) (by omega)
      injection he with he
      subst he
      rw [addr_add]
      exact hc j u hj
    go_enter Try.func12, Try.ntmps12
    go_wp2_with (at_builtin; refine wpList_wanted rfl (wp_append_own _ _ _ 22 rfl w.heap.size 24 i0 (.agg #[.int .i64 0, .int .i64 0]) 2 16 Try.underlying22 hi hz0 hz1 hz2 rfl (by decide) _ 0 [] rfl (own_empty (Nat.le_refl _) rfl) a l.length _ (ivals (lks l)) rfl (by rw [ivals_len, lks_len]; omega) hn (ivals_one _) (by unfold maxLen; omega) (by omega) (by simp) ?_))
    intro v1 w7 hown7 hr7 _
    obtain ⟨A7, c7, rfl, _⟩ := own_form hown7
    have B7 : Below w.heap.size w w7 := ((Below.refl _ _).alloc (Nat.le_refl _) _).grown hr7 (by simp) (by simp [Value.ownBlock])
    clear hr7
    go_wp2
    go_ret
    exact ⟨A7, c7, rfl, hown7, B7⟩

/-- What Add tells. -/
def addL (l : List (Int × Int)) (a b n : Int) : List (Int × Int) × Int := if 400 ≤ l.length then ([], 3) else if mayI l a b n ≠ 0 then ([], mayI l a b n) else (l ++ [(a, b)], 0)
def PairRow (p : List (Int × Int) × Int) (w : World) (e : Ending) (w' : World) : Prop :=
  ∃ A c, e = .returned (.tuple #[.slice A p.1.length c, .int .i64 p.2]) ∧ RowL w' A p.1 ∧ Below w.heap.size w w'
theorem PairRow.none {k : Int} {w w' : World} (h : Below w.heap.size w w') : PairRow ([], k) w (.returned (.tuple #[.slice Option.none 0 0, .int .i64 k])) w' := ⟨Option.none, 0, rfl, RowAt.nil _ _, h⟩
theorem RowL.of_own {w : World} {base n c : Nat} {A : Option Addr} {l : List (Int × Int)} (h : w.ownsRow base 24 2 (.slice A n c) n (ivals (lks l))) : RowL w A l := by
  intro hn
  have hl : (ivals (lks l)).length = n * 2 := by simpa using h.1
  obtain ⟨A', c', hv, hf⟩ := own_form h
  obtain ⟨g, hA, hb, hlt⟩ := hf (by omega)
  injection hv with hv1 hv2 hv3
  subst hv1 hv3 hA
  refine ⟨g, 0, rfl, hlt, fun j u hj => ?_⟩
  have hjl : j < (ivals (lks l)).length := (List.getElem?_eq_some_iff.1 hj).1
  rw [Nat.zero_add, h.cellAt j (by omega)]
  exact hj

set_option maxRecDepth 100000 in
set_option maxHeartbeats 2000000 in
theorem add_any {A : Option Addr} {cap : Nat} {l : List (Int × Int)} {a b n : Int} {w : World} (hm : l.length ≤ 1000000) (hr : RowL w A l) :
    Calls Try.prog 5 #[.slice A l.length cap, .agg #[.int .i64 a, .int .i64 b], .int .i64 n] w (PairRow (addL l a b n) w) := by
  obtain ⟨i0, hi, hz0, hz1, hz2⟩ := info_parts Try.infoLock
  by_cases h : 400 ≤ l.length
  · rw [show addL l a b n = ([], 3) from if_pos h]
    go_enter Try.func5, Try.ntmps5
    go_wp2
    go_ret2
    exact PairRow.none ((Below.refl _ _).alloc (Nat.le_refl _) _)
  · have M := Lib.hid fun w (h : RowL w A l) => may_any (c := cap) (a := a) (b := b) (n := n) hm h
    by_cases h2 : mayI l a b n = 0
    · rw [show addL l a b n = (l ++ [(a, b)], 0) by unfold addL; rw [if_neg h, if_neg (by simp [h2])]]
      rw [h2] at M
      clear h2
      have C := Lib.hid fun w (h : RowL w A l) => lclone_any (c := cap) hm h
      have r0 := hr.alloc (.cells #[.int .i64 a, .int .i64 b] 24)
      go_enter Try.func5, Try.ntmps5
      go_wp2_with fail
      refine (M.out _ r0).mono ?_
      rintro e' W ⟨rfl, b0⟩
      have x4 := (Box.new w 24 #[.int .i64 a, .int .i64 b]).later b0
      have r1 := r0.below b0 (Nat.le_refl _)
      have B1 := below_up b0
      have k4 := x4.cells
      have l4 := x4.lt
      clear b0 r0 hr
      go_wp2
      go_region_held3 (fun w' => w'.cell? ⟨w.heap.size, 0, none⟩ = some (.int .i64 a) ∧ w'.cell? ⟨w.heap.size, 1, none⟩ = some (.int .i64 b)) (go_keep)
        (first
          | (go_at_call 12; refine (C.out _ (by first | exact r1.drew | exact (r1.alloc _).drew)).mono ?_; rintro e' w1 ⟨A1, c1, rfl, hown, b1⟩; have y4 : Box w1 w.heap.size 24 #[.int .i64 a, .int .i64 b] := (by first | exact x4.drew.later b1 | exact (x4.alloc _).drew.later b1); have ky4 := y4.cells; have ly4 := y4.lt; have cb : Below W.heap.size W w1 := (by first | exact below_undrew b1 | exact below_up (below_undrew b1)); have hown := own_base (base' := W.heap.size) hown (by first | exact Nat.le_refl _ | (simp; done)); (first | (have z1 := (Box.new W 24 #[.int .i64 a, .int .i64 b]).drew.later b1) | skip))
          | (refine step_append_lies _ (by rfl) _ _ _ (by rfl) W.heap.size 24 i0 (.agg #[.int .i64 0, .int .i64 0]) 2 16 Try.underlying22 hi hz0 hz1 hz2 rfl (by decide) _ l.length _ (by rfl) (hown.alloc _) ⟨w1.heap.size, 0, none⟩ 1 1 [.int .i64 a, .int .i64 b] (by rfl) (by rfl) (World.news_of_block (cs := #[.int .i64 a, .int .i64 b]) (heap_alloc_new w1 _)) (ivals_one [a, b]) (by omega) (by unfold maxLen; omega) (by omega) (by have := cb.size; simp; omega) _ (by rfl) ?_; intro gg c2 w2 hown2 hgrow hat hlt; have y5 := (y4.alloc (.cells #[.int .i64 a, .int .i64 b] 24)).grown hgrow (fun he => by have := (hown.lt _ he.symm).1; omega); have ky5 := y5.cells; have B2 := (cb.alloc cb.size (.cells #[.int .i64 a, .int .i64 b] 24)).grown hgrow (by have := cb.size; simp; omega) (fun k hk => (hown.lt k hk).1))
          | (refine step_append_lies _ (by rfl) _ _ _ (by rfl) W.heap.size 24 i0 (.agg #[.int .i64 0, .int .i64 0]) 2 16 Try.underlying22 hi hz0 hz1 hz2 rfl (by decide) _ l.length _ (by rfl) hown ⟨W.heap.size, 0, none⟩ 1 1 [.int .i64 a, .int .i64 b] (by rfl) (by rfl) (World.news_of_block (cs := #[.int .i64 a, .int .i64 b]) z1) (ivals_one [a, b]) (by omega) (by unfold maxLen; omega) (by omega) cb.size _ (by rfl) ?_; intro gg c2 w2 hown2 hgrow hat hlt; have y5 := y4.grown hgrow (fun he => by have := (hown.lt _ he.symm).1; omega); have ky5 := y5.cells; have B2 := cb.grown hgrow cb.size (fun k hk => (hown.lt k hk).1)))
      all_goals
        have hrow := RowL.of_own (l := l ++ [(a, b)]) (by rw [lks_append, ivals_append]; exact hown2)
        have hlen : (l ++ [(a, b)]).length = l.length + 1 := by simp
        have BB := B1.trans (B2.mono B1.size)
        clear ky4 k4 ky5 hown hown2
        go_wp2
        go_ret2
        refine ⟨some ⟨gg, 0, none⟩, c2, by rw [hlen]; rfl, hrow, BB⟩
    · rw [show addL l a b n = ([], mayI l a b n) by unfold addL; rw [if_neg h, if_pos h2]]
      have r0 := hr.alloc (.cells #[.int .i64 a, .int .i64 b] 24)
      have hb : (mayI l a b n != 0) = true := by simpa using h2
      generalize mayI l a b n = q at *
      go_enter Try.func5, Try.ntmps5
      go_wp2_with fail
      refine (M.out _ r0).mono ?_
      rintro e' W ⟨rfl, b0⟩
      go_wp2
      go_ret2
      exact PairRow.none (below_up b0)
end Go.Proofs.Ytepegkbikjjkjaa
