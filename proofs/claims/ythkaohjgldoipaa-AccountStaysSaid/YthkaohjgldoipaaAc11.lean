/-
  account: Move; the document's.
-/
import Derived.Test.YthkaohjgldoipaaAc10
namespace Go.Proofs.Ythkaohjgldoipaa
open Go.RowKit

theorem avs_set (l : List Acc) (k : Nat) (p : Int) (hk : k < l.length) : avs (moveA l k p) = (avs l).set (k * 4) (.int .i64 p) := by
  induction l generalizing k with
  | nil => simp at hk
  | cons x r ih =>
    cases k with
    | zero => rfl
    | succ k =>
      have h := ih k (by simpa using hk)
      rw [show moveA (x :: r) (k + 1) p = x :: moveA r k p from rfl, avs_cons, avs_cons, h, show (k + 1) * 4 = k * 4 + 1 + 1 + 1 + 1 by omega]
      rfl
/-- What Move tells. -/
def moveR (l : List Acc) (a p : Int) : List Acc × Int := if ¬ isA l a = true ∨ placeI p l.length = 21 then ([], 21) else if a ≤ 3 ∨ placeI p l.length ≠ 0 then ([], 28) else if p = a ∨ a ∈ upA l p then ([], 26) else (moveA l (a.toNat - 1) p, 0)
section
variable {A : Option Addr} {c : Nat} {l : List Acc} {w : World}
theorem move_own {w : World} {base k c : Nat} {A : Option Addr} (p : Int) (hk : k < l.length) (h : w.ownsRow base 60 4 (.slice A l.length c) l.length (avs l)) :
    ∃ g, A = some ⟨g, 0, none⟩ ∧ base ≤ g ∧ g < w.heap.size ∧ w.frozen? ⟨g, k * 4, none⟩ = false ∧ w.cell? ⟨g, k * 4, none⟩ = some (.int .i64 l[k].p) ∧
      (w.setCell ⟨g, k * 4, none⟩ (.int .i64 p)).ownsRow base 60 4 (.slice (some ⟨g, 0, none⟩) l.length c) l.length (avs (moveA l k p)) ∧ w.grownBy (w.setCell ⟨g, k * 4, none⟩ (.int .i64 p)) (some g) := by
  obtain ⟨A', c', hv, hf⟩ := own_form h
  obtain ⟨g, hA, hb, hlt⟩ := hf (by omega)
  injection hv with hv1 hv2 hv3
  subst hv1 hv3 hA
  have h2 := h.stored (k * 4) (.int .i64 p)
  refine ⟨g, rfl, hb, hlt, h.frozenAt _, ?_, ?_, h2.2⟩
  · rw [h.cellAt (k * 4) (by omega)]
    exact (avs_get l k hk).1
  · rw [avs_set l k p hk]
    exact h2.1
theorem PairC.of {l m : List Acc} {w w' : World} {base c : Nat} {A : Option Addr} (hl : m.length = l.length) (h : w'.ownsRow base 60 4 (.slice A l.length c) l.length (avs m)) (hb : Below w.heap.size w w') : PairC (m, 0) w (.returned (.tuple #[.slice A l.length c, .int .i64 0])) w' :=
  ⟨A, c, by rw [hl], by rw [hl]; exact (own_cap h).1, (own_cap h).2, RowC.of_own h, hb⟩
set_option maxRecDepth 100000 in
set_option maxHeartbeats 4000000 in
theorem amove_any (a p : Int) (hm : l.length ≤ 1000000) (hr : RowC w A l) : Calls Try.prog 42 #[.slice A l.length c, .int .i64 a, .int .i64 p] w (PairC (moveR l a p) w) := by
  have PL := fun w => place_any p l.length w
  have IS := fun w => ais_any A c l a w
  unfold moveR
  cases hia : isA l a
  · rw [if_pos (.inl (by decide))]
    rw [hia] at IS
    replace IS := Lib.hid IS
    clear hia hr
    generalize placeI p l.length = pe at *
    replace PL := Lib.hid PL
    go_enter Try.func42, Try.ntmps42
    go_wp2_with fail
    refine (PL.out _).mono ?_
    rintro e _ ⟨rfl, rfl⟩
    go_wp2_with fail
    refine (IS.out _).mono ?_
    rintro e _ ⟨rfl, rfl⟩
    go_wp2
    go_ret2
    exact PairC.none (Below.refl _ _)
  · rw [hia] at IS
    replace IS := Lib.hid IS
    by_cases hpe : placeI p l.length = 21
    · rw [if_pos (.inr hpe)]
      rw [hpe] at PL
      replace PL := Lib.hid PL
      clear hia hpe hr
      go_enter Try.func42, Try.ntmps42
      go_wp2_with fail
      refine (PL.out _).mono ?_
      rintro e _ ⟨rfl, rfl⟩
      go_wp2_with fail
      refine (IS.out _).mono ?_
      rintro e _ ⟨rfl, rfl⟩
      go_wp2
      go_ret2
      exact PairC.none (Below.refl _ _)
    · rw [if_neg (by simp [hpe])]
      have h21 : (placeI p l.length == 21) = false := by simpa using hpe
      by_cases ha3 : a ≤ 3
      · rw [if_pos (.inl ha3)]
        clear hia hpe hr
        generalize placeI p l.length = pe at *
        replace PL := Lib.hid PL
        go_enter Try.func42, Try.ntmps42
        go_wp2_with fail
        refine (PL.out _).mono ?_
        rintro e _ ⟨rfl, rfl⟩
        go_wp2_with fail
        refine (IS.out _).mono ?_
        rintro e _ ⟨rfl, rfl⟩
        go_wp2
        go_ret2
        exact PairC.none (Below.refl _ _)
      · by_cases hp0 : placeI p l.length = 0
        · rw [if_neg (by simp [hp0, ha3])]
          rw [hp0] at PL
          replace PL := Lib.hid PL
          clear hpe hp0 h21
          by_cases hpa : p = a
          · rw [if_pos (.inl hpa)]
            have he : (p == a) = true := by simpa using hpa
            clear hia hpa hr
            go_enter Try.func42, Try.ntmps42
            go_wp2_with fail
            refine (PL.out _).mono ?_
            rintro e _ ⟨rfl, rfl⟩
            go_wp2_with fail
            refine (IS.out _).mono ?_
            rintro e _ ⟨rfl, rfl⟩
            go_wp2
            go_ret2
            exact PairC.none (Below.refl _ _)
          · have he : (p == a) = false := by simpa using hpa
            have UP := Lib.hid fun (w : World) (hr : RowC w A l) => (aup_any (c := c) p hm hr).mono fun _ _ h => rowOf rfl h
            have HS := fun (A : Option Addr) (c : Nat) (w : World) (hr : RowAt w A (ivals (upA l p))) => scontains_any (A := A) (c := c) (l := upA l p) (n := a) (by have := upA_len l p; unfold maxLen; omega) hr
            have R := Lib.hid hr
            by_cases hin : a ∈ upA l p
            · rw [if_pos (.inr hin)]
              rw [decide_eq_true hin] at HS
              replace HS := Lib.hid HS
              clear hia hpa hr hin
              generalize upA l p = us at *
              go_enter Try.func42, Try.ntmps42
              go_wp2_with fail
              refine (PL.out _).mono ?_
              rintro e _ ⟨rfl, rfl⟩
              go_wp2_with fail
              refine (IS.out _).mono ?_
              rintro e _ ⟨rfl, rfl⟩
              go_wp2_with fail
              refine (UP.out _ R.out).mono ?_
              rintro e w1 ⟨A1, c1, rfl, r1, b1⟩
              go_wp2_with fail
              refine (HS.out _ _ _ r1).mono ?_
              rintro e _ ⟨rfl, rfl⟩
              go_wp2
              go_ret2
              exact PairC.none b1
            · rw [if_neg (fun h => h.elim hpa hin)]
              rw [decide_eq_false hin] at HS
              replace HS := Lib.hid HS
              obtain ⟨k, hk, rfl⟩ := isA_cast hia
              rw [show ((k : Int) + 1).toNat - 1 = k by omega]
              have C := Lib.hid fun w (h : RowC w A l) => aclone_any (c := c) hm h
              have ML := Lib.hid (moveA_len l k p)
              clear hia hpa hr hin
              generalize upA l p = us at *
              go_enter Try.func42, Try.ntmps42
              go_wp2_with fail
              refine (PL.out _).mono ?_
              rintro e _ ⟨rfl, rfl⟩
              go_wp2_with fail
              refine (IS.out _).mono ?_
              rintro e _ ⟨rfl, rfl⟩
              go_wp2_with fail
              refine (UP.out _ R.out).mono ?_
              rintro e w1 ⟨A1, c1, rfl, r1, b1⟩
              go_wp2_with fail
              refine (HS.out _ _ _ r1).mono ?_
              rintro e _ ⟨rfl, rfl⟩
              go_wp2_with fail
              refine (C.out _ (R.out.later b1)).mono ?_
              rintro e w2 ⟨A2, c2, rfl, hown, b2⟩
              obtain ⟨g, rfl, hg1, hg2, hfz, hcl, hown2, hgr2⟩ := move_own p hk hown
              have cb := (b1.trans (b2.mono b1.size)).grown hgr2 (Nat.le_trans b1.size b2.size) (fun k hk => by injection hk with hk; have := b1.size; omega)
              clear hown hgr2 r1 b1 b2
              go_wp2
              go_ret2
              exact PairC.of ML.out hown2 cb
        · have hne : (placeI p l.length != 0) = true := by simpa using hp0
          rw [if_pos (.inr hp0)]
          clear hia hpe hr hp0
          generalize placeI p l.length = pe at *
          replace PL := Lib.hid PL
          go_enter Try.func42, Try.ntmps42
          go_wp2_with fail
          refine (PL.out _).mono ?_
          rintro e _ ⟨rfl, rfl⟩
          go_wp2_with fail
          refine (IS.out _).mono ?_
          rintro e _ ⟨rfl, rfl⟩
          go_wp2
          go_ret2
          exact PairC.none (Below.refl _ _)

theorem move_p (p : Int) : placeI p l.length = if p < 0 ∨ (l.length : Int) < p then 21 else if 1 ≤ p ∧ p ≤ 3 then 28 else 0 := rfl
set_option maxRecDepth 100000 in
set_option maxHeartbeats 4000000 in
theorem rmove_any (a p : Int) (hm : l.length ≤ 1000000) (hr : RowC w A l) : Calls Try.prog 43 #[.slice A l.length c, .int .i64 a, .int .i64 p] w (PairC (moveR l a p) w) := by
  obtain ⟨i0, hi, hz0, hz1, hz2⟩ := info_parts Try.infoAcc
  have IS := fun w => ris_any A c l a w
  have IP := fun w => ris_any A c l p w
  unfold moveR
  cases hia : isA l a
  · rw [if_pos (.inl (by decide))]
    rw [hia] at IS
    replace IS := Lib.hid IS
    clear hia hr IP
    go_enter Try.func43, Try.ntmps43
    go_wp2_with fail
    refine (IS.out _).mono ?_
    rintro e _ ⟨rfl, rfl⟩
    go_wp2
    go_ret2
    exact PairC.none (Below.refl _ _)
  · rw [hia] at IS
    replace IS := Lib.hid IS
    by_cases hp0 : p = 0
    · subst hp0
      rw [if_neg (by rw [move_p, if_neg (by omega), if_neg (by omega)]; simp)]
      by_cases ha3 : a ≤ 3
      · rw [if_pos (.inl ha3)]
        clear hia hr
        go_enter Try.func43, Try.ntmps43
        go_wp2_with fail
        refine (IS.out _).mono ?_
        rintro e _ ⟨rfl, rfl⟩
        go_wp2
        go_ret2
        exact PairC.none (Below.refl _ _)
      · rw [if_neg (fun h => h.elim (fun h => ha3 h) (fun h => h (by rw [move_p, if_neg (by omega), if_neg (by omega)])))]
        by_cases hpa : (0 : Int) = a
        · rw [if_pos (.inl hpa)]
          have he : ((0 : Int) == a) = true := by simpa using hpa
          clear hia hpa hr
          go_enter Try.func43, Try.ntmps43
          go_wp2_with fail
          refine (IS.out _).mono ?_
          rintro e _ ⟨rfl, rfl⟩
          go_wp2
          go_ret2
          exact PairC.none (Below.refl _ _)
        · have he : ((0 : Int) == a) = false := by simpa using hpa
          have UP := Lib.hid fun (w : World) (hr : RowC w A l) => (rup_any (c := c) (0 : Int) hm hr).mono fun _ _ h => rowOf rfl h
          have HS := fun (A : Option Addr) (c : Nat) (w : World) (hr : RowAt w A (ivals (upA l (0 : Int)))) => has_any (A := A) (c := c) (l := upA l (0 : Int)) (n := a) (by have := upA_len l (0 : Int); unfold maxLen; omega) hr
          have R := Lib.hid hr
          by_cases hin : a ∈ upA l (0 : Int)
          · rw [if_pos (.inr hin)]
            rw [decide_eq_true hin] at HS
            replace HS := Lib.hid HS
            clear hia hpa hr hin
            generalize upA l (0 : Int) = us at *
            go_enter Try.func43, Try.ntmps43
            go_wp2_with fail
            refine (IS.out _).mono ?_
            rintro e _ ⟨rfl, rfl⟩
            go_wp2_with fail
            refine (UP.out _ R.out).mono ?_
            rintro e w1 ⟨A1, c1, rfl, r1, b1⟩
            go_wp2_with fail
            refine (HS.out _ _ _ r1).mono ?_
            rintro e _ ⟨rfl, rfl⟩
            go_wp2
            go_ret2
            exact PairC.none b1
          · rw [if_neg (fun h => h.elim hpa hin)]
            rw [decide_eq_false hin] at HS
            replace HS := Lib.hid HS
            obtain ⟨k, hk, rfl⟩ := isA_cast hia
            rw [show ((k : Int) + 1).toNat - 1 = k by omega]
            have ML := Lib.hid (moveA_len l k (0 : Int))
            clear hia hpa hr hin
            generalize upA l (0 : Int) = us at *
            go_enter Try.func43, Try.ntmps43
            go_wp2_with fail
            refine (IS.out _).mono ?_
            rintro e _ ⟨rfl, rfl⟩
            go_wp2_with fail
            refine (UP.out _ R.out).mono ?_
            rintro e w1 ⟨A1, c1, rfl, r1, b1⟩
            go_wp2_with fail
            refine (HS.out _ _ _ r1).mono ?_
            rintro e _ ⟨rfl, rfl⟩
            have r2 := R.out.later b1
            clear r1
            go_wp2_with (at_builtin; refine wpList_append_rowN rfl _ _ 50 rfl w1.heap.size 60 i0 (.agg #[.int .i64 0, .int .i64 0, .bool false, .bool false]) 4 24 Try.underlying50 hi hz0 hz1 hz2 rfl (by decide) _ 0 [] rfl (own_empty (Nat.le_refl _) rfl) A l.length c (avs l) rfl (by rw [avs_len, Nat.mul_comm]) (r2.alloc _) (avs_one l) (by unfold maxLen; omega) (by omega) (by simp) ?_)
            intro A7 c7 w7 hown7 hr7
            have B7 : Below w1.heap.size w1 w7 := ((Below.refl _ _).alloc (Nat.le_refl _) _).grown hr7 (by simp) (by simp [Value.ownBlock])
            have hown7 : w7.ownsRow w1.heap.size 60 4 (.slice A7 l.length c7) l.length (avs l) := by first | exact hown7 | simpa using hown7
            obtain ⟨g, rfl, hg1, hg2, hfz, hcl, hown2, hgr2⟩ := move_own (0 : Int) hk hown7
            have cb := (b1.trans (B7.mono b1.size)).grown hgr2 (Nat.le_trans b1.size B7.size) (fun k hk => by injection hk with hk; have := b1.size; omega)
            clear hown7 hgr2 r2 b1 B7 hr7
            go_wp2
            go_ret2
            exact PairC.of ML.out hown2 cb
    · have hne : (p != 0) = true := by simpa using hp0
      cases hip : isA l p
      · have h21 : placeI p l.length = 21 := by
          rw [move_p]
          rcases isA_not hip with h | ⟨_, h⟩
          · exact if_pos (.inl (by omega))
          · exact if_pos (.inr h)
        rw [if_pos (.inr h21)]
        rw [hip] at IP
        replace IP := Lib.hid IP
        clear hia hip hr h21 hp0
        go_enter Try.func43, Try.ntmps43
        go_wp2_with fail
        refine (IS.out _).mono ?_
        rintro e _ ⟨rfl, rfl⟩
        go_wp2_with fail
        refine (IP.out _).mono ?_
        rintro e _ ⟨rfl, rfl⟩
        go_wp2
        go_ret2
        exact PairC.none (Below.refl _ _)
      · obtain ⟨hp1, hp2⟩ := isA_iff.1 hip
        rw [if_neg (by rw [move_p, if_neg (by omega)]; split <;> simp)]
        rw [hip] at IP
        replace IP := Lib.hid IP
        clear hp0 hip
        by_cases ha3 : a ≤ 3
        · rw [if_pos (.inl ha3)]
          clear hia hr
          go_enter Try.func43, Try.ntmps43
          go_wp2_with fail
          refine (IS.out _).mono ?_
          rintro e _ ⟨rfl, rfl⟩
          go_wp2_with fail
          refine (IP.out _).mono ?_
          rintro e _ ⟨rfl, rfl⟩
          go_wp2
          go_ret2
          exact PairC.none (Below.refl _ _)
        · rcases (by omega : (1 ≤ p ∧ p ≤ 3) ∨ 3 < p) with ⟨hq1, hq2⟩ | hq
          · rw [if_pos (.inr (by rw [move_p, if_neg (by omega), if_pos ⟨hq1, hq2⟩]; decide))]
            clear hia hr
            go_enter Try.func43, Try.ntmps43
            go_wp2_with fail
            refine (IS.out _).mono ?_
            rintro e _ ⟨rfl, rfl⟩
            go_wp2_with fail
            refine (IP.out _).mono ?_
            rintro e _ ⟨rfl, rfl⟩
            go_wp2
            go_ret2
            exact PairC.none (Below.refl _ _)
          · rw [if_neg (fun h => h.elim (fun h => ha3 h) (fun h => h (by rw [move_p, if_neg (by omega), if_neg (by omega)])))]
            by_cases hpa : p = a
            · rw [if_pos (.inl hpa)]
              have he : (p == a) = true := by simpa using hpa
              clear hia hpa hr
              go_enter Try.func43, Try.ntmps43
              go_wp2_with fail
              refine (IS.out _).mono ?_
              rintro e _ ⟨rfl, rfl⟩
              go_wp2_with fail
              refine (IP.out _).mono ?_
              rintro e _ ⟨rfl, rfl⟩
              go_wp2
              go_ret2
              exact PairC.none (Below.refl _ _)
            · have he : (p == a) = false := by simpa using hpa
              have UP := Lib.hid fun (w : World) (hr : RowC w A l) => (rup_any (c := c) p hm hr).mono fun _ _ h => rowOf rfl h
              have HS := fun (A : Option Addr) (c : Nat) (w : World) (hr : RowAt w A (ivals (upA l p))) => has_any (A := A) (c := c) (l := upA l p) (n := a) (by have := upA_len l p; unfold maxLen; omega) hr
              have R := Lib.hid hr
              by_cases hin : a ∈ upA l p
              · rw [if_pos (.inr hin)]
                rw [decide_eq_true hin] at HS
                replace HS := Lib.hid HS
                clear hia hpa hr hin
                generalize upA l p = us at *
                go_enter Try.func43, Try.ntmps43
                go_wp2_with fail
                refine (IS.out _).mono ?_
                rintro e _ ⟨rfl, rfl⟩
                go_wp2_with fail
                refine (IP.out _).mono ?_
                rintro e _ ⟨rfl, rfl⟩
                go_wp2_with fail
                refine (UP.out _ R.out).mono ?_
                rintro e w1 ⟨A1, c1, rfl, r1, b1⟩
                go_wp2_with fail
                refine (HS.out _ _ _ r1).mono ?_
                rintro e _ ⟨rfl, rfl⟩
                go_wp2
                go_ret2
                exact PairC.none b1
              · rw [if_neg (fun h => h.elim hpa hin)]
                rw [decide_eq_false hin] at HS
                replace HS := Lib.hid HS
                obtain ⟨k, hk, rfl⟩ := isA_cast hia
                rw [show ((k : Int) + 1).toNat - 1 = k by omega]
                have ML := Lib.hid (moveA_len l k p)
                clear hia hpa hr hin
                generalize upA l p = us at *
                go_enter Try.func43, Try.ntmps43
                go_wp2_with fail
                refine (IS.out _).mono ?_
                rintro e _ ⟨rfl, rfl⟩
                go_wp2_with fail
                refine (IP.out _).mono ?_
                rintro e _ ⟨rfl, rfl⟩
                go_wp2_with fail
                refine (UP.out _ R.out).mono ?_
                rintro e w1 ⟨A1, c1, rfl, r1, b1⟩
                go_wp2_with fail
                refine (HS.out _ _ _ r1).mono ?_
                rintro e _ ⟨rfl, rfl⟩
                have r2 := R.out.later b1
                clear r1
                go_wp2_with (at_builtin; refine wpList_append_rowN rfl _ _ 50 rfl w1.heap.size 60 i0 (.agg #[.int .i64 0, .int .i64 0, .bool false, .bool false]) 4 24 Try.underlying50 hi hz0 hz1 hz2 rfl (by decide) _ 0 [] rfl (own_empty (Nat.le_refl _) rfl) A l.length c (avs l) rfl (by rw [avs_len, Nat.mul_comm]) (r2.alloc _) (avs_one l) (by unfold maxLen; omega) (by omega) (by simp) ?_)
                intro A7 c7 w7 hown7 hr7
                have B7 : Below w1.heap.size w1 w7 := ((Below.refl _ _).alloc (Nat.le_refl _) _).grown hr7 (by simp) (by simp [Value.ownBlock])
                have hown7 : w7.ownsRow w1.heap.size 60 4 (.slice A7 l.length c7) l.length (avs l) := by first | exact hown7 | simpa using hown7
                obtain ⟨g, rfl, hg1, hg2, hfz, hcl, hown2, hgr2⟩ := move_own p hk hown7
                have cb := (b1.trans (B7.mono b1.size)).grown hgr2 (Nat.le_trans b1.size B7.size) (fun k hk => by injection hk with hk; have := b1.size; omega)
                clear hown7 hgr2 r2 b1 B7 hr7
                go_wp2
                go_ret2
                exact PairC.of ML.out hown2 cb
end
end Go.Proofs.Ythkaohjgldoipaa
