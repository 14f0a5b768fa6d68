/-
  entity.Add, Of, and their reference's: lists in new memory.
-/
import Derived.Test.YthdlcocodamlpaaEnt
namespace Go.Proofs.Ythdlcocodamlpaa
open Go.RowKit

/-- A list in new memory, and an error. -/
def PairRow (p : List Int × Int) (w : World) (e : Ending) (w' : World) : Prop :=
  ∃ A c, e = .returned (.tuple #[.slice A p.1.length c, .int .i64 p.2]) ∧ p.1.length ≤ c ∧ c ≤ maxLen ∧ RowAt w' A (ivals p.1) ∧ Below w.heap.size w w'
theorem PairRow.none {k : Int} {w : World} : PairRow ([], k) w (.returned (.tuple #[.slice Option.none 0 0, .int .i64 k])) w := ⟨Option.none, 0, rfl, Nat.le_refl _, Nat.zero_le _, RowAt.nil _ _, Below.refl _ _⟩
/-- What Add tells. -/
def addI (l : List Int) (c : Int) : List Int × Int := if moneyB c = false then ([], 23) else if 40 ≤ l.length then ([], 3) else (l ++ [c], 0)
theorem addI_cur {l : List Int} {c : Int} (h : moneyB c = false) : addI l c = ([], 23) := if_pos h
theorem addI_full {l : List Int} {c : Int} (h : moneyB c = true) (h2 : 40 ≤ l.length) : addI l c = ([], 3) := by unfold addI; rw [if_neg (by simp [h]), if_pos h2]
theorem addI_ok {l : List Int} {c : Int} (h : moneyB c = true) (h2 : ¬ 40 ≤ l.length) : addI l c = (l ++ [c], 0) := by unfold addI; rw [if_neg (by simp [h]), if_neg h2]

set_option maxHeartbeats 1000000 in
theorem add_any {A : Option Addr} {cap : Nat} {l : List Int} {c : Int} {w : World} (hm : l.length ≤ 1000000) (hr : RowAt w A (ivals l)) :
    Calls Try.prog 11 #[.slice A l.length cap, .int .i64 c] w (PairRow (addI l c) w) := by
  obtain ⟨i0, hi, hz0, hz1, hz2⟩ := info_parts Try.infoInt'
  have M := Lib.hid (money_any c)
  rcases hq : moneyB c with _ | _
  · rw [addI_cur hq]
    rw [hq] at M
    go_enter Try.func11, Try.ntmps11
    go_wp2_with fail
    refine (M.out _).mono ?_
    rintro e _ ⟨rfl, rfl⟩
    go_wp2
    go_ret2
    exact PairRow.none
  · by_cases h : 40 ≤ l.length
    · rw [addI_full hq h]
      rw [hq] at M
      go_enter Try.func11, Try.ntmps11
      go_wp2_with fail
      refine (M.out _).mono ?_
      rintro e _ ⟨rfl, rfl⟩
      go_wp2
      go_ret2
      exact PairRow.none
    · rw [addI_ok hq h]
      rw [hq] at M
      clear hq
      have C := Lib.hid fun w (h : RowAt w A (ivals l)) => sclone_any (c := cap) hm h
      go_enter Try.func11, Try.ntmps11
      go_wp2_with fail
      refine (M.out _).mono ?_
      rintro e _ ⟨rfl, rfl⟩
      go_wp2_with fail
      refine (C.out _ hr).mono ?_
      rintro e w1 ⟨A1, c1, rfl, hl1, hm1, hown, b1⟩
      have hN : l.length + 1 ≤ 1099511627776 := by omega
      go_wp2_with (at_builtin; refine wpList_append_int rfl _ _ 22 rfl w.heap.size 3 i0 Try.underlying22 hi hz0 hz1 hz2 _ _ _ rfl hown c rfl hN b1.size ?_)
      intro g3 c3 w4 hown4 hr4 hc3 hm3 hg3 hg3' hsz3
      have hb4 := b1.grown hr4 b1.size (fun k hk => (hown.lt k hk).1)
      clear hown hr4 b1
      go_wp2
      go_ret2
      have hrow := RowAt.of_own hown4
      have hlen : (l ++ [c]).length = l.length + 1 := by simp
      refine ⟨some ⟨g3, 0, none⟩, c3, by rw [hlen]; rfl, by rw [hlen]; exact hc3, hm3, ?_, hb4⟩
      rw [ivals_append]
      exact hrow

set_option maxHeartbeats 1000000 in
theorem radd_any {A : Option Addr} {cap : Nat} {l : List Int} {c : Int} {w : World} (hm : l.length ≤ 1000000) (hr : RowAt w A (ivals l)) :
    Calls Try.prog 12 #[.slice A l.length cap, .int .i64 c] w (PairRow (addI l c) w) := by
  obtain ⟨i0, hi, hz0, hz1, hz2⟩ := info_parts Try.infoInt'
  have M := Lib.hid (rmoney_any c)
  rcases hq : moneyB c with _ | _
  · rw [addI_cur hq]
    rw [hq] at M
    go_enter Try.func12, Try.ntmps12
    go_wp2_with fail
    refine (M.out _).mono ?_
    rintro e _ ⟨rfl, rfl⟩
    go_wp2
    go_ret2
    exact PairRow.none
  · by_cases h : 40 ≤ l.length
    · rw [addI_full hq h]
      rw [hq] at M
      go_enter Try.func12, Try.ntmps12
      go_wp2_with fail
      refine (M.out _).mono ?_
      rintro e _ ⟨rfl, rfl⟩
      go_wp2
      go_ret2
      exact PairRow.none
    · rw [addI_ok hq h]
      rw [hq] at M
      clear hq
      go_enter Try.func12, Try.ntmps12
      go_wp2_with fail
      refine (M.out _).mono ?_
      rintro e _ ⟨rfl, rfl⟩
      go_wp2_with (at_builtin; refine wpList_append_row rfl _ _ 22 rfl w.heap.size 3 i0 (.int .i64 0) 8 Try.underlying22 hi hz0 hz1 hz2 rfl _ 0 [] rfl (own_empty (Nat.le_refl _) rfl) A _ _ (ivals l) rfl (ivals_len l) (hr.alloc _) (ivals_one l) (by unfold maxLen; omega) (by omega) (by simp) ?_)
      intro A1 c1 w1 hown hr1 hs1 hg1
      have b1 : Below w.heap.size w w1 := ((Below.refl _ _).alloc (Nat.le_refl _) _).grown hr1 (by simp) (by simp [Value.ownBlock])
      clear hr1 hg1
      have hN : l.length + 1 ≤ 1099511627776 := by omega
      go_wp2_with (at_builtin; refine wpList_append_int rfl _ _ 22 rfl w.heap.size 3 i0 Try.underlying22 hi hz0 hz1 hz2 _ _ _ rfl hown c rfl hN b1.size ?_)
      intro g3 c3 w4 hown4 hr4 hc3 hm3 hg3 hg3' hsz3
      have hb4 := b1.grown hr4 b1.size (fun k hk => (hown.lt k hk).1)
      clear hown hr4 b1
      go_wp2
      go_ret2
      have hrow := RowAt.of_own hown4
      have hlen : (l ++ [c]).length = l.length + 1 := by simp
      refine ⟨some ⟨g3, 0, none⟩, c3, by rw [hlen]; rfl, by rw [hlen]; exact hc3, hm3, ?_, hb4⟩
      rw [ivals_append]
      exact hrow

/-- What Of has collected after k places. -/
def ofTo (l cs : List Int) : Nat → List Int
  | 0 => []
  | k + 1 => if l.getD k 0 ∈ cs then ofTo l cs k ++ [(k : Int) + 1] else ofTo l cs k
theorem ofTo_len (l cs : List Int) (k : Nat) : (ofTo l cs k).length ≤ k := by
  induction k with
  | zero => simp [ofTo]
  | succ k ih =>
    unfold ofTo
    split
    · rw [List.length_append]; simp; omega
    · omega
theorem ofTo_yes {l cs : List Int} {k : Nat} (hk : k < l.length) (h : decide (l[k] ∈ cs) = true) : ofTo l cs (k + 1) = ofTo l cs k ++ [(k : Int) + 1] := by
  have h := of_decide_eq_true h
  rw [ofTo, if_pos (by simpa [hk] using h)]
theorem ofTo_no {l cs : List Int} {k : Nat} (hk : k < l.length) (h : decide (l[k] ∈ cs) = false) : ofTo l cs (k + 1) = ofTo l cs k := by
  have h := of_decide_eq_false h
  rw [ofTo, if_neg (by simpa [hk] using h)]

set_option maxHeartbeats 1000000 in
theorem of_any {A A' : Option Addr} {c c' : Nat} {l cs : List Int} {w : World} (hm : l.length ≤ 1000000) (hm' : cs.length ≤ 1000000) (hr : RowAt w A (ivals l)) (hr' : RowAt w A' (ivals cs)) :
    Calls Try.prog 14 #[.slice A l.length c, .slice A' cs.length c'] w (NewRow (ofTo l cs l.length) w) := by
  obtain ⟨i0, hi, hz0, hz1, hz2⟩ := info_parts Try.infoInt'
  have C := Lib.hid fun n w (h : RowAt w A' (ivals cs)) => scontains_any (c := c') (n := n) (by unfold maxLen; omega : cs.length ≤ maxLen) h
  go_enter Try.func14, Try.ntmps14
  go_wp2
  go_loopw [5, 10] (fun v i wr => ∃ k : Nat, k ≤ l.length ∧ i = .int .i64 k ∧ wr.ownsRow w.heap.size 3 1 v (ofTo l cs k).length (ivals (ofTo l cs k)) ∧ Below w.heap.size w wr) (fun _ i _ => l.length - (intOf i).toNat)
  case atStart => exact ⟨0, by omega, rfl, World.ownsRow_nil _ _ _ _, Below.refl _ _⟩
  case round =>
    obtain ⟨k, hk, rfl, hown, hb⟩ := hrel
    obtain ⟨Av, cv, rfl, _⟩ := own_form hown
    by_cases hkn : k < l.length
    · obtain ⟨b, off, rfl, hbl, hc⟩ := hr.iget (by omega)
      have h1 : wr.cell? ⟨b, off + k, none⟩ = some (.int .i64 l[k]) := (hb.cell (by exact hbl)).trans (hc k hkn)
      have hlen := ofTo_len l cs k
      have E1 := Lib.hid (ofTo_yes (cs := cs) hkn)
      have E2 := Lib.hid (ofTo_no (cs := cs) hkn)
      have C1 := Lib.hid (C.out l[k])
      clear hc
      generalize decide (l[k] ∈ cs) = q at *
      generalize l[k] = x at *
      go_wp2_with fail
      refine (C1.out _ (hr'.below hb (Nat.le_refl _))).mono ?_
      rintro e _ ⟨rfl, rfl⟩
      cases q
      · have E := Lib.hid (E2.out rfl)
        clear E1 E2 C1 h1
        go_wp2
        go_roundw
        case rel => exact ⟨k + 1, by omega, by go_num, by rw [E.out]; exact hown, hb⟩
        case measure => simp [intOf]; omega
      · have E := Lib.hid (E1.out rfl)
        clear E1 E2 C1 h1
        have hN : (ofTo l cs k).length + 1 ≤ 1099511627776 := by omega
        have hsz := hb.size
        go_wp2_with (at_builtin; refine wpList_append_int rfl _ _ 22 rfl w.heap.size 3 i0 Try.underlying22 hi hz0 hz1 hz2 _ _ _ rfl hown ((k : Int) + 1) rfl hN hsz ?_)
        intro g3 c3 w4 hown4 hr4 hc3 hm3 hg3 hg3' hsz3
        have hb4 := hb.grown hr4 hsz (fun k hk => (hown.lt k hk).1)
        clear hown hr4 hb
        go_wp2
        go_roundw
        case rel => exact ⟨k + 1, by omega, by go_num, by rw [E.out, ivals_append, List.length_append]; exact hown4, hb4⟩
        case measure => simp [intOf]; omega
    · obtain rfl : k = l.length := by omega
      have hcap := own_cap hown
      have H := Lib.hid hown
      clear hown
      go_wp2
      go_ret
      exact ⟨Av, cv, rfl, hcap.1, hcap.2, H.out, hb⟩

set_option maxHeartbeats 1000000 in
theorem rof_any {A A' : Option Addr} {c c' : Nat} {l cs : List Int} {w : World} (hm : l.length ≤ 1000000) (hm' : cs.length ≤ 1000000) (hr : RowAt w A (ivals l)) (hr' : RowAt w A' (ivals cs)) :
    Calls Try.prog 15 #[.slice A l.length c, .slice A' cs.length c'] w (NewRow (ofTo l cs l.length) w) := by
  obtain ⟨i0, hi, hz0, hz1, hz2⟩ := info_parts Try.infoInt'
  have C := Lib.hid fun n w (h : RowAt w A' (ivals cs)) => has_any (c := c') (n := n) (by unfold maxLen; omega : cs.length ≤ maxLen) h
  go_enter Try.func15, Try.ntmps15
  go_wp2
  go_loopw [5, 6] (fun v i wr => ∃ k : Nat, k ≤ l.length ∧ i = .int .i64 k ∧ wr.ownsRow w.heap.size 3 1 v (ofTo l cs k).length (ivals (ofTo l cs k)) ∧ Below w.heap.size w wr) (fun _ i _ => l.length - (intOf i).toNat)
  case atStart => exact ⟨0, by omega, rfl, World.ownsRow_nil _ _ _ _, Below.refl _ _⟩
  case round =>
    obtain ⟨k, hk, rfl, hown, hb⟩ := hrel
    obtain ⟨Av, cv, rfl, _⟩ := own_form hown
    by_cases hkn : k < l.length
    · obtain ⟨b, off, rfl, hbl, hc⟩ := hr.iget (by omega)
      have h1 : wr.cell? ⟨b, off + k, none⟩ = some (.int .i64 l[k]) := (hb.cell (by exact hbl)).trans (hc k hkn)
      have hlen := ofTo_len l cs k
      have E1 := Lib.hid (ofTo_yes (cs := cs) hkn)
      have E2 := Lib.hid (ofTo_no (cs := cs) hkn)
      have C1 := Lib.hid (C.out l[k])
      clear hc
      generalize decide (l[k] ∈ cs) = q at *
      generalize l[k] = x at *
      go_wp2_with fail
      refine (C1.out _ (hr'.below hb (Nat.le_refl _))).mono ?_
      rintro e _ ⟨rfl, rfl⟩
      cases q
      · have E := Lib.hid (E2.out rfl)
        clear E1 E2 C1 h1
        go_wp2
        go_roundw
        case rel => exact ⟨k + 1, by omega, by go_num, by rw [E.out]; exact hown, hb⟩
        case measure => simp [intOf]; omega
      · have E := Lib.hid (E1.out rfl)
        clear E1 E2 C1 h1
        have hN : (ofTo l cs k).length + 1 ≤ 1099511627776 := by omega
        have hsz := hb.size
        go_wp2_with (at_builtin; refine wpList_append_int rfl _ _ 22 rfl w.heap.size 3 i0 Try.underlying22 hi hz0 hz1 hz2 _ _ _ rfl hown ((k : Int) + 1) rfl hN hsz ?_)
        intro g3 c3 w4 hown4 hr4 hc3 hm3 hg3 hg3' hsz3
        have hb4 := hb.grown hr4 hsz (fun k hk => (hown.lt k hk).1)
        clear hown hr4 hb
        go_wp2
        go_roundw
        case rel => exact ⟨k + 1, by omega, by go_num, by rw [E.out, ivals_append, List.length_append]; exact hown4, hb4⟩
        case measure => simp [intOf]; omega
    · obtain rfl : k = l.length := by omega
      have hcap := own_cap hown
      have H := Lib.hid hown
      clear hown
      go_wp2
      go_ret
      exact ⟨Av, cv, rfl, hcap.1, hcap.2, H.out, hb⟩
end Go.Proofs.Ythdlcocodamlpaa
