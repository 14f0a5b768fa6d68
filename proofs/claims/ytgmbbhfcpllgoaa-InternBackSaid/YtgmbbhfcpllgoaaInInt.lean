/-
  The contracts of a table of ints: New, made, Id, Find, Key, Len, Cut.
-/
import Derived.Test.YtgmbbhfcpllgoaaIn
namespace Go.Proofs.Ytgmbbhfcpllgoaa
open Go.RowKit Go.Maps

abbrev TI (w : World) (g m : Nat) (most : Int) (v : Value) (xs : List Int) : Prop := TabAt Try.prog 65 3 1 w g m most v (ivals xs) (xs.map (Lit.int .i64))

set_option maxHeartbeats 400000 in
theorem imade_yes (w : World) (g m : Nat) (most : Int) (v : Value) (xs : List Int) (h : TI w g m most v xs) :
    Calls Try.prog 29 #[.pointer (some ⟨g, 0, none⟩)] w fun e w' => e = .returned (.bool true) ∧ w = w' := by
  obtain ⟨c0, c1, c2, f0⟩ := h.cells
  clear h
  have hn := fun w => run_neq_map_nil (P := Try.prog) w 63 3 3 (some m) Try.underlying63
  go_enter Try.func29, Try.ntmps29
  go_wp2
  go_ret
  exact ⟨rfl, rfl⟩

set_option maxHeartbeats 400000 in
theorem imade_no (w : World) :
    Calls Try.prog 29 #[.pointer none] w fun e w' => e = .returned (.bool false) ∧ w = w' := by
  go_enter Try.func29, Try.ntmps29
  go_wp2
  go_ret
  exact ⟨rfl, rfl⟩

set_option maxHeartbeats 400000 in
theorem ilen_yes (w : World) (g m : Nat) (most : Int) (v : Value) (xs : List Int) (h : TI w g m most v xs) :
    Calls Try.prog 11 #[.pointer (some ⟨g, 0, none⟩)] w fun e w' => e = .returned (.int .i64 xs.length) ∧ w = w' := by
  have M := imade_yes w g m most v xs h
  obtain ⟨A, c, rfl, _⟩ := own_form h.row
  obtain ⟨c0, c1, c2, f0⟩ := h.cells
  clear h
  go_enter Try.func11, Try.ntmps11
  go_wp2_with (go_at_call 29; refine M.mono ?_; rintro e w' ⟨rfl, rfl⟩)
  go_ret
  exact ⟨by simp, rfl⟩

set_option maxHeartbeats 400000 in
theorem inew_yes (w : World) (n : Int) (h1 : 1 ≤ n) (h2 : n ≤ 20000) :
    Calls Try.prog 7 #[.int .i64 n] w fun e w' => ∃ g m, e = .returned (.tuple #[.pointer (some ⟨g, 0, none⟩), .int .i64 0]) ∧ TI w' g m n (.slice none 0 0) [] ∧ Below w.heap.size w w' ∧ w.heap.size ≤ g ∧ w.heap.size ≤ m := by
  have hmm := @run_makeMap Try.prog
  go_enter Try.func7, Try.ntmps7
  go_wp2
  go_ret2
  have hb : Below w.heap.size w (w.alloc (.map #[] 0)) := (Below.refl _ _).alloc (Nat.le_refl _) _
  refine ⟨_, _, rfl, ⟨?_, World.ownsRow_nil _ _ _ _, _, (World.ownsMap_made (H := Unit) w _ _ _).alloc _, Idx.nil⟩, hb.alloc (by simp) _, by simp, Nat.le_refl _⟩
  have := heap_alloc_new (w.alloc (.map #[] 0)) (.cells #[.slice none 0 0, .map (some w.heap.size), .int .i64 n] 65)
  simpa only [World.size_alloc] using this

set_option maxHeartbeats 400000 in
theorem inew_no (w : World) (n : Int) (h : n < 1 ∨ 20000 < n) :
    Calls Try.prog 7 #[.int .i64 n] w fun e w' => e = .returned (.tuple #[.pointer none, .int .i64 2]) ∧ w = w' := by
  rcases h with h | h
  · go_enter Try.func7, Try.ntmps7
    go_wp2
    go_ret2
    exact ⟨rfl, rfl⟩
  · have h' : ¬ n < 1 := by omega
    go_enter Try.func7, Try.ntmps7
    go_wp2
    go_ret2
    exact ⟨rfl, rfl⟩

theorem Try.infoIntI : (Try.prog.info? 3).map (fun i => (i.zero, i.size, i.bytes)) = some (some (.int .i64 0), 1, 8) := by kernel_rfl
theorem ikey (k : Int) : WideAt.IsKeyLit (.int .i64 k) := by simp [WideAt.IsKeyLit]
theorem ikeyed : Keyed Try.prog 3 := int_keyed Try.underlying3
theorem izero (w : World) : (zeroValue 3).run Try.prog w = .ok (.int .i64 0) w := by kernel_rfl

set_option maxHeartbeats 400000 in
theorem ifind_yes (w : World) (g m : Nat) (most : Int) (v : Value) (xs : List Int) (h : TI w g m most v xs) (k : Int) (hw : (Lit.int .i64 k).wf = true) (i : Nat) (hi : xs[i]? = some k) :
    Calls Try.prog 23 #[.pointer (some ⟨g, 0, none⟩), .int .i64 k] w fun e w' => e = .returned (.tuple #[.int .i64 i, .bool true]) ∧ w = w' := by
  have M := imade_yes w g m most v xs h
  obtain ⟨c0, c1, c2, f0⟩ := h.cells
  obtain ⟨D, hown, hI⟩ := h.map
  have hkey := keyOf_int_mk Try.underlying3 hw
  obtain ⟨hh, ha⟩ := hI.yes i (.int .i64 k) (by simp [hi])
  clear h hI
  go_enter Try.func23, Try.ntmps23
  go_wp2_with (first
    | (go_at_call 29; refine M.mono ?_; rintro e w' ⟨rfl, rfl⟩)
    | (at_lookup; refine wpList_lookup_own_ok_int _ rfl _ _ 63 rfl 3 3 .i64 ikeyed Try.underlying63 Try.underlying3 (izero _) m _ D rfl hown _ _ rfl hkey ?_; intro c hat hwc; obtain rfl : (i : Int) = c := (by rw [ha] at hat; injection hat with hat; injection hat); clear hat hwc)
    | go_in)
  go_ret2
  exact ⟨rfl, rfl⟩

set_option maxHeartbeats 400000 in
theorem ifind_no (w : World) (g m : Nat) (most : Int) (v : Value) (xs : List Int) (h : TI w g m most v xs) (k : Int) (hw : (Lit.int .i64 k).wf = true) (hi : k ∉ xs) :
    Calls Try.prog 23 #[.pointer (some ⟨g, 0, none⟩), .int .i64 k] w fun e w' => e = .returned (.tuple #[.int .i64 0, .bool false]) ∧ w = w' := by
  have M := imade_yes w g m most v xs h
  obtain ⟨c0, c1, c2, f0⟩ := h.cells
  obtain ⟨D, hown, hI⟩ := h.map
  have hkey := keyOf_int_mk Try.underlying3 hw
  have hh := hI.not (.int .i64 k) (by simpa using hi)
  have ha := atKey_of_not_has hh (.lit (.int .i64 0))
  clear h hI
  go_enter Try.func23, Try.ntmps23
  go_wp2_with (first
    | (go_at_call 29; refine M.mono ?_; rintro e w' ⟨rfl, rfl⟩)
    | (at_lookup; refine wpList_lookup_own_ok_int _ rfl _ _ 63 rfl 3 3 .i64 ikeyed Try.underlying63 Try.underlying3 (izero _) m _ D rfl hown _ _ rfl hkey ?_; intro c hat hwc; obtain rfl : (0 : Int) = c := (by rw [ha] at hat; injection hat with hat; injection hat); clear hat hwc)
    | go_in)
  go_ret2
  exact ⟨rfl, rfl⟩

set_option maxHeartbeats 400000 in
theorem iid_there (w : World) (g m : Nat) (most : Int) (v : Value) (xs : List Int) (h : TI w g m most v xs) (k : Int) (hw : (Lit.int .i64 k).wf = true) (i : Nat) (hi : xs[i]? = some k) :
    Calls Try.prog 21 #[.pointer (some ⟨g, 0, none⟩), .int .i64 k] w fun e w' => e = .returned (.tuple #[.int .i64 i, .int .i64 0]) ∧ w = w' := by
  have M := imade_yes w g m most v xs h
  obtain ⟨c0, c1, c2, f0⟩ := h.cells
  obtain ⟨D, hown, hI⟩ := h.map
  have hkey := keyOf_int_mk Try.underlying3 hw
  obtain ⟨hh, ha⟩ := hI.yes i (.int .i64 k) (by simp [hi])
  clear h hI
  go_enter Try.func21, Try.ntmps21
  go_wp2_with (first
    | (go_at_call 29; refine M.mono ?_; rintro e w' ⟨rfl, rfl⟩)
    | (at_lookup; refine wpList_lookup_own_ok_int _ rfl _ _ 63 rfl 3 3 .i64 ikeyed Try.underlying63 Try.underlying3 (izero _) m _ D rfl hown _ _ rfl hkey ?_; intro c hat hwc; obtain rfl : (i : Int) = c := (by rw [ha] at hat; injection hat with hat; injection hat); clear hat hwc)
    | go_in)
  go_ret2
  exact ⟨rfl, rfl⟩

set_option maxHeartbeats 400000 in
theorem iid_full (w : World) (g m : Nat) (most : Int) (v : Value) (xs : List Int) (h : TI w g m most v xs) (k : Int) (hw : (Lit.int .i64 k).wf = true) (hi : k ∉ xs) (hf : most ≤ xs.length) :
    Calls Try.prog 21 #[.pointer (some ⟨g, 0, none⟩), .int .i64 k] w fun e w' => e = .returned (.tuple #[.int .i64 0, .int .i64 3]) ∧ Below w.heap.size w w' := by
  have M := imade_yes w g m most v xs h
  obtain ⟨A, cp, rfl, -⟩ := own_form h.row
  obtain ⟨c0, c1, c2, f0⟩ := h.cells
  obtain ⟨D, hown, hI⟩ := h.map
  have hkey := keyOf_int_mk Try.underlying3 hw
  have hh := hI.not (.int .i64 k) (by simpa using hi)
  have ha := atKey_of_not_has hh (.lit (.int .i64 0))
  clear h hI
  have hl : (xs.map (Lit.int .i64)).length = xs.length := by simp
  rw [hl] at c0 hown
  clear hl
  go_enter Try.func21, Try.ntmps21
  go_upto_region 6 with (first
    | (go_at_call 29; refine M.mono ?_; rintro e w' ⟨rfl, rfl⟩)
    | (at_lookup; refine wpList_lookup_own_ok_int _ rfl _ _ 63 rfl 3 3 .i64 ikeyed Try.underlying63 Try.underlying3 (izero _) m _ D rfl hown _ _ rfl hkey ?_; intro c hat hwc; obtain rfl : (0 : Int) = c := (by rw [ha] at hat; injection hat with hat; injection hat); clear hat hwc)
    | go_in)
  go_region
  all_goals go_wp2
  all_goals go_ret2
  all_goals exact ⟨rfl, (Below.refl _ _).drew⟩

set_option maxHeartbeats 400000 in
theorem iid_new (w : World) (g m : Nat) (most : Int) (v : Value) (xs : List Int) (h : TI w g m most v xs) (k : Int) (hw : (Lit.int .i64 k).wf = true) (hi : k ∉ xs) (hf : xs.length < most) (hm : most ≤ 20000) :
    Calls Try.prog 21 #[.pointer (some ⟨g, 0, none⟩), .int .i64 k] w fun e w' => e = .returned (.tuple #[.int .i64 xs.length, .int .i64 0]) ∧
      ∃ v', TI w' g m most v' (xs ++ [k]) ∧ Only (foot g m v) w w' ∧ ∀ b, v'.ownBlock = some b → v.ownBlock = some b ∨ w.heap.size ≤ b := by
  have M := imade_yes w g m most v xs h
  have hgm := h.gm
  have hrg := h.rg (by decide)
  have hrm := h.rm
  have hlt := h.lt
  obtain ⟨A, cp, rfl, -⟩ := own_form h.row
  obtain ⟨c0, c1, c2, f0⟩ := h.cells
  obtain ⟨D, hown, hI⟩ := h.map
  have hrow := h.row
  have hkey := keyOf_int_mk Try.underlying3 hw
  have hh := hI.not (.int .i64 k) (by simpa using hi)
  have ha := atKey_of_not_has hh (.lit (.int .i64 0))
  have hst := h.st
  clear h
  have hl : (xs.map (Lit.int .i64)).length = xs.length := by simp
  rw [hl] at hrow hown hst c0 hrg hrm hlt ⊢
  clear hl
  obtain ⟨ti, hti, hz0, hz1, hz2⟩ := info_parts Try.infoIntI
  have hf' : ¬ most ≤ ((xs.length : Nat) : Int) := by omega
  go_enter Try.func21, Try.ntmps21
  go_upto_region 6 with (first
    | (go_at_call 29; refine M.mono ?_; rintro e w' ⟨rfl, rfl⟩)
    | (at_lookup; refine wpList_lookup_own_ok_int _ rfl _ _ 63 rfl 3 3 .i64 ikeyed Try.underlying63 Try.underlying3 (izero _) m _ D rfl hown _ _ rfl hkey ?_; intro c hat hwc; obtain rfl : (0 : Int) = c := (by rw [ha] at hat; injection hat with hat; injection hat); clear hat hwc)
    | go_in)
  go_region
  go_upto_region 9 with fail
  have hrow : w.drew.ownsRow 0 3 1 (.slice A xs.length cp) xs.length (ivals xs) := hrow
  have hown : w.drew.ownsMap Try.prog 3 (plainElem Try.prog 3) m xs.length D := hown
  go_wp2_with (first
    | (at_builtin; refine wpList_append_at (w := w.drew) rfl _ _ 28 rfl 3 ti (.int .i64 0) 1 8 Try.underlying28 hti hz0 hz1 hz2 rfl (by decide) (.slice A xs.length cp) xs.length (ivals xs) rfl hrow [Value.int .i64 k] rfl rfl (fun u hu => by simp at hu; subst hu; rfl) (by unfold maxLen; omega) (by omega) ?_;
       intro g' c' w1 hrow1 hgr hloc;
       have d0 := hgr.cell (a := ⟨g, 0, none⟩) c0 (fun e => hrg e.symm);
       have d1 := hgr.cell (a := ⟨g, 1, none⟩) c1 (fun e => hrg e.symm);
       have d2 := hgr.cell (a := ⟨g, 2, none⟩) c2 (fun e => hrg e.symm);
       have e0 : w1.frozen? ⟨g, 0, none⟩ = false := (World.frozen?_of_block (hgr.block g hlt.1 (fun e => hrg e.symm))).trans f0;
       have hown1 := (hown.kept hgr (fun e => hrm e.symm)).setCell (a := ⟨g, 0, none⟩) (fun e => hgm e.symm) (.slice (some ⟨g', 0, none⟩) (xs.length + 1) c'))
    | (at_mapUpdate; refine wpList_mapUpdate_own _ rfl _ _ _ 63 rfl 3 3 ikeyed Try.underlying63 _ m _ D rfl hown1 (by unfold maxLen; omega) _ _ _ rfl rfl hkey _ [] (plainElem_int Try.underlying3 (WalkArith.wf_i64 (by omega))) ?_;
       intro w2 hown2 hgr2)
    | go_in)
  go_ret2
  have hg1 : g' ≠ g := by
    rintro rfl
    rcases hloc with h1 | h1
    · exact hrg h1
    · have : w.drew.heap.size = w.heap.size := rfl
      omega
  have hg2 : g' ≠ m := by
    rintro rfl
    rcases hloc with h1 | h1
    · exact hrm h1
    · have : w.drew.heap.size = w.heap.size := rfl
      omega
  have T := tab_grown (w := w.drew) hst hlt.1 (fun e => hrg e.symm) hgm hgr hrow1 hown2 hgr2 hI hg1 hg2 (by simpa using hi) (by simp) (ikey k)
  have hx : ivals (xs ++ [k]) = ivals xs ++ [Value.int .i64 k] := by simp [ivals]
  refine ⟨rfl, .slice (some ⟨g', 0, none⟩) (xs.length + 1) c', ?_, (only_grown hgr hgr2).of_drew, fun b hb => ?_⟩
  · unfold TI
    rw [hx, List.map_append]
    exact T
  · simp only [Value.ownBlock, Option.some.injEq] at hb
    subst hb
    exact hloc

set_option maxHeartbeats 400000 in
theorem ikey_yes (w : World) (g m : Nat) (most : Int) (v : Value) (xs : List Int) (h : TI w g m most v xs) (i : Nat) (k : Int) (hi : xs[i]? = some k) :
    Calls Try.prog 22 #[.pointer (some ⟨g, 0, none⟩), .int .i64 i] w fun e w' => e = .returned (.tuple #[.int .i64 k, .bool true]) ∧ w = w' := by
  have M := imade_yes w g m most v xs h
  obtain ⟨c0, c1, c2, f0⟩ := h.cells
  have hrow := h.row
  have hl : (xs.map (Lit.int .i64)).length = xs.length := by simp
  rw [hl] at hrow
  have hlt := (List.getElem?_eq_some_iff.1 hi).1
  rcases hrow.2 with ⟨rfl, h0⟩ | ⟨b, cp, cur, rfl, hb, hg, hle, hm, hs, ht⟩
  · omega
  have hc := hrow.cellAt i (by omega)
  have hx : (ivals xs)[i]? = some (.int .i64 k) := by simp [ivals, hi]
  rw [hx] at hc
  clear h hl hb hg hs ht hrow hx
  have hi0 : ¬ (i : Int) < 0 := by omega
  have hi1 : ¬ (xs.length : Int) ≤ i := by omega
  go_enter Try.func22, Try.ntmps22
  go_wp2_with (first
    | (go_at_call 29; refine M.mono ?_; rintro e w' ⟨rfl, rfl⟩)
    | go_in)
  go_ret2
  exact ⟨rfl, rfl⟩

set_option maxHeartbeats 400000 in
theorem ikey_no (w : World) (g m : Nat) (most : Int) (v : Value) (xs : List Int) (h : TI w g m most v xs) (i : Int) (hi : i < 0 ∨ (xs.length : Int) ≤ i) :
    Calls Try.prog 22 #[.pointer (some ⟨g, 0, none⟩), .int .i64 i] w fun e w' => e = .returned (.tuple #[.int .i64 0, .bool false]) ∧ w = w' := by
  have M := imade_yes w g m most v xs h
  obtain ⟨A, cp, rfl, -⟩ := own_form h.row
  obtain ⟨c0, c1, c2, f0⟩ := h.cells
  have hl : (xs.map (Lit.int .i64)).length = xs.length := by simp
  rw [hl] at c0
  clear h hl
  by_cases h1 : i < 0
  · go_enter Try.func22, Try.ntmps22
    go_wp2_with (first
      | (go_at_call 29; refine M.mono ?_; rintro e w' ⟨rfl, rfl⟩)
      | go_in)
    go_ret2
    exact ⟨rfl, rfl⟩
  · have h2 : (xs.length : Int) ≤ i := by omega
    go_enter Try.func22, Try.ntmps22
    go_wp2_with (first
      | (go_at_call 29; refine M.mono ?_; rintro e w' ⟨rfl, rfl⟩)
      | go_in)
    go_ret2
    exact ⟨rfl, rfl⟩

set_option maxHeartbeats 800000 in
theorem icut_yes (w : World) (g m : Nat) (most : Int) (v : Value) (xs : List Int) (h : TI w g m most v xs) (hwf : ∀ k ∈ xs, (Lit.int .i64 k).wf = true) (n : Int) (hn : xs.length ≤ 20000) :
    Calls Try.prog 24 #[.pointer (some ⟨g, 0, none⟩), .int .i64 n] w fun e w' => e = .returned (.tuple #[]) ∧
      ∃ v', TI w' g m most v' (xs.take n.toNat) ∧ Only (foot g m v) w w' ∧ v'.ownBlock = v.ownBlock := by
  have M := imade_yes w g m most v xs h
  have hgm := h.gm
  obtain ⟨A, cp, rfl, hA⟩ := own_form h.row
  rw [List.length_map] at hA h ⊢
  rcases (by omega : n < 0 ∨ 0 ≤ n) with h0 | h0
  · go_enter Try.func24, Try.ntmps24
    go_wp2_with (first
      | (go_at_call 29; refine M.mono ?_; rintro e w' ⟨rfl, rfl⟩)
      | go_in)
    go_loopw [4] (fun _ wr => ∃ k : Nat, k ≤ xs.length ∧ (0 ≤ k ∨ k = xs.length) ∧ TI wr g m most (.slice A k cp) (xs.take k) ∧ Only (foot g m (.slice A xs.length cp)) w wr) (fun _ wr => match wr.cell? ⟨g, 0, none⟩ with | some (.slice _ k _) => k | _ => 0)
    case atStart => exact ⟨xs.length, Nat.le_refl _, .inr rfl, by simpa using h, Only.refl _ _⟩
    case round =>
      obtain ⟨k, hk, hkq, hT, hO⟩ := hrel
      obtain ⟨c0, c1, c2, f0⟩ := hT.cells
      have hlk : ((xs.take k).map (Lit.int .i64)).length = k := by rw [List.length_map, List.length_take]; omega
      by_cases hkn : k ≤ 0
      · have hk1 : ¬ 0 < k := by omega
        go_wp2
        go_end0
        have e1 : xs.take n.toNat = xs.take k := by
          rw [Int.toNat_eq_zero.2 (by omega)]
          rcases hkq with h1 | h1
          · rw [(by omega : k = 0)]
          · rw [h1, List.take_length, List.take_of_length_le (by omega)]
        exact ⟨rfl, .slice A k cp, by rw [e1]; exact hT, hO, by cases A <;> rfl⟩
      · obtain ⟨k, rfl⟩ : ∃ j, k = j + 1 := ⟨k - 1, by omega⟩
        have hk1 : 0 < k + 1 := by omega
        have hk2 : (k : Int) < (k : Int) + 1 := by omega
        obtain ⟨b, rfl, -, hb⟩ := hA (by omega)
        have hx : xs.take (k + 1) = xs.take k ++ [xs[k]] := by rw [List.take_succ_eq_append_getElem]
        have hw1 := hwf xs[k] (List.getElem_mem _)
        have hrow := hT.row
        rw [hlk] at hrow
        have hcp := (own_cap hrow).1
        have hc1 : k ≤ cp := by omega
        have hc2 : cp ≠ 0 := by omega
        have hc := hrow.cellAt k (by omega)
        have hi : (ivals (xs.take (k + 1)))[k]? = some (.int .i64 xs[k]) := by rw [hx]; simp [ivals]
        rw [hi] at hc
        obtain ⟨D, hown, hI⟩ := hT.map
        rw [hx, List.map_append] at hI
        have hkey := keyOf_int_mk Try.underlying3 hw1
        have hTT := Lib.hid hT
        have hfs := hT.row
        clear hrow hi hw1 hfs
        generalize xs[k] = y at *
        go_upto_region 4 with fail
        refine wp_still_tail 11 (by kernel_rfl) (by kernel_rfl) ?_
        simp only [List.take_succ_cons, List.take_zero, List.drop_succ_cons, List.drop_zero]
        repeat still_step
        refine wpStill_nil ?_
        have hown0 : wr.drew.ownsMap Try.prog 3 (plainElem Try.prog 3) m ((xs.take (k + 1)).map (Lit.int .i64)).length D := hown
        at_delete
        refine wpList_delete_own _ rfl _ _ 63 3 rfl 3 ikeyed Try.underlying63 _ m _ D rfl hown0 _ _ rfl hkey ?_
        intro w1 hown1 ht1
        have d0 := ht1.grown.cell (a := ⟨g, 0, none⟩) c0 (fun e => hgm (by injection e))
        have e0 : w1.frozen? ⟨g, 0, none⟩ = false := (ht1.frozen _).trans f0
        go_wp2
        have hT1 : TabAt Try.prog 65 3 1 wr.drew g m most (.slice (some ⟨b, 0, none⟩) (k + 1) cp) (ivals (xs.take k) ++ [Value.int .i64 y]) ((xs.take k).map (Lit.int .i64) ++ [Lit.int .i64 y]) := by
          have h1 := hTT.out.drew
          rw [hx, ivals_append, List.map_append] at h1
          exact h1
        have hR := tab_cut (n := k) ikeyed hT1 (by decide) rfl (by rw [List.length_map, List.length_take]; omega) hI hown1 ht1
        refine ⟨⟨k, by omega, .inl (by omega), hR.1, hO.trans hR.2.of_drew (fun j hj => .inl ?_)⟩, ?_⟩
        · simp only [List.mem_cons, List.not_mem_nil, or_false] at hj
          rcases hj with rfl | rfl <;> simp [foot]
        · rw [hR.1.cells.1, c0]
          exact Nat.lt_succ_self k
  · obtain ⟨q, rfl⟩ : ∃ q : Nat, n = q := ⟨n.toNat, by omega⟩
    go_enter Try.func24, Try.ntmps24
    go_wp2_with (first
      | (go_at_call 29; refine M.mono ?_; rintro e w' ⟨rfl, rfl⟩)
      | go_in)
    go_loopw [4] (fun _ wr => ∃ k : Nat, k ≤ xs.length ∧ (q ≤ k ∨ k = xs.length) ∧ TI wr g m most (.slice A k cp) (xs.take k) ∧ Only (foot g m (.slice A xs.length cp)) w wr) (fun _ wr => match wr.cell? ⟨g, 0, none⟩ with | some (.slice _ k _) => k | _ => 0)
    case atStart => exact ⟨xs.length, Nat.le_refl _, .inr rfl, by simpa using h, Only.refl _ _⟩
    case round =>
      obtain ⟨k, hk, hkq, hT, hO⟩ := hrel
      obtain ⟨c0, c1, c2, f0⟩ := hT.cells
      have hlk : ((xs.take k).map (Lit.int .i64)).length = k := by rw [List.length_map, List.length_take]; omega
      by_cases hkn : k ≤ q
      · have hk1 : ¬ q < k := by omega
        go_wp2
        go_end0
        have e1 : xs.take (q : Int).toNat = xs.take k := by
          rw [Int.toNat_natCast]
          rcases hkq with h1 | h1
          · rw [(by omega : k = q)]
          · rw [h1, List.take_length, List.take_of_length_le (by omega)]
        exact ⟨rfl, .slice A k cp, by rw [e1]; exact hT, hO, by cases A <;> rfl⟩
      · obtain ⟨k, rfl⟩ : ∃ j, k = j + 1 := ⟨k - 1, by omega⟩
        have hk1 : q < k + 1 := by omega
        have hk2 : (k : Int) < (k : Int) + 1 := by omega
        obtain ⟨b, rfl, -, hb⟩ := hA (by omega)
        have hx : xs.take (k + 1) = xs.take k ++ [xs[k]] := by rw [List.take_succ_eq_append_getElem]
        have hw1 := hwf xs[k] (List.getElem_mem _)
        have hrow := hT.row
        rw [hlk] at hrow
        have hcp := (own_cap hrow).1
        have hc1 : k ≤ cp := by omega
        have hc2 : cp ≠ 0 := by omega
        have hc := hrow.cellAt k (by omega)
        have hi : (ivals (xs.take (k + 1)))[k]? = some (.int .i64 xs[k]) := by rw [hx]; simp [ivals]
        rw [hi] at hc
        obtain ⟨D, hown, hI⟩ := hT.map
        rw [hx, List.map_append] at hI
        have hkey := keyOf_int_mk Try.underlying3 hw1
        have hTT := Lib.hid hT
        have hfs := hT.row
        clear hrow hi hw1 hfs
        generalize xs[k] = y at *
        go_upto_region 4 with fail
        refine wp_still_tail 11 (by kernel_rfl) (by kernel_rfl) ?_
        simp only [List.take_succ_cons, List.take_zero, List.drop_succ_cons, List.drop_zero]
        repeat still_step
        refine wpStill_nil ?_
        have hown0 : wr.drew.ownsMap Try.prog 3 (plainElem Try.prog 3) m ((xs.take (k + 1)).map (Lit.int .i64)).length D := hown
        at_delete
        refine wpList_delete_own _ rfl _ _ 63 3 rfl 3 ikeyed Try.underlying63 _ m _ D rfl hown0 _ _ rfl hkey ?_
        intro w1 hown1 ht1
        have d0 := ht1.grown.cell (a := ⟨g, 0, none⟩) c0 (fun e => hgm (by injection e))
        have e0 : w1.frozen? ⟨g, 0, none⟩ = false := (ht1.frozen _).trans f0
        go_wp2
        have hT1 : TabAt Try.prog 65 3 1 wr.drew g m most (.slice (some ⟨b, 0, none⟩) (k + 1) cp) (ivals (xs.take k) ++ [Value.int .i64 y]) ((xs.take k).map (Lit.int .i64) ++ [Lit.int .i64 y]) := by
          have h1 := hTT.out.drew
          rw [hx, ivals_append, List.map_append] at h1
          exact h1
        have hR := tab_cut (n := k) ikeyed hT1 (by decide) rfl (by rw [List.length_map, List.length_take]; omega) hI hown1 ht1
        refine ⟨⟨k, by omega, .inl (by omega), hR.1, hO.trans hR.2.of_drew (fun j hj => .inl ?_)⟩, ?_⟩
        · simp only [List.mem_cons, List.not_mem_nil, or_false] at hj
          rcases hj with rfl | rfl <;> simp [foot]
        · rw [hR.1.cells.1, c0]
          exact Nat.lt_succ_self k
end Go.Proofs.Ytgmbbhfcpllgoaa
