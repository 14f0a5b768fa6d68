/-
  The contracts of a table of strings: New, made, Id, Len, Cut.
-/
import Derived.Test.YtgmbbhfcpllgoaaInInt
import Derived.StringKeys
namespace Go.Proofs.Ytgmbbhfcpllgoaa
open Go.RowKit Go.Maps

theorem svals_append (l m : List ByteArray) : svals (l ++ m) = svals l ++ svals m := by simp [svals]

/-- A key as the map reads it. -/
abbrev LS (k : ByteArray) : Lit := .string k.data.toList

theorem LS_inj {a b : ByteArray} (h : LS a = LS b) : a = b := by
  injection h with h
  exact ByteArray.ext (Array.ext' h)

theorem LS_mem {k : ByteArray} {xs : List ByteArray} : LS k ∈ xs.map LS ↔ k ∈ xs := by
  rw [List.mem_map]
  exact ⟨fun ⟨a, h1, h2⟩ => LS_inj h2 ▸ h1, fun h => ⟨k, h, rfl⟩⟩

abbrev TS (w : World) (g m : Nat) (most : Int) (v : Value) (xs : List ByteArray) : Prop := TabAt Try.prog 75 9 1 w g m most v (svals xs) (xs.map LS)

set_option maxHeartbeats 400000 in
theorem smade_yes (w : World) (g m : Nat) (most : Int) (v : Value) (xs : List ByteArray) (h : TS w g m most v xs) :
    Calls Try.prog 31 #[.pointer (some ⟨g, 0, none⟩)] w fun e w' => e = .returned (.bool true) ∧ w = w' := by
  obtain ⟨c0, c1, c2, f0⟩ := h.cells
  clear h
  have hn := fun w => run_neq_map_nil (P := Try.prog) w 73 9 3 (some m) Try.underlying73
  go_enter Try.func31, Try.ntmps31
  go_wp2
  go_ret
  exact ⟨rfl, rfl⟩

set_option maxHeartbeats 400000 in
theorem smade_no (w : World) :
    Calls Try.prog 31 #[.pointer none] w fun e w' => e = .returned (.bool false) ∧ w = w' := by
  go_enter Try.func31, Try.ntmps31
  go_wp2
  go_ret
  exact ⟨rfl, rfl⟩

set_option maxHeartbeats 400000 in
theorem slen_yes (w : World) (g m : Nat) (most : Int) (v : Value) (xs : List ByteArray) (h : TS w g m most v xs) :
    Calls Try.prog 20 #[.pointer (some ⟨g, 0, none⟩)] w fun e w' => e = .returned (.int .i64 xs.length) ∧ w = w' := by
  have M := smade_yes w g m most v xs h
  obtain ⟨A, c, rfl, _⟩ := own_form h.row
  obtain ⟨c0, c1, c2, f0⟩ := h.cells
  clear h
  go_enter Try.func20, Try.ntmps20
  go_wp2_with (go_at_call 31; refine M.mono ?_; rintro e w' ⟨rfl, rfl⟩)
  go_ret
  exact ⟨by simp, rfl⟩

set_option maxHeartbeats 400000 in
theorem snew_yes (w : World) (n : Int) (h1 : 1 ≤ n) (h2 : n ≤ 20000) :
    Calls Try.prog 17 #[.int .i64 n] w fun e w' => ∃ g m, e = .returned (.tuple #[.pointer (some ⟨g, 0, none⟩), .int .i64 0]) ∧ TS w' g m n (.slice none 0 0) [] ∧ Below w.heap.size w w' ∧ w.heap.size ≤ g ∧ w.heap.size ≤ m := by
  have hmm := @run_makeMap Try.prog
  go_enter Try.func17, Try.ntmps17
  go_wp2
  go_ret2
  have hb : Below w.heap.size w (w.alloc (.map #[] 0)) := (Below.refl _ _).alloc (Nat.le_refl _) _
  refine ⟨_, _, rfl, ⟨?_, World.ownsRow_nil _ _ _ _, _, (World.ownsMap_made (H := Unit) w _ _ _).alloc _, Idx.nil⟩, hb.alloc (by simp) _, by simp, Nat.le_refl _⟩
  have := heap_alloc_new (w.alloc (.map #[] 0)) (.cells #[.slice none 0 0, .map (some w.heap.size), .int .i64 n] 75)
  simpa only [World.size_alloc] using this

set_option maxHeartbeats 400000 in
theorem snew_no (w : World) (n : Int) (h : n < 1 ∨ 20000 < n) :
    Calls Try.prog 17 #[.int .i64 n] w fun e w' => e = .returned (.tuple #[.pointer none, .int .i64 2]) ∧ w = w' := by
  rcases h with h | h
  · go_enter Try.func17, Try.ntmps17
    go_wp2
    go_ret2
    exact ⟨rfl, rfl⟩
  · have h' : ¬ n < 1 := by omega
    go_enter Try.func17, Try.ntmps17
    go_wp2
    go_ret2
    exact ⟨rfl, rfl⟩

theorem Try.infoStrI : (Try.prog.info? 9).map (fun i => (i.zero, i.size, i.bytes)) = some (some (.string ⟨#[]⟩), 1, 16) := by kernel_rfl
theorem skey (k : ByteArray) : WideAt.IsKeyLit (.string k.data.toList) := by simp [WideAt.IsKeyLit]
theorem skeyed : Keyed Try.prog 9 := string_keyed Try.underlying9

set_option maxHeartbeats 400000 in
theorem sid_there (w : World) (g m : Nat) (most : Int) (v : Value) (xs : List ByteArray) (h : TS w g m most v xs) (k : ByteArray) (hw : k.size ≤ maxLen) (i : Nat) (hi : xs[i]? = some k) :
    Calls Try.prog 18 #[.pointer (some ⟨g, 0, none⟩), .string k] w fun e w' => e = .returned (.tuple #[.int .i64 i, .int .i64 0]) ∧ w = w' := by
  have M := smade_yes w g m most v xs h
  obtain ⟨c0, c1, c2, f0⟩ := h.cells
  obtain ⟨D, hown, hI⟩ := h.map
  have hkey := WideMaps.keyOf_string_mk Try.underlying9 hw
  obtain ⟨hh, ha⟩ := hI.yes i (LS k) (by simp [hi])
  clear h hI
  go_enter Try.func18, Try.ntmps18
  go_wp2_with (first
    | (go_at_call 31; refine M.mono ?_; rintro e w' ⟨rfl, rfl⟩)
    | (at_lookup; refine wpList_lookup_own_ok_int _ rfl _ _ 73 rfl 9 3 .i64 skeyed Try.underlying73 Try.underlying3 (izero _) m _ D rfl hown _ _ rfl hkey ?_; intro c hat hwc; obtain rfl : (i : Int) = c := (by rw [ha] at hat; injection hat with hat; injection hat); clear hat hwc)
    | go_in)
  go_ret2
  exact ⟨rfl, rfl⟩

set_option maxHeartbeats 400000 in
theorem sid_full (w : World) (g m : Nat) (most : Int) (v : Value) (xs : List ByteArray) (h : TS w g m most v xs) (k : ByteArray) (hw : k.size ≤ maxLen) (hi : k ∉ xs) (hf : most ≤ xs.length) :
    Calls Try.prog 18 #[.pointer (some ⟨g, 0, none⟩), .string k] w fun e w' => e = .returned (.tuple #[.int .i64 0, .int .i64 3]) ∧ Below w.heap.size w w' := by
  have M := smade_yes w g m most v xs h
  obtain ⟨A, cp, rfl, -⟩ := own_form h.row
  obtain ⟨c0, c1, c2, f0⟩ := h.cells
  obtain ⟨D, hown, hI⟩ := h.map
  have hkey := WideMaps.keyOf_string_mk Try.underlying9 hw
  have hh := hI.not (LS k) (fun hm => hi (LS_mem.1 hm))
  have ha := atKey_of_not_has hh (.lit (.int .i64 0))
  clear h hI
  have hl : (xs.map LS).length = xs.length := by simp
  rw [hl] at c0 hown
  clear hl
  go_enter Try.func18, Try.ntmps18
  go_upto_region 6 with (first
    | (go_at_call 31; refine M.mono ?_; rintro e w' ⟨rfl, rfl⟩)
    | (at_lookup; refine wpList_lookup_own_ok_int _ rfl _ _ 73 rfl 9 3 .i64 skeyed Try.underlying73 Try.underlying3 (izero _) m _ D rfl hown _ _ rfl hkey ?_; intro c hat hwc; obtain rfl : (0 : Int) = c := (by rw [ha] at hat; injection hat with hat; injection hat); clear hat hwc)
    | go_in)
  go_region
  all_goals go_wp2
  all_goals go_ret2
  all_goals exact ⟨rfl, (Below.refl _ _).drew⟩

set_option maxHeartbeats 400000 in
theorem sid_new (w : World) (g m : Nat) (most : Int) (v : Value) (xs : List ByteArray) (h : TS w g m most v xs) (k : ByteArray) (hw : k.size ≤ maxLen) (hi : k ∉ xs) (hf : xs.length < most) (hm : most ≤ 20000) :
    Calls Try.prog 18 #[.pointer (some ⟨g, 0, none⟩), .string k] w fun e w' => e = .returned (.tuple #[.int .i64 xs.length, .int .i64 0]) ∧
      ∃ v', TS w' g m most v' (xs ++ [k]) ∧ Only (foot g m v) w w' ∧ ∀ b, v'.ownBlock = some b → v.ownBlock = some b ∨ w.heap.size ≤ b := by
  have M := smade_yes w g m most v xs h
  have hgm := h.gm
  have hrg := h.rg (by decide)
  have hrm := h.rm
  have hlt := h.lt
  obtain ⟨A, cp, rfl, -⟩ := own_form h.row
  obtain ⟨c0, c1, c2, f0⟩ := h.cells
  obtain ⟨D, hown, hI⟩ := h.map
  have hrow := h.row
  have hkey := WideMaps.keyOf_string_mk Try.underlying9 hw
  have hh := hI.not (LS k) (fun hm => hi (LS_mem.1 hm))
  have ha := atKey_of_not_has hh (.lit (.int .i64 0))
  have hst := h.st
  clear h
  have hl : (xs.map LS).length = xs.length := by simp
  rw [hl] at hrow hown hst c0 hrg hrm hlt ⊢
  clear hl
  obtain ⟨ti, hti, hz0, hz1, hz2⟩ := info_parts Try.infoStrI
  have hf' : ¬ most ≤ ((xs.length : Nat) : Int) := by omega
  go_enter Try.func18, Try.ntmps18
  go_upto_region 6 with (first
    | (go_at_call 31; refine M.mono ?_; rintro e w' ⟨rfl, rfl⟩)
    | (at_lookup; refine wpList_lookup_own_ok_int _ rfl _ _ 73 rfl 9 3 .i64 skeyed Try.underlying73 Try.underlying3 (izero _) m _ D rfl hown _ _ rfl hkey ?_; intro c hat hwc; obtain rfl : (0 : Int) = c := (by rw [ha] at hat; injection hat with hat; injection hat); clear hat hwc)
    | go_in)
  go_region
  go_upto_region 9 with fail
  have hrow : w.drew.ownsRow 0 9 1 (.slice A xs.length cp) xs.length (svals xs) := hrow
  have hown : w.drew.ownsMap Try.prog 9 (plainElem Try.prog 3) m xs.length D := hown
  go_wp2_with (first
    | (at_builtin; refine wpList_append_at (w := w.drew) rfl _ _ 54 rfl 9 ti (.string ⟨#[]⟩) 1 16 Try.underlying54 hti hz0 hz1 hz2 rfl (by decide) (.slice A xs.length cp) xs.length (svals xs) rfl hrow [Value.string k] rfl rfl (fun u hu => by simp at hu; subst hu; rfl) (by unfold maxLen; omega) (by omega) ?_;
       intro g' c' w1 hrow1 hgr hloc;
       have d0 := hgr.cell (a := ⟨g, 0, none⟩) c0 (fun e => hrg e.symm);
       have d1 := hgr.cell (a := ⟨g, 1, none⟩) c1 (fun e => hrg e.symm);
       have d2 := hgr.cell (a := ⟨g, 2, none⟩) c2 (fun e => hrg e.symm);
       have e0 : w1.frozen? ⟨g, 0, none⟩ = false := (World.frozen?_of_block (hgr.block g hlt.1 (fun e => hrg e.symm))).trans f0;
       have hown1 := (hown.kept hgr (fun e => hrm e.symm)).setCell (a := ⟨g, 0, none⟩) (fun e => hgm e.symm) (.slice (some ⟨g', 0, none⟩) (xs.length + 1) c'))
    | (at_mapUpdate; refine wpList_mapUpdate_own _ rfl _ _ _ 73 rfl 9 3 skeyed Try.underlying73 _ m _ D rfl hown1 (by unfold maxLen; omega) _ _ _ rfl rfl hkey _ [] (plainElem_int Try.underlying3 (WalkArith.wf_i64 (by omega))) ?_;
       intro w2 hown2 hgr2)
    | go_in)
  go_ret2
  have hg1 : g' ≠ g := by
    rintro rfl
    rcases hloc with h1 | h1
    · exact hrg h1
    · have : w.drew.heap.size = w.heap.size := rfl
      omega
  have hg2 : g' ≠ m := by
    rintro rfl
    rcases hloc with h1 | h1
    · exact hrm h1
    · have : w.drew.heap.size = w.heap.size := rfl
      omega
  have T := tab_grown (w := w.drew) hst hlt.1 (fun e => hrg e.symm) hgm hgr hrow1 hown2 hgr2 hI hg1 hg2 (fun hm => hi (LS_mem.1 hm)) (by simp) (skey k)
  have hx : svals (xs ++ [k]) = svals xs ++ [Value.string k] := by simp [svals]
  refine ⟨rfl, .slice (some ⟨g', 0, none⟩) (xs.length + 1) c', ?_, (only_grown hgr hgr2).of_drew, fun b hb => ?_⟩
  · unfold TS
    rw [hx, List.map_append]
    exact T
  · simp only [Value.ownBlock, Option.some.injEq] at hb
    subst hb
    exact hloc

set_option maxHeartbeats 800000 in
theorem scut_yes (w : World) (g m : Nat) (most : Int) (v : Value) (xs : List ByteArray) (h : TS w g m most v xs) (hwf : ∀ k ∈ xs, k.size ≤ maxLen) (n : Int) (hn : xs.length ≤ 20000) :
    Calls Try.prog 19 #[.pointer (some ⟨g, 0, none⟩), .int .i64 n] w fun e w' => e = .returned (.tuple #[]) ∧
      ∃ v', TS w' g m most v' (xs.take n.toNat) ∧ Only (foot g m v) w w' ∧ v'.ownBlock = v.ownBlock := by
  have M := smade_yes w g m most v xs h
  have hgm := h.gm
  obtain ⟨A, cp, rfl, hA⟩ := own_form h.row
  rw [List.length_map] at hA h ⊢
  rcases (by omega : n < 0 ∨ 0 ≤ n) with h0 | h0
  · go_enter Try.func19, Try.ntmps19
    go_wp2_with (first
      | (go_at_call 31; refine M.mono ?_; rintro e w' ⟨rfl, rfl⟩)
      | go_in)
    go_loopw [4] (fun _ wr => ∃ k : Nat, k ≤ xs.length ∧ (0 ≤ k ∨ k = xs.length) ∧ TS wr g m most (.slice A k cp) (xs.take k) ∧ Only (foot g m (.slice A xs.length cp)) w wr) (fun _ wr => match wr.cell? ⟨g, 0, none⟩ with | some (.slice _ k _) => k | _ => 0)
    case atStart => exact ⟨xs.length, Nat.le_refl _, .inr rfl, by simpa using h, Only.refl _ _⟩
    case round =>
      obtain ⟨k, hk, hkq, hT, hO⟩ := hrel
      obtain ⟨c0, c1, c2, f0⟩ := hT.cells
      have hlk : ((xs.take k).map LS).length = k := by rw [List.length_map, List.length_take]; omega
      by_cases hkn : k ≤ 0
      · have hk1 : ¬ 0 < k := by omega
        go_wp2
        go_end0
        have e1 : xs.take n.toNat = xs.take k := by
          rw [Int.toNat_eq_zero.2 (by omega)]
          rcases hkq with h1 | h1
          · rw [(by omega : k = 0)]
          · rw [h1, List.take_length, List.take_of_length_le (by omega)]
        exact ⟨rfl, .slice A k cp, by rw [e1]; exact hT, hO, by cases A <;> rfl⟩
      · obtain ⟨k, rfl⟩ : ∃ j, k = j + 1 := ⟨k - 1, by omega⟩
        have hk1 : 0 < k + 1 := by omega
        have hk2 : (k : Int) < (k : Int) + 1 := by omega
        obtain ⟨b, rfl, -, hb⟩ := hA (by omega)
        have hx : xs.take (k + 1) = xs.take k ++ [xs[k]] := by rw [List.take_succ_eq_append_getElem]
        have hw1 := hwf xs[k] (List.getElem_mem _)
        have hrow := hT.row
        rw [hlk] at hrow
        have hcp := (own_cap hrow).1
        have hc1 : k ≤ cp := by omega
        have hc2 : cp ≠ 0 := by omega
        have hc := hrow.cellAt k (by omega)
        have hi : (svals (xs.take (k + 1)))[k]? = some (.string xs[k]) := by rw [hx]; simp [svals]
        rw [hi] at hc
        obtain ⟨D, hown, hI⟩ := hT.map
        rw [hx, List.map_append] at hI
        have hkey := WideMaps.keyOf_string_mk Try.underlying9 hw1
        have hTT := Lib.hid hT
        have hfs := hT.row
        clear hrow hi hw1 hfs
        generalize xs[k] = y at *
        go_upto_region 4 with fail
        refine wp_still_tail 11 (by kernel_rfl) (by kernel_rfl) ?_
        simp only [List.take_succ_cons, List.take_zero, List.drop_succ_cons, List.drop_zero]
        repeat still_step
        refine wpStill_nil ?_
        have hown0 : wr.drew.ownsMap Try.prog 9 (plainElem Try.prog 3) m ((xs.take (k + 1)).map LS).length D := hown
        at_delete
        refine wpList_delete_own _ rfl _ _ 73 9 rfl 3 skeyed Try.underlying73 _ m _ D rfl hown0 _ _ rfl hkey ?_
        intro w1 hown1 ht1
        have d0 := ht1.grown.cell (a := ⟨g, 0, none⟩) c0 (fun e => hgm (by injection e))
        have e0 : w1.frozen? ⟨g, 0, none⟩ = false := (ht1.frozen _).trans f0
        go_wp2
        have hT1 : TabAt Try.prog 75 9 1 wr.drew g m most (.slice (some ⟨b, 0, none⟩) (k + 1) cp) (svals (xs.take k) ++ [Value.string y]) ((xs.take k).map LS ++ [LS y]) := by
          have h1 := hTT.out.drew
          rw [hx, svals_append, List.map_append] at h1
          exact h1
        have hR := tab_cut (n := k) skeyed hT1 (by decide) rfl (by rw [List.length_map, List.length_take]; omega) hI hown1 ht1
        refine ⟨⟨k, by omega, .inl (by omega), hR.1, hO.trans hR.2.of_drew (fun j hj => .inl ?_)⟩, ?_⟩
        · simp only [List.mem_cons, List.not_mem_nil, or_false] at hj
          rcases hj with rfl | rfl <;> simp [foot]
        · rw [hR.1.cells.1, c0]
          exact Nat.lt_succ_self k
  · obtain ⟨q, rfl⟩ : ∃ q : Nat, n = q := ⟨n.toNat, by omega⟩
    go_enter Try.func19, Try.ntmps19
    go_wp2_with (first
      | (go_at_call 31; refine M.mono ?_; rintro e w' ⟨rfl, rfl⟩)
      | go_in)
    go_loopw [4] (fun _ wr => ∃ k : Nat, k ≤ xs.length ∧ (q ≤ k ∨ k = xs.length) ∧ TS wr g m most (.slice A k cp) (xs.take k) ∧ Only (foot g m (.slice A xs.length cp)) w wr) (fun _ wr => match wr.cell? ⟨g, 0, none⟩ with | some (.slice _ k _) => k | _ => 0)
    case atStart => exact ⟨xs.length, Nat.le_refl _, .inr rfl, by simpa using h, Only.refl _ _⟩
    case round =>
      obtain ⟨k, hk, hkq, hT, hO⟩ := hrel
      obtain ⟨c0, c1, c2, f0⟩ := hT.cells
      have hlk : ((xs.take k).map LS).length = k := by rw [List.length_map, List.length_take]; omega
      by_cases hkn : k ≤ q
      · have hk1 : ¬ q < k := by omega
        go_wp2
        go_end0
        have e1 : xs.take (q : Int).toNat = xs.take k := by
          rw [Int.toNat_natCast]
          rcases hkq with h1 | h1
          · rw [(by omega : k = q)]
          · rw [h1, List.take_length, List.take_of_length_le (by omega)]
        exact ⟨rfl, .slice A k cp, by rw [e1]; exact hT, hO, by cases A <;> rfl⟩
      · obtain ⟨k, rfl⟩ : ∃ j, k = j + 1 := ⟨k - 1, by omega⟩
        have hk1 : q < k + 1 := by omega
        have hk2 : (k : Int) < (k : Int) + 1 := by omega
        obtain ⟨b, rfl, -, hb⟩ := hA (by omega)
        have hx : xs.take (k + 1) = xs.take k ++ [xs[k]] := by rw [List.take_succ_eq_append_getElem]
        have hw1 := hwf xs[k] (List.getElem_mem _)
        have hrow := hT.row
        rw [hlk] at hrow
        have hcp := (own_cap hrow).1
        have hc1 : k ≤ cp := by omega
        have hc2 : cp ≠ 0 := by omega
        have hc := hrow.cellAt k (by omega)
        have hi : (svals (xs.take (k + 1)))[k]? = some (.string xs[k]) := by rw [hx]; simp [svals]
        rw [hi] at hc
        obtain ⟨D, hown, hI⟩ := hT.map
        rw [hx, List.map_append] at hI
        have hkey := WideMaps.keyOf_string_mk Try.underlying9 hw1
        have hTT := Lib.hid hT
        have hfs := hT.row
        clear hrow hi hw1 hfs
        generalize xs[k] = y at *
        go_upto_region 4 with fail
        refine wp_still_tail 11 (by kernel_rfl) (by kernel_rfl) ?_
        simp only [List.take_succ_cons, List.take_zero, List.drop_succ_cons, List.drop_zero]
        repeat still_step
        refine wpStill_nil ?_
        have hown0 : wr.drew.ownsMap Try.prog 9 (plainElem Try.prog 3) m ((xs.take (k + 1)).map LS).length D := hown
        at_delete
        refine wpList_delete_own _ rfl _ _ 73 9 rfl 3 skeyed Try.underlying73 _ m _ D rfl hown0 _ _ rfl hkey ?_
        intro w1 hown1 ht1
        have d0 := ht1.grown.cell (a := ⟨g, 0, none⟩) c0 (fun e => hgm (by injection e))
        have e0 : w1.frozen? ⟨g, 0, none⟩ = false := (ht1.frozen _).trans f0
        go_wp2
        have hT1 : TabAt Try.prog 75 9 1 wr.drew g m most (.slice (some ⟨b, 0, none⟩) (k + 1) cp) (svals (xs.take k) ++ [Value.string y]) ((xs.take k).map LS ++ [LS y]) := by
          have h1 := hTT.out.drew
          rw [hx, svals_append, List.map_append] at h1
          exact h1
        have hR := tab_cut (n := k) skeyed hT1 (by decide) rfl (by rw [List.length_map, List.length_take]; omega) hI hown1 ht1
        refine ⟨⟨k, by omega, .inl (by omega), hR.1, hO.trans hR.2.of_drew (fun j hj => .inl ?_)⟩, ?_⟩
        · simp only [List.mem_cons, List.not_mem_nil, or_false] at hj
          rcases hj with rfl | rfl <;> simp [foot]
        · rw [hR.1.cells.1, c0]
          exact Nat.lt_succ_self k
end Go.Proofs.Ytgmbbhfcpllgoaa
