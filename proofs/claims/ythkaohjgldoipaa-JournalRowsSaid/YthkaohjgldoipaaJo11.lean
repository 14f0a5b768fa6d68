/-
  journal: the document's Line, Ids; the law's one, two.
-/
import Derived.Test.YthkaohjgldoipaaJo10
namespace Go.Proofs.Ythkaohjgldoipaa
open Go.RowKit
section
variable {A : Option Addr} {c : Nat} {l : List Ent} {w : World}
set_option maxRecDepth 100000 in
set_option maxHeartbeats 4000000 in
theorem rline_any (n : Int) (hm : (linesJ l).length ≤ 1000000) (hm' : l.length ≤ 1000000) (hr : RowE w A l) : Calls Try.prog 19 #[.slice A l.length c, .int .i64 n] w fun e w' => e = .returned (.tuple #[.agg (pv (lineJ l n).1).toArray, .bool (lineJ l n).2]) ∧ Below w.heap.size w w' := by
  have LN := Lib.hid ((rlines_any (c := c) (w := w.alloc (.cells #[.int .i64 0, .int .i64 0, .int .i64 0, .int .i64 0, .int .i64 0, .int .i64 0, .int .i64 0] 35)) hm hm' (hr.alloc _)))
  have hb : Below w.heap.size w (w.alloc (.cells #[.int .i64 0, .int .i64 0, .int .i64 0, .int .i64 0, .int .i64 0, .int .i64 0, .int .i64 0] 35)) := (Below.refl _ _).alloc (Nat.le_refl _) _
  have y4 := Box.new w 35 #[.int .i64 0, .int .i64 0, .int .i64 0, .int .i64 0, .int .i64 0, .int .i64 0, .int .i64 0]
  clear hr
  by_cases hin : n < 1 ∨ ((linesJ l).length : Int) < n
  · have HV := Lib.hid (lineJ_none hin)
    rw [HV.out]
    generalize linesJ l = M at *
    have hcs : decide (n < 1) = true ∨ (1 ≤ n ∧ decide ((M.length : Int) < n) = true) := by
      rcases Int.lt_or_le n 1 with h | h
      · exact .inl (decide_eq_true h)
      · exact .inr ⟨h, decide_eq_true (by omega)⟩
    clear hin
    rcases hcs with h1 | ⟨h0, h1⟩
    · go_enter Try.func19, Try.ntmps19
      go_wp2_with fail
      refine LN.out.mono ?_
      rintro e w1 ⟨A1, c1, rfl, own1, b1⟩
      replace y4 := y4.later b1
      replace hb := hb.trans (b1.mono hb.size)
      clear own1 b1
      have k4 := y4.cells
      have f4 := y4.free
      have l4 := y4.lt
      have K4 := (((((((y4.set 0 (.int .i64 0)).set 1 (.int .i64 0)).set 2 (.int .i64 0)).set 3 (.int .i64 0)).set 4 (.int .i64 0)).set 5 (.int .i64 0)).set 6 (.int .i64 0)).cells
      have B4 := (((((((hb.setCell (p := ⟨w.heap.size, 0, none⟩) (Nat.le_refl _) (.int .i64 0)).setCell (p := ⟨w.heap.size, 1, none⟩) (Nat.le_refl _) (.int .i64 0)).setCell (p := ⟨w.heap.size, 2, none⟩) (Nat.le_refl _) (.int .i64 0)).setCell (p := ⟨w.heap.size, 3, none⟩) (Nat.le_refl _) (.int .i64 0)).setCell (p := ⟨w.heap.size, 4, none⟩) (Nat.le_refl _) (.int .i64 0)).setCell (p := ⟨w.heap.size, 5, none⟩) (Nat.le_refl _) (.int .i64 0)).setCell (p := ⟨w.heap.size, 6, none⟩) (Nat.le_refl _) (.int .i64 0))
      clear y4 hb
      go_wp2
      refine bodyPost_ret (by unfold results; simp only [Try.results19]; go_simp; rfl) rfl ?_
      exact ⟨rfl, B4⟩
    · go_enter Try.func19, Try.ntmps19
      go_wp2_with fail
      refine LN.out.mono ?_
      rintro e w1 ⟨A1, c1, rfl, own1, b1⟩
      replace y4 := y4.later b1
      replace hb := hb.trans (b1.mono hb.size)
      clear own1 b1
      have k4 := y4.cells
      have f4 := y4.free
      have l4 := y4.lt
      have K4 := (((((((y4.set 0 (.int .i64 0)).set 1 (.int .i64 0)).set 2 (.int .i64 0)).set 3 (.int .i64 0)).set 4 (.int .i64 0)).set 5 (.int .i64 0)).set 6 (.int .i64 0)).cells
      have B4 := (((((((hb.setCell (p := ⟨w.heap.size, 0, none⟩) (Nat.le_refl _) (.int .i64 0)).setCell (p := ⟨w.heap.size, 1, none⟩) (Nat.le_refl _) (.int .i64 0)).setCell (p := ⟨w.heap.size, 2, none⟩) (Nat.le_refl _) (.int .i64 0)).setCell (p := ⟨w.heap.size, 3, none⟩) (Nat.le_refl _) (.int .i64 0)).setCell (p := ⟨w.heap.size, 4, none⟩) (Nat.le_refl _) (.int .i64 0)).setCell (p := ⟨w.heap.size, 5, none⟩) (Nat.le_refl _) (.int .i64 0)).setCell (p := ⟨w.heap.size, 6, none⟩) (Nat.le_refl _) (.int .i64 0))
      clear y4 hb
      go_wp2
      refine bodyPost_ret (by unfold results; simp only [Try.results19]; go_simp; rfl) rfl ?_
      exact ⟨rfl, B4⟩
  · obtain ⟨k, rfl⟩ : ∃ k : Nat, n = (k : Int) + 1 := ⟨n.toNat - 1, by omega⟩
    have hk : k < (linesJ l).length := by omega
    have HV := Lib.hid (lineJ_some hk)
    rw [HV.out]
    generalize linesJ l = M at *
    clear hin
    go_enter Try.func19, Try.ntmps19
    go_wp2_with fail
    refine LN.out.mono ?_
    rintro e w1 ⟨A1, c1, rfl, own1, b1⟩
    replace y4 := y4.later b1
    replace hb := hb.trans (b1.mono hb.size)
    obtain ⟨g1, o1, rfl, hg1, hc1⟩ := RowAt.posts (row_of_own own1) (by omega)
    obtain ⟨a1, a2, a3, a4, a5, a6, a7⟩ := hc1 k hk
    clear own1 b1 hc1
    obtain ⟨x, hx⟩ : ∃ x, M[k] = x := ⟨_, rfl⟩
    rw [hx] at a1 a2 a3 a4 a5 a6 a7
    replace hx := Lib.hid hx
    have k4 := y4.cells
    have f4 := y4.free
    have l4 := y4.lt
    have K4 := (((((((y4.set 0 (.int .i64 x.id)).set 1 (.int .i64 x.en)).set 2 (.int .i64 x.pe)).set 3 (.int .i64 x.ln.e)).set 4 (.int .i64 x.ln.a)).set 5 (.int .i64 x.ln.q)).set 6 (.int .i64 x.ln.m)).cells
    have B4 := (((((((hb.setCell (p := ⟨w.heap.size, 0, none⟩) (Nat.le_refl _) (.int .i64 x.id)).setCell (p := ⟨w.heap.size, 1, none⟩) (Nat.le_refl _) (.int .i64 x.en)).setCell (p := ⟨w.heap.size, 2, none⟩) (Nat.le_refl _) (.int .i64 x.pe)).setCell (p := ⟨w.heap.size, 3, none⟩) (Nat.le_refl _) (.int .i64 x.ln.e)).setCell (p := ⟨w.heap.size, 4, none⟩) (Nat.le_refl _) (.int .i64 x.ln.a)).setCell (p := ⟨w.heap.size, 5, none⟩) (Nat.le_refl _) (.int .i64 x.ln.q)).setCell (p := ⟨w.heap.size, 6, none⟩) (Nat.le_refl _) (.int .i64 x.ln.m))
    clear y4 hb
    go_wp2
    refine bodyPost_ret (by unfold results; simp only [Try.results19]; go_simp; rfl) rfl ?_
    exact ⟨by rw [hx.out]; rfl, B4⟩
theorem idsJ_out {n : Int} (h : n < 1 ∨ (l.length : Int) < n) : idsJ l n = (0, 0) := by
  unfold idsJ
  split
  · rfl
  · rw [List.getElem?_eq_none (by omega)]
theorem idsJ_at {k : Nat} (hk : k < l.length) : idsJ l ((k : Int) + 1) = if l[k].ls.length = 0 then (0, 0) else (((linesJ (l.take k)).length : Int) + 1, ((linesJ (l.take k)).length : Int) + (l[k].ls.length : Int)) := by
  unfold idsJ
  rw [if_neg (by omega), show ((k : Int) + 1).toNat - 1 = k by omega, List.getElem?_eq_getElem hk]
  by_cases h : l[k].ls = []
  · simp [h]
  · have : l[k].ls.length ≠ 0 := fun h0 => h (List.eq_nil_of_length_eq_zero h0)
    simp [h]
set_option maxRecDepth 100000 in
set_option maxHeartbeats 4000000 in
theorem rids_any (n : Int) (hcap : l.length ≤ c) (hm : (linesJ l).length ≤ 1000000) (hm' : l.length ≤ 1000000) (hr : RowE w A l) : Calls Try.prog 21 #[.slice A l.length c, .int .i64 n] w fun e w' => e = .returned (.tuple #[.int .i64 (idsJ l n).1, .int .i64 (idsJ l n).2]) ∧ Below w.heap.size w w' := by
  by_cases h1 : n < 1
  · rw [idsJ_out (.inl h1)]
    clear hr
    go_enter Try.func21, Try.ntmps21
    go_wp2
    go_ret2
    exact ⟨rfl, Below.refl _ _⟩
  · by_cases h2 : (l.length : Int) < n
    · rw [idsJ_out (.inr h2)]
      clear hr
      go_enter Try.func21, Try.ntmps21
      go_wp2
      go_ret2
      exact ⟨rfl, Below.refl _ _⟩
    · obtain ⟨k, rfl⟩ : ∃ k : Nat, n = (k : Int) + 1 := ⟨n.toNat - 1, by omega⟩
      have hk : k < l.length := by omega
      have ID := idsJ_at hk
      have hlt : (l.take k).length = k := by rw [List.length_take]; omega
      have hle := (linesJ_pre l k).length_le
      have LN := rlines_any (c := c) (A := A) (w := w) (l := l.take k) (by omega) (by omega) (hr.take k)
      rw [hlt] at LN
      replace LN := Lib.hid LN
      obtain ⟨b0, o0, rfl, hb0, hc0⟩ := hr.get (by omega)
      obtain ⟨e1, e2, e3⟩ := hc0 k hk
      have hlsm := outJ_ls hk
      clear hc0 hr e1 e2 h1 h2 hlt
      generalize l[k].ls.length = m at *
      generalize l[k].A = A' at *
      generalize l[k].c = c' at *
      generalize linesJ (l.take k) = M at *
      by_cases hm0 : m = 0
      · rw [if_pos hm0] at ID
        replace ID := Lib.hid ID
        rw [ID.out]
        have he : ((m : Int) == 0) = true := by simp [hm0]
        clear hm0
        go_enter Try.func21, Try.ntmps21
        go_wp2
        go_ret2
        exact ⟨rfl, Below.refl _ _⟩
      · rw [if_neg hm0] at ID
        replace ID := Lib.hid ID
        rw [ID.out]
        have he : ((m : Int) == 0) = false := beq_eq_false_iff_ne.2 (by omega)
        have hkc : k ≤ c := by omega
        clear hm0
        go_enter Try.func21, Try.ntmps21
        go_wp2_with fail
        refine LN.out.mono ?_
        rintro e w1 ⟨A1, c1, rfl, own1, b1⟩
        replace e3 := (b1.cell (p := ⟨b0, o0 + k * 3 + 2, none⟩) hb0).trans e3
        have hwk1 : IntKind.i64.wrap ((M.length : Int) + 1) = (M.length : Int) + 1 := (Go.IntWalk.i64_left _).trans (Go.IntWalk.wrap64_in _ (by omega))
        have hwk2 : IntKind.i64.wrap ((M.length : Int) + (m : Int)) = (M.length : Int) + (m : Int) := (Go.IntWalk.i64_left _).trans (Go.IntWalk.wrap64_in _ (by omega))
        have hwk3 : IntKind.i64.wrap (k : Int) = k := (Go.IntWalk.i64_left _).trans (Go.IntWalk.wrap64_in _ (by omega))
        have hki : (k : Int) < (l.length : Int) := by omega
        clear own1
        go_upto_region 4 with fail
        refine wp_region_noPanic ?_
        refine wp_region_held_drew (S := (fun w' => w'.cell? ⟨b0, o0 + k * 3 + 2, none⟩ = some (.slice A' m c'))) (by kernel_rfl) ?_ (fun hHeld => ?_)
        · go_keep
        refine wpAnyH_take (i := 0) (v := ?vi0) rfl (by kernel_rfl) (by kernel_rfl) (by kernel_rfl) (fun _ _ _ h => h) (Or.inl ⟨by kernel_rfl, ?hyi0⟩) (by assumption) ?resti0
        case hyi0 => (intro w hSw; (try dsimp only at hSw); go_simp; (try with_reducible rfl))
        go_simp
        refine wpAnyH_take (i := 1) (v := ?vi1) rfl (by kernel_rfl) (by kernel_rfl) (by kernel_rfl) (fun _ _ _ h => h) (Or.inl ⟨by kernel_rfl, ?hyi1⟩) (by assumption) ?resti1
        case hyi1 => (intro w hSw; (try dsimp only at hSw); go_simp; (try with_reducible rfl))
        go_simp
        refine wpAnyH_take (i := 2) (v := ?vi2) rfl (by kernel_rfl) (by kernel_rfl) (by kernel_rfl) (fun _ _ _ h => h) (Or.inl ⟨by kernel_rfl, ?hyi2⟩) (by assumption) ?resti2
        case hyi2 => (intro w hSw; (try dsimp only at hSw); go_simp; (try with_reducible rfl))
        go_simp
        refine wpAnyH_take (i := 3) (v := ?vi3) rfl (by kernel_rfl) (by kernel_rfl) (by kernel_rfl) (fun _ _ _ h => h) (Or.inl ⟨by kernel_rfl, ?hyi3⟩) (by assumption) ?resti3
        case hyi3 => (intro w hSw; (try dsimp only at hSw); go_simp; (try with_reducible rfl))
        go_simp
        refine wpAnyH_take (i := 4) (v := ?vi4) rfl (by kernel_rfl) (by kernel_rfl) (by kernel_rfl) (fun _ _ _ h => h) (Or.inl ⟨by kernel_rfl, ?hyi4⟩) (by assumption) ?resti4
        case hyi4 => (intro w hSw; (try dsimp only at hSw); go_simp; (try with_reducible rfl))
        go_simp
        refine wpAnyH_take (i := 5) (v := ?vi5) rfl (by kernel_rfl) (by kernel_rfl) (by kernel_rfl) (fun _ _ _ h => h) (Or.inl ⟨by kernel_rfl, ?hyi5⟩) (by assumption) ?resti5
        case hyi5 => (intro w hSw; (try dsimp only at hSw); go_simp; (try with_reducible rfl))
        go_simp
        refine wpAnyH_take (i := 6) (v := ?vi6) rfl (by kernel_rfl) (by kernel_rfl) (by kernel_rfl) (fun _ _ _ h => h) (Or.inl ⟨by kernel_rfl, ?hyi6⟩) (by assumption) ?resti6
        case hyi6 => (intro w hSw; (try dsimp only at hSw); go_simp; (try with_reducible rfl))
        go_simp
        refine wpAnyH_take (i := 7) (v := ?vi7) rfl (by kernel_rfl) (by kernel_rfl) (by kernel_rfl) (fun _ _ _ h => h) (Or.inl ⟨by kernel_rfl, ?hyi7⟩) (by assumption) ?resti7
        case hyi7 => (intro w hSw; (try dsimp only at hSw); go_simp; (try with_reducible rfl))
        go_simp
        refine wpAnyH_take (i := 8) (v := ?vi8) rfl (by kernel_rfl) (by kernel_rfl) (by kernel_rfl) (fun _ _ _ h => h) (Or.inl ⟨by kernel_rfl, ?hyi8⟩) (by assumption) ?resti8
        case hyi8 => (intro w hSw; (try dsimp only at hSw); go_simp; (try with_reducible rfl))
        go_simp
        refine wpAnyH_take (i := 9) (v := ?vi9) rfl (by kernel_rfl) (by kernel_rfl) (by kernel_rfl) (fun _ _ _ h => h) (Or.inl ⟨by kernel_rfl, ?hyi9⟩) (by assumption) ?resti9
        case hyi9 => (intro w hSw; (try dsimp only at hSw); go_simp; (try with_reducible rfl))
        go_simp
        refine wpAnyH_take (i := 10) (v := ?vi10) rfl (by kernel_rfl) (by kernel_rfl) (by kernel_rfl) (fun _ _ _ h => h) (Or.inl ⟨by kernel_rfl, ?hyi10⟩) (by assumption) ?resti10
        case hyi10 => (intro w hSw; (try dsimp only at hSw); go_simp; (try with_reducible rfl))
        go_simp
        refine wpAnyH_ready (rs := [11]) (by kernel_rfl) (by simp) ?_
        refine AllReadyH.cons rfl (fun K hK => ?_) AllReadyH.nil
        rw [if_pos (by kernel_rfl)]
        go_simp
        refine hK.out _ _ hHeld (fun hHeld => ?_)
        clear hK K
        go_simp
        refine wpAnyH_ready (rs := [12]) (by kernel_rfl) (by simp) ?_
        refine AllReadyH.cons rfl (fun K hK => ?_) AllReadyH.nil
        rw [if_pos (by kernel_rfl)]
        go_simp
        refine hK.out _ _ hHeld (fun hHeld => ?_)
        clear hK K
        go_simp
        refine wpAnyH_done (by kernel_rfl) ?_ _
        refine NoPanic.normal ?_
        go_wp2
        go_ret2
        exact ⟨rfl, below_drewN b1 1⟩
set_option maxHeartbeats 2000000 in
theorem jone_any (x : Pst) (w : World) : Calls Try.prog 17 #[.agg (pv x).toArray, .agg (pv x).toArray] w fun e w' => e = .returned (.bool true) ∧ Below w.heap.size w w' := by
  dsimp only [pv]
  go_enter Try.func17, Try.ntmps17
  go_wp2
  go_ret
  exact ⟨rfl, ((Below.refl _ _).alloc (Nat.le_refl _) _).alloc (by simp) _⟩
/-- The law's two entries; their lines lie in two blocks. -/
def l2 (g : Nat) : List Ent := [⟨1, 0, some ⟨g, 0, none⟩, 2, [⟨1, 4, 0, 5⟩, ⟨1, 5, 0, -5⟩]⟩, ⟨2, 1, some ⟨g + 1, 0, none⟩, 2, [⟨1, 4, 0, -5⟩, ⟨1, 5, 0, 5⟩]⟩]
theorem row_new {w : World} {g : Nat} {t : TypeId} {xs : List Value} (h : Box w g t xs.toArray) : RowAt w (some ⟨g, 0, none⟩) xs := by
  refine RowAt.of_cells fun j u hj => ?_
  rw [addr_add, Nat.zero_add]
  exact (h.cells j).trans (by rw [← hj]; exact List.getElem?_toArray ..)
set_option maxHeartbeats 2000000 in
theorem jtwo_any (w : World) : Calls Try.prog 48 #[] w fun e w' => e = .returned (.slice (some ⟨w.heap.size + 1 + 1, 0, none⟩) 2 2) ∧ RowE w' (some ⟨w.heap.size + 1 + 1, 0, none⟩) (l2 w.heap.size) ∧ Below w.heap.size w w' := by
  go_enter Try.func48, Try.ntmps48
  go_wp2
  go_ret
  refine ⟨rfl, ⟨row_new (t := 49) (Box.new' (by simp)), fun e he => ?_⟩, (((Below.refl _ w).alloc (Nat.le_refl _) _).alloc (by simp) _).alloc (by simp; omega) _⟩
  unfold l2 at he
  rcases List.mem_cons.1 he with rfl | he
  · exact row_new (t := 32) (((Box.new w _ _).alloc _).alloc _)
  · obtain rfl := List.mem_singleton.1 he
    exact row_new (t := 32) ((Box.new' (by simp)).alloc _)
end
end Go.Proofs.Ythkaohjgldoipaa
