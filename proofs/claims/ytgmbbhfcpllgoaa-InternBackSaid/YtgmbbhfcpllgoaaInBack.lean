/-
  The walk of InternBack: true for every bound and every list of stakes; no further condition.
-/
import Derived.Test.YtgmbbhfcpllgoaaInSta
import Derived.Test.YtgmbbhfcpllgoaaInAwake
import Derived.BigQuiet
namespace Go.Proofs.Ytgmbbhfcpllgoaa
open Go.RowKit Go.Maps

/-- A slice of stakes that came in: element i lies at four cells. -/
def StakesAt (w : World) (A : Option Addr) (l : List Sk) : Prop :=
  0 < l.length → ∃ b off, A = some ⟨b, off, none⟩ ∧ b < w.heap.size ∧ ∀ j (h : j < l.length), w.cell? ⟨b, off + j * 4, none⟩ = some (.int .i64 l[j].a) ∧ w.cell? ⟨b, off + j * 4 + 1, none⟩ = some (.int .i64 l[j].b) ∧
    w.cell? ⟨b, off + j * 4 + 2, none⟩ = some (.int .i64 l[j].c) ∧ w.cell? ⟨b, off + j * 4 + 3, none⟩ = some (.int .i64 l[j].d)

theorem own_only {F : List Nat} {w w' : World} {base n size : Nat} {e : TypeId} {v : Value} {xs : List Value} (h : w.ownsRow base e size v n xs) (o : Only F w w') (hF : ∀ b, v.ownBlock = some b → b ∉ F) : w'.ownsRow base e size v n xs := by
  refine ⟨h.1, ?_⟩
  rcases h.2 with h1 | ⟨b, cap, cur, rfl, hb, h1, h2⟩
  · exact .inl h1
  · exact .inr ⟨b, cap, cur, rfl, hb, (o.block b (Array.getElem?_eq_some_iff.1 h1).1 (hF b rfl)).trans h1, h2⟩

theorem tk_nodup {w : World} {g m : Nat} {most : Int} {v : Value} {xs : List Sk} (h : TK w g m most v xs) {i j : Nat} {s : Sk} (hi : xs[i]? = some s) (hj : xs[j]? = some s) : i = j := by
  obtain ⟨D, _, hI⟩ := h.map
  have h1 := hI.nodup
  rw [List.Nodup, List.pairwise_iff_getElem] at h1
  obtain ⟨hi', hi⟩ := List.getElem?_eq_some_iff.1 hi
  obtain ⟨hj', hj⟩ := List.getElem?_eq_some_iff.1 hj
  rcases Nat.lt_trichotomy i j with hlt | rfl | hlt
  · exact (h1 i j (by simpa using hi') (by simpa using hj') hlt (by simp [hi, hj])).elim
  · rfl
  · exact (h1 j i (by simpa using hj') (by simpa using hi') hlt (by simp [hi, hj])).elim

/-- A key that is there, or for which there is room, has a number. -/
theorem kid_ok (w : World) (g m : Nat) (most : Int) (v : Value) (xs : List Sk) (h : TK w g m most v xs) (s : Sk) (hs : s.ok) (hx : ∀ x ∈ xs, x.ok) (hr : s ∈ xs ∨ xs.length < most) (hm : most ≤ 20000) :
    Calls Try.prog 13 #[.pointer (some ⟨g, 0, none⟩), SV s] w fun e w' => ∃ (n : Nat) (v' : Value) (xs' : List Sk), e = .returned (.tuple #[.int .i64 n, .int .i64 0]) ∧ xs'[n]? = some s ∧
      TK w' g m most v' xs' ∧ Only (foot g m v) w w' ∧ (∀ b, v'.ownBlock = some b → v.ownBlock = some b ∨ w.heap.size ≤ b) ∧ (∀ x ∈ xs', x.ok) ∧ (∀ (j : Nat) t, xs[j]? = some t → xs'[j]? = some t) ∧ xs'.length ≤ xs.length + 1 ∧ ((xs.length : Int) ≤ most → (xs'.length : Int) ≤ most) := by
  by_cases hi : s ∈ xs
  · obtain ⟨n, hn⟩ := List.mem_iff_getElem?.1 hi
    refine (kid_there w g m most v xs h s hs n hn).mono ?_
    rintro e w' ⟨rfl, hb⟩
    exact ⟨n, v, xs, rfl, hn, h.below hb (Nat.le_refl _), Only.of_below hb _, fun b hb => .inl hb, hx, fun _ _ h => h, by omega, fun h => h⟩
  · have hf : (xs.length : Int) < most := hr.resolve_left hi
    refine (kid_new w g m most v xs h s hs hx hi hf hm).mono ?_
    rintro e w' ⟨rfl, v', hT, ho, hv⟩
    refine ⟨xs.length, v', xs ++ [s], rfl, by simp, hT, ho, hv, fun x hx' => ?_, fun j t h1 => ?_, by simp, fun _ => by simp; omega⟩
    · rw [List.mem_append, List.mem_singleton] at hx'
      rcases hx' with h1 | rfl
      · exact hx x h1
      · exact hs
    · rw [List.getElem?_append_left (List.getElem?_eq_some_iff.1 h1).1]
      exact h1

/-- All that holds between two rounds: the table, and the rows of numbers and of keys. -/
structure Bk (w0 w : World) (g m : Nat) (most : Int) (v : Value) (xs : List Sk) (iv kv : Value) (ids : List Nat) (ps : List Sk) : Prop where
  tab : TK w g m most v xs
  new : ∀ j ∈ foot g m v, w0.heap.size ≤ j
  bel : Below w0.heap.size w0 w
  ok : ∀ x ∈ xs, x.ok
  irow : w.ownsRow 0 3 1 iv ids.length (ivals (ids.map Int.ofNat))
  krow : w.ownsRow 0 46 4 kv ps.length (stv ps)
  len : ids.length = ps.length
  inew : ∀ b, iv.ownBlock = some b → w0.heap.size ≤ b ∧ b ∉ foot g m v ∧ kv.ownBlock ≠ some b
  knew : ∀ b, kv.ownBlock = some b → w0.heap.size ≤ b ∧ b ∉ foot g m v
  of : ∀ (j n : Nat) s, ids[j]? = some n → ps[j]? = some s → xs[n]? = some s

section
variable {w0 w w' : World} {g m : Nat} {most : Int} {v v' iv kv : Value} {xs xs' : List Sk} {ids : List Nat} {ps : List Sk}

theorem kfoot_next {j : Nat} (hj : j ∈ foot g m v') (hv : ∀ b, v'.ownBlock = some b → v.ownBlock = some b ∨ w.heap.size ≤ b) : j ∈ foot g m v ∨ w.heap.size ≤ j := by
  unfold foot at hj ⊢
  rw [List.mem_cons, List.mem_cons, Option.mem_toList] at hj ⊢
  rcases hj with rfl | rfl | hj
  · exact .inl (.inl rfl)
  · exact .inl (.inr (.inl rfl))
  · exact (hv j hj).imp_left fun h => .inr (.inr h)

theorem Bk.table (h : Bk w0 w g m most v xs iv kv ids ps) (h1 : TK w' g m most v' xs') (ho : Only (foot g m v) w w') (hv : ∀ b, v'.ownBlock = some b → v.ownBlock = some b ∨ w.heap.size ≤ b) (hx : ∀ x ∈ xs', x.ok) (hk : ∀ (j : Nat) t, xs[j]? = some t → xs'[j]? = some t) :
    Bk w0 w' g m most v' xs' iv kv ids ps := by
  have hsz := h.bel.size
  refine ⟨h1, fun j hj => ?_, h.bel.trans (ho.below hsz h.new), hx, own_only h.irow ho (fun b hb => (h.inew b hb).2.1), own_only h.krow ho (fun b hb => (h.knew b hb).2), h.len, fun b hb => ?_, fun b hb => ?_, fun j n s a b => hk n s (h.of j n s a b)⟩
  · rcases kfoot_next hj hv with h2 | h2
    · exact h.new j h2
    · omega
  · obtain ⟨h2, h3, h4⟩ := h.inew b hb
    refine ⟨h2, fun hm => ?_, h4⟩
    rcases kfoot_next hm hv with h5 | h5
    · exact h3 h5
    · have := (h.irow.lt b hb).2
      omega
  · obtain ⟨h2, h3⟩ := h.knew b hb
    refine ⟨h2, fun hm => ?_⟩
    rcases kfoot_next hm hv with h5 | h5
    · exact h3 h5
    · have := (h.krow.lt b hb).2
      omega

theorem Bk.below (h : Bk w0 w g m most v xs iv kv ids ps) (hb : Below w.heap.size w w') : Bk w0 w' g m most v xs iv kv ids ps :=
  h.table (h.tab.below hb (Nat.le_refl _)) (Only.of_below hb _) (fun _ h => .inl h) h.ok (fun _ _ h => h)

theorem Bk.drewN (h : Bk w0 w g m most v xs iv kv ids ps) (n : Nat) : Bk w0 (w.drewN n) g m most v xs iv kv ids ps := h.below (below_drewN (Below.refl _ _) n)

/-- A key and its number were appended. -/
theorem Bk.more {w1 w2 : World} {g1 c1 g2 c2 n : Nat} {s : Sk} (h : Bk w0 w g m most v xs iv kv ids ps) (r1 : w1.ownsRow 0 3 1 (.slice (some ⟨g1, 0, none⟩) (ids.length + 1) c1) (ids.length + 1) (ivals (ids.map Int.ofNat) ++ [.int .i64 n])) (b1 : w.grownBy w1 iv.ownBlock) (l1 : iv.ownBlock = some g1 ∨ w.heap.size ≤ g1)
    (r2 : w2.ownsRow 0 46 4 (.slice (some ⟨g2, 0, none⟩) (ps.length + 1) c2) (ps.length + 1) (stv ps ++ [.int .i64 s.a, .int .i64 s.b, .int .i64 s.c, .int .i64 s.d])) (b2 : w1.grownBy w2 kv.ownBlock) (l2 : kv.ownBlock = some g2 ∨ w1.heap.size ≤ g2) (hn : xs[n]? = some s) :
    Bk w0 w2 g m most v xs (.slice (some ⟨g1, 0, none⟩) (ids.length + 1) c1) (.slice (some ⟨g2, 0, none⟩) (ps.length + 1) c2) (ids ++ [n]) (ps ++ [s]) := by
  have hsz := h.bel.size
  have hs1 := b1.size
  have hi := h.inew
  have hk := h.knew
  have o1 : Only iv.ownBlock.toList w w1 := Only.of_grown b1 (fun k hk => by rw [Option.mem_toList]; exact hk)
  have o2 : Only kv.ownBlock.toList w1 w2 := Only.of_grown b2 (fun k hk => by rw [Option.mem_toList]; exact hk)
  have t1 : TK w1 g m most v xs := h.tab.only o1 (fun k hk hm => (h.inew k (Option.mem_toList.1 hm)).2.1 hk)
  have t2 : TK w2 g m most v xs := t1.only o2 (fun k hk hm => (h.knew k (Option.mem_toList.1 hm)).2 hk)
  have g1n : g1 ∉ foot g m v := by
    rcases l1 with h1 | h1
    · exact (hi g1 h1).2.1
    · intro hm
      have := h.tab.foot_lt g1 hm
      omega
  have g2n : g2 ∉ foot g m v := by
    rcases l2 with h1 | h1
    · exact (hk g2 h1).2
    · intro hm
      have := h.tab.foot_lt g2 hm
      omega
  have g1lt : g1 < w1.heap.size := (r1.lt g1 rfl).2
  have g12 : g2 ≠ g1 := by
    rintro rfl
    rcases l2 with h1 | h1
    · rcases l1 with h2 | h2
      · exact (hi g2 h2).2.2 h1
      · have := (h.krow.lt g2 h1).2
        omega
    · omega
  refine ⟨t2, h.new, ?_, h.ok, ?_, ?_, by simp [h.len], fun b hb => ?_, fun b hb => ?_, fun j n' s' a b => ?_⟩
  · exact (h.bel.trans (o1.below hsz (fun j hj => (hi j (Option.mem_toList.1 hj)).1))).trans (o2.below (by omega) (fun j hj => (hk j (Option.mem_toList.1 hj)).1))
  · rw [List.length_append, List.map_append, ivals_append]
    refine own_only r1 o2 (fun b hb hm => ?_)
    simp only [Value.ownBlock, Option.some.injEq] at hb
    subst hb
    rw [Option.mem_toList] at hm
    rcases l1 with h2 | h2
    · exact (hi g1 h2).2.2 hm
    · have := (h.krow.lt g1 hm).2
      omega
  · rw [List.length_append, stv_append, stv_one]
    exact r2
  · simp only [Value.ownBlock, Option.some.injEq] at hb
    subst hb
    refine ⟨?_, g1n, fun e => by simp only [Value.ownBlock, Option.some.injEq] at e; exact g12 e⟩
    rcases l1 with h2 | h2
    · exact (hi g1 h2).1
    · omega
  · simp only [Value.ownBlock, Option.some.injEq] at hb
    subst hb
    refine ⟨?_, g2n⟩
    rcases l2 with h2 | h2
    · exact (hk g2 h2).1
    · omega
  · have hl := h.len
    rcases Nat.lt_trichotomy j ids.length with h1 | h1 | h1
    · rw [List.getElem?_append_left h1] at a
      rw [List.getElem?_append_left (by omega)] at b
      exact h.of j n' s' a b
    · subst h1
      rw [List.getElem?_append_right (Nat.le_refl _)] at a
      rw [hl, List.getElem?_append_right (Nat.le_refl _)] at b
      simp at a b
      subst a b
      exact hn
    · rw [List.getElem?_eq_none (by simp; omega)] at a
      cases a
end

/-- The numbers of the keys, and the keys, as the walk reads them. -/
theorem Bk.empty {w0 w : World} {g m : Nat} {most : Int} (h : TK w g m most (.slice none 0 0) []) (hb : Below w0.heap.size w0 w) (h1 : w0.heap.size ≤ g) (h2 : w0.heap.size ≤ m) : Bk w0 w g m most (.slice none 0 0) [] (.slice none 0 0) (.slice none 0 0) [] [] := by
  refine ⟨h, fun j hj => ?_, hb, by simp, World.ownsRow_nil _ _ _ _, World.ownsRow_nil _ _ _ _, rfl, by simp [Value.ownBlock], by simp [Value.ownBlock], by simp⟩
  simp only [foot, Value.ownBlock, Option.toList, List.mem_cons, List.not_mem_nil, or_false] at hj
  rcases hj with rfl | rfl
  · exact h1
  · exact h2

/-- Two numbers and their keys, as they lie in the rows. -/
theorem Bk.two {w0 w : World} {g m : Nat} {most : Int} {v : Value} {xs : List Sk} {Ai Ak : Option Addr} {ci ck : Nat} {ids : List Nat} {ps : List Sk} (h : Bk w0 w g m most v xs (.slice Ai ids.length ci) (.slice Ak ps.length ck) ids ps) {p : Nat} (hp : p < ids.length) :
    ∃ bi bk, Ai = some ⟨bi, 0, none⟩ ∧ Ak = some ⟨bk, 0, none⟩ ∧ ∀ j, j < ids.length → ∃ (n : Nat) (s : Sk), xs[n]? = some s ∧ w.cell? ⟨bi, j, none⟩ = some (.int .i64 n) ∧
      w.cell? ⟨bk, j * 4, none⟩ = some (.int .i64 s.a) ∧ w.cell? ⟨bk, j * 4 + 1, none⟩ = some (.int .i64 s.b) ∧ w.cell? ⟨bk, j * 4 + 2, none⟩ = some (.int .i64 s.c) ∧ w.cell? ⟨bk, j * 4 + 3, none⟩ = some (.int .i64 s.d) ∧ ids[j]? = some n ∧ ps[j]? = some s := by
  have hl := h.len
  obtain ⟨A, c, e1, hA⟩ := own_form h.irow
  injection e1 with e1 _ _
  subst e1
  obtain ⟨A, c, e2, hB⟩ := own_form h.krow
  injection e2 with e2 _ _
  subst e2
  obtain ⟨bi, rfl, -⟩ := hA (by omega)
  obtain ⟨bk, rfl, -⟩ := hB (by omega)
  refine ⟨bi, bk, rfl, rfl, fun j hj => ?_⟩
  have hj' : j < ps.length := by omega
  have h1 : ids[j]? = some ids[j] := List.getElem?_eq_getElem hj
  have h2 : ps[j]? = some ps[j] := List.getElem?_eq_getElem hj'
  obtain ⟨g1, g2, g3, g4⟩ := stv_get h2
  refine ⟨ids[j], ps[j], h.of j _ _ h1 h2, ?_, (h.krow.cellAt (j * 4) (by omega)).trans g1, (h.krow.cellAt (j * 4 + 1) (by omega)).trans g2, (h.krow.cellAt (j * 4 + 2) (by omega)).trans g3, (h.krow.cellAt (j * 4 + 3) (by omega)).trans g4, h1, h2⟩
  rw [h.irow.cellAt j (by omega)]
  simp [ivals, h1]

set_option maxRecDepth 100000 in
set_option maxHeartbeats 4000000 in
theorem back_main (most : Int) (A : Option Addr) (cap : Nat) (l : List Sk) (w : World) (hm1 : 1 ≤ most) (hm2 : most ≤ 20000) (hl : l.length ≤ 100) (hrow : StakesAt w A l) (hok : ∀ x ∈ l, x.ok) :
    Calls Try.prog 4 #[.int .i64 most, .slice A l.length cap] w fun e w' => e = .returned (.bool true) ∧ Below w.heap.size w w' := by
  obtain ⟨i0, hi0, hz0, hz1, hz2⟩ := info_parts Try.infoIntI
  obtain ⟨i1, hi1, hy0, hy1, hy2⟩ := info_parts Try.infoSta
  go_enter Try.func4, Try.ntmps4
  go_wp2_with fail
  refine (knew_yes w most hm1 hm2).mono ?_
  rintro e w1 ⟨g, m, rfl, hT, hb, hg, hm⟩
  have H0 := Lib.hid (Bk.empty hT hb hg hm)
  clear hT hb hg hm
  go_wp2_with fail
  go_loopw [7, 8, 9] (fun iv kv i wr => ∃ (k : Nat) (v : Value) (xs : List Sk) (ids : List Nat) (ps : List Sk), k ≤ l.length ∧ i = .int .i64 k ∧ xs.length ≤ k ∧ (xs.length : Int) ≤ most ∧ ids.length ≤ k ∧ Bk w wr g m most v xs iv kv ids ps) (fun _ _ i _ => l.length - (intOf i).toNat)
  case atStart => exact ⟨0, _, _, _, _, by omega, rfl, by simp, by simp; omega, by simp, H0.out⟩
  case round =>
    clear H0
    obtain ⟨k, v, xs, ids, ps, hk, rfl, hxk, hxm, hik, H⟩ := hrel
    obtain ⟨Ai, ci, rfl, -⟩ := own_form H.irow
    obtain ⟨Ak, ck, rfl, -⟩ := own_form H.krow
    by_cases hkl : k < l.length
    · obtain ⟨b, off, rfl, hbl, hcell⟩ := hrow (by omega)
      obtain ⟨y1, y2, y3, y4⟩ := hcell k hkl
      have hs := hok l[k] (List.getElem_mem _)
      generalize l[k] = s at *
      have hfar : ∀ F : List Nat, (∀ j ∈ F, w.heap.size ≤ j) → b ∉ F := fun F hF hm => by have := hF b hm; omega
      have Z := Lib.hid fun (wr : World) (hb : Below w.heap.size w wr) => (⟨(hb.cell (p := ⟨b, off + k * 4, none⟩) (by exact hbl)).trans y1, (hb.cell (p := ⟨b, off + k * 4 + 1, none⟩) (by exact hbl)).trans y2, (hb.cell (p := ⟨b, off + k * 4 + 2, none⟩) (by exact hbl)).trans y3, (hb.cell (p := ⟨b, off + k * 4 + 3, none⟩) (by exact hbl)).trans y4⟩ :
        wr.cell? ⟨b, off + k * 4, none⟩ = some (.int .i64 s.a) ∧ wr.cell? ⟨b, off + k * 4 + 1, none⟩ = some (.int .i64 s.b) ∧ wr.cell? ⟨b, off + k * 4 + 2, none⟩ = some (.int .i64 s.c) ∧ wr.cell? ⟨b, off + k * 4 + 3, none⟩ = some (.int .i64 s.d))
      obtain ⟨z1, z2, z3, z4⟩ := Z.out _ H.bel
      clear hcell hrow y1 y2 y3 y4
      by_cases hr : s ∈ xs ∨ (xs.length : Int) < most
      · go_wp2_with fail
        refine (kid_ok _ g m most v xs H.tab s hs H.ok hr hm2).mono ?_
        rintro e w2 ⟨n, v', xs', rfl, hn, hT, ho, hv, hx, hkeep, hlen, hmo⟩
        have H2 := H.table hT ho hv hx hkeep
        clear z1 z2 z3 z4
        have hmo := hmo hxm
        clear H hT ho hv hx hkeep
        go_wp2_with fail
        refine (kkey_yes _ g m most v' xs' H2.tab n s hn).mono ?_
        rintro e w3 ⟨rfl, hb3⟩
        have H3 := H2.below hb3
        obtain ⟨z1, z2, z3, z4⟩ := Z.out _ H3.bel
        have hbl3 : b < w3.heap.size := by have := H3.bel.size; omega
        clear H2 hb3
        go_wp2_with fail
        have B3 := Box.new w3 46 #[.int .i64 s.a, .int .i64 s.b, .int .i64 s.c, .int .i64 s.d]
        have H3a := H3.below (below_alloc w3 (.cells #[.int .i64 s.a, .int .i64 s.b, .int .i64 s.c, .int .i64 s.d] 46))
        refine (kfind_yes _ g m most v' xs' H3a.tab s hs n hn).mono ?_
        rintro e w4 ⟨rfl, hb4⟩
        have H4 := H3a.below hb4
        have kB := (B3.later hb4).cells
        obtain ⟨z1, z2, z3, z4⟩ := Z.out _ H4.bel
        clear H3 H3a hb4 B3 hbl3
        go_wp2_with fail
        go_quiet (fail)
        have H5 := H4.drewN nq
        clear H4 kB z1 z2 z3 z4
        generalize w4.drewN nq = w5 at *
        obtain ⟨z1, z2, z3, z4⟩ := Z.out _ H5.bel
        have hpk : ps.length ≤ k := by rw [← H5.len]; exact hik
        have hi5 := H5.irow
        have hk5 := H5.krow
        have H6 := Lib.hid H5
        have hn5 := H5.inew
        have hb5 := H5.bel
        clear H5
        have hs5 := hb5.size
        go_wp2_with (first
          | (at_builtin; refine wpList_append_at (w := w5) rfl _ _ 28 rfl 3 i0 (.int .i64 0) 1 8 Try.underlying28 hi0 hz0 hz1 hz2 rfl (by decide) (.slice Ai ids.length ci) ids.length (ivals (ids.map Int.ofNat)) rfl hi5 [.int .i64 n] rfl rfl (fun u hu => by simp at hu; subst hu; rfl) (by unfold maxLen; omega) (by omega) ?_;
             intro g1 c1 w6 r1 b1 l1;
             have bel6 := hb5.grown b1 hs5 (fun k hk => (hn5 k hk).1);
             obtain ⟨z1, z2, z3, z4⟩ := Z.out _ bel6;
             have hk6 := own_only hk5 (Only.of_grown (F := (Value.slice Ai ids.length ci).ownBlock.toList) b1 (fun k hk => by rw [Option.mem_toList]; exact hk)) (fun b hb hm => (hn5 b (Option.mem_toList.1 hm)).2.2 hb))
          | (at_builtin; refine wpList_append_at (w := w6) rfl _ _ 41 rfl 46 i1 (.agg #[.int .i64 0, .int .i64 0, .int .i64 0, .int .i64 0]) 4 32 Try.underlying41 hi1 hy0 hy1 hy2 rfl (by decide) (.slice Ak ps.length ck) ps.length (stv ps) rfl hk6 [.int .i64 s.a, .int .i64 s.b, .int .i64 s.c, .int .i64 s.d] rfl rfl (ivals_one [s.a, s.b, s.c, s.d]) (by unfold maxLen; omega) (by omega) ?_;
             intro g2 c2 w7 r2 b2 l2)
          | go_in)
        go_roundw
        case rel => exact ⟨k + 1, v', xs', ids ++ [n], ps ++ [s], by omega, by go_num, by omega, hmo, by simp; omega, H6.out.more r1 b1 l1 r2 b2 l2 hn⟩
        case measure => simp [intOf]; omega
      · have hr1 : s ∉ xs := fun h => hr (.inl h)
        have hr2 : most ≤ xs.length := by
          rcases (by omega : most ≤ xs.length ∨ (xs.length : Int) < most) with h | h
          · exact h
          · exact (hr (.inr h)).elim
        have hr3 : (xs.length : Int) = most := by omega
        go_wp2_with fail
        refine (kid_full _ g m most v xs H.tab s hs H.ok hr1 hr2).mono ?_
        rintro e w2 ⟨rfl, hb2⟩
        have H2 := H.below hb2
        obtain ⟨z1, z2, z3, z4⟩ := Z.out _ H2.bel
        clear H hb2
        go_wp2_with fail
        refine (kfind_no _ g m most v xs H2.tab s hs H2.ok hr1).mono ?_
        rintro e w3 ⟨rfl, hb3⟩
        have H3 := H2.below hb3
        clear H2 hb3 z1 z2 z3 z4
        go_wp2_with fail
        refine (klen_yes _ g m most v xs H3.tab).mono ?_
        rintro e w4 ⟨rfl, rfl⟩
        go_wp2_with fail
        go_roundw
        case rel => exact ⟨k + 1, v, xs, ids, ps, by omega, by go_num, by omega, hxm, by omega, H3⟩
        case measure => simp [intOf]; omega
    · obtain rfl : k = l.length := by omega
      clear hrow hok hkl hk
      have H0 := Lib.hid H
      clear H
      go_wp2_with fail
      go_loopw [18] (fun i wq => ∃ p : Nat, p ≤ ids.length ∧ i = .int .i64 p ∧ Bk w wq g m most v xs (.slice Ai ids.length ci) (.slice Ak ps.length ck) ids ps) (fun i _ => ids.length - (intOf i).toNat)
      case atStart => exact ⟨0, by omega, rfl, H0.out⟩
      case round =>
        clear H0
        obtain ⟨p, hp, rfl, H⟩ := hrel
        by_cases hpl : p < ids.length
        · have H0 := Lib.hid H
          clear H
          go_wp2_with fail
          go_loopw [19] (fun j wq => ∃ q : Nat, q ≤ p ∧ j = .int .i64 q ∧ Bk w wq g m most v xs (.slice Ai ids.length ci) (.slice Ak ps.length ck) ids ps) (fun j _ => p - (intOf j).toNat)
          case atStart => exact ⟨0, by omega, rfl, H0.out⟩
          case round =>
            clear H0
            obtain ⟨q, hq, rfl, H⟩ := hrel
            by_cases hqp : q < p
            · obtain ⟨bi, bk, rfl, rfl, hc⟩ := H.two hpl
              obtain ⟨n1, s1, a0, a1, a2, a3, a4, a5, -, -⟩ := hc p hpl
              obtain ⟨n2, s2, e0, e1, e2, e3, e4, e5, -, -⟩ := hc q (by omega)
              have hpk : p < ps.length := by rw [← H.len]; exact hpl
              have hqk : q < ps.length := by omega
              have hql : q < ids.length := by omega
              have hsame : n1 = n2 ↔ s1 = s2 := ⟨fun e => by rw [e, e0] at a0; injection a0 with a0; exact a0.symm, fun e => by rw [e] at a0; exact tk_nodup H.tab a0 e0⟩
              clear hc a0 e0
              have hcase : (n1 = n2 ∧ s1 = s2) ∨ (n1 ≠ n2 ∧ s1.a ≠ s2.a) ∨ (n1 ≠ n2 ∧ s1.a = s2.a ∧ s1.b ≠ s2.b) ∨ (n1 ≠ n2 ∧ s1.a = s2.a ∧ s1.b = s2.b ∧ s1.c ≠ s2.c) ∨ (n1 ≠ n2 ∧ s1.a = s2.a ∧ s1.b = s2.b ∧ s1.c = s2.c ∧ s1.d ≠ s2.d) := by
                by_cases h0 : n1 = n2
                · exact .inl ⟨h0, hsame.1 h0⟩
                have h1 : s1 ≠ s2 := fun e => h0 (hsame.2 e)
                by_cases ha : s1.a = s2.a
                · by_cases hb : s1.b = s2.b
                  · by_cases hc : s1.c = s2.c
                    · by_cases hd : s1.d = s2.d
                      · exact (h1 (by cases s1; cases s2; simp_all)).elim
                      · exact .inr (.inr (.inr (.inr ⟨h0, ha, hb, hc, hd⟩)))
                    · exact .inr (.inr (.inr (.inl ⟨h0, ha, hb, hc⟩)))
                  · exact .inr (.inr (.inl ⟨h0, ha, hb⟩))
                · exact .inr (.inl ⟨h0, ha⟩)
              clear hsame
              rcases hcase with ⟨rfl, rfl⟩ | ⟨h0, h1⟩ | ⟨h0, h1, h2⟩ | ⟨h0, h1, h2, h3⟩ | ⟨h0, h1, h2, h3, h4⟩
              all_goals go_wp2_with fail
              all_goals go_quiet (fail)
              all_goals go_wp2_with fail
              all_goals go_roundw
              all_goals first
                | exact ⟨q + 1, by omega, by go_num, H.drewN _⟩
                | (simp [intOf]; omega)
            · obtain rfl : q = p := by omega
              go_wp2_with fail
              go_roundw
              case rel => exact ⟨q + 1, by omega, by go_num, H⟩
              case measure => simp [intOf]; omega
        · have H0 := Lib.hid H
          clear H
          have hxl : xs.length ≤ 100 := by omega
          go_wp2_with fail
          go_loopw [20] (fun i wq => ∃ p : Nat, p ≤ xs.length ∧ i = .int .i64 p ∧ Bk w wq g m most v xs (.slice Ai ids.length ci) (.slice Ak ps.length ck) ids ps) (fun i _ => xs.length - (intOf i).toNat)
          case atStart => exact ⟨0, by omega, rfl, H0.out⟩
          case round =>
            clear H0 hp hpl
            obtain ⟨p, hp, rfl, H⟩ := hrel
            by_cases hpl : p < xs.length
            · have hn : xs[p]? = some xs[p] := List.getElem?_eq_getElem hpl
              have hs := H.ok xs[p] (List.getElem_mem _)
              have hp2 : p < 200 := by omega
              generalize xs[p] = s at *
              go_wp2_with fail
              refine (klen_yes _ g m most v xs H.tab).mono ?_
              rintro e w1 ⟨rfl, rfl⟩
              go_wp2_with fail
              refine (kkey_yes _ g m most v xs H.tab p s hn).mono ?_
              rintro e w3 ⟨rfl, hb3⟩
              have H3 := H.below hb3
              clear H hb3
              go_wp2_with fail
              have H3a := H3.below (below_alloc w3 (.cells #[.int .i64 s.a, .int .i64 s.b, .int .i64 s.c, .int .i64 s.d] 46))
              refine (kfind_yes _ g m most v xs H3a.tab s hs p hn).mono ?_
              rintro e w4 ⟨rfl, hb4⟩
              have H4 := H3a.below hb4
              clear H3 H3a hb4
              go_wp2_with fail
              go_roundw
              case rel => exact ⟨p + 1, by omega, by go_num, H4⟩
              case measure => simp [intOf]; omega
            · obtain rfl : p = xs.length := by omega
              have hxn : (xs.length : Int) ≤ l.length := by omega
              go_wp2_with fail
              refine (klen_yes _ g m most v xs H.tab).mono ?_
              rintro e w1 ⟨rfl, rfl⟩
              go_wp2_with fail
              refine (klen_yes _ g m most v xs H.tab).mono ?_
              rintro e w1 ⟨rfl, rfl⟩
              go_wp2_with fail
              refine (kkey_no _ g m most v xs H.tab xs.length (.inr (Int.le_refl _))).mono ?_
              rintro e w3 ⟨⟨a0, b0, c0, d0⟩, rfl, hb3⟩
              have H3 := H.below hb3
              clear H hb3
              have H4 := H3.below (below_alloc w3 (.cells #[.int .i64 a0, .int .i64 b0, .int .i64 c0, .int .i64 d0] 46))
              have hb := H4.bel
              have L := klen_yes _ g m most v xs H4.tab
              clear H3 H4
              go_wp2_with (first
                | (go_at_call 15; refine L.mono ?_; rintro e w' ⟨rfl, rfl⟩)
                | (go_at_call 6; refine (awake_any _).mono ?_; rintro e w5 ⟨rfl, hb5⟩; have hb6 := hb.trans (hb5.mono hb.size))
                | go_in)
              go_ret
              exact ⟨rfl, hb6⟩

set_option maxRecDepth 100000 in
set_option maxHeartbeats 2000000 in
theorem back_no (most : Int) (hm : most < 1 ∨ 20000 < most) (A : Option Addr) (cap n : Nat) (w : World) :
    Calls Try.prog 4 #[.int .i64 most, .slice A n cap] w fun e w' => e = .returned (.bool true) ∧ Below w.heap.size w w' := by
  by_cases hl : 100 < n
  · go_enter Try.func4, Try.ntmps4
    go_wp2_with fail
    refine (knew_no w most hm).mono ?_
    rintro e w1 ⟨rfl, rfl⟩
    go_wp2_with fail
    refine (awake_any _).mono ?_
    rintro e w5 ⟨rfl, hb5⟩
    go_wp2_with fail
    go_ret
    exact ⟨rfl, hb5⟩
  · go_enter Try.func4, Try.ntmps4
    go_wp2_with fail
    refine (knew_no w most hm).mono ?_
    rintro e w1 ⟨rfl, rfl⟩
    go_wp2_with fail
    refine (awake_any _).mono ?_
    rintro e w5 ⟨rfl, hb5⟩
    go_wp2_with fail
    go_ret
    exact ⟨rfl, hb5⟩

set_option maxRecDepth 100000 in
set_option maxHeartbeats 2000000 in
theorem back_long (most : Int) (h1 : 1 ≤ most) (h2 : most ≤ 20000) (A : Option Addr) (cap n : Nat) (w : World) (hl : 100 < n) :
    Calls Try.prog 4 #[.int .i64 most, .slice A n cap] w fun e w' => e = .returned (.bool true) ∧ Below w.heap.size w w' := by
  go_enter Try.func4, Try.ntmps4
  go_wp2_with fail
  refine (knew_yes w most h1 h2).mono ?_
  rintro e w1 ⟨g, m, rfl, -, hb, -, -⟩
  go_wp2_with fail
  refine (awake_any _).mono ?_
  rintro e w5 ⟨rfl, hb5⟩
  have hb6 := hb.trans (hb5.mono hb.size)
  clear hb hb5
  go_wp2_with fail
  go_ret
  exact ⟨rfl, hb6⟩

theorem stakes_of {w : World} {A : Option Addr} {n : Nat} {xs : List Int} (hl : xs.length = n * 4) (hr : RowAt w A (ivals xs)) (hw : ∀ x ∈ xs, (Lit.int .i64 x).wf = true) :
    ∃ l : List Sk, l.length = n ∧ StakesAt w A l ∧ ∀ x ∈ l, x.ok := by
  refine ⟨(List.range n).map fun i => ⟨xs[i * 4]?.getD 0, xs[i * 4 + 1]?.getD 0, xs[i * 4 + 2]?.getD 0, xs[i * 4 + 3]?.getD 0⟩, by simp, fun hn => ?_, fun x hx => ?_⟩
  · simp only [List.length_map, List.length_range] at hn
    obtain ⟨b, off, rfl, hb, hc⟩ := hr.iget (by omega)
    refine ⟨b, off, rfl, hb, fun j hj => ?_⟩
    simp only [List.length_map, List.length_range] at hj
    simp only [List.getElem_map, List.getElem_range]
    have h1 := hc (j * 4) (by omega)
    have h2 := hc (j * 4 + 1) (by omega)
    have h3 := hc (j * 4 + 2) (by omega)
    have h4 := hc (j * 4 + 3) (by omega)
    rw [List.getElem?_eq_getElem (by omega), List.getElem?_eq_getElem (by omega), List.getElem?_eq_getElem (by omega), List.getElem?_eq_getElem (by omega)]
    exact ⟨h1, by rw [Nat.add_assoc]; exact h2, by rw [Nat.add_assoc]; exact h3, by rw [Nat.add_assoc]; exact h4⟩
  · obtain ⟨i, hi, rfl⟩ := List.mem_map.1 hx
    rw [List.mem_range] at hi
    have e : ∀ j, j < xs.length → (Lit.int .i64 (xs[j]?.getD 0)).wf = true := fun j hj => by
      rw [List.getElem?_eq_getElem hj, Option.getD_some]
      exact hw _ (List.getElem_mem _)
    intro x hx
    simp only [Sk.cs, List.mem_cons, List.not_mem_nil, or_false] at hx
    rcases hx with rfl | rfl | rfl | rfl
    · exact e _ (by omega)
    · exact e _ (by omega)
    · exact e _ (by omega)
    · exact e _ (by omega)

theorem back_law (most : Int) (A : Option Addr) (n cap : Nat) (xs : List Int) (hx : xs.length = n * 4) (w : World) (hr : RowAt w A (ivals xs)) (hw : ∀ x ∈ xs, (Lit.int .i64 x).wf = true) :
    Calls Try.prog 4 #[.int .i64 most, .slice A n cap] w fun e w' => e = .returned (.bool true) ∧ Below w.heap.size w w' := by
  obtain ⟨l, rfl, hl, hok⟩ := stakes_of hx hr hw
  by_cases ha : most < 1 ∨ 20000 < most
  · exact back_no most ha A cap _ w
  · by_cases h : 100 < l.length
    · exact back_long most (by omega) (by omega) A cap _ w h
    · exact back_main most A cap l w (by omega) (by omega) (by omega) hl hok
end Go.Proofs.Ytgmbbhfcpllgoaa
