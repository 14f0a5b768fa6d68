/-
  stake.round: it goes back to its label.
-/
import Derived.Test.YtkdpiikfiodopaaDoorJc
import Derived.ScopeJumps
namespace Go.Proofs.YtkdpiikfiodopaaDoor
open Go.RowKit

theorem rnd_stop {f : Int → Int} {e0 a : Int} {k : Nat} (h : a = e0 ∨ a = 0 ∨ k = 0) : rndG f e0 k a = (a == e0) := by
  cases k with
  | zero => rfl
  | succ k =>
    unfold rndG
    rw [if_neg]
    omega
theorem rnd_go {f : Int → Int} {e0 a : Int} {k : Nat} (h1 : a ≠ e0) (h2 : a ≠ 0) (hk : 0 < k) : rndG f e0 k a = rndG f e0 (k - 1) (f a) := by
  obtain ⟨k, rfl⟩ : ∃ j, k = j + 1 := ⟨k - 1, by omega⟩
  conv => lhs; unfold rndG
  rw [if_pos ⟨h1, h2⟩]
  rfl

set_option maxRecDepth 100000 in
set_option maxHeartbeats 1000000 in
theorem sround_any {A : Option Addr} {c : Nat} {l : List Stk} {e0 q : Int} {w : World} (hm : l.length ≤ 1000000) (hr : RowT w A l) :
    Calls Tryd.prog 111 #[.slice A l.length c, .int .i64 e0, .int .i64 q] w fun e w' => e = .returned (.bool (rndP l e0 q)) ∧ Below w.heap.size w w' := by
  have AT := Lib.hid fun (x : Int) (w : World) (hr : RowT w A l) => sat_any (c := c) (x := x) (q := q) hm hr
  have R := Lib.hid hr
  have HP : rndG (parL l q) e0 (l.length - 0) (parL l q e0) = rndP l e0 q := rfl
  generalize rndP l e0 q = out at *
  clear hr
  go_enter Tryd.func111, Tryd.ntmps111
  go_wp2
  refine wp_scope_jumps 0 (fun a' W => ∃ (s : Nat) (a : Int), s ≤ l.length ∧ rndG (parL l q) e0 (l.length - s) (parL l q a) = out ∧ Below w.heap.size w W ∧ ∃ u9 u10 u11 u12 u13 u14 u15 u16 u17 u18 u19 u20 u21 u22 u23 u24 u25 u26 u27 u28 u29 u30 u31 u32 u33 u34 : Value, a' = { tmps := #[.slice A l.length c, .int .i64 e0, .int .i64 q, undef, undef, undef, .bool false, .int .i64 a, .int .i64 s, u9, u10, u11, u12, u13, u14, u15, u16, u17, u18, u19, u20, u21, u22, u23, u24, u25, u26, u27, u28, u29, u30, u31, u32, u33, u34], defers := [] })
    (fun a' _ => l.length + 1 - (intOf (a'.tmps.getD 8 undef)).toNat) rfl ?_ ?_
  · go_wp2
    go_step3
    go_wp2_with fail
    refine (AT.out _ _ R.out).mono ?_
    rintro e w1 ⟨rfl, b1⟩
    
    rw [show (atL l e0 q).1 = parL l q e0 from rfl]
    generalize (atL l e0 q).2 = sh at *
    generalize hga : parL l q e0 = a1 at *
    rcases (by omega : a1 = e0 ∨ (a1 ≠ e0 ∧ a1 = 0) ∨ (a1 ≠ e0 ∧ a1 ≠ 0 ∧ l.length ≤ 0) ∨ (a1 ≠ e0 ∧ a1 ≠ 0 ∧ 0 < l.length)) with h1 | ⟨h1, h2⟩ | ⟨h1, h2, h3⟩ | ⟨h1, h2, h3⟩
    · have HO := Lib.hid ((rnd_stop (f := parL l q) (k := l.length - 0) (.inl h1)).symm.trans HP)
      have hb1 : (a1 == e0) = true := by simpa using h1
      have hn1 : (a1 != e0) = false := by simpa using h1
      rw [hb1] at HO
      clear h1 hga HP
      go_wp2
      simp only [Exit.jump]
      refine bodyPost_ret (by unfold results; simp only [Tryd.results111]; go_simp; rfl) rfl ?_
      exact ⟨by rw [← HO.out], b1⟩
    · have HO := Lib.hid ((rnd_stop (f := parL l q) (e0 := e0) (k := l.length - 0) (.inr (.inl h2))).symm.trans HP)
      have hb1 : (a1 == e0) = false := by simpa using h1
      have hn1 : (a1 != e0) = true := by simpa using h1
      have hn2 : (a1 != 0) = false := by simpa using h2
      rw [hb1] at HO
      clear h1 h2 hga HP
      go_wp2
      simp only [Exit.jump]
      refine bodyPost_ret (by unfold results; simp only [Tryd.results111]; go_simp; rfl) rfl ?_
      exact ⟨by rw [← HO.out], b1⟩
    · have HO := Lib.hid ((rnd_stop (f := parL l q) (a := a1) (e0 := e0) (k := l.length - 0) (.inr (.inr (by omega)))).symm.trans HP)
      have hb1 : (a1 == e0) = false := by simpa using h1
      have hn1 : (a1 != e0) = true := by simpa using h1
      have hn2 : (a1 != 0) = true := by simpa using h2
      have hb3 : decide (((0 : Nat) : Int) + 1 ≤ l.length) = false := decide_eq_false (by omega)
      rw [hb1] at HO
      clear h1 hga HP
      go_wp2
      simp only [Exit.jump]
      refine bodyPost_ret (by unfold results; simp only [Tryd.results111]; go_simp; rfl) rfl ?_
      exact ⟨by rw [← HO.out], b1⟩
    · have HO := Lib.hid ((rnd_go (f := parL l q) (k := l.length - 0) h1 h2 (by omega)).symm.trans HP)
      have hb1 : (a1 == e0) = false := by simpa using h1
      have hn1 : (a1 != e0) = true := by simpa using h1
      have hn2 : (a1 != 0) = true := by simpa using h2
      have hb3 : decide (((0 : Nat) : Int) + 1 ≤ l.length) = true := decide_eq_true (by omega)
      clear h1 h2 hga HP
      go_wp2
      go_step3
      exact ⟨rfl, 1, a1, by omega, HO.out, b1, _, _, _, _, _, _, _, _, _, _, _, _, _, _, _, _, _, _, _, _, _, _, _, _, _, _, rfl⟩
  · rintro a' W ⟨s, a, hs, HP, bb, u9, u10, u11, u12, u13, u14, u15, u16, u17, u18, u19, u20, u21, u22, u23, u24, u25, u26, u27, u28, u29, u30, u31, u32, u33, u34, rfl⟩
    go_wp2_with fail
    refine (AT.out _ _ (R.out.below bb (Nat.le_refl _))).mono ?_
    rintro e w1 ⟨rfl, b1⟩
    have b1 := bb.trans (b1.mono bb.size)
    rw [show (atL l a q).1 = parL l q a from rfl]
    generalize (atL l a q).2 = sh at *
    generalize hga : parL l q a = a1 at *
    rcases (by omega : a1 = e0 ∨ (a1 ≠ e0 ∧ a1 = 0) ∨ (a1 ≠ e0 ∧ a1 ≠ 0 ∧ l.length ≤ s) ∨ (a1 ≠ e0 ∧ a1 ≠ 0 ∧ s < l.length)) with h1 | ⟨h1, h2⟩ | ⟨h1, h2, h3⟩ | ⟨h1, h2, h3⟩
    · have HO := Lib.hid ((rnd_stop (f := parL l q) (k := l.length - s) (.inl h1)).symm.trans HP)
      have hb1 : (a1 == e0) = true := by simpa using h1
      have hn1 : (a1 != e0) = false := by simpa using h1
      rw [hb1] at HO
      clear h1 hga HP
      go_wp2
      simp only [Exit.jump]
      refine bodyPost_ret (by unfold results; simp only [Tryd.results111]; go_simp; rfl) rfl ?_
      exact ⟨by rw [← HO.out], b1⟩
    · have HO := Lib.hid ((rnd_stop (f := parL l q) (e0 := e0) (k := l.length - s) (.inr (.inl h2))).symm.trans HP)
      have hb1 : (a1 == e0) = false := by simpa using h1
      have hn1 : (a1 != e0) = true := by simpa using h1
      have hn2 : (a1 != 0) = false := by simpa using h2
      rw [hb1] at HO
      clear h1 h2 hga HP
      go_wp2
      simp only [Exit.jump]
      refine bodyPost_ret (by unfold results; simp only [Tryd.results111]; go_simp; rfl) rfl ?_
      exact ⟨by rw [← HO.out], b1⟩
    · have HO := Lib.hid ((rnd_stop (f := parL l q) (a := a1) (e0 := e0) (k := l.length - s) (.inr (.inr (by omega)))).symm.trans HP)
      have hb1 : (a1 == e0) = false := by simpa using h1
      have hn1 : (a1 != e0) = true := by simpa using h1
      have hn2 : (a1 != 0) = true := by simpa using h2
      have hb3 : decide (((s : Nat) : Int) + 1 ≤ l.length) = false := decide_eq_false (by omega)
      rw [hb1] at HO
      clear h1 hga HP
      go_wp2
      simp only [Exit.jump]
      refine bodyPost_ret (by unfold results; simp only [Tryd.results111]; go_simp; rfl) rfl ?_
      exact ⟨by rw [← HO.out], b1⟩
    · have HO := Lib.hid ((rnd_go (f := parL l q) (k := l.length - s) h1 h2 (by omega)).symm.trans HP)
      have hb1 : (a1 == e0) = false := by simpa using h1
      have hn1 : (a1 != e0) = true := by simpa using h1
      have hn2 : (a1 != 0) = true := by simpa using h2
      have hb3 : decide (((s : Nat) : Int) + 1 ≤ l.length) = true := decide_eq_true (by omega)
      clear h1 h2 hga HP
      go_wp2
      go_step3
      exact ⟨rfl, ⟨s + 1, a1, by omega, by rw [show l.length - (s + 1) = l.length - s - 1 by omega]; exact HO.out, b1, _, _, _, _, _, _, _, _, _, _, _, _, _, _, _, _, _, _, _, _, _, _, _, _, _, _, by go_num⟩, by simp [intOf]; omega⟩
end Go.Proofs.YtkdpiikfiodopaaDoor
/-
  stake.last, stake.Check.
-/
namespace Go.Proofs.YtkdpiikfiodopaaDoor
open Go.RowKit

/-- What last does with its stake, in its own cells. -/
theorem last_cells {w : World} {A : Option Addr} {l : List Stk} (h : RowT w A l) (hn : 0 < l.length) :
    ∃ b off s, A = some ⟨b, off, none⟩ ∧ b < w.heap.size ∧ l.getLast? = some s ∧ w.cell? ⟨b, off + (l.length - 1) * 4, none⟩ = some (.int .i64 s.e) ∧ w.cell? ⟨b, off + (l.length - 1) * 4 + 1, none⟩ = some (.int .i64 s.p) ∧
      w.cell? ⟨b, off + (l.length - 1) * 4 + 2, none⟩ = some (.int .i64 s.s) ∧ w.cell? ⟨b, off + (l.length - 1) * 4 + 3, none⟩ = some (.int .i64 s.f) := by
  obtain ⟨b, off, rfl, hb, hc⟩ := h.get hn
  obtain ⟨h1, h2, h3, h4⟩ := hc (l.length - 1) (by omega)
  exact ⟨b, off, l[l.length - 1], rfl, hb, by rw [List.getLast?_eq_getElem?, List.getElem?_eq_getElem (by omega)], h1, h2, h3, h4⟩
theorem cir_true {l : List Stk} {e : Int} {k : Nat} (hk : k < 24) (h : rndP l e k = true) : cirL l e = true := by
  unfold cirL
  exact List.any_eq_true.2 ⟨k, List.mem_range.2 hk, h⟩
theorem cir_false {l : List Stk} {e : Int} (h : ∀ j : Nat, j < 24 → rndP l e j = false) : cirL l e = false := by
  unfold cirL
  exact List.any_eq_false.2 fun x hx => by rw [h x (List.mem_range.1 hx)]; decide

set_option maxRecDepth 100000 in
set_option maxHeartbeats 4000000 in
theorem slast_any {A : Option Addr} {c : Nat} {l : List Stk} {s : Stk} {n : Int} {w : World} (hm : l.length ≤ 1000000) (hr : RowT w A l) (hs : l.getLast? = some s) :
    Calls Tryd.prog 94 #[.slice A l.length c, .int .i64 n] w fun e w' => e = .returned (.int .i64 (lastS l s n)) ∧ Below w.heap.size w w' := by
  have hn : 0 < l.length := by cases l with | nil => cases hs | cons a r => simp
  obtain ⟨b, off, s', rfl, hbl, hs', g1, g2, g3, g4⟩ := last_cells hr hn
  obtain rfl : s' = s := by rw [hs] at hs'; exact (Option.some.inj hs').symm
  clear hs hs'
  have RD := Lib.hid fun (q : Int) (w : World) (hr : RowT w (some ⟨b, off, none⟩) l) => sround_any (c := c) (e0 := s'.e) (q := q) hm hr
  have R := Lib.hid hr
  clear hr
  have hl : lastS l s' n = if badP s' n = true then 20 else if bdS s' = true then 12 else if badF s' = true then 22 else if cirL l s'.e = true then 26 else 0 := rfl
  have CT := Lib.hid fun k => cir_true (l := l) (e := s'.e) (k := k)
  have CF := Lib.hid (cir_false (l := l) (e := s'.e))
  unfold badP bdS badF at hl
  generalize lastS l s' n = out at *
  generalize cirL l s'.e = ci at *
  generalize s'.e = e0 at *
  generalize s'.p = p0 at *
  generalize s'.s = s0 at *
  generalize s'.f = f0 at *
  have hsub : ((l.length : Int) - 1) = ((l.length - 1 : Nat) : Int) := by omega
  have hlt : l.length - 1 < l.length := by omega
  have B1 : Below w.heap.size w (w.alloc (.cells #[.int .i64 e0, .int .i64 p0, .int .i64 s0, .int .i64 f0] 124)) := (Below.refl _ _).alloc (Nat.le_refl _) _
  rcases (by omega : e0 < 1 ∨ (1 ≤ e0 ∧ n < e0) ∨ (1 ≤ e0 ∧ e0 ≤ n ∧ p0 < 0) ∨ (1 ≤ e0 ∧ e0 ≤ n ∧ 0 ≤ p0 ∧ n < p0) ∨ (1 ≤ e0 ∧ e0 ≤ n ∧ 0 ≤ p0 ∧ p0 ≤ n)) with h | ⟨h1, h⟩ | ⟨h1, h2, h⟩ | ⟨h1, h2, h3, h⟩ | ⟨h1, h2, h3, h4⟩
  · have HO := Lib.hid (show out = 20 by rw [hl, if_pos]; simp; omega)
    clear hl
    go_enter Tryd.func94, Tryd.ntmps94
    go_wp2
    go_ret
    exact ⟨by rw [HO.out]; rfl, B1⟩
  · have HO := Lib.hid (show out = 20 by rw [hl, if_pos]; simp; omega)
    clear hl
    go_enter Tryd.func94, Tryd.ntmps94
    go_wp2
    go_ret
    exact ⟨by rw [HO.out]; rfl, B1⟩
  · have HO := Lib.hid (show out = 20 by rw [hl, if_pos]; simp; omega)
    clear hl
    go_enter Tryd.func94, Tryd.ntmps94
    go_wp2
    go_ret
    exact ⟨by rw [HO.out]; rfl, B1⟩
  · have HO := Lib.hid (show out = 20 by rw [hl, if_pos]; simp; omega)
    clear hl
    go_enter Tryd.func94, Tryd.ntmps94
    go_wp2
    go_ret
    exact ⟨by rw [HO.out]; rfl, B1⟩
  · have hl2 : out = if (decide (s0 < 0) || decide (10000 < s0) || (decide (p0 = 0) && !decide (s0 = 10000))) = true then 12 else if (decide (f0 < 0) || decide (24 ≤ f0)) = true then 22 else if ci = true then 26 else 0 := by
      rw [hl, if_neg]
      simp
      omega
    clear hl
    rcases (by omega : s0 < 0 ∨ (0 ≤ s0 ∧ 10000 < s0) ∨ (0 ≤ s0 ∧ s0 ≤ 10000 ∧ p0 = 0 ∧ s0 ≠ 10000) ∨ (0 ≤ s0 ∧ s0 ≤ 10000 ∧ p0 = 0 ∧ s0 = 10000) ∨ (0 ≤ s0 ∧ s0 ≤ 10000 ∧ p0 ≠ 0)) with h | ⟨g, h⟩ | ⟨g, g', h, h'⟩ | ⟨g, g', h, h'⟩ | ⟨g, g', h⟩
    · have HO := Lib.hid (show out = 12 by rw [hl2, if_pos]; simp; omega)
      clear hl2
      go_enter Tryd.func94, Tryd.ntmps94
      go_wp2
      go_ret
      exact ⟨by rw [HO.out]; rfl, B1⟩
    · have HO := Lib.hid (show out = 12 by rw [hl2, if_pos]; simp; omega)
      clear hl2
      go_enter Tryd.func94, Tryd.ntmps94
      go_wp2
      go_ret
      exact ⟨by rw [HO.out]; rfl, B1⟩
    · have HO := Lib.hid (show out = 12 by rw [hl2, if_pos]; simp; omega)
      clear hl2
      have hp : (p0 == 0) = true := by simpa using h
      have hq : (s0 != 10000) = true := by simpa using h'
      clear h h'
      go_enter Tryd.func94, Tryd.ntmps94
      go_wp2
      go_ret
      exact ⟨by rw [HO.out]; rfl, B1⟩
    · have hl3 : out = if (decide (f0 < 0) || decide (24 ≤ f0)) = true then 22 else if ci = true then 26 else 0 := by
        rw [hl2, if_neg]
        simp
        omega
      clear hl2
      have hp : (p0 == 0) = true := by simpa using h
      have hq : (s0 != 10000) = false := by simpa using h'
      clear h h'
      rcases (by omega : f0 < 0 ∨ (0 ≤ f0 ∧ 24 ≤ f0) ∨ (0 ≤ f0 ∧ f0 < 24)) with h | ⟨h0, h⟩ | ⟨h0, h⟩
      · have HO := Lib.hid (show out = 22 by rw [hl3, if_pos]; simp; omega)
        clear hl3
        go_enter Tryd.func94, Tryd.ntmps94
        go_wp2
        go_ret
        exact ⟨by rw [HO.out]; rfl, B1⟩
      · have HO := Lib.hid (show out = 22 by rw [hl3, if_pos]; simp; omega)
        clear hl3
        go_enter Tryd.func94, Tryd.ntmps94
        go_wp2
        go_ret
        exact ⟨by rw [HO.out]; rfl, B1⟩
      · have HO := Lib.hid (show out = if ci = true then 26 else 0 by rw [hl3, if_neg]; simp; omega)
        clear hl3 B1
        go_enter Tryd.func94, Tryd.ntmps94
        go_wp2
        go_loopw [62] (fun i wr => ∃ k : Nat, k ≤ 24 ∧ i = .int .i64 k ∧ Hid (∀ j : Nat, j < k → rndP l e0 j = false) ∧ Box wr w.heap.size 124 #[.int .i64 e0, .int .i64 p0, .int .i64 s0, .int .i64 f0] ∧ Below w.heap.size w wr) (fun i _ => 24 - (intOf i).toNat)
        case atStart => exact ⟨0, by omega, rfl, fun _ hj => absurd hj (Nat.not_lt_zero _), Box.new _ _ _, (Below.refl _ _).alloc (Nat.le_refl _) _⟩
        case round =>
          obtain ⟨k, hk, rfl, hq0, x5, hb⟩ := hrel
          have k5 := x5.cells
          have l5 := x5.lt
          by_cases hkn : k < 24
          · have RR := Lib.hid (RD.out k wr (R.out.below hb (Nat.le_refl _)))
            cases hrd : rndP l e0 k
            · rw [hrd] at RR
              have HN : Hid (∀ j : Nat, j < k + 1 → rndP l e0 j = false) := fun j hj => by
                rcases Nat.lt_succ_iff_lt_or_eq.1 hj with h | rfl
                · exact hq0.out j h
                · exact hrd
              clear hq0 hrd g1 g2 g3 g4
              go_wp2_with fail
              refine RR.out.mono ?_
              rintro e w1 ⟨rfl, b1⟩
              have hb1 := hb.trans (b1.mono hb.size)
              have x6 := x5.later b1
              clear k5 l5
              go_wp2
              go_roundw
              case rel => exact ⟨k + 1, by omega, by go_num, HN, x6, hb1⟩
              case measure => simp [intOf]; omega
            · rw [hrd] at RR
              have HE := Lib.hid (CT.out k hkn hrd)
              clear hq0 hrd g1 g2 g3 g4
              go_wp2_with fail
              refine RR.out.mono ?_
              rintro e w1 ⟨rfl, b1⟩
              have hb1 := hb.trans (b1.mono hb.size)
              clear k5 l5
              go_wp2
              go_ret
              exact ⟨by rw [HO.out, HE.out]; rfl, hb1⟩
          · obtain rfl : k = 24 := by omega
            have HE := Lib.hid (CF.out hq0.out)
            clear hq0 g1 g2 g3 g4 k5 l5
            go_wp2
            go_ret
            exact ⟨by rw [HO.out, HE.out]; rfl, hb⟩
    · have hl3 : out = if (decide (f0 < 0) || decide (24 ≤ f0)) = true then 22 else if ci = true then 26 else 0 := by
        rw [hl2, if_neg]
        simp
        omega
      clear hl2
      have hp : (p0 == 0) = false := by simpa using h
      clear h
      rcases (by omega : f0 < 0 ∨ (0 ≤ f0 ∧ 24 ≤ f0) ∨ (0 ≤ f0 ∧ f0 < 24)) with h | ⟨h0, h⟩ | ⟨h0, h⟩
      · have HO := Lib.hid (show out = 22 by rw [hl3, if_pos]; simp; omega)
        clear hl3
        go_enter Tryd.func94, Tryd.ntmps94
        go_wp2
        go_ret
        exact ⟨by rw [HO.out]; rfl, B1⟩
      · have HO := Lib.hid (show out = 22 by rw [hl3, if_pos]; simp; omega)
        clear hl3
        go_enter Tryd.func94, Tryd.ntmps94
        go_wp2
        go_ret
        exact ⟨by rw [HO.out]; rfl, B1⟩
      · have HO := Lib.hid (show out = if ci = true then 26 else 0 by rw [hl3, if_neg]; simp; omega)
        clear hl3 B1
        go_enter Tryd.func94, Tryd.ntmps94
        go_wp2
        go_loopw [62] (fun i wr => ∃ k : Nat, k ≤ 24 ∧ i = .int .i64 k ∧ Hid (∀ j : Nat, j < k → rndP l e0 j = false) ∧ Box wr w.heap.size 124 #[.int .i64 e0, .int .i64 p0, .int .i64 s0, .int .i64 f0] ∧ Below w.heap.size w wr) (fun i _ => 24 - (intOf i).toNat)
        case atStart => exact ⟨0, by omega, rfl, fun _ hj => absurd hj (Nat.not_lt_zero _), Box.new _ _ _, (Below.refl _ _).alloc (Nat.le_refl _) _⟩
        case round =>
          obtain ⟨k, hk, rfl, hq0, x5, hb⟩ := hrel
          have k5 := x5.cells
          have l5 := x5.lt
          by_cases hkn : k < 24
          · have RR := Lib.hid (RD.out k wr (R.out.below hb (Nat.le_refl _)))
            cases hrd : rndP l e0 k
            · rw [hrd] at RR
              have HN : Hid (∀ j : Nat, j < k + 1 → rndP l e0 j = false) := fun j hj => by
                rcases Nat.lt_succ_iff_lt_or_eq.1 hj with h | rfl
                · exact hq0.out j h
                · exact hrd
              clear hq0 hrd g1 g2 g3 g4
              go_wp2_with fail
              refine RR.out.mono ?_
              rintro e w1 ⟨rfl, b1⟩
              have hb1 := hb.trans (b1.mono hb.size)
              have x6 := x5.later b1
              clear k5 l5
              go_wp2
              go_roundw
              case rel => exact ⟨k + 1, by omega, by go_num, HN, x6, hb1⟩
              case measure => simp [intOf]; omega
            · rw [hrd] at RR
              have HE := Lib.hid (CT.out k hkn hrd)
              clear hq0 hrd g1 g2 g3 g4
              go_wp2_with fail
              refine RR.out.mono ?_
              rintro e w1 ⟨rfl, b1⟩
              have hb1 := hb.trans (b1.mono hb.size)
              clear k5 l5
              go_wp2
              go_ret
              exact ⟨by rw [HO.out, HE.out]; rfl, hb1⟩
          · obtain rfl : k = 24 := by omega
            have HE := Lib.hid (CF.out hq0.out)
            clear hq0 g1 g2 g3 g4 k5 l5
            go_wp2
            go_ret
            exact ⟨by rw [HO.out, HE.out]; rfl, hb⟩
end Go.Proofs.YtkdpiikfiodopaaDoor
