/-
  The document's Above.
-/
import Derived.Test.YtkdpiikfiodopaaDoorJd
import Derived.Test.YtkdpiikfiodopaaDoorContains
namespace Go.Proofs.YtkdpiikfiodopaaDoor
open Go.RowKit

/-- What the document's way up holds. -/
def AbvI (l : List Stk) (q : Int) (tot out : List Int) (a : Int) : Prop :=
  out.Nodup ∧ (∀ z ∈ out, z ∈ l.map (·.p)) ∧ (a ≠ 0 → a ∈ l.map (·.p)) ∧ abvG (parL l q) (l.length + 1 - out.length) out a = tot
theorem par_in {l : List Stk} {q x : Int} (h : parL l q x ≠ 0) : parL l q x ∈ l.map (·.p) := by
  obtain ⟨s, hs, _, hp⟩ := par_some h
  exact List.mem_map.2 ⟨s, hs, hp⟩
theorem abvI_start (l : List Stk) (q x : Int) : AbvI l q (abvL l x q) [] (parL l q x) :=
  ⟨List.nodup_nil, fun z hz => absurd hz (by simp), par_in, rfl⟩
theorem abvI_len {l : List Stk} {q : Int} {tot out : List Int} {a : Int} (h : AbvI l q tot out a) : out.length ≤ l.length := by
  have := nodup_le h.1 h.2.1
  simpa using this
theorem abvI_step {l : List Stk} {q : Int} {tot out : List Int} {a : Int} (h : AbvI l q tot out a) (h1 : a ≠ 0) (h2 : a ∉ out) : AbvI l q tot (out ++ [a]) (parL l q a) := by
  obtain ⟨n, i, j, e⟩ := h
  have n' : (out ++ [a]).Nodup := by
    rw [List.nodup_append]
    refine ⟨n, by simp, fun x hx y hy => ?_⟩
    simp at hy
    subst hy
    rintro rfl
    exact h2 hx
  have i' : ∀ z ∈ out ++ [a], z ∈ l.map (·.p) := fun z hz => by
    rcases List.mem_append.1 hz with hz | hz
    · exact i z hz
    · simp at hz
      subst hz
      exact j h1
  have hl := nodup_le n' i'
  simp at hl
  refine ⟨n', i', par_in, ?_⟩
  rw [← e, show l.length + 1 - out.length = (l.length + 1 - (out ++ [a]).length) + 1 by simp; omega]
  conv => rhs; unfold abvG
  rw [if_pos ⟨h1, h2⟩]
theorem abvI_stop {l : List Stk} {q : Int} {tot out : List Int} {a : Int} (h : AbvI l q tot out a) (h1 : a = 0 ∨ a ∈ out) : tot = out := by
  obtain ⟨_, _, _, e⟩ := h
  rw [← e]
  cases l.length + 1 - out.length with
  | zero => rfl
  | succ k =>
    unfold abvG
    rw [if_neg]
    rintro ⟨h2, h3⟩
    rcases h1 with h1 | h1
    · exact h2 h1
    · exact h3 h1
/-- A slice of a length of one's own choosing. -/
def lenS : Value → Nat
  | .slice _ n _ => n
  | _ => 0

set_option maxRecDepth 100000 in
set_option maxHeartbeats 2000000 in
theorem rabove_any {A : Option Addr} {c : Nat} {l : List Stk} {x q : Int} {w : World} (hm : l.length ≤ 1000000) (hr : RowT w A l) :
    Calls Tryd.prog 70 #[.slice A l.length c, .int .i64 x, .int .i64 q] w (NewRow (abvL l x q) w) := by
  obtain ⟨i0, hi, hz0, hz1, hz2⟩ := info_parts Tryd.infoInt'
  have AT := Lib.hid fun (x : Int) (w : World) (hr : RowT w A l) => rat_any (c := c) (x := x) (q := q) hm hr
  have HS := Lib.hid fun (A : Option Addr) (c : Nat) (zs : List Int) (n : Int) (w : World) (hm : zs.length ≤ maxLen) (hr : RowAt w A (ivals zs)) => has_any (A := A) (c := c) (l := zs) (n := n) hm hr
  have R := Lib.hid hr
  have I0 := Lib.hid (abvI_start l q x)
  clear hr
  have P0 : ∀ x, (atL l x q).1 = parL l q x := fun _ => rfl
  go_enter Tryd.func70, Tryd.ntmps70
  go_wp2_with fail
  refine (AT.out _ _ R.out).mono ?_
  rintro e w1 ⟨rfl, b1⟩
  rw [P0]
  generalize abvL l x q = tot at *
  generalize parL l q x = a0 at *
  clear P0
  go_wp2
  go_loopw [7, 8] (fun o t wr => ∃ (out : List Int) (a : Int) (A' : Option Addr) (c' : Nat), o = .slice A' out.length c' ∧ t = .int .i64 a ∧ Hid (AbvI l q tot out a) ∧ out.length ≤ c' ∧ c' ≤ maxLen ∧ wr.ownsRow w.heap.size 3 1 (.slice A' out.length c') out.length (ivals out) ∧ Below w.heap.size w wr)
    (fun o _ _ => l.length + 1 - lenS o)
  case atStart => exact ⟨[], a0, none, 0, rfl, rfl, I0, by simp, by unfold maxLen; omega, World.ownsRow_nil _ _ _ _, b1⟩
  case round =>
    obtain ⟨out, a, A', c', rfl, rfl, hI, hl, hmx, hown, hb⟩ := hrel
    have hlen := abvI_len hI.out
    by_cases ha : a = 0
    · subst ha
      have HE := Lib.hid (abvI_stop hI.out (.inl rfl))
      clear I0 hI
      go_wp2
      go_ret
      exact ⟨A', c', by rw [HE.out]; rfl, by rw [HE.out]; exact hl, hmx, by rw [HE.out]; exact hown, hb⟩
    · have ha' : (a != 0) = true := by simpa using ha
      have HC := HS.out A' c' out a wr (by unfold maxLen; omega) (RowAt.of_own hown)
      by_cases hin : a ∈ out
      · rw [decide_eq_true hin] at HC
        have HC' := Lib.hid HC
        have HE := Lib.hid (abvI_stop hI.out (.inr hin))
        clear I0 hI ha hin HC
        go_wp2_with fail
        refine HC'.out.mono ?_
        rintro e _ ⟨rfl, rfl⟩
        go_wp2
        go_ret
        exact ⟨A', c', by rw [HE.out]; rfl, by rw [HE.out]; exact hl, hmx, by rw [HE.out]; exact hown, hb⟩
      · rw [decide_eq_false hin] at HC
        have HC' := Lib.hid HC
        have HI := Lib.hid (abvI_step hI.out ha hin)
        have hlen' := abvI_len HI.out
        simp at hlen'
        clear I0 hI ha hin HC
        have hN : out.length + 1 ≤ 1099511627776 := by omega
        have hsz := hb.size
        go_wp2_with fail
        refine HC'.out.mono ?_
        rintro e _ ⟨rfl, rfl⟩
        go_wp2_with (at_builtin; refine wpList_append_int rfl _ _ 37 rfl w.heap.size 3 i0 Tryd.underlying37 hi hz0 hz1 hz2 _ _ _ rfl hown a rfl hN hsz ?_)
        intro g3 c3 w4 hown4 hr4 hc3 hm3 hg3 hg3' hsz3
        have hb4 := hb.grown hr4 hsz (fun k hk => (hown.lt k hk).1)
        clear hown hr4 hb
        go_wp2_with fail
        refine (AT.out _ _ (R.out.below hb4 (Nat.le_refl _))).mono ?_
        rintro e w5 ⟨rfl, b5⟩
        have hown5 := own_below hown4 b5 (Nat.le_refl _)
        have hb5 := hb4.trans (b5.mono hb4.size)
        clear b5 hown4 hb4
        rw [show (atL l a q).1 = parL l q a from rfl]
        generalize parL l q a = a1 at *
        go_wp2
        go_roundw
        case rel => exact ⟨out ++ [a], a1, some ⟨g3, 0, none⟩, c3, by simp, rfl, HI, by simp; exact hc3, hm3, by rw [ivals_append, List.length_append]; exact hown5, hb5⟩
        case measure => simp [lenS]; omega
end Go.Proofs.YtkdpiikfiodopaaDoor
/-
  The document's Last.
-/
namespace Go.Proofs.YtkdpiikfiodopaaDoor
open Go.RowKit

theorem abvL_len (l : List Stk) (x q : Int) : (abvL l x q).length ≤ l.length + 1 := by
  have : ∀ (k : Nat) (out : List Int) (a : Int), (abvG (parL l q) k out a).length ≤ out.length + k := by
    intro k
    induction k with
    | zero => intro out a; exact Nat.le_refl _
    | succ k ih =>
      intro out a
      unfold abvG
      split
      · have := ih (out ++ [a]) (parL l q a)
        simp at this
        omega
      · omega
  have := this (l.length + 1) [] (parL l q x)
  simpa [abvL] using this
set_option maxRecDepth 100000 in
set_option maxHeartbeats 4000000 in
theorem rlast_any {A : Option Addr} {c : Nat} {l : List Stk} {s : Stk} {n : Int} {w : World} (hm : l.length ≤ 1000000) (hr : RowT w A l) (hs : l.getLast? = some s) (hz : 1 ≤ s.e → ∀ q : Int, parL l q 0 = 0) :
    Calls Tryd.prog 96 #[.slice A l.length c, .int .i64 n] w fun e w' => e = .returned (.int .i64 (lastS l s n)) ∧ Below w.heap.size w w' := by
  have hn : 0 < l.length := by cases l with | nil => cases hs | cons a r => simp
  obtain ⟨b, off, s', rfl, hbl, hs', g1, g2, g3, g4⟩ := last_cells hr hn
  obtain rfl : s' = s := by rw [hs] at hs'; exact (Option.some.inj hs').symm
  clear hs hs'
  have RD := Lib.hid fun (q : Int) (w : World) (hr : RowT w (some ⟨b, off, none⟩) l) => rabove_any (c := c) (x := s'.e) (q := q) hm hr
  have HS := Lib.hid fun (A : Option Addr) (c : Nat) (zs : List Int) (w : World) (hm : zs.length ≤ maxLen) (hr : RowAt w A (ivals zs)) =>
    (has_any (A := A) (c := c) (l := zs) (n := s'.e) hm hr).mono fun e w' (h : e = .returned (.bool (decide (s'.e ∈ zs))) ∧ w = w') => (⟨h.1, h.2 ▸ Below.refl _ _⟩ : e = .returned (.bool (decide (s'.e ∈ zs))) ∧ Below w.heap.size w w')
  have HR := Lib.hid fun (h : 1 ≤ s'.e) (q : Int) => (round_same (hz h q) (show s'.e ≠ 0 by omega)).symm
  have R := Lib.hid hr
  clear hr hz
  have hl : lastS l s' n = if badP s' n = true then 20 else if bdS s' = true then 12 else if badF s' = true then 22 else if cirL l s'.e = true then 26 else 0 := rfl
  have CT := Lib.hid fun k => cir_true (l := l) (e := s'.e) (k := k)
  have CF := Lib.hid (cir_false (l := l) (e := s'.e))
  unfold badP bdS badF at hl
  generalize lastS l s' n = out at *
  generalize cirL l s'.e = ci at *
  generalize s'.e = e0 at *
  generalize s'.p = p0 at *
  generalize s'.s = s0 at *
  generalize s'.f = f0 at *
  have hsub : ((l.length : Int) - 1) = ((l.length - 1 : Nat) : Int) := by omega
  have hlt : l.length - 1 < l.length := by omega
  have B1 : Below w.heap.size w (w.alloc (.cells #[.int .i64 e0, .int .i64 p0, .int .i64 s0, .int .i64 f0] 124)) := (Below.refl _ _).alloc (Nat.le_refl _) _
  rcases (by omega : e0 < 1 ∨ (1 ≤ e0 ∧ n < e0) ∨ (1 ≤ e0 ∧ e0 ≤ n ∧ p0 < 0) ∨ (1 ≤ e0 ∧ e0 ≤ n ∧ 0 ≤ p0 ∧ n < p0) ∨ (1 ≤ e0 ∧ e0 ≤ n ∧ 0 ≤ p0 ∧ p0 ≤ n)) with h | ⟨h1, h⟩ | ⟨h1, h2, h⟩ | ⟨h1, h2, h3, h⟩ | ⟨h1, h2, h3, h4⟩
  · have HO := Lib.hid (show out = 20 by rw [hl, if_pos]; simp; omega)
    clear hl
    go_enter Tryd.func96, Tryd.ntmps96
    go_wp2
    go_ret
    exact ⟨by rw [HO.out]; rfl, B1⟩
  · have HO := Lib.hid (show out = 20 by rw [hl, if_pos]; simp; omega)
    clear hl
    go_enter Tryd.func96, Tryd.ntmps96
    go_wp2
    go_ret
    exact ⟨by rw [HO.out]; rfl, B1⟩
  · have HO := Lib.hid (show out = 20 by rw [hl, if_pos]; simp; omega)
    clear hl
    go_enter Tryd.func96, Tryd.ntmps96
    go_wp2
    go_ret
    exact ⟨by rw [HO.out]; rfl, B1⟩
  · have HO := Lib.hid (show out = 20 by rw [hl, if_pos]; simp; omega)
    clear hl
    go_enter Tryd.func96, Tryd.ntmps96
    go_wp2
    go_ret
    exact ⟨by rw [HO.out]; rfl, B1⟩
  · have hl2 : out = if (decide (s0 < 0) || decide (10000 < s0) || (decide (p0 = 0) && !decide (s0 = 10000))) = true then 12 else if (decide (f0 < 0) || decide (24 ≤ f0)) = true then 22 else if ci = true then 26 else 0 := by
      rw [hl, if_neg]
      simp
      omega
    clear hl
    rcases (by omega : s0 < 0 ∨ (0 ≤ s0 ∧ 10000 < s0) ∨ (0 ≤ s0 ∧ s0 ≤ 10000 ∧ p0 = 0 ∧ s0 ≠ 10000) ∨ (0 ≤ s0 ∧ s0 ≤ 10000 ∧ p0 = 0 ∧ s0 = 10000) ∨ (0 ≤ s0 ∧ s0 ≤ 10000 ∧ p0 ≠ 0)) with h | ⟨g, h⟩ | ⟨g, g', h, h'⟩ | ⟨g, g', h, h'⟩ | ⟨g, g', h⟩
    · have HO := Lib.hid (show out = 12 by rw [hl2, if_pos]; simp; omega)
      clear hl2
      go_enter Tryd.func96, Tryd.ntmps96
      go_wp2
      go_ret
      exact ⟨by rw [HO.out]; rfl, B1⟩
    · have HO := Lib.hid (show out = 12 by rw [hl2, if_pos]; simp; omega)
      clear hl2
      go_enter Tryd.func96, Tryd.ntmps96
      go_wp2
      go_ret
      exact ⟨by rw [HO.out]; rfl, B1⟩
    · have HO := Lib.hid (show out = 12 by rw [hl2, if_pos]; simp; omega)
      clear hl2
      have hp : (p0 == 0) = true := by simpa using h
      have hq : (s0 != 10000) = true := by simpa using h'
      clear h h'
      go_enter Tryd.func96, Tryd.ntmps96
      go_wp2
      go_ret
      exact ⟨by rw [HO.out]; rfl, B1⟩
    · have hl3 : out = if (decide (f0 < 0) || decide (24 ≤ f0)) = true then 22 else if ci = true then 26 else 0 := by
        rw [hl2, if_neg]
        simp
        omega
      clear hl2
      have hp : (p0 == 0) = true := by simpa using h
      have hq : (s0 != 10000) = false := by simpa using h'
      clear h h'
      rcases (by omega : f0 < 0 ∨ (0 ≤ f0 ∧ 24 ≤ f0) ∨ (0 ≤ f0 ∧ f0 < 24)) with h | ⟨h0, h⟩ | ⟨h0, h⟩
      · have HO := Lib.hid (show out = 22 by rw [hl3, if_pos]; simp; omega)
        clear hl3
        go_enter Tryd.func96, Tryd.ntmps96
        go_wp2
        go_ret
        exact ⟨by rw [HO.out]; rfl, B1⟩
      · have HO := Lib.hid (show out = 22 by rw [hl3, if_pos]; simp; omega)
        clear hl3
        go_enter Tryd.func96, Tryd.ntmps96
        go_wp2
        go_ret
        exact ⟨by rw [HO.out]; rfl, B1⟩
      · have HO := Lib.hid (show out = if ci = true then 26 else 0 by rw [hl3, if_neg]; simp; omega)
        clear hl3 B1
        go_enter Tryd.func96, Tryd.ntmps96
        go_wp2
        go_loopw [6] (fun i wr => ∃ k : Nat, k ≤ 24 ∧ i = .int .i64 k ∧ Hid (∀ j : Nat, j < k → rndP l e0 j = false) ∧ Box wr w.heap.size 124 #[.int .i64 e0, .int .i64 p0, .int .i64 s0, .int .i64 f0] ∧ Below w.heap.size w wr) (fun i _ => 24 - (intOf i).toNat)
        case atStart => exact ⟨0, by omega, rfl, fun _ hj => absurd hj (Nat.not_lt_zero _), Box.new _ _ _, (Below.refl _ _).alloc (Nat.le_refl _) _⟩
        case round =>
          obtain ⟨k, hk, rfl, hq0, x5, hb⟩ := hrel
          have k5 := x5.cells
          have l5 := x5.lt
          by_cases hkn : k < 24
          · have RR := Lib.hid (RD.out k wr.drew (R.out.below hb (Nat.le_refl _)).drew)
            have HRk := HR.out h1 k
            have hmz : (abvL l e0 k).length ≤ 1000001 := by have := abvL_len l e0 k; omega
            generalize abvL l e0 k = zs at *
            go_upto_region 11 with fail
            have kkx5 := x5.cells
            first | go_region_held3 (fun w' => w'.cell? ⟨w.heap.size, 0, none⟩ = some (.int .i64 e0) ∧ w'.cell? ⟨w.heap.size, 1, none⟩ = some (.int .i64 p0) ∧ w'.cell? ⟨w.heap.size, 2, none⟩ = some (.int .i64 s0) ∧ w'.cell? ⟨w.heap.size, 3, none⟩ = some (.int .i64 f0)) (go_keep)
              (first
                | (go_at_call 70; (with_reducible refine (RR.out).mono ?_); rintro e w60 ⟨A1, c1, rfl, hl1, hm1, hown1, b60⟩; have yx5 : Box w60 (w.heap.size) 124 #[.int .i64 e0, .int .i64 p0, .int .i64 s0, .int .i64 f0] := (by first | exact (x5).drew.later b60); have kyx5 := yx5.cells; have cb : Below wr.heap.size wr w60 := (by first | exact (below_undrew b60)))
                | (go_at_call 40; (with_reducible refine (HS.out A1 c1 zs _ (by unfold maxLen; omega) (RowAt.of_own hown1)).mono ?_); rintro e w61 ⟨rfl, b61⟩; have yx5 : Box w61 (w.heap.size) 124 #[.int .i64 e0, .int .i64 p0, .int .i64 s0, .int .i64 f0] := (by first | exact (yx5).later b61); have kyx5 := yx5.cells; have cb : Below wr.heap.size wr w61 := (by first | exact cb.trans (b61.mono cb.size))))
            have hb1 := hb.trans (cb.mono hb.size)
            have x6 := x5.later cb
            cases hrd : rndP l e0 k
            · have HN : Hid (∀ j : Nat, j < k + 1 → rndP l e0 j = false) := fun j hj => by
                rcases Nat.lt_succ_iff_lt_or_eq.1 hj with h | rfl
                · exact hq0.out j h
                · exact hrd
              rw [hrd] at HRk
              clear hq0 hrd g1 g2 g3 g4 k5 l5
              go_wp2
              go_roundw
              case rel => exact ⟨k + 1, by omega, by go_num, HN, x6, hb1⟩
              case measure => simp [intOf]; omega
            · have HE := Lib.hid (CT.out k hkn hrd)
              rw [hrd] at HRk
              clear hq0 hrd g1 g2 g3 g4 k5 l5
              go_wp2
              go_ret
              exact ⟨by rw [HO.out, HE.out]; rfl, hb1⟩
          · obtain rfl : k = 24 := by omega
            have HE := Lib.hid (CF.out hq0.out)
            clear hq0 g1 g2 g3 g4 k5 l5
            go_wp2
            go_ret
            exact ⟨by rw [HO.out, HE.out]; rfl, hb⟩
    · have hl3 : out = if (decide (f0 < 0) || decide (24 ≤ f0)) = true then 22 else if ci = true then 26 else 0 := by
        rw [hl2, if_neg]
        simp
        omega
      clear hl2
      have hp : (p0 == 0) = false := by simpa using h
      clear h
      rcases (by omega : f0 < 0 ∨ (0 ≤ f0 ∧ 24 ≤ f0) ∨ (0 ≤ f0 ∧ f0 < 24)) with h | ⟨h0, h⟩ | ⟨h0, h⟩
      · have HO := Lib.hid (show out = 22 by rw [hl3, if_pos]; simp; omega)
        clear hl3
        go_enter Tryd.func96, Tryd.ntmps96
        go_wp2
        go_ret
        exact ⟨by rw [HO.out]; rfl, B1⟩
      · have HO := Lib.hid (show out = 22 by rw [hl3, if_pos]; simp; omega)
        clear hl3
        go_enter Tryd.func96, Tryd.ntmps96
        go_wp2
        go_ret
        exact ⟨by rw [HO.out]; rfl, B1⟩
      · have HO := Lib.hid (show out = if ci = true then 26 else 0 by rw [hl3, if_neg]; simp; omega)
        clear hl3 B1
        go_enter Tryd.func96, Tryd.ntmps96
        go_wp2
        go_loopw [6] (fun i wr => ∃ k : Nat, k ≤ 24 ∧ i = .int .i64 k ∧ Hid (∀ j : Nat, j < k → rndP l e0 j = false) ∧ Box wr w.heap.size 124 #[.int .i64 e0, .int .i64 p0, .int .i64 s0, .int .i64 f0] ∧ Below w.heap.size w wr) (fun i _ => 24 - (intOf i).toNat)
        case atStart => exact ⟨0, by omega, rfl, fun _ hj => absurd hj (Nat.not_lt_zero _), Box.new _ _ _, (Below.refl _ _).alloc (Nat.le_refl _) _⟩
        case round =>
          obtain ⟨k, hk, rfl, hq0, x5, hb⟩ := hrel
          have k5 := x5.cells
          have l5 := x5.lt
          by_cases hkn : k < 24
          · have RR := Lib.hid (RD.out k wr.drew (R.out.below hb (Nat.le_refl _)).drew)
            have HRk := HR.out h1 k
            have hmz : (abvL l e0 k).length ≤ 1000001 := by have := abvL_len l e0 k; omega
            generalize abvL l e0 k = zs at *
            go_upto_region 11 with fail
            have kkx5 := x5.cells
            first | go_region_held3 (fun w' => w'.cell? ⟨w.heap.size, 0, none⟩ = some (.int .i64 e0) ∧ w'.cell? ⟨w.heap.size, 1, none⟩ = some (.int .i64 p0) ∧ w'.cell? ⟨w.heap.size, 2, none⟩ = some (.int .i64 s0) ∧ w'.cell? ⟨w.heap.size, 3, none⟩ = some (.int .i64 f0)) (go_keep)
              (first
                | (go_at_call 70; (with_reducible refine (RR.out).mono ?_); rintro e w60 ⟨A1, c1, rfl, hl1, hm1, hown1, b60⟩; have yx5 : Box w60 (w.heap.size) 124 #[.int .i64 e0, .int .i64 p0, .int .i64 s0, .int .i64 f0] := (by first | exact (x5).drew.later b60); have kyx5 := yx5.cells; have cb : Below wr.heap.size wr w60 := (by first | exact (below_undrew b60)))
                | (go_at_call 40; (with_reducible refine (HS.out A1 c1 zs _ (by unfold maxLen; omega) (RowAt.of_own hown1)).mono ?_); rintro e w61 ⟨rfl, b61⟩; have yx5 : Box w61 (w.heap.size) 124 #[.int .i64 e0, .int .i64 p0, .int .i64 s0, .int .i64 f0] := (by first | exact (yx5).later b61); have kyx5 := yx5.cells; have cb : Below wr.heap.size wr w61 := (by first | exact cb.trans (b61.mono cb.size))))
            have hb1 := hb.trans (cb.mono hb.size)
            have x6 := x5.later cb
            cases hrd : rndP l e0 k
            · have HN : Hid (∀ j : Nat, j < k + 1 → rndP l e0 j = false) := fun j hj => by
                rcases Nat.lt_succ_iff_lt_or_eq.1 hj with h | rfl
                · exact hq0.out j h
                · exact hrd
              rw [hrd] at HRk
              clear hq0 hrd g1 g2 g3 g4 k5 l5
              go_wp2
              go_roundw
              case rel => exact ⟨k + 1, by omega, by go_num, HN, x6, hb1⟩
              case measure => simp [intOf]; omega
            · have HE := Lib.hid (CT.out k hkn hrd)
              rw [hrd] at HRk
              clear hq0 hrd g1 g2 g3 g4 k5 l5
              go_wp2
              go_ret
              exact ⟨by rw [HO.out, HE.out]; rfl, hb1⟩
          · obtain rfl : k = 24 := by omega
            have HE := Lib.hid (CF.out hq0.out)
            clear hq0 g1 g2 g3 g4 k5 l5
            go_wp2
            go_ret
            exact ⟨by rw [HO.out, HE.out]; rfl, hb⟩
end Go.Proofs.YtkdpiikfiodopaaDoor
/-
  stake.Check, and the document's.
-/
namespace Go.Proofs.YtkdpiikfiodopaaDoor
open Go.RowKit

theorem take_last {l : List Stk} {k : Nat} (hk : k < l.length) : (l.take (k + 1)).getLast? = some l[k] := by
  rw [List.take_succ_eq_append_getElem hk]
  exact List.getLast?_concat
/-- Those ahead of the k-th are right. -/
def Right (l : List Stk) (n : Int) (k : Nat) : Prop := ∀ i (h : i < l.length), i < k → lastS (l.take (i + 1)) l[i] n = 0
theorem right_zero {l : List Stk} {n : Int} {k : Nat} (h : Right l n k) (hk : k < l.length) (he : 1 ≤ l[k].e) (q : Int) : parL (l.take (k + 1)) q 0 = 0 := by
  refine par_zero fun s hs => ?_
  obtain ⟨i, hi, rfl⟩ := List.getElem_of_mem hs
  rw [List.length_take] at hi
  rw [List.getElem_take]
  rcases (by omega : i < k ∨ i = k) with h1 | rfl
  · exact (lastS_ok (h i (by omega) h1)).1.1
  · exact he

set_option maxRecDepth 100000 in
set_option maxHeartbeats 2000000 in
theorem kcheck_any {A : Option Addr} {c : Nat} {l : List Stk} {n : Int} {w : World} (hm : l.length ≤ 1000000) (hc : l.length ≤ c) (hc2 : c ≤ maxLen) (hr : RowT w A l) :
    Calls Tryd.prog 62 #[.slice A l.length c, .int .i64 n] w fun e w' => e = .returned (.tuple #[.int .i64 (chkL l n).1, .int .i64 (chkL l n).2]) ∧ Below w.heap.size w w' := by
  unfold maxLen at hc2
  have B0 := Below.refl w.heap.size w
  by_cases h400 : 400 < l.length
  · have HO := Lib.hid (show chkL l n = (0, 3) from if_pos h400)
    clear hr
    go_enter Tryd.func62, Tryd.ntmps62
    go_wp2
    go_ret2
    exact ⟨by rw [HO.out]; rfl, B0⟩
  · have HO := Lib.hid (show chkL l n = chkG l n (l.drop 0) 0 from if_neg h400)
    have R := Lib.hid hr
    clear hr
    go_enter Tryd.func62, Tryd.ntmps62
    go_wp2
    go_loopw [13] (fun i wr => ∃ k : Nat, k ≤ l.length ∧ i = .int .i64 k ∧ Hid (chkL l n = chkG l n (l.drop k) k) ∧ Hid (Right l n k) ∧ Below w.heap.size w wr) (fun i _ => l.length - (intOf i).toNat)
    case atStart => exact ⟨0, by omega, rfl, HO, fun _ _ h => absurd h (Nat.not_lt_zero _), B0⟩
    case round =>
      obtain ⟨k, hk, rfl, hG, hR, hb⟩ := hrel
      clear HO B0
      by_cases hkn : k < l.length
      · obtain ⟨b, off, rfl, hbl, _⟩ := R.out.get (by omega)
        have hlt : b < wr.heap.size := Nat.lt_of_lt_of_le hbl hb.size
        have hln : (l.take (k + 1)).length = k + 1 := by rw [List.length_take]; omega
        have RL := slast_any (c := c) (n := n) (by omega) ((R.out.below hb (Nat.le_refl _)).take (k + 1)) (take_last hkn)
        rw [hln] at RL
        have hG2 := hG.out.trans (chkG_drop hkn)
        clear hln
        cases hv : decide (lastS (l.take (k + 1)) l[k] n = 0)
        · have hv0 : lastS (l.take (k + 1)) l[k] n ≠ 0 := of_decide_eq_false hv
          rw [if_pos hv0] at hG2
          have HG2 := Lib.hid hG2
          generalize lastS (l.take (k + 1)) l[k] n = v at *
          have RL' := Lib.hid RL
          have hne : (v != 0) = true := by simpa using hv0
          clear RL hG hG2 hR hv hv0
          go_wp2_with fail
          refine RL'.out.mono ?_
          rintro e w1 ⟨rfl, b1⟩
          have hb1 := hb.trans (b1.mono hb.size)
          go_wp2
          go_ret2
          exact ⟨by rw [HG2.out]; rfl, hb1⟩
        · have hv0 : lastS (l.take (k + 1)) l[k] n = 0 := of_decide_eq_true hv
          rw [if_neg (by rw [hv0]; simp)] at hG2
          have HG2 := Lib.hid hG2
          have HR2 : Hid (Right l n (k + 1)) := fun i hi hik => by
            rcases Nat.lt_succ_iff_lt_or_eq.1 hik with h | rfl
            · exact hR.out i hi h
            · exact hv0
          rw [hv0] at RL
          have RL' := Lib.hid RL
          clear RL hG hG2 hR hv hv0
          go_wp2_with fail
          refine RL'.out.mono ?_
          rintro e w1 ⟨rfl, b1⟩
          have hb1 := hb.trans (b1.mono hb.size)
          go_wp2
          go_roundw
          case rel => exact ⟨k + 1, by omega, by go_num, HG2, HR2, hb1⟩
          case measure => simp [intOf]; omega
      · obtain rfl : k = l.length := by omega
        have hG2 := hG.out
        rw [List.drop_length] at hG2
        have HG2 := Lib.hid hG2
        clear hG hG2 hR
        go_wp2
        go_ret2
        exact ⟨by rw [HG2.out]; rfl, hb⟩

set_option maxRecDepth 100000 in
set_option maxHeartbeats 2000000 in
theorem rcheck_any {A : Option Addr} {c : Nat} {l : List Stk} {n : Int} {w : World} (hm : l.length ≤ 1000000) (hc : l.length ≤ c) (hc2 : c ≤ maxLen) (hr : RowT w A l) :
    Calls Tryd.prog 64 #[.slice A l.length c, .int .i64 n] w fun e w' => e = .returned (.tuple #[.int .i64 (chkL l n).1, .int .i64 (chkL l n).2]) ∧ Below w.heap.size w w' := by
  unfold maxLen at hc2
  have B0 := Below.refl w.heap.size w
  by_cases h400 : 400 < l.length
  · have HO := Lib.hid (show chkL l n = (0, 3) from if_pos h400)
    clear hr
    go_enter Tryd.func64, Tryd.ntmps64
    go_wp2
    go_ret2
    exact ⟨by rw [HO.out]; rfl, B0⟩
  · have HO := Lib.hid (show chkL l n = chkG l n (l.drop 0) 0 from if_neg h400)
    have R := Lib.hid hr
    clear hr
    go_enter Tryd.func64, Tryd.ntmps64
    go_wp2
    go_loopw [6] (fun i wr => ∃ k : Nat, k ≤ l.length ∧ i = .int .i64 k ∧ Hid (chkL l n = chkG l n (l.drop k) k) ∧ Hid (Right l n k) ∧ Below w.heap.size w wr) (fun i _ => l.length - (intOf i).toNat)
    case atStart => exact ⟨0, by omega, rfl, HO, fun _ _ h => absurd h (Nat.not_lt_zero _), B0⟩
    case round =>
      obtain ⟨k, hk, rfl, hG, hR, hb⟩ := hrel
      clear HO B0
      by_cases hkn : k < l.length
      · obtain ⟨b, off, rfl, hbl, _⟩ := R.out.get (by omega)
        have hlt : b < wr.heap.size := Nat.lt_of_lt_of_le hbl hb.size
        have hln : (l.take (k + 1)).length = k + 1 := by rw [List.length_take]; omega
        have RL := rlast_any (c := c) (n := n) (by omega) ((R.out.below hb (Nat.le_refl _)).take (k + 1)) (take_last hkn) (right_zero hR.out hkn)
        rw [hln] at RL
        have hG2 := hG.out.trans (chkG_drop hkn)
        clear hln
        cases hv : decide (lastS (l.take (k + 1)) l[k] n = 0)
        · have hv0 : lastS (l.take (k + 1)) l[k] n ≠ 0 := of_decide_eq_false hv
          rw [if_pos hv0] at hG2
          have HG2 := Lib.hid hG2
          generalize lastS (l.take (k + 1)) l[k] n = v at *
          have RL' := Lib.hid RL
          have hne : (v != 0) = true := by simpa using hv0
          clear RL hG hG2 hR hv hv0
          go_wp2_with fail
          refine RL'.out.mono ?_
          rintro e w1 ⟨rfl, b1⟩
          have hb1 := hb.trans (b1.mono hb.size)
          go_wp2
          go_ret2
          exact ⟨by rw [HG2.out]; rfl, hb1⟩
        · have hv0 : lastS (l.take (k + 1)) l[k] n = 0 := of_decide_eq_true hv
          rw [if_neg (by rw [hv0]; simp)] at hG2
          have HG2 := Lib.hid hG2
          have HR2 : Hid (Right l n (k + 1)) := fun i hi hik => by
            rcases Nat.lt_succ_iff_lt_or_eq.1 hik with h | rfl
            · exact hR.out i hi h
            · exact hv0
          rw [hv0] at RL
          have RL' := Lib.hid RL
          clear RL hG hG2 hR hv hv0
          go_wp2_with fail
          refine RL'.out.mono ?_
          rintro e w1 ⟨rfl, b1⟩
          have hb1 := hb.trans (b1.mono hb.size)
          go_wp2
          go_roundw
          case rel => exact ⟨k + 1, by omega, by go_num, HG2, HR2, hb1⟩
          case measure => simp [intOf]; omega
      · obtain rfl : k = l.length := by omega
        have hG2 := hG.out
        rw [List.drop_length] at hG2
        have HG2 := Lib.hid hG2
        clear hG hG2 hR
        go_wp2
        go_ret2
        exact ⟨by rw [HG2.out]; rfl, hb⟩

end Go.Proofs.YtkdpiikfiodopaaDoor
