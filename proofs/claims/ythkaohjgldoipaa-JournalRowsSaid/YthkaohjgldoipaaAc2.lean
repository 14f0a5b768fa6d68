/-
  account: is, up, round, leaf, and the document's Is, Up, round.
-/
import Derived.Test.YthkaohjgldoipaaAc1
namespace Go.Proofs.Ythkaohjgldoipaa
open Go.RowKit

theorem isA_not {l : List Acc} {x : Int} (h : isA l x = false) : x < 1 ∨ (1 ≤ x ∧ (l.length : Int) < x) := by
  have : ¬ (1 ≤ x ∧ x ≤ l.length) := fun hh => by rw [isA_iff.2 hh] at h; cases h
  omega
theorem upAG_is {l : List Acc} {a : Int} {k : Nat} : ∀ {out : List Int} {b : Int}, (∀ z ∈ out, isA l z = true) → ∀ z ∈ upAG l a k out b, isA l z = true := by
  induction k with
  | zero => intro out b h z hz; exact h z hz
  | succ k ih =>
    intro out b h z hz
    unfold upAG at hz
    split at hz
    · rename_i hh
      refine ih (fun y hy => ?_) z hz
      rcases List.mem_append.1 hy with hy | hy
      · exact h y hy
      · rw [List.mem_singleton.1 hy]; exact hh.1
    · exact h z hz
theorem upA_is {l : List Acc} {a z : Int} (h : z ∈ upA l a) : isA l z = true := by
  unfold upA at h
  split at h
  · exact upAG_is (fun y hy => by simp at hy) z h
  · simp at h
theorem upA_len (l : List Acc) (a : Int) : (upA l a).length ≤ l.length := by
  by_cases h : isA l a = true
  · have g : ∀ (k : Nat) (out : List Int) (b : Int), UpI l a (upA l a) out b → k + out.length = l.length + 1 → (upA l a).length ≤ l.length := by
      intro k
      induction k with
      | zero => intro out b hI hk; have := upI_len hI; omega
      | succ k ih =>
        intro out b hI hk
        by_cases hs : isA l b = true ∧ b ≠ a ∧ b ∉ out
        · exact ih _ _ (upI_step hI hs.1 hs.2.1 hs.2.2) (by simp; omega)
        · rw [upI_stop hI hs]; exact upI_len hI
    exact g (l.length + 1) [] _ (upI_start h) (by simp)
  · unfold upA; rw [if_neg h]; simp
section
variable {A : Option Addr} {c : Nat} {l : List Acc} {w : World}
theorem RowC.par (hr : RowC w A l) {b : Int} (h : isA l b = true) : ∃ (g off k : Nat), A = some ⟨g, off, none⟩ ∧ g < w.heap.size ∧ k < l.length ∧ b = (k : Int) + 1 ∧ w.cell? ⟨g, off + k * 4, none⟩ = some (.int .i64 (fA l b)) := by
  obtain ⟨k, hk, rfl⟩ := isA_cast h
  obtain ⟨g, off, rfl, hg, hc⟩ := hr.get (by omega)
  exact ⟨g, off, k, rfl, hg, hk, rfl, by rw [fA_get hk]; exact (hc k hk).1⟩

set_option maxHeartbeats 1000000 in
theorem ais_any (A : Option Addr) (c : Nat) (l : List Acc) (x : Int) (w : World) : Calls Try.prog 66 #[.slice A l.length c, .int .i64 x] w fun e w' => e = .returned (.bool (isA l x)) ∧ w = w' := by
  cases hi : isA l x
  · rcases isA_not hi with h | ⟨h1, h⟩
    · clear hi
      go_enter Try.func66, Try.ntmps66
      go_wp2
      go_ret
      exact ⟨rfl, rfl⟩
    · have hd : decide (x ≤ (l.length : Int)) = false := decide_eq_false (by omega)
      clear hi h
      go_enter Try.func66, Try.ntmps66
      go_wp2
      go_ret
      exact ⟨by rw [← hd]; rfl, rfl⟩
  · obtain ⟨h1, h2⟩ := isA_iff.1 hi
    clear hi
    go_enter Try.func66, Try.ntmps66
    go_wp2
    go_ret
    exact ⟨rfl, rfl⟩

set_option maxHeartbeats 1000000 in
theorem ris_any (A : Option Addr) (c : Nat) (l : List Acc) (x : Int) (w : World) : Calls Try.prog 68 #[.slice A l.length c, .int .i64 x] w fun e w' => e = .returned (.bool (isA l x)) ∧ w = w' := by
  cases hi : isA l x
  · rcases isA_not hi with h | ⟨h1, h⟩
    · clear hi
      go_enter Try.func68, Try.ntmps68
      go_wp2
      go_ret
      exact ⟨rfl, rfl⟩
    · have hd : decide (x ≤ (l.length : Int)) = false := decide_eq_false (by omega)
      clear hi h
      go_enter Try.func68, Try.ntmps68
      go_wp2
      go_ret
      exact ⟨by rw [← hd]; rfl, rfl⟩
  · obtain ⟨h1, h2⟩ := isA_iff.1 hi
    clear hi
    go_enter Try.func68, Try.ntmps68
    go_wp2
    go_ret
    exact ⟨rfl, rfl⟩

set_option maxRecDepth 100000 in
set_option maxHeartbeats 2000000 in
theorem aup_any (a : Int) (hm : l.length ≤ 1000000) (hr : RowC w A l) : Calls Try.prog 71 #[.slice A l.length c, .int .i64 a] w (NewRow (upA l a) w) := by
  obtain ⟨i0, hi, hz0, hz1, hz2⟩ := info_parts Try.infoInt'
  have IS := Lib.hid fun (x : Int) (w : World) => ais_any A c l x w
  cases hia : isA l a
  · have IA := fun w => IS.out a w
    rw [hia] at IA
    replace IA := Lib.hid IA
    have h0 : upA l a = [] := by unfold upA; rw [if_neg (by rw [hia]; decide)]
    rw [h0]
    clear hia hr h0
    go_enter Try.func71, Try.ntmps71
    go_wp2_with fail
    refine (IA.out _).mono ?_
    rintro e _ ⟨rfl, rfl⟩
    go_wp2
    go_ret
    exact ⟨none, 0, rfl, by simp, by unfold maxLen; omega, World.ownsRow_nil _ _ _ _, Below.refl _ _⟩
  · have IA := fun w => IS.out a w
    rw [hia] at IA
    replace IA := Lib.hid IA
    have HS := Lib.hid fun (A : Option Addr) (c : Nat) (zs : List Int) (n : Int) (w : World) (hm : zs.length ≤ maxLen) (hr : RowAt w A (ivals zs)) => scontains_any (A := A) (c := c) (l := zs) (n := n) hm hr
    have I0 := Lib.hid (upI_start hia)
    have R := Lib.hid hr
    have PR := Lib.hid fun (w : World) (hr : RowC w A l) (b : Int) (h : isA l b = true) => hr.par h
    obtain ⟨g, off, k, rfl, hg, hk, rfl, hc⟩ := hr.par hia
    generalize upA l ((k : Int) + 1) = tot at *
    generalize fA l ((k : Int) + 1) = a0 at *
    clear hia hr
    go_enter Try.func71, Try.ntmps71
    go_wp2_with fail
    refine (IA.out _).mono ?_
    rintro e _ ⟨rfl, rfl⟩
    go_wp2
    clear IA hc
    go_loopw [5, 6] (fun o t wr => ∃ (out : List Int) (b : Int) (A' : Option Addr) (c' : Nat), o = .slice A' out.length c' ∧ t = .int .i64 b ∧ Hid (UpI l ((k : Int) + 1) tot out b) ∧ out.length ≤ c' ∧ c' ≤ maxLen ∧ wr.ownsRow w.heap.size 3 1 (.slice A' out.length c') out.length (ivals out) ∧ Below w.heap.size w wr)
      (fun o _ _ => l.length + 1 - lenS o)
    case atStart => exact ⟨[], a0, none, 0, rfl, rfl, I0, by simp, by unfold maxLen; omega, World.ownsRow_nil _ _ _ _, Below.refl _ _⟩
    case round =>
      clear I0
      obtain ⟨out, b, A', c', rfl, rfl, hI, hl, hmx, hown, hb⟩ := hrel
      have hlen := upI_len hI.out
      cases hib : isA l b
      · have IB := fun w => IS.out b w
        rw [hib] at IB
        replace IB := Lib.hid IB
        have HE := Lib.hid (upI_stop hI.out (by rw [hib]; simp))
        clear hI hib
        go_wp2_with fail
        refine (IB.out _).mono ?_
        rintro e _ ⟨rfl, rfl⟩
        go_wp2
        go_ret
        exact ⟨A', c', by rw [HE.out]; rfl, by rw [HE.out]; exact hl, hmx, by rw [HE.out]; exact hown, hb⟩
      · have IB := fun w => IS.out b w
        rw [hib] at IB
        replace IB := Lib.hid IB
        by_cases hba : b = (k : Int) + 1
        · have hne : (b != (k : Int) + 1) = false := by simpa using hba
          have HE := Lib.hid (upI_stop hI.out (fun h => h.2.1 hba))
          clear hI hib hba
          go_wp2_with fail
          refine (IB.out _).mono ?_
          rintro e _ ⟨rfl, rfl⟩
          go_wp2
          go_ret
          exact ⟨A', c', by rw [HE.out]; rfl, by rw [HE.out]; exact hl, hmx, by rw [HE.out]; exact hown, hb⟩
        · have hne : (b != (k : Int) + 1) = true := by simpa using hba
          have HC := HS.out A' c' out b wr (by unfold maxLen; omega) (RowAt.of_own hown)
          by_cases hin : b ∈ out
          · rw [decide_eq_true hin] at HC
            have HC' := Lib.hid HC
            have HE := Lib.hid (upI_stop hI.out (fun h => h.2.2 hin))
            clear hI hib hba hin HC
            go_wp2_with fail
            refine (IB.out _).mono ?_
            rintro e _ ⟨rfl, rfl⟩
            go_wp2_with fail
            refine HC'.out.mono ?_
            rintro e _ ⟨rfl, rfl⟩
            go_wp2
            go_ret
            exact ⟨A', c', by rw [HE.out]; rfl, by rw [HE.out]; exact hl, hmx, by rw [HE.out]; exact hown, hb⟩
          · rw [decide_eq_false hin] at HC
            have HC' := Lib.hid HC
            have HI := Lib.hid (upI_step hI.out hib hba hin)
            have hlen' := upI_len HI.out
            simp at hlen'
            have hN : out.length + 1 ≤ 1099511627776 := by omega
            have hsz := hb.size
            obtain ⟨g', off', k', hA, hg', hk', rfl, hc'⟩ := PR.out _ R.out b hib
            injection hA with hA
            injection hA with hA1 hA2 _
            subst hA1 hA2
            clear hI hib hba hin HC
            generalize fA l ((k' : Int) + 1) = b1 at *
            go_wp2_with fail
            refine (IB.out _).mono ?_
            rintro e _ ⟨rfl, rfl⟩
            go_wp2_with fail
            refine HC'.out.mono ?_
            rintro e _ ⟨rfl, rfl⟩
            go_wp2_with (at_builtin; refine wpList_append_int rfl _ _ 55 rfl w.heap.size 3 i0 Try.underlying55 hi hz0 hz1 hz2 _ _ _ rfl hown ((k' : Int) + 1) rfl hN hsz ?_)
            intro g3 c3 w4 hown4 hr4 hc3 hm3 hg3 hg3' hsz3
            have hb4 := hb.grown hr4 hsz (fun k hk => (hown.lt k hk).1)
            have hc4 : w4.cell? ⟨g, off + k' * 4, none⟩ = some (.int .i64 b1) := (hb4.cell (p := ⟨g, off + k' * 4, none⟩) hg').trans hc'
            clear hown hr4 hb
            go_wp2
            go_roundw
            case rel => exact ⟨out ++ [(k' : Int) + 1], b1, some ⟨g3, 0, none⟩, c3, by simp, rfl, HI, by simp; exact hc3, hm3, by rw [ivals_append, List.length_append]; exact hown4, hb4⟩
            case measure => simp [lenS]; omega

set_option maxRecDepth 100000 in
set_option maxHeartbeats 2000000 in
theorem rup_any (a : Int) (hm : l.length ≤ 1000000) (hr : RowC w A l) : Calls Try.prog 37 #[.slice A l.length c, .int .i64 a] w (NewRow (upA l a) w) := by
  obtain ⟨i0, hi, hz0, hz1, hz2⟩ := info_parts Try.infoInt'
  have IS := Lib.hid fun (x : Int) (w : World) => ris_any A c l x w
  cases hia : isA l a
  · have IA := fun w => IS.out a w
    rw [hia] at IA
    replace IA := Lib.hid IA
    have h0 : upA l a = [] := by unfold upA; rw [if_neg (by rw [hia]; decide)]
    rw [h0]
    clear hia hr h0
    go_enter Try.func37, Try.ntmps37
    go_wp2_with fail
    refine (IA.out _).mono ?_
    rintro e _ ⟨rfl, rfl⟩
    go_wp2
    go_ret
    exact ⟨none, 0, rfl, by simp, by unfold maxLen; omega, World.ownsRow_nil _ _ _ _, Below.refl _ _⟩
  · have IA := fun w => IS.out a w
    rw [hia] at IA
    replace IA := Lib.hid IA
    have HS := Lib.hid fun (A : Option Addr) (c : Nat) (zs : List Int) (n : Int) (w : World) (hm : zs.length ≤ maxLen) (hr : RowAt w A (ivals zs)) => has_any (A := A) (c := c) (l := zs) (n := n) hm hr
    have I0 := Lib.hid (upI_start hia)
    have R := Lib.hid hr
    have PR := Lib.hid fun (w : World) (hr : RowC w A l) (b : Int) (h : isA l b = true) => hr.par h
    obtain ⟨g, off, k, rfl, hg, hk, rfl, hc⟩ := hr.par hia
    generalize upA l ((k : Int) + 1) = tot at *
    generalize fA l ((k : Int) + 1) = a0 at *
    clear hia hr
    go_enter Try.func37, Try.ntmps37
    go_wp2_with fail
    refine (IA.out _).mono ?_
    rintro e _ ⟨rfl, rfl⟩
    go_wp2
    clear IA hc
    go_loopw [5, 6] (fun o t wr => ∃ (out : List Int) (b : Int) (A' : Option Addr) (c' : Nat), o = .slice A' out.length c' ∧ t = .int .i64 b ∧ Hid (UpI l ((k : Int) + 1) tot out b) ∧ out.length ≤ c' ∧ c' ≤ maxLen ∧ wr.ownsRow w.heap.size 3 1 (.slice A' out.length c') out.length (ivals out) ∧ Below w.heap.size w wr)
      (fun o _ _ => l.length + 1 - lenS o)
    case atStart => exact ⟨[], a0, none, 0, rfl, rfl, I0, by simp, by unfold maxLen; omega, World.ownsRow_nil _ _ _ _, Below.refl _ _⟩
    case round =>
      clear I0
      obtain ⟨out, b, A', c', rfl, rfl, hI, hl, hmx, hown, hb⟩ := hrel
      have hlen := upI_len hI.out
      cases hib : isA l b
      · have IB := fun w => IS.out b w
        rw [hib] at IB
        replace IB := Lib.hid IB
        have HE := Lib.hid (upI_stop hI.out (by rw [hib]; simp))
        clear hI hib
        go_wp2_with fail
        refine (IB.out _).mono ?_
        rintro e _ ⟨rfl, rfl⟩
        go_wp2
        go_ret
        exact ⟨A', c', by rw [HE.out]; rfl, by rw [HE.out]; exact hl, hmx, by rw [HE.out]; exact hown, hb⟩
      · have IB := fun w => IS.out b w
        rw [hib] at IB
        replace IB := Lib.hid IB
        by_cases hba : b = (k : Int) + 1
        · have hne : (b != (k : Int) + 1) = false := by simpa using hba
          have HE := Lib.hid (upI_stop hI.out (fun h => h.2.1 hba))
          clear hI hib hba
          go_wp2_with fail
          refine (IB.out _).mono ?_
          rintro e _ ⟨rfl, rfl⟩
          go_wp2
          go_ret
          exact ⟨A', c', by rw [HE.out]; rfl, by rw [HE.out]; exact hl, hmx, by rw [HE.out]; exact hown, hb⟩
        · have hne : (b != (k : Int) + 1) = true := by simpa using hba
          have HC := HS.out A' c' out b wr (by unfold maxLen; omega) (RowAt.of_own hown)
          by_cases hin : b ∈ out
          · rw [decide_eq_true hin] at HC
            have HC' := Lib.hid HC
            have HE := Lib.hid (upI_stop hI.out (fun h => h.2.2 hin))
            clear hI hib hba hin HC
            go_wp2_with fail
            refine (IB.out _).mono ?_
            rintro e _ ⟨rfl, rfl⟩
            go_wp2_with fail
            refine HC'.out.mono ?_
            rintro e _ ⟨rfl, rfl⟩
            go_wp2
            go_ret
            exact ⟨A', c', by rw [HE.out]; rfl, by rw [HE.out]; exact hl, hmx, by rw [HE.out]; exact hown, hb⟩
          · rw [decide_eq_false hin] at HC
            have HC' := Lib.hid HC
            have HI := Lib.hid (upI_step hI.out hib hba hin)
            have hlen' := upI_len HI.out
            simp at hlen'
            have hN : out.length + 1 ≤ 1099511627776 := by omega
            have hsz := hb.size
            obtain ⟨g', off', k', hA, hg', hk', rfl, hc'⟩ := PR.out _ R.out b hib
            injection hA with hA
            injection hA with hA1 hA2 _
            subst hA1 hA2
            clear hI hib hba hin HC
            generalize fA l ((k' : Int) + 1) = b1 at *
            go_wp2_with fail
            refine (IB.out _).mono ?_
            rintro e _ ⟨rfl, rfl⟩
            go_wp2_with fail
            refine HC'.out.mono ?_
            rintro e _ ⟨rfl, rfl⟩
            go_wp2_with (at_builtin; refine wpList_append_int rfl _ _ 55 rfl w.heap.size 3 i0 Try.underlying55 hi hz0 hz1 hz2 _ _ _ rfl hown ((k' : Int) + 1) rfl hN hsz ?_)
            intro g3 c3 w4 hown4 hr4 hc3 hm3 hg3 hg3' hsz3
            have hb4 := hb.grown hr4 hsz (fun k hk => (hown.lt k hk).1)
            have hc4 : w4.cell? ⟨g, off + k' * 4, none⟩ = some (.int .i64 b1) := (hb4.cell (p := ⟨g, off + k' * 4, none⟩) hg').trans hc'
            clear hown hr4 hb
            go_wp2
            go_roundw
            case rel => exact ⟨out ++ [(k' : Int) + 1], b1, some ⟨g3, 0, none⟩, c3, by simp, rfl, HI, by simp; exact hc3, hm3, by rw [ivals_append, List.length_append]; exact hown4, hb4⟩
            case measure => simp [lenS]; omega

set_option maxRecDepth 100000 in
set_option maxHeartbeats 2000000 in
theorem around_any (a : Int) (hia : isA l a = true) (hm : l.length ≤ 1000000) (hr : RowC w A l) : Calls Try.prog 63 #[.slice A l.length c, .int .i64 a] w fun e w' => e = .returned (.bool (rndA l a)) ∧ w = w' := by
  have IS := Lib.hid fun (x : Int) (w : World) => ais_any A c l x w
  have PR := Lib.hid fun (b : Int) (h : isA l b = true) => hr.par h
  obtain ⟨tot, htot⟩ : ∃ t, t = rndA l a := ⟨_, rfl⟩
  rw [← htot]
  have I0 : Hid (rndAG l a (l.length - 0) a = tot ∧ isA l a = true) := Lib.hid ⟨by rw [htot]; rfl, hia⟩
  clear htot hia hr
  go_enter Try.func63, Try.ntmps63
  go_wp2
  go_loop [5, 9] (fun t i => ∃ (k : Nat) (b : Int), k ≤ l.length ∧ t = .int .i64 b ∧ i = .int .i64 k ∧ Hid (rndAG l a (l.length - k) b = tot ∧ isA l b = true)) (fun _ i => l.length - (intOf i).toNat)
  case atStart => exact ⟨0, a, by omega, rfl, rfl, I0⟩
  case round =>
    clear I0
    obtain ⟨k, b, hk, rfl, rfl, hI⟩ := hrel
    by_cases hkn : k < l.length
    · obtain ⟨g, off, j, rfl, hg, hj, rfl, hc⟩ := PR.out b hI.out.2
      have hst : (if fA l ((j : Int) + 1) = a ∨ ¬ isA l (fA l ((j : Int) + 1)) = true then fA l ((j : Int) + 1) == a else rndAG l a (l.length - (k + 1)) (fA l ((j : Int) + 1))) = tot := by
        have := hI.out.1
        rw [show l.length - k = (l.length - (k + 1)) + 1 by omega] at this
        exact this
      clear hI PR
      generalize fA l ((j : Int) + 1) = b1 at *
      have IB := fun w => IS.out b1 w
      by_cases hba : b1 = a
      · rw [if_pos (.inl hba)] at hst
        have he : (b1 == a) = true := by simpa using hba
        rw [he] at hst
        clear hba IB
        subst hst
        go_wp2
        go_ret
        exact ⟨rfl, rfl⟩
      · have he : (b1 == a) = false := by simpa using hba
        cases hib : isA l b1
        · rw [if_pos (.inr (by rw [hib]; decide)), he] at hst
          rw [hib] at IB
          replace IB := Lib.hid IB
          clear hba hib
          subst hst
          go_wp2_with fail
          refine (IB.out _).mono ?_
          rintro e _ ⟨rfl, rfl⟩
          go_wp2
          go_ret
          exact ⟨rfl, rfl⟩
        · rw [if_neg (by rw [hib]; simp [hba])] at hst
          have HI := Lib.hid (And.intro hst hib)
          rw [hib] at IB
          replace IB := Lib.hid IB
          clear hba hib hst
          go_wp2_with fail
          refine (IB.out _).mono ?_
          rintro e _ ⟨rfl, rfl⟩
          go_wp2
          go_round
          case rel => exact ⟨k + 1, b1, by omega, rfl, by go_num, HI⟩
          case measure => simp [intOf]; omega
    · obtain rfl : k = l.length := by omega
      have hst := hI.out.1
      rw [Nat.sub_self] at hst
      have hst' : (b == a) = tot := hst
      subst hst'
      clear hst hI PR
      go_wp2
      go_ret
      exact ⟨rfl, rfl⟩

theorem last_is {a : Int} (hia : isA l a = true) : isA l ((upA l a).getLast?.getD a) = true := by
  cases h : (upA l a).getLast? with
  | none => exact hia
  | some z => exact upA_is (List.mem_of_getLast? h)

set_option maxRecDepth 100000 in
set_option maxHeartbeats 2000000 in
theorem rround_any (a : Int) (hia : isA l a = true) (hm : l.length ≤ 1000000) (hr : RowC w A l) : Calls Try.prog 65 #[.slice A l.length c, .int .i64 a] w fun e w' => e = .returned (.bool (rndD l a)) ∧ Below w.heap.size w w' := by
  have UP := Lib.hid ((rup_any (c := c) a hm hr).mono fun _ _ h => rowOf rfl h)
  have hlen := upA_len l a
  have HL := last_is hia
  unfold rndD
  have R := Lib.hid hr
  have PR := Lib.hid fun (w : World) (hr : RowC w A l) (b : Int) (h : isA l b = true) => hr.par h
  clear hia hr
  generalize upA l a = us at *
  obtain ⟨la, hla⟩ : ∃ la, la = us.getLast?.getD a := ⟨_, rfl⟩
  rw [← hla] at HL ⊢
  replace hla := Lib.hid hla
  obtain ⟨fb, hfb⟩ : ∃ fb, fb = fA l la := ⟨_, rfl⟩
  rw [← hfb]
  replace hfb := Lib.hid hfb
  go_enter Try.func65, Try.ntmps65
  go_wp2_with fail
  refine UP.out.mono ?_
  rintro e w1 ⟨A1, c1, rfl, r1, b1⟩
  obtain ⟨g, off, k, rfl, hg, hk, hlk, hc⟩ := PR.out _ (R.out.later b1) la HL
  rw [← hfb.out] at hc
  clear hfb
  by_cases hu : us = []
  · subst hu
    have hak : a = (k : Int) + 1 := hla.out.symm.trans hlk
    clear HL PR R UP hla hlk
    subst hak
    go_wp2
    go_ret
    exact ⟨rfl, b1⟩
  · have hu0 : 0 < us.length := List.length_pos_iff.2 hu
    obtain ⟨b0, off0, rfl, hb0, hc0⟩ := r1.iget hu0
    have h0 := hc0 (us.length - 1) (by omega)
    have hge : us.getLast?.getD a = us[us.length - 1]'(by omega) := by rw [List.getLast?_eq_getElem?, List.getElem?_eq_getElem (by omega)]; rfl
    rw [← hge, ← hla.out, hlk] at h0
    obtain ⟨m, hm9⟩ : ∃ m : Nat, us.length = m + 1 := ⟨us.length - 1, by omega⟩
    rw [hm9] at h0 hlen ⊢
    rw [show m + 1 - 1 = m by omega] at h0
    clear HL PR R UP hge hc0 hu hu0 hm9 r1 hla hlk
    go_wp2
    go_ret
    exact ⟨rfl, b1⟩
end
end Go.Proofs.Ythkaohjgldoipaa
