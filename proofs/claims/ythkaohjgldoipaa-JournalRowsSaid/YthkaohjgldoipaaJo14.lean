/-
  JournalTurns, JournalOnce.
-/
import Derived.Test.YthkaohjgldoipaaJo12
import Derived.Test.YthkaohjgldoipaaJo13
namespace Go.Proofs.Ythkaohjgldoipaa
open Go.RowKit
section
variable {A : Option Addr} {c : Nat} {l : List Ent} {w : World}
set_option maxRecDepth 100000 in
set_option maxHeartbeats 4000000 in
theorem turns_law (n : Int) (hwf : WfE l) (hr : RowE w A l) : Calls Try.prog 4 #[.slice A l.length c, .int .i64 n] w fun e w' => e = .returned (.bool true) ∧ Below w.heap.size w w' := by
  have AW := Lib.hid fun w => jawake_any w
  have FW := fun (w : World) (hr : RowE w A l) => (jfew_any (c := c) hr).mono (R' := fun e w' => e = .returned (.bool (fewJ l)) ∧ w = w') fun _ _ ⟨h1, h2⟩ => ⟨h1, h2.symm⟩
  cases hfew : fewJ l
  · rw [hfew] at FW
    replace FW := Lib.hid FW
    clear hfew hwf
    have hb := Below.refl w.heap.size w
    go_enter Try.func4, Try.ntmps4
    go_wp2_with fail
    refine (FW.out _ hr).mono ?_
    rintro e _ ⟨rfl, rfl⟩
    clear hr
    go_wp2_with fail
    refine (AW.out _).mono ?_
    rintro e w99 ⟨rfl, b9⟩
    replace hb := hb.trans (b9.mono hb.size)
    clear b9
    go_wp2
    go_ret
    exact ⟨rfl, hb⟩
  · rw [hfew] at FW
    replace FW := Lib.hid FW
    obtain ⟨f1, f2, f3⟩ := few_len hfew
    clear hfew
    have hm : l.length ≤ 1000000 := by omega
    have hm2 : (linesJ l).length ≤ 1000000 := by omega
    have hls : ∀ e ∈ l, e.ls.length ≤ 1000000 := fun e he => by have := f2 e he; omega
    have R1 := Lib.hid fun (w : World) (hr : RowE w A l) => jreversed_any (c := c) n hm hr
    have R2 := Lib.hid fun (w : World) (hr : RowE w A l) => rreversed_any (c := c) n hm hr
    have M1 := Lib.hid fun (w : World) (hr : RowE w A l) => jmay_any (c := c) n hm hls hwf hr
    have M2 := Lib.hid fun (w : World) (hr : RowE w A l) => rmayj_any (c := c) n hm hls hr
    clear hls hwf f2 f3 hm2
    generalize revJ l n = rv at *
    generalize mayJ l n = my at *
    have hb := Below.refl w.heap.size w
    go_enter Try.func4, Try.ntmps4
    go_wp2_with fail
    refine (FW.out _ hr).mono ?_
    rintro e _ ⟨rfl, rfl⟩
    go_wp2_with fail
    refine (R1.out _ hr).mono ?_
    rintro e w1 ⟨rfl, b9⟩
    replace hr := hr.below b9 (Nat.le_refl _)
    replace hb := hb.trans (b9.mono hb.size)
    clear b9
    go_wp2_with fail
    refine (R2.out _ hr).mono ?_
    rintro e w2 ⟨rfl, b9⟩
    replace hr := hr.below b9 (Nat.le_refl _)
    replace hb := hb.trans (b9.mono hb.size)
    clear b9
    go_wp2_with fail
    refine (M1.out _ hr).mono ?_
    rintro e w3 ⟨rfl, b9⟩
    replace hr := hr.below b9 (Nat.le_refl _)
    replace hb := hb.trans (b9.mono hb.size)
    clear b9
    go_wp2_with fail
    refine (M2.out _ hr).mono ?_
    rintro e w4 ⟨rfl, b9⟩
    replace hr := hr.below b9 (Nat.le_refl _)
    replace hb := hb.trans (b9.mono hb.size)
    clear b9
    clear hr
    go_wp2_with fail
    refine (AW.out _).mono ?_
    rintro e w99 ⟨rfl, b9⟩
    replace hb := hb.trans (b9.mono hb.size)
    clear b9
    go_wp2
    go_ret
    exact ⟨rfl, hb⟩
/-- One more entry, that reverses n. -/
def moreJ (l : List Ent) (n : Int) : List Ent := l ++ [⟨0, n, none, 0, []⟩]
theorem moreJ_len (l : List Ent) (n : Int) : (moreJ l n).length = l.length + 1 := by simp [moreJ]
theorem once_by {n : Int} (h1 : 1 ≤ n) (h2 : n ≤ l.length) : revJ (moreJ l n) n = if revG n l 0 = 0 then (l.length : Int) + 1 else revG n l 0 := by
  unfold revJ
  rw [if_pos ⟨h1, by rw [moreJ_len]; omega⟩]
  unfold moreJ
  rw [revG_snoc (n := n) (e := ⟨0, n, none, 0, []⟩) rfl]
  simp
theorem once_rng {n : Int} (h1 : 1 ≤ n) (h2 : n ≤ l.length) : 1 ≤ revJ (moreJ l n) n ∧ revJ (moreJ l n) n ≤ (l.length : Int) + 1 := by
  rw [once_by h1 h2]
  have := revG_le (n := n) (l := l) (k := 0)
  split <;> omega
theorem once_may {n : Int} {k : Nat} (hk : k < (moreJ l n).length) (h : (moreJ l n)[k].r ≠ 0 ∨ revJ (moreJ l n) ((k : Int) + 1) ≠ 0) : mayJ (moreJ l n) ((k : Int) + 1) = 35 := by
  rw [mayJ_at hk, if_pos h]
theorem once_n {n : Int} (h1 : 1 ≤ n) (h2 : n ≤ l.length) : mayJ (moreJ l n) n = 35 := by
  obtain ⟨k, rfl⟩ : ∃ k : Nat, n = (k : Int) + 1 := ⟨n.toNat - 1, by omega⟩
  exact once_may (by rw [moreJ_len]; omega) (.inr (by have := (once_rng h1 h2).1; omega))
theorem once_b {n : Int} (h1 : 1 ≤ n) (h2 : n ≤ l.length) : mayJ (moreJ l n) (revJ (moreJ l n) n) = 35 := by
  have hr := once_rng h1 h2
  have he : revJ (moreJ l n) n = revG n (moreJ l n) 0 := if_pos ⟨h1, by rw [moreJ_len]; omega⟩
  obtain ⟨j, hj, h3, h4⟩ := revG_at (n := n) (l := moreJ l n) (k := 0) (by rw [← he]; omega)
  rw [he, h3, Nat.zero_add]
  exact once_may hj (.inl (by rw [h4]; omega))
theorem once_last {n : Int} (h1 : 1 ≤ n) : mayJ (moreJ l n) ((l.length : Int) + 1) = 35 := by
  refine once_may (by rw [moreJ_len]; omega) (.inl ?_)
  unfold moreJ
  rw [List.getElem_append_right (Nat.le_refl _)]
  simp; omega
theorem once_ok {n : Int} (h1 : 1 ≤ n) (h2 : n ≤ l.length) (h : mayJ l n = 0) : revJ (moreJ l n) n = (l.length : Int) + 1 := by
  rw [once_by h1 h2]
  obtain ⟨k, rfl⟩ : ∃ k : Nat, n = (k : Int) + 1 := ⟨n.toNat - 1, by omega⟩
  rw [mayJ_at (by omega)] at h
  split at h
  · simp at h
  · rename_i hn
    have h3 : revJ l ((k : Int) + 1) = 0 := by
      by_cases h4 : revJ l ((k : Int) + 1) = 0
      · exact h4
      · exact absurd (.inr h4) hn
    rw [show revJ l ((k : Int) + 1) = revG ((k : Int) + 1) l 0 from if_pos ⟨h1, h2⟩] at h3
    rw [if_pos h3]
theorem once_row {n : Int} {B : Option Addr} (h : RowAt w B (evs (moreJ l n))) (hr : RowE w A l) : RowE w B (moreJ l n) :=
  ⟨h, fun e he => by
    rcases List.mem_append.1 he with he | he
    · exact hr.2 e he
    · obtain rfl := List.mem_singleton.1 he
      exact RowAt.nil _ _⟩
theorem once_wf {n : Int} (h : WfE l) : WfE (moreJ l n) := fun e he => by
  rcases List.mem_append.1 he with he | he
  · exact h e he
  · obtain rfl := List.mem_singleton.1 he
    intro x hx; simp at hx
theorem once_ls {n : Int} (h : ∀ e ∈ l, e.ls.length ≤ 1000000) : ∀ e ∈ moreJ l n, e.ls.length ≤ 1000000 := fun e he => by
  rcases List.mem_append.1 he with he | he
  · exact h e he
  · obtain rfl := List.mem_singleton.1 he
    simp
set_option maxRecDepth 100000 in
set_option maxHeartbeats 4000000 in
theorem once_law (n : Int) (hwf : WfE l) (hr : RowE w A l) : Calls Try.prog 6 #[.slice A l.length c, .int .i64 n] w fun e w' => e = .returned (.bool true) ∧ Below w.heap.size w w' := by
  have AW := Lib.hid fun w => jawake_any w
  have FW := fun (w : World) (hr : RowE w A l) => (jfew_any (c := c) hr).mono (R' := fun e w' => e = .returned (.bool (fewJ l)) ∧ w = w') fun _ _ ⟨h1, h2⟩ => ⟨h1, h2.symm⟩
  cases hfew : fewJ l
  · rw [hfew] at FW
    replace FW := Lib.hid FW
    clear hfew hwf
    have hb := Below.refl w.heap.size w
    go_enter Try.func6, Try.ntmps6
    go_wp2_with fail
    refine (FW.out _ hr).mono ?_
    rintro e _ ⟨rfl, rfl⟩
    clear hr
    go_wp2_with fail
    refine (AW.out _).mono ?_
    rintro e w99 ⟨rfl, b9⟩
    replace hb := hb.trans (b9.mono hb.size)
    clear b9
    go_wp2
    go_ret
    exact ⟨rfl, hb⟩
  · rw [hfew] at FW
    replace FW := Lib.hid FW
    obtain ⟨f1, f2, f3⟩ := few_len hfew
    clear hfew
    have hm : l.length ≤ 1000000 := by omega
    have hm2 : (linesJ l).length ≤ 1000000 := by omega
    have hls : ∀ e ∈ l, e.ls.length ≤ 1000000 := fun e he => by have := f2 e he; omega
    by_cases hin : 1 ≤ n ∧ n ≤ l.length
    · obtain ⟨i0, hi, hz0, hz1, hz2⟩ := info_parts Try.infoEntry
      obtain ⟨n1, n2⟩ := hin
      have hml := moreJ_len l n
      have RM := fun (B : Option Addr) (c : Nat) (w : World) (hr : RowE w B (moreJ l n)) => jreversed_any (A := B) (c := c) (w := w) n (by omega) hr
      have MN := fun (B : Option Addr) (c : Nat) (w : World) (hr : RowE w B (moreJ l n)) => jmay_any (A := B) (c := c) (w := w) n (by omega) (once_ls hls) (once_wf hwf) hr
      have MB := fun (B : Option Addr) (c : Nat) (w : World) (hr : RowE w B (moreJ l n)) => jmay_any (A := B) (c := c) (w := w) (revJ (moreJ l n) n) (by omega) (once_ls hls) (once_wf hwf) hr
      have ML := fun (B : Option Addr) (c : Nat) (w : World) (hr : RowE w B (moreJ l n)) => jmay_any (A := B) (c := c) (w := w) ((l.length : Int) + 1) (by omega) (once_ls hls) (once_wf hwf) hr
      have MO := fun (w : World) (hr : RowE w A l) => jmay_any (c := c) n hm hls hwf hr
      rw [once_n n1 n2, hml] at MN
      rw [once_b n1 n2, hml] at MB
      rw [once_last n1, hml] at ML
      rw [hml] at RM
      have OK := Lib.hid (once_ok n1 n2)
      obtain ⟨g1, g2⟩ := once_rng n1 n2
      have ROW := Lib.hid fun (w : World) (B : Option Addr) (h : RowAt w B (evs (moreJ l n))) (hr : RowE w A l) => once_row h hr
      have EV : Hid (evs (moreJ l n) = evs l ++ ev ⟨0, n, none, 0, []⟩) := evs_snoc _ _
      replace RM := Lib.hid RM
      replace MN := Lib.hid MN
      replace MB := Lib.hid MB
      replace ML := Lib.hid ML
      clear hwf hls f2 f3 hm2 hml
      generalize revJ (moreJ l n) n = by' at *
      generalize mayJ l n = mo at *
      replace MO := Lib.hid MO
      have hb := Below.refl w.heap.size w
      have HR := Lib.hid hr
      go_enter Try.func6, Try.ntmps6
      go_wp2_with fail
      refine (FW.out _ hr).mono ?_
      rintro e _ ⟨rfl, rfl⟩
      go_wp2_with (at_builtin; refine wpList_append_rowN rfl _ _ 22 rfl w.heap.size 49 i0 (.agg #[.int .i64 0, .int .i64 0, .slice none 0 0]) 3 40 Try.underlying22 hi hz0 hz1 hz2 rfl (by decide) _ 0 [] rfl (own_empty (Nat.le_refl _) rfl) A l.length c (evs l) rfl (evs_len l) (hr.1.alloc _) (fm_one ev_one l) (by unfold maxLen; omega) (by omega) (by simp) ?_)
      intro A2 c2 w2 own2 hgr2
      have b2 : Below w.heap.size w w2 := ((Below.refl _ _).alloc (Nat.le_refl _) _).grown hgr2 (by simp) (by simp [Value.ownBlock])
      clear hgr2 hb hr
      have hs2 := b2.size
      go_wp2_with (at_builtin; refine wpList_append_rowN rfl _ _ 22 rfl w.heap.size 49 i0 (.agg #[.int .i64 0, .int .i64 0, .slice none 0 0]) 3 40 Try.underlying22 hi hz0 hz1 hz2 rfl (by decide) _ l.length (evs l) rfl (own2.alloc _) (some ⟨w2.heap.size, 0, none⟩) 1 1 (ev ⟨0, n, none, 0, []⟩) rfl rfl (row_new (t := 49) (Box.new w2 _ _)) (ev_one _) (by unfold maxLen; omega) (by omega) (by simp; omega) ?_)
      intro A3 c3 w3 own3 hgr3
      have hb : Below w.heap.size w w3 := (b2.alloc hs2 _).grown hgr3 (by simp; omega) (fun g hg => (own2.lt g hg).1)
      rw [← EV.out] at own3
      have hr := HR.out.below hb (Nat.le_refl _)
      have rm := ROW.out _ _ (row_of_own own3) hr
      clear own2 own3 hgr3 b2 hs2
      go_wp2_with fail
      refine (RM.out _ _ _ rm).mono ?_
      rintro e w4 ⟨rfl, b9⟩
      replace hr := hr.below b9 (Nat.le_refl _)
      replace rm := rm.below b9 (Nat.le_refl _)
      replace hb := hb.trans (b9.mono hb.size)
      clear b9
      go_wp2_with fail
      refine (MN.out _ _ _ rm).mono ?_
      rintro e w5 ⟨rfl, b9⟩
      replace hr := hr.below b9 (Nat.le_refl _)
      replace rm := rm.below b9 (Nat.le_refl _)
      replace hb := hb.trans (b9.mono hb.size)
      clear b9
      go_wp2_with fail
      refine (MB.out _ _ _ rm).mono ?_
      rintro e w6 ⟨rfl, b9⟩
      replace hr := hr.below b9 (Nat.le_refl _)
      replace rm := rm.below b9 (Nat.le_refl _)
      replace hb := hb.trans (b9.mono hb.size)
      clear b9
      go_wp2_with fail
      refine (ML.out _ _ _ rm).mono ?_
      rintro e w7 ⟨rfl, b9⟩
      replace hr := hr.below b9 (Nat.le_refl _)
      replace rm := rm.below b9 (Nat.le_refl _)
      replace hb := hb.trans (b9.mono hb.size)
      clear b9
      clear rm
      by_cases hmo : mo = 0
      · have hbe := OK.out hmo
        have hme : (mo != 0) = false := by simpa using hmo
        have hbe2 : (by' == (l.length : Int) + 1) = true := by simpa using hbe
        clear hmo hbe
        go_wp2_with fail
        refine (MO.out _ hr).mono ?_
        rintro e w8 ⟨rfl, b9⟩
        replace hr := hr.below b9 (Nat.le_refl _)
        replace hb := hb.trans (b9.mono hb.size)
        clear b9
        clear hr
        go_wp2_with fail
        refine (AW.out _).mono ?_
        rintro e w99 ⟨rfl, b9⟩
        replace hb := hb.trans (b9.mono hb.size)
        clear b9
        go_wp2
        go_ret
        exact ⟨rfl, hb⟩
      · have hme : (mo != 0) = true := by simpa using hmo
        clear hmo
        go_wp2_with fail
        refine (MO.out _ hr).mono ?_
        rintro e w8 ⟨rfl, b9⟩
        replace hr := hr.below b9 (Nat.le_refl _)
        replace hb := hb.trans (b9.mono hb.size)
        clear b9
        clear hr
        go_wp2_with fail
        refine (AW.out _).mono ?_
        rintro e w99 ⟨rfl, b9⟩
        replace hb := hb.trans (b9.mono hb.size)
        clear b9
        go_wp2
        go_ret
        exact ⟨rfl, hb⟩
    · have hcs : decide (n < 1) = true ∨ (1 ≤ n ∧ decide ((l.length : Int) < n) = true) := by
        rcases Int.lt_or_le n 1 with h | h
        · exact .inl (decide_eq_true h)
        · exact .inr ⟨h, decide_eq_true (by omega)⟩
      have hb := Below.refl w.heap.size w
      clear hin
      rcases hcs with h1 | ⟨h0, h1⟩
      · go_enter Try.func6, Try.ntmps6
        go_wp2_with fail
        refine (FW.out _ hr).mono ?_
        rintro e _ ⟨rfl, rfl⟩
        clear hr
        go_wp2_with fail
        refine (AW.out _).mono ?_
        rintro e w99 ⟨rfl, b9⟩
        replace hb := hb.trans (b9.mono hb.size)
        clear b9
        go_wp2
        go_ret
        exact ⟨rfl, hb⟩
      · go_enter Try.func6, Try.ntmps6
        go_wp2_with fail
        refine (FW.out _ hr).mono ?_
        rintro e _ ⟨rfl, rfl⟩
        clear hr
        go_wp2_with fail
        refine (AW.out _).mono ?_
        rintro e w99 ⟨rfl, b9⟩
        replace hb := hb.trans (b9.mono hb.size)
        clear b9
        go_wp2
        go_ret
        exact ⟨rfl, hb⟩
end
end Go.Proofs.Ythkaohjgldoipaa
