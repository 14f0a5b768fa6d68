/-
  Chapter 6: plain, with decimals.
-/
import Derived.Test.YtmdflhgmlipplaaDoorDe5
namespace Go.Proofs.YtmdflhgmlipplaaDoor
open Go.RowKit

theorem ext_list (s : ByteArray) (i j : Nat) : (s.extract i j).data.toList = (s.data.toList.drop i).take (j - i) := by
  rw [ByteArray.data_extract, Array.toList_extract, List.extract_eq_take_drop]

set_option maxRecDepth 100000 in
set_option maxHeartbeats 2000000 in
theorem plain_none (s : ByteArray) (d : Nat) (w : World) (hs : s.size ≤ 100) (hd : d ≤ 6) (h0 : 0 < d) (hc : ¬ (d + 2 ≤ s.size ∧ s.data.toList[s.size - 1 - d]? = some 46)) :
    Calls Tryd.prog 29 #[.string s, .int .i64 d] w fun e w' => e = .returned (.tuple #[S8 (plL d s.data.toList).1, .bool (plL d s.data.toList).2]) ∧ ∃ n, w.drewN n = w' := by
  have hn : s.data.toList.length = s.size := Array.length_toList
  have HR : Hid (plL d s.data.toList = ([], false)) := Lib.hid (by unfold plL cutP; rw [if_pos h0, hn, if_neg hc])
  generalize plL d s.data.toList = q at *
  by_cases h2 : d + 2 ≤ s.size
  · obtain ⟨a, ha⟩ : ∃ a, s.size = a + d + 1 := ⟨s.size - d - 1, by omega⟩
    have hal : a < s.size := by omega
    have hne : s[a]'hal ≠ 46 := by
      intro e
      apply hc
      refine ⟨h2, ?_⟩
      rw [show s.size - 1 - d = a by omega, List.getElem?_eq_getElem (by rw [hn]; exact hal)]
      exact congrArg some e
    have hne' : (((s[a]'hal).toNat : Int) != 46) = true := by
      rw [bne_iff_ne]
      intro h
      apply hne
      apply UInt8.toNat_inj.1
      have : (46 : UInt8).toNat = 46 := rfl
      omega
    have ha1 : (1 : Int) ≤ (a : Int) := by omega
    clear hc hn hne h2
    skip
    go_enter Tryd.func29, Tryd.ntmps29
    go_wp2
    refine wp_scope_jumps 0 (fun _ _ => False) (fun _ _ => 0) rfl ?_ ?_
    · go_wp2
      simp only [Exit.jump]
      go_ret2
      exact ⟨by rw [HR.out]; rfl, 0, rfl⟩
    · intro _ _ h
      exact h.elim
  · have hlt : (s.size : Int) - 1 - (d : Int) < 1 := by omega
    clear hc hn h2
    skip
    go_enter Tryd.func29, Tryd.ntmps29
    go_wp2
    refine wp_scope_jumps 0 (fun _ _ => False) (fun _ _ => 0) rfl ?_ ?_
    · go_wp2
      simp only [Exit.jump]
      go_ret2
      exact ⟨by rw [HR.out]; rfl, 0, rfl⟩
    · intro _ _ h
      exact h.elim

set_option maxRecDepth 100000 in
set_option maxHeartbeats 4000000 in
theorem plain_some (s : ByteArray) (d : Nat) (w : World) (hs : s.size ≤ 100) (hd : d ≤ 6) (h0 : 0 < d) (h2 : d + 2 ≤ s.size) (hc : s.data.toList[s.size - 1 - d]? = some 46) :
    Calls Tryd.prog 29 #[.string s, .int .i64 d] w fun e w' => e = .returned (.tuple #[S8 (plL d s.data.toList).1, .bool (plL d s.data.toList).2]) ∧ ∃ n, w.drewN n = w' := by
  have hn : s.data.toList.length = s.size := Array.length_toList
  obtain ⟨a, ha⟩ : ∃ a, s.size = a + d + 1 := ⟨s.size - d - 1, by omega⟩
  have hal : a < s.size := by omega
  have hq : plL d s.data.toList = if (s.data.toList.take a ++ s.data.toList.drop (a + 1)).all isD = true then (s.data.toList.take a ++ s.data.toList.drop (a + 1), endB d (s.data.toList.take a ++ s.data.toList.drop (a + 1))) else ([], false) := by
    unfold plL cutP
    rw [if_pos h0, hn, if_pos ⟨h2, hc⟩, show s.size - 1 - d = a by omega, show s.size - d = a + 1 by omega]
  have hdot : s[a]'hal = 46 := by
    rw [show s.size - 1 - d = a by omega, List.getElem?_eq_getElem (by rw [hn]; exact hal)] at hc
    injection hc with hc
  have hol : (s.extract 0 a ++ s.extract (a + 1) (a + d + 1)).data.toList = s.data.toList.take a ++ s.data.toList.drop (a + 1) := by
    rw [ByteArray.data_append, Array.toList_append, ext_list, ext_list, List.drop_zero, Nat.sub_zero]
    congr 1
    rw [List.take_of_length_le (by rw [List.length_drop, hn]; omega)]
  rw [← hol] at hq
  have hosz : (s.extract 0 a ++ s.extract (a + 1) (a + d + 1)).size ≤ 100 := by
    have h : (s.extract 0 a ++ s.extract (a + 1) (a + d + 1)).data.toList.length ≤ 100 := by rw [hol]; simp; omega
    rw [Array.length_toList] at h
    exact h
  have HF0 := Lib.hid hq
  have HA := Lib.hid ha
  clear hq hc hol hn
  generalize plL d s.data.toList = q at *
  have ha1 : (1 : Int) ≤ (a : Int) := by omega
  clear h2
  go_enter Tryd.func29, Tryd.ntmps29
  go_wp2
  obtain ⟨o, ho⟩ : ∃ o, o = s.extract 0 a ++ s.extract (a + 1) (a + d + 1) := ⟨_, rfl⟩
  rw [← ho] at HF0 hosz
  refine wp_scope_jumps 0 (fun a' W => ∃ (n k : Nat), W = w.drewN n ∧ k ≤ o.size ∧ Hid (∀ j (h : j < o.size), j < k → isD (o[j]'h) = true) ∧ ∃ (u7 u9 u10 u11 u12 u13 u14 u15 u16 u17 u18 u19 u20 u21 u22 u23 u24 u25 u26 u27 u28 u29 u30 u31 u32 u33 u34 u35 u36 u37 u38 u39 u40 u41 u42 u43 u44 u45 u46 u47 u48 u49 u50 u51 u52 u53 u54 u55 u56 u57 u58 u59 u60 u61 u62 u63 u64 u65 : Value), a' = { tmps := #[.string s, .int .i64 d, undef, undef, .string ⟨#[]⟩, .bool false, .string o, u7, .int .i64 k, u9, u10, u11, u12, u13, u14, u15, u16, u17, u18, u19, u20, u21, u22, u23, u24, u25, u26, u27, u28, u29, u30, u31, u32, u33, u34, u35, u36, u37, u38, u39, u40, u41, u42, u43, u44, u45, u46, u47, u48, u49, u50, u51, u52, u53, u54, u55, u56, u57, u58, u59, u60, u61, u62, u63, u64, u65], defers := [] }) (fun a' _ => o.size - (intOf (a'.tmps.getD 8 undef)).toNat) rfl ?_ ?_
  · have HK : Hid (∀ j (h : j < o.size), j < 0 → isD (o[j]'h) = true) := Lib.hid fun j h hj => by omega
    have HO := Lib.hid ho
    clear ho
    go_wp2
    go_quiet (fail)
    go_wp2
    rewrite [← HO.out]
    clear HO ha hal hdot ha1
    go_step3
    by_cases hk : 0 < o.size
    · have HF := HF0.out
      by_cases hc : isD (o[0]'hk) = true
      · have hb : 48 ≤ ((o[0]'hk).toNat : Int) ∧ ((o[0]'hk).toNat : Int) ≤ 57 := by unfold isD at hc; simp at hc; omega
        have HK1 : Hid (∀ j (h : j < o.size), j < 0 + 1 → isD (o[j]'h) = true) := Lib.hid fun j h hj => by
          by_cases hjk : j = 0
          · subst hjk; exact hc
          · exact HK.out j h (by omega)
        clear hc HF
        go_wp2
        go_step3
        exact ⟨rfl, _, 1, rfl, by omega, HK1, _, _, _, _, _, _, _, _, _, _, _, _, _, _, _, _, _, _, _, _, _, _, _, _, _, _, _, _, _, _, _, _, _, _, _, _, _, _, _, _, _, _, _, _, _, _, _, _, _, _, _, _, _, _, _, _, _, _, rfl⟩
      · have hall : o.data.toList.all isD = false := by
          rw [List.all_eq_false]
          exact ⟨o[0]'hk, List.getElem_mem (l := o.data.toList) (n := 0) (by rw [Array.length_toList]; exact hk), by simpa using hc⟩
        rw [hall, if_neg (by decide)] at HF
        have HR := Lib.hid HF
        have hb : ((o[0]'hk).toNat : Int) < 48 ∨ 48 ≤ ((o[0]'hk).toNat : Int) ∧ 57 < ((o[0]'hk).toNat : Int) := by unfold isD at hc; simp at hc; omega
        clear hc hall HF
        rcases hb with hb | hb
        · go_wp2
          simp only [Exit.jump]
          go_ret2
          exact ⟨by rw [HR.out]; rfl, _, rfl⟩
        · obtain ⟨hb1, hb2⟩ := hb
          go_wp2
          simp only [Exit.jump]
          go_ret2
          exact ⟨by rw [HR.out]; rfl, _, rfl⟩
    · have hall : o.data.toList.all isD = true := by
        rw [List.all_eq_true]
        intro c hc
        obtain ⟨j, hj, rfl⟩ := List.getElem_of_mem hc
        have hjo : j < o.size := by rw [Array.length_toList] at hj; exact hj
        have := HK.out j hjo (by omega)
        exact this
      have HF := HF0.out
      rw [hall, if_pos rfl] at HF
      clear hall
      have hn : o.data.toList.length = o.size := Array.length_toList
      unfold endB at HF
      rw [hn] at HF
      have hsz0 : (o.size : Int) ≤ 100 := by omega
      by_cases h1 : o.size = d + 1
      · exfalso; omega
      · have e1 : (((o.size : Nat) : Int) - (d : Int) == 1) = false := by rw [beq_eq_false_iff_ne]; omega
        rw [decide_eq_false h1, Bool.false_or] at HF
        by_cases h2 : d + 1 < o.size
        · exfalso; omega
        · have e2 : decide (1 < ((o.size : Nat) : Int) - (d : Int)) = false := decide_eq_false (by omega)
          rw [decide_eq_false h2, Bool.false_and] at HF
          have HR := Lib.hid HF
          clear HF h1 hn
          go_wp2
          go_quiet (fail)
          go_wp2
          simp only [Exit.jump]
          go_ret2
          exact ⟨by rw [HR.out]; rfl, _, rfl⟩
  · clear ho ha hal hdot ha1
    rintro a' W ⟨n0, k, rfl, hk0, HK, u7, u9, u10, u11, u12, u13, u14, u15, u16, u17, u18, u19, u20, u21, u22, u23, u24, u25, u26, u27, u28, u29, u30, u31, u32, u33, u34, u35, u36, u37, u38, u39, u40, u41, u42, u43, u44, u45, u46, u47, u48, u49, u50, u51, u52, u53, u54, u55, u56, u57, u58, u59, u60, u61, u62, u63, u64, u65, rfl⟩
    by_cases hk : k < o.size
    · have HF := HF0.out
      by_cases hc : isD (o[k]'hk) = true
      · have hb : 48 ≤ ((o[k]'hk).toNat : Int) ∧ ((o[k]'hk).toNat : Int) ≤ 57 := by unfold isD at hc; simp at hc; omega
        have HK1 : Hid (∀ j (h : j < o.size), j < k + 1 → isD (o[j]'h) = true) := Lib.hid fun j h hj => by
          by_cases hjk : j = k
          · subst hjk; exact hc
          · exact HK.out j h (by omega)
        clear hc HF
        go_wp2
        go_step3
        refine ⟨rfl, ⟨n0, k + 1, rfl, by omega, HK1, _, _, _, _, _, _, _, _, _, _, _, _, _, _, _, _, _, _, _, _, _, _, _, _, _, _, _, _, _, _, _, _, _, _, _, _, _, _, _, _, _, _, _, _, _, _, _, _, _, _, _, _, _, _, _, _, _, _, rfl⟩, ?_⟩
        simp [intOf]
        try omega
      · have hall : o.data.toList.all isD = false := by
          rw [List.all_eq_false]
          exact ⟨o[k]'hk, List.getElem_mem (l := o.data.toList) (n := k) (by rw [Array.length_toList]; exact hk), by simpa using hc⟩
        rw [hall, if_neg (by decide)] at HF
        have HR := Lib.hid HF
        have hb : ((o[k]'hk).toNat : Int) < 48 ∨ 48 ≤ ((o[k]'hk).toNat : Int) ∧ 57 < ((o[k]'hk).toNat : Int) := by unfold isD at hc; simp at hc; omega
        clear hc hall HF
        rcases hb with hb | hb
        · go_wp2
          simp only [Exit.jump]
          go_ret2
          exact ⟨by rw [HR.out]; rfl, n0, rfl⟩
        · obtain ⟨hb1, hb2⟩ := hb
          go_wp2
          simp only [Exit.jump]
          go_ret2
          exact ⟨by rw [HR.out]; rfl, n0, rfl⟩
    · have hall : o.data.toList.all isD = true := by
        rw [List.all_eq_true]
        intro c hc
        obtain ⟨j, hj, rfl⟩ := List.getElem_of_mem hc
        have hjo : j < o.size := by rw [Array.length_toList] at hj; exact hj
        have := HK.out j hjo (by omega)
        exact this
      have HF := HF0.out
      rw [hall, if_pos rfl] at HF
      clear hall
      have hn : o.data.toList.length = o.size := Array.length_toList
      unfold endB at HF
      rw [hn] at HF
      have hsz0 : (o.size : Int) ≤ 100 := by omega
      by_cases h1 : o.size = d + 1
      · have e1 : (((o.size : Nat) : Int) - (d : Int) == 1) = true := by rw [beq_iff_eq]; omega
        rw [decide_eq_true h1, Bool.true_or] at HF
        have HR := Lib.hid HF
        clear HF h1 hn
        go_wp2
        go_quiet (fail)
        go_wp2
        simp only [Exit.jump]
        go_ret2
        exact ⟨by rw [HR.out]; rfl, _, rfl⟩
      · have e1 : (((o.size : Nat) : Int) - (d : Int) == 1) = false := by rw [beq_eq_false_iff_ne]; omega
        rw [decide_eq_false h1, Bool.false_or] at HF
        by_cases h2 : d + 1 < o.size
        · have e2 : decide (1 < ((o.size : Nat) : Int) - (d : Int)) = true := decide_eq_true (by omega)
          have h00 : 0 < o.size := by omega
          have ho0 : o.data.toList[0]? = some (o[0]'h00) := by
            rw [List.getElem?_eq_getElem (by rw [hn]; exact h00)]
            rfl
          rw [decide_eq_true h2, Bool.true_and, ho0] at HF
          have hbit : (some (o[0]'h00) != some (48 : UInt8)) = (((o[0]'h00).toNat : Int) != 48) := by
            rw [Bool.eq_iff_iff, bne_iff_ne, bne_iff_ne]
            constructor
            · intro h h'
              apply h
              congr 1
              apply UInt8.toNat_inj.1
              have : (48 : UInt8).toNat = 48 := rfl
              omega
            · intro h h'
              injection h' with h'
              rw [h'] at h
              exact h rfl
          rw [hbit] at HF
          have hlt0 : 0 < ((o.size : Nat) : Int) := by omega
          have HR := Lib.hid HF
          clear HF h1 hn ho0 hbit
          go_wp2
          go_quiet (fail)
          go_wp2
          simp only [Exit.jump]
          go_ret2
          exact ⟨by rw [HR.out]; rfl, _, rfl⟩
        · have e2 : decide (1 < ((o.size : Nat) : Int) - (d : Int)) = false := decide_eq_false (by omega)
          rw [decide_eq_false h2, Bool.false_and] at HF
          have HR := Lib.hid HF
          clear HF h1 hn
          go_wp2
          go_quiet (fail)
          go_wp2
          simp only [Exit.jump]
          go_ret2
          exact ⟨by rw [HR.out]; rfl, _, rfl⟩

theorem plain_any (s : ByteArray) (d : Nat) (w : World) (hs : s.size ≤ 100) (hd : d ≤ 6) :
    Calls Tryd.prog 29 #[.string s, .int .i64 d] w fun e w' => e = .returned (.tuple #[S8 (plL d s.data.toList).1, .bool (plL d s.data.toList).2]) ∧ ∃ n, w.drewN n = w' := by
  by_cases h0 : 0 < d
  · by_cases hc : d + 2 ≤ s.size ∧ s.data.toList[s.size - 1 - d]? = some 46
    · exact plain_some s d w hs hd h0 hc.1 hc.2
    · exact plain_none s d w hs hd h0 hc
  · exact plain_zero s d w hs hd h0
end Go.Proofs.YtmdflhgmlipplaaDoor
