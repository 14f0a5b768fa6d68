/-
  journal: both Reverseds, both Mays, Few.
-/
import Derived.Test.YthkaohjgldoipaaJo8
namespace Go.Proofs.Ythkaohjgldoipaa
open Go.RowKit
section
variable {A : Option Addr} {c : Nat} {l : List Ent} {w : World}
set_option maxHeartbeats 1000000 in
theorem jrev1 (p r n : Int) (A : Option Addr) (m c g : Nat) (hb : Box w g 3 #[.int .i64 n]) : Calls Try.prog 53 #[.agg #[.int .i64 p, .int .i64 r, .slice A m c], .pointer (some ⟨g, 0, none⟩)] w fun e w' => e = .returned (.bool (r == n)) ∧ Below w.heap.size w w' := by
  have k1 := hb.cells
  have l1 := hb.lt
  clear hb
  go_enter Try.func53, Try.ntmps53
  go_wp2
  go_ret
  exact ⟨rfl, (Below.refl _ _).alloc (Nat.le_refl _) _⟩
set_option maxRecDepth 100000 in
set_option maxHeartbeats 2000000 in
theorem jindex_any {g : Nat} {n : Int} (hm : l.length ≤ 1000000) (hr : RowE w A l) (hb : Box w g 3 #[.int .i64 n]) :
    Calls Try.prog 52 #[.slice A l.length c, .func (.func 53) #[] #[.pointer (some ⟨g, 0, none⟩)]] w fun e w' => e = .returned (.int .i64 (revG n l 0 - 1)) ∧ Below w.heap.size w w' := by
  have R := Lib.hid hr
  have Y := Lib.hid hb
  have H0 : Hid (revG n l 0 = revG n (l.drop 0) 0) := rfl
  have RJ := Lib.hid fun (p r : Int) (A : Option Addr) (m c : Nat) (w : World) (hb : Box w g 3 #[.int .i64 n]) => jrev1 p r n A m c g hb
  clear hr hb
  go_enter Try.func52, Try.ntmps52
  go_wp2
  go_loopw [8] (fun i wr => ∃ k : Nat, k ≤ l.length ∧ i = .int .i64 k ∧ Hid (revG n l 0 = revG n (l.drop k) k) ∧ Below w.heap.size w wr) (fun i _ => l.length - (intOf i).toNat)
  case atStart => exact ⟨0, by omega, rfl, H0, Below.refl _ _⟩
  case round =>
    clear H0
    obtain ⟨k, hk, rfl, HI, hb⟩ := hrel
    by_cases hkn : k < l.length
    · obtain ⟨b0, o0, rfl, hb0, hc0⟩ := (R.out.later hb).get (by omega)
      obtain ⟨e1, e2, e3⟩ := hc0 k hkn
      have ST := HI.out
      rw [revG_drop hkn] at ST
      clear hc0 HI
      generalize l[k] = x at *
      obtain ⟨p, r, A', c', ls⟩ := x
      dsimp only at e1 e2 e3 ST
      generalize ls.length = m at *
      by_cases hx : r = n
      · rw [if_pos hx] at ST
        replace ST := Lib.hid ST
        have RK := fun (w : World) (hb : Box w g 3 #[.int .i64 n]) => RJ.out p r A' m c' w hb
        rw [beq_iff_eq.2 hx] at RK
        replace RK := Lib.hid RK
        clear hx
        go_wp2_with fail
        refine (RK.out _ (Y.out.later hb)).mono ?_
        rintro e w5 ⟨rfl, b5⟩
        replace hb := hb.trans (b5.mono hb.size)
        clear b5
        go_wp2
        go_ret
        exact ⟨by rw [ST.out, Int.add_sub_cancel]; rfl, hb⟩
      · rw [if_neg hx] at ST
        replace ST := Lib.hid ST
        have RK := fun (w : World) (hb : Box w g 3 #[.int .i64 n]) => RJ.out p r A' m c' w hb
        rw [beq_eq_false_iff_ne.2 hx] at RK
        replace RK := Lib.hid RK
        clear hx
        go_wp2_with fail
        refine (RK.out _ (Y.out.later hb)).mono ?_
        rintro e w5 ⟨rfl, b5⟩
        replace hb := hb.trans (b5.mono hb.size)
        clear b5
        go_wp2
        go_roundw
        case rel => exact ⟨k + 1, by omega, by go_num, ST, hb⟩
        case measure => simp [intOf]; omega
    · obtain rfl : k = l.length := by omega
      have ST := HI.out
      rw [revG_end (Nat.le_refl _)] at ST
      replace ST := Lib.hid ST
      clear HI
      go_wp2
      go_ret
      exact ⟨by rw [ST.out]; rfl, hb⟩
set_option maxHeartbeats 1000000 in
theorem jreversed_any (n : Int) (hm : l.length ≤ 1000000) (hr : RowE w A l) : Calls Try.prog 22 #[.slice A l.length c, .int .i64 n] w fun e w' => e = .returned (.int .i64 (revJ l n)) ∧ Below w.heap.size w w' := by
  by_cases h1 : n < 1
  · rw [show revJ l n = 0 from if_neg (by omega)]
    clear hr
    go_enter Try.func22, Try.ntmps22
    go_wp2
    go_ret
    exact ⟨rfl, (Below.refl _ _).alloc (Nat.le_refl _) _⟩
  · by_cases h2 : (l.length : Int) < n
    · rw [show revJ l n = 0 from if_neg (by omega)]
      clear hr
      go_enter Try.func22, Try.ntmps22
      go_wp2
      go_ret
      exact ⟨rfl, (Below.refl _ _).alloc (Nat.le_refl _) _⟩
    · have C := Lib.hid (jindex_any (c := c) (n := n) hm (hr.alloc (.cells #[.int .i64 n] 3)) (Box.new w _ _))
      have HV := Lib.hid (show revJ l n = revG n l 0 from if_pos (by omega))
      have hl1 := revG_le (n := n) (l := l) (k := 0)
      rw [HV.out]
      generalize revG n l 0 = q at *
      obtain ⟨q1, q2⟩ := hl1
      clear hr
      go_enter Try.func22, Try.ntmps22
      go_wp2_with fail
      refine C.out.mono ?_
      rintro e w1 ⟨rfl, b1⟩
      go_wp2
      go_ret
      exact ⟨by first | rfl | (congr 2; omega), below_up b1⟩
set_option maxRecDepth 100000 in
set_option maxHeartbeats 2000000 in
theorem rreversed_any (n : Int) (hm : l.length ≤ 1000000) (hr : RowE w A l) : Calls Try.prog 23 #[.slice A l.length c, .int .i64 n] w fun e w' => e = .returned (.int .i64 (revJ l n)) ∧ Below w.heap.size w w' := by
  by_cases hin : 1 ≤ n ∧ n ≤ l.length
  · have HV := Lib.hid (show revJ l n = revG n l 0 from if_pos hin)
    rw [HV.out]
    obtain ⟨n1, n2⟩ := hin
    have R := Lib.hid hr
    have H0 : Hid (revG n l 0 = revG n (l.drop 0) 0) := rfl
    clear hr
    go_enter Try.func23, Try.ntmps23
    go_wp2
    go_loopw [5] (fun i wr => ∃ k : Nat, k ≤ l.length ∧ i = .int .i64 k ∧ Hid (revG n l 0 = revG n (l.drop k) k) ∧ w = wr) (fun i _ => l.length - (intOf i).toNat)
    case atStart => exact ⟨0, by omega, rfl, H0, rfl⟩
    case round =>
      clear H0
      obtain ⟨k, hk, rfl, HI, rfl⟩ := hrel
      by_cases hkn : k < l.length
      · obtain ⟨b0, o0, rfl, hb0, hc0⟩ := R.out.get (by omega)
        obtain ⟨e1, e2, e3⟩ := hc0 k hkn
        have ST := HI.out
        rw [revG_drop hkn] at ST
        clear hc0 HI
        generalize l[k] = x at *
        obtain ⟨p, r, A', c', ls⟩ := x
        dsimp only at e1 e2 e3 ST
        by_cases hx : r = n
        · rw [if_pos hx] at ST
          replace ST := Lib.hid ST
          have he : (r == n) = true := by simpa using hx
          clear hx
          go_wp2
          go_ret
          exact ⟨by rw [ST.out]; rfl, Below.refl _ _⟩
        · rw [if_neg hx] at ST
          replace ST := Lib.hid ST
          have he : (r == n) = false := by simpa using hx
          clear hx
          go_wp2
          go_roundw
          case rel => exact ⟨k + 1, by omega, by go_num, ST, by trivial⟩
          case measure => simp [intOf]; omega
      · obtain rfl : k = l.length := by omega
        have ST := HI.out
        rw [revG_end (Nat.le_refl _)] at ST
        replace ST := Lib.hid ST
        clear HI
        go_wp2
        go_ret
        exact ⟨by rw [ST.out]; rfl, Below.refl _ _⟩
  · rw [show revJ l n = 0 from if_neg hin]
    have hcs : decide (1 ≤ n) = false ∨ (1 ≤ n ∧ decide (n ≤ (l.length : Int)) = false) := by
      rcases Int.lt_or_le n 1 with h | h
      · exact .inl (decide_eq_false (by omega))
      · exact .inr ⟨h, decide_eq_false (by omega)⟩
    clear hin hr
    rcases hcs with h1 | ⟨h0, h1⟩
    · go_enter Try.func23, Try.ntmps23
      go_wp2
      go_loopw [5] (fun i wr => ∃ k : Nat, k ≤ l.length ∧ i = .int .i64 k ∧ w = wr) (fun i _ => l.length - (intOf i).toNat)
      case atStart => exact ⟨0, by omega, rfl, rfl⟩
      case round =>
        obtain ⟨k, hk, rfl, rfl⟩ := hrel
        by_cases hkn : k < l.length
        · go_wp2
          go_roundw
          case rel => exact ⟨k + 1, by omega, by go_num, by trivial⟩
          case measure => simp [intOf]; omega
        · obtain rfl : k = l.length := by omega
          go_wp2
          go_ret
          exact ⟨rfl, Below.refl _ _⟩
    · go_enter Try.func23, Try.ntmps23
      go_wp2
      go_loopw [5] (fun i wr => ∃ k : Nat, k ≤ l.length ∧ i = .int .i64 k ∧ w = wr) (fun i _ => l.length - (intOf i).toNat)
      case atStart => exact ⟨0, by omega, rfl, rfl⟩
      case round =>
        obtain ⟨k, hk, rfl, rfl⟩ := hrel
        by_cases hkn : k < l.length
        · go_wp2
          go_roundw
          case rel => exact ⟨k + 1, by omega, by go_num, by trivial⟩
          case measure => simp [intOf]; omega
        · obtain rfl : k = l.length := by omega
          go_wp2
          go_ret
          exact ⟨rfl, Below.refl _ _⟩
/-- The amounts are ints. -/
def WfE (l : List Ent) : Prop := ∀ e ∈ l, WfL e.ls
theorem mayJ_out {n : Int} (h : n < 1 ∨ (l.length : Int) < n) : mayJ l n = 34 := by
  unfold mayJ
  split
  · rfl
  · rw [List.getElem?_eq_none (by omega)]
theorem mayJ_at {k : Nat} (hk : k < l.length) : mayJ l ((k : Int) + 1) = if l[k].r ≠ 0 ∨ revJ l ((k : Int) + 1) ≠ 0 then 35 else oppE l[k].ls := by
  unfold mayJ oppE
  rw [if_neg (by omega), show ((k : Int) + 1).toNat - 1 = k by omega, List.getElem?_eq_getElem hk]
set_option maxRecDepth 100000 in
set_option maxHeartbeats 2000000 in
theorem jmay_any (n : Int) (hm : l.length ≤ 1000000) (hls : ∀ e ∈ l, e.ls.length ≤ 1000000) (hwf : WfE l) (hr : RowE w A l) : Calls Try.prog 24 #[.slice A l.length c, .int .i64 n] w fun e w' => e = .returned (.int .i64 (mayJ l n)) ∧ Below w.heap.size w w' := by
  by_cases h1 : n < 1
  · rw [mayJ_out (.inl h1)]
    clear hr
    go_enter Try.func24, Try.ntmps24
    go_wp2
    go_ret
    exact ⟨rfl, Below.refl _ _⟩
  · by_cases h2 : (l.length : Int) < n
    · rw [mayJ_out (.inr h2)]
      clear hr
      go_enter Try.func24, Try.ntmps24
      go_wp2
      go_ret
      exact ⟨rfl, Below.refl _ _⟩
    · obtain ⟨k, rfl⟩ : ∃ k : Nat, n = (k : Int) + 1 := ⟨n.toNat - 1, by omega⟩
      have hk : k < l.length := by omega
      have HR := Lib.hid hr
      have RV := Lib.hid (jreversed_any (c := c) ((k : Int) + 1) hm hr)
      have MA := mayJ_at hk
      obtain ⟨b0, o0, rfl, hb0, hc0⟩ := hr.get (by omega)
      obtain ⟨e1, e2, e3⟩ := hc0 k hk
      have HL := hr.2 l[k] (List.getElem_mem hk)
      have HW := hwf l[k] (List.getElem_mem hk)
      have hl1 := hls l[k] (List.getElem_mem hk)
      clear hc0 hr hwf hls
      generalize l[k] = x at *
      obtain ⟨p, r, A', c', ls⟩ := x
      dsimp only at e1 e2 e3 MA HL HW hl1
      have OP := Lib.hid fun (w : World) (hr : RowAt w A' (lvs ls)) => jopp_any (c := c') p r hl1 HW hr
      have HLH := Lib.hid HL
      clear HL HW
      generalize revJ l ((k : Int) + 1) = rv at *
      unfold OppR at OP
      generalize oppE ls = oe at *
      by_cases hr0 : r = 0
      · have hr1 : (r != 0) = false := by simpa using hr0
        by_cases hv0 : rv = 0
        · have hv1 : (rv != 0) = false := by simpa using hv0
          rw [if_neg (by rintro (h | h); · exact h hr0
                         · exact h hv0)] at MA
          replace MA := Lib.hid MA
          rw [MA.out]
          clear hr0 hv0
          go_enter Try.func24, Try.ntmps24
          go_wp2_with fail
          refine RV.out.mono ?_
          rintro e w1 ⟨rfl, b1⟩
          replace e1 := (b1.cell (p := ⟨b0, o0 + k * 3, none⟩) hb0).trans e1
          replace e2 := (b1.cell (p := ⟨b0, o0 + k * 3 + 1, none⟩) hb0).trans e2
          replace e3 := (b1.cell (p := ⟨b0, o0 + k * 3 + 2, none⟩) hb0).trans e3
          have HL1 := HLH.out.below b1 (Nat.le_refl _)
          go_wp2_with fail
          refine (OP.out _ HL1).mono ?_
          rintro e w2 ⟨a', b', A2, n2, c2, rfl, b2⟩
          have B2 := b1.trans (b2.mono b1.size)
          clear b1 b2 e1 e2 e3 HL1
          go_wp2
          go_ret
          exact ⟨rfl, B2.alloc B2.size _⟩
        · have hv1 : (rv != 0) = true := by simpa using hv0
          rw [if_pos (.inr hv0)] at MA
          replace MA := Lib.hid MA
          rw [MA.out]
          clear hr0 hv0
          go_enter Try.func24, Try.ntmps24
          go_wp2_with fail
          refine RV.out.mono ?_
          rintro e w1 ⟨rfl, b1⟩
          clear e1 e2 e3
          go_wp2
          go_ret
          exact ⟨rfl, b1⟩
      · have hr1 : (r != 0) = true := by simpa using hr0
        rw [if_pos (.inl hr0)] at MA
        replace MA := Lib.hid MA
        rw [MA.out]
        clear hr0
        go_enter Try.func24, Try.ntmps24
        go_wp2
        go_ret
        exact ⟨rfl, Below.refl _ _⟩
set_option maxRecDepth 100000 in
set_option maxHeartbeats 2000000 in
theorem rmayj_any (n : Int) (hm : l.length ≤ 1000000) (hls : ∀ e ∈ l, e.ls.length ≤ 1000000) (hr : RowE w A l) : Calls Try.prog 25 #[.slice A l.length c, .int .i64 n] w fun e w' => e = .returned (.int .i64 (mayJ l n)) ∧ Below w.heap.size w w' := by
  by_cases h1 : n < 1
  · rw [mayJ_out (.inl h1)]
    clear hr
    go_enter Try.func25, Try.ntmps25
    go_wp2
    go_ret
    exact ⟨rfl, Below.refl _ _⟩
  · by_cases h2 : (l.length : Int) < n
    · rw [mayJ_out (.inr h2)]
      clear hr
      go_enter Try.func25, Try.ntmps25
      go_wp2
      go_ret
      exact ⟨rfl, Below.refl _ _⟩
    · obtain ⟨k, rfl⟩ : ∃ k : Nat, n = (k : Int) + 1 := ⟨n.toNat - 1, by omega⟩
      have hk : k < l.length := by omega
      have HR := Lib.hid hr
      have RV := Lib.hid (rreversed_any (c := c) ((k : Int) + 1) hm hr)
      have MA := mayJ_at hk
      obtain ⟨b0, o0, rfl, hb0, hc0⟩ := hr.get (by omega)
      obtain ⟨e1, e2, e3⟩ := hc0 k hk
      have HL := hr.2 l[k] (List.getElem_mem hk)
      have hl1 := hls l[k] (List.getElem_mem hk)
      clear hc0 hr hls
      generalize l[k] = x at *
      obtain ⟨p, r, A', c', ls⟩ := x
      dsimp only at e1 e2 e3 MA HL hl1
      have OP := Lib.hid fun (w : World) (hr : RowAt w A' (lvs ls)) => ropp_any (c := c') p r hl1 hr
      have HLH := Lib.hid HL
      clear HL
      generalize revJ l ((k : Int) + 1) = rv at *
      unfold OppR at OP
      generalize oppE ls = oe at *
      by_cases hr0 : r = 0
      · have hr1 : (r != 0) = false := by simpa using hr0
        by_cases hv0 : rv = 0
        · have hv1 : (rv != 0) = false := by simpa using hv0
          rw [if_neg (by rintro (h | h); · exact h hr0
                         · exact h hv0)] at MA
          replace MA := Lib.hid MA
          rw [MA.out]
          clear hr0 hv0
          go_enter Try.func25, Try.ntmps25
          go_wp2_with fail
          refine RV.out.mono ?_
          rintro e w1 ⟨rfl, b1⟩
          replace e1 := (b1.cell (p := ⟨b0, o0 + k * 3, none⟩) hb0).trans e1
          replace e2 := (b1.cell (p := ⟨b0, o0 + k * 3 + 1, none⟩) hb0).trans e2
          replace e3 := (b1.cell (p := ⟨b0, o0 + k * 3 + 2, none⟩) hb0).trans e3
          have HL1 := HLH.out.below b1 (Nat.le_refl _)
          go_wp2_with fail
          refine (OP.out _ HL1).mono ?_
          rintro e w2 ⟨a', b', A2, n2, c2, rfl, b2⟩
          have B2 := b1.trans (b2.mono b1.size)
          clear b1 b2 e1 e2 e3 HL1
          go_wp2
          go_ret
          exact ⟨rfl, B2.alloc B2.size _⟩
        · have hv1 : (rv != 0) = true := by simpa using hv0
          rw [if_pos (.inr hv0)] at MA
          replace MA := Lib.hid MA
          rw [MA.out]
          clear hr0 hv0
          go_enter Try.func25, Try.ntmps25
          go_wp2_with fail
          refine RV.out.mono ?_
          rintro e w1 ⟨rfl, b1⟩
          clear e1 e2 e3
          go_wp2
          go_ret
          exact ⟨rfl, b1⟩
      · have hr1 : (r != 0) = true := by simpa using hr0
        rw [if_pos (.inl hr0)] at MA
        replace MA := Lib.hid MA
        rw [MA.out]
        clear hr0
        go_enter Try.func25, Try.ntmps25
        go_wp2
        go_ret
        exact ⟨rfl, Below.refl _ _⟩
theorem few_step {k : Nat} (hk : k < l.length) (h : ∀ i (hi : i < l.length), i < k → l[i].ls.length ≤ 60) (h1 : l[k].ls.length ≤ 60) : ∀ i (hi : i < l.length), i < k + 1 → l[i].ls.length ≤ 60 := fun i hi hik => by
  rcases Nat.lt_or_ge i k with h2 | h2
  · exact h i hi h2
  · obtain rfl : i = k := by omega
    exact h1
theorem few_bad {k : Nat} (hk : k < l.length) (h1 : ¬ l[k].ls.length ≤ 60) : fewJ l = false := by
  cases hf : fewJ l
  · rfl
  · exact absurd ((few_len hf).2.1 _ (List.getElem_mem hk)) h1
theorem few_ok (h0 : l.length ≤ 30) (h : ∀ i (hi : i < l.length), l[i].ls.length ≤ 60) : fewJ l = true := by
  unfold fewJ
  rw [decide_eq_true h0, Bool.true_and, List.all_eq_true]
  intro e he
  obtain ⟨i, hi, rfl⟩ := List.getElem_of_mem he
  exact decide_eq_true (h i hi)
set_option maxRecDepth 100000 in
set_option maxHeartbeats 2000000 in
theorem jfew_any (hr : RowE w A l) : Calls Try.prog 12 #[.slice A l.length c] w fun e w' => e = .returned (.bool (fewJ l)) ∧ w' = w := by
  by_cases h30 : 30 < l.length
  · have hf : fewJ l = false := by unfold fewJ; rw [decide_eq_false (by omega)]; rfl
    rw [hf]
    clear hf hr
    go_enter Try.func12, Try.ntmps12
    go_wp2
    go_ret
    exact ⟨rfl, rfl⟩
  · have R := Lib.hid hr
    have H0 : Hid (∀ i (hi : i < l.length), i < 0 → l[i].ls.length ≤ 60) := fun i _ h => by omega
    clear hr
    go_enter Try.func12, Try.ntmps12
    go_wp2
    go_loopw [3] (fun i wr => ∃ k : Nat, k ≤ l.length ∧ i = .int .i64 k ∧ Hid (∀ i (hi : i < l.length), i < k → l[i].ls.length ≤ 60) ∧ w = wr) (fun i _ => l.length - (intOf i).toNat)
    case atStart => exact ⟨0, by omega, rfl, H0, rfl⟩
    case round =>
      clear H0
      obtain ⟨k, hk, rfl, HI, rfl⟩ := hrel
      by_cases hkn : k < l.length
      · obtain ⟨b0, o0, rfl, hb0, hc0⟩ := R.out.get (by omega)
        obtain ⟨e1, e2, e3⟩ := hc0 k hkn
        by_cases h60 : l[k].ls.length ≤ 60
        · have HN := Lib.hid (few_step hkn HI.out h60)
          have hd : decide ((60 : Int) < (l[k].ls.length : Int)) = false := decide_eq_false (by omega)
          clear hc0 HI h60
          generalize l[k].ls.length = m at *
          generalize l[k].A = A' at *
          generalize l[k].c = c' at *
          go_wp2
          go_roundw
          case rel => exact ⟨k + 1, by omega, by go_num, HN, by trivial⟩
          case measure => simp [intOf]; omega
        · have HN := Lib.hid (few_bad hkn h60)
          have hd : decide ((60 : Int) < (l[k].ls.length : Int)) = true := decide_eq_true (by omega)
          clear hc0 HI h60
          generalize l[k].ls.length = m at *
          generalize l[k].A = A' at *
          generalize l[k].c = c' at *
          go_wp2
          go_ret
          exact ⟨by rw [HN.out]; rfl, rfl⟩
      · obtain rfl : k = l.length := by omega
        have HN := Lib.hid (few_ok (by omega) fun i hi => HI.out i hi hi)
        clear HI
        go_wp2
        go_ret
        exact ⟨by rw [HN.out]; rfl, rfl⟩
end
end Go.Proofs.Ythkaohjgldoipaa
