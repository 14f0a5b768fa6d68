/-
  EntityOf: the walk.
-/
import Derived.Test.YthdlcocodamlpaaEAwake
namespace Go.Proofs.Ythdlcocodamlpaa
open Go.RowKit

theorem ofTo_mem (l cs : List Int) (k : Nat) (x : Int) : x ∈ ofTo l cs k ↔ ∃ j : Nat, j < k ∧ x = (j : Int) + 1 ∧ l.getD j 0 ∈ cs := by
  induction k with
  | zero => simp [ofTo]
  | succ k ih =>
    rw [ofTo]
    by_cases h : l.getD k 0 ∈ cs
    · rw [if_pos h, List.mem_append, ih]
      constructor
      · rintro (⟨j, h1, h2, h3⟩ | h1)
        · exact ⟨j, by omega, h2, h3⟩
        · exact ⟨k, by omega, by simpa using h1, h⟩
      · rintro ⟨j, h1, h2, h3⟩
        by_cases e : j = k
        · right
          subst e
          simpa using h2
        · left
          exact ⟨j, by omega, h2, h3⟩
    · rw [if_neg h, ih]
      constructor
      · rintro ⟨j, h1, h2, h3⟩
        exact ⟨j, by omega, h2, h3⟩
      · rintro ⟨j, h1, h2, h3⟩
        refine ⟨j, ?_, h2, h3⟩
        by_cases e : j = k
        · subst e
          exact absurd h3 h
        · omega
theorem ofTo_pair (l cs : List Int) (k : Nat) : (ofTo l cs k).Pairwise (· < ·) := by
  induction k with
  | zero => simp [ofTo]
  | succ k ih =>
    rw [ofTo]
    split
    · rw [List.pairwise_append]
      refine ⟨ih, by simp, fun a ha b hb => ?_⟩
      obtain ⟨j, h1, rfl, _⟩ := (ofTo_mem l cs k a).1 ha
      have : b = (k : Int) + 1 := by simpa using hb
      omega
    · exact ih
theorem ofTo_rise {l cs : List Int} {k i : Nat} (h0 : 0 < i) (h : i < (ofTo l cs k).length) : (ofTo l cs k)[i - 1] < (ofTo l cs k)[i] :=
  List.pairwise_iff_getElem.1 (ofTo_pair l cs k) (i - 1) i (by omega) h (by omega)
theorem ofTo_in {l cs : List Int} {k i : Nat} (h : i < (ofTo l cs k).length) : 1 ≤ (ofTo l cs k)[i] ∧ (ofTo l cs k)[i] ≤ k := by
  obtain ⟨j, h1, h2, _⟩ := (ofTo_mem l cs k _).1 (List.getElem_mem h)
  rw [h2]
  omega
theorem ofTo_has {l : List Int} {cur : Int} {k : Nat} (hk : k < l.length) : decide ((k : Int) + 1 ∈ ofTo l [cur] l.length) = (l[k] == cur) := by
  rw [Bool.eq_iff_iff, decide_eq_true_iff, beq_iff_eq, ofTo_mem]
  constructor
  · rintro ⟨j, h1, h2, h3⟩
    obtain rfl : j = k := by omega
    simpa [hk] using h3
  · intro h
    exact ⟨k, hk, rfl, by simp [hk, h]⟩

set_option maxRecDepth 100000 in
set_option maxHeartbeats 4000000 in
theorem of_law (A : Option Addr) (cap : Nat) (l : List Int) (cur : Int) (w : World) (hr : RowAt w A (ivals l)) (hm1 : l.length ≤ 9223372036854775807) :
    Calls Try.prog 5 #[.slice A l.length cap, .int .i64 cur] w fun e w' => e = .returned (.bool true) ∧ Below w.heap.size w w' := by
  have W := Lib.hid fun w => awake_any w
  by_cases h1 : 200 < l.length
  · clear hr
    go_enter Try.func5, Try.ntmps5
    go_wp2_with fail
    refine (W.out _).mono ?_
    rintro e w1 ⟨rfl, b1⟩
    go_wp2
    go_ret
    exact ⟨rfl, b1⟩
  have O1 := Lib.hid fun w A' (h : RowAt w A (ivals l)) (h' : RowAt w A' (ivals [cur])) => of_any (c := cap) (c' := 1) (by omega : l.length ≤ 1000000) (by simp) h h'
  unfold NewRow at O1
  have hol := ofTo_len l [cur] l.length
  obtain ⟨os, hos⟩ : ∃ os, ofTo l [cur] l.length = os := ⟨_, rfl⟩
  rw [hos] at O1 hol
  have HR : Hid (∀ (i : Nat) (_ : 0 < i) (h : i < os.length), os[i - 1] < os[i]) := by subst hos; exact fun i h0 h => ofTo_rise h0 h
  have HI : Hid (∀ (i : Nat) (h : i < os.length), 1 ≤ os[i] ∧ os[i] ≤ l.length) := by subst hos; exact fun i h => ofTo_in h
  have HH : Hid (∀ (k : Nat) (hk : k < l.length), decide ((k : Int) + 1 ∈ os) = (l[k] == cur)) := by subst hos; exact fun k hk => ofTo_has hk
  clear hos
  have CU := Lib.hid fun n w (h : RowAt w A (ivals l)) => cur_any (c := cap) (n := n) (by omega : l.length ≤ 1000000) h
  go_enter Try.func5, Try.ntmps5
  go_wp2_with fail
  refine (O1.out _ _ (hr.alloc _) (RowAt.lit (w := w) (t := 3) [cur] #[.int .i64 cur] rfl)).mono ?_
  rintro e w1 ⟨A1, c1, rfl, _, _, own1, b1⟩
  have r1 := (hr.alloc _).below b1 (Nat.le_refl _)
  have o1 := RowAt.of_own own1
  have B1 := below_up b1
  clear own1 b1 hr O1
  have HA := Lib.hid fun n w (h : RowAt w A1 (ivals os)) => has_any (c := c1) (n := n) (by unfold maxLen; omega : os.length ≤ maxLen) h
  have R1 := Lib.hid r1
  have Q1 := Lib.hid o1
  clear r1 o1
  go_wp2
  go_loopw [6] (fun i wr => ∃ k m : Nat, k ≤ os.length ∧ i = .int .i64 k ∧ wr = w1.drewN m) (fun i _ => os.length - (intOf i).toNat)
  case atStart => exact ⟨0, 0, by omega, rfl, rfl⟩
  case round =>
    obtain ⟨k, m, hk, rfl, rfl⟩ := hrel
    by_cases hkn : k < os.length
    · by_cases h0 : 0 < k
      · obtain ⟨b, off, rfl, _, hc⟩ := Q1.out.iget (by omega)
        have c0 := hc k hkn
        have c1 := hc (k - 1) (by omega)
        have hlt := HR.out k h0 hkn
        have g0 : decide ((0 : Int) < (k : Int)) = true := decide_eq_true (by omega)
        have hle : decide (os[k] ≤ os[k - 1]) = false := decide_eq_false (by omega)
        have e1 : ((k : Int) - 1).toNat = k - 1 := by omega
        have e2 : IntKind.i64.wrap ((k : Int) - 1) = (k : Int) - 1 := IntWalk.i64_in _ (by omega)
        have e3 : (0 : Int) ≤ (k : Int) - 1 := by omega
        have e4 : (k : Int) - 1 < (os.length : Int) := by omega
        have e5 : (k : Int) < (os.length : Int) := by omega
        clear hc
        generalize os[k] = x at *
        generalize os[k - 1] = y at *
        go_wp2
        go_quiet (fail)
        clear e1 e2 c0 c1
        go_wp2
        go_roundw
        case rel => exact ⟨k + 1, _, by omega, by go_num, rfl⟩
        case measure => simp [intOf]; omega
      · obtain rfl : k = 0 := by omega
        have g0 : decide ((0 : Int) < ((0 : Nat) : Int)) = false := rfl
        go_wp2
        go_quiet (fail)
        go_wp2
        go_roundw
        case rel => exact ⟨1, _, by omega, by go_num, rfl⟩
        case measure => simp [intOf]; omega
    · obtain rfl : k = os.length := by omega
      obtain ⟨W2, hW2⟩ : ∃ W2, W2 = w1.drewN m := ⟨_, rfl⟩
      have R2 : Hid (RowAt W2 A (ivals l)) := by rw [hW2]; exact R1.out.drewN m
      have Q2 : Hid (RowAt W2 A1 (ivals os)) := by rw [hW2]; exact Q1.out.drewN m
      have B2 : Below w.heap.size w W2 := by rw [hW2]; exact below_drewN B1 m
      rewrite [← hW2]
      clear hW2 R1 Q1 B1
      go_wp2
      go_loop [7] (fun i => ∃ k : Nat, k ≤ l.length ∧ i = .int .i64 (k + 1)) (fun i => l.length + 1 - (intOf i).toNat)
      case atStart => exact ⟨0, by omega, rfl⟩
      case round =>
        obtain ⟨k, hk, rfl⟩ := hrel
        by_cases hkn : k < l.length
        · have hcu : curI l ((k : Int) + 1) = (l[k], 0) := by
            unfold curI
            rw [if_neg (by omega), show ((k : Int) + 1 - 1).toNat = k by omega]
            simp [hkn]
          have C1 := Lib.hid (CU.out ((k : Int) + 1))
          have H1 := Lib.hid (HA.out ((k : Int) + 1))
          rw [hcu] at C1
          rw [HH.out k hkn] at H1
          clear hcu
          generalize l[k] = x at *
          obtain ⟨q, hq⟩ : ∃ q, (x == cur) = q := ⟨_, rfl⟩
          rw [hq] at H1
          go_wp2_with fail
          refine (C1.out _ R2.out).mono ?_
          rintro e _ ⟨rfl, rfl⟩
          go_wp2_with fail
          refine (H1.out _ Q2.out).mono ?_
          rintro e _ ⟨rfl, rfl⟩
          go_wp2
          go_round
          case rel => exact ⟨k + 1, by omega, by go_num⟩
          case measure => simp [intOf]; omega
        · obtain rfl : k = l.length := by omega
          by_cases h0 : 0 < os.length
          · obtain ⟨b, off, rfl, _, hc⟩ := Q2.out.iget (by omega)
            have c0 : W2.cell? ⟨b, off, none⟩ = some (.int .i64 os[0]) := hc 0 h0
            have c1 := hc (os.length - 1) (by omega)
            have i0 := HI.out 0 h0
            have i1 := HI.out (os.length - 1) (by omega)
            have g0 : ((os.length : Int) == 0) = false := by rw [beq_eq_false_iff_ne]; omega
            have g1 : decide (1 ≤ os[0]) = true := decide_eq_true i0.1
            have g2 : decide (os[os.length - 1] ≤ (l.length : Int)) = true := decide_eq_true i1.2
            clear hc HI HR
            generalize os[0] = x at *
            generalize os[os.length - 1] = y at *
            go_wp2_with fail
            refine (W.out _).mono ?_
            rintro e w7 ⟨rfl, b7⟩
            go_wp2
            go_ret
            exact ⟨rfl, B2.trans (b7.mono B2.size)⟩
          · obtain h00 : os.length = 0 := by omega
            have g0 : ((os.length : Int) == 0) = true := by rw [beq_iff_eq]; omega
            clear HI HR HH
            go_wp2_with fail
            refine (W.out _).mono ?_
            rintro e w7 ⟨rfl, b7⟩
            go_wp2
            go_ret
            exact ⟨rfl, B2.trans (b7.mono B2.size)⟩
end Go.Proofs.Ythdlcocodamlpaa
