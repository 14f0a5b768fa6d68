/-
  bits: sets in memory; is, why, New, Has.
-/
import Derived.Test.YtgilmpakdohijaaDoorBi1
import Derived.Test.YtgilmpakdohijaaDoorBiS
namespace Go.Proofs.YtgilmpakdohijaaDoor
open Go.RowKit

def wv (ws : List Nat) : List Value := ws.map fun x : Nat => Value.int .u64 (x : Int)
theorem wv_len (ws : List Nat) : (wv ws).length = ws.length := by simp [wv]
theorem wv_get (ws : List Nat) (k : Nat) (h : k < ws.length) : (wv ws)[k]? = some (.int .u64 (ws[k] : Int)) := by simp [wv, h]
theorem wv_one (ws : List Nat) : ∀ u ∈ wv ws, u.oneCell' = true := by
  intro u hu
  obtain ⟨x, _, rfl⟩ := List.mem_map.1 hu
  rfl
/-- A set: its box, and the words of its own. -/
structure SetB (w : World) (base g : Nat) (A : Option Addr) (c : Nat) (ws : List Nat) : Prop where
  box : Box w g 51 #[.slice A ws.length c, .bool true]
  own : w.ownsRow base 52 1 (.slice A ws.length c) ws.length (wv ws)
  wf : WfW ws
/-- Is a number in a set? -/
def hasW (ws : List Nat) (n : Int) : Bool := decide (0 ≤ n) && bitW ws n.toNat
theorem hasW_iff {ws : List Nat} {n : Int} : hasW ws n = true ↔ n ∈ allW ws := by
  unfold hasW
  rw [Bool.and_eq_true, decide_eq_true_iff, mem_allW]
def whyW (n : Int) : Int := if n < 0 ∨ 65536 ≤ n then 2 else 0
theorem pow_cast (k : Nat) : (2 : Int) ^ k = ((2 ^ k : Nat) : Int) := by simp
theorem bit_eq {x k : Nat} (hx : x < 18446744073709551616) : (bits .and .u64 ((x : Int) / 2 ^ k) 1 == 1) = x.testBit k := by
  have h1 : (x : Int) / 2 ^ k = ((x / 2 ^ k : Nat) : Int) := by rw [pow_cast]; rfl
  have h2 : x / 2 ^ k ≤ x := Nat.div_le_self _ _
  rw [h1, show (1 : Int) = ((1 : Nat) : Int) from rfl, bits_and_u64_nat _ 1 (by omega) (by decide), Nat.and_one_is_mod, Nat.testBit_eq_decide_div_mod_eq]
  by_cases h : x / 2 ^ k % 2 = 1
  · rw [h]; simp
  · rw [show x / 2 ^ k % 2 = 0 by omega]; simp
section
variable {w : World} {g : Nat}
set_option maxHeartbeats 1000000 in
theorem bis_any {a : Value} (h : Box w g 51 #[a, .bool true]) : Calls Tryd.prog 27 #[.pointer (some ⟨g, 0, none⟩)] w fun e w' => e = .returned (.bool true) ∧ w = w' := by
  have k := h.cells
  have l := h.lt
  clear h
  go_enter Tryd.func27, Tryd.ntmps27
  go_wp2
  go_ret
  exact ⟨rfl, rfl⟩
set_option maxHeartbeats 1000000 in
theorem bis_nil (w : World) : Calls Tryd.prog 27 #[.pointer none] w fun e w' => e = .returned (.bool false) ∧ w = w' := by
  go_enter Tryd.func27, Tryd.ntmps27
  go_wp2
  go_ret
  exact ⟨rfl, rfl⟩
set_option maxHeartbeats 1000000 in
theorem bwhy_any {a : Value} (n : Int) (h : Box w g 51 #[a, .bool true]) : Calls Tryd.prog 25 #[.pointer (some ⟨g, 0, none⟩), .int .i64 n] w fun e w' => e = .returned (.int .i64 (whyW n)) ∧ w = w' := by
  have IS := Lib.hid (bis_any h)
  clear h
  by_cases h1 : n < 0
  · rw [show whyW n = 2 from if_pos (.inl h1)]
    have hd : decide (n < 0) = true := decide_eq_true h1
    clear h1
    go_enter Tryd.func25, Tryd.ntmps25
    go_wp2_with fail
    refine IS.out.mono ?_
    rintro e _ ⟨rfl, rfl⟩
    go_wp2
    go_ret
    exact ⟨rfl, rfl⟩
  · have hd : decide (n < 0) = false := decide_eq_false h1
    by_cases h2 : 65536 ≤ n
    · rw [show whyW n = 2 from if_pos (.inr h2)]
      go_enter Tryd.func25, Tryd.ntmps25
      go_wp2_with fail
      refine IS.out.mono ?_
      rintro e _ ⟨rfl, rfl⟩
      go_wp2
      go_ret
      exact ⟨rfl, rfl⟩
    · rw [show whyW n = 0 from if_neg (by omega)]
      have hd2 : decide (65536 ≤ n) = false := decide_eq_false h2
      go_enter Tryd.func25, Tryd.ntmps25
      go_wp2_with fail
      refine IS.out.mono ?_
      rintro e _ ⟨rfl, rfl⟩
      go_wp2
      go_ret
      exact ⟨rfl, rfl⟩
set_option maxHeartbeats 1000000 in
theorem bwhy_nil (n : Int) (w : World) : Calls Tryd.prog 25 #[.pointer none, .int .i64 n] w fun e w' => e = .returned (.int .i64 1) ∧ w = w' := by
  have IS := Lib.hid fun w => bis_nil w
  go_enter Tryd.func25, Tryd.ntmps25
  go_wp2_with fail
  refine (IS.out _).mono ?_
  rintro e _ ⟨rfl, rfl⟩
  go_wp2
  go_ret
  exact ⟨rfl, rfl⟩
set_option maxHeartbeats 1000000 in
theorem bnew_any (w : World) : Calls Tryd.prog 18 #[] w fun e w' => e = .returned (.pointer (some ⟨w.heap.size, 0, none⟩)) ∧ w' = w.alloc (.cells #[.slice none 0 0, .bool true] 51) := by
  go_enter Tryd.func18, Tryd.ntmps18
  go_wp2
  go_ret
  exact ⟨rfl, rfl⟩
set_option maxRecDepth 100000 in
set_option maxHeartbeats 2000000 in
theorem bhas_any {base c : Nat} {A : Option Addr} {ws : List Nat} (n : Int) (h : SetB w base g A c ws) : Calls Tryd.prog 15 #[.pointer (some ⟨g, 0, none⟩), .int .i64 n] w fun e w' => e = .returned (.bool (hasW ws n)) ∧ w = w' := by
  have WY := bwhy_any n h.box
  have k := h.box.cells
  have l := h.box.lt
  have hlen := h.wf.len
  by_cases hin : n < 0 ∨ 65536 ≤ n
  · have hf : hasW ws n = false := by
      cases hh : hasW ws n
      · rfl
      · unfold hasW bitW at hh
        rw [Bool.and_eq_true, decide_eq_true_iff, List.getD_eq_getElem?_getD] at hh
        rw [List.getElem?_eq_none (by omega)] at hh
        simp at hh
    rw [show whyW n = 2 from if_pos hin] at WY
    replace WY := Lib.hid WY
    rw [hf]
    clear hin hf h k l
    go_enter Tryd.func15, Tryd.ntmps15
    go_wp2_with fail
    refine WY.out.mono ?_
    rintro e _ ⟨rfl, rfl⟩
    go_wp2
    go_ret
    exact ⟨rfl, rfl⟩
  · rw [show whyW n = 0 from if_neg hin] at WY
    replace WY := Lib.hid WY
    obtain ⟨m, rfl⟩ : ∃ m : Nat, n = (m : Int) := ⟨n.toNat, by omega⟩
    have hb : hasW ws (m : Int) = bitW ws m := by unfold hasW; rw [decide_eq_true (by omega), Bool.true_and]; rfl
    rw [hb]
    by_cases hl : m / 64 < ws.length
    · have hbw : bitW ws m = ws[m / 64].testBit (m % 64) := by
        unfold bitW
        rw [List.getD_eq_getElem?_getD, List.getElem?_eq_getElem hl]; rfl
      rw [hbw]
      obtain ⟨A', c', hv, hf⟩ := own_form h.own
      obtain ⟨g2, hA, hg1, hg2⟩ := hf (by omega)
      injection hv with hv1 _ hv3
      subst hv1 hv3 hA
      have hcl : w.cell? ⟨g2, m / 64, none⟩ = some (.int .u64 (ws[m / 64] : Int)) := by
        rw [h.own.cellAt (m / 64) (by omega)]; exact wv_get ws _ hl
      have hx := h.wf.lt ws[m / 64] (List.getElem_mem hl)
      have hli : ((m : Int) / 64) < (ws.length : Int) := by omega
      clear hb hbw h
      generalize ws[m / 64] = x at *
      go_enter Tryd.func15, Tryd.ntmps15
      go_wp2_with fail
      refine WY.out.mono ?_
      rintro e _ ⟨rfl, rfl⟩
      go_wp2
      go_ret
      exact ⟨by rw [← bit_eq hx]; rfl, rfl⟩
    · have hbw : bitW ws m = false := by
        unfold bitW
        rw [List.getD_eq_getElem?_getD, List.getElem?_eq_none (by omega)]
        simp
      rw [hbw]
      have hli : decide (((m : Int) / 64) < (ws.length : Int)) = false := decide_eq_false (by omega)
      clear hb hbw h
      go_enter Tryd.func15, Tryd.ntmps15
      go_wp2_with fail
      refine WY.out.mono ?_
      rintro e _ ⟨rfl, rfl⟩
      go_wp2
      go_ret
      exact ⟨rfl, rfl⟩
end
end Go.Proofs.YtgilmpakdohijaaDoor
