/-
  bits: filled, do.
-/
import Derived.Test.YtgilmpakdohijaaDoorBi9
namespace Go.Proofs.YtgilmpakdohijaaDoor
open Go.RowKit

/-- The numbers of a list, put in one by one. -/
def fillF (l : List Int) : List Int := l.foldl putL []
section
variable {A : Option Addr} {c : Nat} {l : List Int} {w : World}
set_option maxRecDepth 100000 in
set_option maxHeartbeats 2000000 in
theorem bfilled_any (hm : l.length ≤ maxLen) (hr : RowAt w A (ivals l)) : Calls Tryd.prog 6 #[.slice A l.length c] w fun e W => ∃ A' c' ws, e = .returned (.pointer (some ⟨w.heap.size, 0, none⟩)) ∧ SetB W w.heap.size w.heap.size A' c' ws ∧ allW ws = fillF l ∧ Below w.heap.size w W := by
  unfold maxLen at hm
  have NW := Lib.hid fun (w : World) => bnew_any w
  have HR := Lib.hid hr
  clear hr
  go_enter Tryd.func6, Tryd.ntmps6
  go_wp2_with fail
  refine (NW.out _).mono ?_
  rintro e _ ⟨rfl, rfl⟩
  go_wp2
  have hS0 : SetB (w.alloc (.cells #[.slice none 0 0, .bool true] 51)) w.heap.size w.heap.size none 0 [] := ⟨Box.new w _ _, World.ownsRow_nil _ _ _ _, ⟨by decide, by simp⟩⟩
  have hB0 : Below w.heap.size w (w.alloc (.cells #[.slice none 0 0, .bool true] 51)) := (Below.refl _ w).alloc (Nat.le_refl _) _
  go_loopw [4] (fun i wr => ∃ (k : Nat) (A' : Option Addr) (c' : Nat) (ws : List Nat), k ≤ l.length ∧ i = .int .i64 k ∧ SetB wr w.heap.size w.heap.size A' c' ws ∧ allW ws = fillF (l.take k) ∧ Below w.heap.size w wr) (fun i _ => l.length - (intOf i).toNat)
  case atStart => exact ⟨0, none, 0, [], by omega, rfl, hS0, rfl, hB0⟩
  case round =>
    clear hS0 hB0
    obtain ⟨k, A', c', ws, hk, rfl, hS, hall, hB⟩ := hrel
    by_cases hkn : k < l.length
    · obtain ⟨g0, o0, rfl, hg0, hc0⟩ := (HR.out.below hB (Nat.le_refl _)) (by rw [ivals_len]; omega)
      have hcl : wr.cell? ⟨g0, o0 + k, none⟩ = some (.int .i64 l[k]) := hc0 k _ (by simp [ivals, hkn])
      have hst : Hid (fillF (l.take (k + 1)) = putL (fillF (l.take k)) l[k]) := by
        show _ = _
        unfold fillF
        rw [List.take_succ_eq_append_getElem hkn, List.foldl_append]; rfl
      have PU := Lib.hid (bput_any l[k] hB.size hS)
      have hall2 := putL_all ws l[k]
      rw [hall] at hall2
      have hsz := hB.size
      clear hc0
      generalize l[k] = x at *
      go_wp2_with fail
      refine PU.out.mono ?_
      rintro e W2 ⟨A2, c2, he, hS2, hC2, hM2⟩
      obtain ⟨k9, hk9⟩ : ∃ k9 : Int, e = .returned (.int .i64 k9) := ⟨_, he⟩
      subst hk9
      have hB2 := hB.trans (hC2.below (Nat.le_refl _) (fun b hb => (hS.row_lt hb).1) hB.size)
      generalize (if x < 0 ∨ 65536 ≤ x then ws else if hasW ws x = true then ws else putW ws x.toNat) = ws2 at hS2 hall2
      clear he hC2 hM2 PU hS hB
      go_wp2
      go_roundw
      case rel => exact ⟨k + 1, A2, c2, ws2, by omega, by go_num, hS2, by rw [hst.out]; exact hall2, hB2⟩
      case measure => simp [intOf]; omega
    · obtain rfl : k = l.length := by omega
      rw [List.take_length] at hall
      go_wp2
      go_ret
      exact ⟨A', c', ws, rfl, hS, hall, hB⟩
theorem Chg.pre {w W1 W : World} {g : Nat} {R : Option Nat} (hb : Below w.heap.size w W1) (h : Chg W1 W g R) : Chg w W g R :=
  ⟨h.os.trans hb.os, h.tape.trans hb.tape, h.output.trans hb.output, Nat.le_trans hb.size h.size, fun b hlt h1 h2 => (h.block b (Nat.lt_of_lt_of_le hlt hb.size) h1 h2).trans (hb.block b hlt)⟩
theorem Moved.pre {w W1 : World} {R R' : Option Nat} (hb : Below w.heap.size w W1) (h : Moved W1 R R') : Moved w R R' := by
  rcases h with h | ⟨b, h1, h2⟩
  · exact .inl h
  · exact .inr ⟨b, h1, Nat.le_trans hb.size h2⟩
/-- What a call does to the numbers; what it tells. -/
def doL (l : List Int) (k n : Int) : List Int := if k = 0 then putL l n else if k = 1 then l.filter (fun y => !decide (y = n)) else []
def doE (l : List Int) (k n : Int) : Int := if k = 0 then (if n < 0 ∨ 65536 ≤ n then 2 else if n ∈ l then 35 else 0) else if k = 1 then (if n < 0 ∨ 65536 ≤ n then 2 else if n ∈ l then 0 else 35) else 0
theorem hasW_ite {α : Type} (ws : List Nat) (n : Int) (a b : α) : (if hasW ws n = true then a else b) = if n ∈ allW ws then a else b := by
  by_cases h : hasW ws n = true
  · rw [if_pos h, if_pos (hasW_iff.1 h)]
  · rw [if_neg h, if_neg (fun hm => h (hasW_iff.2 hm))]
def DoP (w : World) (base g : Nat) (A : Option Addr) (r : Int) (L : List Int) (e : Ending) (W : World) : Prop :=
  ∃ A' c' ws', e = .returned (.int .i64 r) ∧ SetB W base g A' c' ws' ∧ allW ws' = L ∧ Chg w W g (oB A) ∧ Moved w (oB A) (oB A')
set_option maxRecDepth 100000 in
set_option maxHeartbeats 2000000 in
theorem bdo_any {base g c : Nat} {ws : List Nat} (k n : Int) (hbase : base ≤ w.heap.size) (h : SetB w base g A c ws) : Calls Tryd.prog 19 #[.pointer (some ⟨g, 0, none⟩), .agg #[.int .i64 k, .int .i64 n]] w (DoP w base g A (doE (allW ws) k n) (doL (allW ws) k n)) := by
  obtain ⟨o, ho⟩ : ∃ o : Obj, o = .cells #[.int .i64 k, .int .i64 n] 39 := ⟨_, rfl⟩
  have hB1 : Below w.heap.size w (w.alloc o) := (Below.refl _ w).alloc (Nat.le_refl _) _
  have PU := Lib.hid (bput_any n (Nat.le_trans hbase hB1.size) (h.later hB1))
  have DR := Lib.hid (bdrop_any n (h.later hB1))
  have CLR := Lib.hid (bclear_any (h.later hB1))
  subst ho
  have hp := Lib.hid (putL_all ws n)
  have hd := Lib.hid (dropL_all h.wf n)
  by_cases h0 : k = 0
  · subst h0
    unfold doE doL
    rw [if_pos rfl, if_pos rfl]
    obtain ⟨r, hr⟩ : ∃ r : Int, (if n < 0 ∨ 65536 ≤ n then (2 : Int) else if n ∈ allW ws then 35 else 0) = r := ⟨_, rfl⟩
    rw [hr]
    replace hr := Lib.hid hr
    clear DR CLR hd
    go_enter Tryd.func19, Tryd.ntmps19
    go_wp2_with fail
    refine PU.out.mono ?_
    rintro e W2 ⟨A2, c2, he, hS2, hC2, hM2⟩
    rw [hasW_ite, hr.out] at he
    subst he
    clear PU
    go_wp2
    go_ret
    exact ⟨A2, c2, _, rfl, hS2, hp.out, hC2.pre hB1, hM2.pre hB1⟩
  · have k0 : (k == 0) = false := by simpa using h0
    by_cases h1 : k = 1
    · subst h1
      unfold doE doL
      rw [if_neg h0, if_neg h0, if_pos rfl, if_pos rfl]
      obtain ⟨r, hr⟩ : ∃ r : Int, (if n < 0 ∨ 65536 ≤ n then (2 : Int) else if n ∈ allW ws then 0 else 35) = r := ⟨_, rfl⟩
      rw [hr]
      replace hr := Lib.hid hr
      clear PU CLR hp
      go_enter Tryd.func19, Tryd.ntmps19
      go_wp2_with fail
      refine DR.out.mono ?_
      rintro e W2 ⟨he, hS2, hC2⟩
      rw [hasW_ite, hr.out] at he
      subst he
      clear DR
      go_wp2
      go_ret
      exact ⟨A, c, _, rfl, hS2, hd.out, hC2.pre hB1, .inl rfl⟩
    · have k1 : (k == 1) = false := by simpa using h1
      unfold doE doL
      rw [if_neg h0, if_neg h0, if_neg h1, if_neg h1]
      clear PU DR hp hd
      go_enter Tryd.func19, Tryd.ntmps19
      go_wp2_with fail
      refine CLR.out.mono ?_
      rintro e W2 ⟨rfl, hS2, hC2⟩
      clear CLR
      go_wp2
      go_ret
      exact ⟨A, c, _, rfl, hS2, allW_zero ws, hC2.pre hB1, .inl rfl⟩
end
end Go.Proofs.YtgilmpakdohijaaDoor
