/-
  The walk of InternCuts: true for every two lists of strings and every number; no further condition.
-/
import Derived.Test.YtgmbbhfcpllgoaaInStr
import Derived.Test.YtgmbbhfcpllgoaaInAwake
namespace Go.Proofs.Ytgmbbhfcpllgoaa
open Go.RowKit Go.Maps

theorem ba_beq (a b : ByteArray) : (a == b) = (a.data == b.data) := by
  cases a; cases b; rfl
instance : LawfulBEq ByteArray where
  eq_of_beq := by
    intro a b h
    rw [ba_beq] at h
    exact ByteArray.ext (eq_of_beq h)
  rfl := by
    intro a
    rw [ba_beq]
    exact beq_self_eq_true _
instance : DecidableEq ByteArray := fun a b => if h : a.data = b.data then isTrue (ByteArray.ext h) else isFalse (fun e => h (by rw [e]))

/-- A key's number, and the keys with it. -/
def seatK (xs : List ByteArray) (k : ByteArray) : Nat := if k ∈ xs then xs.idxOf k else xs.length
def addK (xs : List ByteArray) (k : ByteArray) : List ByteArray := if k ∈ xs then xs else xs ++ [k]

theorem addK_len (xs : List ByteArray) (k : ByteArray) : (addK xs k).length ≤ xs.length + 1 := by
  unfold addK
  split <;> simp

theorem addK_ok {xs : List ByteArray} {k : ByteArray} (h : ∀ x ∈ xs, x.size ≤ maxLen) (hk : k.size ≤ maxLen) : ∀ x ∈ addK xs k, x.size ≤ maxLen := by
  unfold addK
  split
  · exact h
  · intro x hx
    rw [List.mem_append, List.mem_singleton] at hx
    rcases hx with h1 | rfl
    · exact h x h1
    · exact hk

theorem idx_getS {l : List ByteArray} {x : ByteArray} (h : x ∈ l) : l[l.idxOf x]? = some x := by
  have h1 := List.idxOf_lt_length_of_mem h
  rw [List.getElem?_eq_getElem h1, List.getElem_idxOf]

/-- What is asked behind the cut is asked of the first n keys alone. -/
theorem addK_take (xs : List ByteArray) (k : ByteArray) (n : Nat) : (addK xs k).take n = if seatK xs k < n then addK (xs.take n) k else xs.take n := by
  unfold addK seatK
  by_cases hk : k ∈ xs
  · rw [if_pos hk, if_pos hk]
    split
    · rename_i h
      rw [if_pos]
      have h1 := idx_getS hk
      refine List.mem_of_getElem? (i := xs.idxOf k) ?_
      rw [List.getElem?_take_of_lt h, h1]
    · rfl
  · rw [if_neg hk, if_neg hk]
    split
    · rename_i h
      rw [List.take_of_length_le (i := n) (l := xs) (by omega), if_neg hk, List.take_of_length_le (by simp; omega)]
    · rw [List.take_append_of_le_length (by omega)]

set_option maxHeartbeats 400000 in
theorem sid_in (w : World) (g m : Nat) (v : Value) (xs : List ByteArray) (h : TS w g m 300 v xs) (k : ByteArray) (hw : k.size ≤ maxLen) (hf : xs.length < 300) :
    Calls Try.prog 18 #[.pointer (some ⟨g, 0, none⟩), .string k] w fun e w' => e = .returned (.tuple #[.int .i64 (seatK xs k), .int .i64 0]) ∧
      ∃ v', TS w' g m 300 v' (addK xs k) ∧ Only (foot g m v) w w' ∧ ∀ b, v'.ownBlock = some b → v.ownBlock = some b ∨ w.heap.size ≤ b := by
  unfold seatK addK
  by_cases hk : k ∈ xs
  · rw [if_pos hk, if_pos hk]
    refine (sid_there w g m 300 v xs h k hw _ (idx_getS hk)).mono ?_
    rintro e w' ⟨rfl, rfl⟩
    exact ⟨rfl, v, h, Only.refl _ _, fun b hb => .inl hb⟩
  · rw [if_neg hk, if_neg hk]
    exact sid_new w g m 300 v xs h k hw hk (by omega) (by omega)

/-- Two tables that share no block, all their blocks new since w0. -/
structure Two (w0 w : World) (g m : Nat) (v : Value) (xs : List ByteArray) (g' m' : Nat) (v' : Value) (ys : List ByteArray) : Prop where
  fst : TS w g m 300 v xs
  snd : TS w g' m' 300 v' ys
  apart : ∀ j ∈ foot g m v, j ∉ foot g' m' v'
  new : ∀ j ∈ foot g m v, w0.heap.size ≤ j
  new' : ∀ j ∈ foot g' m' v', w0.heap.size ≤ j
  bel : Below w0.heap.size w0 w

section
variable {w0 w w' : World} {g m g' m' : Nat} {v v' v1 : Value} {xs ys zs : List ByteArray}

theorem foot_next {j : Nat} (hj : j ∈ foot g m v1) (hv : ∀ b, v1.ownBlock = some b → v.ownBlock = some b ∨ w.heap.size ≤ b) : j ∈ foot g m v ∨ w.heap.size ≤ j := by
  unfold foot at hj ⊢
  rw [List.mem_cons, List.mem_cons, Option.mem_toList] at hj ⊢
  rcases hj with rfl | rfl | hj
  · exact .inl (.inl rfl)
  · exact .inl (.inr (.inl rfl))
  · exact (hv j hj).imp_left fun h => .inr (.inr h)

theorem Two.left (h : Two w0 w g m v xs g' m' v' ys) (h1 : TS w' g m 300 v1 zs) (ho : Only (foot g m v) w w') (hv : ∀ b, v1.ownBlock = some b → v.ownBlock = some b ∨ w.heap.size ≤ b) : Two w0 w' g m v1 zs g' m' v' ys := by
  refine ⟨h1, h.snd.only ho fun k hk hm => h.apart k hm hk, fun j hj hm => ?_, fun j hj => ?_, h.new', h.bel.trans (ho.below h.bel.size h.new)⟩
  · rcases foot_next hj hv with h2 | h2
    · exact h.apart j h2 hm
    · have := h.snd.foot_lt j hm
      omega
  · rcases foot_next hj hv with h2 | h2
    · exact h.new j h2
    · exact Nat.le_trans h.bel.size h2

theorem Two.swap (h : Two w0 w g m v xs g' m' v' ys) : Two w0 w g' m' v' ys g m v xs := ⟨h.snd, h.fst, fun j hj hm => h.apart j hm hj, h.new', h.new, h.bel⟩
theorem Two.right (h : Two w0 w g m v xs g' m' v' ys) (h1 : TS w' g' m' 300 v1 zs) (ho : Only (foot g' m' v') w w') (hv : ∀ b, v1.ownBlock = some b → v'.ownBlock = some b ∨ w.heap.size ≤ b) : Two w0 w' g m v xs g' m' v1 zs :=
  (h.swap.left h1 ho hv).swap
end

set_option maxRecDepth 100000 in
set_option maxHeartbeats 4000000 in
theorem cuts_main (A A' : Option Addr) (cap cap' : Nat) (l l' : List ByteArray) (n : Int) (w : World) (hl : l.length ≤ 100) (hl' : l'.length ≤ 100) (hr : RowAt w A (svals l)) (hr' : RowAt w A' (svals l')) (hw : ∀ x ∈ l, x.size ≤ maxLen) (hw' : ∀ x ∈ l', x.size ≤ maxLen) :
    Calls Try.prog 5 #[.slice A l.length cap, .slice A' l'.length cap', .int .i64 n] w fun e w' => e = .returned (.bool true) ∧ Below w.heap.size w w' := by
  go_enter Try.func5, Try.ntmps5
  go_wp2_with fail
  refine (snew_yes w 300 (by omega) (by omega)).mono ?_
  rintro e w1 ⟨g, m, rfl, hT, hb, hg, hm⟩
  have hlt := hT.lt
  go_wp2_with fail
  refine (snew_yes w1 300 (by omega) (by omega)).mono ?_
  rintro e w2 ⟨g', m', rfl, hT', hb', hg', hm'⟩
  have hs1 := hb.size
  have H : Two w w2 g m (.slice none 0 0) [] g' m' (.slice none 0 0) [] := by
    refine ⟨hT.below hb' (Nat.le_refl _), hT', fun j hj hm => ?_, fun j hj => ?_, fun j hj => ?_, hb.trans (hb'.mono hs1)⟩
    all_goals simp only [foot, Value.ownBlock, Option.toList, List.mem_cons, List.not_mem_nil, or_false] at *
    all_goals omega
  clear hT hT' hb hb' hg hm hg' hm' hlt hs1 w1
  go_wp2_with fail
  go_loopw [11] (fun i wr => ∃ (k : Nat) (v v' : Value) (xs : List ByteArray), k ≤ l.length ∧ i = .int .i64 k ∧ xs.length ≤ k ∧ (∀ x ∈ xs, x.size ≤ maxLen) ∧ Two w wr g m v xs g' m' v' (xs.take n.toNat)) (fun i _ => l.length - (intOf i).toNat)
  case atStart => exact ⟨0, _, _, [], by omega, rfl, by simp, by simp, by simpa using H⟩
  case round =>
    clear H
    obtain ⟨k, v, v', xs, hk, rfl, hxl, hxs, H⟩ := hrel
    by_cases hkl : k < l.length
    · obtain ⟨b, off, rfl, hbl, hcell⟩ := hr (by simpa [svals] using Nat.lt_of_le_of_lt (Nat.zero_le _) hkl)
      have y0 := hcell k _ (svals_get l k hkl)
      have y1 : wr.cell? ⟨b, off + k, none⟩ = some (.string l[k]) := (H.bel.cell (by exact hbl)).trans y0
      have hx := hw l[k] (List.getElem_mem _)
      clear hcell y0
      generalize l[k] = x at *
      go_wp2_with fail
      refine (sid_in _ g m v xs H.fst x hx (by omega)).mono ?_
      rintro e w3 ⟨rfl, v1, hT, ho, hv⟩
      have H1 := H.left hT ho hv
      have y2 : w3.cell? ⟨b, off + k, none⟩ = some (.string x) := ho.cell (fun h => by have := H.new _ h; simp at this; omega) y1
      have hz := addK_len xs x
      have hzs := addK_ok hxs hx
      have ht := addK_take xs x n.toNat
      clear H hT ho hv y1
      by_cases hs : seatK xs x < n.toNat
      · rw [if_pos hs] at ht
        have hs1 : (seatK xs x : Int) < n := by omega
        go_wp2_with fail
        refine (sid_in _ g' m' v' (xs.take n.toNat) H1.snd x hx (by rw [List.length_take]; omega)).mono ?_
        rintro e w4 ⟨rfl, v2, hT, ho, hv⟩
        have H2 := H1.right hT ho hv
        clear H1 hT ho hv y2
        go_wp2_with fail
        go_roundw
        case rel => exact ⟨k + 1, v1, v2, addK xs x, by omega, by go_num, by omega, hzs, by rw [ht]; exact H2⟩
        case measure => simp [intOf]; omega
      · rw [if_neg hs] at ht
        have hs1 : ¬ (seatK xs x : Int) < n := by omega
        clear y2
        go_wp2_with fail
        go_roundw
        case rel => exact ⟨k + 1, v1, v', addK xs x, by omega, by go_num, by omega, hzs, by rw [ht]; exact H1⟩
        case measure => simp [intOf]; omega
    · obtain rfl : k = l.length := by omega
      go_wp2_with fail
      refine (scut_yes _ g m 300 v xs H.fst hxs n (by omega)).mono ?_
      rintro e w3 ⟨rfl, v1, hT, ho, hv⟩
      have H1 := H.left hT ho (fun b hb => .inl (by rw [← hv]; exact hb))
      have hcl : (xs.take n.toNat).length ≤ 100 := by rw [List.length_take]; omega
      have hcn : n < 0 → (xs.take n.toNat).length = 0 := fun h => by rw [Int.toNat_eq_zero.2 (by omega)]; rfl
      have hcs : ∀ x ∈ xs.take n.toNat, x.size ≤ maxLen := fun x hx => hxs x (List.mem_of_mem_take hx)
      clear H hT ho hv hxl hxs
      generalize xs.take n.toNat = ys at *
      clear xs hk hkl hw hr
      have L1 := Lib.hid fun ys (h : Two w w3 g m v1 ys g' m' v' ys) => slen_yes w3 g m 300 v1 ys h.fst
      have L2 := Lib.hid fun ys (h : Two w w3 g m v1 ys g' m' v' ys) => slen_yes w3 g' m' 300 v' ys h.snd
      go_upto_region 12 with fail
      go_cut [92] from 79 to 92 (fun s92 w' => s92 = .bool false ∧ w' = w3)
      case first =>
        by_cases hn : n < 0
        · obtain rfl : ys = [] := List.eq_nil_of_length_eq_zero (hcn hn)
          go_wp2_with (first
            | (go_at_call_of 20 (Value.pointer (some ⟨g, 0, none⟩)); refine (L1.out _ H1).mono ?_; rintro e w' ⟨rfl, rfl⟩)
            | (go_at_call_of 20 (Value.pointer (some ⟨g', 0, none⟩)); refine (L2.out _ H1).mono ?_; rintro e w' ⟨rfl, rfl⟩)
            | go_in)
          go_meet
          exact ⟨rfl, rfl⟩
        · go_wp2_with (first
            | (go_at_call_of 20 (Value.pointer (some ⟨g, 0, none⟩)); refine (L1.out _ H1).mono ?_; rintro e w' ⟨rfl, rfl⟩)
            | (go_at_call_of 20 (Value.pointer (some ⟨g', 0, none⟩)); refine (L2.out _ H1).mono ?_; rintro e w' ⟨rfl, rfl⟩)
            | go_in)
          go_meet
          exact ⟨rfl, rfl⟩
      case rest =>
        obtain ⟨rfl, rfl⟩ := hcut
        clear L1 L2 hcn
        go_wp2_with fail
        have H0 := Lib.hid H1
        clear H1
        go_loopw [14] (fun i wr => ∃ (k : Nat) (u u' : Value) (zs : List ByteArray), k ≤ l'.length ∧ i = .int .i64 k ∧ zs.length ≤ 100 + k ∧ (∀ x ∈ zs, x.size ≤ maxLen) ∧ Two w wr g m u zs g' m' u' zs) (fun i _ => l'.length - (intOf i).toNat)
        case atStart => exact ⟨0, _, _, ys, by omega, rfl, by omega, hcs, H0.out⟩
        case round =>
          clear H0
          obtain ⟨k, u, u', zs, hk, rfl, hzl, hzs, H⟩ := hrel
          by_cases hkl : k < l'.length
          · obtain ⟨b, off, rfl, hbl, hcell⟩ := hr' (by simpa [svals] using Nat.lt_of_le_of_lt (Nat.zero_le _) hkl)
            have y0 := hcell k _ (svals_get l' k hkl)
            have y1 : wr.cell? ⟨b, off + k, none⟩ = some (.string l'[k]) := (H.bel.cell (by exact hbl)).trans y0
            have hx := hw' l'[k] (List.getElem_mem _)
            clear hcell y0
            generalize l'[k] = x at *
            go_wp2_with fail
            refine (sid_in _ g m u zs H.fst x hx (by omega)).mono ?_
            rintro e w3 ⟨rfl, u1, hT, ho, hv⟩
            have H1 := H.left hT ho hv
            have y2 : w3.cell? ⟨b, off + k, none⟩ = some (.string x) := ho.cell (fun h => by have := H.new _ h; simp at this; omega) y1
            have hz := addK_len zs x
            have hzs1 := addK_ok hzs hx
            clear H hT ho hv y1
            go_wp2_with fail
            refine (sid_in _ g' m' u' zs H1.snd x hx (by omega)).mono ?_
            rintro e w4 ⟨rfl, u2, hT, ho, hv⟩
            have H2 := H1.right hT ho hv
            clear H1 hT ho hv y2
            go_wp2_with fail
            go_roundw
            case rel => exact ⟨k + 1, u1, u2, addK zs x, by omega, by go_num, by omega, hzs1, H2⟩
            case measure => simp [intOf]; omega
          · obtain rfl : k = l'.length := by omega
            have L1 := Lib.hid (slen_yes wr g m 300 u zs H.fst)
            have L2 := Lib.hid (slen_yes wr g' m' 300 u' zs H.snd)
            have hb := H.bel
            clear H
            go_wp2_with (first
              | (go_at_call_of 20 (Value.pointer (some ⟨g, 0, none⟩)); refine L1.out.mono ?_; rintro e w' ⟨rfl, rfl⟩)
              | (go_at_call_of 20 (Value.pointer (some ⟨g', 0, none⟩)); refine L2.out.mono ?_; rintro e w' ⟨rfl, rfl⟩)
              | (go_at_call 6; refine (awake_any _).mono ?_; rintro e w5 ⟨rfl, hb5⟩; have hb6 := hb.trans (hb5.mono hb.size))
              | go_in)
            go_ret
            exact ⟨rfl, hb6⟩

set_option maxRecDepth 100000 in
set_option maxHeartbeats 2000000 in
theorem cuts_long (A A' : Option Addr) (cap cap' n1 n2 : Nat) (n : Int) (w : World) (hl : 100 < n1 ∨ 100 < n2) :
    Calls Try.prog 5 #[.slice A n1 cap, .slice A' n2 cap', .int .i64 n] w fun e w' => e = .returned (.bool true) ∧ Below w.heap.size w w' := by
  rcases (by omega : 100 < n1 ∨ (100 < n2 ∧ ¬ 100 < n1)) with h1 | ⟨h1, h2⟩
  · go_enter Try.func5, Try.ntmps5
    go_wp2_with fail
    refine (snew_yes w 300 (by omega) (by omega)).mono ?_
    rintro e w1 ⟨g, m, rfl, -, hb, -, -⟩
    go_wp2_with fail
    refine (snew_yes w1 300 (by omega) (by omega)).mono ?_
    rintro e w2 ⟨g', m', rfl, -, hb', -, -⟩
    have hb := hb.trans (hb'.mono hb.size)
    clear hb'
    go_wp2_with fail
    refine (awake_any _).mono ?_
    rintro e w5 ⟨rfl, hb5⟩
    have hb6 := hb.trans (hb5.mono hb.size)
    clear hb hb5
    go_wp2_with fail
    go_ret
    exact ⟨rfl, hb6⟩
  · go_enter Try.func5, Try.ntmps5
    go_wp2_with fail
    refine (snew_yes w 300 (by omega) (by omega)).mono ?_
    rintro e w1 ⟨g, m, rfl, -, hb, -, -⟩
    go_wp2_with fail
    refine (snew_yes w1 300 (by omega) (by omega)).mono ?_
    rintro e w2 ⟨g', m', rfl, -, hb', -, -⟩
    have hb := hb.trans (hb'.mono hb.size)
    clear hb'
    go_wp2_with fail
    refine (awake_any _).mono ?_
    rintro e w5 ⟨rfl, hb5⟩
    have hb6 := hb.trans (hb5.mono hb.size)
    clear hb hb5
    go_wp2_with fail
    go_ret
    exact ⟨rfl, hb6⟩

theorem cuts_law (A A' : Option Addr) (cap cap' : Nat) (l l' : List ByteArray) (n : Int) (w : World) (hr : RowAt w A (svals l)) (hr' : RowAt w A' (svals l')) (hw : ∀ x ∈ l, x.size ≤ maxLen) (hw' : ∀ x ∈ l', x.size ≤ maxLen) :
    Calls Try.prog 5 #[.slice A l.length cap, .slice A' l'.length cap', .int .i64 n] w fun e w' => e = .returned (.bool true) ∧ Below w.heap.size w w' := by
  by_cases h1 : 100 < l.length ∨ 100 < l'.length
  · exact cuts_long A A' cap cap' _ _ n w h1
  · exact cuts_main A A' cap cap' l l' n w (by omega) (by omega) hr hr' hw hw'
end Go.Proofs.Ytgmbbhfcpllgoaa
