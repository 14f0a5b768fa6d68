/-
  Chapter 6: reading in plain lists, and the document's Parse.
-/
import Derived.Test.YtmdflhgmlipplaaDoorDe6
import Derived.Test.YtmdflhgmlipplaaDoorDe1
import Derived.IntWalk
namespace Go.Proofs.YtmdflhgmlipplaaDoor
open Go.RowKit

theorem acc_step {o : List UInt8} {k : Nat} (hk : k < o.length) : accD (o.take (k + 1)) = 10 * accD (o.take k) + numB o[k] := by
  rw [List.take_succ_eq_append_getElem hk, accD_snoc]
theorem acc_mono {o : List UInt8} (h : ∀ c ∈ o, isD c = true) : ∀ j k, j ≤ k → k ≤ o.length → accD (o.take j) ≤ accD (o.take k) ∧ (j < k → 10 * accD (o.take j) ≤ accD (o.take k)) := by
  intro j k hj hk
  have h0 : ∀ k, 0 ≤ accD (o.take k) := fun k => accD_nonneg fun c hc => h c (List.mem_of_mem_take hc)
  obtain ⟨d, rfl⟩ := Nat.exists_eq_add_of_le hj
  induction d with
  | zero => exact ⟨Int.le_refl _, fun h => absurd h (by omega)⟩
  | succ d ih =>
    have hl : j + d < o.length := by omega
    have hs := acc_step hl
    have hd : 0 ≤ numB o[j + d] := by
      have := h _ (List.getElem_mem hl)
      unfold isD at this; simp at this
      unfold numB; omega
    rw [show j + (d + 1) = j + d + 1 by omega, hs]
    have i := ih (by omega) (by omega)
    have h1 := h0 (j + d)
    have h2 := h0 j
    refine ⟨by omega, fun _ => by omega⟩
theorem acc_filter {l : List UInt8} {k : Nat} (hk : k < l.length) : accS (l.take (k + 1)) = if isD l[k] = true then 10 * accS (l.take k) + numB l[k] else accS (l.take k) := by
  unfold accS
  rw [List.take_succ_eq_append_getElem hk, List.filter_append]
  split
  · rename_i h
    rw [List.filter_cons_of_pos h, List.filter_nil, accD_snoc]
  · rename_i h
    rw [List.filter_cons_of_neg h, List.filter_nil, List.append_nil]
theorem acc_zero {o : List UInt8} (h : ∀ c ∈ o, isD c = true) : accD o = 0 ↔ ∀ c ∈ o, c = 48 := by
  have key : ∀ k, k ≤ o.length → (accD (o.take k) = 0 ↔ ∀ j (hj : j < o.length), j < k → o[j] = 48) := by
    intro k
    induction k with
    | zero => intro _; exact ⟨fun _ j _ hj => absurd hj (by omega), fun _ => rfl⟩
    | succ k ih =>
      intro hk
      have hl : k < o.length := by omega
      rw [acc_step hl]
      have h0 : 0 ≤ accD (o.take k) := accD_nonneg fun c hc => h c (List.mem_of_mem_take hc)
      have hd : 0 ≤ numB o[k] := by
        have := h _ (List.getElem_mem hl)
        unfold isD at this; simp at this
        unfold numB; omega
      have hz : numB o[k] = 0 ↔ o[k] = 48 := by
        unfold numB
        constructor
        · intro e
          apply UInt8.toNat_inj.1
          have : (48 : UInt8).toNat = 48 := rfl
          omega
        · intro e
          rw [e]; rfl
      constructor
      · intro e j hj hjk
        by_cases hjk' : j = k
        · subst hjk'; exact hz.1 (by omega)
        · exact (ih (by omega)).1 (by omega) j hj (by omega)
      · intro hh
        have e1 := (ih (by omega)).2 fun j hj hjk => hh j hj (by omega)
        have e2 := hz.2 (hh k hl (by omega))
        omega
  have := key o.length (Nat.le_refl _)
  rw [List.take_length] at this
  rw [this]
  constructor
  · intro hh c hc
    obtain ⟨j, hj, rfl⟩ := List.getElem_of_mem hc
    exact hh j hj hj
  · intro hh j hj _
    exact hh _ (List.getElem_mem hj)

/-- What a text with so many decimals is read as. -/
def rdL (d : Nat) (l : List UInt8) : Int × Int := if textZ d (zS l) = l then toldI (zS l) else (0, 5)
def rdI (l : List UInt8) (d : Int) : Int × Int := if mayD d = true then rdL d.toNat l else (0, 2)
theorem big_nil (S : Nat → Prop) (w : World) (L : Nat) : BigIs S w (.agg #[.bool false, .slice none 0 0]) 0 L :=
  ⟨none, 0, [], rfl, can_nil, rfl, Nat.zero_le _, Nat.zero_le _, Nat.zero_le _, RowS.nil _ _ _⟩
theorem s_get (s : ByteArray) (k : Nat) (h : k < s.size) : s.data.toList[k]'(by rw [Array.length_toList]; exact h) = s[k]'h := rfl
theorem s_list (s : ByteArray) : s.toList = s.data.toList := by first | exact Lib.toList_data s | exact toList_data s
theorem isD_int {c : UInt8} : isD c = true ↔ 48 ≤ (c.toNat : Int) ∧ (c.toNat : Int) ≤ 57 := by unfold isD; simp; omega

set_option maxRecDepth 100000 in
set_option maxHeartbeats 4000000 in
theorem rparse_any (s : ByteArray) (d : Int) (w : World) (hs : s.size ≤ 100) :
    Calls Tryd.prog 13 #[.string s, .int .i64 d] w fun e w' => e = .returned (.tuple #[.int .i64 (rdI s.data.toList d).1, .int .i64 (rdI s.data.toList d).2]) ∧ Below w.heap.size w w' := by
  have MD := Lib.hid fun w => rmay_any d w
  unfold rdI
  cases hd : mayD d
  · rw [hd] at MD
    rw [if_neg (by simp)]
    clear hd
    go_enter Tryd.func13, Tryd.ntmps13
    go_wp2_with fail
    refine (MD.out _).mono ?_
    rintro e _ ⟨rfl, rfl⟩
    go_wp2
    go_ret2
    exact ⟨rfl, Below.refl _ _⟩
  · rw [hd] at MD
    rw [if_pos rfl]
    have hb := mayD_iff.1 hd
    obtain ⟨n, rfl⟩ : ∃ n : Nat, d = n := ⟨d.toNat, by omega⟩
    rw [Int.toNat_natCast]
    obtain ⟨q, hq⟩ : ∃ q, rdL n s.data.toList = q := ⟨_, rfl⟩
    rw [hq]
    have HQ := Lib.hid hq
    have hn6 : n ≤ 6 := by omega
    have hln : s.data.toList.length = s.size := Array.length_toList
    have HLN := Lib.hid hln
    clear hd hq hb hln
    have OT := Lib.hid fun (w : World) => of_any 10 w (by omega) (by omega)
    go_enter Tryd.func13, Tryd.ntmps13
    go_wp2_with fail
    refine (MD.out _).mono ?_
    rintro e _ ⟨rfl, rfl⟩
    clear MD
    go_wp2_with fail
    go_loopw [7] (fun i wr => ∃ (k : Nat) (v : Value) (t : Bool) (A : Option Addr) (m c : Nat), k ≤ s.size ∧ i = .int .i64 k ∧ v = .agg #[.bool t, .slice A m c] ∧ Box wr w.heap.size 40 #[.bool t, .slice A m c] ∧ BigIs (fun b => w.heap.size < b) wr v (accS (s.data.toList.take k)) (30 * k) ∧ Below w.heap.size w wr) (fun i _ => s.size - (intOf i).toNat)
    case atStart => exact ⟨0, _, false, none, 0, 0, by omega, rfl, rfl, Box.new _ _ _, big_nil _ _ _, (Below.refl _ _).alloc (Nat.le_refl _) _⟩
    case round =>
      obtain ⟨k, v, t, A, m, c, hk, rfl, rfl, bx, mb, hb⟩ := hrel
      have sw := hb.size
      by_cases hks : k < s.size
      · have hkl : k < s.data.toList.length := by rw [HLN.out]; exact hks
        have HA := Lib.hid (acc_filter hkl)
        have hcc : s.data.toList[k]'hkl = s[k]'hks := rfl
        by_cases hc : isD (s[k]'hks) = true
        · obtain ⟨c1, c2⟩ := isD_int.1 hc
          have hA := HA.out
          rw [hcc, if_pos hc] at hA
          have OC := Lib.hid fun (w : World) => of_any (numB (s[k]'hks)) w (by unfold numB; omega) (by unfold numB; omega)
          have TM := Lib.hid fun (w : World) S S' va vb (ha : BigIs S w va (accS (s.data.toList.take k)) (30 * k)) (hb : BigIs S' w vb 10 19) => times_any ha hb (by omega)
          have PL := Lib.hid fun (w : World) S S' va vb (ha : BigIs S w va (accS (s.data.toList.take k) * 10) (30 * k + 19)) (hb : BigIs S' w vb (numB (s[k]'hks)) 19) => plus_any ha hb (by omega) (by omega)
          have HA1 := Lib.hid hA
          have HN : Hid (numB (s[k]'hks) = ((s[k]'hks).toNat : Int) - 48) := Lib.hid rfl
          clear hc hA HA hcc hkl
          generalize accS (s.data.toList.take k) = acc at *
          rw [HN.out] at OC PL HA1
          have wr1 := IntWalk.i64_in ((s[k]'hks).toNat : Int) (by omega)
          have wr2 := IntWalk.i64_in (((s[k]'hks).toNat : Int) - 48) (by omega)
          have lxw := bx.lt
          have kx := bx.cells
          have lx := bx.lt
          have fx := bx.free
          go_wp2_with fail
          go_region_with (first
            | (go_at_call 14; (with_reducible refine (OT.out _).mono ?_); rintro e w60 ⟨v1, rfl, m1, b60⟩; have bx := bx.drew.later b60; have kx := bx.cells; have lx := bx.lt; have fx := bx.free; have mb := mb.drew.below b60 (Nat.le_refl _); have b60 := below_undrew b60; obtain ⟨t1, A1, n1, c1', rfl⟩ := m1.form2)
            | (go_at_call 17; (with_reducible refine (TM.out _ _ _ _ _ mb m1).mono ?_); rintro e w61 ⟨v2, rfl, m2, b61⟩; have bx := bx.later b61; have kx := bx.cells; have lx := bx.lt; have fx := bx.free; obtain ⟨t2, A2, n2, c2', rfl⟩ := m2.form2)
            | (go_at_call 14; (with_reducible refine (OC.out _).mono ?_); rintro e w62 ⟨v3, rfl, m3, b62⟩; have bx := bx.later b62; have kx := bx.cells; have lx := bx.lt; have fx := bx.free; have m2 := m2.below b62 (Nat.le_refl _); obtain ⟨t3, A3, n3, c3', rfl⟩ := m3.form2)
            | (go_at_call 19; (with_reducible refine (PL.out _ _ _ _ _ m2 m3).mono ?_); rintro e w63 ⟨v4, rfl, m4, b63⟩; have bx := bx.later b63; have kx := bx.cells; have lx := bx.lt; have fx := bx.free; obtain ⟨t4, A4, n4, c4', rfl⟩ := m4.form2))
          all_goals
            clear wr1 wr2
            have hb4 := hb.trans ((((b60.trans (b61.mono b60.size)).trans (b62.mono (b60.trans (b61.mono b60.size)).size)).trans (b63.mono ((b60.trans (b61.mono b60.size)).trans (b62.mono (b60.trans (b61.mono b60.size)).size)).size)).mono hb.size)
            have s62 := ((b60.trans (b61.mono b60.size)).trans (b62.mono (b60.trans (b61.mono b60.size)).size)).size
            have m4' := ((m4.mono (S' := fun b => w.heap.size < b) (L' := 30 * (k + 1)) (fun b _ h => by have h' : w62.heap.size ≤ b := h; show w.heap.size < b; omega) (by omega)).setCell (g := w.heap.size) (i := 0) (by simp) (.bool t4)).setCell (g := w.heap.size) (i := 1) (by simp) (.slice A4 n4 c4')
            go_wp2
            go_roundw
            case rel =>
              refine ⟨k + 1, _, t4, A4, n4, c4', by omega, by go_num, rfl, box2 bx _ _, ?_, (hb4.setCell (by simp) _).setCell (by simp) _⟩
              rw [HA1.out, Int.mul_comm 10]
              exact m4'
            case measure => simp [intOf] <;> omega
        · have hA := HA.out
          rw [hcc, if_neg hc] at hA
          have mb' := mb.mono (S' := fun b => w.heap.size < b) (L' := 30 * (k + 1)) (fun b _ h => h) (by omega)
          rw [← hA] at mb'
          have hc2 : ((s[k]'hks).toNat : Int) < 48 ∨ 48 ≤ ((s[k]'hks).toNat : Int) ∧ 57 < ((s[k]'hks).toNat : Int) := by have := mt isD_int.2 hc; omega
          clear hc hA HA hcc hkl mb
          rcases hc2 with h | ⟨h, h'⟩
          · go_wp2
            go_roundw
            case rel => exact ⟨k + 1, _, t, A, m, c, by omega, by go_num, rfl, bx, mb', hb⟩
            case measure => simp [intOf] <;> omega
          · go_wp2
            go_roundw
            case rel => exact ⟨k + 1, _, t, A, m, c, by omega, by go_num, rfl, bx, mb', hb⟩
            case measure => simp [intOf] <;> omega
      · obtain rfl : k = s.size := by omega
        have mb0 := mb
        rw [List.take_of_length_le (by rw [HLN.out]; exact Nat.le_refl _)] at mb0
        clear mb
        have TX := Lib.hid fun (w : World) S v z L (h : BigIs S w v z L) (hL : L ≤ 100000) => text_any n h hL hn6
        have TD := Lib.hid fun (w : World) S v z L (h : BigIs S w v z L) (hL : L ≤ 100000) => told_any h hL
        have FL := Lib.hid fun (w : World) S v z L (h : BigIs S w v z L) => flip_any h
        have hz : zS s.data.toList = if s.data.toList.head? = some 45 then -accS s.data.toList else accS s.data.toList := rfl
        have kx := bx.cells
        have lx := bx.lt
        have fx := bx.free
        by_cases h0 : 0 < s.size
        · have hhd : s.data.toList.head? = some (s[0]'h0) := by
            rw [List.head?_eq_getElem?, List.getElem?_eq_getElem (by rw [HLN.out]; exact h0)]
            rfl
          have h0' : (0 : Int) < (s.size : Int) := by omega
          by_cases h45 : s[0]'h0 = 45
          · rw [hhd, h45, if_pos rfl] at hz
            have e45 : (((s[0]'h0).toNat : Int) == 45) = true := by rw [h45]; rfl
            have HZ := Lib.hid hz
            clear hz hhd h45
            go_wp2_with fail
            refine (FL.out _ _ _ _ _ mb0).mono ?_
            rintro e w8 ⟨v8, rfl, m8, b8⟩
            obtain ⟨t8, A8, n8, c8, rfl⟩ := m8.form2
            have mz := (m8.setCell (g := w.heap.size) (i := 0) (by simp) (.bool t8)).setCell (g := w.heap.size) (i := 1) (by simp) (.slice A8 n8 c8)
            have bxz := box2 (bx.later b8) (.bool t8) (.slice A8 n8 c8)
            have hbz := ((hb.trans (b8.mono hb.size)).setCell (p := ⟨w.heap.size, 0, none⟩) (by simp) (.bool t8)).setCell (p := ⟨w.heap.size, 1, none⟩) (by simp) (.slice A8 n8 c8)
            have kx8 := (bx.later b8).cells
            have lx8 := (bx.later b8).lt
            have fx8 := (bx.later b8).free
            clear kx lx fx m8
            go_wp2_with fail
            refine (TX.out _ _ _ _ _ mz (by omega)).mono ?_
            rintro e w9 ⟨rfl, b9⟩
            have bx9 := bxz.later b9
            have mz9 := mz.below b9 (Nat.le_refl _)
            have hb9 := hbz.trans (b9.mono hbz.size)
            have kx9 := bx9.cells
            have lx9 := bx9.lt
            have hqq := HQ.out
            unfold rdL at hqq
            rw [HZ.out] at hqq
            by_cases he : textZ n (-accS s.data.toList) = s.data.toList
            · have hew : (textZ n (-accS s.data.toList) == s.toList) = true := by rw [s_list, he]; exact beq_self_eq_true _
              rw [if_pos he] at hqq
              have HE := Lib.hid hqq
              clear hqq he
              go_wp2_with fail
              refine (TD.out _ _ _ _ _ mz9 (by omega)).mono ?_
              rintro e w10 ⟨rfl, b10⟩
              go_wp2
              go_ret2
              exact ⟨by rw [← HE.out]; rfl, hb9.trans (b10.mono hb9.size)⟩
            · have hew : (textZ n (-accS s.data.toList) == s.toList) = false := by rw [s_list]; exact beq_eq_false_iff_ne.2 he
              rw [if_neg he] at hqq
              have HE := Lib.hid hqq
              clear hqq he
              go_wp2
              go_ret2
              exact ⟨by rw [← HE.out]; rfl, hb9⟩
          · have e45 : (((s[0]'h0).toNat : Int) == 45) = false := by
              rw [beq_eq_false_iff_ne]
              intro h
              apply h45
              apply UInt8.toNat_inj.1
              have : (45 : UInt8).toNat = 45 := rfl
              omega
            rw [hhd, if_neg (fun h => h45 (Option.some.inj h))] at hz
            have HZ := Lib.hid hz
            clear hz hhd h45
            have mz := mb0
            have bxz := bx
            have hbz := hb
            go_wp2_with fail
            refine (TX.out _ _ _ _ _ mz (by omega)).mono ?_
            rintro e w9 ⟨rfl, b9⟩
            have bx9 := bxz.later b9
            have mz9 := mz.below b9 (Nat.le_refl _)
            have hb9 := hbz.trans (b9.mono hbz.size)
            have kx9 := bx9.cells
            have lx9 := bx9.lt
            have hqq := HQ.out
            unfold rdL at hqq
            rw [HZ.out] at hqq
            by_cases he : textZ n (accS s.data.toList) = s.data.toList
            · have hew : (textZ n (accS s.data.toList) == s.toList) = true := by rw [s_list, he]; exact beq_self_eq_true _
              rw [if_pos he] at hqq
              have HE := Lib.hid hqq
              clear hqq he
              go_wp2_with fail
              refine (TD.out _ _ _ _ _ mz9 (by omega)).mono ?_
              rintro e w10 ⟨rfl, b10⟩
              go_wp2
              go_ret2
              exact ⟨by rw [← HE.out]; rfl, hb9.trans (b10.mono hb9.size)⟩
            · have hew : (textZ n (accS s.data.toList) == s.toList) = false := by rw [s_list]; exact beq_eq_false_iff_ne.2 he
              rw [if_neg he] at hqq
              have HE := Lib.hid hqq
              clear hqq he
              go_wp2
              go_ret2
              exact ⟨by rw [← HE.out]; rfl, hb9⟩
        · have hhd : s.data.toList.head? = none := by
            rw [List.head?_eq_none_iff]
            exact List.eq_nil_of_length_eq_zero (by rw [HLN.out]; omega)
          have h0' : ¬ (0 : Int) < (s.size : Int) := by omega
          rw [hhd, if_neg (by simp)] at hz
          have HZ := Lib.hid hz
          clear hz hhd
          have mz := mb0
          have bxz := bx
          have hbz := hb
          go_wp2_with fail
          refine (TX.out _ _ _ _ _ mz (by omega)).mono ?_
          rintro e w9 ⟨rfl, b9⟩
          have bx9 := bxz.later b9
          have mz9 := mz.below b9 (Nat.le_refl _)
          have hb9 := hbz.trans (b9.mono hbz.size)
          have kx9 := bx9.cells
          have lx9 := bx9.lt
          have hqq := HQ.out
          unfold rdL at hqq
          rw [HZ.out] at hqq
          by_cases he : textZ n (accS s.data.toList) = s.data.toList
          · have hew : (textZ n (accS s.data.toList) == s.toList) = true := by rw [s_list, he]; exact beq_self_eq_true _
            rw [if_pos he] at hqq
            have HE := Lib.hid hqq
            clear hqq he
            go_wp2_with fail
            refine (TD.out _ _ _ _ _ mz9 (by omega)).mono ?_
            rintro e w10 ⟨rfl, b10⟩
            go_wp2
            go_ret2
            exact ⟨by rw [← HE.out]; rfl, hb9.trans (b10.mono hb9.size)⟩
          · have hew : (textZ n (accS s.data.toList) == s.toList) = false := by rw [s_list]; exact beq_eq_false_iff_ne.2 he
            rw [if_neg he] at hqq
            have HE := Lib.hid hqq
            clear hqq he
            go_wp2
            go_ret2
            exact ⟨by rw [← HE.out]; rfl, hb9⟩
end Go.Proofs.YtmdflhgmlipplaaDoor
