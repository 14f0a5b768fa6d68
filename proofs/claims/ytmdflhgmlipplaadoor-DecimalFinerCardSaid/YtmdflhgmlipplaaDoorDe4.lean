/-
  Chapter 6: Print, in the program and in the document.
-/
import Derived.Test.YtmdflhgmlipplaaDoorDe3
namespace Go.Proofs.YtmdflhgmlipplaaDoor
open Go.RowKit

/-- The text that Print tells, and the error. -/
def prI (x d : Int) : List UInt8 × Int := if mayD d = true then (textZ d.toNat x, 0) else ([], 2)
set_option maxHeartbeats 1000000 in
theorem rprint_any (x d : Int) (w : World) (x1 : -9223372036854775808 ≤ x) (x2 : x ≤ 9223372036854775807) :
    Calls Tryd.prog 8 #[.int .i64 x, .int .i64 d] w fun e w' => e = .returned (.tuple #[S8 (prI x d).1, .int .i64 (prI x d).2]) ∧ Below w.heap.size w w' := by
  have MD := Lib.hid fun w => rmay_any d w
  unfold prI
  cases hd : mayD d
  · rw [hd] at MD
    rw [if_neg (by simp)]
    clear hd x1 x2
    go_enter Tryd.func8, Tryd.ntmps8
    go_wp2_with fail
    refine (MD.out _).mono ?_
    rintro e _ ⟨rfl, rfl⟩
    go_wp2
    go_ret2
    exact ⟨rfl, Below.refl _ _⟩
  · rw [hd] at MD
    rw [if_pos rfl]
    have hb := mayD_iff.1 hd
    obtain ⟨n, rfl⟩ : ∃ n : Nat, d = n := ⟨d.toNat, by omega⟩
    have OF := Lib.hid fun w => of_any x w x1 x2
    have TX := Lib.hid fun (w : World) S v (h : BigIs S w v x 19) => text_any n h (by omega) (by omega)
    rw [Int.toNat_natCast]
    generalize textZ n x = q at *
    clear hd x1 x2 hb
    go_enter Tryd.func8, Tryd.ntmps8
    go_wp2_with fail
    refine (MD.out _).mono ?_
    rintro e _ ⟨rfl, rfl⟩
    go_wp2_with fail
    refine (OF.out _).mono ?_
    rintro e w1 ⟨v1, rfl, m1, b1⟩
    go_wp2_with fail
    refine (TX.out _ _ _ m1).mono ?_
    rintro e w2 ⟨rfl, b2⟩
    go_wp2
    go_ret2
    exact ⟨rfl, b1.trans (b2.mono b1.size)⟩

theorem bc_dg {x : Int} (h : 0 ≤ x ∧ x ≤ 9) : Lib.byteCells [dgB x] = [Value.int .u8 (48 + x)] := by
  have := dgB_toNat h
  simp [Lib.byteCells, this]
  omega
theorem padR_len20 {N d : Nat} (hN : N ≤ 9223372036854775808) (hd : d ≤ 6) : (padR (d + 1) N).length ≤ 20 := by
  have := digs_len (n := N) (k := 19) (by omega)
  rw [padR_len]; omega
theorem u8_dg (m : Nat) : IntKind.u8.wrap (48 + ((m % 10 : Nat) : Int)) = 48 + ((m % 10 : Nat) : Int) := by
  have h : m % 10 < 10 := Nat.mod_lt _ (by omega)
  generalize m % 10 = t at *
  simp [IntKind.wrap, IntKind.signed, IntKind.bits]
  omega


set_option maxRecDepth 100000 in
set_option maxHeartbeats 2000000 in
theorem print_pos (N d : Nat) (w : World) (N2 : N ≤ 9223372036854775807) (hd : d ≤ 6) :
    Calls Tryd.prog 7 #[.int .i64 ((N : Int)), .int .i64 d] w fun e w' => e = .returned (.tuple #[S8 (textZ d ((N : Int))), .int .i64 0]) ∧ Below w.heap.size w w' := by
  have MD := Lib.hid fun w => dmay_any d w
  rw [show mayD (d : Int) = true from mayD_iff.2 (by omega)] at MD
  have HL := Lib.hid (padR_len20 (N := N) (d := d) (by omega) hd)
  have WB := Lib.hid fun B b bs c w h hl hB => wbyte_any B b bs c w h hl hB
  have SS := Lib.hid fun B b l w h hB => sh_Builder_String_any_k B b l w h hB
  obtain ⟨T, hT⟩ : ∃ T, textZ d ((N : Int)) = T := ⟨_, rfl⟩
  rw [hT]
  have HT := Lib.hid hT
  clear hT
  have e0 : decide ((N : Int) < 0) = false := by simp <;> omega
  go_enter Tryd.func7, Tryd.ntmps7
  go_wp2_with fail
  refine (MD.out _).mono ?_
  rintro e _ ⟨rfl, rfl⟩
  clear MD
  go_wp2
  go_loopw [6, 8] (fun n b wr => ∃ (k m : Nat) (o : List Int) (cs : Array Value), n = .int .u64 m ∧ b = .slice (some ⟨w.heap.size, 0, none⟩) k 32 ∧ o.length ≤ k ∧ k ≤ o.length ∧ k ≤ 20 ∧ m ≤ N ∧ Hid (padR (d + 1) N = o ++ padR (d + 1 - k) m) ∧ Box wr w.heap.size 47 cs ∧ Hid (cs.size = 32) ∧ Hid (∀ j (h : j < o.length), cs[j]? = some (.int .u8 (48 + o[j]))) ∧ Below w.heap.size w wr) (fun n b _ => (intOf n).toNat + (d + 1 - slen b))
  case atStart => exact ⟨0, N, [], _, rfl, rfl, by simp, by simp, by omega, by omega, rfl, Box.new _ _ _, rfl, by intro j h; simp at h, (Below.refl _ _).alloc (Nat.le_refl _) _⟩
  case round =>
    obtain ⟨k, m, o, cs, rfl, rfl, ho1, ho2, hk, hmN, hpad, bx, hsz, hcs, hb⟩ := hrel
    have hm63 : (m : Int) ≤ 9223372036854775808 := by omega
    have sw := hb.size
    by_cases hgo : m ≠ 0 ∨ k ≤ d
    · have hP := hpad.out
      rw [padR_step (r := d + 1 - k) (n := m) (by omega), show ((m % 10 : Nat) : Int) = (m : Int) % 10 by omega] at hP
      have hk2 : k + 1 ≤ 20 := by
        have := congrArg List.length hP
        have h2 := HL.out
        rw [List.length_append, List.length_cons] at this
        omega
      have HP : Hid (padR (d + 1) N = (o ++ [(m : Int) % 10]) ++ padR (d + 1 - (k + 1)) (m / 10)) := Lib.hid (by rw [hP, List.append_assoc, show d + 1 - (k + 1) = d + 1 - k - 1 by omega]; rfl)
      have hkl : k < cs.size := by rw [hsz.out]; omega
      have hc : wr.cell? ⟨w.heap.size, k, none⟩ = some cs[k] := (bx.cells k).trans (Array.getElem?_eq_getElem hkl)
      have hf := bx.free k
      have hl := bx.lt
      have h10 : m % 10 < 10 := Nat.mod_lt _ (by omega)
      have HCS : Hid (∀ j (h : j < (o ++ [(m : Int) % 10]).length), (cs.setIfInBounds k (.int .u8 (48 + (m : Int) % 10)))[j]? = some (.int .u8 (48 + (o ++ [(m : Int) % 10])[j]))) := by
        intro j hj
        simp only [List.length_append, List.length_singleton] at hj
        by_cases hjk : j = k
        · subst hjk
          rw [Array.getElem?_setIfInBounds_self_of_lt hkl, List.getElem_append_right (by omega)]
          simp
        · rw [Array.getElem?_setIfInBounds_ne (by omega), List.getElem_append_left (by omega)]
          exact hcs.out j (by omega)
      have HSZ : Hid ((cs.setIfInBounds k (.int .u8 (48 + (m : Int) % 10))).size = 32) := by show _ = _; rw [Array.size_setIfInBounds]; exact hsz.out
      have ho3 : (o ++ [(m : Int) % 10]).length ≤ k + 1 ∧ k + 1 ≤ (o ++ [(m : Int) % 10]).length := by simp; omega
      have hmd : m / 10 ≤ N ∧ (0 < m → m / 10 < m) ∧ (m = 0 → m / 10 = 0) := by omega
      clear hP hpad hcs hsz
      by_cases hm0 : 0 < m
      · clear hgo
        go_wp2
        go_roundw
        case rel => exact ⟨k + 1, m / 10, o ++ [(m : Int) % 10], _, by rw [Int.natCast_ediv]; rfl, rfl, ho3.1, ho3.2, hk2, hmd.1, HP, (bx.set k _).alloc _, HSZ, HCS, (hb.setCell (by simp) _).alloc (by simp [World.setCell]; omega) _⟩
        case measure => simp [intOf, slen]; omega
      · have hm1 : decide (0 < m) = false := decide_eq_false hm0
        have hkd : k ≤ d := by omega
        clear hgo
        have hmz := Lib.hid hm0
        clear hm0
        go_wp2
        go_roundw
        case rel => exact ⟨k + 1, m / 10, o ++ [(m : Int) % 10], _, by rw [Int.natCast_ediv]; rfl, rfl, ho3.1, ho3.2, hk2, hmd.1, HP, (bx.set k _).alloc _, HSZ, HCS, (hb.setCell (by simp) _).alloc (by simp [World.setCell]; omega) _⟩
        case measure => have := hmz.out; simp [intOf, slen]; omega
    · obtain rfl : m = 0 := by omega
      have hkd : d < k := by omega
      have hP : padR (d + 1) N = o := by
        rw [hpad.out, show d + 1 - k = 0 by omega, padR_end, List.append_nil]
      have hol : o.length = k := by omega
      have HO := Lib.hid hol
      have HD : Hid (∀ i (h : i < o.length), 0 ≤ o[i] ∧ o[i] ≤ 9) := Lib.hid fun i h => by
        have : Dg o := by rw [← hP]; exact dg_padD (d := d) (digs_can N).1
        exact this.get i h
      have HU : Hid (T = [] ++ (rv d 0 o).reverse) := Lib.hid (by
        rw [← HT.out]
        unfold textZ
        rw [if_neg (by omega), show ((N : Nat) : Int).natAbs = N by omega]
        unfold uT
        rw [show padD d (digs N) = o from hP, rv_all (by omega)]
        rfl)
      have hn : ¬ (d : Int) ≥ (k : Int) := by omega
      clear hP hpad hgo hol HT HL ho1 ho2
      obtain ⟨w5, hw5⟩ : ∃ w5, w5 = wr := ⟨_, rfl⟩
      subst hw5
      have hkd' : decide (k ≤ d) = false := decide_eq_false (by omega)
      have lx := bx.lt
      have FB := Lib.hid ((Lib.IsBuilderF.of (Lib.fresh_isBuilder 51 5 w5)))
      have OK0 := Lib.hid fun (g : Nat) (h : g ≠ w5.heap.size) (wx : World) (hx : Box wx g 47 cs) (w' : World) (ho : Lib.OthersKept 5 (some w5.heap.size) wx w') => show Box w' g 47 cs from ho g _ hx (by simpa using h) (fun c fz e => by injection e with _ e; exact absurd e (by decide))
      have lne : w.heap.size ≠ w5.heap.size := Nat.ne_of_lt lx
      go_wp2_with fail
      have bx := bx.alloc (.cells #[Value.pointer none, Value.slice none 0 0] 51)
      have hbW := (Below.refl _ w5).alloc (Nat.le_refl _) (.cells #[Value.pointer none, Value.slice none 0 0] 51)
      have HI : Hid (Lib.IsBuilderF 51 5 w5.heap.size w5.heap.size (Lib.byteCells []) (w5.alloc (.cells #[Value.pointer none, Value.slice none 0 0] 51))) := FB
      go_loopw [10] (fun i wr => ∃ j : Nat, j ≤ k ∧ i = .int .i64 ((j : Int) - 1) ∧ Lib.IsBuilderF 51 5 w5.heap.size w5.heap.size (Lib.byteCells ([] ++ (rv d j (o.drop j)).reverse)) wr ∧ Box wr w.heap.size 47 cs ∧ Below w5.heap.size w5 wr) (fun i _ => (intOf i + 1).toNat)
      case atStart => exact ⟨k, Nat.le_refl _, rfl, by rw [List.drop_eq_nil_of_le (by rw [HO.out]; exact Nat.le_refl _)]; exact HI.out, bx, hbW⟩
      case round =>
        clear HI bx hbW FB
        obtain ⟨j, hj, rfl, hI, bx, hb2⟩ := hrel
        have sw5 := hb2.size
        rcases j with _ | i
        · rewrite [show (((0 : Nat) : Int) - 1) = -1 from rfl]
          have HZ := Lib.hid hI
          clear hI
          go_wp2_with fail
          refine (SS.out _ _ _ _ HZ.out sw5).mono ?_
          rintro e w9 ⟨rfl, _, b9, _⟩
          go_wp2
          go_ret2
          refine ⟨?_, hb.trans ((hb2.trans b9).mono hb.size)⟩
          rw [HU.out]
          rfl
        · rewrite [show (((i + 1 : Nat) : Int) - 1) = (i : Int) by omega]
          have hil : i < o.length := by rw [HO.out]; omega
          have hc := (bx.cells i).trans (hcs.out i hil)
          have hdi := HD.out i hil
          have hR := rv_drop (d := d) hil
          have hlen : (Lib.byteCells ([] ++ (rv d (i + 1) (o.drop (i + 1))).reverse)).length ≤ 100 := by
            rw [Lib.byteCells_length, List.length_append, List.length_reverse]
            have := rv_len d (o.drop (i + 1)) (i + 1)
            rw [List.length_drop, HO.out] at this
            simp; omega
          have hB : Lib.byteCells ([] ++ (rv d (i + 1) (o.drop (i + 1))).reverse) ++ [Value.int .u8 (48 + o[i])] = Lib.byteCells ([] ++ ((rv d (i + 1) (o.drop (i + 1))).reverse ++ [dgB o[i]])) := by
            rw [← List.append_assoc, Lib.byteCells_append ([] ++ _), bc_dg hdi]
          have HI1 := Lib.hid hI
          have HB := Lib.hid hB
          clear hI hB
          generalize o[i] = x at *
          by_cases hid : i = d ∧ 0 < d
          · rw [if_pos hid] at hR
            obtain ⟨hid, h0⟩ := hid
            have HR := Lib.hid hR
            clear hR
            subst hid
            have e2 : ((i : Int) == (i : Int)) = true := by simp
            go_wp2_with fail
            refine (WB.out _ _ _ _ _ HI1.out (by omega) sw5).mono ?_
            rintro e w9 ⟨rfl, h9, b9, k9⟩
            have bx9 := OK0.out _ lne _ bx _ k9
            rw [HB.out] at h9
            have sw9 := (hb2.trans b9).size
            clear hc
            go_wp2_with fail
            refine (WB.out _ _ _ _ _ h9 (by rw [← HB.out, List.length_append, List.length_singleton]; omega) sw9).mono ?_
            rintro e w10 ⟨rfl, h10, b10, k10⟩
            have bx10 := OK0.out _ lne _ bx9 _ k10
            go_wp2
            go_roundw
            case rel => exact ⟨i, by omega, rfl, by rw [HR.out, show ∀ (A B : List UInt8), A ++ (B ++ [dgB x, 46]) = (A ++ (B ++ [dgB x])) ++ [46] from fun A B => by simp, Lib.byteCells_append]; exact h10, bx10, (hb2.trans b9).trans b10⟩
            case measure => simp [intOf] <;> omega
          · rw [if_neg hid] at hR
            have HR := Lib.hid hR
            clear hR
            by_cases hid1 : i = d
            · subst hid1
              have e2 : ((i : Int) == (i : Int)) = true := by simp
              have e3 : decide (0 < i) = false := decide_eq_false fun h => hid ⟨rfl, h⟩
              clear hid
              go_wp2_with fail
              refine (WB.out _ _ _ _ _ HI1.out (by omega) sw5).mono ?_
              rintro e w9 ⟨rfl, h9, b9, k9⟩
              have bx9 := OK0.out _ lne _ bx _ k9
              rw [HB.out] at h9
              clear hc
              go_wp2
              go_roundw
              case rel => exact ⟨i, by omega, rfl, by rw [HR.out]; exact h9, bx9, hb2.trans b9⟩
              case measure => simp [intOf] <;> omega
            · have e2 : ((i : Int) == (d : Int)) = false := by simpa using (by omega : ¬ (i : Int) = d)
              clear hid hid1
              go_wp2_with fail
              refine (WB.out _ _ _ _ _ HI1.out (by omega) sw5).mono ?_
              rintro e w9 ⟨rfl, h9, b9, k9⟩
              have bx9 := OK0.out _ lne _ bx _ k9
              rw [HB.out] at h9
              clear hc
              go_wp2
              go_roundw
              case rel => exact ⟨i, by omega, rfl, by rw [HR.out]; exact h9, bx9, hb2.trans b9⟩
              case measure => simp [intOf] <;> omega

set_option maxRecDepth 100000 in
set_option maxHeartbeats 2000000 in
theorem print_neg (N d : Nat) (w : World) (N1 : 1 ≤ N) (N2 : N ≤ 9223372036854775808) (hd : d ≤ 6) :
    Calls Tryd.prog 7 #[.int .i64 (-(N : Int)), .int .i64 d] w fun e w' => e = .returned (.tuple #[S8 (textZ d (-(N : Int))), .int .i64 0]) ∧ Below w.heap.size w w' := by
  have MD := Lib.hid fun w => dmay_any d w
  rw [show mayD (d : Int) = true from mayD_iff.2 (by omega)] at MD
  have HL := Lib.hid (padR_len20 (N := N) (d := d) (by omega) hd)
  have WB := Lib.hid fun B b bs c w h hl hB => wbyte_any B b bs c w h hl hB
  have SS := Lib.hid fun B b l w h hB => sh_Builder_String_any_k B b l w h hB
  obtain ⟨T, hT⟩ : ∃ T, textZ d (-(N : Int)) = T := ⟨_, rfl⟩
  rw [hT]
  have HT := Lib.hid hT
  clear hT
  have e0 : decide (-(N : Int) < 0) = true := by simp <;> omega
  have e1 : IntKind.u64.wrap (-IntKind.u64.wrap (-(N : Int))) = (N : Int) := by
    simp [IntKind.wrap, IntKind.signed, IntKind.bits]; omega
  go_enter Tryd.func7, Tryd.ntmps7
  go_wp2_with fail
  refine (MD.out _).mono ?_
  rintro e _ ⟨rfl, rfl⟩
  clear MD
  go_wp2
  go_loopw [6, 8] (fun n b wr => ∃ (k m : Nat) (o : List Int) (cs : Array Value), n = .int .u64 m ∧ b = .slice (some ⟨w.heap.size, 0, none⟩) k 32 ∧ o.length ≤ k ∧ k ≤ o.length ∧ k ≤ 20 ∧ m ≤ N ∧ Hid (padR (d + 1) N = o ++ padR (d + 1 - k) m) ∧ Box wr w.heap.size 47 cs ∧ Hid (cs.size = 32) ∧ Hid (∀ j (h : j < o.length), cs[j]? = some (.int .u8 (48 + o[j]))) ∧ Below w.heap.size w wr) (fun n b _ => (intOf n).toNat + (d + 1 - slen b))
  case atStart => exact ⟨0, N, [], _, rfl, rfl, by simp, by simp, by omega, by omega, rfl, Box.new _ _ _, rfl, by intro j h; simp at h, (Below.refl _ _).alloc (Nat.le_refl _) _⟩
  case round =>
    obtain ⟨k, m, o, cs, rfl, rfl, ho1, ho2, hk, hmN, hpad, bx, hsz, hcs, hb⟩ := hrel
    have hm63 : (m : Int) ≤ 9223372036854775808 := by omega
    have sw := hb.size
    by_cases hgo : m ≠ 0 ∨ k ≤ d
    · have hP := hpad.out
      rw [padR_step (r := d + 1 - k) (n := m) (by omega), show ((m % 10 : Nat) : Int) = (m : Int) % 10 by omega] at hP
      have hk2 : k + 1 ≤ 20 := by
        have := congrArg List.length hP
        have h2 := HL.out
        rw [List.length_append, List.length_cons] at this
        omega
      have HP : Hid (padR (d + 1) N = (o ++ [(m : Int) % 10]) ++ padR (d + 1 - (k + 1)) (m / 10)) := Lib.hid (by rw [hP, List.append_assoc, show d + 1 - (k + 1) = d + 1 - k - 1 by omega]; rfl)
      have hkl : k < cs.size := by rw [hsz.out]; omega
      have hc : wr.cell? ⟨w.heap.size, k, none⟩ = some cs[k] := (bx.cells k).trans (Array.getElem?_eq_getElem hkl)
      have hf := bx.free k
      have hl := bx.lt
      have h10 : m % 10 < 10 := Nat.mod_lt _ (by omega)
      have HCS : Hid (∀ j (h : j < (o ++ [(m : Int) % 10]).length), (cs.setIfInBounds k (.int .u8 (48 + (m : Int) % 10)))[j]? = some (.int .u8 (48 + (o ++ [(m : Int) % 10])[j]))) := by
        intro j hj
        simp only [List.length_append, List.length_singleton] at hj
        by_cases hjk : j = k
        · subst hjk
          rw [Array.getElem?_setIfInBounds_self_of_lt hkl, List.getElem_append_right (by omega)]
          simp
        · rw [Array.getElem?_setIfInBounds_ne (by omega), List.getElem_append_left (by omega)]
          exact hcs.out j (by omega)
      have HSZ : Hid ((cs.setIfInBounds k (.int .u8 (48 + (m : Int) % 10))).size = 32) := by show _ = _; rw [Array.size_setIfInBounds]; exact hsz.out
      have ho3 : (o ++ [(m : Int) % 10]).length ≤ k + 1 ∧ k + 1 ≤ (o ++ [(m : Int) % 10]).length := by simp; omega
      have hmd : m / 10 ≤ N ∧ (0 < m → m / 10 < m) ∧ (m = 0 → m / 10 = 0) := by omega
      clear hP hpad hcs hsz
      by_cases hm0 : 0 < m
      · clear hgo
        go_wp2
        go_roundw
        case rel => exact ⟨k + 1, m / 10, o ++ [(m : Int) % 10], _, by rw [Int.natCast_ediv]; rfl, rfl, ho3.1, ho3.2, hk2, hmd.1, HP, (bx.set k _).alloc _, HSZ, HCS, (hb.setCell (by simp) _).alloc (by simp [World.setCell]; omega) _⟩
        case measure => simp [intOf, slen]; omega
      · have hm1 : decide (0 < m) = false := decide_eq_false hm0
        have hkd : k ≤ d := by omega
        clear hgo
        have hmz := Lib.hid hm0
        clear hm0
        go_wp2
        go_roundw
        case rel => exact ⟨k + 1, m / 10, o ++ [(m : Int) % 10], _, by rw [Int.natCast_ediv]; rfl, rfl, ho3.1, ho3.2, hk2, hmd.1, HP, (bx.set k _).alloc _, HSZ, HCS, (hb.setCell (by simp) _).alloc (by simp [World.setCell]; omega) _⟩
        case measure => have := hmz.out; simp [intOf, slen]; omega
    · obtain rfl : m = 0 := by omega
      have hkd : d < k := by omega
      have hP : padR (d + 1) N = o := by
        rw [hpad.out, show d + 1 - k = 0 by omega, padR_end, List.append_nil]
      have hol : o.length = k := by omega
      have HO := Lib.hid hol
      have HD : Hid (∀ i (h : i < o.length), 0 ≤ o[i] ∧ o[i] ≤ 9) := Lib.hid fun i h => by
        have : Dg o := by rw [← hP]; exact dg_padD (d := d) (digs_can N).1
        exact this.get i h
      have HU : Hid (T = [45] ++ (rv d 0 o).reverse) := Lib.hid (by
        rw [← HT.out]
        unfold textZ
        rw [if_pos (by omega), show (-(N : Int)).natAbs = N by omega]
        unfold uT
        rw [show padD d (digs N) = o from hP, rv_all (by omega)]
        rfl)
      have hn : ¬ (d : Int) ≥ (k : Int) := by omega
      clear hP hpad hgo hol HT HL ho1 ho2
      obtain ⟨w5, hw5⟩ : ∃ w5, w5 = wr := ⟨_, rfl⟩
      subst hw5
      have hkd' : decide (k ≤ d) = false := decide_eq_false (by omega)
      have lx := bx.lt
      have FB := Lib.hid ((Lib.IsBuilderF.of (Lib.fresh_isBuilder 51 5 w5)))
      have OK0 := Lib.hid fun (g : Nat) (h : g ≠ w5.heap.size) (wx : World) (hx : Box wx g 47 cs) (w' : World) (ho : Lib.OthersKept 5 (some w5.heap.size) wx w') => show Box w' g 47 cs from ho g _ hx (by simpa using h) (fun c fz e => by injection e with _ e; exact absurd e (by decide))
      have lne : w.heap.size ≠ w5.heap.size := Nat.ne_of_lt lx
      go_wp2_with fail
      refine (WB.out _ _ _ 45 _ FB.out (by simp) (by simp)).mono ?_
      rintro e W1 ⟨rfl, hI, b1, k1⟩
      have bx := OK0.out _ lne _ (bx.alloc _) _ k1
      have hbW := ((Below.refl _ w5).alloc (Nat.le_refl _) (.cells #[Value.pointer none, Value.slice none 0 0] 51)).trans b1
      have HI : Hid (Lib.IsBuilderF 51 5 w5.heap.size w5.heap.size (Lib.byteCells [45]) W1) := Lib.hid hI
      clear hI b1 k1
      go_wp2_with fail
      go_loopw [10] (fun i wr => ∃ j : Nat, j ≤ k ∧ i = .int .i64 ((j : Int) - 1) ∧ Lib.IsBuilderF 51 5 w5.heap.size w5.heap.size (Lib.byteCells ([45] ++ (rv d j (o.drop j)).reverse)) wr ∧ Box wr w.heap.size 47 cs ∧ Below w5.heap.size w5 wr) (fun i _ => (intOf i + 1).toNat)
      case atStart => exact ⟨k, Nat.le_refl _, rfl, by rw [List.drop_eq_nil_of_le (by rw [HO.out]; exact Nat.le_refl _)]; exact HI.out, bx, hbW⟩
      case round =>
        clear HI bx hbW FB
        obtain ⟨j, hj, rfl, hI, bx, hb2⟩ := hrel
        have sw5 := hb2.size
        rcases j with _ | i
        · rewrite [show (((0 : Nat) : Int) - 1) = -1 from rfl]
          have HZ := Lib.hid hI
          clear hI
          go_wp2_with fail
          refine (SS.out _ _ _ _ HZ.out sw5).mono ?_
          rintro e w9 ⟨rfl, _, b9, _⟩
          go_wp2
          go_ret2
          refine ⟨?_, hb.trans ((hb2.trans b9).mono hb.size)⟩
          rw [HU.out]
          rfl
        · rewrite [show (((i + 1 : Nat) : Int) - 1) = (i : Int) by omega]
          have hil : i < o.length := by rw [HO.out]; omega
          have hc := (bx.cells i).trans (hcs.out i hil)
          have hdi := HD.out i hil
          have hR := rv_drop (d := d) hil
          have hlen : (Lib.byteCells ([45] ++ (rv d (i + 1) (o.drop (i + 1))).reverse)).length ≤ 100 := by
            rw [Lib.byteCells_length, List.length_append, List.length_reverse]
            have := rv_len d (o.drop (i + 1)) (i + 1)
            rw [List.length_drop, HO.out] at this
            simp; omega
          have hB : Lib.byteCells ([45] ++ (rv d (i + 1) (o.drop (i + 1))).reverse) ++ [Value.int .u8 (48 + o[i])] = Lib.byteCells ([45] ++ ((rv d (i + 1) (o.drop (i + 1))).reverse ++ [dgB o[i]])) := by
            rw [← List.append_assoc, Lib.byteCells_append ([45] ++ _), bc_dg hdi]
          have HI1 := Lib.hid hI
          have HB := Lib.hid hB
          clear hI hB
          generalize o[i] = x at *
          by_cases hid : i = d ∧ 0 < d
          · rw [if_pos hid] at hR
            obtain ⟨hid, h0⟩ := hid
            have HR := Lib.hid hR
            clear hR
            subst hid
            have e2 : ((i : Int) == (i : Int)) = true := by simp
            go_wp2_with fail
            refine (WB.out _ _ _ _ _ HI1.out (by omega) sw5).mono ?_
            rintro e w9 ⟨rfl, h9, b9, k9⟩
            have bx9 := OK0.out _ lne _ bx _ k9
            rw [HB.out] at h9
            have sw9 := (hb2.trans b9).size
            clear hc
            go_wp2_with fail
            refine (WB.out _ _ _ _ _ h9 (by rw [← HB.out, List.length_append, List.length_singleton]; omega) sw9).mono ?_
            rintro e w10 ⟨rfl, h10, b10, k10⟩
            have bx10 := OK0.out _ lne _ bx9 _ k10
            go_wp2
            go_roundw
            case rel => exact ⟨i, by omega, rfl, by rw [HR.out, show ∀ (A B : List UInt8), A ++ (B ++ [dgB x, 46]) = (A ++ (B ++ [dgB x])) ++ [46] from fun A B => by simp, Lib.byteCells_append]; exact h10, bx10, (hb2.trans b9).trans b10⟩
            case measure => simp [intOf] <;> omega
          · rw [if_neg hid] at hR
            have HR := Lib.hid hR
            clear hR
            by_cases hid1 : i = d
            · subst hid1
              have e2 : ((i : Int) == (i : Int)) = true := by simp
              have e3 : decide (0 < i) = false := decide_eq_false fun h => hid ⟨rfl, h⟩
              clear hid
              go_wp2_with fail
              refine (WB.out _ _ _ _ _ HI1.out (by omega) sw5).mono ?_
              rintro e w9 ⟨rfl, h9, b9, k9⟩
              have bx9 := OK0.out _ lne _ bx _ k9
              rw [HB.out] at h9
              clear hc
              go_wp2
              go_roundw
              case rel => exact ⟨i, by omega, rfl, by rw [HR.out]; exact h9, bx9, hb2.trans b9⟩
              case measure => simp [intOf] <;> omega
            · have e2 : ((i : Int) == (d : Int)) = false := by simpa using (by omega : ¬ (i : Int) = d)
              clear hid hid1
              go_wp2_with fail
              refine (WB.out _ _ _ _ _ HI1.out (by omega) sw5).mono ?_
              rintro e w9 ⟨rfl, h9, b9, k9⟩
              have bx9 := OK0.out _ lne _ bx _ k9
              rw [HB.out] at h9
              clear hc
              go_wp2
              go_roundw
              case rel => exact ⟨i, by omega, rfl, by rw [HR.out]; exact h9, bx9, hb2.trans b9⟩
              case measure => simp [intOf] <;> omega

theorem print_any (x d : Int) (w : World) (x1 : -9223372036854775808 ≤ x) (x2 : x ≤ 9223372036854775807) :
    Calls Tryd.prog 7 #[.int .i64 x, .int .i64 d] w fun e w' => e = .returned (.tuple #[S8 (prI x d).1, .int .i64 (prI x d).2]) ∧ Below w.heap.size w w' := by
  unfold prI
  by_cases hd : mayD d = true
  · rw [if_pos hd]
    have hb := mayD_iff.1 hd
    obtain ⟨n, rfl⟩ : ∃ n : Nat, d = n := ⟨d.toNat, by omega⟩
    rw [Int.toNat_natCast]
    rcases (by omega : 0 ≤ x ∨ x < 0) with h | h
    · have := print_pos x.toNat n w (by omega) (by omega)
      rwa [show ((x.toNat : Nat) : Int) = x by omega] at this
    · have := print_neg (-x).toNat n w (by omega) (by omega) (by omega)
      rwa [show (-(((-x).toNat : Nat) : Int)) = x by omega] at this
  · rw [if_neg hd]
    have MD := Lib.hid fun w => dmay_any d w
    rw [show mayD d = false by simpa using hd] at MD
    clear hd x1 x2
    go_enter Tryd.func7, Tryd.ntmps7
    go_wp2_with fail
    refine (MD.out _).mono ?_
    rintro e _ ⟨rfl, rfl⟩
    go_wp2
    go_ret2
    exact ⟨rfl, Below.refl _ _⟩
end Go.Proofs.YtmdflhgmlipplaaDoor
