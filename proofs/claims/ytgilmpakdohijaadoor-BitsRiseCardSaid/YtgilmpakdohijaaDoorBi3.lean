/-
  bits: Put, Drop.
-/
import Derived.Test.YtgilmpakdohijaaDoorBi2
import Derived.Laws.BitsAllLaws
namespace Go.Proofs.YtgilmpakdohijaaDoor
open Go.RowKit

/-- All that lay is as it was but a set's box and its row. -/
structure Chg (w w' : World) (g : Nat) (R : Option Nat) : Prop where
  os : w'.os = w.os
  tape : w'.tape = w.tape
  output : w'.output = w.output
  size : w.heap.size ≤ w'.heap.size
  block : ∀ b, b < w.heap.size → b ≠ g → some b ≠ R → w'.heap[b]? = w.heap[b]?
theorem grownBy_setI (W : World) (b i : Nat) (v : Value) : W.grownBy (W.setCell ⟨b, i, none⟩ v) (some b) :=
  ⟨rfl, rfl, rfl, by rw [World.size_setCell]; exact Nat.le_refl _, fun k _ hne => Below.heap_setCell W ⟨b, i, none⟩ v k (fun e => hne (by rw [e]))⟩
def oB (A : Option Addr) : Option Nat := (Value.slice A 0 0).ownBlock
theorem oB_eq (A : Option Addr) (n c : Nat) : (Value.slice A n c).ownBlock = oB A := by cases A <;> rfl
theorem Chg.refl (w : World) (g : Nat) (R : Option Nat) : Chg w w g R := ⟨rfl, rfl, rfl, Nat.le_refl _, fun _ _ _ _ => rfl⟩
/-- Where the row is after a change: as it was, or new. -/
def Moved (w : World) (R R' : Option Nat) : Prop := R' = R ∨ ∃ b, R' = some b ∧ w.heap.size ≤ b
theorem Moved.trans {w w1 : World} {R R1 R2 : Option Nat} (h : Moved w R R1) (hs : w.heap.size ≤ w1.heap.size) (k : Moved w1 R1 R2) : Moved w R R2 := by
  rcases k with rfl | ⟨b, rfl, hb⟩
  · exact h
  · exact .inr ⟨b, rfl, by omega⟩
theorem Chg.trans {w w1 w2 : World} {g : Nat} {R R1 : Option Nat} (h : Chg w w1 g R) (m : Moved w R R1) (k : Chg w1 w2 g R1) : Chg w w2 g R :=
  ⟨k.os.trans h.os, k.tape.trans h.tape, k.output.trans h.output, Nat.le_trans h.size k.size, fun b hb hg hR => by
    have h1 : some b ≠ R1 := by
      rcases m with rfl | ⟨b', rfl, hb'⟩
      · exact hR
      · intro he; injection he with he; omega
    exact (k.block b (Nat.lt_of_lt_of_le hb h.size) hg h1).trans (h.block b hb hg hR)⟩
theorem Chg.below {w w' : World} {g base : Nat} {R : Option Nat} (h : Chg w w' g R) (hg : base ≤ g) (hR : ∀ b, R = some b → base ≤ b) (hs : base ≤ w.heap.size) : Below base w w' :=
  ⟨h.os, h.tape, h.output, h.size, fun b hb => h.block b (by omega) (by omega) (fun he => by have := hR b he.symm; omega)⟩
def putW (ws : List Nat) (n : Nat) : List Nat := let L := ws ++ List.replicate (n / 64 + 1 - ws.length) 0; L.set (n / 64) (L.getD (n / 64) 0 ||| 2 ^ (n % 64))
def lenC (w : World) (g : Nat) : Nat := match w.cell? ⟨g, 0, none⟩ with
  | some (.slice _ n _) => n
  | _ => 0
theorem Tryd.infoU64 : (Tryd.prog.info? 52).map (fun i => (i.zero, i.size, i.bytes)) = some (some (.int .u64 0), 1, 8) := by kernel_rfl
section
variable {w : World} {base g c : Nat} {A : Option Addr} {ws : List Nat}
theorem SetB.lenC (h : SetB w base g A c ws) : Go.Proofs.YtgilmpakdohijaaDoor.lenC w g = ws.length := by
  unfold Go.Proofs.YtgilmpakdohijaaDoor.lenC
  rw [h.box.cells 0]; rfl
theorem SetB.next {w4 : World} {g4 c4 n : Nat} (h : WfW (ws ++ List.replicate n 0)) (hL : (ws ++ List.replicate n 0).length = ws.length + n) (hb : Box w4 g 51 #[.slice A (ws ++ List.replicate n 0).length c, .bool true])
    (ho : w4.ownsRow base 52 1 (.slice (some ⟨g4, 0, none⟩) (ws.length + n + 1) c4) (ws.length + n + 1) (wv (ws ++ List.replicate n 0) ++ [.int .u64 0])) (hl : ws.length + n + 1 ≤ 1024) :
    SetB (w4.setCell ⟨g, 0, none⟩ (.slice (some ⟨g4, 0, none⟩) (ws.length + n + 1) c4)) base g (some ⟨g4, 0, none⟩) c4 (ws ++ List.replicate (n + 1) 0) := by
  have e : ws ++ List.replicate (n + 1) 0 = (ws ++ List.replicate n 0) ++ [0] := by rw [List.replicate_succ', List.append_assoc]
  have e2 : (ws ++ List.replicate (n + 1) 0).length = ws.length + n + 1 := by simp; omega
  refine ⟨by rw [e2]; exact hb.set 0 _, ?_, ⟨by omega, fun x hx => ?_⟩⟩
  · rw [e2, e]
    have hv : wv ((ws ++ List.replicate n 0) ++ [0]) = wv (ws ++ List.replicate n 0) ++ [.int .u64 0] := by simp [wv]
    rw [hv]
    exact ho.kept (grownBy_setI w4 g 0 _) (.inr (own_ne_box ho hb (by decide)).symm)
  · rw [e] at hx
    rcases List.mem_append.1 hx with hx | hx
    · exact h.lt x hx
    · rw [List.mem_singleton.1 hx]; decide
theorem chg_append {w4 : World} {o : Obj} {n : Nat} (hg : (w.alloc o).grownBy w4 (Value.slice A n c).ownBlock) (u : Value) : Chg w (w4.setCell ⟨g, 0, none⟩ u) g (oB A) :=
  ⟨hg.os, hg.tape, hg.output, by rw [World.size_setCell]; have := hg.size; simp at this; omega, fun b hb hbg hbR => by
    rw [Below.heap_setCell w4 ⟨g, 0, none⟩ u b hbg, hg.block b (by simp; omega) (by rw [oB_eq]; exact hbR), Below.heap_alloc w o b hb]⟩
theorem or_eq {x k : Nat} (hx : x < 18446744073709551616) (hk : k < 64) : bits .or .u64 (x : Int) (IntKind.u64.wrap (2 ^ ((k : Int)).toNat)) = ((x ||| 2 ^ k : Nat) : Int) := by
  have h2 : (2 : Nat) ^ k < 2 ^ 64 := Nat.pow_lt_pow_right (by decide) hk
  rw [show ((k : Int)).toNat = k by omega, pow_cast, u64_self _ (by simpa using h2), bits_or_u64_nat _ _ hx (by simpa using h2)]
theorem or_lt {x k : Nat} (hx : x < 18446744073709551616) (hk : k < 64) : x ||| 2 ^ k < 18446744073709551616 := by
  have h2 : (2 : Nat) ^ k < 2 ^ 64 := Nat.pow_lt_pow_right (by decide) hk
  have := Nat.or_lt_two_pow (n := 64) (by simpa using hx) h2
  simpa using this
theorem wv_set (ws : List Nat) (i v : Nat) : wv (ws.set i v) = (wv ws).set i (.int .u64 (v : Int)) := by unfold wv; rw [List.map_set]
theorem SetB.store {g2 i v : Nat} (h : SetB w base g (some ⟨g2, 0, none⟩) c ws) (_hi : i < ws.length) (hv : v < 18446744073709551616) :
    SetB (w.setCell ⟨g2, i, none⟩ (.int .u64 (v : Int))).drew base g (some ⟨g2, 0, none⟩) c (ws.set i v) ∧ Chg w (w.setCell ⟨g2, i, none⟩ (.int .u64 (v : Int))).drew g (oB (some ⟨g2, 0, none⟩)) := by
  have hne : g ≠ g2 := fun he => own_ne_box h.own h.box (by decide) (by rw [he]; rfl)
  have hl : (ws.set i v).length = ws.length := by simp
  have hst := h.own.stored i (.int .u64 (v : Int))
  refine ⟨⟨by rw [hl]; exact h.box.far' hne _, by rw [hl, wv_set]; exact hst.1, ⟨by rw [hl]; exact h.wf.len, fun x hx => ?_⟩⟩, ?_⟩
  · rcases List.mem_or_eq_of_mem_set hx with hx | rfl
    · exact h.wf.lt x hx
    · exact hv
  · exact ⟨rfl, by simp [World.tape_setCell], rfl, by simp [World.size_setCell], fun b _ _ hR => Below.heap_setCell w ⟨g2, i, none⟩ _ b (fun e => hR (by rw [e]; rfl))⟩
/-- What Put tells, and what stands then. -/
def PutP (w : World) (base g : Nat) (A : Option Addr) (ws : List Nat) (n : Int) (e : Ending) (w' : World) : Prop :=
  ∃ A' c', e = .returned (.int .i64 (if n < 0 ∨ 65536 ≤ n then 2 else if hasW ws n = true then 35 else 0)) ∧ SetB w' base g A' c' (if n < 0 ∨ 65536 ≤ n then ws else if hasW ws n = true then ws else putW ws n.toNat) ∧ Chg w w' g (oB A) ∧ Moved w (oB A) (oB A')
set_option maxRecDepth 100000 in
set_option maxHeartbeats 2000000 in
theorem bput_any (n : Int) (hbase : base ≤ w.heap.size) (h : SetB w base g A c ws) : Calls Tryd.prog 21 #[.pointer (some ⟨g, 0, none⟩), .int .i64 n] w (PutP w base g A ws n) := by
  obtain ⟨i0, hi, hz0, hz1, hz2⟩ := info_parts Tryd.infoU64
  have WY := bwhy_any n h.box
  have HS := bhas_any n h
  by_cases hin : n < 0 ∨ 65536 ≤ n
  · unfold PutP
    rw [if_pos hin, if_pos hin]
    rw [show whyW n = 2 from if_pos hin] at WY
    replace WY := Lib.hid WY
    clear HS hin
    go_enter Tryd.func21, Tryd.ntmps21
    go_wp2_with fail
    refine WY.out.mono ?_
    rintro e _ ⟨rfl, rfl⟩
    go_wp2
    go_ret
    exact ⟨A, c, rfl, h, Chg.refl _ _ _, .inl rfl⟩
  · unfold PutP
    rw [if_neg hin, if_neg hin]
    rw [show whyW n = 0 from if_neg hin] at WY
    replace WY := Lib.hid WY
    cases hh : hasW ws n
    · rw [hh] at HS
      replace HS := Lib.hid HS
      rw [if_neg (by decide), if_neg (by decide)]
      obtain ⟨m, rfl⟩ : ∃ m : Nat, n = (m : Int) := ⟨n.toNat, by omega⟩
      have hm : m < 65536 := by omega
      rw [show ((m : Int)).toNat = m by omega]
      have hlen := h.wf.len
      clear hin hh
      go_enter Tryd.func21, Tryd.ntmps21
      go_wp2_with fail
      refine WY.out.mono ?_
      rintro e _ ⟨rfl, rfl⟩
      go_wp2_with fail
      refine HS.out.mono ?_
      rintro e _ ⟨rfl, rfl⟩
      go_wp2
      go_loopw [] (fun wr => ∃ (j : Nat) (A' : Option Addr) (c' : Nat), j ≤ m / 64 + 1 - ws.length ∧ SetB wr base g A' c' (ws ++ List.replicate j 0) ∧ Chg w wr g (oB A) ∧ Moved w (oB A) (oB A')) (fun wr => 1025 - lenC wr g)
      case atStart => exact ⟨0, A, c, by omega, by simpa using h, Chg.refl _ _ _, .inl rfl⟩
      case round =>
        obtain ⟨j, A', c', hj, hS, hC, hM⟩ := hrel
        have hL9 := Lib.hid hS.lenC
        have k := hS.box.cells
        have f := hS.box.free
        have lt := hS.box.lt
        have hL : (ws ++ List.replicate j 0).length = ws.length + j := by simp
        rw [hL] at k
        by_cases hgo : ws.length + j ≤ m / 64
        · have hd : decide (((ws.length : Int) + (j : Int)) ≤ (m : Int) / 64) = true := decide_eq_true (by omega)
          have own1 : wr.ownsRow base 52 1 (.slice A' (ws.length + j) c') (ws.length + j) (wv (ws ++ List.replicate j 0)) := by rw [← hL]; exact hS.own
          have hcs := hC.size
          go_wp2_with (at_builtin; refine wpList_append_lies _ rfl _ _ 49 rfl base 52 i0 (.int .u64 0) 1 8 Tryd.underlying49 hi hz0 hz1 hz2 rfl (by decide) _ (ws.length + j) (wv (ws ++ List.replicate j 0)) rfl (own1.alloc _) ⟨wr.heap.size, 0, none⟩ 1 1 [.int .u64 0] rfl rfl (World.news_of_block (cs := #[.int .u64 0]) (Box.new wr 52 #[.int .u64 0])) (fun u hu => by simp at hu; subst hu; rfl) (by decide) (by unfold maxLen; omega) (by omega) (by simp; omega) _ rfl ?_)
          intro g4 c4 w4 own4 hgr4 hloc4 hlt4
          have own1B := own1.alloc (.cells #[.int .u64 0] 52)
          have hb4 := (hS.box.alloc (.cells #[.int .u64 0] 52)).grown hgr4 (own_ne_box own1B (hS.box.alloc _) (by decide))
          have hnext := SetB.next hS.wf hL hb4 own4 (by omega)
          have hch := chg_append (g := g) hgr4 (.slice (some ⟨g4, 0, none⟩) (ws.length + j + 1) c4)
          have hmv : Moved wr (oB A') (oB (some ⟨g4, 0, none⟩)) := by
            rcases hloc4 with h4 | h4
            · exact .inl (by rw [oB_eq] at h4; exact h4.symm)
            · exact .inr ⟨g4, rfl, by rw [h4]; simp⟩
          have hC2 := hC.trans hM hch
          have hM2 := hM.trans hC.size hmv
          have k4 := hb4.cells
          have f4 := hb4.free
          have l4 := hb4.lt
          clear k f own1 own1B own4 hgr4 hS hC hch hmv hloc4 hM
          go_wp2
          go_roundw
          case rel => exact ⟨j + 1, some ⟨g4, 0, none⟩, c4, by omega, hnext, hC2, hM2⟩
          case measure => rw [hnext.lenC, hL9.out]; simp; omega
        · have hj2 : Hid (j = m / 64 + 1 - ws.length) := by show _ = _; omega
          have hd : decide (((ws.length : Int) + (j : Int)) ≤ (m : Int) / 64) = false := decide_eq_false (by omega)
          have hil : m / 64 < (ws ++ List.replicate j 0).length := by omega
          have own1 : wr.ownsRow base 52 1 (.slice A' (ws.length + j) c') (ws.length + j) (wv (ws ++ List.replicate j 0)) := by rw [← hL]; exact hS.own
          obtain ⟨A2, c2, hv, hf⟩ := own_form own1
          obtain ⟨g2, hA, hg1, hg2⟩ := hf (by omega)
          injection hv with hv1 _ hv3
          subst hv1 hv3 hA
          have hcl : wr.cell? ⟨g2, m / 64, none⟩ = some (.int .u64 ((ws ++ List.replicate j 0)[m / 64] : Int)) := by
            rw [own1.cellAt (m / 64) (by omega)]; exact wv_get _ _ hil
          have hfz := own1.frozenAt (m / 64)
          have hx := hS.wf.lt _ (List.getElem_mem hil)
          have hli : ((m : Int) / 64) < (ws.length : Int) + (j : Int) := by omega
          have hwk1 : IntKind.i64.wrap ((m : Int) / 64) = (m : Int) / 64 := (Go.IntWalk.i64_left _).trans (Go.IntWalk.wrap64_in _ (by omega))
          have hwk2 : IntKind.i64.wrap ((m : Int) % 64) = (m : Int) % 64 := (Go.IntWalk.i64_left _).trans (Go.IntWalk.wrap64_in _ (by omega))
          have hto : ((m : Int) / 64).toNat = m / 64 := by omega
          have htm : (m : Int).tmod 64 = (m : Int) % 64 := Int.tmod_eq_emod_of_nonneg (by omega)
          have hge : (0 : Int) ≤ (m : Int) / 64 := by omega
          have hge2 : (0 : Int) ≤ (m : Int) % 64 := by omega
          clear hgo hf
          generalize hxx : (ws ++ List.replicate j 0)[m / 64] = x at *
          replace hxx := Lib.hid hxx
          have hor := or_eq (k := m % 64) hx (by omega)
          rw [show ((m % 64 : Nat) : Int) = (m : Int) % 64 by omega] at hor
          have ho2 := or_lt hx (show m % 64 < 64 by omega)
          have ST := hS.store hil ho2
          have hC2 := hC.trans hM ST.2
          have hM2 := hM
          have PW := Lib.hid (show putW ws m = (ws ++ List.replicate j 0).set (m / 64) (x ||| 2 ^ (m % 64)) by
            have hg : (ws ++ List.replicate j 0).getD (m / 64) 0 = x := by
              rw [List.getD_eq_getElem?_getD, List.getElem?_eq_getElem hil, hxx.out]
              rfl
            show (ws ++ List.replicate (m / 64 + 1 - ws.length) 0).set (m / 64) ((ws ++ List.replicate (m / 64 + 1 - ws.length) 0).getD (m / 64) 0 ||| 2 ^ (m % 64)) = _
            rw [← hj2.out, hg])
          clear hS hC own1 ho2
          generalize x ||| 2 ^ (m % 64) = y at *
          go_wp2
          go_region_with (fail)
          go_wp2
          go_ret
          exact ⟨some ⟨g2, 0, none⟩, c', rfl, by rw [PW.out]; exact ST.1, hC2, hM2⟩
    · rw [hh] at HS
      replace HS := Lib.hid HS
      rw [if_pos rfl, if_pos rfl]
      clear hin hh
      go_enter Tryd.func21, Tryd.ntmps21
      go_wp2_with fail
      refine WY.out.mono ?_
      rintro e _ ⟨rfl, rfl⟩
      go_wp2_with fail
      refine HS.out.mono ?_
      rintro e _ ⟨rfl, rfl⟩
      go_wp2
      go_ret
      exact ⟨A, c, rfl, h, Chg.refl _ _ _, .inl rfl⟩
def dropW (ws : List Nat) (n : Nat) : List Nat := ws.set (n / 64) (ws.getD (n / 64) 0 &&& (18446744073709551615 - 2 ^ (n % 64)))
theorem andn_eq {x k : Nat} (hx : x < 18446744073709551616) (hk : k < 64) : bits .andNot .u64 (x : Int) (IntKind.u64.wrap (2 ^ ((k : Int)).toNat)) = ((x &&& (18446744073709551615 - 2 ^ k) : Nat) : Int) := by
  have h2 : (2 : Nat) ^ k < 2 ^ 64 := Nat.pow_lt_pow_right (by decide) hk
  rw [show ((k : Int)).toNat = k by omega, pow_cast, u64_self _ (by simpa using h2), u64_andNot_nat _ _ hx (by simpa using h2)]
/-- What Drop tells, and what stands then. -/
def DropP (w : World) (base g : Nat) (A : Option Addr) (c : Nat) (ws : List Nat) (n : Int) (e : Ending) (w' : World) : Prop :=
  e = .returned (.int .i64 (if n < 0 ∨ 65536 ≤ n then 2 else if hasW ws n = true then 0 else 35)) ∧ SetB w' base g A c (if n < 0 ∨ 65536 ≤ n then ws else if hasW ws n = true then dropW ws n.toNat else ws) ∧ Chg w w' g (oB A)
set_option maxRecDepth 100000 in
set_option maxHeartbeats 2000000 in
theorem bdrop_any (n : Int) (h : SetB w base g A c ws) : Calls Tryd.prog 22 #[.pointer (some ⟨g, 0, none⟩), .int .i64 n] w (DropP w base g A c ws n) := by
  have WY := bwhy_any n h.box
  have HS := bhas_any n h
  by_cases hin : n < 0 ∨ 65536 ≤ n
  · unfold DropP
    rw [if_pos hin, if_pos hin]
    rw [show whyW n = 2 from if_pos hin] at WY
    replace WY := Lib.hid WY
    clear HS hin
    go_enter Tryd.func22, Tryd.ntmps22
    go_wp2_with fail
    refine WY.out.mono ?_
    rintro e _ ⟨rfl, rfl⟩
    go_wp2
    go_ret
    exact ⟨rfl, h, Chg.refl _ _ _⟩
  · unfold DropP
    rw [if_neg hin, if_neg hin]
    rw [show whyW n = 0 from if_neg hin] at WY
    replace WY := Lib.hid WY
    cases hh : hasW ws n
    · rw [hh] at HS
      replace HS := Lib.hid HS
      rw [if_neg (by decide), if_neg (by decide)]
      clear hin hh
      go_enter Tryd.func22, Tryd.ntmps22
      go_wp2_with fail
      refine WY.out.mono ?_
      rintro e _ ⟨rfl, rfl⟩
      go_wp2_with fail
      refine HS.out.mono ?_
      rintro e _ ⟨rfl, rfl⟩
      go_wp2
      go_ret
      exact ⟨rfl, h, Chg.refl _ _ _⟩
    · rw [hh] at HS
      replace HS := Lib.hid HS
      rw [if_pos rfl, if_pos rfl]
      obtain ⟨m, rfl⟩ : ∃ m : Nat, n = (m : Int) := ⟨n.toNat, by omega⟩
      have hm : m < 65536 := by omega
      rw [show ((m : Int)).toNat = m by omega]
      have hil : m / 64 < ws.length := by
        rcases Nat.lt_or_ge (m / 64) ws.length with h1 | h1
        · exact h1
        · unfold hasW bitW at hh
          rw [show ((m : Int)).toNat = m by omega, List.getD_eq_getElem?_getD, List.getElem?_eq_none h1] at hh
          simp at hh
      clear hin hh
      have k := h.box.cells
      have l := h.box.lt
      have hcap := own_cap h.own
      obtain ⟨A2, c2, hv, hf⟩ := own_form h.own
      obtain ⟨g2, hA, hg1, hg2⟩ := hf (by omega)
      injection hv with hv1 _ hv3
      subst hv1 hv3 hA
      have hcl : w.cell? ⟨g2, m / 64, none⟩ = some (.int .u64 (ws[m / 64] : Int)) := by
        rw [h.own.cellAt (m / 64) (by omega)]; exact wv_get _ _ hil
      have hfz := h.own.frozenAt (m / 64)
      have hx := h.wf.lt _ (List.getElem_mem hil)
      have hli : ((m : Int) / 64) < (ws.length : Int) := by omega
      have hwk1 : IntKind.i64.wrap ((m : Int) / 64) = (m : Int) / 64 := (Go.IntWalk.i64_left _).trans (Go.IntWalk.wrap64_in _ (by omega))
      have hwk2 : IntKind.i64.wrap ((m : Int) % 64) = (m : Int) % 64 := (Go.IntWalk.i64_left _).trans (Go.IntWalk.wrap64_in _ (by omega))
      have hto : ((m : Int) / 64).toNat = m / 64 := by omega
      have htm : (m : Int).tmod 64 = (m : Int) % 64 := Int.tmod_eq_emod_of_nonneg (by omega)
      have hge : (0 : Int) ≤ (m : Int) / 64 := by omega
      have hge2 : (0 : Int) ≤ (m : Int) % 64 := by omega
      have PW := show dropW ws m = ws.set (m / 64) (ws[m / 64] &&& (18446744073709551615 - 2 ^ (m % 64))) by
        unfold dropW
        rw [List.getD_eq_getElem?_getD, List.getElem?_eq_getElem hil]
        rfl
      have hor := andn_eq (k := m % 64) hx (by omega)
      rw [show ((m % 64 : Nat) : Int) = (m : Int) % 64 by omega] at hor
      have ho2 : ws[m / 64] &&& (18446744073709551615 - 2 ^ (m % 64)) < 18446744073709551616 := Nat.lt_of_le_of_lt Nat.and_le_left hx
      have ST := h.store hil ho2
      clear h hf
      generalize ws[m / 64] &&& (18446744073709551615 - 2 ^ (m % 64)) = y at *
      generalize ws[m / 64] = x at *
      replace PW := Lib.hid PW
      go_enter Tryd.func22, Tryd.ntmps22
      go_wp2_with fail
      refine WY.out.mono ?_
      rintro e _ ⟨rfl, rfl⟩
      go_wp2_with fail
      refine HS.out.mono ?_
      rintro e _ ⟨rfl, rfl⟩
      go_wp2
      go_region_with (fail)
      go_wp2
      go_ret
      exact ⟨rfl, by rw [PW.out]; exact ST.1, ST.2⟩
end
end Go.Proofs.YtgilmpakdohijaaDoor
