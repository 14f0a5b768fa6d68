/-
  journal: the law's first.
-/
import Derived.Test.YthkaohjgldoipaaJo5
namespace Go.Proofs.Ythkaohjgldoipaa
open Go.RowKit

/-- What first holds: how many, and the lines so far. -/
def FirB (w : World) (base g3 g5 : Nat) (most : Int) (pre : List Pst) : Prop :=
  Box w g3 3 #[.int .i64 most] ∧ ∃ A c, Box w g5 25 #[.slice A pre.length c] ∧ w.ownsRow base 34 7 (.slice A pre.length c) pre.length (pvs pre)
theorem FirB.alloc {w : World} {base g3 g5 : Nat} {most : Int} {pre : List Pst} (h : FirB w base g3 g5 most pre) (o : Obj) : FirB (w.alloc o) base g3 g5 most pre := by
  obtain ⟨h1, A, c, h2, h3⟩ := h
  exact ⟨h1.alloc o, A, c, h2.alloc o, h3.alloc o⟩
section
variable {A : Option Addr} {c : Nat} {l : List Ent}
set_option maxRecDepth 100000 in
set_option maxHeartbeats 2000000 in
theorem jfirst1 {base g3 g5 : Nat} {most : Int} {pre : List Pst} {w : World} (x : Pst) (hp : pre.length ≤ 1000000) (hb : base ≤ w.heap.size) (hg5 : base ≤ g5) (h : FirB w base g3 g5 most pre) :
    Calls Try.prog 51 #[.agg (pv x).toArray, .pointer (some ⟨g5, 0, none⟩), .pointer (some ⟨g3, 0, none⟩)] w fun e w' => e = .returned (.bool (decide ((pre.length : Int) + 1 < most))) ∧ FirB w' base g3 g5 most (pre ++ [x]) ∧ Kj base w w' := by
  obtain ⟨i0, hi, hz0, hz1, hz2⟩ := info_parts Try.infoPst
  obtain ⟨b3, A5, c5, b5, own⟩ := h
  have k5 := b5.cells
  have f5 := b5.free
  have l5 := b5.lt
  have l3 := b3.lt
  dsimp only [pv]
  go_enter Try.func51, Try.ntmps51
  go_wp2_with (at_builtin; refine wpList_append_rowN rfl _ _ 25 rfl base 34 i0 _ 7 56 Try.underlying25 hi hz0 hz1 hz2 rfl (by decide) _ pre.length (pvs pre) rfl ((own.alloc _).alloc _) (some ⟨w.heap.size + 1, 0, none⟩) 1 1 (pv x) rfl rfl (RowAt.of_cells (fun i u hi => by rw [addr_add, Nat.zero_add]; exact ((Box.new' (w := w.alloc _) (g := w.heap.size + 1) (t := 34) (cs := (pv x).toArray) (by simp)).cells i).trans (by rw [List.getElem?_toArray]; exact hi))) (pv_one _) (by unfold maxLen; omega) (by omega) (by simp; omega) ?_)
  intro A4 c4 w4 own4 hgr4
  have y5 := ((b5.alloc _).alloc _).grown hgr4 (own_ne_box own b5 (by decide))
  have y3 := ((b3.alloc _).alloc _).grown hgr4 (own_ne_box own b3 (by decide))
  have KB : ∀ b cs, Box w b 49 cs → Box w4 b 49 cs := fun b cs hB => ((hB.alloc _).alloc _).grown hgr4 (own_ne_box own hB (by decide))
  have BL : Below base w w4 := (((Below.refl _ w).alloc hb _).alloc (by simp; omega) _).grown hgr4 (by simp; omega) (fun g hg => (own.lt g hg).1)
  have n53 : g3 ≠ g5 := Box.ne y3 y5 (by decide)
  clear k5 f5 hgr4 own
  have k5 := y5.cells
  have f5 := y5.free
  have k3 := y3.cells
  have l5 := y5.lt
  have l3 := y3.lt
  have OW := own4.kept (grownBy_setCell' w4 g5 (.slice A4 (pre.length + 1) c4)) (.inr (own_ne_box own4 y5 (by decide)).symm)
  have OW' : (w4.setCell ⟨g5, 0, none⟩ (.slice A4 (pre.length + 1) c4)).ownsRow base 34 7 (.slice A4 (pre ++ [x]).length c4) (pre ++ [x]).length (pvs (pre ++ [x])) := by rw [pvs_snoc, List.length_append]; exact OW
  have Z5 := y5.set 0 (.slice A4 (pre.length + 1) c4)
  have Z5' : Box (w4.setCell ⟨g5, 0, none⟩ (.slice A4 (pre.length + 1) c4)) g5 25 #[.slice A4 (pre ++ [x]).length c4] := by rw [List.length_append]; exact Z5
  have Z3 := y3.far' (i := 0) n53 (.slice A4 (pre.length + 1) c4)
  have KJ : Kj base w (w4.setCell ⟨g5, 0, none⟩ (.slice A4 (pre.length + 1) c4)) := ⟨BL.setCell (p := ⟨g5, 0, none⟩) hg5 _, fun b cs hB => (KB b cs hB).far' (Box.ne (KB b cs hB) y5 (by decide)) _⟩
  clear own4 OW BL KB Z5
  go_wp2
  go_ret
  exact ⟨rfl, ⟨Z3, A4, c4, Z5', OW'⟩, KJ⟩
theorem take_len {α : Type} {p L : List α} {m : Nat} (h : p <+: L) (hm : p.length = m) : L.take m = p := by
  rw [← hm]; exact (List.prefix_iff_eq_take.1 h).symm
set_option maxRecDepth 100000 in
set_option maxHeartbeats 2000000 in
theorem jeachf {Bl g3 g5 : Nat} {most : Int} {w0 w : World} (hm : (linesJ l).length ≤ 999999) (hm' : l.length ≤ 1000000) (hmo : 1 ≤ most) (hb0 : Below w0.heap.size w0 w) (hBl : Box w Bl 22 #[.slice A l.length c]) (hr : RowE w0 A l) (hg5 : w0.heap.size ≤ g5)
    (hF : FirB w w0.heap.size g3 g5 most []) :
    Calls Try.prog 78 #[.func (.func 51) #[] #[.pointer (some ⟨g5, 0, none⟩), .pointer (some ⟨g3, 0, none⟩)], .pointer (some ⟨Bl, 0, none⟩)] w fun e w' => e = .returned (.tuple #[]) ∧
      FirB w' w0.heap.size g3 g5 most ((linesJ l).take most.toNat) ∧ Below w0.heap.size w0 w' := by
  have kl := hBl.cells
  have HR := Lib.hid hr
  have EN := Lib.hid (outJ_end l)
  clear hr hBl
  go_enter Try.func78, Try.ntmps78
  go_wp2
  clear kl
  go_loopw [3, 10] (fun d i wr => ∃ k : Nat, k ≤ l.length ∧ d = .int .i64 ((outJ l k 0).length : Int) ∧ i = .int .i64 k ∧ FirB wr w0.heap.size g3 g5 most (outJ l k 0) ∧ ((outJ l k 0).length : Int) < most ∧ Below w0.heap.size w0 wr) (fun _ i _ => l.length - (intOf i).toNat)
  case atStart => exact ⟨0, by omega, by rw [outJ_zero]; rfl, rfl, by rw [outJ_zero]; exact hF, by rw [outJ_zero]; simp [linesJ, postE]; omega, hb0⟩
  case round =>
    clear hb0 hF
    obtain ⟨k, hk, rfl, rfl, hF, hlt0, hb0⟩ := hrel
    by_cases hkn : k < l.length
    · obtain ⟨g0, o0, rfl, hg0, hc0⟩ := (HR.out.below hb0 (Nat.le_refl _)).get (by omega)
      obtain ⟨e1, e2, e3⟩ := hc0 k hkn
      have HL := Lib.hid (HR.out.2 l[k] (List.getElem_mem hkn))
      have STP := Lib.hid fun (j : Nat) (hj : j < l[k].ls.length) => outJ_step hkn hj
      have PRE := Lib.hid fun (j : Nat) => outJ_pre (j := j) hkn
      have ALL := Lib.hid (outJ_all hkn)
      have hlsm := outJ_ls hkn
      clear hc0
      generalize l[k] = e at *
      obtain ⟨p, r, Ae, ce, ls⟩ := e
      dsimp only at e1 e2 e3 HL STP ALL hlsm
      obtain ⟨wo, rfl⟩ : ∃ w5, w5 = wr := ⟨_, rfl⟩
      have bX := Box.new wo 49 #[.int .i64 p, .int .i64 r, .slice Ae ls.length ce]
      have hsz := hb0.size
      go_wp2
      go_loopw [3, 18] (fun d i wx => ∃ j : Nat, j ≤ ls.length ∧ d = .int .i64 ((outJ l k j).length : Int) ∧ i = .int .i64 j ∧ FirB wx w0.heap.size g3 g5 most (outJ l k j) ∧ ((outJ l k j).length : Int) < most ∧ Box wx wo.heap.size 49 #[.int .i64 p, .int .i64 r, .slice Ae ls.length ce] ∧ Below w0.heap.size w0 wx) (fun _ i _ => ls.length - (intOf i).toNat)
      case atStart => exact ⟨0, by omega, rfl, rfl, hF.alloc _, hlt0, bX, hb0.alloc hb0.size _⟩
      case round =>
        clear hb0 bX hF hlt0 e1 e2 e3
        obtain ⟨j, hj, rfl, rfl, hF, hlt0, bX, hb0⟩ := hrel
        have hpl := (PRE.out j).length_le
        by_cases hjn : j < ls.length
        · obtain ⟨g4, o4, rfl, hg4, hc4⟩ := (HL.out.below hb0 (Nat.le_refl _)).lines (by omega)
          obtain ⟨a1, a2, a3, a4⟩ := hc4 j hjn
          have ST := Lib.hid (STP.out j hjn)
          have PR := Lib.hid (PRE.out (j + 1))
          have kX := bX.cells
          have lX := bX.lt
          have hsw := hb0.size
          clear hc4
          generalize ls[j] = x at *
          obtain ⟨x1, x2, x3, x4⟩ := x
          dsimp only at a1 a2 a3 a4
          have FI := jfirst1 (w := wr.alloc (.cells #[.int .i64 x1, .int .i64 x2, .int .i64 x3, .int .i64 x4] 32)) (pre := outJ l k j) ⟨((outJ l k j).length : Int) + 1, (k : Int) + 1, p, ⟨x1, x2, x3, x4⟩⟩ (by omega) (by simp; omega) hg5 (hF.alloc _)
          dsimp only [pv] at FI
          rw [← ST.out] at FI
          have hsl : (outJ l k (j + 1)).length = (outJ l k j).length + 1 := by rw [ST.out]; simp
          replace FI := Lib.hid FI
          have TK : Hid ((((outJ l k j).length + 1 : Nat) : Int) = most → (linesJ l).take most.toNat = outJ l k (j + 1)) := fun h => take_len PR.out (by rw [hsl]; omega)
          generalize outJ l k j = pre at *
          have hsl' := Lib.hid hsl
          clear hsl
          go_wp2_with fail
          refine FI.out.mono ?_
          rintro e w3 ⟨rfl, hF3, hk3⟩
          have hb3 := (hb0.alloc hb0.size (.cells #[.int .i64 x1, .int .i64 x2, .int .i64 x3, .int .i64 x4] 32)).trans hk3.low
          have bX3 := hk3.box _ _ (bX.alloc (.cells #[.int .i64 x1, .int .i64 x2, .int .i64 x3, .int .i64 x4] 32))
          clear hk3 kX lX a1 a2 a3 a4 hF bX
          by_cases hgo : (pre.length : Int) + 1 < most
          · have hgd : decide ((pre.length : Int) + 1 < most) = true := decide_eq_true hgo
            go_wp2
            go_roundw
            case rel => exact ⟨j + 1, by omega, by rw [hsl'.out]; rfl, by go_num, hF3, by rw [hsl'.out]; omega, bX3, hb3⟩
            case measure => simp [intOf]; omega
          · have hgd : decide ((pre.length : Int) + 1 < most) = false := decide_eq_false hgo
            have TK2 := Lib.hid (TK.out (by omega))
            clear hgo TK hlt0
            go_wp2
            refine bodyPost_ret (results_none rfl _ _ _) rfl ?_
            exact ⟨rfl, by rw [TK2.out]; exact hF3, hb3⟩
        · obtain rfl : j = ls.length := by omega
          rw [ALL.out] at hF hpl hlt0 ⊢
          clear bX
          go_wp2
          go_roundw
          case rel => exact ⟨k + 1, by omega, rfl, by go_num, hF, hlt0, hb0⟩
          case measure => simp [intOf]; omega
    · obtain rfl : k = l.length := by omega
      rw [EN.out] at hF hlt0 ⊢
      have TK := Lib.hid (List.take_of_length_le (l := linesJ l) (i := most.toNat) (by omega))
      go_wp2
      go_end0
      exact ⟨rfl, by rw [TK.out]; exact hF, hb0⟩
theorem run_eql_seq (w : World) (f : Fn) (b c : Array Value) : (binOp .eql 82 (.func f b c) .nilFunc).run Try.prog w = .ok (.bool false) w := by
  have h1 : ∀ d : Nat, (Op.equalIn (d + 1) 82 (.func f b c) .nilFunc).run Try.prog w = .ok false w := fun d => by simp [Op.equalIn, run_underlying Try.underlying82]
  simp only [binOp]
  simp [Op.equal, Op.maxDepth, h1 9999]
set_option maxRecDepth 100000 in
set_option maxHeartbeats 2000000 in
theorem jfirst_any {w : World} (most : Int) (hm : (linesJ l).length ≤ 999999) (hm' : l.length ≤ 1000000) (hmo : 1 ≤ most) (hr : RowE w A l) :
    Calls Try.prog 16 #[.slice A l.length c, .int .i64 most] w (NewP 34 ((linesJ l).take most.toNat) w) := by
  have EA := Lib.hid fun (w : World) => jeach_any A l.length c w
  have B3 : Below w.heap.size w (((w.alloc (.cells #[.int .i64 most] 3)).alloc (.cells #[.slice none 0 0] 25)).alloc (.cells #[.slice A l.length c] 22)) := (((Below.refl _ w).alloc (Nat.le_refl _) _).alloc (by simp) _).alloc (by simp; omega) _
  have F3 : FirB (((w.alloc (.cells #[.int .i64 most] 3)).alloc (.cells #[.slice none 0 0] 25)).alloc (.cells #[.slice A l.length c] 22)) w.heap.size w.heap.size (w.heap.size + 1) most [] :=
    ⟨((Box.new w _ _).alloc _).alloc _, none, 0, (Box.new' (w := w.alloc (.cells #[.int .i64 most] 3)) (by simp)).alloc _, World.ownsRow_nil _ _ _ _⟩
  have E := Lib.hid (jeachf (c := c) hm hm' hmo B3 (Box.new' (w := (w.alloc (.cells #[.int .i64 most] 3)).alloc (.cells #[.slice none 0 0] 25)) (g := w.heap.size + 1 + 1) (by simp)) hr (Nat.le_add_right _ 1) F3)
  clear B3 F3 hr hm hm'
  generalize (linesJ l).take most.toNat = L at *
  have EQ := run_eql_seq
  go_enter Try.func16, Try.ntmps16
  go_wp2_with fail
  refine (EA.out _).mono ?_
  rintro e _ ⟨rfl, rfl⟩
  go_wp2_with fail
  refine E.out.mono ?_
  rintro e w4 ⟨rfl, ⟨_, A5, c5, y5, own5⟩, b4⟩
  have k5 := y5.cells
  have l5 := y5.lt
  clear y5
  go_wp2
  go_ret
  exact ⟨A5, c5, rfl, own5, b4⟩
end
end Go.Proofs.Ythkaohjgldoipaa
