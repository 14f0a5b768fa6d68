/-
  journal: both Opposites.
-/
import Derived.Test.YthkaohjgldoipaaJo7
namespace Go.Proofs.Ythkaohjgldoipaa
open Go.RowKit

def oppE (ls : List Ln) : Int := if oppJ ls = true then 0 else 10
theorem oppE_bad {ls : List Ln} {j : Nat} (hj : j < ls.length) (h : ls[j].m = leastJ) : oppE ls = 10 := by
  unfold oppE
  rw [if_neg]
  intro ho
  have := List.all_eq_true.1 ho ls[j] (List.getElem_mem hj)
  rw [h] at this
  simp [leastJ] at this
theorem oppE_ok {ls : List Ln} (h : ∀ j (hj : j < ls.length), ls[j].m ≠ leastJ) : oppE ls = 0 := by
  unfold oppE
  rw [if_pos]
  refine List.all_eq_true.2 fun x hx => ?_
  obtain ⟨j, hj, rfl⟩ := List.getElem_of_mem hx
  simpa [leastJ] using h j hj
/-- What Opposite tells: some entry, and the error. -/
def OppR (ls : List Ln) (w : World) (e : Ending) (w' : World) : Prop :=
  ∃ a b A n c, e = .returned (.tuple #[.agg #[.int .i64 a, .int .i64 b, .slice A n c], .int .i64 (oppE ls)]) ∧ Below w.heap.size w w'
theorem grownBy_setI (W : World) (b i : Nat) (v : Value) : W.grownBy (W.setCell ⟨b, i, none⟩ v) (some b) :=
  ⟨rfl, rfl, rfl, by rw [World.size_setCell]; exact Nat.le_refl _, fun k _ hne => Below.heap_setCell W ⟨b, i, none⟩ v k (fun e => hne (by rw [e]))⟩
def WfL (ls : List Ln) : Prop := ∀ x ∈ ls, -9223372036854775808 ≤ x.m ∧ x.m ≤ 9223372036854775807
section
variable {A : Option Addr} {c : Nat} {ls : List Ln} {w : World}
set_option maxRecDepth 100000 in
set_option maxHeartbeats 4000000 in
theorem jopp_any (p r : Int) (hm : ls.length ≤ 1000000) (hwf : WfL ls) (hr : RowAt w A (lvs ls)) : Calls Try.prog 54 #[.agg #[.int .i64 p, .int .i64 r, .slice A ls.length c]] w (OppR ls w) := by
  have CL := Lib.hid fun (w : World) (hr : RowAt w A (lvs ls)) => jclone_any (c := c) hm hr
  have R := Lib.hid hr
  have y1 := ((Box.new w 49 #[.int .i64 p, .int .i64 r, .slice A ls.length c]).alloc (.cells #[.int .i64 0, .int .i64 0, .slice none 0 0] 49)).alloc (.cells #[.int .i64 p, .int .i64 r, .slice A ls.length c] 49)
  have y2 := (Box.new' (w := w.alloc (.cells #[.int .i64 p, .int .i64 r, .slice A ls.length c] 49)) (g := w.heap.size + 1) (t := 49) (cs := #[.int .i64 0, .int .i64 0, .slice none 0 0]) (by simp)).alloc (.cells #[.int .i64 p, .int .i64 r, .slice A ls.length c] 49)
  have y4 := Box.new' (w := (w.alloc (.cells #[.int .i64 p, .int .i64 r, .slice A ls.length c] 49)).alloc (.cells #[.int .i64 0, .int .i64 0, .slice none 0 0] 49)) (g := w.heap.size + 1 + 1) (t := 49) (cs := #[.int .i64 p, .int .i64 r, .slice A ls.length c]) (by simp)
  have hb : Below w.heap.size w (((w.alloc (.cells #[.int .i64 p, .int .i64 r, .slice A ls.length c] 49)).alloc (.cells #[.int .i64 0, .int .i64 0, .slice none 0 0] 49)).alloc (.cells #[.int .i64 p, .int .i64 r, .slice A ls.length c] 49)) := (((Below.refl _ w).alloc (Nat.le_refl _) _).alloc (by simp) _).alloc (by simp; omega) _
  have hr3 := hr.below hb (Nat.le_refl _)
  clear hr
  go_enter Try.func54, Try.ntmps54
  go_wp2_with fail
  refine (CL.out _ hr3).mono ?_
  rintro e w4 ⟨A4, c4, rfl, own4, b4⟩
  replace y1 := y1.later b4
  replace y2 := y2.later b4
  replace y4 := y4.later b4
  have hsb := hb.size
  replace own4 := own_base (base' := w.heap.size) own4 hsb
  replace hb := hb.trans (b4.mono hsb)
  clear b4 hr3 CL hsb
  have z4 := y4.set 2 (.slice A4 ls.length c4)
  have z1 := y1.far' (g' := w.heap.size + 1 + 1) (i := 2) (by omega) (.slice A4 ls.length c4)
  have z2 := y2.far' (g' := w.heap.size + 1 + 1) (i := 2) (by omega) (.slice A4 ls.length c4)
  have own5 := own4.kept (grownBy_setI w4 (w.heap.size + 1 + 1) 2 (.slice A4 ls.length c4)) (.inr (own_ne_box own4 y4 (by decide)).symm)
  have hb5 := hb.setCell (p := ⟨w.heap.size + 1 + 1, 2, none⟩) (by show w.heap.size ≤ w.heap.size + 1 + 1; omega) (.slice A4 ls.length c4)
  have k1 := y1.cells
  have k2 := y2.cells
  have k4 := y4.cells
  have f4 := y4.free
  have l1 := y1.lt
  have l2 := y2.lt
  have l4 := y4.lt
  clear y1 y2 y4 own4 hb
  have Z4 : Box (w4.setCell ⟨w.heap.size + 1 + 1, 2, none⟩ (.slice A4 ls.length c4)) (w.heap.size + 1 + 1) 49 #[.int .i64 p, .int .i64 r, .slice A4 ls.length c4] := z4
  clear z4
  have H0 : Hid (∀ i (hi : i < ls.length), i < 0 → ls[i].m ≠ leastJ) := fun i _ h => by omega
  go_wp2
  clear k1 k2 k4 f4 l1 l2 l4
  go_loopw [17] (fun i wr => ∃ (j : Nat) (xs : List Value), j ≤ ls.length ∧ i = .int .i64 j ∧ Hid (∀ i (hi : i < ls.length), i < j → ls[i].m ≠ leastJ) ∧ Box wr w.heap.size 49 #[.int .i64 p, .int .i64 r, .slice A ls.length c] ∧
    Box wr (w.heap.size + 1) 49 #[.int .i64 0, .int .i64 0, .slice none 0 0] ∧ Box wr (w.heap.size + 1 + 1) 49 #[.int .i64 p, .int .i64 r, .slice A4 ls.length c4] ∧ wr.ownsRow w.heap.size 32 4 (.slice A4 ls.length c4) ls.length xs ∧ Below w.heap.size w wr) (fun i _ => ls.length - (intOf i).toNat)
  case atStart => exact ⟨0, _, by omega, rfl, H0, z1, z2, Z4, own5, hb5⟩
  case round =>
    clear H0 z1 z2 Z4 own5 hb5
    obtain ⟨j, xs, hj, rfl, HP, y1, y2, y4, own, hb⟩ := hrel
    have k1 := y1.cells
    have k2 := y2.cells
    have k4 := y4.cells
    have f2 := y2.free
    have l1 := y1.lt
    have l2 := y2.lt
    have l4 := y4.lt
    by_cases hjn : j < ls.length
    · obtain ⟨b0, o0, rfl, hb0, hc0⟩ := (R.out.below hb (Nat.le_refl _)).lines (by omega)
      obtain ⟨a1, a2, a3, a4⟩ := hc0 j hjn
      obtain ⟨m1, m2⟩ := hwf ls[j] (List.getElem_mem hjn)
      have BAD := Lib.hid fun h => oppE_bad hjn h
      have NXT : Hid (ls[j].m ≠ leastJ → ∀ i (hi : i < ls.length), i < j + 1 → ls[i].m ≠ leastJ) := fun h i hi hij => by
        rcases Nat.lt_or_ge i j with h1 | h1
        · exact HP.out i hi h1
        · obtain rfl : i = j := by omega
          exact h
      clear hc0 HP
      generalize ls[j] = x at *
      obtain ⟨x1, x2, x3, x4⟩ := x
      dsimp only at a1 a2 a3 a4 m1 m2 BAD NXT
      have NG := Lib.hid fun (w : World) => jneg_any (w := w) m1 m2
      clear m1 m2
      by_cases hx : x4 = leastJ
      · have HE := Lib.hid (BAD.out hx)
        rw [hx, negJ_least, ← hx] at NG
        clear hx BAD NXT
        have q1 : w.heap.size ≤ w.heap.size + 1 := by omega
        have B2 := ((hb.setCell (p := ⟨w.heap.size + 1, 0, none⟩) q1 (.int .i64 0)).setCell (p := ⟨w.heap.size + 1, 1, none⟩) q1 (.int .i64 0)).setCell (p := ⟨w.heap.size + 1, 2, none⟩) q1 (.slice none 0 0)
        have B3 := B2.alloc B2.size (.cells #[.int .i64 x1, .int .i64 x2, .int .i64 x3, .int .i64 x4] 32)
        have Y2 := (((y2.set 0 (.int .i64 0)).set 1 (.int .i64 0)).set 2 (.slice none 0 0)).alloc (.cells #[.int .i64 x1, .int .i64 x2, .int .i64 x3, .int .i64 x4] 32)
        have K2 := Y2.cells
        clear Y2 B2 hb y1 y2 y4 own
        go_wp2_with fail
        refine (NG.out _).mono ?_
        rintro e _ ⟨rfl, rfl⟩
        go_wp2
        refine bodyPost_ret (by unfold results; simp only [Try.results54]; go_simp; rfl) rfl ?_
        exact ⟨0, 0, none, 0, 0, by rw [HE.out], B3⟩
      · have N2 := Lib.hid (NXT.out hx)
        rw [negJ_in hx] at NG
        clear hx BAD NXT
        obtain ⟨A', c', hv, hf⟩ := own_form own
        obtain ⟨g4, hA, hg1, hg2⟩ := hf (by omega)
        injection hv with hv1 _ hv3
        subst hv1 hv3 hA
        have hxl : j * 4 + 3 < xs.length := by have := own.1; omega
        have u4 : wr.cell? ⟨g4, j * 4 + 3, none⟩ = some xs[j * 4 + 3] := by
          rw [own.cellAt (j * 4 + 3) (by have := own.1; omega)]; exact List.getElem?_eq_getElem hxl
        have z4 := own.frozenAt (j * 4 + 3)
        generalize xs[j * 4 + 3] = u at *
        generalize hn : -x4 = y at *
        replace hn := Lib.hid hn
        have own2 := (own.stored (j * 4 + 3) (.int .i64 y)).1
        have n1 : w.heap.size ≠ g4 := fun he => own_ne_box own y1 (by decide) (by rw [he]; rfl)
        have n2 : w.heap.size + 1 ≠ g4 := fun he => own_ne_box own y2 (by decide) (by rw [he]; rfl)
        have n4 : w.heap.size + 1 + 1 ≠ g4 := fun he => own_ne_box own y4 (by decide) (by rw [he]; rfl)
        have y1' := (y1.far' (i := j * 4 + 3) n1 (.int .i64 y)).alloc (.cells #[.int .i64 x1, .int .i64 x2, .int .i64 x3, .int .i64 x4] 32)
        have y2' := (y2.far' (i := j * 4 + 3) n2 (.int .i64 y)).alloc (.cells #[.int .i64 x1, .int .i64 x2, .int .i64 x3, .int .i64 x4] 32)
        have y4' := (y4.far' (i := j * 4 + 3) n4 (.int .i64 y)).alloc (.cells #[.int .i64 x1, .int .i64 x2, .int .i64 x3, .int .i64 x4] 32)
        have B2 := hb.setCell (p := ⟨g4, j * 4 + 3, none⟩) hg1 (.int .i64 y)
        have B3 := B2.alloc B2.size (.cells #[.int .i64 x1, .int .i64 x2, .int .i64 x3, .int .i64 x4] 32)
        have own3 := own2.alloc (.cells #[.int .i64 x1, .int .i64 x2, .int .i64 x3, .int .i64 x4] 32)
        clear own own2 B2 hb y1 y2 y4 n1 n2 n4 hxl
        go_wp2_with fail
        refine (NG.out _).mono ?_
        rintro e _ ⟨rfl, rfl⟩
        go_wp2
        go_roundw
        case rel => exact ⟨j + 1, _, by omega, by go_num, N2, y1', y2', y4', own3, B3⟩
        case measure => simp [intOf]; omega
    · obtain rfl : j = ls.length := by omega
      have HE := Lib.hid (oppE_ok fun i hi => HP.out i hi hi)
      clear HP
      have q1 : w.heap.size ≤ w.heap.size + 1 := by omega
      have B3 := ((hb.setCell (p := ⟨w.heap.size + 1, 0, none⟩) q1 (.int .i64 p)).setCell (p := ⟨w.heap.size + 1, 1, none⟩) q1 (.int .i64 r)).setCell (p := ⟨w.heap.size + 1, 2, none⟩) q1 (.slice A4 ls.length c4)
      have Y2 := ((y2.set 0 (.int .i64 p)).set 1 (.int .i64 r)).set 2 (.slice A4 ls.length c4)
      have K2 := Y2.cells
      clear Y2 hb y1 y2 y4 own
      go_wp2
      refine bodyPost_ret (by unfold results; simp only [Try.results54]; go_simp; rfl) rfl ?_
      exact ⟨p, r, A4, ls.length, c4, by rw [HE.out], B3⟩
set_option maxRecDepth 100000 in
set_option maxHeartbeats 4000000 in
theorem ropp_any (p r : Int) (hm : ls.length ≤ 1000000) (hr : RowAt w A (lvs ls)) : Calls Try.prog 55 #[.agg #[.int .i64 p, .int .i64 r, .slice A ls.length c]] w (OppR ls w) := by
  obtain ⟨i0, hi, hz0, hz1, hz2⟩ := info_parts Try.infoLine
  have R := Lib.hid hr
  have y1 := ((Box.new w 49 #[.int .i64 p, .int .i64 r, .slice A ls.length c]).alloc (.cells #[.int .i64 0, .int .i64 0, .slice none 0 0] 49)).alloc (.cells #[.int .i64 p, .int .i64 r, .slice none 0 0] 49)
  have y2 := (Box.new' (w := w.alloc (.cells #[.int .i64 p, .int .i64 r, .slice A ls.length c] 49)) (g := w.heap.size + 1) (t := 49) (cs := #[.int .i64 0, .int .i64 0, .slice none 0 0]) (by simp)).alloc (.cells #[.int .i64 p, .int .i64 r, .slice none 0 0] 49)
  have y4 := Box.new' (w := (w.alloc (.cells #[.int .i64 p, .int .i64 r, .slice A ls.length c] 49)).alloc (.cells #[.int .i64 0, .int .i64 0, .slice none 0 0] 49)) (g := w.heap.size + 1 + 1) (t := 49) (cs := #[.int .i64 p, .int .i64 r, .slice none 0 0]) (by simp)
  have hb : Below w.heap.size w (((w.alloc (.cells #[.int .i64 p, .int .i64 r, .slice A ls.length c] 49)).alloc (.cells #[.int .i64 0, .int .i64 0, .slice none 0 0] 49)).alloc (.cells #[.int .i64 p, .int .i64 r, .slice none 0 0] 49)) := (((Below.refl _ w).alloc (Nat.le_refl _) _).alloc (by simp) _).alloc (by simp; omega) _
  have H0 : Hid (∀ i (hi : i < ls.length), i < 0 → ls[i].m ≠ leastJ) := fun i _ h => by omega
  clear hr
  go_enter Try.func55, Try.ntmps55
  go_wp2
  go_loopw [5] (fun i wr => ∃ (j : Nat) (xs : List Value) (A4 : Option Addr) (c4 : Nat), j ≤ ls.length ∧ i = .int .i64 j ∧ Hid (∀ i (hi : i < ls.length), i < j → ls[i].m ≠ leastJ) ∧ Box wr w.heap.size 49 #[.int .i64 p, .int .i64 r, .slice A ls.length c] ∧
    Box wr (w.heap.size + 1) 49 #[.int .i64 0, .int .i64 0, .slice none 0 0] ∧ Box wr (w.heap.size + 1 + 1) 49 #[.int .i64 p, .int .i64 r, .slice A4 j c4] ∧ wr.ownsRow w.heap.size 32 4 (.slice A4 j c4) j xs ∧ Below w.heap.size w wr) (fun i _ => ls.length - (intOf i).toNat)
  case atStart => exact ⟨0, [], none, 0, by omega, rfl, H0, y1, y2, y4, World.ownsRow_nil _ _ _ _, hb⟩
  case round =>
    clear H0 y1 y2 y4 hb
    obtain ⟨j, xs, A4, c4, hj, rfl, HP, y1, y2, y4, own, hb⟩ := hrel
    have k1 := y1.cells
    have k2 := y2.cells
    have k4 := y4.cells
    have f2 := y2.free
    have f4 := y4.free
    have l1 := y1.lt
    have l2 := y2.lt
    have l4 := y4.lt
    by_cases hjn : j < ls.length
    · obtain ⟨b0, o0, rfl, hb0, hc0⟩ := (R.out.below hb (Nat.le_refl _)).lines (by omega)
      obtain ⟨a1, a2, a3, a4⟩ := hc0 j hjn
      have BAD := Lib.hid fun h => oppE_bad hjn h
      have NXT : Hid (ls[j].m ≠ leastJ → ∀ i (hi : i < ls.length), i < j + 1 → ls[i].m ≠ leastJ) := fun h i hi hij => by
        rcases Nat.lt_or_ge i j with h1 | h1
        · exact HP.out i hi h1
        · obtain rfl : i = j := by omega
          exact h
      clear hc0 HP
      generalize ls[j] = x at *
      obtain ⟨x1, x2, x3, x4⟩ := x
      dsimp only at a1 a2 a3 a4 BAD NXT
      by_cases hx : x4 = leastJ
      · have HE := Lib.hid (BAD.out hx)
        have he : (x4 == -9223372036854775808) = true := by rw [hx]; rfl
        clear hx BAD NXT
        have q1 : w.heap.size ≤ w.heap.size + 1 := by omega
        have B2 := ((hb.setCell (p := ⟨w.heap.size + 1, 0, none⟩) q1 (.int .i64 0)).setCell (p := ⟨w.heap.size + 1, 1, none⟩) q1 (.int .i64 0)).setCell (p := ⟨w.heap.size + 1, 2, none⟩) q1 (.slice none 0 0)
        have B3 := B2.alloc B2.size (.cells #[.int .i64 x1, .int .i64 x2, .int .i64 x3, .int .i64 x4] 32)
        have Y2 := (((y2.set 0 (.int .i64 0)).set 1 (.int .i64 0)).set 2 (.slice none 0 0)).alloc (.cells #[.int .i64 x1, .int .i64 x2, .int .i64 x3, .int .i64 x4] 32)
        have K2 := Y2.cells
        clear Y2 B2 hb y1 y2 y4 own
        go_wp2
        refine bodyPost_ret (by unfold results; simp only [Try.results55]; go_simp; rfl) rfl ?_
        exact ⟨0, 0, none, 0, 0, by rw [HE.out], B3⟩
      · have N2 := Lib.hid (NXT.out hx)
        have he : (x4 == -9223372036854775808) = false := beq_eq_false_iff_ne.2 hx
        clear hx BAD NXT
        obtain ⟨y, hy⟩ : ∃ y, wrap64 (-x4) = y := ⟨_, rfl⟩
        have hsb := hb.size
        go_wp2_with (at_builtin; refine wpList_append_rowN rfl _ _ 47 rfl w.heap.size 32 i0 (.agg #[.int .i64 0, .int .i64 0, .int .i64 0, .int .i64 0]) 4 32 Try.underlying47 hi hz0 hz1 hz2 rfl (by decide) _ j xs rfl ((own.alloc _).alloc _) (some ⟨wr.heap.size + 1, 0, none⟩) 1 1 (lv ⟨x1, x2, x3, y⟩) rfl rfl (RowAt.of_cells (fun i u hi => by rw [addr_add, Nat.zero_add]; exact ((Box.new' (w := wr.alloc _) (g := wr.heap.size + 1) (t := 32) (cs := (lv ⟨x1, x2, x3, y⟩).toArray) (by simp)).cells i).trans (by rw [List.getElem?_toArray]; exact hi))) (lv_one _) (by unfold maxLen; omega) (by omega) (by simp; omega) ?_)
        intro A5 c5 w5 own5 hgr5
        have n1 := own_ne_box own y1 (by decide)
        have n2 := own_ne_box own y2 (by decide)
        have n4 := own_ne_box own y4 (by decide)
        have z1 := ((y1.alloc _).alloc _).grown hgr5 n1
        have z2 := ((y2.alloc _).alloc _).grown hgr5 n2
        have z4 := ((y4.alloc _).alloc _).grown hgr5 n4
        have B5 := ((hb.alloc hsb _).alloc (by simp; omega) _).grown hgr5 (by simp; omega) (fun g hg => (own.lt g hg).1)
        clear k1 k2 k4 f2 f4 l1 l2 l4 y1 y2 y4 hgr5 own hb n1 n2 n4
        have k4 := z4.cells
        have f4 := z4.free
        have l4 := z4.lt
        have Z4 := z4.set 2 (.slice A5 (j + 1) c5)
        have Z4' : Box (w5.setCell ⟨w.heap.size + 1 + 1, 2, none⟩ (.slice A5 (j + 1) c5)) (w.heap.size + 1 + 1) 49 #[.int .i64 p, .int .i64 r, .slice A5 (j + 1) c5] := Z4
        have Z1 := z1.far' (g' := w.heap.size + 1 + 1) (i := 2) (by omega) (.slice A5 (j + 1) c5)
        have Z2 := z2.far' (g' := w.heap.size + 1 + 1) (i := 2) (by omega) (.slice A5 (j + 1) c5)
        have OW := own5.kept (grownBy_setI w5 (w.heap.size + 1 + 1) 2 (.slice A5 (j + 1) c5)) (.inr (own_ne_box own5 z4 (by decide)).symm)
        have B6 := B5.setCell (p := ⟨w.heap.size + 1 + 1, 2, none⟩) (by show w.heap.size ≤ w.heap.size + 1 + 1; omega) (.slice A5 (j + 1) c5)
        clear Z4 z1 z2 own5 B5 z4
        go_wp2
        go_roundw
        case rel => exact ⟨j + 1, _, A5, c5, by omega, by go_num, N2, Z1, Z2, Z4', OW, B6⟩
        case measure => simp [intOf]; omega
    · obtain rfl : j = ls.length := by omega
      have HE := Lib.hid (oppE_ok fun i hi => HP.out i hi hi)
      clear HP
      have q1 : w.heap.size ≤ w.heap.size + 1 := by omega
      have B3 := ((hb.setCell (p := ⟨w.heap.size + 1, 0, none⟩) q1 (.int .i64 p)).setCell (p := ⟨w.heap.size + 1, 1, none⟩) q1 (.int .i64 r)).setCell (p := ⟨w.heap.size + 1, 2, none⟩) q1 (.slice A4 ls.length c4)
      have Y2 := ((y2.set 0 (.int .i64 p)).set 1 (.int .i64 r)).set 2 (.slice A4 ls.length c4)
      have K2 := Y2.cells
      clear Y2 hb y1 y2 y4 own
      go_wp2
      refine bodyPost_ret (by unfold results; simp only [Try.results55]; go_simp; rfl) rfl ?_
      exact ⟨p, r, A4, ls.length, c4, by rw [HE.out], B3⟩
end
end Go.Proofs.Ythkaohjgldoipaa
