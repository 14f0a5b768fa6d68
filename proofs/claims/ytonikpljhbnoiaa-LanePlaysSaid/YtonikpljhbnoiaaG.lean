/-
  The walk of LanePlays: true for every two rooms and every list of calls; no further condition.
-/
import Derived.Test.YtonikpljhbnoiaaF
import Derived.Test.YtonikpljhbnoiaaK2
namespace Go.Proofs.Ytonikpljhbnoiaa
open Go.RowKit Go.Conc

/-- A slice of calls that came in: element i lies at two cells. -/
def ActsAt (w : World) (A : Option Addr) (l : List (Int × Int)) : Prop :=
  0 < l.length → ∃ b off, A = some ⟨b, off, none⟩ ∧ b < w.heap.size ∧ ∀ j (h : j < l.length), w.cell? ⟨b, off + j * 2, none⟩ = some (.int .i64 l[j].1) ∧ w.cell? ⟨b, off + j * 2 + 1, none⟩ = some (.int .i64 l[j].2)

/-- What holds behind the document's answer: its rows lie in block 'next', and what was there is as it was. -/
def CutRel (G a b : Nat) (w5 : World) (T : Told) (s18 s19 s20 s21 : Value) (w' : World) : Prop :=
  ∃ g18 B0 d0 B1 d1, s18 = .pointer (some ⟨g18, 0, none⟩) ∧ s19 = .int .i64 T.x ∧ s20 = .int .i64 T.e ∧ s21 = .bool T.ok ∧ T.l.length ≤ d0 ∧ T.m.length ≤ d1 ∧
    Box w' g18 34 #[.slice B0 T.l.length d0, .int .i64 a, .slice B1 T.m.length d1, .int .i64 b] ∧ RowS (fun x => G < x) w' B0 (ivals T.l) ∧ RowS (fun x => G < x) w' B1 (ivals T.m) ∧ G < g18 ∧ Below w5.heap.size w5 w'

theorem box4 {w : World} {g : Nat} {t : TypeId} {a b c d : Value} (h : Box w g t #[a, b, c, d]) (a' b' c' d' : Value) :
    Box ((((w.setCell ⟨g, 0, none⟩ a').setCell ⟨g, 1, none⟩ b').setCell ⟨g, 2, none⟩ c').setCell ⟨g, 3, none⟩ d') g t #[a', b', c', d'] := by
  have := (((h.set 0 a').set 1 b').set 2 c').set 3 d'
  simpa using this
theorem cutA {G a b : Nat} {w5 w6 : World} {T : Told} {B0 B1 : Option Addr} {d0 d1 : Nat} (m0 : T.l.length ≤ d0) (m1 : T.m.length ≤ d1) (j0 : RowS (fun x => G < x ∨ w5.heap.size ≤ x) w6 B0 (ivals T.l)) (j1 : RowS (fun x => G < x ∨ w5.heap.size ≤ x) w6 B1 (ivals T.m))
    (hb : Below w5.heap.size w5.drew w6) (hG : G < w5.heap.size) :
    CutRel G a b w5 T (.pointer (some ⟨w6.heap.size, 0, none⟩)) (.int .i64 T.x) (.int .i64 T.e) (.bool T.ok) (w6.alloc (.cells #[.slice B0 T.l.length d0, .int .i64 a, .slice B1 T.m.length d1, .int .i64 b] 34)) := by
  have hs : w5.heap.size ≤ w6.heap.size := hb.size
  exact ⟨_, _, _, _, _, rfl, rfl, rfl, rfl, m0, m1, Box.new _ _ _, (j0.mono fun x _ h => by omega).alloc _, (j1.mono fun x _ h => by omega).alloc _, by omega, ((⟨hb.os, hb.tape, hb.output, hb.size, hb.block⟩ : Below w5.heap.size w5 w6)).alloc hs _⟩
theorem cutB {G a b : Nat} {w5 w6 : World} {o : Obj} {T : Told} {B0 B1 : Option Addr} {d0 d1 : Nat} {z0 z1 z2 z3 : Value} (m0 : T.l.length ≤ d0) (m1 : T.m.length ≤ d1) (j0 : RowS (fun x => (G < x ∧ x < w5.heap.size) ∨ (w5.alloc o).drew.heap.size ≤ x) w6 B0 (ivals T.l)) (j1 : RowS (fun x => (G < x ∧ x < w5.heap.size) ∨ (w5.alloc o).drew.heap.size ≤ x) w6 B1 (ivals T.m))
    (bx : Box w6 w5.heap.size 34 #[z0, z1, z2, z3]) (hb : Below (w5.alloc o).drew.heap.size (w5.alloc o).drew w6) (hG : G < w5.heap.size) :
    CutRel G a b w5 T (.pointer (some ⟨w5.heap.size, 0, none⟩)) (.int .i64 T.x) (.int .i64 T.e) (.bool T.ok)
      ((((w6.setCell ⟨w5.heap.size, 0, none⟩ (.slice B0 T.l.length d0)).setCell ⟨w5.heap.size, 1, none⟩ (.int .i64 a)).setCell ⟨w5.heap.size, 2, none⟩ (.slice B1 T.m.length d1)).setCell ⟨w5.heap.size, 3, none⟩ (.int .i64 b)) := by
  have hz : (w5.alloc o).drew.heap.size = w5.heap.size + 1 := by show (w5.alloc o).heap.size = _; simp
  rw [hz] at j0 j1
  have k0 : RowS (fun x => G < x ∧ x ≠ w5.heap.size) w6 B0 (ivals T.l) := j0.mono fun x _ h => by omega
  have k1 : RowS (fun x => G < x ∧ x ≠ w5.heap.size) w6 B1 (ivals T.m) := j1.mono fun x _ h => by omega
  have hb' : Below w5.heap.size w5 w6 := ((Below.refl _ w5).alloc (Nat.le_refl _) o).trans ((⟨hb.os, hb.tape, hb.output, hb.size, hb.block⟩ : Below (w5.alloc o).drew.heap.size (w5.alloc o) w6).mono (by rw [hz]; omega))
  refine ⟨_, _, _, _, _, rfl, rfl, rfl, rfl, m0, m1, box4 bx _ _ _ _, ?_, ?_, hG, ?_⟩
  · exact ((((k0.setCell (by simp) _).setCell (by simp) _).setCell (by simp) _).setCell (by simp) _).mono fun x _ h => h.1
  · exact ((((k1.setCell (by simp) _).setCell (by simp) _).setCell (by simp) _).setCell (by simp) _).mono fun x _ h => h.1
  · exact (((hb'.setCell (Nat.le_refl _) _).setCell (Nat.le_refl _) _).setCell (Nat.le_refl _) _).setCell (Nat.le_refl _) _

theorem quiet_left' {P : Program} {f : FuncId} {args : Array Value} {w : World} {n : Nat} {v : Value}
    (h : Calls P f args (w.drewN n) fun e w' => e = .returned v ∧ w.drewN n = w') : Calls P f args (w.drewN n) fun e w'' => e = .returned v ∧ ∃ m, w'' = w.drewN m :=
  h.mono fun _ _ ⟨he, hm⟩ => ⟨he, n, hm.symm⟩
theorem QAt.setCell {w : World} {T g c room g' i : Nat} {xs : List Value} (h : QAt w T g c room xs) (h1 : g ≠ g') (h2 : c ≠ g') (u : Value) : QAt (w.setCell ⟨g', i, none⟩ u) T g c room xs := by
  obtain ⟨h3, s, r, h4⟩ := h
  exact ⟨(Below.heap_setCell w ⟨g', i, none⟩ u g h1).trans h3, s, r, (Below.heap_setCell w ⟨g', i, none⟩ u c h2).trans h4⟩
theorem roundFacts {wc wd w : World} {g c g' c' a b G9 G11 : Nat} {B0 B1 : Option Addr} {d0 d1 : Nat} {T0 T1 : List Int} {V : Array Value} {z0 z1 z2 z3 : Value}
    (hwd : wd = ((((wc.setCell ⟨G11 + 1, 0, none⟩ (.slice B0 T0.length d0)).setCell ⟨G11 + 1, 1, none⟩ (.int .i64 a)).setCell ⟨G11 + 1, 2, none⟩ (.slice B1 T1.length d1)).setCell ⟨G11 + 1, 3, none⟩ (.int .i64 b)))
    (hp : QAt wc 58 g c a (ivals T0)) (hq : QAt wc 58 g' c' b (ivals T1)) (hG : g < G11 ∧ c < G11 ∧ g' < G11 ∧ c' < G11 ∧ G9 < G11)
    (b9 : Box wc G9 31 V) (b11 : Box wc G11 31 #[.slice none 0 0, .int .i64 b]) (b13 : Box wc (G11 + 1) 34 #[z0, z1, z2, z3])
    (j0 : RowS (fun x => G11 + 1 < x) wc B0 (ivals T0)) (j1 : RowS (fun x => G11 + 1 < x) wc B1 (ivals T1)) (hb : Below w.heap.size w wc) (hw : w.heap.size ≤ G11) (hs : G11 + 2 ≤ wc.heap.size) :
    QAt wd 58 g c a (ivals T0) ∧ QAt wd 58 g' c' b (ivals T1) ∧ Box wd G9 31 V ∧ Box wd G11 31 #[.slice none 0 0, .int .i64 b] ∧ Box wd (G11 + 1) 34 #[.slice B0 T0.length d0, .int .i64 a, .slice B1 T1.length d1, .int .i64 b] ∧
      RowS (fun x => G11 + 1 < x) wd B0 (ivals T0) ∧ RowS (fun x => G11 + 1 < x) wd B1 (ivals T1) ∧ Below w.heap.size w wd ∧ G11 + 2 ≤ wd.heap.size := by
  obtain ⟨h1, h2, h3, h4, h5⟩ := hG
  subst hwd
  refine ⟨?_, ?_, ?_, ?_, box4 b13 _ _ _ _, ?_, ?_, ?_, ?_⟩
  · exact (((hp.setCell (by omega) (by omega) _).setCell (by omega) (by omega) _).setCell (by omega) (by omega) _).setCell (by omega) (by omega) _
  · exact (((hq.setCell (by omega) (by omega) _).setCell (by omega) (by omega) _).setCell (by omega) (by omega) _).setCell (by omega) (by omega) _
  · exact (((b9.far' (by omega) _).far' (by omega) _).far' (by omega) _).far' (by omega) _
  · exact (((b11.far' (by omega) _).far' (by omega) _).far' (by omega) _).far' (by omega) _
  · exact (((j0.setCell (by omega) _).setCell (by omega) _).setCell (by omega) _).setCell (by omega) _
  · exact (((j1.setCell (by omega) _).setCell (by omega) _).setCell (by omega) _).setCell (by omega) _
  · exact (((hb.setCell (by simp; omega) _).setCell (by simp; omega) _).setCell (by simp; omega) _).setCell (by simp; omega) _
  · simpa [World.setCell] using hs

set_option maxRecDepth 100000 in
set_option maxHeartbeats 4000000 in
theorem plays_main (a b : Nat) (A : Option Addr) (cap : Nat) (l : List (Int × Int)) (w : World) (ha1 : 1 ≤ a) (ha2 : a ≤ 1000) (hb1 : 1 ≤ b) (hb2 : b ≤ 1000) (hl : l.length ≤ 100) (hrow : ActsAt w A l) :
    Calls Try.prog 3 #[.agg #[.int .i64 a, .int .i64 b], .slice A l.length cap] w fun e w' => e = .returned (.bool true) ∧ Below w.heap.size w w' := by
  go_enter Try.func3, Try.ntmps3
  go_wp2_with fail
  refine (new_in _ a ha1 ha2).mono ?_
  rintro e w1 ⟨g, c, rfl, hp, hg1, hc1, hbe⟩
  have hB1 := ((Box.new w 22 #[.int .i64 a, .int .i64 b]).later hbe)
  have hb : Below w.heap.size w w1 := ((Below.refl _ _).alloc (Nat.le_refl _) _).trans (hbe.mono (by simp))
  simp only [World.size_alloc] at hg1 hc1
  have hs1 : w.heap.size + 1 ≤ w1.heap.size := by have := hbe.size; simpa using this
  clear hbe
  have kc := hB1.cells
  have hpl := hp.lt
  go_wp2_with fail
  refine (new_in _ b hb1 hb2).mono ?_
  rintro e w2 ⟨g', c', rfl, hq, hg2, hc2, hbe⟩
  have hp := hp.below hbe (by omega) (by omega)
  have hB1 := hB1.later hbe
  have hb := hb.trans (hbe.mono (by omega))
  have hne : c ≠ c' := by omega
  have hs2 : w.heap.size + 1 ≤ w2.heap.size := by have := hbe.size; omega
  clear hbe kc
  have kc := hB1.cells
  have klt := hB1.lt
  go_wp2_with fail
  refine (rnew_yes _ a ha1 ha2).mono ?_
  rintro e w3 ⟨rfl, hbe⟩
  have hql := hq.lt
  have hp := hp.below hbe (by omega) (by omega)
  have hq := hq.below hbe (by omega) (by omega)
  have hB1 := hB1.later hbe
  have hb := hb.trans (hbe.mono (by omega))
  have hs3 : w2.heap.size ≤ w3.heap.size := hbe.size
  have hgc : g < w3.heap.size ∧ c < w3.heap.size ∧ g' < w3.heap.size ∧ c' < w3.heap.size := ⟨hp.lt.1, hp.lt.2, hq.lt.1, hq.lt.2⟩
  clear hbe kc
  have kc := hB1.cells
  have klt := hB1.lt
  go_wp2_with fail
  refine (rnew_yes _ b hb1 hb2).mono ?_
  rintro e w4 ⟨rfl, hbe⟩
  have hp := (hp.alloc _).below hbe (by simp; omega) (by simp; omega)
  have hq := (hq.alloc _).below hbe (by simp; omega) (by simp; omega)
  have hB2 := (Box.new w3 31 #[.slice none 0 0, .int .i64 a]).later hbe
  have hb := (hb.alloc (by omega) _).trans (hbe.mono (by simp; omega))
  have hs4 : w3.heap.size + 1 ≤ w4.heap.size := by have := hbe.size; simpa using this
  clear hbe kc hB1
  have kc := hB2.cells
  have klt := hB2.lt
  go_wp2_with fail
  have r0 := hp.alloc (.cells #[.slice none 0 0, .int .i64 b] 31) |>.alloc (.cells #[.slice none 0 0, .int .i64 a, .slice none 0 0, .int .i64 b] 34)
  have r1 := hq.alloc (.cells #[.slice none 0 0, .int .i64 b] 31) |>.alloc (.cells #[.slice none 0 0, .int .i64 a, .slice none 0 0, .int .i64 b] 34)
  have b9 := hB2.alloc (.cells #[.slice none 0 0, .int .i64 b] 31) |>.alloc (.cells #[.slice none 0 0, .int .i64 a, .slice none 0 0, .int .i64 b] 34)
  have b11 := Box.new w4 31 #[.slice none 0 0, .int .i64 b] |>.alloc (.cells #[.slice none 0 0, .int .i64 a, .slice none 0 0, .int .i64 b] 34)
  have b13 := Box.new' (w := w4.alloc (.cells #[.slice none 0 0, .int .i64 b] 31)) (g := w4.heap.size + 1) (t := 34) (cs := #[.slice none 0 0, .int .i64 a, .slice none 0 0, .int .i64 b]) (by simp)
  have hb := (hb.alloc (by omega) (.cells #[.slice none 0 0, .int .i64 b] 31)).alloc (by simp; omega) (.cells #[.slice none 0 0, .int .i64 a, .slice none 0 0, .int .i64 b] 34)
  have hsz : w4.heap.size + 2 ≤ ((w4.alloc (.cells #[.slice none 0 0, .int .i64 b] 31)).alloc (.cells #[.slice none 0 0, .int .i64 a, .slice none 0 0, .int .i64 b] 34)).heap.size := by simp
  clear hp hq hB2 kc hB1
  have hg9 : w.heap.size ≤ w3.heap.size := by omega
  generalize hW : ((w4.alloc (.cells #[.slice none 0 0, .int .i64 b] 31)).alloc (.cells #[.slice none 0 0, .int .i64 a, .slice none 0 0, .int .i64 b] 34)) = W0 at *
  clear hW
  generalize w4.heap.size = G11 at *
  generalize w3.heap.size = G9 at *
  go_loopw [14] (fun i wr => ∃ (k : Nat) (l0 l1 : List Int) (v0 v1 : Value), k ≤ l.length ∧ i = .int .i64 k ∧ l0.length ≤ a ∧ l1.length ≤ b ∧ QAt wr 58 g c a (ivals l0) ∧ QAt wr 58 g' c' b (ivals l1) ∧
      Box wr G9 31 #[.slice none 0 0, .int .i64 a] ∧ Box wr G11 31 #[.slice none 0 0, .int .i64 b] ∧ Box wr (G11 + 1) 34 #[v0, .int .i64 a, v1, .int .i64 b] ∧
      IRow (fun x => G11 + 1 < x) wr v0 l0 ∧ IRow (fun x => G11 + 1 < x) wr v1 l1 ∧ Below w.heap.size w wr ∧ G11 + 2 ≤ wr.heap.size) (fun i _ => l.length - (intOf i).toNat)
  case atStart => exact ⟨0, [], [], _, _, by omega, rfl, by simp, by simp, r0, r1, b9, b11, b13, ⟨none, 0, rfl, by simp, RowS.nil _ _ _⟩, ⟨none, 0, rfl, by simp, RowS.nil _ _ _⟩, hb, hsz⟩
  case round =>
    clear r0 r1 b9 b11 b13 hb hsz
    obtain ⟨k, l0, l1, v0, v1, hk, rfl, hl0, hl1, hp, hq, b9, b11, b13, i0, i1, hb, hsz⟩ := hrel
    by_cases hkl : k < l.length
    · obtain ⟨Ab, off, rfl, hAb, hcell⟩ := hrow (by omega)
      obtain ⟨x1, x2⟩ := hcell k hkl
      generalize hx : l[k] = x at x1 x2
      obtain ⟨kind, n⟩ := x
      clear hx hcell hrow
      simp only at x1 x2
      have y1 : wr.cell? ⟨Ab, off + k * 2, none⟩ = some (.int .i64 kind) := (hb.cell (by exact hAb)).trans x1
      have y2 : wr.cell? ⟨Ab, off + k * 2 + 1, none⟩ = some (.int .i64 n) := (hb.cell (by exact hAb)).trans x2
      clear x1 x2
      go_wp2_with fail
      refine (do_any hp hq hne).mono ?_
      rintro e w5 ⟨rfl, hp5, hq5, row, hrw, hg5⟩
      have hrow : ∀ g, row = some g → g < G9 := by rintro g rfl; rcases hrw with h | h <;> (injection h with h; omega)
      have hrow2 : ∀ g, row = some g → w.heap.size ≤ g := by rintro g rfl; rcases hrw with h | h <;> (injection h with h; omega)
      have b9 := b9.grown hg5 (fun e => by have := hrow _ e.symm; omega)
      have b11 := b11.grown hg5 (fun e => by have := hrow _ e.symm; omega)
      have b13 := b13.grown hg5 (fun e => by have := hrow _ e.symm; omega)
      have i0 := i0.grown hg5 (fun g e => by have := hrow _ e; omega)
      have i1 := i1.grown hg5 (fun g e => by have := hrow _ e; omega)
      have hb := hb.grown hg5 (by omega) hrow2
      have y1 : w5.cell? ⟨Ab, off + k * 2, none⟩ = some (.int .i64 kind) := hg5.cell y1 (fun e => by have := hrow2 _ e.symm; simp at this; omega)
      have y2 : w5.cell? ⟨Ab, off + k * 2 + 1, none⟩ = some (.int .i64 n) := hg5.cell y2 (fun e => by have := hrow2 _ e.symm; simp at this; omega)
      have hsz : G11 + 2 ≤ w5.heap.size := by have := hg5.size; omega
      clear hp hq hg5 hrow hrow2 hrw
      obtain ⟨A0, cc0, rfl, hlc0, hr0⟩ := i0
      obtain ⟨A1, cc1, rfl, hlc1, hr1⟩ := i1
      have k13 := b13.cells
      have hAb5 : Ab < w5.heap.size := by have := hb.size; omega
      have hG5 : G11 + 1 < w5.heap.size := by omega
      have hs0 : RowS (fun x => G11 + 1 < x ∧ x < w5.heap.size) w5 A0 (ivals l0) := hr0.mono fun x h1 h2 => ⟨h2, h1⟩
      have hs1 : RowS (fun x => G11 + 1 < x ∧ x < w5.heap.size) w5 A1 (ivals l1) := hr1.mono fun x h1 h2 => ⟨h2, h1⟩
      have cA := fun (w' : World) (h : w' = w5.drew) => refDo_any (w := w') (kind := kind) (x := n) (S := fun x => G11 + 1 < x) (by omega) (by omega) ha2 hb2 ⟨A0, cc0, rfl, hlc0, by rw [h]; exact hr0.drew⟩ ⟨A1, cc1, rfl, hlc1, by rw [h]; exact hr1.drew⟩
      have cB := fun (w' : World) (o : Obj) (h : w' = (w5.alloc o).drew) => refDo_any (w := w') (kind := kind) (x := n) (S := fun x => G11 + 1 < x ∧ x < w5.heap.size) (by omega) (by omega) ha2 hb2 ⟨A0, cc0, rfl, hlc0, by rw [h]; exact (hs0.alloc _).drew⟩ ⟨A1, cc1, rfl, hlc1, by rw [h]; exact (hs1.alloc _).drew⟩
      have CA := Lib.hid cA
      have CB := Lib.hid cB
      clear cA cB
      go_upto_region 16 with fail
      go_cut [18, 19, 20, 21] from 99 to 109 (fun s18 s19 s20 s21 w' => CutRel (G11 + 1) a b w5 (stepS a b l0 l1 kind n) s18 s19 s20 s21 w')
      case first =>
        go_region_with (first | (go_at_call 10; refine (CA.out _ rfl).mono ?_; rintro e w6 ⟨u0, u1, rfl, ⟨B0, d0, rfl, m0, j0⟩, ⟨B1, d1, rfl, m1, j1⟩, hb6⟩) | (go_at_call 10; refine (CB.out _ _ rfl).mono ?_; rintro e w6 ⟨u0, u1, rfl, ⟨B0, d0, rfl, m0, j0⟩, ⟨B1, d1, rfl, m1, j1⟩, hb6⟩; have bx := Box.later (g := w5.heap.size) (t := 34) (cs := #[.slice none 0 0, .int .i64 0, .slice none 0 0, .int .i64 0]) (Box.drew (Box.new w5 34 _)) hb6; have bc := bx.cells; have bf := bx.free; have bl := bx.lt))
        all_goals (go_wp2_with fail; go_meet)
        all_goals (first | (have hbx := bx; exact cutB m0 m1 j0 j1 hbx hb6 hG5) | exact cutA m0 m1 j0 j1 hb6 hG5)
      case rest =>
        obtain ⟨g18, B0, d0, B1, d1, rfl, rfl, rfl, rfl, m0, m1, b18, j0, j1, hg18, hb6⟩ := hcut
        clear CA CB hs0 hs1 hr0 hr1 k13 y1 y2
        generalize hT : stepS a b l0 l1 kind n = T at *
        have hTl : T.l.length ≤ a ∧ T.m.length ≤ b := by rw [← hT]; exact stepS_len hl0 hl1
        clear hT
        obtain ⟨T0, T1, Tx, Te, Tok⟩ := T
        simp only at *
        have b9 := b9.later hb6
        have b11 := b11.later hb6
        have b13 := b13.later hb6
        have hp6 := hp5.below hb6 hp5.lt.1 hp5.lt.2
        have hq6 := hq5.below hb6 hq5.lt.1 hq5.lt.2
        have hb7 := hb.trans (hb6.mono (by omega))
        have hsz7 : G11 + 2 ≤ wc.heap.size := by have := hb6.size; omega
        have k18 := b18.cells
        have k13 := b13.cells
        have f13 := b13.free
        clear hp5 hq5 hb6 hb hsz
        go_upto_region 18 with fail
        obtain ⟨wd, hwd⟩ : ∃ wd, wd = ((((wc.setCell ⟨G11 + 1, 0, none⟩ (.slice B0 T0.length d0)).setCell ⟨G11 + 1, 1, none⟩ (.int .i64 a)).setCell ⟨G11 + 1, 2, none⟩ (.slice B1 T1.length d1)).setCell ⟨G11 + 1, 3, none⟩ (.int .i64 b)) := ⟨_, rfl⟩
        have F := roundFacts hwd hp6 hq6 (by omega) b9 b11 b13 j0 j1 hb7 (by omega) hsz7
        rewrite [← hwd]
        have HF := Lib.hid F
        clear hwd b9 b11 b13 j0 j1 hp6 hq6 hb7 k18 k13 f13 F hsz7
        obtain ⟨hpd, hqd, b9d, b11d, b13d, j0d, j1d, hbd, hsd⟩ := HF.out
        have HI := Lib.hid (show IRow (fun x => G11 + 1 < x) wd (.slice B0 T0.length d0) T0 ∧ IRow (fun x => G11 + 1 < x) wd (.slice B1 T1.length d1) T1 from ⟨⟨B0, d0, rfl, m0, j0d⟩, ⟨B1, d1, rfl, m1, j1d⟩⟩)
        have L0 := Lib.hid (fun n : Nat => len_any (wd.drewN n) g c a _ hpd)
        have L1 := Lib.hid (fun n : Nat => len_any (wd.drewN n) g' c' b _ hqd)
        have R0 := Lib.hid (fun n : Nat => room_any (wd.drewN n) g c a _ hpd)
        have R1 := Lib.hid (fun n : Nat => room_any (wd.drewN n) g' c' b _ hqd)
        have k9 := b9d.cells 1
        have k11 := b11d.cells 1
        have k13 := b13d.cells 0
        have k13b := b13d.cells 2
        simp only [List.getElem?_toArray, List.getElem?_cons_zero, List.getElem?_cons_succ] at k9 k11 k13 k13b
        clear hpd hqd b9d b11d b13d j0d j1d hsd
        rw [ivals_len] at L0 L1
        go_quiet ((first | (go_at_call_of 11 (Value.pointer (some ⟨g, 0, none⟩)); exact quiet_left' (L0.out _)) | (go_at_call_of 11 (Value.pointer (some ⟨g', 0, none⟩)); exact quiet_left' (L1.out _)) | (go_at_call_of 12 (Value.pointer (some ⟨g, 0, none⟩)); exact quiet_left' (R0.out _)) | (go_at_call_of 12 (Value.pointer (some ⟨g', 0, none⟩)); exact quiet_left' (R1.out _))))
        clear L0 L1 R0 R1 k9 k11 k13 k13b
        go_wp2_with fail
        go_roundw
        case rel =>
          obtain ⟨hpd, hqd, b9d, b11d, b13d, j0d, j1d, hbd, hsd⟩ := HF.out
          exact ⟨k + 1, T0, T1, _, _, by omega, by go_num, hTl.1, hTl.2, hpd.drewN _, hqd.drewN _, b9d.drewN _, b11d.drewN _, b13d.drewN _, HI.out.1.drewN _, HI.out.2.drewN _, below_drewN hbd _, hsd⟩
        case measure => simp [intOf]; omega
    · obtain rfl : k = l.length := by omega
      clear b9 b11 b13 i0 i1 hp hq
      go_wp2_with fail
      refine (awake_any _).mono ?_
      rintro e w5 ⟨rfl, hb5⟩
      have hb6 := hb.trans (hb5.mono hb.size)
      clear hb hb5
      go_wp2_with fail
      go_ret
      exact ⟨rfl, hb6⟩

set_option maxRecDepth 100000 in
set_option maxHeartbeats 1000000 in
theorem plays_long (a b : Int) (A : Option Addr) (cap n : Nat) (w : World) (hl : 100 < n) :
    Calls Try.prog 3 #[.agg #[.int .i64 a, .int .i64 b], .slice A n cap] w fun e w' => e = .returned (.bool true) ∧ Below w.heap.size w w' := by
  go_enter Try.func3, Try.ntmps3
  go_wp2_with fail
  refine (awake_any _).mono ?_
  rintro e w4 ⟨rfl, hb4⟩
  have hb5 := ((Below.refl _ w).alloc (Nat.le_refl _) _).trans (hb4.mono (by simp))
  clear hb4
  go_wp2_with fail
  go_ret
  exact ⟨rfl, hb5⟩

set_option maxRecDepth 100000 in
set_option maxHeartbeats 2000000 in
theorem plays_ab (a b : Int) (ha : a < 1 ∨ 1000 < a) (hb0 : b < 1 ∨ 1000 < b) (A : Option Addr) (cap n : Nat) (w : World) (hl : n ≤ 100) :
    Calls Try.prog 3 #[.agg #[.int .i64 a, .int .i64 b], .slice A n cap] w fun e w' => e = .returned (.bool true) ∧ Below w.heap.size w w' := by
  go_enter Try.func3, Try.ntmps3
  go_wp2_with fail
  refine (new_no _ a ha).mono ?_
  rintro e w1 ⟨rfl, hw1⟩
  have hbe : Below (w.alloc (.cells #[.int .i64 a, .int .i64 b] 22)).heap.size (w.alloc (.cells #[.int .i64 a, .int .i64 b] 22)) w1 := hw1 ▸ Below.refl _ _
  clear hw1
  have hB1 := ((Box.new w 22 #[.int .i64 a, .int .i64 b]).later hbe)
  have hb : Below w.heap.size w w1 := ((Below.refl _ _).alloc (Nat.le_refl _) _).trans (hbe.mono (by simp))
  clear hbe
  have kc := hB1.cells
  have klt := hB1.lt
  go_wp2_with fail
  refine (new_no _ b hb0).mono ?_
  rintro e w2 ⟨rfl, hw2⟩
  have hbe : Below w1.heap.size w1 w2 := hw2 ▸ Below.refl _ _
  clear hw2
  have hB1 := hB1.later hbe
  have hb := hb.trans (hbe.mono (by omega))
  clear hbe kc
  have kc := hB1.cells
  have klt := hB1.lt
  go_wp2_with fail
  refine (rnew_no _ a ha).mono ?_
  rintro e w3 ⟨rfl, hbe⟩
  have hB1 := hB1.later hbe
  have hb := hb.trans (hbe.mono (by omega))
  clear hbe kc
  have kc := hB1.cells
  have klt := hB1.lt
  go_wp2_with fail
  refine (rnew_no _ b hb0).mono ?_
  rintro e w4 ⟨rfl, hbe⟩
  have hb := (hb.alloc (by omega) _).trans (hbe.mono (by simp; omega))
  have hs4 : w.heap.size ≤ w4.heap.size := hb.size
  clear hbe kc hB1
  go_wp2_with fail
  refine (awake_any _).mono ?_
  rintro e w5 ⟨rfl, hb5⟩
  have hb6 := (hb.alloc (by omega) _).trans (hb5.mono (by simp; omega))
  clear hb hb5
  go_wp2_with fail
  go_ret
  exact ⟨rfl, hb6⟩

set_option maxRecDepth 100000 in
set_option maxHeartbeats 2000000 in
theorem plays_a (a : Int) (b : Nat) (ha : a < 1 ∨ 1000 < a) (hb1 : 1 ≤ b) (hb2 : b ≤ 1000) (A : Option Addr) (cap n : Nat) (w : World) (hl : n ≤ 100) :
    Calls Try.prog 3 #[.agg #[.int .i64 a, .int .i64 b], .slice A n cap] w fun e w' => e = .returned (.bool true) ∧ Below w.heap.size w w' := by
  go_enter Try.func3, Try.ntmps3
  go_wp2_with fail
  refine (new_no _ a ha).mono ?_
  rintro e w1 ⟨rfl, hw1⟩
  have hbe : Below (w.alloc (.cells #[.int .i64 a, .int .i64 b] 22)).heap.size (w.alloc (.cells #[.int .i64 a, .int .i64 b] 22)) w1 := hw1 ▸ Below.refl _ _
  clear hw1
  have hB1 := ((Box.new w 22 #[.int .i64 a, .int .i64 b]).later hbe)
  have hb : Below w.heap.size w w1 := ((Below.refl _ _).alloc (Nat.le_refl _) _).trans (hbe.mono (by simp))
  clear hbe
  have kc := hB1.cells
  have klt := hB1.lt
  go_wp2_with fail
  refine (new_in _ b hb1 hb2).mono ?_
  rintro e w2 ⟨g', c', rfl, hq, hg2, hc2, hbe⟩
  have hB1 := hB1.later hbe
  have hb := hb.trans (hbe.mono (by omega))
  clear hbe kc
  have kc := hB1.cells
  have klt := hB1.lt
  go_wp2_with fail
  refine (rnew_no _ a ha).mono ?_
  rintro e w3 ⟨rfl, hbe⟩
  have hB1 := hB1.later hbe
  have hb := hb.trans (hbe.mono (by omega))
  clear hbe kc
  have kc := hB1.cells
  have klt := hB1.lt
  go_wp2_with fail
  refine (rnew_yes _ b hb1 hb2).mono ?_
  rintro e w4 ⟨rfl, hbe⟩
  have hb := (hb.alloc (by omega) _).trans (hbe.mono (by simp; omega))
  have hs4 : w.heap.size ≤ w4.heap.size := hb.size
  clear hbe kc hB1
  go_wp2_with fail
  refine (awake_any _).mono ?_
  rintro e w5 ⟨rfl, hb5⟩
  have hb6 := (hb.alloc (by omega) _).trans (hb5.mono (by simp; omega))
  clear hb hb5
  go_wp2_with fail
  go_ret
  exact ⟨rfl, hb6⟩

set_option maxRecDepth 100000 in
set_option maxHeartbeats 2000000 in
theorem plays_b (a : Nat) (b : Int) (ha1 : 1 ≤ a) (ha2 : a ≤ 1000) (hb0 : b < 1 ∨ 1000 < b) (A : Option Addr) (cap n : Nat) (w : World) (hl : n ≤ 100) :
    Calls Try.prog 3 #[.agg #[.int .i64 a, .int .i64 b], .slice A n cap] w fun e w' => e = .returned (.bool true) ∧ Below w.heap.size w w' := by
  go_enter Try.func3, Try.ntmps3
  go_wp2_with fail
  refine (new_in _ a ha1 ha2).mono ?_
  rintro e w1 ⟨g, c, rfl, hp, hg1, hc1, hbe⟩
  have hB1 := ((Box.new w 22 #[.int .i64 a, .int .i64 b]).later hbe)
  have hb : Below w.heap.size w w1 := ((Below.refl _ _).alloc (Nat.le_refl _) _).trans (hbe.mono (by simp))
  clear hbe
  have kc := hB1.cells
  have klt := hB1.lt
  go_wp2_with fail
  refine (new_no _ b hb0).mono ?_
  rintro e w2 ⟨rfl, hw2⟩
  have hbe : Below w1.heap.size w1 w2 := hw2 ▸ Below.refl _ _
  clear hw2
  have hB1 := hB1.later hbe
  have hb := hb.trans (hbe.mono (by omega))
  clear hbe kc
  have kc := hB1.cells
  have klt := hB1.lt
  go_wp2_with fail
  refine (rnew_yes _ a ha1 ha2).mono ?_
  rintro e w3 ⟨rfl, hbe⟩
  have hB1 := hB1.later hbe
  have hb := hb.trans (hbe.mono (by omega))
  clear hbe kc
  have kc := hB1.cells
  have klt := hB1.lt
  go_wp2_with fail
  refine (rnew_no _ b hb0).mono ?_
  rintro e w4 ⟨rfl, hbe⟩
  have hb := (hb.alloc (by omega) _).trans (hbe.mono (by simp; omega))
  have hs4 : w.heap.size ≤ w4.heap.size := hb.size
  clear hbe kc hB1
  go_wp2_with fail
  refine (awake_any _).mono ?_
  rintro e w5 ⟨rfl, hb5⟩
  have hb6 := (hb.alloc (by omega) _).trans (hb5.mono (by simp; omega))
  clear hb hb5
  go_wp2_with fail
  go_ret
  exact ⟨rfl, hb6⟩

theorem acts_of {w : World} {A : Option Addr} {n : Nat} {xs : List Int} (hl : xs.length = n * 2) (hr : RowAt w A (ivals xs)) :
    ∃ l : List (Int × Int), l.length = n ∧ ActsAt w A l := by
  refine ⟨(List.range n).map fun i => (xs[i * 2]?.getD 0, xs[i * 2 + 1]?.getD 0), by simp, fun hn => ?_⟩
  simp only [List.length_map, List.length_range] at hn
  obtain ⟨b, off, rfl, hb, hc⟩ := hr.iget (by omega)
  refine ⟨b, off, rfl, hb, fun j hj => ?_⟩
  simp only [List.length_map, List.length_range] at hj
  simp only [List.getElem_map, List.getElem_range]
  have h1 := hc (j * 2) (by omega)
  have h2 := hc (j * 2 + 1) (by omega)
  rw [List.getElem?_eq_getElem (by omega), List.getElem?_eq_getElem (by omega)]
  exact ⟨h1, by rw [Nat.add_assoc]; exact h2⟩

theorem plays_law (ys : List Int) (hy : ys.length = 2) (A : Option Addr) (n cap : Nat) (xs : List Int) (hx : xs.length = n * 2) (w : World) (hr : RowAt w A (ivals xs)) :
    Calls Try.prog 3 #[.agg (ivals ys).toArray, .slice A n cap] w fun e w' => e = .returned (.bool true) ∧ Below w.heap.size w w' := by
  obtain ⟨l, rfl, hl⟩ := acts_of hx hr
  match ys, hy with
  | [a, b], _ =>
    show Calls Try.prog 3 #[.agg #[.int .i64 a, .int .i64 b], .slice A l.length cap] w _
    by_cases h : 100 < l.length
    · exact plays_long a b A cap _ w h
    by_cases ha : a < 1 ∨ 1000 < a
    · by_cases hb : b < 1 ∨ 1000 < b
      · exact plays_ab a b ha hb A cap _ w (by omega)
      · obtain ⟨b, rfl⟩ : ∃ b' : Nat, b = b' := ⟨b.toNat, by omega⟩
        exact plays_a a b ha (by omega) (by omega) A cap _ w (by omega)
    · obtain ⟨a, rfl⟩ : ∃ a' : Nat, a = a' := ⟨a.toNat, by omega⟩
      by_cases hb : b < 1 ∨ 1000 < b
      · exact plays_b a b (by omega) (by omega) hb A cap _ w (by omega)
      · obtain ⟨b, rfl⟩ : ∃ b' : Nat, b = b' := ⟨b.toNat, by omega⟩
        exact plays_main a b A cap l w (by omega) (by omega) (by omega) (by omega) (by omega) hl
end Go.Proofs.Ytonikpljhbnoiaa
