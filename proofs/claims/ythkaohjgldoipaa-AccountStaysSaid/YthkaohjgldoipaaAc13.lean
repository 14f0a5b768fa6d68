/-
  account: Walk's own function that calls itself.
-/
import Derived.Test.YthkaohjgldoipaaAc12
namespace Go.Proofs.Ythkaohjgldoipaa
open Go.RowKit

/-- A node as cells. -/
def nv (x : Int × Nat) : List Value := [.int .i64 x.1, .int .i64 (x.2 : Int)]
def nvs (L : List (Int × Nat)) : List Value := L.flatMap nv
theorem nvs_append (L M : List (Int × Nat)) : nvs (L ++ M) = nvs L ++ nvs M := by unfold nvs; rw [List.flatMap_append]
theorem nvs_len (L : List (Int × Nat)) : (nvs L).length = 2 * L.length := by
  induction L with
  | nil => rfl
  | cons x r ih => rw [show nvs (x :: r) = nv x ++ nvs r from rfl, List.length_append, ih]; simp [nv]; omega
theorem nv_one (x : Int × Nat) : ∀ u ∈ nv x, u.oneCell' = true := by
  intro u hu
  simp [nv] at hu
  rcases hu with rfl | rfl <;> rfl
theorem nvs_snoc (L : List (Int × Nat)) (x : Int × Nat) : nvs (L ++ [x]) = nvs L ++ nv x := by rw [nvs_append]; simp [nvs]
theorem Try.infoNode : (Try.prog.info? 77).map (fun i => (i.zero, i.size, i.bytes)) = some (some (.agg #[.int .i64 0, .int .i64 0]), 2, 16) := by kernel_rfl

/-- All below B but one block is as it was. -/
structure Kb (B g : Nat) (w w' : World) : Prop where
  os : w'.os = w.os
  tape : w'.tape = w.tape
  output : w'.output = w.output
  size : w.heap.size ≤ w'.heap.size
  block : ∀ b, b < B → b ≠ g → w'.heap[b]? = w.heap[b]?
theorem Kb.refl (B g : Nat) (w : World) : Kb B g w w := ⟨rfl, rfl, rfl, Nat.le_refl _, fun _ _ _ => rfl⟩
theorem Kb.trans {B g : Nat} {w w1 w2 : World} (h : Kb B g w w1) (h' : Kb B g w1 w2) : Kb B g w w2 :=
  ⟨h'.os.trans h.os, h'.tape.trans h.tape, h'.output.trans h.output, Nat.le_trans h.size h'.size, fun b hb hg => (h'.block b hb hg).trans (h.block b hb hg)⟩
theorem Kb.of_below {B g : Nat} {w w' : World} (h : Below B w w') : Kb B g w w' := ⟨h.os, h.tape, h.output, h.size, fun b hb _ => h.block b hb⟩
theorem Kb.set {B g : Nat} (w : World) (i : Nat) (u : Value) : Kb B g w (w.setCell ⟨g, i, none⟩ u) :=
  ⟨rfl, rfl, rfl, by rw [World.size_setCell]; exact Nat.le_refl _, fun b _ hg => Below.heap_setCell w ⟨g, i, none⟩ u b hg⟩
theorem Kb.below {B B0 g : Nat} {w w' : World} (h : Kb B g w w') (h0 : B0 ≤ B) (hg : B0 ≤ g) : Below B0 w w' := ⟨h.os, h.tape, h.output, h.size, fun b hb => h.block b (by omega) (by omega)⟩
theorem Box.kb {B g g' : Nat} {t : TypeId} {cs : Array Value} {w w' : World} (h : Box w g' t cs) (hk : Kb B g w w') (hb : g' < B) (hg : g' ≠ g) : Box w' g' t cs := (hk.block g' hb hg).trans h

/-- What the walk reads: the slots, and itself. -/
structure Env (w : World) (B g2 g3 g4 gb : Nat) (l : List Acc) : Prop where
  b2 : Box w g2 102 #[.slice (some ⟨gb, 0, none⟩) (l.length + 1) (l.length + 1)]
  b4 : Box w g4 103 #[.func (.func 75) #[] #[.pointer (some ⟨g2, 0, none⟩), .pointer (some ⟨g3, 0, none⟩), .pointer (some ⟨g4, 0, none⟩)]]
  rows : ∀ a : Nat, a ≤ l.length → ∃ A c, w.cell? ⟨gb, a, none⟩ = some (.slice A (belA l a).length c) ∧ RowS (fun b => b < B ∧ b ≠ g3) w A (ivals (belA l a))
  l2 : g2 < B
  l3 : g3 < B
  l4 : g4 < B
  lb : gb < B
  n2 : g2 ≠ g3
  n4 : g4 ≠ g3
  nb : gb ≠ g3
  size : B ≤ w.heap.size
theorem Env.keep {w w' : World} {B g2 g3 g4 gb : Nat} {l : List Acc} (h : Env w B g2 g3 g4 gb l) (hk : Kb B g3 w w') : Env w' B g2 g3 g4 gb l :=
  ⟨h.b2.kb hk h.l2 h.n2, h.b4.kb hk h.l4 h.n4, fun a ha => by
    obtain ⟨A, c, h1, h2⟩ := h.rows a ha
    exact ⟨A, c, (World.cell?_of_block (hk.block gb h.lb h.nb)).trans h1, h2.keep hk.size fun b hb _ => hk.block b hb.1 hb.2⟩, h.l2, h.l3, h.l4, h.lb, h.n2, h.n4, h.nb, Nat.le_trans h.size hk.size⟩
/-- What has been told. -/
def Outs (w : World) (B g3 : Nat) (L : List (Int × Nat)) : Prop :=
  ∃ A c, Box w g3 72 #[.slice A L.length c] ∧ w.ownsRow B 77 2 (.slice A L.length c) L.length (nvs L)
theorem take_flat {α β : Type} (f : α → List β) (es : List α) {j : Nat} (hj : j < es.length) : (es.take (j + 1)).flatMap f = (es.take j).flatMap f ++ f es[j] := by
  rw [List.take_succ_eq_append_getElem hj, List.flatMap_append]; simp
theorem take_flat_len {α β : Type} (f : α → List β) (es : List α) (j : Nat) : ((es.take j).flatMap f).length ≤ (es.flatMap f).length := by
  conv => rhs; rw [← List.take_append_drop j es, List.flatMap_append, List.length_append]
  exact Nat.le_add_right _ _
theorem belA_len (l : List Acc) (a : Int) : (belA l a).length ≤ l.length := flt_len _ _

section
variable {B g2 g3 g4 gb : Nat} {l : List Acc}
set_option maxRecDepth 100000 in
set_option maxHeartbeats 4000000 in
theorem down_any (hm : l.length ≤ 1000000) : ∀ (k a d : Nat) (w : World) (L : List (Int × Nat)), Lvl l (a : Int) d → d + k = l.length + 1 → a ≤ l.length → L.length + (walkG l k a d).length ≤ 1000000 →
    Env w B g2 g3 g4 gb l → Outs w B g3 L →
    Calls Try.prog 75 #[.int .i64 (a : Int), .int .i64 (d : Int), .pointer (some ⟨g2, 0, none⟩), .pointer (some ⟨g3, 0, none⟩), .pointer (some ⟨g4, 0, none⟩)] w fun e w' => e = .returned (.tuple #[]) ∧ Outs w' B g3 (L ++ walkG l k a d) ∧ Env w' B g2 g3 g4 gb l ∧ Kb B g3 w w' := by
  obtain ⟨i0, hi, hz0, hz1, hz2⟩ := info_parts Try.infoNode
  intro k
  induction k with
  | zero =>
    intro a d w L hv hd _ _ _ _
    have := hv.le
    omega
  | succ k ih =>
    intro a d w L hv hd ha hlen HE HO
    have IH := Lib.hid ih
    have hd1 := hv.le
    obtain ⟨es, hes⟩ : ∃ es, es = belA l (a : Int) := ⟨_, rfl⟩
    have hwk : walkG l (k + 1) a d = es.flatMap fun x => (x, d) :: walkG l k x (d + 1) := by rw [hes]; rfl
    rw [hwk] at hlen ⊢
    have KID : Hid (∀ x ∈ es, Lvl l x (d + 1) ∧ 1 ≤ x ∧ x ≤ l.length) := fun x hx => by
      rw [hes] at hx
      exact ⟨(hv.kid hx).1, isA_iff.1 (mem_belA.1 hx).1⟩
    have hesl : es.length ≤ l.length := by rw [hes]; exact belA_len l a
    have ROW : Hid (∀ w, Env w B g2 g3 g4 gb l → ∃ A c, w.cell? ⟨gb, a, none⟩ = some (.slice A es.length c) ∧ RowS (fun b => b < B ∧ b ≠ g3) w A (ivals es)) := fun w h => by rw [hes]; exact h.rows a ha
    have PRE := Lib.hid fun j => take_flat_len (fun x => (x, d) :: walkG l k x (d + 1)) es j
    have STP := Lib.hid fun (j : Nat) (hj : j < es.length) => take_flat (fun x => (x, d) :: walkG l k x (d + 1)) es hj
    clear ih hv hes hwk
    obtain ⟨A0, c0, hc0, hr0⟩ := ROW.out w HE
    have k2 := HE.b2.cells
    have l2 := HE.b2.lt
    have hab : (a : Int) < (l.length : Int) + 1 := by omega
    go_enter Try.func75, Try.ntmps75
    go_wp2
    clear k2 l2 hc0
    go_loopw [14] (fun i wr => ∃ j : Nat, j ≤ es.length ∧ i = .int .i64 j ∧ Outs wr B g3 (L ++ (es.take j).flatMap fun x => (x, d) :: walkG l k x (d + 1)) ∧ Env wr B g2 g3 g4 gb l ∧ Kb B g3 w wr) (fun i _ => es.length - (intOf i).toNat)
    case atStart => exact ⟨0, by omega, rfl, by simpa using HO, HE, Kb.refl _ _ _⟩
    case round =>
      clear HE HO
      obtain ⟨j, hj, rfl, HO, HE, HK⟩ := hrel
      by_cases hjn : j < es.length
      · have hpl := PRE.out j
        have hpl1 := PRE.out (j + 1)
        have hst := Lib.hid (STP.out j hjn)
        obtain ⟨b0, off, rfl, hS, hbl, hcc⟩ := hr0.iget (by omega)
        have h1 : wr.cell? ⟨b0, off + j, none⟩ = some (.int .i64 es[j]) := (World.cell?_of_block (HK.block b0 hS.1 hS.2)).trans (hcc j hjn)
        clear hcc
        obtain ⟨hkv, hx1, hx2⟩ := KID.out es[j] (List.getElem_mem hjn)
        rw [hst.out] at hpl1
        generalize (es.take j).flatMap (fun x => (x, d) :: walkG l k x (d + 1)) = M at *
        generalize es[j] = x0 at *
        obtain ⟨x, rfl⟩ : ∃ x : Nat, x0 = x := ⟨x0.toNat, by omega⟩
        obtain ⟨A3, c3, x3, own3⟩ := HO
        have k3 := x3.cells
        have f3 := x3.free
        have l3 := x3.lt
        rw [List.length_append] at hpl1
        simp only [List.length_cons] at hpl1
        have hN : (L ++ M).length + 1 ≤ 1000000 := by rw [List.length_append]; omega
        have hN2 : ((L ++ M) ++ [((x : Int), d)]).length + (walkG l k x (d + 1)).length ≤ 1000000 := by simp only [List.length_append, List.length_cons, List.length_nil]; omega
        have IHx := Lib.hid fun (w : World) (HE : Env w B g2 g3 g4 gb l) (HO : Outs w B g3 ((L ++ M) ++ [((x : Int), d)])) => IH.out x (d + 1) w ((L ++ M) ++ [((x : Int), d)]) hkv (by omega) (by omega) hN2 HE HO
        have hcast : ((d + 1 : Nat) : Int) = (d : Int) + 1 := by omega
        rw [hcast] at IHx
        clear hkv hpl hpl1 hcast
        have hsz := HE.size
        have hl33 := HE.l3
        generalize hLM : L ++ M = LM at *
        replace hLM := Lib.hid hLM
        go_wp2_with (at_builtin; refine wpList_append_rowN rfl _ _ 72 rfl B 77 i0 (.agg #[.int .i64 0, .int .i64 0]) 2 16 Try.underlying72 hi hz0 hz1 hz2 rfl (by decide) _ LM.length (nvs LM) rfl (own3.alloc _) (some ⟨wr.heap.size, 0, none⟩) 1 1 (nv ((x : Int), d)) rfl rfl (RowAt.of_cells (fun i u hi => by rw [addr_add, Nat.zero_add]; exact ((Box.new wr 77 (nv ((x : Int), d)).toArray).cells i).trans (by rw [List.getElem?_toArray]; exact hi))) (nv_one _) (by unfold maxLen; omega) (by omega) (by simp; omega) ?_)
        intro A4 c4 w4 own4 hgr4
        have BL : Below B wr w4 := ((Below.refl B wr).alloc hsz _).grown hgr4 (by simp; omega) (fun g hg => (own3.lt g hg).1)
        have x4 := (x3.alloc (.cells (nv ((x : Int), d)).toArray 77)).grown hgr4 (fun he => by have := (own3.lt _ he.symm).1; omega)
        clear k3 f3 l3 x3 own3 hgr4
        have k4 := x4.cells
        have f4 := x4.free
        have l4 := x4.lt
        have HK5 := (Kb.of_below (g := g3) BL).trans (Kb.set w4 0 (.slice A4 (LM.length + 1) c4))
        have HE5 := HE.keep HK5
        have HO5 : Outs (w4.setCell ⟨g3, 0, none⟩ (.slice A4 (LM.length + 1) c4)) B g3 (LM ++ [((x : Int), d)]) := by
          have hl : (LM ++ [((x : Int), d)]).length = LM.length + 1 := by simp
          rw [← hl] at own4 ⊢
          rw [← nvs_snoc] at own4
          exact ⟨A4, c4, x4.set 0 _, ownsRow_setCell_below own4 hl33 _⟩
        clear own4 BL x4 h1
        have k5 := HE5.b4.cells
        have l5 := HE5.b4.lt
        go_wp2_with fail
        refine (IHx.out _ HE5 HO5).mono ?_
        rintro e w6 ⟨rfl, HO6, HE6, HK6⟩
        clear k4 f4 l4 k5 l5 HE5 HO5
        go_wp2
        go_roundw
        case rel => exact ⟨j + 1, by omega, by go_num, by rw [hst.out, ← List.append_assoc, hLM.out]; simpa using HO6, HE6, HK.trans (HK5.trans HK6)⟩
        case measure => simp [intOf]; omega
      · obtain rfl : j = es.length := by omega
        rw [List.take_length] at HO
        go_wp2
        go_end0
        exact ⟨rfl, HO, HE, HK⟩
end
end Go.Proofs.Ythkaohjgldoipaa
