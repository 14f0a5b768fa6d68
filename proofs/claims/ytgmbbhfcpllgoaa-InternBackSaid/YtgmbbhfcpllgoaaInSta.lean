/-
  The contracts of a table of stakes: New, made, Len, Find, Id, Key.
-/
import Derived.Test.YtgmbbhfcpllgoaaInInt
import Derived.DeepKeys4
import Derived.Still
import Derived.StillTactics
namespace Go.Proofs.Ytgmbbhfcpllgoaa
open Go.RowKit Go.Maps

/-- A region that draws and only reads: it is walked once, in the text's order. -/
theorem wp_still_all {P : Program} {id : Nat} {Q : Exit → Act → World → Prop} {a : Act} {w : World} {l : List Oper} (hm : P.follows .mixedOrders = true) (hB : Region.lexB .any l.toArray = true)
    (h : wpStill P l.toArray w.drew (fun a' => Q .normal a' w.drew) l a) : (Code.region id l.toArray true).wp P Q a w := wp_region_still_lit hm hB h

theorem still_lookup {P : Program} {ops : Array Oper} {o : Oper} {a : Act} {w : World} {K : Act → Prop} {H : Type} (hg : o.guard = none) (m x : Operand) (t : TypeId) (hop : o.op = Op.lookup t m x true)
    (k e : TypeId) (q : IntKind) (Kd : Keyed P k) (ht : P.underlying t = some (.map k e)) (he : P.underlying e = some (.int q)) (hz : (zeroValue e).run P w = .ok (.int q 0) w) (b n : Nat) (D : DataW H)
    (hm : a.eval m = .map (some b)) (hown : w.ownsMap P k (plainElem P e) b n D) (key : Value) (kl : Lit) (hx : a.eval x = key) (hkey : keyOf P k key = some kl)
    (c : Int) (hat : D.atKey kl (.lit (.int q 0)) = .lit (.int q c)) (hK : K (a.put o.dst (.tuple #[.int q c, .bool (Maps.has D kl)]))) :
    if Region.wanted o (yielded ops a.tmps) = true then o.still P a w K else K (a.put o.dst undef) := by
  rw [if_pos (by simp [Region.wanted, hg])]
  obtain ⟨v, ps, hrun, hv⟩ := hown.look_ok Kd ht hz (plainElem_int he (by cases q <;> decide)) hkey
  obtain ⟨c', rfl, hc, hwc⟩ := plainElem_int_inv he hv
  simp only [Prod.mk.injEq] at hc
  have h1 := hc.1.symm.trans hat
  injection h1 with h1
  injection h1 with _ h1
  subst h1
  unfold Oper.still
  simp [execOp, hop, hm, hx, hrun, Result.andThen, Oper.stillUpon]
  exact hK

/-- Four numbers. -/
structure Sk where
  a : Int
  b : Int
  c : Int
  d : Int
def Sk.cs (s : Sk) : List Int := [s.a, s.b, s.c, s.d]
abbrev SV (s : Sk) : Value := .agg #[.int .i64 s.a, .int .i64 s.b, .int .i64 s.c, .int .i64 s.d]
def Sk.ok (s : Sk) : Prop := ∀ x ∈ s.cs, (Lit.int .i64 x).wf = true
def stv (xs : List Sk) : List Value := ivals (xs.flatMap Sk.cs)
/-- A key as the map reads it. -/
def LK (s : Sk) : Lit := .string (keyBytes [.int .i64 s.a, .int .i64 s.b, .int .i64 s.c, .int .i64 s.d])

theorem Try.infoSta : (Try.prog.info? 46).map (fun i => (i.zero, i.size, i.bytes)) = some (some (.agg #[.int .i64 0, .int .i64 0, .int .i64 0, .int .i64 0]), 4, 32) := by kernel_rfl
theorem laidOutK : laidOutB Try.prog = true := by kernel_rfl
theorem kkeyed : Keyed Try.prog 46 := Keyed.of_law (deep_law_laid laidOutK (m := 5) (by decide) (of_decide_eq_true (by kernel_rfl)) (by kernel_rfl) (by kernel_rfl))
theorem keyOf_four {P : Program} {k e : TypeId} {f0 f1 f2 f3 : Field} (hu : P.underlying k = some (.struct #[f0, f1, f2, f3])) (hk : P.keyType k = true) (hc : P.cellsOf k = 4) (he : P.underlying e = some (.int .i64)) (hc1 : P.cellsOf e = 1) (hn : 0 < P.types.size)
    (t : f0.type = e ∧ f1.type = e ∧ f2.type = e ∧ f3.type = e) (o : f0.offset = 0 ∧ f1.offset = 1 ∧ f2.offset = 2 ∧ f3.offset = 3) (hb : (#[f0, f1, f2, f3] : Array Field).all (·.name != "_") = true) {a b c d : Int}
    (h1 : (Lit.int .i64 a).wf = true) (h2 : (Lit.int .i64 b).wf = true) (h3 : (Lit.int .i64 c).wf = true) (h4 : (Lit.int .i64 d).wf = true) :
    keyOf P k (.agg #[.int .i64 a, .int .i64 b, .int .i64 c, .int .i64 d]) = some (.string (keyBytes [.int .i64 a, .int .i64 b, .int .i64 c, .int .i64 d])) := by
  obtain ⟨n, hn⟩ : ∃ n, P.types.size = n + 1 := ⟨P.types.size - 1, by omega⟩
  obtain ⟨t0, t1, t2, t3⟩ := t
  obtain ⟨o0, o1, o2, o3⟩ := o
  unfold keyOf
  simp only [hu, hk, Value.formed, hc, Bool.true_and, Program.keyLits, hn, hb]
  simp [Value.cells, hc1, he, h1, h2, h3, h4, t0, t1, t2, t3, o0, o1, o2, o3]
theorem lk_of (s : Sk) (h : s.ok) : keyOf Try.prog 46 (SV s) = some (LK s) :=
  keyOf_four (e := 3) Try.underlying46 (by kernel_rfl) (by kernel_rfl) Try.underlying3 (by kernel_rfl) (of_decide_eq_true (by kernel_rfl)) ⟨rfl, rfl, rfl, rfl⟩ ⟨rfl, rfl, rfl, rfl⟩ (by kernel_rfl)
    (h s.a (by simp [Sk.cs])) (h s.b (by simp [Sk.cs])) (h s.c (by simp [Sk.cs])) (h s.d (by simp [Sk.cs]))
theorem LK_inj {s t : Sk} (hs : s.ok) (ht : t.ok) (h : LK s = LK t) : s = t := by
  have h1 := kkeyed.inj (lk_of s hs) (h ▸ lk_of t ht)
  cases s
  cases t
  simp [SV] at h1
  simpa using h1

abbrev TK (w : World) (g m : Nat) (most : Int) (v : Value) (xs : List Sk) : Prop := TabAt Try.prog 72 46 4 w g m most v (stv xs) (xs.map LK)

set_option maxHeartbeats 400000 in
theorem kmade_yes (w : World) (g m : Nat) (most : Int) (v : Value) (xs : List Sk) (h : TK w g m most v xs) :
    Calls Try.prog 30 #[.pointer (some ⟨g, 0, none⟩)] w fun e w' => e = .returned (.bool true) ∧ w = w' := by
  obtain ⟨c0, c1, c2, f0⟩ := h.cells
  clear h
  have hn := fun w => run_neq_map_nil (P := Try.prog) w 70 46 3 (some m) Try.underlying70
  go_enter Try.func30, Try.ntmps30
  go_wp2
  go_ret
  exact ⟨rfl, rfl⟩

set_option maxHeartbeats 400000 in
theorem kmade_no (w : World) :
    Calls Try.prog 30 #[.pointer none] w fun e w' => e = .returned (.bool false) ∧ w = w' := by
  go_enter Try.func30, Try.ntmps30
  go_wp2
  go_ret
  exact ⟨rfl, rfl⟩

set_option maxHeartbeats 400000 in
theorem klen_yes (w : World) (g m : Nat) (most : Int) (v : Value) (xs : List Sk) (h : TK w g m most v xs) :
    Calls Try.prog 15 #[.pointer (some ⟨g, 0, none⟩)] w fun e w' => e = .returned (.int .i64 xs.length) ∧ w = w' := by
  have M := kmade_yes w g m most v xs h
  obtain ⟨A, c, rfl, _⟩ := own_form h.row
  obtain ⟨c0, c1, c2, f0⟩ := h.cells
  clear h
  go_enter Try.func15, Try.ntmps15
  go_wp2_with (go_at_call 30; refine M.mono ?_; rintro e w' ⟨rfl, rfl⟩)
  go_ret
  exact ⟨by simp, rfl⟩

set_option maxHeartbeats 400000 in
theorem knew_yes (w : World) (n : Int) (h1 : 1 ≤ n) (h2 : n ≤ 20000) :
    Calls Try.prog 12 #[.int .i64 n] w fun e w' => ∃ g m, e = .returned (.tuple #[.pointer (some ⟨g, 0, none⟩), .int .i64 0]) ∧ TK w' g m n (.slice none 0 0) [] ∧ Below w.heap.size w w' ∧ w.heap.size ≤ g ∧ w.heap.size ≤ m := by
  have hmm := @run_makeMap Try.prog
  go_enter Try.func12, Try.ntmps12
  go_wp2
  go_ret2
  have hb : Below w.heap.size w (w.alloc (.map #[] 0)) := (Below.refl _ _).alloc (Nat.le_refl _) _
  refine ⟨_, _, rfl, ⟨?_, World.ownsRow_nil _ _ _ _, _, (World.ownsMap_made (H := Unit) w _ _ _).alloc _, Idx.nil⟩, hb.alloc (by simp) _, by simp, Nat.le_refl _⟩
  have := heap_alloc_new (w.alloc (.map #[] 0)) (.cells #[.slice none 0 0, .map (some w.heap.size), .int .i64 n] 72)
  simpa only [World.size_alloc] using this

set_option maxHeartbeats 400000 in
theorem knew_no (w : World) (n : Int) (h : n < 1 ∨ 20000 < n) :
    Calls Try.prog 12 #[.int .i64 n] w fun e w' => e = .returned (.tuple #[.pointer none, .int .i64 2]) ∧ w = w' := by
  rcases h with h | h
  · go_enter Try.func12, Try.ntmps12
    go_wp2
    go_ret2
    exact ⟨rfl, rfl⟩
  · have h' : ¬ n < 1 := by omega
    go_enter Try.func12, Try.ntmps12
    go_wp2
    go_ret2
    exact ⟨rfl, rfl⟩

theorem below_alloc (w : World) (o : Obj) : Below w.heap.size w (w.alloc o) := (Below.refl _ _).alloc (Nat.le_refl _) o
theorem grown_of_alloc {w w' : World} {o : Obj} {row : Option Nat} (h : (w.alloc o).grownBy w' row) : w.grownBy w' row :=
  ⟨h.os, h.tape, h.output, by have := h.size; simp at this; omega, fun k hk hne => (h.block k (by simp; omega) hne).trans (Below.heap_alloc w o k hk)⟩
theorem LK_mem {s : Sk} {xs : List Sk} (hs : s.ok) (hx : ∀ x ∈ xs, x.ok) : LK s ∈ xs.map LK ↔ s ∈ xs := by
  rw [List.mem_map]
  exact ⟨fun ⟨a, h1, h2⟩ => LK_inj (hx a h1) hs h2 ▸ h1, fun h => ⟨s, h, rfl⟩⟩

set_option maxHeartbeats 400000 in
theorem kfind_yes (w : World) (g m : Nat) (most : Int) (v : Value) (xs : List Sk) (h : TK w g m most v xs) (s : Sk) (hs : s.ok) (i : Nat) (hi : xs[i]? = some s) :
    Calls Try.prog 14 #[.pointer (some ⟨g, 0, none⟩), SV s] w fun e w' => e = .returned (.tuple #[.int .i64 i, .bool true]) ∧ Below w.heap.size w w' := by
  have hb := below_alloc w (.cells #[.int .i64 s.a, .int .i64 s.b, .int .i64 s.c, .int .i64 s.d] 46)
  have T1 := h.below hb (Nat.le_refl _)
  have M := kmade_yes _ g m most v xs T1
  have hB := Box.new w 46 #[.int .i64 s.a, .int .i64 s.b, .int .i64 s.c, .int .i64 s.d]
  have kB := hB.cells
  obtain ⟨c0, c1, c2, f0⟩ := T1.cells
  obtain ⟨D, hown, hI⟩ := T1.map
  have hown1 : (w.alloc (.cells #[.int .i64 s.a, .int .i64 s.b, .int .i64 s.c, .int .i64 s.d] 46)).drew.ownsMap Try.prog 46 (plainElem Try.prog 3) m (xs.map LK).length D := hown
  have hkey := lk_of s hs
  obtain ⟨hh, ha⟩ := hI.yes i (LK s) (by simp [hi])
  clear h hI T1 hB hown
  go_enter Try.func14, Try.ntmps14
  go_upto_region 3 with (first
    | (go_at_call 30; refine M.mono ?_; rintro e w' ⟨rfl, rfl⟩)
    | go_in)
  refine wp_still_all (by kernel_rfl) (by kernel_rfl) ?_
  iterate 5 still_step
  refine wpStill_step (fun K hK => ?_)
  refine still_lookup rfl _ _ 70 rfl 46 3 .i64 kkeyed Try.underlying70 Try.underlying3 (izero _) m _ D rfl hown1 (SV s) (LK s) rfl hkey i ha ?_
  refine hK _ ?_
  clear hK K
  repeat still_step
  refine wpStill_nil ?_
  go_wp2
  go_ret2
  exact ⟨rfl, hb.drew⟩

set_option maxHeartbeats 400000 in
theorem kfind_no (w : World) (g m : Nat) (most : Int) (v : Value) (xs : List Sk) (h : TK w g m most v xs) (s : Sk) (hs : s.ok) (hx : ∀ x ∈ xs, x.ok) (hi : s ∉ xs) :
    Calls Try.prog 14 #[.pointer (some ⟨g, 0, none⟩), SV s] w fun e w' => e = .returned (.tuple #[.int .i64 0, .bool false]) ∧ Below w.heap.size w w' := by
  have hb := below_alloc w (.cells #[.int .i64 s.a, .int .i64 s.b, .int .i64 s.c, .int .i64 s.d] 46)
  have T1 := h.below hb (Nat.le_refl _)
  have M := kmade_yes _ g m most v xs T1
  have hB := Box.new w 46 #[.int .i64 s.a, .int .i64 s.b, .int .i64 s.c, .int .i64 s.d]
  have kB := hB.cells
  obtain ⟨c0, c1, c2, f0⟩ := T1.cells
  obtain ⟨D, hown, hI⟩ := T1.map
  have hown1 : (w.alloc (.cells #[.int .i64 s.a, .int .i64 s.b, .int .i64 s.c, .int .i64 s.d] 46)).drew.ownsMap Try.prog 46 (plainElem Try.prog 3) m (xs.map LK).length D := hown
  have hkey := lk_of s hs
  have hh := hI.not (LK s) (fun hm => hi ((LK_mem hs hx).1 hm))
  have ha := atKey_of_not_has hh (.lit (.int .i64 0))
  clear h hI T1 hB hown
  go_enter Try.func14, Try.ntmps14
  go_upto_region 3 with (first
    | (go_at_call 30; refine M.mono ?_; rintro e w' ⟨rfl, rfl⟩)
    | go_in)
  refine wp_still_all (by kernel_rfl) (by kernel_rfl) ?_
  iterate 5 still_step
  refine wpStill_step (fun K hK => ?_)
  refine still_lookup rfl _ _ 70 rfl 46 3 .i64 kkeyed Try.underlying70 Try.underlying3 (izero _) m _ D rfl hown1 (SV s) (LK s) rfl hkey 0 ha ?_
  refine hK _ ?_
  clear hK K
  repeat still_step
  refine wpStill_nil ?_
  go_wp2
  go_ret2
  exact ⟨rfl, hb.drew⟩

set_option maxHeartbeats 400000 in
theorem kid_there (w : World) (g m : Nat) (most : Int) (v : Value) (xs : List Sk) (h : TK w g m most v xs) (s : Sk) (hs : s.ok) (i : Nat) (hi : xs[i]? = some s) :
    Calls Try.prog 13 #[.pointer (some ⟨g, 0, none⟩), SV s] w fun e w' => e = .returned (.tuple #[.int .i64 i, .int .i64 0]) ∧ Below w.heap.size w w' := by
  have hb := below_alloc w (.cells #[.int .i64 s.a, .int .i64 s.b, .int .i64 s.c, .int .i64 s.d] 46)
  have T1 := h.below hb (Nat.le_refl _)
  have M := kmade_yes _ g m most v xs T1
  have hB := Box.new w 46 #[.int .i64 s.a, .int .i64 s.b, .int .i64 s.c, .int .i64 s.d]
  have kB := hB.cells
  obtain ⟨c0, c1, c2, f0⟩ := T1.cells
  obtain ⟨D, hown, hI⟩ := T1.map
  have hown1 : (w.alloc (.cells #[.int .i64 s.a, .int .i64 s.b, .int .i64 s.c, .int .i64 s.d] 46)).drew.ownsMap Try.prog 46 (plainElem Try.prog 3) m (xs.map LK).length D := hown
  have hkey := lk_of s hs
  obtain ⟨hh, ha⟩ := hI.yes i (LK s) (by simp [hi])
  clear h hI T1 hB hown
  go_enter Try.func13, Try.ntmps13
  go_upto_region 3 with (first
    | (go_at_call 30; refine M.mono ?_; rintro e w' ⟨rfl, rfl⟩)
    | go_in)
  refine wp_still_all (by kernel_rfl) (by kernel_rfl) ?_
  iterate 5 still_step
  refine wpStill_step (fun K hK => ?_)
  refine still_lookup rfl _ _ 70 rfl 46 3 .i64 kkeyed Try.underlying70 Try.underlying3 (izero _) m _ D rfl hown1 (SV s) (LK s) rfl hkey i ha ?_
  refine hK _ ?_
  clear hK K
  repeat still_step
  refine wpStill_nil ?_
  go_wp2
  go_ret2
  exact ⟨rfl, hb.drew⟩

set_option maxHeartbeats 800000 in
theorem kid_full (w : World) (g m : Nat) (most : Int) (v : Value) (xs : List Sk) (h : TK w g m most v xs) (s : Sk) (hs : s.ok) (hx : ∀ x ∈ xs, x.ok) (hi : s ∉ xs) (hf : most ≤ xs.length) :
    Calls Try.prog 13 #[.pointer (some ⟨g, 0, none⟩), SV s] w fun e w' => e = .returned (.tuple #[.int .i64 0, .int .i64 3]) ∧ Below w.heap.size w w' := by
  have hb := below_alloc w (.cells #[.int .i64 s.a, .int .i64 s.b, .int .i64 s.c, .int .i64 s.d] 46)
  have T1 := h.below hb (Nat.le_refl _)
  have M := kmade_yes _ g m most v xs T1
  have hB := Box.new w 46 #[.int .i64 s.a, .int .i64 s.b, .int .i64 s.c, .int .i64 s.d]
  have kB := hB.cells
  obtain ⟨c0, c1, c2, f0⟩ := T1.cells
  obtain ⟨D, hown, hI⟩ := T1.map
  have hown1 : (w.alloc (.cells #[.int .i64 s.a, .int .i64 s.b, .int .i64 s.c, .int .i64 s.d] 46)).drew.ownsMap Try.prog 46 (plainElem Try.prog 3) m (xs.map LK).length D := hown
  have hkey := lk_of s hs
  have hh := hI.not (LK s) (fun hm => hi ((LK_mem hs hx).1 hm))
  have ha := atKey_of_not_has hh (.lit (.int .i64 0))
  obtain ⟨A, cp, rfl, -⟩ := own_form h.row
  clear h hI T1 hB hown
  rw [List.length_map] at c0
  go_enter Try.func13, Try.ntmps13
  go_upto_region 3 with (first
    | (go_at_call 30; refine M.mono ?_; rintro e w' ⟨rfl, rfl⟩)
    | go_in)
  refine wp_still_all (by kernel_rfl) (by kernel_rfl) ?_
  iterate 5 still_step
  refine wpStill_step (fun K hK => ?_)
  refine still_lookup rfl _ _ 70 rfl 46 3 .i64 kkeyed Try.underlying70 Try.underlying3 (izero _) m _ D rfl hown1 (SV s) (LK s) rfl hkey 0 ha ?_
  refine hK _ ?_
  clear hK K
  repeat still_step
  refine wpStill_nil ?_
  go_upto_region 6 with fail
  go_region
  all_goals go_wp2
  all_goals go_ret2
  all_goals exact ⟨rfl, hb.drew.drew⟩

theorem stv_append (xs ys : List Sk) : stv (xs ++ ys) = stv xs ++ stv ys := by simp [stv, ivals]
theorem stv_one (s : Sk) : stv [s] = [.int .i64 s.a, .int .i64 s.b, .int .i64 s.c, .int .i64 s.d] := by simp [stv, ivals, Sk.cs]

set_option maxHeartbeats 1600000 in
theorem kid_new (w : World) (g m : Nat) (most : Int) (v : Value) (xs : List Sk) (h : TK w g m most v xs) (s : Sk) (hs : s.ok) (hx : ∀ x ∈ xs, x.ok) (hi : s ∉ xs) (hf : xs.length < most) (hm : most ≤ 20000) :
    Calls Try.prog 13 #[.pointer (some ⟨g, 0, none⟩), SV s] w fun e w' => e = .returned (.tuple #[.int .i64 xs.length, .int .i64 0]) ∧
      ∃ v', TK w' g m most v' (xs ++ [s]) ∧ Only (foot g m v) w w' ∧ ∀ b, v'.ownBlock = some b → v.ownBlock = some b ∨ w.heap.size ≤ b := by
  have hb := below_alloc w (.cells #[.int .i64 s.a, .int .i64 s.b, .int .i64 s.c, .int .i64 s.d] 46)
  have T1 := h.below hb (Nat.le_refl _)
  have M := kmade_yes _ g m most v xs T1
  have hB := Box.new w 46 #[.int .i64 s.a, .int .i64 s.b, .int .i64 s.c, .int .i64 s.d]
  have kB := hB.cells
  obtain ⟨c0, c1, c2, f0⟩ := T1.cells
  obtain ⟨D, hown, hI⟩ := T1.map
  have hown1 : (w.alloc (.cells #[.int .i64 s.a, .int .i64 s.b, .int .i64 s.c, .int .i64 s.d] 46)).drew.ownsMap Try.prog 46 (plainElem Try.prog 3) m (xs.map LK).length D := hown
  have hkey := lk_of s hs
  have hh := hI.not (LK s) (fun hm => hi ((LK_mem hs hx).1 hm))
  have ha := atKey_of_not_has hh (.lit (.int .i64 0))
  have hgm := T1.gm
  have hrg := T1.rg (by decide)
  have hrm := T1.rm
  have hlt := T1.lt
  have hlv := h.lt
  have hst := T1.st
  have hrow := T1.row
  obtain ⟨A, cp, rfl, -⟩ := own_form h.row
  clear h T1
  have hl : (xs.map LK).length = xs.length := by simp
  rw [hl] at hrow hown hown1 hst c0 hrg hrm hlt hlv ⊢
  clear hl
  obtain ⟨ti, hti, hz0, hz1, hz2⟩ := info_parts Try.infoSta
  have hf' : ¬ most ≤ ((xs.length : Nat) : Int) := by omega
  go_enter Try.func13, Try.ntmps13
  go_upto_region 3 with (first
    | (go_at_call 30; refine M.mono ?_; rintro e w' ⟨rfl, rfl⟩)
    | go_in)
  refine wp_still_all (by kernel_rfl) (by kernel_rfl) ?_
  iterate 5 still_step
  refine wpStill_step (fun K hK => ?_)
  refine still_lookup rfl _ _ 70 rfl 46 3 .i64 kkeyed Try.underlying70 Try.underlying3 (izero _) m _ D rfl hown1 (SV s) (LK s) rfl hkey 0 ha ?_
  refine hK _ ?_
  clear hK K
  repeat still_step
  refine wpStill_nil ?_
  go_upto_region 6 with fail
  go_region
  go_upto_region 9 with fail
  have hb3 := hb.drew.drew.drew
  have hB3 := hB.drew.drew.drew
  obtain ⟨W0, hW0⟩ : ∃ W0, W0 = (w.alloc (.cells #[.int .i64 s.a, .int .i64 s.b, .int .i64 s.c, .int .i64 s.d] 46)).drew.drew := ⟨_, rfl⟩
  have hrow : W0.drew.ownsRow 0 46 4 (.slice A xs.length cp) xs.length (stv xs) := by rw [hW0]; exact hrow
  have hown : W0.drew.ownsMap Try.prog 46 (plainElem Try.prog 3) m xs.length D := by rw [hW0]; exact hown
  have hst : W0.drew.heap[g]? = some (.cells #[.slice A xs.length cp, .map (some m), .int .i64 most] 72 (0, 0)) := by rw [hW0]; exact hst
  have c0 : W0.cell? ⟨g, 0, none⟩ = some (.slice A xs.length cp) := by rw [hW0]; exact c0
  have c1 : W0.cell? ⟨g, 1, none⟩ = some (.map (some m)) := by rw [hW0]; exact c1
  have c2 : W0.cell? ⟨g, 2, none⟩ = some (.int .i64 most) := by rw [hW0]; exact c2
  have f0 : W0.frozen? ⟨g, 0, none⟩ = false := by rw [hW0]; exact f0
  have hB4 : Box W0 w.heap.size 46 #[.int .i64 s.a, .int .i64 s.b, .int .i64 s.c, .int .i64 s.d] := by rw [hW0]; exact hB3
  have kB := hB4.cells
  have hW1 : W0.heap.size = w.heap.size + 1 := by rw [hW0]; show (w.alloc _).heap.size = _; simp
  rw [← hW0]
  have hlt0 : g < W0.drew.heap.size ∧ m < W0.drew.heap.size := by show g < W0.heap.size ∧ m < W0.heap.size; omega
  have hb3 : Below w.heap.size w W0.drew := by rw [hW0]; exact hb3
  have HW1 := Lib.hid hW1
  clear hW0 hown1 hlt hB hB3 hb hW1
  have hrowA : ((W0.alloc (.cells #[.int .i64 s.a, .int .i64 s.b, .int .i64 s.c, .int .i64 s.d] 46)).drew).ownsRow 0 46 4 (.slice A xs.length cp) xs.length (stv xs) := (show W0.ownsRow 0 46 4 (.slice A xs.length cp) xs.length (stv xs) from hrow).alloc (.cells #[.int .i64 s.a, .int .i64 s.b, .int .i64 s.c, .int .i64 s.d] 46)
  have newsA : ∀ j u, ([.int .i64 s.a, .int .i64 s.b, .int .i64 s.c, .int .i64 s.d] : List Value)[j]? = some u → ((W0.alloc (.cells #[.int .i64 s.a, .int .i64 s.b, .int .i64 s.c, .int .i64 s.d] 46)).drew).cell? ((⟨W0.heap.size, 0, none⟩ : Addr).add j) = some u := World.news_of_block (w := (W0.alloc (.cells #[.int .i64 s.a, .int .i64 s.b, .int .i64 s.c, .int .i64 s.d] 46)).drew) (cs := #[.int .i64 s.a, .int .i64 s.b, .int .i64 s.c, .int .i64 s.d]) (heap_alloc_new W0 _)
  have hg0 : g < W0.heap.size := hlt0.1
  have hml : xs.length + 1 ≤ maxLen := by unfold maxLen; omega
  have hby : (xs.length + 1) * 32 ≤ 140737488355328 := by omega
  have hHH : ((W0.alloc (.cells #[.int .i64 s.a, .int .i64 s.b, .int .i64 s.c, .int .i64 s.d] 46)).drew).heap.size = W0.heap.size + 1 := by show (W0.alloc _).heap.size = _; simp
  go_region_law (refine step_append_lies ((W0.alloc (.cells #[.int .i64 s.a, .int .i64 s.b, .int .i64 s.c, .int .i64 s.d] 46)).drew) (by rfl) _ _ 41 (by rfl) 0 46 ti (.agg #[.int .i64 0, .int .i64 0, .int .i64 0, .int .i64 0]) 4 32 Try.underlying41 hti hz0 hz1 hz2 rfl (by decide) (.slice A xs.length cp) xs.length (stv xs) (by rfl) hrowA ⟨W0.heap.size, 0, none⟩ 1 1 [.int .i64 s.a, .int .i64 s.b, .int .i64 s.c, .int .i64 s.d] (by rfl) (by rfl) newsA (ivals_one [s.a, s.b, s.c, s.d]) Nat.one_pos hml hby (Nat.zero_le _) (W0.heap.size + 1) hHH ?_; intro g' c' w1 hrow1 hgr hloc hlt1; have hgr := grown_of_alloc (w := W0) ⟨hgr.os, hgr.tape, hgr.output, hgr.size, hgr.block⟩; have hloc : (Value.slice A xs.length cp).ownBlock = some g' ∨ W0.heap.size ≤ g' := hloc.imp_right (fun e => by rw [e]; exact Nat.le_succ _); have d0 := hgr.cell (a := ⟨g, 0, none⟩) c0 (fun e => hrg e.symm); have d1 := hgr.cell (a := ⟨g, 1, none⟩) c1 (fun e => hrg e.symm); have d2 := hgr.cell (a := ⟨g, 2, none⟩) c2 (fun e => hrg e.symm); have e0 : w1.frozen? ⟨g, 0, none⟩ = false := (World.frozen?_of_block (hgr.block g hlt0.1 (fun e => hrg e.symm))).trans f0; have hBn : some w.heap.size ≠ (Value.slice A xs.length cp).ownBlock := (fun e => by have := hlv.2.2 _ e.symm; omega); have hB5 := hB4.grown hgr hBn)
  all_goals
    have hB6 := hB5.far' (g' := g) (i := 0) (by omega) (.slice (some ⟨g', 0, none⟩) (xs.length + 1) c')
    have kB6 := hB6.cells
    have hgm1 : (w1.setCell ⟨g, 0, none⟩ (.slice (some ⟨g', 0, none⟩) (xs.length + 1) c')).cell? ⟨g, 1, none⟩ = some (.map (some m)) := by rw [World.cell?_setCell_other]; exact d1; simp
    have hown1 : ((w1.setCell ⟨g, 0, none⟩ (.slice (some ⟨g', 0, none⟩) (xs.length + 1) c')).drew).ownsMap Try.prog 46 (plainElem Try.prog 3) m xs.length D := ((show W0.ownsMap Try.prog 46 (plainElem Try.prog 3) m xs.length D from hown).kept hgr (fun e => hrm e.symm)).setCell (a := ⟨g, 0, none⟩) (fun e => hgm e.symm) _
    go_upto_region 10 with fail
    refine wp_still_tail 6 (by kernel_rfl) (by kernel_rfl) ?_
    simp only [List.take_succ_cons, List.take_zero, List.drop_succ_cons, List.drop_zero]
    repeat still_step
    refine wpStill_nil ?_
    at_mapUpdate
    refine wpList_mapUpdate_own _ rfl _ _ _ 70 rfl 46 3 kkeyed Try.underlying70 _ m _ D rfl hown1 hml _ _ _ rfl rfl hkey _ [] (plainElem_int Try.underlying3 (WalkArith.wf_i64 (by omega))) ?_
    intro w2 hown2 hgr2
    go_wp2
    go_ret2
    have hgr2 : (w1.setCell ⟨g, 0, none⟩ (.slice (some ⟨g', 0, none⟩) (xs.length + 1) c')).grownBy w2 (some m) := ⟨hgr2.os, hgr2.tape, hgr2.output, hgr2.size, hgr2.block⟩
    have hg1 : g' ≠ g := by
      rintro rfl
      rcases hloc with h1 | h1
      · exact hrg h1
      · omega
    have hg2 : g' ≠ m := by
      rintro rfl
      rcases hloc with h1 | h1
      · exact hrm h1
      · have : g' < W0.heap.size := hlt0.2
        omega
    have T := tab_grown (w := W0) hst hg0 (fun e => hrg e.symm) hgm hgr hrow1 hown2 hgr2 hI hg1 hg2 (fun hm => hi ((LK_mem hs hx).1 hm)) (by simp) (kkeyed.key hkey)
    refine ⟨rfl, .slice (some ⟨g', 0, none⟩) (xs.length + 1) c', ?_, (Only.of_below (⟨hb3.os, hb3.tape, hb3.output, hb3.size, hb3.block⟩ : Below w.heap.size w W0) _).trans (only_grown hgr hgr2) (fun j hj => .inl hj), fun b hb => ?_⟩
    · unfold TK
      rw [stv_append, stv_one, List.map_append]
      exact T
    · simp only [Value.ownBlock, Option.some.injEq] at hb
      subst hb
      exact hloc.imp_right (fun h => by have := HW1.out; omega)

theorem stv_get {xs : List Sk} {i : Nat} {s : Sk} (h : xs[i]? = some s) : (stv xs)[i * 4]? = some (.int .i64 s.a) ∧ (stv xs)[i * 4 + 1]? = some (.int .i64 s.b) ∧ (stv xs)[i * 4 + 2]? = some (.int .i64 s.c) ∧ (stv xs)[i * 4 + 3]? = some (.int .i64 s.d) := by
  induction xs generalizing i with
  | nil => simp at h
  | cons x r ih =>
    have hs : stv (x :: r) = [Value.int .i64 x.a, .int .i64 x.b, .int .i64 x.c, .int .i64 x.d] ++ stv r := by simp [stv, ivals, Sk.cs]
    cases i with
    | zero =>
      simp at h
      subst h
      rw [hs]
      exact ⟨rfl, rfl, rfl, rfl⟩
    | succ i =>
      have h1 := ih (i := i) (by simpa using h)
      have e : ∀ j, (stv (x :: r))[(i + 1) * 4 + j]? = (stv r)[i * 4 + j]? := by
        intro j
        rw [hs, List.getElem?_append_right (by simp; omega)]
        congr 1
        simp
        omega
      exact ⟨(e 0).trans h1.1, (e 1).trans h1.2.1, (e 2).trans h1.2.2.1, (e 3).trans h1.2.2.2⟩

set_option maxHeartbeats 400000 in
theorem kkey_yes (w : World) (g m : Nat) (most : Int) (v : Value) (xs : List Sk) (h : TK w g m most v xs) (i : Nat) (s : Sk) (hi : xs[i]? = some s) :
    Calls Try.prog 16 #[.pointer (some ⟨g, 0, none⟩), .int .i64 i] w fun e w' => e = .returned (.tuple #[SV s, .bool true]) ∧ Below w.heap.size w w' := by
  have hb := below_alloc w (.cells #[.int .i64 0, .int .i64 0, .int .i64 0, .int .i64 0] 46)
  have T1 := h.below hb (Nat.le_refl _)
  have M := kmade_yes _ g m most v xs T1
  obtain ⟨c0, c1, c2, f0⟩ := T1.cells
  have hrow := T1.row
  rw [List.length_map] at hrow
  have hlt := (List.getElem?_eq_some_iff.1 hi).1
  have hbl := hrow.lt
  rcases hrow.2 with ⟨rfl, h0⟩ | ⟨b, cp, cur, rfl, _, hg, hle, hm, hsz, ht⟩
  · omega
  have hbs : b < w.heap.size := h.lt.2.2 b rfl
  obtain ⟨g1, g2, g3, g4⟩ := stv_get hi
  have k1 := (hrow.cellAt (i * 4) (by omega)).trans g1
  have k2 := (hrow.cellAt (i * 4 + 1) (by omega)).trans g2
  have k3 := (hrow.cellAt (i * 4 + 2) (by omega)).trans g3
  have k4 := (hrow.cellAt (i * 4 + 3) (by omega)).trans g4
  clear h T1 hg hsz ht hrow g1 g2 g3 g4 hbl
  have hi0 : ¬ (i : Int) < 0 := by omega
  have hi1 : ¬ (xs.length : Int) ≤ i := by omega
  have hi2 : (i : Int) < xs.length := by omega
  go_enter Try.func16, Try.ntmps16
  go_wp2_with (first
    | (go_at_call 30; refine M.mono ?_; rintro e w' ⟨rfl, rfl⟩)
    | go_in)
  refine bodyPost_ret (by unfold results; simp only [Try.results16]; go_simp; rfl) rfl ?_
  exact ⟨rfl, (by repeat' (first | (with_reducible exact Below.refl _ _) | (with_reducible assumption) | (with_reducible refine Below.alloc ?_ ?_ _) | (with_reducible refine Below.setCell ?_ ?_ _) | omega | (simp; done) | (simp; omega)))⟩

set_option maxHeartbeats 400000 in
theorem kkey_no (w : World) (g m : Nat) (most : Int) (v : Value) (xs : List Sk) (h : TK w g m most v xs) (i : Int) (hi : i < 0 ∨ (xs.length : Int) ≤ i) :
    Calls Try.prog 16 #[.pointer (some ⟨g, 0, none⟩), .int .i64 i] w fun e w' => ∃ s : Sk, e = .returned (.tuple #[SV s, .bool false]) ∧ Below w.heap.size w w' := by
  have hb := below_alloc w (.cells #[.int .i64 0, .int .i64 0, .int .i64 0, .int .i64 0] 46)
  have T1 := h.below hb (Nat.le_refl _)
  have M := kmade_yes _ g m most v xs T1
  obtain ⟨A, cp, rfl, -⟩ := own_form h.row
  obtain ⟨c0, c1, c2, f0⟩ := T1.cells
  rw [List.length_map] at c0
  clear h T1
  by_cases h1 : i < 0
  · go_enter Try.func16, Try.ntmps16
    go_wp2_with (first
    | (go_at_call 30; refine M.mono ?_; rintro e w' ⟨rfl, rfl⟩)
    | go_in)
    refine bodyPost_ret (by unfold results; simp only [Try.results16]; go_simp; rfl) rfl ?_
    exact ⟨⟨0, 0, 0, 0⟩, rfl, (by repeat' (first | (with_reducible exact Below.refl _ _) | (with_reducible assumption) | (with_reducible refine Below.alloc ?_ ?_ _) | (with_reducible refine Below.setCell ?_ ?_ _) | omega | (simp; done) | (simp; omega)))⟩
  · have h2 : (xs.length : Int) ≤ i := by omega
    go_enter Try.func16, Try.ntmps16
    go_wp2_with (first
    | (go_at_call 30; refine M.mono ?_; rintro e w' ⟨rfl, rfl⟩)
    | go_in)
    refine bodyPost_ret (by unfold results; simp only [Try.results16]; go_simp; rfl) rfl ?_
    exact ⟨⟨0, 0, 0, 0⟩, rfl, (by repeat' (first | (with_reducible exact Below.refl _ _) | (with_reducible assumption) | (with_reducible refine Below.alloc ?_ ?_ _) | (with_reducible refine Below.setCell ?_ ?_ _) | omega | (simp; done) | (simp; omega)))⟩

end Go.Proofs.Ytgmbbhfcpllgoaa
