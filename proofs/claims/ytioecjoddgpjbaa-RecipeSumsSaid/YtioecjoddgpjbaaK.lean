/-
  Words for memory that the walks of this seat share: an append of one element onto a row of the call's own, slices that read as lists.
-/
import Derived.Test.YtioecjoddgpjbaaRows
import Derived.WalkKit
import Derived.WalkSpells
import Derived.WalkLawsBesides
import Derived.ProofKit
import Derived.OpenShut
import Derived.JoinedCond
import Derived.Lib.Hide
import Derived.Lib.SmallJoins
import Derived.Deep.Cut
import Derived.Deep.CutRange
import Derived.Deep.DeepCutAuto
import Derived.Deep.DeepMust
import Derived.Deep.RegionWith
import Derived.Deep.QuietTactic
import Derived.Deep.LoopGhost
import Derived.Deep.RegionHeld3
import Derived.Deep.DeepFit
import Derived.Deep.AppendLies
import Derived.Deep.Slices
import Derived.Deep.Fields
import Derived.SliceStrings
import Derived.BigQuiet
import Derived.StillTailTactics
namespace Go.Proofs.Ytioecjoddgpjbaa
open Go.RowKit

theorem addr_add (g off j : Nat) : (⟨g, off, none⟩ : Addr).add j = ⟨g, off + j, none⟩ := by
  unfold Addr.add
  split <;> simp_all

theorem own_form {w : World} {base e size n : Nat} {v : Value} {xs : List Value} (h : w.ownsRow base e size v n xs) :
    ∃ A c, v = .slice A n c ∧ (0 < n → ∃ g, A = some ⟨g, 0, none⟩ ∧ base ≤ g ∧ g < w.heap.size) := by
  rcases h.2 with ⟨rfl, rfl⟩ | ⟨g, cap, cur, rfl, hb, hg, _⟩
  · exact ⟨none, 0, rfl, fun h => absurd h (by omega)⟩
  · exact ⟨some ⟨g, 0, none⟩, cap, rfl, fun _ => ⟨g, rfl, hb, (Array.getElem?_eq_some_iff.1 hg).1⟩⟩

theorem own_cap {w : World} {base e size n c : Nat} {A : Option Addr} {xs : List Value} (h : w.ownsRow base e size (.slice A n c) n xs) : n ≤ c ∧ c ≤ maxLen := by
  rcases h.2 with ⟨h1, rfl⟩ | ⟨g, cap, cur, h1, hb, hg, h2, h3, _⟩
  · injection h1 with _ _ h1; subst h1; exact ⟨Nat.le_refl _, by unfold maxLen; omega⟩
  · injection h1 with _ _ h1; subst h1; exact ⟨h2, h3⟩

theorem own_base {w : World} {base base' e size n : Nat} {v : Value} {xs : List Value} (h : w.ownsRow base e size v n xs) (hb : base' ≤ base) : w.ownsRow base' e size v n xs := by
  refine ⟨h.1, ?_⟩
  rcases h.2 with h1 | ⟨g, cap, cur, h1, h2, h3⟩
  · exact .inl h1
  · exact .inr ⟨g, cap, cur, h1, Nat.le_trans hb h2, h3⟩

theorem own_drewN {w : World} {base e size n : Nat} {v : Value} {xs : List Value} (h : w.ownsRow base e size v n xs) (k : Nat) : (w.drewN k).ownsRow base e size v n xs := h

/-- What is owned stays owned below a later world in which no block below B has turned. -/
theorem own_below {w w' : World} {B base e size n : Nat} {v : Value} {xs : List Value} (h : w.ownsRow base e size v n xs) (hb : Below B w w') (hB : w.heap.size ≤ B) : w'.ownsRow base e size v n xs := by
  refine ⟨h.1, ?_⟩
  rcases h.2 with h1 | ⟨g, cap, cur, h1, h2, h3, h4⟩
  · exact .inl h1
  · exact .inr ⟨g, cap, cur, h1, h2, (hb.block g (Nat.lt_of_lt_of_le (Array.getElem?_eq_some_iff.1 h3).1 hB)).trans h3, h4⟩

theorem wpList_wanted {P : Program} {ops : Array Oper} {Q : Exit → Act → World → Prop} {a : Act} {w : World} {rest : List Oper} {o : Oper} (hw : Region.wanted o (yielded ops a.tmps) = true)
    (h : o.wp P a w (wpList P ops Q rest) Q) : wpList P ops Q (o :: rest) a w := by
  unfold wpList
  rw [if_pos hw]
  exact .inl h

/-- append(s, x): x lies in a new block of its own, which the walk has just laid. -/
theorem wp_append_one {P : Program} {o : Oper} {a : Act} {K : Act → World → Prop} {Q : Exit → Act → World → Prop} {w : World} (s x : Operand) (t : TypeId)
    (ho : o.op = .call { callee := .builtin .append, args := #[s, x], argTypes := #[t, t] })
    (base : Nat) (e : TypeId) (i : TypeInfo) (z : Value) (size bytes : Nat) (ht : P.underlying t = some (.slice e)) (hi : P.info? e = some i) (hz : i.zero = some z)
    (hsize : i.size = size) (hby : i.bytes = bytes) (hzs : z.cells.size = size) (hsz : 0 < size)
    (v : Value) (n : Nat) (xs : List Value) (hs : a.eval s = v) (hown : w.ownsRow base e size v n xs)
    (us : List Value) (hx : a.eval x = .slice (some ⟨w.heap.size, 0, none⟩) 1 1) (hus : us.length = size) (h1 : ∀ u ∈ us, u.oneCell' = true)
    (h63 : n + 1 ≤ maxLen) (hbytes : (n + 1) * bytes ≤ 140737488355328) (hbase : base ≤ w.heap.size)
    (h : ∀ g c w', w'.ownsRow base e size (.slice (some ⟨g, 0, none⟩) (n + 1) c) (n + 1) (xs ++ us) → w.grownBy w' v.ownBlock → n + 1 ≤ c → c ≤ maxLen → base ≤ g → g < w'.heap.size → w.heap.size ≤ w'.heap.size →
      K (a.put o.dst (.slice (some ⟨g, 0, none⟩) (n + 1) c)) w') : o.wp P a (w.alloc (.cells us.toArray e)) K Q := by
  refine wp_append_own (w.alloc (.cells us.toArray e)) s x t ho base e i z size bytes ht hi hz hsize hby hzs hsz v n xs hs (hown.alloc _) ⟨w.heap.size, 0, none⟩ 1 1 us hx (by simpa using hus) ?_ h1 h63 hbytes (by simp; omega) ?_
  · intro j u hj
    rw [addr_add, cell_of_row _ w.heap.size (0 + j) us.toArray e (0, 0) (heap_alloc_new w _)]
    simpa using hj
  · intro v' w' hown' hg _
    obtain ⟨A, c, rfl, hA⟩ := own_form hown'
    obtain ⟨g, rfl, hb, hl⟩ := hA (by omega)
    have hcap := own_cap hown'
    have hsz : w.heap.size ≤ w'.heap.size := by have := hg.size; simp at this; omega
    refine h g c w' hown' ⟨hg.os, hg.tape, hg.output, hsz, fun k hk hne => ?_⟩ hcap.1 hcap.2 hb hl hsz
    rw [hg.block k (by simp; omega) hne]
    exact Below.heap_alloc w _ k hk
theorem wpList_append_one {P : Program} {ops : Array Oper} {rest : List Oper} {o : Oper} {a : Act} {Q : Exit → Act → World → Prop} {w : World} (hgd : o.guard = none) (s x : Operand) (t : TypeId)
    (ho : o.op = .call { callee := .builtin .append, args := #[s, x], argTypes := #[t, t] })
    (base : Nat) (e : TypeId) (i : TypeInfo) (z : Value) (size bytes : Nat) (ht : P.underlying t = some (.slice e)) (hi : P.info? e = some i) (hz : i.zero = some z)
    (hsize : i.size = size) (hby : i.bytes = bytes) (hzs : z.cells.size = size) (hsz : 0 < size)
    (v : Value) (n : Nat) (xs : List Value) (hs : a.eval s = v) (hown : w.ownsRow base e size v n xs)
    (us : List Value) (hx : a.eval x = .slice (some ⟨w.heap.size, 0, none⟩) 1 1) (hus : us.length = size) (h1 : ∀ u ∈ us, u.oneCell' = true)
    (h63 : n + 1 ≤ maxLen) (hbytes : (n + 1) * bytes ≤ 140737488355328) (hbase : base ≤ w.heap.size)
    (h : ∀ g c w', w'.ownsRow base e size (.slice (some ⟨g, 0, none⟩) (n + 1) c) (n + 1) (xs ++ us) → w.grownBy w' v.ownBlock → n + 1 ≤ c → c ≤ maxLen → base ≤ g → g < w'.heap.size → w.heap.size ≤ w'.heap.size →
      wpList P ops Q rest (a.put o.dst (.slice (some ⟨g, 0, none⟩) (n + 1) c)) w') : wpList P ops Q (o :: rest) a (w.alloc (.cells us.toArray e)) :=
  wpList_plain hgd fun _ hK => wp_append_one s x t ho base e i z size bytes ht hi hz hsize hby hzs hsz v n xs hs hown us hx hus h1 h63 hbytes hbase fun g c w' a1 a2 a3 a4 a5 a6 a7 => hK _ _ (h g c w' a1 a2 a3 a4 a5 a6 a7)
theorem wpList_append_one_w {P : Program} {ops : Array Oper} {rest : List Oper} {o : Oper} {a : Act} {Q : Exit → Act → World → Prop} {w : World} (hw : Region.wanted o (yielded ops a.tmps) = true) (s x : Operand) (t : TypeId)
    (ho : o.op = .call { callee := .builtin .append, args := #[s, x], argTypes := #[t, t] })
    (base : Nat) (e : TypeId) (i : TypeInfo) (z : Value) (size bytes : Nat) (ht : P.underlying t = some (.slice e)) (hi : P.info? e = some i) (hz : i.zero = some z)
    (hsize : i.size = size) (hby : i.bytes = bytes) (hzs : z.cells.size = size) (hsz : 0 < size)
    (v : Value) (n : Nat) (xs : List Value) (hs : a.eval s = v) (hown : w.ownsRow base e size v n xs)
    (us : List Value) (hx : a.eval x = .slice (some ⟨w.heap.size, 0, none⟩) 1 1) (hus : us.length = size) (h1 : ∀ u ∈ us, u.oneCell' = true)
    (h63 : n + 1 ≤ maxLen) (hbytes : (n + 1) * bytes ≤ 140737488355328) (hbase : base ≤ w.heap.size)
    (h : ∀ g c w', w'.ownsRow base e size (.slice (some ⟨g, 0, none⟩) (n + 1) c) (n + 1) (xs ++ us) → w.grownBy w' v.ownBlock → n + 1 ≤ c → c ≤ maxLen → base ≤ g → g < w'.heap.size → w.heap.size ≤ w'.heap.size →
      wpList P ops Q rest (a.put o.dst (.slice (some ⟨g, 0, none⟩) (n + 1) c)) w') : wpList P ops Q (o :: rest) a (w.alloc (.cells us.toArray e)) :=
  wpList_wanted hw (wp_append_one s x t ho base e i z size bytes ht hi hz hsize hby hzs hsz v n xs hs hown us hx hus h1 h63 hbytes hbase h)

/-- A slice of one-cell elements that reads as a list of values: nil, empty or not. -/
def RowAt (w : World) (A : Option Addr) (xs : List Value) : Prop :=
  0 < xs.length → ∃ b off, A = some ⟨b, off, none⟩ ∧ b < w.heap.size ∧ ∀ j u, xs[j]? = some u → w.cell? ⟨b, off + j, none⟩ = some u

section
variable {w w' : World} {A : Option Addr} {xs : List Value}
theorem RowAt.keep (h : RowAt w A xs) (hs : w.heap.size ≤ w'.heap.size) (hk : ∀ b, b < w.heap.size → w'.heap[b]? = w.heap[b]?) : RowAt w' A xs := by
  intro hn
  obtain ⟨b, off, rfl, hb, hc⟩ := h hn
  exact ⟨b, off, rfl, by omega, fun j u hj => (World.cell?_of_block (w := w) (hk b hb)).trans (hc j u hj)⟩
theorem RowAt.below {B : Nat} (h : RowAt w A xs) (hb : Below B w w') (hB : w.heap.size ≤ B) : RowAt w' A xs := h.keep hb.size fun b hb' => hb.block b (by omega)
theorem RowAt.drew (h : RowAt w A xs) : RowAt w.drew A xs := h
theorem RowAt.drewN (h : RowAt w A xs) (k : Nat) : RowAt (w.drewN k) A xs := h
theorem RowAt.alloc (h : RowAt w A xs) (o : Obj) : RowAt (w.alloc o) A xs := h.keep (by simp) fun b hb => Below.heap_alloc w o b hb
theorem RowAt.of_own {base e n c : Nat} (h : w.ownsRow base e 1 (.slice A n c) n xs) : RowAt w A xs := by
  intro hn
  have hl : xs.length = n := by simpa using h.1
  obtain ⟨A', c', hv, hf⟩ := own_form h
  obtain ⟨g, hA, hb, hlt⟩ := hf (by omega)
  injection hv with hv1 hv2 hv3
  subst hv1 hv3 hA
  refine ⟨g, 0, rfl, hlt, fun j u hj => ?_⟩
  have hjl : j < xs.length := (List.getElem?_eq_some_iff.1 hj).1
  rw [Nat.zero_add, h.cellAt j (by omega)]
  exact hj
theorem RowAt.take (h : RowAt w A xs) (k : Nat) : RowAt w A (xs.take k) := by
  intro hn
  have hl := List.length_take_le' k xs
  obtain ⟨b, off, rfl, hb, hc⟩ := h (by omega)
  refine ⟨b, off, rfl, hb, fun j u hj => hc j u ?_⟩
  rw [List.getElem?_take] at hj
  split at hj
  · exact hj
  · cases hj
end

theorem RowAt.of_cells {w : World} {a : Addr} {xs : List Value} (h : ∀ j u, xs[j]? = some u → w.cell? (a.add j) = some u) : RowAt w (some a) xs := by
  intro hn
  obtain ⟨b, off, spot⟩ := a
  have h0 := h 0 xs[0] (by simp [hn])
  have hspot : spot = none := by simpa [Addr.add] using World.cell?_spot h0
  subst hspot
  refine ⟨b, off, rfl, ?_, fun j u hj => by rw [← Go.WideShapes.add_plain]; exact h j u hj⟩
  have h1 := World.block_lt_of_cell? w _ h0
  rw [addr_add] at h1
  exact h1

theorem i64_bounds {x : Int} (h : (Lit.int .i64 x).wf = true) : -9223372036854775808 ≤ x ∧ x ≤ 9223372036854775807 := by
  simpa [Lit.wf, IntKind.min, IntKind.max, IntKind.signed, IntKind.bits] using h
theorem u64_bounds {x : Int} (h : (Lit.int .u64 x).wf = true) : 0 ≤ x ∧ x ≤ 18446744073709551615 := by
  simpa [Lit.wf, IntKind.min, IntKind.max, IntKind.signed, IntKind.bits] using h

def ivals (l : List Int) : List Value := l.map (Value.int .i64)
theorem ivals_get (l : List Int) (k : Nat) (h : k < l.length) : (ivals l)[k]? = some (.int .i64 l[k]) := by simp [ivals, h]
theorem ivals_len (l : List Int) : (ivals l).length = l.length := by simp [ivals]
theorem ivals_take (l : List Int) (k : Nat) : ivals (l.take k) = (ivals l).take k := by simp [ivals, List.map_take]
theorem ivals_append (l m : List Int) : ivals (l ++ m) = ivals l ++ ivals m := by simp [ivals]
theorem ivals_take_succ (l : List Int) (k : Nat) (h : k < l.length) : ivals (l.take (k + 1)) = ivals (l.take k) ++ [Value.int .i64 l[k]] := by
  unfold ivals
  rw [List.take_succ_eq_append_getElem h, List.map_append]
  rfl
def svals (l : List ByteArray) : List Value := l.map Value.string
theorem svals_get (l : List ByteArray) (k : Nat) (h : k < l.length) : (svals l)[k]? = some (.string l[k]) := by simp [svals, h]
theorem svals_len (l : List ByteArray) : (svals l).length = l.length := by simp [svals]
theorem svals_take_succ (l : List ByteArray) (k : Nat) (h : k < l.length) : svals (l.take (k + 1)) = svals (l.take k) ++ [Value.string l[k]] := by
  unfold svals
  rw [List.take_succ_eq_append_getElem h, List.map_append]
  rfl

section
open Go.ChangeShapes Go.WideShapes Go.ChangeAt
variable {H : Type} {enc : TypeId × Value → H} {P : Program} {W : World}
/-- A slice of ints that came in: nil, empty or not. -/
theorem open_ints_arg {t e : TypeId} {base : Nat} {v : Value} {d : DataW H} {p : List MemPlace} (ht : P.underlying t = some (.slice e)) (he : P.underlying e = some (.int .i64)) (hc : P.cellsOf e = 1)
    (hv : Value.okWide P W .any base t v) (h : DataW.Trod enc P W 0 (fun _ => true) true t v d p) :
    ∃ A cap xs, v = .slice A xs.length cap ∧ xs.length ≤ cap ∧ cap ≤ maxLen ∧ RowAt W A (ivals xs) ∧ ∀ x ∈ xs, -9223372036854775808 ≤ x ∧ x ≤ 9223372036854775807 := by
  obtain ⟨a0, len0, cap0, rfl⟩ := okWide_slice ht hv
  obtain ⟨fuel, hf⟩ := h
  rcases open_ints ht he hc hf with ⟨hcs, _⟩ | ⟨x, l, c, zs, hcs, _, hl, hm, hz, _, hcell, hwz⟩
  · simp [Value.cells] at hcs
    obtain ⟨rfl, rfl, rfl⟩ := hcs
    exact ⟨none, 0, [], rfl, Nat.le_refl _, Nat.zero_le _, fun h => absurd h (by simp [ivals]), fun x hx => absurd hx (by simp)⟩
  · simp [Value.cells] at hcs
    obtain ⟨rfl, rfl, rfl⟩ := hcs
    have hlen : (zs.take len0).length = len0 := by rw [List.length_take]; simp at hz; omega
    refine ⟨some x, cap0, zs.take len0, by rw [hlen], by omega, hm, ?_, fun x hx => i64_bounds (hwz x (List.mem_of_mem_take hx))⟩
    refine RowAt.of_cells fun j u hj => ?_
    have hjl : j < len0 := by have := (List.getElem?_eq_some_iff.1 hj).1; rw [ivals_len, hlen] at this; exact this
    have hzl : j < zs.length := by simp at hz; omega
    rw [hcell j hzl]
    unfold ivals at hj
    rw [List.getElem?_map, List.getElem?_take, if_pos hjl] at hj
    rw [List.getD_eq_getElem?_getD]
    rw [List.getElem?_eq_getElem hzl] at hj ⊢
    simpa using hj

/-- A slice of strings that came in: nil, empty or not. -/
theorem open_strings_arg {t e : TypeId} {base : Nat} {v : Value} {d : DataW H} {p : List MemPlace} (ht : P.underlying t = some (.slice e)) (he : P.underlying e = some .string) (hc : P.cellsOf e = 1)
    (hv : Value.okWide P W .any base t v) (h : DataW.Trod enc P W 0 (fun _ => true) true t v d p) :
    ∃ A cap xs, v = .slice A xs.length cap ∧ xs.length ≤ cap ∧ cap ≤ maxLen ∧ RowAt W A (svals xs) ∧ ∀ x ∈ xs, x.size ≤ maxLen := by
  obtain ⟨a0, len0, cap0, rfl⟩ := okWide_slice ht hv
  obtain ⟨fuel, hf⟩ := h
  rcases open_strings ht he hc hf with ⟨hcs, _⟩ | ⟨x, l, c, zs, hcs, _, hl, hm, hz, _, hcell, hwz⟩
  · simp [Value.cells] at hcs
    obtain ⟨rfl, rfl, rfl⟩ := hcs
    exact ⟨none, 0, [], rfl, Nat.le_refl _, Nat.zero_le _, fun h => absurd h (by simp [svals]), fun x hx => absurd hx (by simp)⟩
  · simp [Value.cells] at hcs
    obtain ⟨rfl, rfl, rfl⟩ := hcs
    have hlen : (zs.take len0).length = len0 := by rw [List.length_take]; simp at hz; omega
    refine ⟨some x, cap0, zs.take len0, by rw [hlen], by omega, hm, ?_, fun x hx => hwz x (List.mem_of_mem_take hx)⟩
    refine RowAt.of_cells fun j u hj => ?_
    have hjl : j < len0 := by have := (List.getElem?_eq_some_iff.1 hj).1; rw [svals_len, hlen] at this; exact this
    have hzl : j < zs.length := by simp at hz; omega
    rw [hcell j hzl]
    unfold svals at hj
    rw [List.getElem?_map, List.getElem?_take, if_pos hjl] at hj
    rw [List.getD_eq_getElem?_getD]
    rw [List.getElem?_eq_getElem hzl] at hj ⊢
    simpa using hj
end

theorem below_drewN {B : Nat} {a w : World} (h : Below B a w) (n : Nat) : Below B a (w.drewN n) := ⟨h.os, h.tape, h.output, h.size, h.block⟩
theorem heap_drewN (w : World) (n : Nat) : (w.drewN n).heap = w.heap := rfl
theorem grown_refl (w : World) (row : Option Nat) : w.grownBy w row := World.grownBy.refl w row
theorem below_of_grown {w w' : World} {row : Option Nat} {B : Nat} (h : w.grownBy w' row) (hB : B ≤ w.heap.size) (hr : ∀ g, row = some g → B ≤ g) : Below B w w' := (Below.refl B w).grown h hB hr

/-- append(s, xs...): s a row of the call's own, xs whatever slice of one-cell elements. -/
theorem wp_append_row {P : Program} {o : Oper} {a : Act} {K : Act → World → Prop} {Q : Exit → Act → World → Prop} {w : World} (s x : Operand) (t : TypeId)
    (ho : o.op = .call { callee := .builtin .append, args := #[s, x], argTypes := #[t, t] })
    (base : Nat) (e : TypeId) (i : TypeInfo) (z : Value) (bytes : Nat) (ht : P.underlying t = some (.slice e)) (hi : P.info? e = some i) (hz : i.zero = some z)
    (hsize : i.size = 1) (hby : i.bytes = bytes) (hzs : z.cells.size = 1)
    (v : Value) (n : Nat) (xs : List Value) (hs : a.eval s = v) (hown : w.ownsRow base e 1 v n xs)
    (A : Option Addr) (m c : Nat) (news : List Value) (hx : a.eval x = .slice A m c) (hl : news.length = m) (hr : RowAt w A news) (h1 : ∀ u ∈ news, u.oneCell' = true)
    (h63 : n + m ≤ maxLen) (hbytes : (n + m) * bytes ≤ 140737488355328) (hbase : base ≤ w.heap.size)
    (h : ∀ A' c' w', w'.ownsRow base e 1 (.slice A' (n + m) c') (n + m) (xs ++ news) → w.grownBy w' v.ownBlock → w.heap.size ≤ w'.heap.size → (∀ g, (Value.slice A' (n + m) c').ownBlock = some g → base ≤ g) →
      K (a.put o.dst (.slice A' (n + m) c')) w') : o.wp P a w K Q := by
  have fin : ∀ v' w', w'.ownsRow base e 1 v' (n + m) (xs ++ news) → w.grownBy w' v.ownBlock → K (a.put o.dst v') w' := by
    intro v' w' hown' hg
    obtain ⟨A', c', rfl, hA⟩ := own_form hown'
    exact h A' c' w' hown' hg hg.size fun g hg => (hown'.lt g hg).1
  rcases A with _ | ad
  · have hm : m = 0 := by
      rcases Nat.eq_zero_or_pos m with h0 | h0
      · exact h0
      · obtain ⟨b, off, h, _⟩ := hr (by omega)
        cases h
    subst hm
    have hn : news = [] := List.eq_nil_of_length_eq_zero hl
    subst hn
    have hrun : (Builtin.append_ #[t, t] o.type #[v, .slice none 0 c]).run P w = .ok v w := by
      rcases hown.2 with ⟨rfl, rfl⟩ | ⟨g, cap, cur, rfl, _, _, hnc, _⟩
      · simp [Builtin.append_, run_underlying ht, sizeOf, typeInfo, hi, Builtin.lenOf, Builtin.firstCells]
      · simp [Builtin.append_, run_underlying ht, sizeOf, typeInfo, hi, Builtin.lenOf, Builtin.firstCells, hnc, storeCells]
    unfold Oper.wp execOp
    simp only [ho, resolve, invoke, builtin, Sem.run_bind, Sem.run_pure, Result.andThen_ok, List.map_toArray, List.map_cons, List.map_nil, hs, hx, hrun]
    exact fin v w (by simpa using hown) (World.grownBy.refl w _)
  · refine wp_append_own w s x t ho base e i z 1 bytes ht hi hz hsize hby hzs (by decide) v n xs hs hown ad m c news hx (by simpa using hl) ?_ h1 h63 hbytes hbase fun v' w' a b _ => fin v' w' a b
    intro j u hj
    have hjl : j < news.length := (List.getElem?_eq_some_iff.1 hj).1
    obtain ⟨b, off, he, _, hc⟩ := hr (by omega)
    injection he with he
    subst he
    rw [addr_add]
    exact hc j u hj
theorem wpList_append_row {P : Program} {ops : Array Oper} {rest : List Oper} {o : Oper} {a : Act} {Q : Exit → Act → World → Prop} {w : World} (hw : Region.wanted o (yielded ops a.tmps) = true) (s x : Operand) (t : TypeId)
    (ho : o.op = .call { callee := .builtin .append, args := #[s, x], argTypes := #[t, t] })
    (base : Nat) (e : TypeId) (i : TypeInfo) (z : Value) (bytes : Nat) (ht : P.underlying t = some (.slice e)) (hi : P.info? e = some i) (hz : i.zero = some z)
    (hsize : i.size = 1) (hby : i.bytes = bytes) (hzs : z.cells.size = 1)
    (v : Value) (n : Nat) (xs : List Value) (hs : a.eval s = v) (hown : w.ownsRow base e 1 v n xs)
    (A : Option Addr) (m c : Nat) (news : List Value) (hx : a.eval x = .slice A m c) (hl : news.length = m) (hr : RowAt w A news) (h1 : ∀ u ∈ news, u.oneCell' = true)
    (h63 : n + m ≤ maxLen) (hbytes : (n + m) * bytes ≤ 140737488355328) (hbase : base ≤ w.heap.size)
    (h : ∀ A' c' w', w'.ownsRow base e 1 (.slice A' (n + m) c') (n + m) (xs ++ news) → w.grownBy w' v.ownBlock → w.heap.size ≤ w'.heap.size → (∀ g, (Value.slice A' (n + m) c').ownBlock = some g → base ≤ g) →
      wpList P ops Q rest (a.put o.dst (.slice A' (n + m) c')) w') : wpList P ops Q (o :: rest) a w :=
  wpList_wanted hw (wp_append_row s x t ho base e i z bytes ht hi hz hsize hby hzs v n xs hs hown A m c news hx hl hr h1 h63 hbytes hbase h)
theorem ivals_one (l : List Int) : ∀ u ∈ ivals l, u.oneCell' = true := by
  intro u hu
  unfold ivals at hu
  obtain ⟨x, _, rfl⟩ := List.mem_map.1 hu
  rfl
theorem svals_one (l : List ByteArray) : ∀ u ∈ svals l, u.oneCell' = true := by
  intro u hu
  unfold svals at hu
  obtain ⟨x, _, rfl⟩ := List.mem_map.1 hu
  rfl
theorem RowAt.iget {w : World} {A : Option Addr} {xs : List Int} (h : RowAt w A (ivals xs)) (hn : 0 < xs.length) :
    ∃ b off, A = some ⟨b, off, none⟩ ∧ b < w.heap.size ∧ ∀ j (hj : j < xs.length), w.cell? ⟨b, off + j, none⟩ = some (.int .i64 xs[j]) := by
  obtain ⟨b, off, rfl, hb, hc⟩ := h (by rw [ivals_len]; exact hn)
  exact ⟨b, off, rfl, hb, fun j hj => hc j _ (ivals_get xs j hj)⟩

/-- What is left of a list behind its first k: 's[k:]'; where k is the capacity the address stays. -/
theorem RowAt.drop {w : World} {A : Option Addr} {xs : List Value} (h : RowAt w A xs) (k : Nat) : RowAt w (A.map (·.add k)) (xs.drop k) := by
  intro hn
  rw [List.length_drop] at hn
  obtain ⟨b, off, rfl, hb, hc⟩ := h (by omega)
  refine ⟨b, off + k, by simp [addr_add], hb, fun j u hj => ?_⟩
  rw [List.getElem?_drop] at hj
  rw [Nat.add_assoc]
  exact hc _ u hj
theorem RowAt.nil (w : World) (A : Option Addr) : RowAt w A [] := fun h => absurd h (by simp)
theorem RowAt.cut {w : World} {A : Option Addr} {xs : List Value} (h : RowAt w A xs) {k cap : Nat} (hc : xs.length ≤ cap) : RowAt w (if cap = k then A else A.map (·.add k)) (xs.drop k) := by
  split
  · rename_i he
    rw [List.drop_eq_nil_of_le (by omega)]
    exact RowAt.nil _ _
  · exact h.drop k

/-- Block g is just these cells, none of them frozen. -/
def Box (w : World) (g : Nat) (t : TypeId) (cs : Array Value) : Prop := w.heap[g]? = some (.cells cs t (0, 0))
section
variable {w w' : World} {g : Nat} {t : TypeId} {cs : Array Value}
theorem Box.lt (h : Box w g t cs) : g < w.heap.size := (Array.getElem?_eq_some_iff.1 h).1
theorem Box.cells (h : Box w g t cs) : ∀ i, w.cell? ⟨g, i, none⟩ = cs[i]? := fun i => cell_of_row w g i cs t (0, 0) h
theorem Box.free (h : Box w g t cs) : ∀ i, w.frozen? ⟨g, i, none⟩ = false := fun i => frozen_of_row w g i cs t h
theorem Box.new (w : World) (t : TypeId) (cs : Array Value) : Box (w.alloc (.cells cs t)) w.heap.size t cs := heap_alloc_new w _
theorem Box.alloc (h : Box w g t cs) (o : Obj) : Box (w.alloc o) g t cs := (Below.heap_alloc w o g h.lt).trans h
theorem Box.drew (h : Box w g t cs) : Box w.drew g t cs := h
theorem Box.drewN (h : Box w g t cs) (n : Nat) : Box (w.drewN n) g t cs := h
theorem Box.below {B : Nat} (h : Box w g t cs) (hb : Below B w w') (hg : g < B) : Box w' g t cs := (hb.block g hg).trans h
theorem Box.later (h : Box w g t cs) (hb : Below w.heap.size w w') : Box w' g t cs := h.below hb h.lt
theorem Box.grown {row : Option Nat} (h : Box w g t cs) (hb : w.grownBy w' row) (hg : some g ≠ row) : Box w' g t cs := (hb.block g h.lt hg).trans h
theorem Box.set (h : Box w g t cs) (i : Nat) (u : Value) : Box (w.setCell ⟨g, i, none⟩ u) g t (cs.setIfInBounds i u) := heap_setCell_same w g i cs t u h
theorem Box.far (h : Box w g t cs) {p : Addr} (hp : g ≠ p.block) (u : Value) : Box (w.setCell p u) g t cs := (Below.heap_setCell w p u g hp).trans h
theorem Box.far' (h : Box w g t cs) {g' i : Nat} (hp : g ≠ g') (u : Value) : Box (w.setCell ⟨g', i, none⟩ u) g t cs := h.far (p := ⟨g', i, none⟩) hp u
theorem Box.ne {g' : Nat} {t' : TypeId} {cs' : Array Value} (h : Box w g t cs) (h' : Box w g' t' cs') (hne : t ≠ t') : g ≠ g' := by
  rintro rfl
  unfold Box at h h'
  rw [h] at h'
  injection h' with h'
  injection h' with _ ht
  exact hne ht
theorem own_ne_box {base e size n : Nat} {v : Value} {xs : List Value} (h : w.ownsRow base e size v n xs) (hg : Box w g t cs) (hne : e ≠ t) : some g ≠ v.ownBlock := by
  rcases h.2 with ⟨rfl, _⟩ | ⟨g', cap, cur, rfl, _, hh, _⟩
  · simp [Value.ownBlock]
  · intro he
    have he : g = g' := by simpa [Value.ownBlock] using he
    subst he
    exact Box.ne (t := e) hh hg hne rfl
end
theorem RowAt.setCell {w : World} {A : Option Addr} {xs : List Value} (h : RowAt w A xs) {B : Nat} (hB : ∀ b off, A = some ⟨b, off, none⟩ → 0 < xs.length → b < B) {p : Addr} (hp : B ≤ p.block) (u : Value) : RowAt (w.setCell p u) A xs := by
  intro hn
  obtain ⟨b, off, rfl, hb, hc⟩ := h hn
  have := hB b off rfl hn
  refine ⟨b, off, rfl, by simpa [World.setCell] using hb, fun j x hj => ?_⟩
  rw [World.cell?_setCell_other w p ⟨b, off + j, none⟩ u (fun e => by subst e; simp at hp; omega)]
  exact hc j x hj

theorem Box.new' {w : World} {g : Nat} {t : TypeId} {cs : Array Value} (h : g = w.heap.size) : Box (w.alloc (.cells cs t)) g t cs := by subst h; exact Box.new w t cs
theorem own_empty {w : World} {base g : Nat} {e : TypeId} {size : Nat} (hb : base ≤ w.heap.size) (hg : g = w.heap.size) : (w.alloc (.cells #[] e)).ownsRow base e size (.slice (some ⟨g, 0, none⟩) 0 0) 0 [] := by
  subst hg
  exact World.ownsRow_lit w #[] 0 hb (by decide) (by simp)
theorem RowAt.far {w : World} {g o g' i : Nat} {xs : List Value} (h : RowAt w (some ⟨g, o, none⟩) xs) (hne : g ≠ g') (u : Value) : RowAt (w.setCell ⟨g', i, none⟩ u) (some ⟨g, o, none⟩) xs := by
  intro hn
  obtain ⟨b, off, he, hb, hc⟩ := h hn
  injection he with he
  injection he with h1 h2
  subst h1 h2
  refine ⟨g, o, rfl, by simpa [World.setCell] using hb, fun j x hj => ?_⟩
  rw [World.cell?_setCell_other w _ ⟨g, o + j, none⟩ u (fun e => by injection e with e1 e2; exact hne e1.symm)]
  exact hc j x hj

/-- Below block N all cells and marks read as before: two rules for the walk. -/
theorem below_reads {N : Nat} {W w1 : World} (hb : Below N W w1) : (∀ b o, b < N → w1.cell? ⟨b, o, none⟩ = W.cell? ⟨b, o, none⟩) ∧ (∀ b o, b < N → w1.frozen? ⟨b, o, none⟩ = W.frozen? ⟨b, o, none⟩) :=
  ⟨fun b o h => hb.cell (p := ⟨b, o, none⟩) h, fun b o h => hb.frozen (p := ⟨b, o, none⟩) h⟩

/-- A slice of one-cell elements that reads as a list, in a block of which S holds (so that a store into another block leaves it alone). -/
def RowS (S : Nat → Prop) (w : World) (A : Option Addr) (xs : List Value) : Prop :=
  0 < xs.length → ∃ b off, A = some ⟨b, off, none⟩ ∧ S b ∧ b < w.heap.size ∧ ∀ j u, xs[j]? = some u → w.cell? ⟨b, off + j, none⟩ = some u
section
variable {S S' : Nat → Prop} {w w' : World} {A : Option Addr} {xs : List Value}
theorem RowS.at (h : RowS S w A xs) : RowAt w A xs := fun hn => by
  obtain ⟨b, off, h1, _, h2⟩ := h hn
  exact ⟨b, off, h1, h2⟩
theorem RowAt.s (h : RowAt w A xs) (hS : ∀ b, b < w.heap.size → S b) : RowS S w A xs := fun hn => by
  obtain ⟨b, off, h1, h2, h3⟩ := h hn
  exact ⟨b, off, h1, hS b h2, h2, h3⟩
theorem RowS.mono (h : RowS S w A xs) (hS : ∀ b, b < w.heap.size → S b → S' b) : RowS S' w A xs := fun hn => by
  obtain ⟨b, off, h1, h2, h3, h4⟩ := h hn
  exact ⟨b, off, h1, hS b h3 h2, h3, h4⟩
theorem RowS.keep (h : RowS S w A xs) (hs : w.heap.size ≤ w'.heap.size) (hk : ∀ b, S b → b < w.heap.size → w'.heap[b]? = w.heap[b]?) : RowS S w' A xs := fun hn => by
  obtain ⟨b, off, h1, h2, h3, h4⟩ := h hn
  exact ⟨b, off, h1, h2, by omega, fun j u hj => (World.cell?_of_block (w := w) (hk b h2 h3)).trans (h4 j u hj)⟩
theorem RowS.below {B : Nat} (h : RowS S w A xs) (hb : Below B w w') (hB : w.heap.size ≤ B) : RowS S w' A xs := h.keep hb.size fun b _ hb' => hb.block b (by omega)
theorem RowS.grown {row : Option Nat} (h : RowS S w A xs) (hb : w.grownBy w' row) (hr : ∀ g, row = some g → ¬ S g) : RowS S w' A xs :=
  h.keep hb.size fun b hS hl => hb.block b hl (fun e => hr b e.symm hS)
theorem RowS.alloc (h : RowS S w A xs) (o : Obj) : RowS S (w.alloc o) A xs := h.keep (by simp) fun b _ hb => Below.heap_alloc w o b hb
theorem RowS.drew (h : RowS S w A xs) : RowS S w.drew A xs := h
theorem RowS.drewN (h : RowS S w A xs) (n : Nat) : RowS S (w.drewN n) A xs := h
theorem RowS.setCell (h : RowS S w A xs) {g i : Nat} (hg : ¬ S g) (u : Value) : RowS S (w.setCell ⟨g, i, none⟩ u) A xs :=
  h.keep (by simp [World.setCell]) fun b hS _ => Below.heap_setCell w ⟨g, i, none⟩ u b (fun e => by subst e; exact hg hS)
theorem RowS.nil (S : Nat → Prop) (w : World) (A : Option Addr) : RowS S w A [] := fun h => absurd h (by simp)
theorem RowS.drop (h : RowS S w A xs) (k : Nat) : RowS S w (A.map (·.add k)) (xs.drop k) := by
  intro hn
  rw [List.length_drop] at hn
  obtain ⟨b, off, rfl, hS, hb, hc⟩ := h (by omega)
  refine ⟨b, off + k, by simp [addr_add], hS, hb, fun j u hj => ?_⟩
  rw [List.getElem?_drop] at hj
  rw [Nat.add_assoc]
  exact hc _ u hj
theorem RowS.take (h : RowS S w A xs) (k : Nat) : RowS S w A (xs.take k) := by
  intro hn
  have hl := List.length_take_le' k xs
  obtain ⟨b, off, rfl, hS, hb, hc⟩ := h (by omega)
  refine ⟨b, off, rfl, hS, hb, fun j u hj => hc j u ?_⟩
  rw [List.getElem?_take] at hj
  split at hj
  · exact hj
  · cases hj
theorem RowS.of_own {base e n c : Nat} (h : w.ownsRow base e 1 (.slice A n c) n xs) (hS : ∀ b, base ≤ b → b < w.heap.size → S b) : RowS S w A xs := by
  intro hn
  have hl : xs.length = n := by simpa using h.1
  obtain ⟨A', c', hv, hf⟩ := own_form h
  obtain ⟨g, hA, hb, hlt⟩ := hf (by omega)
  injection hv with hv1 hv2 hv3
  subst hv1 hv3 hA
  refine ⟨g, 0, rfl, hS g hb hlt, hlt, fun j u hj => ?_⟩
  have hjl : j < xs.length := (List.getElem?_eq_some_iff.1 hj).1
  rw [Nat.zero_add, h.cellAt j (by omega)]
  exact hj
end
theorem RowS.iget {S : Nat → Prop} {w : World} {A : Option Addr} {xs : List Int} (h : RowS S w A (ivals xs)) (hn : 0 < xs.length) :
    ∃ b off, A = some ⟨b, off, none⟩ ∧ S b ∧ b < w.heap.size ∧ ∀ j (hj : j < xs.length), w.cell? ⟨b, off + j, none⟩ = some (.int .i64 xs[j]) := by
  obtain ⟨b, off, rfl, hS, hb, hc⟩ := h (by rw [ivals_len]; exact hn)
  exact ⟨b, off, rfl, hS, hb, fun j hj => hc j _ (ivals_get xs j hj)⟩

/-- append(s, d) for an int d: no side goal is left but the walk's. -/
theorem wpList_append_int {P : Program} {ops : Array Oper} {rest : List Oper} {o : Oper} {a : Act} {Q : Exit → Act → World → Prop} {w : World} (hw : Region.wanted o (yielded ops a.tmps) = true) (s x : Operand) (t : TypeId)
    (ho : o.op = .call { callee := .builtin .append, args := #[s, x], argTypes := #[t, t] })
    (base : Nat) (e : TypeId) (i : TypeInfo) (ht : P.underlying t = some (.slice e)) (hi : P.info? e = some i) (hz : i.zero = some (.int .i64 0)) (hsize : i.size = 1) (hby : i.bytes = 8)
    (v : Value) (n : Nat) (xs : List Value) (hs : a.eval s = v) (hown : w.ownsRow base e 1 v n xs)
    (d : Int) (hx : a.eval x = .slice (some ⟨w.heap.size, 0, none⟩) 1 1) (hn : n + 1 ≤ 1099511627776) (hbase : base ≤ w.heap.size)
    (h : ∀ g c w', w'.ownsRow base e 1 (.slice (some ⟨g, 0, none⟩) (n + 1) c) (n + 1) (xs ++ [Value.int .i64 d]) → w.grownBy w' v.ownBlock → n + 1 ≤ c → c ≤ maxLen → base ≤ g → g < w'.heap.size → w.heap.size ≤ w'.heap.size →
      wpList P ops Q rest (a.put o.dst (.slice (some ⟨g, 0, none⟩) (n + 1) c)) w') : wpList P ops Q (o :: rest) a (w.alloc (.cells #[Value.int .i64 d] e)) :=
  wpList_append_one_w hw s x t ho base e i (.int .i64 0) 1 8 ht hi hz hsize hby rfl (by decide) v n xs hs hown [Value.int .i64 d] hx rfl (fun u hu => by simp at hu; subst hu; rfl) (by unfold maxLen; omega) (by omega) hbase h
end Go.Proofs.Ytioecjoddgpjbaa
