/-
  Words for tables behind a pointer: a struct of a row of keys, a map from keys to their places, and a number; whatever the program.
-/
import Derived.Test.YtgmbbhfcpllgoaaK2
import Derived.Maps.OwnSet
import Derived.Maps.OwnOps
import Derived.Maps.AppendAt
import Derived.Maps.Range
import Derived.StillTailTactics
import Derived.Deep.RegionLaw
namespace Go.Proofs.Ytgmbbhfcpllgoaa
open Go.RowKit Go.Maps

/-- But for the blocks of F nothing has turned. -/
structure Only (F : List Nat) (w w' : World) : Prop where
  os : w'.os = w.os
  tape : w'.tape = w.tape
  output : w'.output = w.output
  size : w.heap.size ≤ w'.heap.size
  block : ∀ k, k < w.heap.size → k ∉ F → w'.heap[k]? = w.heap[k]?

theorem Only.refl (F : List Nat) (w : World) : Only F w w := ⟨rfl, rfl, rfl, Nat.le_refl _, fun _ _ _ => rfl⟩

theorem Only.trans {F F' : List Nat} {a b c : World} (h : Only F a b) (k : Only F' b c) (hF : ∀ j ∈ F', j ∈ F ∨ a.heap.size ≤ j) : Only F a c :=
  ⟨k.os.trans h.os, k.tape.trans h.tape, k.output.trans h.output, Nat.le_trans h.size k.size, fun i hi hn => by
    rw [k.block i (Nat.lt_of_lt_of_le hi h.size) (fun hm => by rcases hF i hm with h1 | h1; exact hn h1; omega), h.block i hi hn]⟩

theorem Only.below {F : List Nat} {w w' : World} {B : Nat} (h : Only F w w') (hB : B ≤ w.heap.size) (hF : ∀ j ∈ F, B ≤ j) : Below B w w' :=
  ⟨h.os, h.tape, h.output, h.size, fun k hk => h.block k (by omega) (fun hm => by have := hF k hm; omega)⟩

theorem Only.of_grown {F : List Nat} {w w' : World} {row : Option Nat} (h : w.grownBy w' row) (hr : ∀ k, row = some k → k ∈ F) : Only F w w' :=
  ⟨h.os, h.tape, h.output, h.size, fun k hk hn => h.block k hk (fun e => hn (hr k e.symm))⟩

theorem Only.of_below {w w' : World} (h : Below w.heap.size w w') (F : List Nat) : Only F w w' :=
  ⟨h.os, h.tape, h.output, h.size, fun k hk _ => h.block k hk⟩

theorem Only.of_drew {F : List Nat} {w w' : World} (h : Only F w.drew w') : Only F w w' := ⟨h.os, h.tape, h.output, h.size, h.block⟩

theorem Only.setCell (w : World) {F : List Nat} {a : Addr} (ha : a.block ∈ F) (u : Value) : Only F w (w.setCell a u) :=
  ⟨rfl, rfl, rfl, by simp [World.setCell], fun k _ hn => Below.heap_setCell _ _ _ _ (fun e => hn (by rw [e]; exact ha))⟩

theorem Only.mono {F F' : List Nat} {w w' : World} (h : Only F w w') (hF : ∀ j ∈ F, j ∈ F') : Only F' w w' :=
  ⟨h.os, h.tape, h.output, h.size, fun k hk hn => h.block k hk (fun hm => hn (hF k hm))⟩

theorem Only.cell {F : List Nat} {w w' : World} (h : Only F w w') {p : Addr} {v : Value} (hp : p.block ∉ F) (hc : w.cell? p = some v) : w'.cell? p = some v :=
  (World.cell?_of_block (h.block p.block (World.block_lt_of_cell? w p hc) hp)).trans hc

/-- append(s, x): x lies in a new block of its own; the new slice lies in the old one's block or in a new one. -/
theorem wpList_append_at {P : Program} {ops : Array Oper} {rest : List Oper} {o : Oper} {a : Act} {Q : Exit → Act → World → Prop} {w : World} (hgd : o.guard = none) (s x : Operand) (t : TypeId)
    (ho : o.op = .call { callee := .builtin .append, args := #[s, x], argTypes := #[t, t] })
    (e : TypeId) (i : TypeInfo) (z : Value) (size bytes : Nat) (ht : P.underlying t = some (.slice e)) (hi : P.info? e = some i) (hz : i.zero = some z)
    (hsize : i.size = size) (hby : i.bytes = bytes) (hzs : z.cells.size = size) (hsz : 0 < size)
    (v : Value) (n : Nat) (xs : List Value) (hs : a.eval s = v) (hown : w.ownsRow 0 e size v n xs)
    (us : List Value) (hx : a.eval x = .slice (some ⟨w.heap.size, 0, none⟩) 1 1) (hus : us.length = size) (h1 : ∀ u ∈ us, u.oneCell' = true)
    (h63 : n + 1 ≤ maxLen) (hbytes : (n + 1) * bytes ≤ 140737488355328)
    (h : ∀ g c w', w'.ownsRow 0 e size (.slice (some ⟨g, 0, none⟩) (n + 1) c) (n + 1) (xs ++ us) → w.grownBy w' v.ownBlock → (v.ownBlock = some g ∨ w.heap.size ≤ g) →
      wpList P ops Q rest (a.put o.dst (.slice (some ⟨g, 0, none⟩) (n + 1) c)) w') : wpList P ops Q (o :: rest) a (w.alloc (.cells us.toArray e)) := by
  refine wpList_append_own_at (w.alloc (.cells us.toArray e)) hgd s x t ho 0 e i z size bytes ht hi hz hsize hby hzs hsz v n xs hs (hown.alloc _) ⟨w.heap.size, 0, none⟩ 1 1 us hx (by simpa using hus) ?_ h1 h63 hbytes (Nat.zero_le _) ?_
  · intro j u hj
    rw [addr_add, cell_of_row _ w.heap.size (0 + j) us.toArray e (0, 0) (heap_alloc_new w _)]
    simpa using hj
  · intro v' w' hown' hg hnil hloc
    rcases hown'.2 with ⟨rfl, h0⟩ | ⟨g, cap, cur, rfl, h2⟩
    · omega
    · refine h g cap w' hown' ⟨hg.os, hg.tape, hg.output, by have := hg.size; simp at this; omega, fun k hk hne => ?_⟩ ?_
      · rw [hg.block k (by simp; omega) hne]
        exact Below.heap_alloc w _ k hk
      · rcases hloc with h3 | h3
        · exact .inl h3.symm
        · right
          simp [Value.ownBlock] at h3
          omega

/-- A region that draws and whose first n operations only read: they are walked once, in the text's order; the others follow. -/
theorem wp_still_tail {P : Program} {id : Nat} {Q : Exit → Act → World → Prop} {a : Act} {w : World} {l : List Oper} (n : Nat) (hm : P.follows .mixedOrders = true) (hB : Region.lexTailB .any l.toArray n = true)
    (h : wpStill P l.toArray w.drew (fun a' => wpList P l.toArray Q (l.drop n) a' w.drew) (l.take n) a) : (Code.region id l.toArray true).wp P Q a w := wp_region_still_tail n hm hB h

section
variable {H : Type}

/-- The map reads as each key of ls at its place, and nothing else. -/
structure Idx (D : DataW H) (ls : List Lit) : Prop where
  isMap : IsMap D
  nodup : ls.Nodup
  not : ∀ k, k ∉ ls → Maps.has D k = false
  yes : ∀ (i : Nat) (k : Lit), ls[i]? = some k → Maps.has D k = true ∧ D.atKey k (.lit (.int .i64 0)) = .lit (.int .i64 i)

theorem Idx.nil : Idx (.map [] : DataW H) [] := ⟨isMap_empty, List.nodup_nil, fun _ _ => rfl, fun i k h => by simp at h⟩

theorem Idx.put {D : DataW H} {ls : List Lit} (h : Idx D ls) {k : Lit} (hk : k ∉ ls) (hl : WideAt.IsKeyLit k) : Idx (D.put k (.lit (.int .i64 ls.length))) (ls ++ [k]) := by
  refine ⟨h.isMap.put _ _, ?_, ?_, ?_⟩
  · rw [List.nodup_append]
    refine ⟨h.nodup, by simp, ?_⟩
    intro a ha b hb
    rw [List.mem_singleton] at hb
    rintro rfl
    exact hk (hb ▸ ha)
  · intro j hj
    have h1 : j ≠ k := fun e => hj (by rw [e]; simp)
    rw [has_put_other h1]
    exact h.not j (fun hm => hj (by simp [hm]))
  · intro i j hi
    rcases Nat.lt_trichotomy i ls.length with hlt | rfl | hgt
    · rw [List.getElem?_append_left hlt] at hi
      have h1 : j ≠ k := fun e => hk (by rw [← e]; exact List.mem_of_getElem? hi)
      rw [has_put_other h1, atKey_put_other h1]
      exact h.yes i j hi
    · rw [List.getElem?_append_right (Nat.le_refl _)] at hi
      simp at hi
      subst hi
      exact ⟨has_put_same h.isMap hl _, atKey_put_same h.isMap hl _ _⟩
    · rw [List.getElem?_eq_none (by simp; omega)] at hi
      cases hi

theorem Idx.del {D : DataW H} {ls : List Lit} {k : Lit} (h : Idx D (ls ++ [k])) : Idx (D.del k) ls := by
  have hn := h.nodup
  rw [List.nodup_append] at hn
  have hk : k ∉ ls := fun hm => hn.2.2 k hm k (by simp) rfl
  refine ⟨h.isMap.del _, hn.1, ?_, ?_⟩
  · intro j hj
    by_cases e : j = k
    · rw [e]
      exact has_del_same
    · rw [has_del_other e]
      exact h.not j (fun hm => by simp at hm; rcases hm with hm | hm; exact hj hm; exact e hm)
  · intro i j hi
    have hj : j ∈ ls := List.mem_of_getElem? hi
    have e : j ≠ k := fun e => hk (by rw [← e]; exact hj)
    rw [has_del_other e, atKey_del_other e]
    exact h.yes i j (by rw [List.getElem?_append_left (List.getElem?_eq_some_iff.1 hi).1]; exact hi)

/-- What a look-up tells: the key's place and that it is there, or 0 and that it is not. -/
theorem Idx.look {D : DataW H} {ls : List Lit} (h : Idx D ls) {k : Lit} {c : Int} (hc : D.atKey k (.lit (.int .i64 0)) = .lit (.int .i64 c)) :
    (∃ i : Nat, ls[i]? = some k ∧ Maps.has D k = true ∧ c = i) ∨ (k ∉ ls ∧ Maps.has D k = false ∧ c = 0) := by
  by_cases hk : k ∈ ls
  · obtain ⟨i, hi⟩ := List.mem_iff_getElem?.1 hk
    have h1 := h.yes i k hi
    refine .inl ⟨i, hi, h1.1, ?_⟩
    have := hc.symm.trans h1.2
    injection this with this
    injection this with _ this
  · refine .inr ⟨hk, h.not k hk, ?_⟩
    have := hc.symm.trans (atKey_of_not_has (h.not k hk) _)
    injection this with this
    injection this with _ this

/-- The table behind a pointer: block g holds the struct, block m the map; v is the row of keys, whose cells are xs and whose literals are ls. -/
structure TabAt (P : Program) (S e : TypeId) (size : Nat) (w : World) (g m : Nat) (most : Int) (v : Value) (xs : List Value) (ls : List Lit) : Prop where
  st : w.heap[g]? = some (.cells #[v, .map (some m), .int .i64 most] S (0, 0))
  row : w.ownsRow 0 e size v ls.length xs
  map : ∃ D : DataW Unit, w.ownsMap P e (plainElem P 3) m ls.length D ∧ Idx D ls

variable {P : Program} {S e : TypeId} {size : Nat} {w : World} {g m : Nat} {most : Int} {v : Value} {xs : List Value} {ls : List Lit}

theorem TabAt.lt (h : TabAt P S e size w g m most v xs ls) : g < w.heap.size ∧ m < w.heap.size ∧ ∀ k, v.ownBlock = some k → k < w.heap.size := by
  refine ⟨(Array.getElem?_eq_some_iff.1 h.st).1, ?_, fun k hk => (h.row.lt k hk).2⟩
  obtain ⟨D, h1, _⟩ := h.map
  exact h1.lt

theorem TabAt.cells (h : TabAt P S e size w g m most v xs ls) : w.cell? ⟨g, 0, none⟩ = some v ∧ w.cell? ⟨g, 1, none⟩ = some (.map (some m)) ∧ w.cell? ⟨g, 2, none⟩ = some (.int .i64 most) ∧
    w.frozen? ⟨g, 0, none⟩ = false := by
  refine ⟨by simp [World.cell?, h.st], by simp [World.cell?, h.st], by simp [World.cell?, h.st], by simp [World.frozen?, h.st]⟩

theorem TabAt.gm (h : TabAt P S e size w g m most v xs ls) : g ≠ m := by
  rintro rfl
  obtain ⟨D, ⟨es, c, h1, _⟩, _⟩ := h.map
  have := h.st
  rw [h1] at this
  cases this

theorem TabAt.rg (h : TabAt P S e size w g m most v xs ls) (he : e ≠ S) : v.ownBlock ≠ some g := by
  intro hk
  rcases h.row.2 with ⟨rfl, _⟩ | ⟨b, cap, cur, rfl, _, h1, _⟩
  · cases hk
  · injection hk with hk
    subst hk
    have := h.st
    rw [h1] at this
    injection this with this
    injection this with _ this
    exact he this

theorem TabAt.rm (h : TabAt P S e size w g m most v xs ls) : v.ownBlock ≠ some m := by
  intro hk
  obtain ⟨D, ⟨es, c, h2, _⟩, _⟩ := h.map
  rcases h.row.2 with ⟨rfl, _⟩ | ⟨b, cap, cur, rfl, _, h1, _⟩
  · cases hk
  · injection hk with hk
    subst hk
    rw [h1] at h2
    cases h2

/-- The blocks that the table takes. -/
def foot (g m : Nat) (v : Value) : List Nat := g :: m :: v.ownBlock.toList

theorem TabAt.foot_lt (h : TabAt P S e size w g m most v xs ls) : ∀ k ∈ foot g m v, k < w.heap.size := by
  intro k hk
  unfold foot at hk
  rw [List.mem_cons, List.mem_cons, Option.mem_toList] at hk
  rcases hk with rfl | rfl | hk
  · exact h.lt.1
  · exact h.lt.2.1
  · exact h.lt.2.2 k hk

theorem TabAt.only {F : List Nat} {w' : World} (h : TabAt P S e size w g m most v xs ls) (o : Only F w w') (hF : ∀ k ∈ foot g m v, k ∉ F) : TabAt P S e size w' g m most v xs ls := by
  refine ⟨(o.block g h.lt.1 (hF g (by simp [foot]))).trans h.st, ?_, ?_⟩
  · refine ⟨h.row.1, ?_⟩
    rcases h.row.2 with h1 | ⟨b, cap, cur, rfl, hb, h1, h2⟩
    · exact .inl h1
    · exact .inr ⟨b, cap, cur, rfl, hb, (o.block b (Array.getElem?_eq_some_iff.1 h1).1 (hF b (by simp [foot, Value.ownBlock]))).trans h1, h2⟩
  · obtain ⟨D, ⟨es, c, h1, h2⟩, h3⟩ := h.map
    exact ⟨D, ⟨es, c, (o.block m h.lt.2.1 (hF m (by simp [foot]))).trans h1, h2⟩, h3⟩

theorem TabAt.below {w' : World} {B : Nat} (h : TabAt P S e size w g m most v xs ls) (b : Below B w w') (hB : w.heap.size ≤ B) : TabAt P S e size w' g m most v xs ls :=
  h.only (Only.of_below (b.mono hB) []) (fun _ _ => by simp)

theorem TabAt.drew (h : TabAt P S e size w g m most v xs ls) : TabAt P S e size w.drew g m most v xs ls := ⟨h.st, h.row, h.map⟩

theorem grown_setCell (w : World) (a : Addr) (u : Value) : w.grownBy (w.setCell a u) (some a.block) :=
  ⟨rfl, rfl, rfl, by simp [World.setCell], fun k _ hn => Below.heap_setCell _ _ _ _ (fun e => hn (by rw [e]))⟩

theorem heap_setCell0 {w : World} {g : Nat} {a b c u : Value} {S : TypeId} (h : w.heap[g]? = some (.cells #[a, b, c] S (0, 0))) : (w.setCell ⟨g, 0, none⟩ u).heap[g]? = some (.cells #[u, b, c] S (0, 0)) := by
  simp [World.setCell, Array.getElem?_modify, h]

/-- A key was appended to the row, the row was stored, and the map was told its place. -/
theorem tab_grown {w1 w2 : World} {D : DataW Unit} {g' cp n : Nat} {ys : List Value} {k : Lit} (hst : w.heap[g]? = some (.cells #[v, .map (some m), .int .i64 most] S (0, 0))) (hg : g < w.heap.size) (hr : some g ≠ v.ownBlock) (hgm : g ≠ m)
    (hgr : w.grownBy w1 v.ownBlock) (hrow : w1.ownsRow 0 e size (.slice (some ⟨g', 0, none⟩) (n + 1) cp) (n + 1) ys)
    (hown : w2.ownsMap P e (plainElem P 3) m (n + 1) (D.put k (.lit (.int .i64 n)))) (hgr2 : (w1.setCell ⟨g, 0, none⟩ (.slice (some ⟨g', 0, none⟩) (n + 1) cp)).grownBy w2 (some m))
    (hI : Idx D ls) (h1 : g' ≠ g) (h2 : g' ≠ m) (hk : k ∉ ls) (hn : ls.length = n) (hl : WideAt.IsKeyLit k) :
    TabAt P S e size w2 g m most (.slice (some ⟨g', 0, none⟩) (n + 1) cp) ys (ls ++ [k]) := by
  subst hn
  refine ⟨?_, ?_, _, by simpa using hown, hI.put hk hl⟩
  · rw [hgr2.block g (by have := hgr.size; simp [World.setCell]; omega) (fun e => hgm (by injection e)), heap_setCell0 ((hgr.block g hg hr).trans hst)]
  · have := (hrow.kept (grown_setCell w1 ⟨g, 0, none⟩ (.slice (some ⟨g', 0, none⟩) (ls.length + 1) cp)) (.inr (by simpa [Value.ownBlock] using h1))).kept hgr2 (.inr (by simpa [Value.ownBlock] using h2))
    simpa using this

theorem only_grown {w1 w2 : World} {u : Value} (hgr : w.grownBy w1 v.ownBlock) (hgr2 : (w1.setCell ⟨g, 0, none⟩ u).grownBy w2 (some m)) : Only (foot g m v) w w2 :=
  ((Only.of_grown hgr (fun k hk => by simp [foot, hk])).trans (Only.setCell w1 (F := foot g m v) (a := ⟨g, 0, none⟩) (by simp [foot]) u) (fun j hj => .inl hj)).trans
    (Only.of_grown (F := foot g m v) hgr2 (fun k hk => by injection hk with hk; simp [foot, hk])) (fun j hj => .inl hj)

/-- A row that is cut short by one. -/
theorem own_shorter {base n b c : Nat} {us : List Value} (h : w.ownsRow base e size (.slice (some ⟨b, 0, none⟩) (n + 1) c) (n + 1) (xs ++ us)) (hu : us.length = size) : w.ownsRow base e size (.slice (some ⟨b, 0, none⟩) n c) n xs := by
  have hl : xs.length = n * size := by
    have := h.1
    rw [List.length_append, hu, Nat.succ_mul] at this
    omega
  refine ⟨hl, ?_⟩
  rcases h.2 with ⟨h0, _⟩ | ⟨g, cap, cur, h0, hb, hg, hn, hm, hs, ht⟩
  · cases h0
  · injection h0 with h1 h2 h3
    injection h1 with h1
    injection h1 with h1
    subst h1
    subst h3
    refine .inr ⟨b, c, cur, rfl, hb, hg, by omega, hm, hs, ?_⟩
    have h4 := congrArg (List.take (n * size)) ht
    rw [List.take_take, Nat.min_eq_left (Nat.mul_le_mul_right _ (by omega)), List.take_append_of_le_length (by omega), List.take_of_length_le (l := xs) (by omega)] at h4
    exact h4

theorem nodup_len : ∀ (a b : List Lit), a.Nodup → (∀ x ∈ a, x ∈ b) → a.length ≤ b.length
  | [], _, _, _ => Nat.zero_le _
  | x :: r, b, hn, hs => by
    classical
    rw [List.nodup_cons] at hn
    have h1 : x ∈ b := hs x (by simp)
    have h2 := nodup_len r (b.filter fun y => decide (y ≠ x)) hn.2 (fun y hy => by
      rw [List.mem_filter]
      exact ⟨hs y (by simp [hy]), by simp; rintro rfl; exact hn.1 hy⟩)
    have h3 : (b.filter fun y => decide (y ≠ x)).length < b.length := by
      rw [List.length_filter_lt_length_iff_exists]
      exact ⟨x, h1, by simp⟩
    simp only [List.length_cons]
    omega

theorem own_count {H : Type} {k : TypeId} {R : Value → Option (DataW H × List MemPlace)} {b n : Nat} {D : DataW H} {ls : List Lit} (h : w.ownsMap P k R b n D) (K : Keyed P k) (hI : Idx D ls) : w.ownsMap P k R b ls.length D := by
  obtain ⟨es, hD, hpw, hkey⟩ := h.entries K
  obtain ⟨es', clock, hb, F, _, hD'⟩ := h
  refine ⟨es', clock, hb, F, ?_, hD'⟩
  have h1 : es.length = es'.size := by
    rw [hD] at hD'
    injection hD' with hD'
    rw [hD', length_sorted]
    simp
  rw [← h1, ← List.length_map (f := fun p : Lit × DataW H => p.1)]
  refine nodup_len _ _ ?_ fun x hx => ?_
  · rw [List.Nodup, List.pairwise_map]
    exact hpw
  · rcases Classical.em (x ∈ ls) with h2 | h2
    · exact h2
    · have h3 := hI.not x h2
      obtain ⟨p, hp, rfl⟩ := List.mem_map.1 hx
      rw [hD, has_eq, List.any_eq_false] at h3
      exact absurd (WideAt.sameKey_self (hkey p hp)) (h3 p hp)

/-- The last key was taken out of the map, and the row was cut short by it. -/
theorem tab_cut {w1 : World} {D : DataW Unit} {b n c j : Nat} {us : List Value} {k : Lit} (K : Keyed P e) (h : TabAt P S e size w g m most (.slice (some ⟨b, 0, none⟩) (n + 1) c) (xs ++ us) (ls ++ [k])) (he : e ≠ S) (hu : us.length = size) (hn : ls.length = n)
    (hI : Idx D (ls ++ [k])) (hown : w1.ownsMap P e (plainElem P 3) m j (D.del k)) (ht : w.mapTurned w1 m) :
    TabAt P S e size (w1.setCell ⟨g, 0, none⟩ (.slice (some ⟨b, 0, none⟩) n c)) g m most (.slice (some ⟨b, 0, none⟩) n c) xs ls ∧ Only [g, m] w (w1.setCell ⟨g, 0, none⟩ (.slice (some ⟨b, 0, none⟩) n c)) := by
  subst hn
  have hgm := h.gm
  have hrg : b ≠ g := fun e => h.rg he (by rw [e]; rfl)
  have hrm : b ≠ m := fun e => h.rm (by rw [e]; rfl)
  have hg := ht.grown
  refine ⟨⟨?_, ?_, _, own_count (hown.setCell (a := ⟨g, 0, none⟩) (fun e => hgm e.symm) _) K hI.del, hI.del⟩, ?_⟩
  · exact heap_setCell0 ((hg.block g h.lt.1 (fun e => hgm (by injection e))).trans h.st)
  · have h1 := h.row
    rw [List.length_append] at h1
    exact ((own_shorter h1 hu).kept hg (.inr (by simpa [Value.ownBlock] using hrm))).kept (grown_setCell w1 ⟨g, 0, none⟩ _) (.inr (by simpa [Value.ownBlock] using hrg))
  · exact (Only.of_grown hg (fun k hk => by injection hk with hk; simp [hk])).trans (Only.setCell w1 (F := [g, m]) (a := ⟨g, 0, none⟩) (by simp) _) (fun j hj => .inl hj)

end
end Go.Proofs.Ytgmbbhfcpllgoaa
