/-
  The contracts of the document's table of keys: New, Find, Id, Key, Cut.
-/
import Derived.Test.YtgmbbhfcpllgoaaInInt
namespace Go.Proofs.Ytgmbbhfcpllgoaa
open Go.RowKit Go.Maps

/-- A row of keys, in a block of which S holds. -/
def IRow (S : Nat → Prop) (w : World) (v : Value) (xs : List Int) : Prop := ∃ A c, v = .slice A xs.length c ∧ xs.length ≤ c ∧ RowS S w A (ivals xs)
section
variable {S S' : Nat → Prop} {w w' : World} {v : Value} {xs : List Int}
theorem IRow.nil (S : Nat → Prop) (w : World) : IRow S w (.slice none 0 0) [] := ⟨none, 0, rfl, by simp, RowS.nil _ _ _⟩
theorem IRow.below {B : Nat} (h : IRow S w v xs) (hb : Below B w w') (hB : w.heap.size ≤ B) : IRow S w' v xs := by
  obtain ⟨A, c, h1, h2, h3⟩ := h
  exact ⟨A, c, h1, h2, h3.below hb hB⟩
theorem IRow.drewN (h : IRow S w v xs) (n : Nat) : IRow S (w.drewN n) v xs := h
theorem IRow.drew (h : IRow S w v xs) : IRow S w.drew v xs := h
theorem IRow.alloc (h : IRow S w v xs) (o : Obj) : IRow S (w.alloc o) v xs := by
  obtain ⟨A, c, h1, h2, h3⟩ := h
  exact ⟨A, c, h1, h2, h3.alloc o⟩
theorem IRow.setCell (h : IRow S w v xs) {g i : Nat} (hg : ¬ S g) (u : Value) : IRow S (w.setCell ⟨g, i, none⟩ u) v xs := by
  obtain ⟨A, c, h1, h2, h3⟩ := h
  exact ⟨A, c, h1, h2, h3.setCell hg u⟩
theorem IRow.mono (h : IRow S w v xs) (hS : ∀ b, b < w.heap.size → S b → S' b) : IRow S' w v xs := by
  obtain ⟨A, c, h1, h2, h3⟩ := h
  exact ⟨A, c, h1, h2, h3.mono hS⟩
theorem IRow.only {F : List Nat} (h : IRow S w v xs) (ho : Only F w w') (hF : ∀ b, S b → b ∉ F) : IRow S w' v xs := by
  obtain ⟨A, c, h1, h2, h3⟩ := h
  exact ⟨A, c, h1, h2, h3.keep ho.size fun b hS hb => ho.block b hb (hF b hS)⟩
end

theorem idx_of : ∀ {l : List Int} {x : Int} {k : Nat}, (∀ j, j < k → l[j]? ≠ some x) → l[k]? = some x → l.idxOf x = k
  | [], _, _, _, h => by simp at h
  | a :: l, x, 0, _, h => by
    simp at h
    subst h
    exact List.idxOf_cons_self
  | a :: l, x, k + 1, h1, h2 => by
    have h3 : a ≠ x := fun e => h1 0 (by omega) (by simp [e])
    rw [List.idxOf_cons, beq_eq_false_iff_ne.2 h3, cond_false, idx_of (k := k) (fun j hj => by simpa using h1 (j + 1) (by omega)) (by simpa using h2)]

theorem idx_get {l : List Int} {x : Int} (h : x ∈ l) : l[l.idxOf x]? = some x := by
  obtain ⟨i, hi⟩ := List.mem_iff_getElem?.1 h
  have h1 := List.idxOf_lt_length_of_mem h
  rw [List.getElem?_eq_getElem h1, List.getElem_idxOf]

set_option maxHeartbeats 400000 in
theorem rnew_yes (w : World) (n : Int) (h1 : 1 ≤ n) (h2 : n ≤ 20000) :
    Calls Try.prog 8 #[.int .i64 n] w fun e w' => e = .returned (.tuple #[.agg #[.slice none 0 0, .int .i64 n], .int .i64 0]) ∧ Below w.heap.size w w' := by
  go_enter Try.func8, Try.ntmps8
  go_wp2
  refine bodyPost_ret (by unfold results; simp only [Try.results8]; go_simp; rfl) rfl ?_
  exact ⟨rfl, (by repeat' (first | (with_reducible exact Below.refl _ _) | (with_reducible assumption) | (with_reducible refine Below.alloc ?_ ?_ _) | (with_reducible refine Below.setCell ?_ ?_ _) | omega | (simp; done) | (simp; omega)))⟩
set_option maxHeartbeats 400000 in
theorem rnew_no (w : World) (n : Int) (h : n < 1 ∨ 20000 < n) :
    Calls Try.prog 8 #[.int .i64 n] w fun e w' => e = .returned (.tuple #[.agg #[.slice none 0 0, .int .i64 0], .int .i64 2]) ∧ Below w.heap.size w w' := by
  rcases h with h | h
  · go_enter Try.func8, Try.ntmps8
    go_wp2
    refine bodyPost_ret (by unfold results; simp only [Try.results8]; go_simp; rfl) rfl ?_
    exact ⟨rfl, (by repeat' (first | (with_reducible exact Below.refl _ _) | (with_reducible assumption) | (with_reducible refine Below.alloc ?_ ?_ _) | (with_reducible refine Below.setCell ?_ ?_ _) | omega | (simp; done) | (simp; omega)))⟩
  · have h' : ¬ n < 1 := by omega
    go_enter Try.func8, Try.ntmps8
    go_wp2
    refine bodyPost_ret (by unfold results; simp only [Try.results8]; go_simp; rfl) rfl ?_
    exact ⟨rfl, (by repeat' (first | (with_reducible exact Below.refl _ _) | (with_reducible assumption) | (with_reducible refine Below.alloc ?_ ?_ _) | (with_reducible refine Below.setCell ?_ ?_ _) | omega | (simp; done) | (simp; omega)))⟩

/-- The place of a key in the row, and whether it is there. -/
def placeOf (l : List Int) (x : Int) : Int × Bool := if x ∈ l then (l.idxOf x, true) else (0, false)

set_option maxHeartbeats 800000 in
theorem rfind_any (w : World) (v : Value) (xs : List Int) (most x : Int) (hn : xs.length ≤ 20000) {S : Nat → Prop} (hv : IRow S w v xs) :
    Calls Try.prog 26 #[.agg #[v, .int .i64 most], .int .i64 x] w fun e w' => e = .returned (.tuple #[.int .i64 (placeOf xs x).1, .bool (placeOf xs x).2]) ∧ Below w.heap.size w w' := by
  obtain ⟨A, c, rfl, hlc, hrow⟩ := hv
  have hr := (hrow.alloc (.cells #[.slice A xs.length c, .int .i64 most] 30)).at
  clear hrow
  go_enter Try.func26, Try.ntmps26
  go_wp2
  go_loop [6] (fun i => ∃ k : Nat, k ≤ xs.length ∧ i = .int .i64 k ∧ Hid (∀ j, j < k → xs[j]? ≠ some x)) (fun i => xs.length - (intOf i).toNat)
  case atStart => exact ⟨0, by omega, rfl, fun j hj => by omega⟩
  case round =>
    obtain ⟨k, hk, rfl, hf⟩ := hrel
    by_cases hkn : k < xs.length
    · obtain ⟨b, off, rfl, hb, hc⟩ := hr.iget (by omega)
      have h1 := hc k hkn
      clear hc
      have hx := Lib.hid (List.getElem?_eq_getElem hkn)
      generalize xs[k] = y at *
      by_cases hy : y = x
      · subst hy
        go_wp2
        go_ret2
        have e1 : placeOf xs y = ((k : Int), true) := by
          unfold placeOf
          rw [if_pos (List.mem_of_getElem? hx.out), idx_of hf.out hx.out]
        rw [e1]
        exact ⟨rfl, (Below.refl _ _).alloc (Nat.le_refl _) _⟩
      · go_wp2
        go_round
        case rel => exact ⟨k + 1, by omega, by go_num, fun j hj => by
          rcases (by omega : j < k ∨ j = k) with h2 | rfl
          · exact hf.out j h2
          · rw [hx.out]
            exact fun e => hy (by injection e)⟩
        case measure => simp [intOf]; omega
    · obtain rfl : k = xs.length := by omega
      go_wp2
      go_ret2
      have e1 : placeOf xs x = (0, false) := by
        unfold placeOf
        rw [if_neg fun hm => ?_]
        obtain ⟨i, hi⟩ := List.mem_iff_getElem?.1 hm
        exact hf.out i (List.getElem?_eq_some_iff.1 hi).1 hi
      rw [e1]
      exact ⟨rfl, (Below.refl _ _).alloc (Nat.le_refl _) _⟩

set_option maxHeartbeats 400000 in
theorem rkey_yes (w : World) (v : Value) (xs : List Int) (most : Int) (i : Nat) (k : Int) (hi : xs[i]? = some k) {S : Nat → Prop} (hv : IRow S w v xs) :
    Calls Try.prog 27 #[.agg #[v, .int .i64 most], .int .i64 i] w fun e w' => e = .returned (.tuple #[.int .i64 k, .bool true]) ∧ Below w.heap.size w w' := by
  obtain ⟨A, c, rfl, hlc, hrow⟩ := hv
  have hr := (hrow.alloc (.cells #[.slice A xs.length c, .int .i64 most] 30)).at
  clear hrow
  obtain ⟨hlt, hk⟩ := List.getElem?_eq_some_iff.1 hi
  obtain ⟨b, off, rfl, hb, hc⟩ := hr.iget (by omega)
  have h1 := hc i hlt
  rw [hk] at h1
  have hi0 : ¬ (i : Int) < 0 := by omega
  have hi1 : ¬ (xs.length : Int) ≤ i := by omega
  clear hc hr
  go_enter Try.func27, Try.ntmps27
  go_wp2
  go_ret2
  exact ⟨rfl, (Below.refl _ _).alloc (Nat.le_refl _) _⟩

set_option maxHeartbeats 400000 in
theorem rkey_no (w : World) (v : Value) (xs : List Int) (most : Int) (i : Int) (hi : i < 0 ∨ (xs.length : Int) ≤ i) {S : Nat → Prop} (hv : IRow S w v xs) :
    Calls Try.prog 27 #[.agg #[v, .int .i64 most], .int .i64 i] w fun e w' => e = .returned (.tuple #[.int .i64 0, .bool false]) ∧ Below w.heap.size w w' := by
  obtain ⟨A, c, rfl, hlc, hrow⟩ := hv
  clear hrow
  by_cases h1 : i < 0
  · go_enter Try.func27, Try.ntmps27
    go_wp2
    go_ret2
    exact ⟨rfl, (Below.refl _ _).alloc (Nat.le_refl _) _⟩
  · have h2 : (xs.length : Int) ≤ i := by omega
    go_enter Try.func27, Try.ntmps27
    go_wp2
    go_ret2
    exact ⟨rfl, (Below.refl _ _).alloc (Nat.le_refl _) _⟩

set_option maxHeartbeats 800000 in
theorem rid_there (w : World) (v : Value) (xs : List Int) (most x : Int) (hn : xs.length ≤ 20000) (hx : x ∈ xs) {S : Nat → Prop} (hv : IRow S w v xs) :
    Calls Try.prog 25 #[.agg #[v, .int .i64 most], .int .i64 x] w fun e w' => e = .returned (.tuple #[.agg #[v, .int .i64 most], .int .i64 (xs.idxOf x), .int .i64 0]) ∧ Below w.heap.size w w' := by
  have F := fun w' (h : IRow S w' v xs) => rfind_any w' v xs most x hn h
  have hp : placeOf xs x = ((xs.idxOf x : Int), true) := if_pos hx
  rw [hp] at F
  have h2 := F _ ((hv.alloc (.cells #[v, .int .i64 most] 30)).alloc (.cells #[.slice none 0 0, .int .i64 0] 30))
  obtain ⟨A, c, rfl, hlc, hrow⟩ := hv
  clear hrow F hp
  go_enter Try.func25, Try.ntmps25
  go_wp2_with fail
  refine h2.mono ?_
  rintro e w1 ⟨rfl, hb1⟩
  have b0 := ((Box.new w 30 #[.slice A xs.length c, .int .i64 most]).alloc _).later hb1
  have b1 := (Box.new' (w := w.alloc _) (g := w.heap.size + 1) (t := 30) (cs := #[.slice none 0 0, .int .i64 0]) (by simp)).later hb1
  have hb : Below w.heap.size w w1 := (((Below.refl _ _).alloc (Nat.le_refl _) _).alloc (by simp) _).trans (hb1.mono (by simp; omega))
  have c0 := b0.cells
  have c1 := b1.cells
  have f1 := b1.free
  clear hb1
  go_wp2
  refine bodyPost_ret (by unfold results; simp only [Try.results25]; go_simp; rfl) rfl ?_
  exact ⟨rfl, (by repeat' (first | (with_reducible exact Below.refl _ _) | (with_reducible assumption) | (with_reducible refine Below.alloc ?_ ?_ _) | (with_reducible refine Below.setCell ?_ ?_ _) | omega | (simp; done) | (simp; omega)))⟩

set_option maxHeartbeats 800000 in
theorem rid_full (w : World) (v : Value) (xs : List Int) (most x : Int) (hn : xs.length ≤ 20000) (hx : x ∉ xs) (hm : most ≤ xs.length) {S : Nat → Prop} (hv : IRow S w v xs) :
    Calls Try.prog 25 #[.agg #[v, .int .i64 most], .int .i64 x] w fun e w' => e = .returned (.tuple #[.agg #[v, .int .i64 most], .int .i64 0, .int .i64 3]) ∧ Below w.heap.size w w' := by
  have F := fun w' (h : IRow S w' v xs) => rfind_any w' v xs most x hn h
  have hp : placeOf xs x = (0, false) := if_neg hx
  rw [hp] at F
  have h2 := F _ ((hv.alloc (.cells #[v, .int .i64 most] 30)).alloc (.cells #[.slice none 0 0, .int .i64 0] 30))
  obtain ⟨A, c, rfl, hlc, hrow⟩ := hv
  clear hrow F hp
  go_enter Try.func25, Try.ntmps25
  go_wp2_with fail
  refine h2.mono ?_
  rintro e w1 ⟨rfl, hb1⟩
  have b0 := ((Box.new w 30 #[.slice A xs.length c, .int .i64 most]).alloc _).later hb1
  have b1 := (Box.new' (w := w.alloc _) (g := w.heap.size + 1) (t := 30) (cs := #[.slice none 0 0, .int .i64 0]) (by simp)).later hb1
  have hb : Below w.heap.size w w1 := (((Below.refl _ _).alloc (Nat.le_refl _) _).alloc (by simp) _).trans (hb1.mono (by simp; omega))
  have c0 := b0.cells
  have c1 := b1.cells
  have f1 := b1.free
  clear hb1
  go_wp2
  refine bodyPost_ret (by unfold results; simp only [Try.results25]; go_simp; rfl) rfl ?_
  exact ⟨rfl, (by repeat' (first | (with_reducible exact Below.refl _ _) | (with_reducible assumption) | (with_reducible refine Below.alloc ?_ ?_ _) | (with_reducible refine Below.setCell ?_ ?_ _) | omega | (simp; done) | (simp; omega)))⟩

theorem irow_take {S : Nat → Prop} {w : World} {A : Option Addr} {c : Nat} {xs : List Int} (hlc : xs.length ≤ c) (hrow : RowS S w A (ivals xs)) (n : Nat) (hn : n ≤ xs.length) : IRow S w (.slice A n c) (xs.take n) :=
  ⟨A, c, by rw [List.length_take, Nat.min_eq_left hn], by rw [List.length_take]; omega, by rw [ivals_take]; exact hrow.take n⟩

set_option maxHeartbeats 800000 in
theorem rcut_any (w : World) (v : Value) (xs : List Int) (most n : Int) (hn : xs.length ≤ 20000) {S : Nat → Prop} (hv : IRow S w v xs) :
    Calls Try.prog 28 #[.agg #[v, .int .i64 most], .int .i64 n] w fun e w' => ∃ v', e = .returned (.agg #[v', .int .i64 most]) ∧ IRow S w' v' (xs.take n.toNat) ∧ Below w.heap.size w w' := by
  obtain ⟨A, c, rfl, hlc, hrow⟩ := hv
  by_cases h0 : n < 0
  · rw [Int.toNat_eq_zero.2 (by omega)]
    by_cases hl : xs.length = 0
    · obtain rfl : xs = [] := List.eq_nil_of_length_eq_zero hl
      clear hl
      go_enter Try.func28, Try.ntmps28
      go_wp2
      refine bodyPost_ret (by unfold results; simp only [Try.results28]; go_simp; rfl) rfl ?_
      exact ⟨_, rfl, ((irow_take hlc hrow 0 (Nat.zero_le _)).alloc _).alloc _, (by repeat' (first | (with_reducible exact Below.refl _ _) | (with_reducible assumption) | (with_reducible refine Below.alloc ?_ ?_ _) | (with_reducible refine Below.setCell ?_ ?_ _) | omega | (simp; done) | (simp; omega)))⟩
    · have h1 : 0 < xs.length := by omega
      have h2 : c ≠ 0 := by omega
      go_enter Try.func28, Try.ntmps28
      go_wp2
      refine bodyPost_ret (by unfold results; simp only [Try.results28]; go_simp; rfl) rfl ?_
      exact ⟨_, rfl, ((irow_take hlc hrow 0 (Nat.zero_le _)).alloc _).alloc _, (by repeat' (first | (with_reducible exact Below.refl _ _) | (with_reducible assumption) | (with_reducible refine Below.alloc ?_ ?_ _) | (with_reducible refine Below.setCell ?_ ?_ _) | omega | (simp; done) | (simp; omega)))⟩
  · obtain ⟨n, rfl⟩ : ∃ q : Nat, n = q := ⟨n.toNat, by omega⟩
    rw [Int.toNat_natCast]
    by_cases hl : n < xs.length
    · have h1 : n ≤ c := by omega
      have h2 : c ≠ 0 := by omega
      go_enter Try.func28, Try.ntmps28
      go_wp2
      refine bodyPost_ret (by unfold results; simp only [Try.results28]; go_simp; rfl) rfl ?_
      exact ⟨_, rfl, ((irow_take hlc hrow n (by omega)).alloc _).alloc _, (by repeat' (first | (with_reducible exact Below.refl _ _) | (with_reducible assumption) | (with_reducible refine Below.alloc ?_ ?_ _) | (with_reducible refine Below.setCell ?_ ?_ _) | omega | (simp; done) | (simp; omega)))⟩
    · have h3 : xs.take n = xs := List.take_of_length_le (by omega)
      rw [h3]
      go_enter Try.func28, Try.ntmps28
      go_wp2
      refine bodyPost_ret (by unfold results; simp only [Try.results28]; go_simp; rfl) rfl ?_
      exact ⟨_, rfl, ((show IRow S w (.slice A xs.length c) xs from ⟨A, c, rfl, hlc, hrow⟩).alloc _).alloc _, (by repeat' (first | (with_reducible exact Below.refl _ _) | (with_reducible assumption) | (with_reducible refine Below.alloc ?_ ?_ _) | (with_reducible refine Below.setCell ?_ ?_ _) | omega | (simp; done) | (simp; omega)))⟩

set_option maxHeartbeats 1600000 in
theorem rid_new (w : World) (v : Value) (xs : List Int) (most x : Int) (hn : xs.length ≤ 20000) (hx : x ∉ xs) (hm : xs.length < most) {S : Nat → Prop} (hv : IRow S w v xs) :
    Calls Try.prog 25 #[.agg #[v, .int .i64 most], .int .i64 x] w fun e w' => ∃ v', e = .returned (.tuple #[.agg #[v', .int .i64 most], .int .i64 xs.length, .int .i64 0]) ∧ IRow (fun b => w.heap.size ≤ b) w' v' (xs ++ [x]) ∧ Below w.heap.size w w' := by
  obtain ⟨i0, hi, hz0, hz1, hz2⟩ := info_parts Try.infoIntI
  have F := fun w' (h : IRow S w' v xs) => rfind_any w' v xs most x hn h
  have hp : placeOf xs x = (0, false) := if_neg hx
  rw [hp] at F
  have h2 := F _ ((hv.alloc (.cells #[v, .int .i64 most] 30)).alloc (.cells #[.slice none 0 0, .int .i64 0] 30))
  obtain ⟨A, c, rfl, hlc, hrow⟩ := hv
  clear F hp
  have hm' : ¬ most ≤ (xs.length : Int) := by omega
  go_enter Try.func25, Try.ntmps25
  go_wp2_with fail
  refine h2.mono ?_
  rintro e w1 ⟨rfl, hb1⟩
  have q0 := ((Box.new w 30 #[.slice A xs.length c, .int .i64 most]).alloc _).later hb1
  have q1 := (Box.new' (w := w.alloc _) (g := w.heap.size + 1) (t := 30) (cs := #[.slice none 0 0, .int .i64 0]) (by simp)).later hb1
  have hb : Below w.heap.size w w1 := (((Below.refl _ _).alloc (Nat.le_refl _) _).alloc (by simp) _).trans (hb1.mono (by simp; omega))
  have hrow := hrow.below hb (Nat.le_refl _)
  have hs1 : w.heap.size + 2 ≤ w1.heap.size := by have := hb1.size; simp at this; omega
  have c0 := q0.cells
  have f0 := q0.free
  have c1 := q1.cells
  have f1 := q1.free
  have k0 := q0.lt
  have k1 := q1.lt
  clear hb1 h2
  go_wp2_with (at_builtin; refine wpList_append_row rfl _ _ 28 rfl w1.heap.size 3 i0 (.int .i64 0) 8 Try.underlying28 hi hz0 hz1 hz2 rfl _ 0 [] rfl ?e0 A _ _ (ivals xs) rfl (ivals_len xs) ?e1 (ivals_one xs) ?e2 ?e3 ?e4 ?_)
  case e0 => exact own_empty (by simp) (by simp)
  case e1 => exact (hrow.alloc _).at
  case e2 => unfold maxLen; omega
  case e3 => omega
  case e4 => simp
  intro A5 c5 w5 hown5 hr5 hs5 hg5
  have hs5 : w1.heap.size + 1 ≤ w5.heap.size := by have := hr5.size; simp at this; omega
  have hr5 : World.grownBy _ w5 (some w1.heap.size) := hr5
  have hb5 := (hb.alloc (by omega) _).grown hr5 (by simp; omega) (fun k hk => by injection hk with hk; omega)
  have q0 := (q0.alloc _).grown hr5 (by simp; omega)
  have q1 := (q1.alloc _).grown hr5 (by simp; omega)
  have c0 := q0.cells
  have f0 := q0.free
  have c1 := q1.cells
  have f1 := q1.free
  have k0 := q0.lt
  have k1 := q1.lt
  clear hr5 hb
  go_wp2_with (at_builtin; refine wpList_append_one rfl _ _ 28 rfl w1.heap.size 3 i0 (.int .i64 0) 1 8 Try.underlying28 hi hz0 hz1 hz2 rfl (by decide) _ _ _ rfl hown5 [.int .i64 x] rfl rfl ?d1 ?d2 ?d3 ?d4 ?_)
  case d1 => intro u hu; simp at hu; subst hu; rfl
  case d2 => unfold maxLen; omega
  case d3 => omega
  case d4 => omega
  intro g6 c6 w6 hown6 hr6 hc6 hm6 hg6 hg6' hsz6
  have hb6 := hb5.grown hr6 (by omega) (fun k hk => by have := (hown5.lt k hk).1; omega)
  have q0 := q0.grown hr6 (own_ne_box hown5 q0 (by decide))
  have q1 := q1.grown hr6 (own_ne_box hown5 q1 (by decide))
  have c0 := q0.cells
  have f0 := q0.free
  have c1 := q1.cells
  have f1 := q1.free
  clear hr6 hown5 hb5
  go_upto_region 7 with fail
  go_region
  go_wp2
  refine bodyPost_ret (by unfold results; simp only [Try.results25]; go_simp; rfl) rfl ?_
  refine ⟨_, rfl, ⟨_, _, by rw [List.length_append]; rfl, by rw [List.length_append]; exact hc6, ?_⟩, (((hb6.setCell (Nat.le_refl _) _).setCell (by simp) _).setCell (by simp) _).drew⟩
  rw [ivals_append]
  have hr6 : RowS (fun b => w1.heap.size ≤ b) w6 _ _ := RowS.of_own hown6 (fun b h _ => h)
  exact ((((hr6.setCell (by omega) _).setCell (by omega) _).setCell (by omega) _).drew).mono (fun b _ h => by omega)
end Go.Proofs.Ytgmbbhfcpllgoaa
