/-
  stake: rows of stakes; At, and the document's At.
-/
import Derived.Test.YtkdpiikfiodopaaDoorFoP
import Derived.Test.YtkdpiikfiodopaaDoorK2
import Derived.Test.YtkdpiikfiodopaaDoorHas
import Derived.Test.YtkdpiikfiodopaaDoorW2
namespace Go.Proofs.YtkdpiikfiodopaaDoor
open Go.RowKit

/-- Stakes as cells. -/
def stks : List Stk → List Int
  | [] => []
  | x :: r => x.e :: x.p :: x.s :: x.f :: stks r
theorem stks_len (l : List Stk) : (stks l).length = 4 * l.length := by
  induction l with
  | nil => rfl
  | cons x r ih => simp [stks, ih]; omega
theorem stks_get (l : List Stk) (k : Nat) (hk : k < l.length) : (stks l)[k * 4]? = some l[k].e ∧ (stks l)[k * 4 + 1]? = some l[k].p ∧ (stks l)[k * 4 + 2]? = some l[k].s ∧ (stks l)[k * 4 + 3]? = some l[k].f := by
  induction l generalizing k with
  | nil => simp at hk
  | cons x r ih =>
    cases k with
    | zero => simp [stks]
    | succ k =>
      have := ih k (by simpa using hk)
      simpa [stks, Nat.succ_mul] using this
theorem stks_take (l : List Stk) (k : Nat) : stks (l.take k) = (stks l).take (4 * k) := by
  induction l generalizing k with
  | nil => simp [stks]
  | cons x r ih =>
    cases k with
    | zero => simp [stks]
    | succ k => simp [stks, ih, Nat.mul_succ]
theorem stks_of (n : Nat) : ∀ xs : List Int, xs.length = n * 4 → ∃ l : List Stk, stks l = xs ∧ l.length = n := by
  induction n with
  | zero => intro xs h; exact ⟨[], (List.eq_nil_of_length_eq_zero (by omega)).symm, rfl⟩
  | succ n ih =>
    intro xs h
    match xs, h with
    | [], h => exfalso; simp at h
    | [a], h => exfalso; simp at h; omega
    | [a, b], h => exfalso; simp at h; omega
    | [a, b, c], h => exfalso; simp at h; omega
    | a :: b :: c :: d :: r, h =>
      obtain ⟨l, h1, h2⟩ := ih r (by simp at h; omega)
      exact ⟨⟨a, b, c, d⟩ :: l, by simp [stks, h1], by simp [h2]⟩
/-- A row of stakes. -/
def RowT (w : World) (A : Option Addr) (l : List Stk) : Prop := RowAt w A (ivals (stks l))
section
variable {w w' : World} {A : Option Addr} {l : List Stk}
theorem RowT.below {B : Nat} (h : RowT w A l) (hb : Below B w w') (hB : w.heap.size ≤ B) : RowT w' A l := RowAt.below h hb hB
theorem RowT.later (h : RowT w A l) (hb : Below w.heap.size w w') : RowT w' A l := h.below hb (Nat.le_refl _)
theorem RowT.alloc (h : RowT w A l) (o : Obj) : RowT (w.alloc o) A l := RowAt.alloc h o
theorem RowT.drew (h : RowT w A l) : RowT w.drew A l := h
theorem RowT.take (h : RowT w A l) (k : Nat) : RowT w A (l.take k) := by
  unfold RowT
  rw [stks_take, ivals_take]
  exact RowAt.take h _
theorem RowT.get (h : RowT w A l) (hn : 0 < l.length) :
    ∃ b off, A = some ⟨b, off, none⟩ ∧ b < w.heap.size ∧ ∀ k (hk : k < l.length), w.cell? ⟨b, off + k * 4, none⟩ = some (.int .i64 l[k].e) ∧ w.cell? ⟨b, off + k * 4 + 1, none⟩ = some (.int .i64 l[k].p) ∧
      w.cell? ⟨b, off + k * 4 + 2, none⟩ = some (.int .i64 l[k].s) ∧ w.cell? ⟨b, off + k * 4 + 3, none⟩ = some (.int .i64 l[k].f) := by
  obtain ⟨b, off, rfl, hb, hc⟩ := h (by rw [ivals_len, stks_len]; omega)
  refine ⟨b, off, rfl, hb, fun k hk => ?_⟩
  obtain ⟨h1, h2, h3, h4⟩ := stks_get l k hk
  have g : ∀ j x, (stks l)[j]? = some x → w.cell? ⟨b, off + j, none⟩ = some (.int .i64 x) := fun j x hj => hc _ _ (by unfold ivals; rw [List.getElem?_map, hj]; rfl)
  exact ⟨g _ _ h1, by rw [Nat.add_assoc]; exact g _ _ h2, by rw [Nat.add_assoc]; exact g _ _ h3, by rw [Nat.add_assoc]; exact g _ _ h4⟩
end

/-- Does a stake count? -/
def cntB (x q : Int) (s : Stk) : Bool := decide (s.e = x) && decide (s.f ≤ q)

set_option maxHeartbeats 1000000 in
theorem sat1_any (s : Stk) {x q : Int} {g g' : Nat} {w : World} (bx : Box w g 3 #[.int .i64 x]) (bq : Box w g' 3 #[.int .i64 q]) :
    Calls Tryd.prog 95 #[.agg #[.int .i64 s.e, .int .i64 s.p, .int .i64 s.s, .int .i64 s.f], .pointer (some ⟨g, 0, none⟩), .pointer (some ⟨g', 0, none⟩)] w fun e w' => e = .returned (.bool (cntB x q s)) ∧ Below w.heap.size w w' := by
  have kx := bx.cells
  have kq := bq.cells
  have lx := bx.lt
  have lq := bq.lt
  unfold cntB
  generalize s.e = e0 at *
  generalize s.p = p0 at *
  generalize s.s = s0 at *
  generalize s.f = f0 at *
  by_cases h : e0 = x
  · have h1 : (e0 == x) = true := by simpa using h
    rw [decide_eq_true h, Bool.true_and]
    clear h
    go_enter Tryd.func95, Tryd.ntmps95
    go_wp2
    go_ret
    exact ⟨rfl, (Below.refl _ _).alloc (Nat.le_refl _) _⟩
  · have h1 : (e0 == x) = false := by simpa using h
    rw [decide_eq_false h, Bool.false_and]
    clear h
    go_enter Tryd.func95, Tryd.ntmps95
    go_wp2
    go_ret
    exact ⟨rfl, (Below.refl _ _).alloc (Nat.le_refl _) _⟩
end Go.Proofs.YtkdpiikfiodopaaDoor
/-
  stake.At.
-/
namespace Go.Proofs.YtkdpiikfiodopaaDoor
open Go.RowKit

/-- The best stake so far, and its place. -/
def Best (l : List Stk) (x q : Int) (k : Nat) (v : Value) : Prop :=
  (pickL (l.take k) x q = none ∧ v = .int .i64 (-1)) ∨ ∃ j, ∃ hj : j < l.length, j < k ∧ v = .int .i64 j ∧ pickL (l.take k) x q = some l[j]
theorem best_no {l : List Stk} {x q : Int} {k : Nat} (hk : k < l.length) {v : Value} (h : Best l x q k v) (hc : cntB x q l[k] = false) : Best l x q (k + 1) v := by
  have e : pickL (l.take (k + 1)) x q = pickL (l.take k) x q := by
    rw [pick_take hk]
    unfold hit
    rw [if_neg]
    rintro ⟨h1, h2, _⟩
    unfold cntB at hc
    rw [decide_eq_true h1, decide_eq_true h2] at hc
    cases hc
  rcases h with ⟨h1, h2⟩ | ⟨j, hj, h1, h2, h3⟩
  · exact .inl ⟨e.trans h1, h2⟩
  · exact .inr ⟨j, hj, by omega, h2, e.trans h3⟩
theorem best_yes {l : List Stk} {x q : Int} {k : Nat} (hk : k < l.length) (hc : cntB x q l[k] = true) (hb : better (pickL (l.take k) x q) l[k] = true) : Best l x q (k + 1) (.int .i64 k) := by
  refine .inr ⟨k, hk, by omega, rfl, ?_⟩
  rw [pick_take hk]
  unfold hit
  unfold cntB at hc
  simp at hc
  rw [if_pos ⟨hc.1, hc.2, hb⟩]
theorem best_worse {l : List Stk} {x q : Int} {k : Nat} (hk : k < l.length) {v : Value} (h : Best l x q k v) (hb : better (pickL (l.take k) x q) l[k] = false) : Best l x q (k + 1) v := by
  have e : pickL (l.take (k + 1)) x q = pickL (l.take k) x q := by
    rw [pick_take hk]
    unfold hit
    rw [if_neg]
    rintro ⟨_, _, h3⟩
    rw [hb] at h3
    cases h3
  rcases h with ⟨h1, h2⟩ | ⟨j, hj, h1, h2, h3⟩
  · exact .inl ⟨e.trans h1, h2⟩
  · exact .inr ⟨j, hj, by omega, h2, e.trans h3⟩

set_option maxRecDepth 100000 in
set_option maxHeartbeats 2000000 in
theorem sat_any {A : Option Addr} {c : Nat} {l : List Stk} {x q : Int} {w : World} (hm : l.length ≤ 1000000) (hr : RowT w A l) :
    Calls Tryd.prog 63 #[.slice A l.length c, .int .i64 x, .int .i64 q] w fun e w' => e = .returned (.tuple #[.int .i64 (atL l x q).1, .int .i64 (atL l x q).2]) ∧ Below w.heap.size w w' := by
  have hmf : ∀ (fn : Fn) (first cap : Array Value) (w : World), (Instr.makeFunc fn first cap).run Tryd.prog w = .ok (.func fn first cap) w := fun _ _ _ _ => rfl
  have CC := Lib.hid fun s (w : World) (g g' : Nat) (bx : Box w g 3 #[.int .i64 x]) (bq : Box w g' 3 #[.int .i64 q]) => sat1_any s bx bq
  have R := Lib.hid hr
  clear hr
  go_enter Tryd.func63, Tryd.ntmps63
  go_wp2
  go_loopw [8, 15] (fun v i wr => ∃ k : Nat, k ≤ l.length ∧ i = .int .i64 k ∧ Best l x q k v ∧ Box wr w.heap.size 3 #[.int .i64 x] ∧ Box wr (w.heap.size + 1) 3 #[.int .i64 q] ∧ Below w.heap.size w wr) (fun _ i _ => l.length - (intOf i).toNat)
  case atStart => exact ⟨0, by omega, rfl, .inl ⟨rfl, rfl⟩, (Box.new _ _ _).alloc _, Box.new' (by simp), ((Below.refl _ _).alloc (Nat.le_refl _) _).alloc (by simp) _⟩
  case round =>
    obtain ⟨k, hk, rfl, hv, x4, x5, hb⟩ := hrel
    have hsz := hb.size
    by_cases hkn : k < l.length
    · obtain ⟨b, off, rfl, hbl, hc⟩ := R.out.get (by omega)
      have hlt : b < wr.heap.size := Nat.lt_of_lt_of_le hbl hsz
      obtain ⟨h1, h2, h3, h4⟩ := hc k hkn
      have g1 := (hb.cell (p := ⟨b, off + k * 4, none⟩) hbl).trans h1
      have g2 := (hb.cell (p := ⟨b, off + k * 4 + 1, none⟩) hbl).trans h2
      have g3 := (hb.cell (p := ⟨b, off + k * 4 + 2, none⟩) hbl).trans h3
      have g4 := (hb.cell (p := ⟨b, off + k * 4 + 3, none⟩) hbl).trans h4
      clear h1 h2 h3 h4
      obtain ⟨W1, hW1⟩ : ∃ W1, W1 = wr.alloc (.cells #[.int .i64 l[k].e, .int .i64 l[k].p, .int .i64 l[k].s, .int .i64 l[k].f] 124) := ⟨_, rfl⟩
      have x11 : Box W1 wr.heap.size 124 #[.int .i64 l[k].e, .int .i64 l[k].p, .int .i64 l[k].s, .int .i64 l[k].f] := by rw [hW1]; exact Box.new _ _ _
      have y4 : Box W1 w.heap.size 3 #[.int .i64 x] := by rw [hW1]; exact x4.alloc _
      have y5 : Box W1 (w.heap.size + 1) 3 #[.int .i64 q] := by rw [hW1]; exact x5.alloc _
      have hb1 : Below w.heap.size w W1 := by rw [hW1]; exact hb.alloc hsz _
      have C1 := Lib.hid (CC.out l[k] W1.drew _ _ y4.drew y5.drew)
      cases hcn : cntB x q l[k]
      · rw [hcn] at C1
        have HB := Lib.hid (best_no hkn hv hcn)
        clear hcn hv
        generalize l[k].e = e0 at *
        generalize l[k].p = p0 at *
        generalize l[k].s = s0 at *
        generalize l[k].f = f0 at *
        go_upto_region 6 with fail
        rewrite [← hW1]
        clear hW1
        have k11 := x11.cells
        have l11 := x11.lt
        refine wp_region_noPanic ?_
        refine wp_region_held_drew (S := (fun w' => w'.cell? ⟨wr.heap.size, 0, none⟩ = some (.int .i64 e0) ∧ w'.cell? ⟨wr.heap.size, 1, none⟩ = some (.int .i64 p0) ∧ w'.cell? ⟨wr.heap.size, 2, none⟩ = some (.int .i64 s0) ∧ w'.cell? ⟨wr.heap.size, 3, none⟩ = some (.int .i64 f0))) (by kernel_rfl) ?_ (fun hHeld => ?_)
        · go_keep
        refine wpAnyH_take (i := 0) (v := ?va0) rfl (by kernel_rfl) (by kernel_rfl) (by kernel_rfl) (fun _ _ _ h => h) (Or.inl ⟨by kernel_rfl, ?hya0⟩) (by assumption) ?resta0
        case hya0 => (intro w hSw; (try dsimp only at hSw); go_simp; (try with_reducible rfl))
        go_simp
        refine wpAnyH_take (i := 1) (v := ?va1) rfl (by kernel_rfl) (by kernel_rfl) (by kernel_rfl) (fun _ _ _ h => h) (Or.inl ⟨by kernel_rfl, ?hya1⟩) (by assumption) ?resta1
        case hya1 => (intro w hSw; (try dsimp only at hSw); go_simp; (try with_reducible rfl))
        go_simp
        refine wpAnyH_ready (rs := [2]) (by kernel_rfl) (by simp) ?_
        refine AllReadyH.cons rfl (fun K hK => ?_) AllReadyH.nil
        rw [if_pos (by kernel_rfl)]
        go_simp
        refine C1.out.mono ?_
        rintro e w2 ⟨rfl, b2⟩
        have k12 := (x11.drew.later b2).cells
        go_wp2_with fail
        refine hK.out _ _ (by go_keep) (fun hHeld => ?_)
        clear hK K
        go_simp
        refine wpAnyH_take (i := 3) (v := ?va3) rfl (by kernel_rfl) (by kernel_rfl) (by kernel_rfl) (fun _ _ _ h => h) (Or.inl ⟨by kernel_rfl, ?hya3⟩) (by assumption) ?resta3
        case hya3 => (intro w hSw; (try dsimp only at hSw); go_simp; (try with_reducible rfl))
        go_simp
        refine wpAnyH_take (i := 4) (v := undef) rfl (by kernel_rfl) (by kernel_rfl) (by kernel_rfl) (fun _ _ _ h => h) (Or.inr ⟨by kernel_rfl, rfl⟩) (by assumption) ?_
        go_simp
        refine wpAnyH_take (i := 5) (v := undef) rfl (by kernel_rfl) (by kernel_rfl) (by kernel_rfl) (fun _ _ _ h => h) (Or.inr ⟨by kernel_rfl, rfl⟩) (by assumption) ?_
        go_simp
        refine wpAnyH_take (i := 6) (v := undef) rfl (by kernel_rfl) (by kernel_rfl) (by kernel_rfl) (fun _ _ _ h => h) (Or.inr ⟨by kernel_rfl, rfl⟩) (by assumption) ?_
        go_simp
        refine wpAnyH_take (i := 7) (v := undef) rfl (by kernel_rfl) (by kernel_rfl) (by kernel_rfl) (fun _ _ _ h => h) (Or.inr ⟨by kernel_rfl, rfl⟩) (by assumption) ?_
        go_simp
        refine wpAnyH_take (i := 8) (v := undef) rfl (by kernel_rfl) (by kernel_rfl) (by kernel_rfl) (fun _ _ _ h => h) (Or.inr ⟨by kernel_rfl, rfl⟩) (by assumption) ?_
        go_simp
        refine wpAnyH_take (i := 9) (v := undef) rfl (by kernel_rfl) (by kernel_rfl) (by kernel_rfl) (fun _ _ _ h => h) (Or.inr ⟨by kernel_rfl, rfl⟩) (by assumption) ?_
        go_simp
        refine wpAnyH_take (i := 10) (v := undef) rfl (by kernel_rfl) (by kernel_rfl) (by kernel_rfl) (fun _ _ _ h => h) (Or.inr ⟨by kernel_rfl, rfl⟩) (by assumption) ?_
        go_simp
        refine wpAnyH_take (i := 11) (v := undef) rfl (by kernel_rfl) (by kernel_rfl) (by kernel_rfl) (fun _ _ _ h => h) (Or.inr ⟨by kernel_rfl, rfl⟩) (by assumption) ?_
        go_simp
        refine wpAnyH_take (i := 12) (v := undef) rfl (by kernel_rfl) (by kernel_rfl) (by kernel_rfl) (fun _ _ _ h => h) (Or.inr ⟨by kernel_rfl, rfl⟩) (by assumption) ?_
        go_simp
        refine wpAnyH_take (i := 13) (v := undef) rfl (by kernel_rfl) (by kernel_rfl) (by kernel_rfl) (fun _ _ _ h => h) (Or.inr ⟨by kernel_rfl, rfl⟩) (by assumption) ?_
        go_simp
        refine wpAnyH_take (i := 14) (v := undef) rfl (by kernel_rfl) (by kernel_rfl) (by kernel_rfl) (fun _ _ _ h => h) (Or.inr ⟨by kernel_rfl, rfl⟩) (by assumption) ?_
        go_simp
        refine wpAnyH_take (i := 15) (v := undef) rfl (by kernel_rfl) (by kernel_rfl) (by kernel_rfl) (fun _ _ _ h => h) (Or.inr ⟨by kernel_rfl, rfl⟩) (by assumption) ?_
        go_simp
        refine wpAnyH_take (i := 16) (v := ?va16) rfl (by kernel_rfl) (by kernel_rfl) (by kernel_rfl) (fun _ _ _ h => h) (Or.inl ⟨by kernel_rfl, ?hya16⟩) (by assumption) ?resta16
        case hya16 => (intro w hSw; (try dsimp only at hSw); go_simp; (try with_reducible rfl))
        go_simp
        refine wpAnyH_done (by kernel_rfl) ?_ _
        refine NoPanic.normal ?_
        have b2 := below_undrew b2
        have x4 := y4.later b2
        have x5 := y5.later b2
        have hb := hb1.trans (b2.mono hb1.size)
        clear k11 l11 k12 x11 g1 g2 g3 g4
        go_wp2
        go_roundw
        case rel => exact ⟨k + 1, by omega, by go_num, HB.out, x4, x5, hb⟩
        case measure => simp [intOf]; omega
      · rw [hcn] at C1
        rcases hv with ⟨hp, rfl⟩ | ⟨j, hj, hjk, rfl, hp⟩
        · have HB := Lib.hid (best_yes hkn hcn (by rw [hp]; rfl))
          clear hcn hp
          generalize l[k].e = e0 at *
          generalize l[k].p = p0 at *
          generalize l[k].s = s0 at *
          generalize l[k].f = f0 at *
          go_upto_region 6 with fail
          rewrite [← hW1]
          clear hW1
          have k11 := x11.cells
          have l11 := x11.lt
          refine wp_region_noPanic ?_
          refine wp_region_held_drew (S := (fun w' => w'.cell? ⟨wr.heap.size, 0, none⟩ = some (.int .i64 e0) ∧ w'.cell? ⟨wr.heap.size, 1, none⟩ = some (.int .i64 p0) ∧ w'.cell? ⟨wr.heap.size, 2, none⟩ = some (.int .i64 s0) ∧ w'.cell? ⟨wr.heap.size, 3, none⟩ = some (.int .i64 f0))) (by kernel_rfl) ?_ (fun hHeld => ?_)
          · go_keep
          refine wpAnyH_take (i := 0) (v := ?vb0) rfl (by kernel_rfl) (by kernel_rfl) (by kernel_rfl) (fun _ _ _ h => h) (Or.inl ⟨by kernel_rfl, ?hyb0⟩) (by assumption) ?restb0
          case hyb0 => (intro w hSw; (try dsimp only at hSw); go_simp; (try with_reducible rfl))
          go_simp
          refine wpAnyH_take (i := 1) (v := ?vb1) rfl (by kernel_rfl) (by kernel_rfl) (by kernel_rfl) (fun _ _ _ h => h) (Or.inl ⟨by kernel_rfl, ?hyb1⟩) (by assumption) ?restb1
          case hyb1 => (intro w hSw; (try dsimp only at hSw); go_simp; (try with_reducible rfl))
          go_simp
          refine wpAnyH_ready (rs := [2]) (by kernel_rfl) (by simp) ?_
          refine AllReadyH.cons rfl (fun K hK => ?_) AllReadyH.nil
          rw [if_pos (by kernel_rfl)]
          go_simp
          refine C1.out.mono ?_
          rintro e w2 ⟨rfl, b2⟩
          have k12 := (x11.drew.later b2).cells
          go_wp2_with fail
          refine hK.out _ _ (by go_keep) (fun hHeld => ?_)
          clear hK K
          go_simp
          refine wpAnyH_take (i := 3) (v := ?vb3) rfl (by kernel_rfl) (by kernel_rfl) (by kernel_rfl) (fun _ _ _ h => h) (Or.inl ⟨by kernel_rfl, ?hyb3⟩) (by assumption) ?restb3
          case hyb3 => (intro w hSw; (try dsimp only at hSw); go_simp; (try with_reducible rfl))
          go_simp
          refine wpAnyH_take (i := 4) (v := ?vb4) rfl (by kernel_rfl) (by kernel_rfl) (by kernel_rfl) (fun _ _ _ h => h) (Or.inl ⟨by kernel_rfl, ?hyb4⟩) (by assumption) ?restb4
          case hyb4 => (intro w hSw; (try dsimp only at hSw); go_simp; (try with_reducible rfl))
          go_simp
          refine wpAnyH_take (i := 5) (v := ?vb5) rfl (by kernel_rfl) (by kernel_rfl) (by kernel_rfl) (fun _ _ _ h => h) (Or.inl ⟨by kernel_rfl, ?hyb5⟩) (by assumption) ?restb5
          case hyb5 => (intro w hSw; (try dsimp only at hSw); go_simp; (try with_reducible rfl))
          go_simp
          refine wpAnyH_take (i := 6) (v := ?vb6) rfl (by kernel_rfl) (by kernel_rfl) (by kernel_rfl) (fun _ _ _ h => h) (Or.inl ⟨by kernel_rfl, ?hyb6⟩) (by assumption) ?restb6
          case hyb6 => (intro w hSw; (try dsimp only at hSw); go_simp; (try with_reducible rfl))
          go_simp
          refine wpAnyH_take (i := 7) (v := undef) rfl (by kernel_rfl) (by kernel_rfl) (by kernel_rfl) (fun _ _ _ h => h) (Or.inr ⟨by kernel_rfl, rfl⟩) (by assumption) ?_
          go_simp
          refine wpAnyH_take (i := 8) (v := undef) rfl (by kernel_rfl) (by kernel_rfl) (by kernel_rfl) (fun _ _ _ h => h) (Or.inr ⟨by kernel_rfl, rfl⟩) (by assumption) ?_
          go_simp
          refine wpAnyH_take (i := 9) (v := undef) rfl (by kernel_rfl) (by kernel_rfl) (by kernel_rfl) (fun _ _ _ h => h) (Or.inr ⟨by kernel_rfl, rfl⟩) (by assumption) ?_
          go_simp
          refine wpAnyH_take (i := 10) (v := undef) rfl (by kernel_rfl) (by kernel_rfl) (by kernel_rfl) (fun _ _ _ h => h) (Or.inr ⟨by kernel_rfl, rfl⟩) (by assumption) ?_
          go_simp
          refine wpAnyH_take (i := 11) (v := undef) rfl (by kernel_rfl) (by kernel_rfl) (by kernel_rfl) (fun _ _ _ h => h) (Or.inr ⟨by kernel_rfl, rfl⟩) (by assumption) ?_
          go_simp
          refine wpAnyH_take (i := 12) (v := undef) rfl (by kernel_rfl) (by kernel_rfl) (by kernel_rfl) (fun _ _ _ h => h) (Or.inr ⟨by kernel_rfl, rfl⟩) (by assumption) ?_
          go_simp
          refine wpAnyH_take (i := 13) (v := undef) rfl (by kernel_rfl) (by kernel_rfl) (by kernel_rfl) (fun _ _ _ h => h) (Or.inr ⟨by kernel_rfl, rfl⟩) (by assumption) ?_
          go_simp
          refine wpAnyH_take (i := 14) (v := undef) rfl (by kernel_rfl) (by kernel_rfl) (by kernel_rfl) (fun _ _ _ h => h) (Or.inr ⟨by kernel_rfl, rfl⟩) (by assumption) ?_
          go_simp
          refine wpAnyH_take (i := 15) (v := ?vb15) rfl (by kernel_rfl) (by kernel_rfl) (by kernel_rfl) (fun _ _ _ h => h) (Or.inl ⟨by kernel_rfl, ?hyb15⟩) (by assumption) ?restb15
          case hyb15 => (intro w hSw; (try dsimp only at hSw); go_simp; (try with_reducible rfl))
          go_simp
          refine wpAnyH_take (i := 16) (v := ?vb16) rfl (by kernel_rfl) (by kernel_rfl) (by kernel_rfl) (fun _ _ _ h => h) (Or.inl ⟨by kernel_rfl, ?hyb16⟩) (by assumption) ?restb16
          case hyb16 => (intro w hSw; (try dsimp only at hSw); go_simp; (try with_reducible rfl))
          go_simp
          refine wpAnyH_done (by kernel_rfl) ?_ _
          refine NoPanic.normal ?_
          have b2 := below_undrew b2
          have x4 := y4.later b2
          have x5 := y5.later b2
          have hb := hb1.trans (b2.mono hb1.size)
          clear k11 l11 k12 x11 g1 g2 g3 g4
          go_wp2
          go_roundw
          case rel => exact ⟨k + 1, by omega, by go_num, HB.out, x4, x5, hb⟩
          case measure => simp [intOf]; omega
        · obtain ⟨_, _, _, h4⟩ := hc j hj
          have g5 := (hb1.cell (p := ⟨b, off + j * 4 + 3, none⟩) hbl).trans h4
          have lb1 : b < W1.heap.size := Nat.lt_of_lt_of_le hbl hb1.size
          have hv : Best l x q k (.int .i64 j) := .inr ⟨j, hj, hjk, rfl, hp⟩
          have hbt : better (pickL (l.take k) x q) l[k] = decide (l[j].f ≤ l[k].f) := by rw [hp]; rfl
          clear hc h4 hp
          by_cases hbf : l[j].f ≤ l[k].f
          · have HB := Lib.hid (best_yes hkn hcn (by rw [hbt]; exact decide_eq_true hbf))
            have hd : decide (l[j].f ≤ l[k].f) = true := decide_eq_true hbf
            clear hcn hbt hv hbf
            generalize l[j].f = fj at *
            generalize l[k].e = e0 at *
            generalize l[k].p = p0 at *
            generalize l[k].s = s0 at *
            generalize l[k].f = f0 at *
            go_upto_region 6 with fail
            rewrite [← hW1]
            clear hW1
            have k11 := x11.cells
            have l11 := x11.lt
            refine wp_region_noPanic ?_
            refine wp_region_held_drew (S := (fun w' => w'.cell? ⟨wr.heap.size, 0, none⟩ = some (.int .i64 e0) ∧ w'.cell? ⟨wr.heap.size, 1, none⟩ = some (.int .i64 p0) ∧ w'.cell? ⟨wr.heap.size, 2, none⟩ = some (.int .i64 s0) ∧ w'.cell? ⟨wr.heap.size, 3, none⟩ = some (.int .i64 f0) ∧ w'.cell? ⟨b, off + j * 4 + 3, none⟩ = some (.int .i64 fj))) (by kernel_rfl) ?_ (fun hHeld => ?_)
            · go_keep
            refine wpAnyH_take (i := 0) (v := ?vc0) rfl (by kernel_rfl) (by kernel_rfl) (by kernel_rfl) (fun _ _ _ h => h) (Or.inl ⟨by kernel_rfl, ?hyc0⟩) (by assumption) ?restc0
            case hyc0 => (intro w hSw; (try dsimp only at hSw); go_simp; (try with_reducible rfl))
            go_simp
            refine wpAnyH_take (i := 1) (v := ?vc1) rfl (by kernel_rfl) (by kernel_rfl) (by kernel_rfl) (fun _ _ _ h => h) (Or.inl ⟨by kernel_rfl, ?hyc1⟩) (by assumption) ?restc1
            case hyc1 => (intro w hSw; (try dsimp only at hSw); go_simp; (try with_reducible rfl))
            go_simp
            refine wpAnyH_ready (rs := [2]) (by kernel_rfl) (by simp) ?_
            refine AllReadyH.cons rfl (fun K hK => ?_) AllReadyH.nil
            rw [if_pos (by kernel_rfl)]
            go_simp
            refine C1.out.mono ?_
            rintro e w2 ⟨rfl, b2⟩
            have k12 := (x11.drew.later b2).cells
            have g6 := (below_undrew b2).cell (p := ⟨b, off + j * 4 + 3, none⟩) lb1
            rw [g5] at g6
            go_wp2_with fail
            refine hK.out _ _ (by go_keep) (fun hHeld => ?_)
            clear hK K
            go_simp
            refine wpAnyH_take (i := 3) (v := ?vc3) rfl (by kernel_rfl) (by kernel_rfl) (by kernel_rfl) (fun _ _ _ h => h) (Or.inl ⟨by kernel_rfl, ?hyc3⟩) (by assumption) ?restc3
            case hyc3 => (intro w hSw; (try dsimp only at hSw); go_simp; (try with_reducible rfl))
            go_simp
            refine wpAnyH_take (i := 4) (v := ?vc4) rfl (by kernel_rfl) (by kernel_rfl) (by kernel_rfl) (fun _ _ _ h => h) (Or.inl ⟨by kernel_rfl, ?hyc4⟩) (by assumption) ?restc4
            case hyc4 => (intro w hSw; (try dsimp only at hSw); go_simp; (try with_reducible rfl))
            go_simp
            refine wpAnyH_take (i := 5) (v := ?vc5) rfl (by kernel_rfl) (by kernel_rfl) (by kernel_rfl) (fun _ _ _ h => h) (Or.inl ⟨by kernel_rfl, ?hyc5⟩) (by assumption) ?restc5
            case hyc5 => (intro w hSw; (try dsimp only at hSw); go_simp; (try with_reducible rfl))
            go_simp
            refine wpAnyH_take (i := 6) (v := ?vc6) rfl (by kernel_rfl) (by kernel_rfl) (by kernel_rfl) (fun _ _ _ h => h) (Or.inl ⟨by kernel_rfl, ?hyc6⟩) (by assumption) ?restc6
            case hyc6 => (intro w hSw; (try dsimp only at hSw); go_simp; (try with_reducible rfl))
            go_simp
            refine wpAnyH_take (i := 7) (v := ?vc7) rfl (by kernel_rfl) (by kernel_rfl) (by kernel_rfl) (fun _ _ _ h => h) (Or.inl ⟨by kernel_rfl, ?hyc7⟩) (by assumption) ?restc7
            case hyc7 => (intro w hSw; (try dsimp only at hSw); go_simp; (try with_reducible rfl))
            go_simp
            refine wpAnyH_take (i := 8) (v := ?vc8) rfl (by kernel_rfl) (by kernel_rfl) (by kernel_rfl) (fun _ _ _ h => h) (Or.inl ⟨by kernel_rfl, ?hyc8⟩) (by assumption) ?restc8
            case hyc8 => (intro w hSw; (try dsimp only at hSw); go_simp; (try with_reducible rfl))
            go_simp
            refine wpAnyH_take (i := 9) (v := ?vc9) rfl (by kernel_rfl) (by kernel_rfl) (by kernel_rfl) (fun _ _ _ h => h) (Or.inl ⟨by kernel_rfl, ?hyc9⟩) (by assumption) ?restc9
            case hyc9 => (intro w hSw; (try dsimp only at hSw); go_simp; (try with_reducible rfl))
            go_simp
            refine wpAnyH_take (i := 10) (v := ?vc10) rfl (by kernel_rfl) (by kernel_rfl) (by kernel_rfl) (fun _ _ _ h => h) (Or.inl ⟨by kernel_rfl, ?hyc10⟩) (by assumption) ?restc10
            case hyc10 => (intro w hSw; (try dsimp only at hSw); go_simp; (try with_reducible rfl))
            go_simp
            refine wpAnyH_take (i := 11) (v := ?vc11) rfl (by kernel_rfl) (by kernel_rfl) (by kernel_rfl) (fun _ _ _ h => h) (Or.inl ⟨by kernel_rfl, ?hyc11⟩) (by assumption) ?restc11
            case hyc11 => (intro w hSw; (try dsimp only at hSw); go_simp; (try with_reducible rfl))
            go_simp
            refine wpAnyH_take (i := 12) (v := ?vc12) rfl (by kernel_rfl) (by kernel_rfl) (by kernel_rfl) (fun _ _ _ h => h) (Or.inl ⟨by kernel_rfl, ?hyc12⟩) (by assumption) ?restc12
            case hyc12 => (intro w hSw; (try dsimp only at hSw); go_simp; (try with_reducible rfl))
            go_simp
            refine wpAnyH_take (i := 13) (v := ?vc13) rfl (by kernel_rfl) (by kernel_rfl) (by kernel_rfl) (fun _ _ _ h => h) (Or.inl ⟨by kernel_rfl, ?hyc13⟩) (by assumption) ?restc13
            case hyc13 => (intro w hSw; (try dsimp only at hSw); go_simp; (try with_reducible rfl))
            go_simp
            refine wpAnyH_take (i := 14) (v := ?vc14) rfl (by kernel_rfl) (by kernel_rfl) (by kernel_rfl) (fun _ _ _ h => h) (Or.inl ⟨by kernel_rfl, ?hyc14⟩) (by assumption) ?restc14
            case hyc14 => (intro w hSw; (try dsimp only at hSw); go_simp; (try with_reducible rfl))
            go_simp
            refine wpAnyH_take (i := 15) (v := ?vc15) rfl (by kernel_rfl) (by kernel_rfl) (by kernel_rfl) (fun _ _ _ h => h) (Or.inl ⟨by kernel_rfl, ?hyc15⟩) (by assumption) ?restc15
            case hyc15 => (intro w hSw; (try dsimp only at hSw); go_simp; (try with_reducible rfl))
            go_simp
            refine wpAnyH_take (i := 16) (v := ?vc16) rfl (by kernel_rfl) (by kernel_rfl) (by kernel_rfl) (fun _ _ _ h => h) (Or.inl ⟨by kernel_rfl, ?hyc16⟩) (by assumption) ?restc16
            case hyc16 => (intro w hSw; (try dsimp only at hSw); go_simp; (try with_reducible rfl))
            go_simp
            refine wpAnyH_done (by kernel_rfl) ?_ _
            refine NoPanic.normal ?_
            have b2 := below_undrew b2
            have x4 := y4.later b2
            have x5 := y5.later b2
            have hb := hb1.trans (b2.mono hb1.size)
            clear g5 g6 k11 l11 k12 x11 g1 g2 g3 g4
            go_wp2
            go_roundw
            case rel => exact ⟨k + 1, by omega, by go_num, HB.out, x4, x5, hb⟩
            case measure => simp [intOf]; omega
          · have HB := Lib.hid (best_worse hkn hv (by rw [hbt]; exact decide_eq_false hbf))
            have hd : decide (l[j].f ≤ l[k].f) = false := decide_eq_false hbf
            clear hcn hbt hv hbf
            generalize l[j].f = fj at *
            generalize l[k].e = e0 at *
            generalize l[k].p = p0 at *
            generalize l[k].s = s0 at *
            generalize l[k].f = f0 at *
            go_upto_region 6 with fail
            rewrite [← hW1]
            clear hW1
            have k11 := x11.cells
            have l11 := x11.lt
            refine wp_region_noPanic ?_
            refine wp_region_held_drew (S := (fun w' => w'.cell? ⟨wr.heap.size, 0, none⟩ = some (.int .i64 e0) ∧ w'.cell? ⟨wr.heap.size, 1, none⟩ = some (.int .i64 p0) ∧ w'.cell? ⟨wr.heap.size, 2, none⟩ = some (.int .i64 s0) ∧ w'.cell? ⟨wr.heap.size, 3, none⟩ = some (.int .i64 f0) ∧ w'.cell? ⟨b, off + j * 4 + 3, none⟩ = some (.int .i64 fj))) (by kernel_rfl) ?_ (fun hHeld => ?_)
            · go_keep
            refine wpAnyH_take (i := 0) (v := ?vd0) rfl (by kernel_rfl) (by kernel_rfl) (by kernel_rfl) (fun _ _ _ h => h) (Or.inl ⟨by kernel_rfl, ?hyd0⟩) (by assumption) ?restd0
            case hyd0 => (intro w hSw; (try dsimp only at hSw); go_simp; (try with_reducible rfl))
            go_simp
            refine wpAnyH_take (i := 1) (v := ?vd1) rfl (by kernel_rfl) (by kernel_rfl) (by kernel_rfl) (fun _ _ _ h => h) (Or.inl ⟨by kernel_rfl, ?hyd1⟩) (by assumption) ?restd1
            case hyd1 => (intro w hSw; (try dsimp only at hSw); go_simp; (try with_reducible rfl))
            go_simp
            refine wpAnyH_ready (rs := [2]) (by kernel_rfl) (by simp) ?_
            refine AllReadyH.cons rfl (fun K hK => ?_) AllReadyH.nil
            rw [if_pos (by kernel_rfl)]
            go_simp
            refine C1.out.mono ?_
            rintro e w2 ⟨rfl, b2⟩
            have k12 := (x11.drew.later b2).cells
            have g6 := (below_undrew b2).cell (p := ⟨b, off + j * 4 + 3, none⟩) lb1
            rw [g5] at g6
            go_wp2_with fail
            refine hK.out _ _ (by go_keep) (fun hHeld => ?_)
            clear hK K
            go_simp
            refine wpAnyH_take (i := 3) (v := ?vd3) rfl (by kernel_rfl) (by kernel_rfl) (by kernel_rfl) (fun _ _ _ h => h) (Or.inl ⟨by kernel_rfl, ?hyd3⟩) (by assumption) ?restd3
            case hyd3 => (intro w hSw; (try dsimp only at hSw); go_simp; (try with_reducible rfl))
            go_simp
            refine wpAnyH_take (i := 4) (v := ?vd4) rfl (by kernel_rfl) (by kernel_rfl) (by kernel_rfl) (fun _ _ _ h => h) (Or.inl ⟨by kernel_rfl, ?hyd4⟩) (by assumption) ?restd4
            case hyd4 => (intro w hSw; (try dsimp only at hSw); go_simp; (try with_reducible rfl))
            go_simp
            refine wpAnyH_take (i := 5) (v := ?vd5) rfl (by kernel_rfl) (by kernel_rfl) (by kernel_rfl) (fun _ _ _ h => h) (Or.inl ⟨by kernel_rfl, ?hyd5⟩) (by assumption) ?restd5
            case hyd5 => (intro w hSw; (try dsimp only at hSw); go_simp; (try with_reducible rfl))
            go_simp
            refine wpAnyH_take (i := 6) (v := ?vd6) rfl (by kernel_rfl) (by kernel_rfl) (by kernel_rfl) (fun _ _ _ h => h) (Or.inl ⟨by kernel_rfl, ?hyd6⟩) (by assumption) ?restd6
            case hyd6 => (intro w hSw; (try dsimp only at hSw); go_simp; (try with_reducible rfl))
            go_simp
            refine wpAnyH_take (i := 7) (v := ?vd7) rfl (by kernel_rfl) (by kernel_rfl) (by kernel_rfl) (fun _ _ _ h => h) (Or.inl ⟨by kernel_rfl, ?hyd7⟩) (by assumption) ?restd7
            case hyd7 => (intro w hSw; (try dsimp only at hSw); go_simp; (try with_reducible rfl))
            go_simp
            refine wpAnyH_take (i := 8) (v := ?vd8) rfl (by kernel_rfl) (by kernel_rfl) (by kernel_rfl) (fun _ _ _ h => h) (Or.inl ⟨by kernel_rfl, ?hyd8⟩) (by assumption) ?restd8
            case hyd8 => (intro w hSw; (try dsimp only at hSw); go_simp; (try with_reducible rfl))
            go_simp
            refine wpAnyH_take (i := 9) (v := ?vd9) rfl (by kernel_rfl) (by kernel_rfl) (by kernel_rfl) (fun _ _ _ h => h) (Or.inl ⟨by kernel_rfl, ?hyd9⟩) (by assumption) ?restd9
            case hyd9 => (intro w hSw; (try dsimp only at hSw); go_simp; (try with_reducible rfl))
            go_simp
            refine wpAnyH_take (i := 10) (v := ?vd10) rfl (by kernel_rfl) (by kernel_rfl) (by kernel_rfl) (fun _ _ _ h => h) (Or.inl ⟨by kernel_rfl, ?hyd10⟩) (by assumption) ?restd10
            case hyd10 => (intro w hSw; (try dsimp only at hSw); go_simp; (try with_reducible rfl))
            go_simp
            refine wpAnyH_take (i := 11) (v := ?vd11) rfl (by kernel_rfl) (by kernel_rfl) (by kernel_rfl) (fun _ _ _ h => h) (Or.inl ⟨by kernel_rfl, ?hyd11⟩) (by assumption) ?restd11
            case hyd11 => (intro w hSw; (try dsimp only at hSw); go_simp; (try with_reducible rfl))
            go_simp
            refine wpAnyH_take (i := 12) (v := ?vd12) rfl (by kernel_rfl) (by kernel_rfl) (by kernel_rfl) (fun _ _ _ h => h) (Or.inl ⟨by kernel_rfl, ?hyd12⟩) (by assumption) ?restd12
            case hyd12 => (intro w hSw; (try dsimp only at hSw); go_simp; (try with_reducible rfl))
            go_simp
            refine wpAnyH_take (i := 13) (v := ?vd13) rfl (by kernel_rfl) (by kernel_rfl) (by kernel_rfl) (fun _ _ _ h => h) (Or.inl ⟨by kernel_rfl, ?hyd13⟩) (by assumption) ?restd13
            case hyd13 => (intro w hSw; (try dsimp only at hSw); go_simp; (try with_reducible rfl))
            go_simp
            refine wpAnyH_take (i := 14) (v := ?vd14) rfl (by kernel_rfl) (by kernel_rfl) (by kernel_rfl) (fun _ _ _ h => h) (Or.inl ⟨by kernel_rfl, ?hyd14⟩) (by assumption) ?restd14
            case hyd14 => (intro w hSw; (try dsimp only at hSw); go_simp; (try with_reducible rfl))
            go_simp
            refine wpAnyH_take (i := 15) (v := ?vd15) rfl (by kernel_rfl) (by kernel_rfl) (by kernel_rfl) (fun _ _ _ h => h) (Or.inl ⟨by kernel_rfl, ?hyd15⟩) (by assumption) ?restd15
            case hyd15 => (intro w hSw; (try dsimp only at hSw); go_simp; (try with_reducible rfl))
            go_simp
            refine wpAnyH_take (i := 16) (v := ?vd16) rfl (by kernel_rfl) (by kernel_rfl) (by kernel_rfl) (fun _ _ _ h => h) (Or.inl ⟨by kernel_rfl, ?hyd16⟩) (by assumption) ?restd16
            case hyd16 => (intro w hSw; (try dsimp only at hSw); go_simp; (try with_reducible rfl))
            go_simp
            refine wpAnyH_done (by kernel_rfl) ?_ _
            refine NoPanic.normal ?_
            have b2 := below_undrew b2
            have x4 := y4.later b2
            have x5 := y5.later b2
            have hb := hb1.trans (b2.mono hb1.size)
            clear g5 g6 k11 l11 k12 x11 g1 g2 g3 g4
            go_wp2
            go_roundw
            case rel => exact ⟨k + 1, by omega, by go_num, HB.out, x4, x5, hb⟩
            case measure => simp [intOf]; omega
    · obtain rfl : k = l.length := by omega
      rw [Best, List.take_length] at hv
      have HA : atL l x q = atB (pickL l x q) := rfl
      rcases hv with ⟨hp, rfl⟩ | ⟨j, hj, _, rfl, hp⟩
      · rw [hp] at HA
        have H1 := Lib.hid HA
        clear hp HA
        go_wp2
        go_ret2
        exact ⟨by rw [H1.out]; rfl, hb⟩
      · rw [hp] at HA
        have H1 := Lib.hid HA
        clear hp HA
        obtain ⟨b, off, rfl, hbl, hc⟩ := R.out.get (by omega)
        have hlt : b < wr.heap.size := Nat.lt_of_lt_of_le hbl hsz
        obtain ⟨_, h2, h3, _⟩ := hc j hj
        have g2 := (hb.cell (p := ⟨b, off + j * 4 + 1, none⟩) hbl).trans h2
        have g3 := (hb.cell (p := ⟨b, off + j * 4 + 2, none⟩) hbl).trans h3
        clear h2 h3 hc
        have e1 : (atB (some l[j])) = (l[j].p, l[j].s) := rfl
        rw [e1] at H1
        clear e1
        generalize l[j].p = p1 at *
        generalize l[j].s = s1 at *
        go_upto_region 11 with fail
        go_quiet (fail)
        go_wp2
        go_ret2
        exact ⟨by rw [H1.out]; rfl, below_drewN hb _⟩
end Go.Proofs.YtkdpiikfiodopaaDoor
/-
  The document's At of stakes.
-/
namespace Go.Proofs.YtkdpiikfiodopaaDoor
open Go.RowKit

/-- What the document's loop holds: the best stake so far. -/
def BestR (l : List Stk) (x q : Int) (k : Nat) (p s f b : Value) : Prop :=
  (pickL (l.take k) x q = none ∧ p = .int .i64 0 ∧ s = .int .i64 10000 ∧ f = .int .i64 0 ∧ b = .bool false) ∨
    ∃ y : Stk, pickL (l.take k) x q = some y ∧ p = .int .i64 y.p ∧ s = .int .i64 y.s ∧ f = .int .i64 y.f ∧ b = .bool true
theorem pick_no {l : List Stk} {x q : Int} {k : Nat} (hk : k < l.length) (hc : cntB x q l[k] = false) : pickL (l.take (k + 1)) x q = pickL (l.take k) x q := by
  rw [pick_take hk]
  unfold hit
  rw [if_neg]
  rintro ⟨h1, h2, _⟩
  unfold cntB at hc
  rw [decide_eq_true h1, decide_eq_true h2] at hc
  cases hc
theorem bestR_keep {l : List Stk} {x q : Int} {k : Nat} {p s f b : Value} (e : pickL (l.take (k + 1)) x q = pickL (l.take k) x q) (h : BestR l x q k p s f b) : BestR l x q (k + 1) p s f b := by
  unfold BestR at h ⊢
  rw [e]
  exact h
theorem pick_worse {l : List Stk} {x q : Int} {k : Nat} (hk : k < l.length) (hb : better (pickL (l.take k) x q) l[k] = false) : pickL (l.take (k + 1)) x q = pickL (l.take k) x q := by
  rw [pick_take hk]
  unfold hit
  rw [if_neg]
  rintro ⟨_, _, h3⟩
  rw [hb] at h3
  cases h3
theorem pick_yes {l : List Stk} {x q : Int} {k : Nat} (hk : k < l.length) (hc : cntB x q l[k] = true) (hb : better (pickL (l.take k) x q) l[k] = true) : pickL (l.take (k + 1)) x q = some l[k] := by
  rw [pick_take hk]
  unfold hit
  unfold cntB at hc
  simp at hc
  rw [if_pos ⟨hc.1, hc.2, hb⟩]

set_option maxRecDepth 100000 in
set_option maxHeartbeats 2000000 in
theorem rat_any {A : Option Addr} {c : Nat} {l : List Stk} {x q : Int} {w : World} (hm : l.length ≤ 1000000) (hr : RowT w A l) :
    Calls Tryd.prog 67 #[.slice A l.length c, .int .i64 x, .int .i64 q] w fun e w' => e = .returned (.tuple #[.int .i64 (atL l x q).1, .int .i64 (atL l x q).2]) ∧ Below w.heap.size w w' := by
  have R := Lib.hid hr
  clear hr
  go_enter Tryd.func67, Tryd.ntmps67
  go_wp2
  go_loopw [8, 9, 10, 11, 12] (fun p s f b i wr => ∃ k : Nat, k ≤ l.length ∧ i = .int .i64 k ∧ BestR l x q k p s f b ∧ Below w.heap.size w wr) (fun _ _ _ _ i _ => l.length - (intOf i).toNat)
  case atStart => exact ⟨0, by omega, rfl, .inl ⟨rfl, rfl, rfl, rfl, rfl⟩, Below.refl _ _⟩
  case round =>
    obtain ⟨k, hk, rfl, hv, hb⟩ := hrel
    have hsz := hb.size
    by_cases hkn : k < l.length
    · obtain ⟨b, off, rfl, hbl, hc⟩ := R.out.get (by omega)
      have hlt : b < wr.heap.size := Nat.lt_of_lt_of_le hbl hsz
      obtain ⟨h1, h2, h3, h4⟩ := hc k hkn
      have g1 := (hb.cell (p := ⟨b, off + k * 4, none⟩) hbl).trans h1
      have g2 := (hb.cell (p := ⟨b, off + k * 4 + 1, none⟩) hbl).trans h2
      have g3 := (hb.cell (p := ⟨b, off + k * 4 + 2, none⟩) hbl).trans h3
      have g4 := (hb.cell (p := ⟨b, off + k * 4 + 3, none⟩) hbl).trans h4
      clear h1 h2 h3 h4 hc
      cases hcn : cntB x q l[k]
      · have HB := Lib.hid (bestR_keep (pick_no hkn hcn) hv)
        clear hv
        unfold cntB at hcn
        generalize l[k].e = e0 at *
        generalize l[k].p = p0 at *
        generalize l[k].s = s0 at *
        generalize l[k].f = f0 at *
        by_cases he : e0 = x
        · have he' : (e0 == x) = true := by simpa using he
          rw [decide_eq_true he, Bool.true_and] at hcn
          clear he
          go_wp2
          go_roundw
          case rel => exact ⟨k + 1, by omega, by go_num, HB.out, hb.alloc hsz _⟩
          case measure => simp [intOf]; omega
        · have he' : (e0 == x) = false := by simpa using he
          clear he hcn
          go_wp2
          go_roundw
          case rel => exact ⟨k + 1, by omega, by go_num, HB.out, hb.alloc hsz _⟩
          case measure => simp [intOf]; omega
      · have hce : (l[k].e == x) = true ∧ decide (l[k].f ≤ q) = true := by unfold cntB at hcn; simp at hcn ⊢; exact hcn
        rcases hv with ⟨hp, rfl, rfl, rfl, rfl⟩ | ⟨y, hp, rfl, rfl, rfl, rfl⟩
        · have hv' : BestR l x q (k + 1) (.int .i64 l[k].p) (.int .i64 l[k].s) (.int .i64 l[k].f) (.bool true) := .inr ⟨l[k], pick_yes hkn hcn (by rw [hp]; rfl), rfl, rfl, rfl, rfl⟩
          have HB := Lib.hid hv'
          clear hv' hp hcn
          obtain ⟨hce, hcf⟩ := hce
          generalize l[k].e = e0 at *
          generalize l[k].p = p0 at *
          generalize l[k].s = s0 at *
          generalize l[k].f = f0 at *
          go_upto_region 7 with fail
          go_quiet (fail)
          go_wp2
          go_roundw
          case rel => exact ⟨k + 1, by omega, by go_num, HB.out, below_drewN (hb.alloc hsz _) _⟩
          case measure => simp [intOf]; omega
        · have hbt : better (pickL (l.take k) x q) l[k] = decide (y.f ≤ l[k].f) := by rw [hp]; rfl
          by_cases hbf : y.f ≤ l[k].f
          · have hv' : BestR l x q (k + 1) (.int .i64 l[k].p) (.int .i64 l[k].s) (.int .i64 l[k].f) (.bool true) := .inr ⟨l[k], pick_yes hkn hcn (by rw [hbt]; exact decide_eq_true hbf), rfl, rfl, rfl, rfl⟩
            have HB := Lib.hid hv'
            have hd : decide (y.f ≤ l[k].f) = true := decide_eq_true hbf
            clear hv' hp hcn hbt hbf
            obtain ⟨hce, hcf⟩ := hce
            generalize l[k].e = e0 at *
            generalize l[k].p = p0 at *
            generalize l[k].s = s0 at *
            generalize l[k].f = f0 at *
            generalize y.f = yf at *
            generalize y.p = yp at *
            generalize y.s = ys at *
            go_upto_region 7 with fail
            go_quiet (fail)
            go_wp2
            go_roundw
            case rel => exact ⟨k + 1, by omega, by go_num, HB.out, below_drewN (hb.alloc hsz _) _⟩
            case measure => simp [intOf]; omega
          · have hv' : BestR l x q (k + 1) (.int .i64 y.p) (.int .i64 y.s) (.int .i64 y.f) (.bool true) := .inr ⟨y, (pick_worse hkn (by rw [hbt]; exact decide_eq_false hbf)).trans hp, rfl, rfl, rfl, rfl⟩
            have HB := Lib.hid hv'
            have hd : decide (y.f ≤ l[k].f) = false := decide_eq_false hbf
            clear hv' hp hcn hbt hbf
            obtain ⟨hce, hcf⟩ := hce
            generalize l[k].e = e0 at *
            generalize l[k].p = p0 at *
            generalize l[k].s = s0 at *
            generalize l[k].f = f0 at *
            generalize y.f = yf at *
            generalize y.p = yp at *
            generalize y.s = ys at *
            go_wp2
            go_roundw
            case rel => exact ⟨k + 1, by omega, by go_num, HB.out, hb.alloc hsz _⟩
            case measure => simp [intOf]; omega
    · obtain rfl : k = l.length := by omega
      rw [BestR, List.take_length] at hv
      have HA : atL l x q = atB (pickL l x q) := rfl
      rcases hv with ⟨hp, rfl, rfl, rfl, rfl⟩ | ⟨y, hp, rfl, rfl, rfl, rfl⟩
      · rw [hp] at HA
        have H1 := Lib.hid HA
        clear hp HA
        go_wp2
        go_ret2
        exact ⟨by rw [H1.out]; rfl, hb⟩
      · rw [hp] at HA
        have H1 := Lib.hid (HA.trans (show atB (some y) = (y.p, y.s) from rfl))
        clear hp HA
        generalize y.p = yp at *
        generalize y.s = ys at *
        go_wp2
        go_ret2
        exact ⟨by rw [H1.out]; rfl, hb⟩
end Go.Proofs.YtkdpiikfiodopaaDoor
