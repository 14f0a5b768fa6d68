/-
  LockStays: the walk.
-/
import Derived.Test.YtepegkbikjjkjaaLkAwake
namespace Go.Proofs.Ytepegkbikjjkjaa
open Go.RowKit

theorem two_of {xs : List Int} (h : xs.length = 2) : ∃ a b, xs = [a, b] := by
  match xs, h with
  | [a, b], _ => exact ⟨a, b, rfl⟩
theorem three_of {xs : List Int} (h : xs.length = 3) : ∃ a b c, xs = [a, b, c] := by
  match xs, h with
  | [a, b, c], _ => exact ⟨a, b, c, rfl⟩
theorem lastI_add (l : List (Int × Int)) (a b e : Int) : lastI (l ++ [(a, b)]) e = if a = e then max (lastI l e) b else lastI l e := lastI_snoc l (a, b) e
theorem mayI_zero {l : List (Int × Int)} {a b n : Int} (h : mayI l a b n = 0) : lastI l a < b := by
  unfold mayI at h
  split at h
  · omega
  · split at h
    · omega
    · split at h
      · omega
      · omega
theorem RowAt.of_box {w : World} {g : Nat} {t : TypeId} {n : Int} (h : Box w g t #[.int .i64 n]) : RowAt w (some ⟨g, 0, none⟩) (ivals [n]) := by
  refine RowAt.of_cells fun j u hj => ?_
  rw [addr_add, h.cells]
  simpa [ivals] using hj
theorem two_new (w : World) (t : TypeId) (cs : Array Value) : Box ((w.alloc (.cells cs t)).alloc (.cells cs t)) (w.heap.size + 1) t cs := Box.new' (by simp)
/-- What the two looks leave. -/
def StayCut (was is : Bool) (W : World) (s9 s10 : Value) (wx : World) : Prop := s9 = .bool was ∧ s10 = .bool is ∧ Below W.heap.size W wx

set_option maxRecDepth 100000 in
set_option maxHeartbeats 2000000 in
theorem stays_no (A : Option Addr) (cap : Nat) (l : List (Int × Int)) (a b n0 n1 n2 : Int) (w : World) (hl : l.length ≤ 100) (hr : RowL w A l) (q : Int) (hq : addL l a b n0 = ([], q)) (hq0 : q ≠ 0) :
    Calls Try.prog 3 #[.slice A l.length cap, .agg #[.int .i64 a, .int .i64 b], .agg #[.int .i64 n0, .int .i64 n1, .int .i64 n2]] w fun e w' => e = .returned (.bool true) ∧ Below w.heap.size w w' := by
  have W := Lib.hid fun w => awake_any w
  have D := Lib.hid fun w (h : RowL w A l) => add_any (cap := cap) (a := a) (b := b) (n := n0) (by omega : l.length ≤ 1000000) h
  rw [hq] at D
  have g0 : (q != 0) = true := by simpa using hq0
  clear hq hq0
  go_enter Try.func3, Try.ntmps3
  obtain ⟨W0, hW0⟩ : ∃ W0, W0 = (w.alloc (.cells #[.int .i64 a, .int .i64 b] 24)).alloc (.cells #[.int .i64 n0, .int .i64 n1, .int .i64 n2] 25) := ⟨_, rfl⟩
  have x4 : Box W0 w.heap.size 24 #[.int .i64 a, .int .i64 b] := by rw [hW0]; exact (Box.new _ _ _).alloc _
  have x5 : Box W0 (w.heap.size + 1) 25 #[.int .i64 n0, .int .i64 n1, .int .i64 n2] := by rw [hW0]; exact Box.new' (by simp)
  have B0 : Below w.heap.size w W0 := by rw [hW0]; exact ((Below.refl _ _).alloc (Nat.le_refl _) _).alloc (by simp) _
  have r0 : RowL W0 A l := by rw [hW0]; exact (hr.alloc _).alloc _
  clear hr
  go_wp2_with fail
  rewrite [← hW0]
  clear hW0
  refine (D.out _ r0).mono ?_
  rintro e w1 ⟨A1, c1, rfl, _, b1⟩
  have B1 := B0.trans (b1.mono B0.size)
  go_wp2_with fail
  refine (W.out _).mono ?_
  rintro e w2 ⟨rfl, b2⟩
  go_wp2
  go_ret
  exact ⟨rfl, B1.trans (b2.mono B1.size)⟩

set_option maxRecDepth 100000 in
set_option maxHeartbeats 4000000 in
theorem stays_ww (A : Option Addr) (cap : Nat) (l : List (Int × Int)) (a b n0 n1 n2 : Int) (w : World) (hl : l.length ≤ 100) (hr : RowL w A l) (hq : addL l a b n0 = (l ++ [(a, b)], 0)) (hL : lastI (l ++ [(a, b)]) a = b) (h1 : lockB l n2 n1 = true) (h2 : lockB (l ++ [(a, b)]) n2 n1 = true) :
    Calls Try.prog 3 #[.slice A l.length cap, .agg #[.int .i64 a, .int .i64 b], .agg #[.int .i64 n0, .int .i64 n1, .int .i64 n2]] w fun e w' => e = .returned (.bool true) ∧ Below w.heap.size w w' := by
  have W := Lib.hid fun w => awake_any w
  have D := Lib.hid fun w (h : RowL w A l) => add_any (cap := cap) (a := a) (b := b) (n := n0) (by omega : l.length ≤ 1000000) h
  have hlen : (l ++ [(a, b)]).length = l.length + 1 := by simp
  have Q1 := Lib.hid fun w A' (h : RowL w A l) (h' : RowAt w A' (ivals [n1])) => locked_any (c := cap) (c' := 1) (es := [n1]) (p := n2) (by omega : l.length ≤ 1000000) (by simp) h h'
  have Q2 := Lib.hid fun w A1 c1 A' (h : RowL w A1 (l ++ [(a, b)])) (h' : RowAt w A' (ivals [n1])) => locked_any (c := c1) (c' := 1) (es := [n1]) (p := n2) (by omega : (l ++ [(a, b)]).length ≤ 1000000) (by simp) h h'
  have LA := Lib.hid fun w A1 c1 (h : RowL w A1 (l ++ [(a, b)])) => last_any (c := c1) (e := a) (by omega : (l ++ [(a, b)]).length ≤ 1000000) h
  rw [hq] at D
  rw [anyB_one, h1] at Q1
  rw [anyB_one, h2] at Q2
  rw [hL] at LA
  unfold PairRow at D
  simp only [hlen] at D Q2 LA
  simp only [List.length_cons, List.length_nil, Nat.zero_add] at Q1 Q2
  generalize hm : l ++ [(a, b)] = m at *
  clear hq hL h1 h2 hm hlen
  go_enter Try.func3, Try.ntmps3
  obtain ⟨W0, hW0⟩ : ∃ W0, W0 = (w.alloc (.cells #[.int .i64 a, .int .i64 b] 24)).alloc (.cells #[.int .i64 n0, .int .i64 n1, .int .i64 n2] 25) := ⟨_, rfl⟩
  have x4 : Box W0 w.heap.size 24 #[.int .i64 a, .int .i64 b] := by rw [hW0]; exact (Box.new _ _ _).alloc _
  have x5 : Box W0 (w.heap.size + 1) 25 #[.int .i64 n0, .int .i64 n1, .int .i64 n2] := by rw [hW0]; exact Box.new' (by simp)
  have B0 : Below w.heap.size w W0 := by rw [hW0]; exact ((Below.refl _ _).alloc (Nat.le_refl _) _).alloc (by simp) _
  have r0 : RowL W0 A l := by rw [hW0]; exact (hr.alloc _).alloc _
  clear hr
  go_wp2_with fail
  rewrite [← hW0]
  clear hW0
  refine (D.out _ r0).mono ?_
  rintro e W1 ⟨A1, c1, rfl, rm, b1⟩
  have r1 := r0.below b1 (Nat.le_refl _)
  replace x4 := x4.later b1
  replace x5 := x5.later b1
  have B1 := B0.trans (b1.mono B0.size)
  clear b1 B0 r0
  go_upto_region 6 with fail
  go_cut [9, 10] from 31 to 44 (fun s9 s10 wx => StayCut true true W1 s9 s10 wx)
  case first =>
    have kkx5 := x5.cells
    have nex5 := Nat.ne_of_gt x5.lt
    have nfx5 := Nat.ne_of_gt (Nat.lt_succ_of_lt x5.lt)
    first | go_region_held3 (fun w' => w'.cell? ⟨w.heap.size + 1, 0, none⟩ = some (.int .i64 n0) ∧ w'.cell? ⟨w.heap.size + 1, 1, none⟩ = some (.int .i64 n1) ∧ w'.cell? ⟨w.heap.size + 1, 2, none⟩ = some (.int .i64 n2)) (go_keep)
      (first
        | (go_at_call 6; (with_reducible refine (Q1.out _ _ ?_ ?_).mono ?_); (first | exact (r1.alloc _).drew | exact ((r1.alloc _).alloc _).drew); (first | exact RowAt.of_box (Box.new W1 3 #[.int .i64 n1]).drew | exact RowAt.of_box ((Box.new W1 3 #[.int .i64 n1]).alloc (.cells #[.int .i64 n1] 3)).drew | exact RowAt.of_box (two_new W1 3 #[.int .i64 n1]).drew); rintro e w60 ⟨rfl, b60⟩; have yx5 : Box w60 (w.heap.size + 1) 25 #[.int .i64 n0, .int .i64 n1, .int .i64 n2] := (by first | exact (x5).drew.later b60 | exact (x5.alloc _).drew.later b60 | exact ((x5.alloc _).alloc _).drew.later b60); have kyx5 := yx5.cells; have nex50 := Nat.ne_of_gt yx5.lt; have nfx50 := Nat.ne_of_gt (Nat.lt_succ_of_lt yx5.lt); have cb : Below W1.heap.size W1 w60 := (by first | exact (below_undrew b60) | exact (below_up (below_undrew b60)) | exact (below_up (below_up (below_undrew b60)))); (first | (have zl0a := z1.lt; have zl0b := z2.lt; have z1 := z1.later b60; have z2 := z2.later b60; have kz1 := z1.cells; have fz1 := z1.free; have lz1 := z1.lt; have kz2 := z2.cells; have fz2 := z2.free; have lz2 := z2.lt) | (have zl0a := z1.lt; have z1 := z1.later b60; have kz1 := z1.cells; have fz1 := z1.free; have lz1 := z1.lt) | (have zne := Nat.ne_of_lt z1.lt; have zl0b := (z1.alloc (.cells #[.int .i64 n1] 3)).lt; have z1 := (z1.alloc _).drew.later b60; have z2 := (Box.new W1 3 #[.int .i64 n1]).drew; have zl0a := z2.lt; have z2 := z2.later b60; have kz1 := z1.cells; have fz1 := z1.free; have lz1 := z1.lt; have kz2 := z2.cells; have fz2 := z2.free; have lz2 := z2.lt) | (have z1 := ((Box.new W1 3 #[.int .i64 n1]).alloc (.cells #[.int .i64 n1] 3)).drew; have z2 := (Box.new' (w := W1.alloc (.cells #[.int .i64 n1] 3)) (g := W1.heap.size + 1) (t := 3) (cs := #[.int .i64 n1]) (by simp)).drew; have zl0a := z1.lt; have zl0b := z2.lt; have zne := Nat.ne_of_lt (Nat.lt_succ_self W1.heap.size); have z1 := z1.later b60; have z2 := z2.later b60; have kz1 := z1.cells; have fz1 := z1.free; have lz1 := z1.lt; have kz2 := z2.cells; have fz2 := z2.free; have lz2 := z2.lt) | (have z1 := (Box.new W1 3 #[.int .i64 n1]).drew; have zl0a := z1.lt; have z1 := z1.later b60; have kz1 := z1.cells; have fz1 := z1.free; have lz1 := z1.lt) | skip); (first | replace rm := (rm).drew.below b60 (Nat.le_refl _) | replace rm := (rm.alloc _).drew.below b60 (Nat.le_refl _) | replace rm := ((rm.alloc _).alloc _).drew.below b60 (Nat.le_refl _)))
        | (go_at_call 6; (with_reducible refine (Q2.out _ _ _ _ ?_ ?_).mono ?_); (first | exact rm | exact rm.alloc _); (first | exact RowAt.of_box z1 | exact RowAt.of_box z2 | exact RowAt.of_box (Box.new w60 3 #[.int .i64 n1])); rintro e w61 ⟨rfl, b61⟩; have yx5 : Box w61 (w.heap.size + 1) 25 #[.int .i64 n0, .int .i64 n1, .int .i64 n2] := (by first | exact (yx5).later b61 | exact (yx5.alloc _).later b61 | exact ((yx5.alloc _).alloc _).later b61); have kyx5 := yx5.cells; have nex51 := Nat.ne_of_gt yx5.lt; have nfx51 := Nat.ne_of_gt (Nat.lt_succ_of_lt yx5.lt); have cb : Below W1.heap.size W1 w61 := (by first | exact cb.trans (b61.mono cb.size) | exact cb.trans ((below_up b61).mono cb.size) | exact cb.trans ((below_up (below_up b61)).mono cb.size)); (first | (have zl1a := z1.lt; have zl1b := z2.lt; have z1 := z1.later b61; have z2 := z2.later b61; have kz1 := z1.cells; have fz1 := z1.free; have lz1 := z1.lt; have kz2 := z2.cells; have fz2 := z2.free; have lz2 := z2.lt) | (have zl1a := z1.lt; have z1 := z1.later b61; have kz1 := z1.cells; have fz1 := z1.free; have lz1 := z1.lt) | (have zne := Nat.ne_of_lt z1.lt; have zl1b := (z1.alloc (.cells #[.int .i64 n1] 3)).lt; have z1 := (z1.alloc _).later b61; have z2 := (Box.new w60 3 #[.int .i64 n1]); have zl1a := z2.lt; have z2 := z2.later b61; have kz1 := z1.cells; have fz1 := z1.free; have lz1 := z1.lt; have kz2 := z2.cells; have fz2 := z2.free; have lz2 := z2.lt) | (have z1 := ((Box.new w60 3 #[.int .i64 n1]).alloc (.cells #[.int .i64 n1] 3)); have z2 := (Box.new' (w := w60.alloc (.cells #[.int .i64 n1] 3)) (g := w60.heap.size + 1) (t := 3) (cs := #[.int .i64 n1]) (by simp)); have zl1a := z1.lt; have zl1b := z2.lt; have zne := Nat.ne_of_lt (Nat.lt_succ_self w60.heap.size); have z1 := z1.later b61; have z2 := z2.later b61; have kz1 := z1.cells; have fz1 := z1.free; have lz1 := z1.lt; have kz2 := z2.cells; have fz2 := z2.free; have lz2 := z2.lt) | (have z1 := (Box.new w60 3 #[.int .i64 n1]); have zl1a := z1.lt; have z1 := z1.later b61; have kz1 := z1.cells; have fz1 := z1.free; have lz1 := z1.lt) | skip); (first | replace rm := (rm).below b61 (Nat.le_refl _) | replace rm := (rm.alloc _).below b61 (Nat.le_refl _) | replace rm := ((rm.alloc _).alloc _).below b61 (Nat.le_refl _))))
    all_goals (go_wp2_with fail; go_meet)
    all_goals exact ⟨rfl, rfl, cb⟩
  case rest =>
    obtain ⟨rfl, rfl, bc⟩ := hcut
    obtain ⟨W2, rfl⟩ : ∃ w0 : World, w0 = wc := ⟨_, rfl⟩
    have rm2 := rm.below bc (Nat.le_refl _)
    replace x4 := x4.later bc
    replace x5 := x5.later bc
    have B2 := B1.trans (bc.mono B1.size)
    clear bc B1 rm r1
    go_upto_region 7 with fail
    have kx4 := x4.cells
    have kx5 := x5.cells
    refine wp_region_noPanic ?_
    refine wp_region_held_drew (S := (fun w' => w'.cell? ⟨w.heap.size, 0, none⟩ = some (.int .i64 a) ∧ w'.cell? ⟨w.heap.size, 1, none⟩ = some (.int .i64 b) ∧ w'.cell? ⟨w.heap.size + 1, 0, none⟩ = some (.int .i64 n0) ∧ w'.cell? ⟨w.heap.size + 1, 1, none⟩ = some (.int .i64 n1) ∧ w'.cell? ⟨w.heap.size + 1, 2, none⟩ = some (.int .i64 n2))) (by kernel_rfl) ?_ (fun hHeld => ?_)
    · go_keep
    refine wpAnyH_take (i := 0) (v := ?v0) rfl (by kernel_rfl) (by kernel_rfl) (by kernel_rfl) (fun _ _ _ h => h) (Or.inl ⟨by kernel_rfl, ?hy0⟩) (by assumption) ?rest0
    case hy0 => (intro w hSw; (try dsimp only at hSw); go_simp; (try with_reducible rfl))
    try simp only [Act.put]
    refine wpAnyH_take (i := 1) (v := ?v1) rfl (by kernel_rfl) (by kernel_rfl) (by kernel_rfl) (fun _ _ _ h => h) (Or.inl ⟨by kernel_rfl, ?hy1⟩) (by assumption) ?rest1
    case hy1 => (intro w hSw; (try dsimp only at hSw); go_simp; (try with_reducible rfl))
    try simp only [Act.put]
    refine wpAnyH_take (i := 2) (v := ?v2) rfl (by kernel_rfl) (by kernel_rfl) (by kernel_rfl) (fun _ _ _ h => h) (Or.inl ⟨by kernel_rfl, ?hy2⟩) (by assumption) ?rest2
    case hy2 => (intro w hSw; (try dsimp only at hSw); go_simp; (try with_reducible rfl))
    try simp only [Act.put]
    refine wpAnyH_take (i := 3) (v := undef) rfl (by kernel_rfl) (by kernel_rfl) (by kernel_rfl) (fun _ _ _ h => h) (Or.inr ⟨by kernel_rfl, rfl⟩) (by assumption) ?_
    try simp only [Act.put]
    refine wpAnyH_take (i := 4) (v := undef) rfl (by kernel_rfl) (by kernel_rfl) (by kernel_rfl) (fun _ _ _ h => h) (Or.inr ⟨by kernel_rfl, rfl⟩) (by assumption) ?_
    try simp only [Act.put]
    refine wpAnyH_take (i := 5) (v := undef) rfl (by kernel_rfl) (by kernel_rfl) (by kernel_rfl) (fun _ _ _ h => h) (Or.inr ⟨by kernel_rfl, rfl⟩) (by assumption) ?_
    try simp only [Act.put]
    refine wpAnyH_take (i := 6) (v := undef) rfl (by kernel_rfl) (by kernel_rfl) (by kernel_rfl) (fun _ _ _ h => h) (Or.inr ⟨by kernel_rfl, rfl⟩) (by assumption) ?_
    try simp only [Act.put]
    refine wpAnyH_take (i := 7) (v := undef) rfl (by kernel_rfl) (by kernel_rfl) (by kernel_rfl) (fun _ _ _ h => h) (Or.inr ⟨by kernel_rfl, rfl⟩) (by assumption) ?_
    try simp only [Act.put]
    refine wpAnyH_take (i := 8) (v := undef) rfl (by kernel_rfl) (by kernel_rfl) (by kernel_rfl) (fun _ _ _ h => h) (Or.inr ⟨by kernel_rfl, rfl⟩) (by assumption) ?_
    try simp only [Act.put]
    refine wpAnyH_take (i := 9) (v := undef) rfl (by kernel_rfl) (by kernel_rfl) (by kernel_rfl) (fun _ _ _ h => h) (Or.inr ⟨by kernel_rfl, rfl⟩) (by assumption) ?_
    try simp only [Act.put]
    refine wpAnyH_take (i := 10) (v := undef) rfl (by kernel_rfl) (by kernel_rfl) (by kernel_rfl) (fun _ _ _ h => h) (Or.inr ⟨by kernel_rfl, rfl⟩) (by assumption) ?_
    try simp only [Act.put]
    refine wpAnyH_take (i := 11) (v := undef) rfl (by kernel_rfl) (by kernel_rfl) (by kernel_rfl) (fun _ _ _ h => h) (Or.inr ⟨by kernel_rfl, rfl⟩) (by assumption) ?_
    try simp only [Act.put]
    refine wpAnyH_take (i := 12) (v := undef) rfl (by kernel_rfl) (by kernel_rfl) (by kernel_rfl) (fun _ _ _ h => h) (Or.inr ⟨by kernel_rfl, rfl⟩) (by assumption) ?_
    try simp only [Act.put]
    refine wpAnyH_take (i := 13) (v := undef) rfl (by kernel_rfl) (by kernel_rfl) (by kernel_rfl) (fun _ _ _ h => h) (Or.inr ⟨by kernel_rfl, rfl⟩) (by assumption) ?_
    try simp only [Act.put]
    refine wpAnyH_take (i := 14) (v := undef) rfl (by kernel_rfl) (by kernel_rfl) (by kernel_rfl) (fun _ _ _ h => h) (Or.inr ⟨by kernel_rfl, rfl⟩) (by assumption) ?_
    try simp only [Act.put]
    refine wpAnyH_take (i := 15) (v := ?v15) rfl (by kernel_rfl) (by kernel_rfl) (by kernel_rfl) (fun _ _ _ h => h) (Or.inl ⟨by kernel_rfl, ?hy15⟩) (by assumption) ?rest15
    case hy15 => (intro w hSw; (try dsimp only at hSw); go_simp; (try with_reducible rfl))
    try simp only [Act.put]
    refine wpAnyH_take (i := 16) (v := ?v16) rfl (by kernel_rfl) (by kernel_rfl) (by kernel_rfl) (fun _ _ _ h => h) (Or.inl ⟨by kernel_rfl, ?hy16⟩) (by assumption) ?rest16
    case hy16 => (intro w hSw; (try dsimp only at hSw); go_simp; (try with_reducible rfl))
    try simp only [Act.put]
    refine wpAnyH_take (i := 17) (v := ?v17) rfl (by kernel_rfl) (by kernel_rfl) (by kernel_rfl) (fun _ _ _ h => h) (Or.inl ⟨by kernel_rfl, ?hy17⟩) (by assumption) ?rest17
    case hy17 => (intro w hSw; (try dsimp only at hSw); go_simp; (try with_reducible rfl))
    try simp only [Act.put]
    refine wpAnyH_take (i := 18) (v := ?v18) rfl (by kernel_rfl) (by kernel_rfl) (by kernel_rfl) (fun _ _ _ h => h) (Or.inl ⟨by kernel_rfl, ?hy18⟩) (by assumption) ?rest18
    case hy18 => (intro w hSw; (try dsimp only at hSw); go_simp; (try with_reducible rfl))
    try simp only [Act.put]
    refine wpAnyH_take (i := 19) (v := ?v19) rfl (by kernel_rfl) (by kernel_rfl) (by kernel_rfl) (fun _ _ _ h => h) (Or.inl ⟨by kernel_rfl, ?hy19⟩) (by assumption) ?rest19
    case hy19 => (intro w hSw; (try dsimp only at hSw); go_simp; (try with_reducible rfl))
    try simp only [Act.put]
    refine wpAnyH_take (i := 20) (v := ?v20) rfl (by kernel_rfl) (by kernel_rfl) (by kernel_rfl) (fun _ _ _ h => h) (Or.inl ⟨by kernel_rfl, ?hy20⟩) (by assumption) ?rest20
    case hy20 => (intro w hSw; (try dsimp only at hSw); go_simp; (try with_reducible rfl))
    try simp only [Act.put]
    refine wpAnyH_take (i := 22) (v := ?v22) rfl (by kernel_rfl) (by kernel_rfl) (by kernel_rfl) (fun _ _ _ h => h) (Or.inl ⟨by kernel_rfl, ?hy22⟩) (by assumption) ?rest22
    case hy22 => (intro w hSw; (try dsimp only at hSw); go_simp; (try with_reducible rfl))
    try simp only [Act.put]
    refine wpAnyH_take (i := 23) (v := ?v23) rfl (by kernel_rfl) (by kernel_rfl) (by kernel_rfl) (fun _ _ _ h => h) (Or.inl ⟨by kernel_rfl, ?hy23⟩) (by assumption) ?rest23
    case hy23 => (intro w hSw; (try dsimp only at hSw); go_simp; (try with_reducible rfl))
    try simp only [Act.put]
    clear kx4 kx5
    refine wpAnyH_ready (rs := [21]) (by kernel_rfl) (by simp) ?_
    refine AllReadyH.cons rfl (fun K hK => ?_) AllReadyH.nil
    rw [if_pos (by kernel_rfl)]
    go_simp
    refine (LA.out _ _ _ rm2.drew).mono ?_
    rintro e w80 ⟨rfl, b80⟩
    have y4 := x4.drew.later b80
    have y5 := x5.drew.later b80
    have k4 := y4.cells
    have k5 := y5.cells
    have cb := below_undrew b80
    go_wp2_with fail
    refine hK.out _ _ (by go_keep) (fun hHeld => ?_)
    clear hK K
    try simp only [Act.put]
    refine wpAnyH_take (i := 24) (v := ?v24) rfl (by kernel_rfl) (by kernel_rfl) (by kernel_rfl) (fun _ _ _ h => h) (Or.inl ⟨by kernel_rfl, ?hy24⟩) (by assumption) ?rest24
    case hy24 => (intro w hSw; (try dsimp only at hSw); go_simp; (try with_reducible rfl))
    try simp only [Act.put]
    refine wpAnyH_take (i := 25) (v := ?v25) rfl (by kernel_rfl) (by kernel_rfl) (by kernel_rfl) (fun _ _ _ h => h) (Or.inl ⟨by kernel_rfl, ?hy25⟩) (by assumption) ?rest25
    case hy25 => (intro w hSw; (try dsimp only at hSw); go_simp; (try with_reducible rfl))
    try simp only [Act.put]
    refine wpAnyH_take (i := 26) (v := ?v26) rfl (by kernel_rfl) (by kernel_rfl) (by kernel_rfl) (fun _ _ _ h => h) (Or.inl ⟨by kernel_rfl, ?hy26⟩) (by assumption) ?rest26
    case hy26 => (intro w hSw; (try dsimp only at hSw); go_simp; (try with_reducible rfl))
    try simp only [Act.put]
    refine wpAnyH_ready (rs := [27]) (by kernel_rfl) (by simp) ?_
    refine AllReadyH.cons rfl (fun K hK => ?_) AllReadyH.nil
    rw [if_pos (by kernel_rfl)]
    go_simp
    refine (W.out _).mono ?_
    rintro e w81 ⟨rfl, b81⟩
    have k4 := (y4.later b81).cells
    have k5 := (y5.later b81).cells
    have cb := cb.trans (b81.mono cb.size)
    go_wp2_with fail
    refine hK.out _ _ (by go_keep) (fun hHeld => ?_)
    clear hK K
    try simp only [Act.put]
    refine wpAnyH_ready (rs := [28]) (by kernel_rfl) (by simp) ?_
    refine AllReadyH.cons rfl (fun K hK => ?_) AllReadyH.nil
    rw [if_pos (by kernel_rfl)]
    go_simp
    refine hK.out _ _ hHeld (fun hHeld => ?_)
    clear hK K
    try simp only [Act.put]
    refine wpAnyH_ready (rs := [29]) (by kernel_rfl) (by simp) ?_
    refine AllReadyH.cons rfl (fun K hK => ?_) AllReadyH.nil
    rw [if_pos (by kernel_rfl)]
    go_simp
    refine hK.out _ _ hHeld (fun hHeld => ?_)
    clear hK K
    try simp only [Act.put]
    refine wpAnyH_done (by kernel_rfl) ?_ _
    refine NoPanic.normal ?_
    go_wp2
    go_ret
    exact ⟨rfl, B2.trans (cb.mono B2.size)⟩

set_option maxRecDepth 100000 in
set_option maxHeartbeats 4000000 in
theorem stays_yy (A : Option Addr) (cap : Nat) (l : List (Int × Int)) (a b n0 n1 n2 : Int) (w : World) (hl : l.length ≤ 100) (hr : RowL w A l) (hq : addL l a b n0 = (l ++ [(a, b)], 0)) (hL : lastI (l ++ [(a, b)]) a = b) (h1 : lockB l n2 n1 = false) (h2 : lockB (l ++ [(a, b)]) n2 n1 = true) (h3 : n1 = a) (h4 : n2 ≤ b) :
    Calls Try.prog 3 #[.slice A l.length cap, .agg #[.int .i64 a, .int .i64 b], .agg #[.int .i64 n0, .int .i64 n1, .int .i64 n2]] w fun e w' => e = .returned (.bool true) ∧ Below w.heap.size w w' := by
  have W := Lib.hid fun w => awake_any w
  have D := Lib.hid fun w (h : RowL w A l) => add_any (cap := cap) (a := a) (b := b) (n := n0) (by omega : l.length ≤ 1000000) h
  have hlen : (l ++ [(a, b)]).length = l.length + 1 := by simp
  have Q1 := Lib.hid fun w A' (h : RowL w A l) (h' : RowAt w A' (ivals [n1])) => locked_any (c := cap) (c' := 1) (es := [n1]) (p := n2) (by omega : l.length ≤ 1000000) (by simp) h h'
  have Q2 := Lib.hid fun w A1 c1 A' (h : RowL w A1 (l ++ [(a, b)])) (h' : RowAt w A' (ivals [n1])) => locked_any (c := c1) (c' := 1) (es := [n1]) (p := n2) (by omega : (l ++ [(a, b)]).length ≤ 1000000) (by simp) h h'
  have LA := Lib.hid fun w A1 c1 (h : RowL w A1 (l ++ [(a, b)])) => last_any (c := c1) (e := a) (by omega : (l ++ [(a, b)]).length ≤ 1000000) h
  rw [hq] at D
  rw [anyB_one, h1] at Q1
  rw [anyB_one, h2] at Q2
  rw [hL] at LA
  unfold PairRow at D
  simp only [hlen] at D Q2 LA
  simp only [List.length_cons, List.length_nil, Nat.zero_add] at Q1 Q2
  generalize hm : l ++ [(a, b)] = m at *
  have g1 : (n1 == a) = true := by simpa using h3
  have g2 : decide (n2 ≤ b) = true := decide_eq_true h4
  clear hq hL h1 h2 hm hlen h3 h4
  go_enter Try.func3, Try.ntmps3
  obtain ⟨W0, hW0⟩ : ∃ W0, W0 = (w.alloc (.cells #[.int .i64 a, .int .i64 b] 24)).alloc (.cells #[.int .i64 n0, .int .i64 n1, .int .i64 n2] 25) := ⟨_, rfl⟩
  have x4 : Box W0 w.heap.size 24 #[.int .i64 a, .int .i64 b] := by rw [hW0]; exact (Box.new _ _ _).alloc _
  have x5 : Box W0 (w.heap.size + 1) 25 #[.int .i64 n0, .int .i64 n1, .int .i64 n2] := by rw [hW0]; exact Box.new' (by simp)
  have B0 : Below w.heap.size w W0 := by rw [hW0]; exact ((Below.refl _ _).alloc (Nat.le_refl _) _).alloc (by simp) _
  have r0 : RowL W0 A l := by rw [hW0]; exact (hr.alloc _).alloc _
  clear hr
  go_wp2_with fail
  rewrite [← hW0]
  clear hW0
  refine (D.out _ r0).mono ?_
  rintro e W1 ⟨A1, c1, rfl, rm, b1⟩
  have r1 := r0.below b1 (Nat.le_refl _)
  replace x4 := x4.later b1
  replace x5 := x5.later b1
  have B1 := B0.trans (b1.mono B0.size)
  clear b1 B0 r0
  go_upto_region 6 with fail
  go_cut [9, 10] from 31 to 44 (fun s9 s10 wx => StayCut false true W1 s9 s10 wx)
  case first =>
    have kkx5 := x5.cells
    have nex5 := Nat.ne_of_gt x5.lt
    have nfx5 := Nat.ne_of_gt (Nat.lt_succ_of_lt x5.lt)
    first | go_region_held3 (fun w' => w'.cell? ⟨w.heap.size + 1, 0, none⟩ = some (.int .i64 n0) ∧ w'.cell? ⟨w.heap.size + 1, 1, none⟩ = some (.int .i64 n1) ∧ w'.cell? ⟨w.heap.size + 1, 2, none⟩ = some (.int .i64 n2)) (go_keep)
      (first
        | (go_at_call 6; (with_reducible refine (Q1.out _ _ ?_ ?_).mono ?_); (first | exact (r1.alloc _).drew | exact ((r1.alloc _).alloc _).drew); (first | exact RowAt.of_box (Box.new W1 3 #[.int .i64 n1]).drew | exact RowAt.of_box ((Box.new W1 3 #[.int .i64 n1]).alloc (.cells #[.int .i64 n1] 3)).drew | exact RowAt.of_box (two_new W1 3 #[.int .i64 n1]).drew); rintro e w60 ⟨rfl, b60⟩; have yx5 : Box w60 (w.heap.size + 1) 25 #[.int .i64 n0, .int .i64 n1, .int .i64 n2] := (by first | exact (x5).drew.later b60 | exact (x5.alloc _).drew.later b60 | exact ((x5.alloc _).alloc _).drew.later b60); have kyx5 := yx5.cells; have nex50 := Nat.ne_of_gt yx5.lt; have nfx50 := Nat.ne_of_gt (Nat.lt_succ_of_lt yx5.lt); have cb : Below W1.heap.size W1 w60 := (by first | exact (below_undrew b60) | exact (below_up (below_undrew b60)) | exact (below_up (below_up (below_undrew b60)))); (first | (have zl0a := z1.lt; have zl0b := z2.lt; have z1 := z1.later b60; have z2 := z2.later b60; have kz1 := z1.cells; have fz1 := z1.free; have lz1 := z1.lt; have kz2 := z2.cells; have fz2 := z2.free; have lz2 := z2.lt) | (have zl0a := z1.lt; have z1 := z1.later b60; have kz1 := z1.cells; have fz1 := z1.free; have lz1 := z1.lt) | (have zne := Nat.ne_of_lt z1.lt; have zl0b := (z1.alloc (.cells #[.int .i64 n1] 3)).lt; have z1 := (z1.alloc _).drew.later b60; have z2 := (Box.new W1 3 #[.int .i64 n1]).drew; have zl0a := z2.lt; have z2 := z2.later b60; have kz1 := z1.cells; have fz1 := z1.free; have lz1 := z1.lt; have kz2 := z2.cells; have fz2 := z2.free; have lz2 := z2.lt) | (have z1 := ((Box.new W1 3 #[.int .i64 n1]).alloc (.cells #[.int .i64 n1] 3)).drew; have z2 := (Box.new' (w := W1.alloc (.cells #[.int .i64 n1] 3)) (g := W1.heap.size + 1) (t := 3) (cs := #[.int .i64 n1]) (by simp)).drew; have zl0a := z1.lt; have zl0b := z2.lt; have zne := Nat.ne_of_lt (Nat.lt_succ_self W1.heap.size); have z1 := z1.later b60; have z2 := z2.later b60; have kz1 := z1.cells; have fz1 := z1.free; have lz1 := z1.lt; have kz2 := z2.cells; have fz2 := z2.free; have lz2 := z2.lt) | (have z1 := (Box.new W1 3 #[.int .i64 n1]).drew; have zl0a := z1.lt; have z1 := z1.later b60; have kz1 := z1.cells; have fz1 := z1.free; have lz1 := z1.lt) | skip); (first | replace rm := (rm).drew.below b60 (Nat.le_refl _) | replace rm := (rm.alloc _).drew.below b60 (Nat.le_refl _) | replace rm := ((rm.alloc _).alloc _).drew.below b60 (Nat.le_refl _)))
        | (go_at_call 6; (with_reducible refine (Q2.out _ _ _ _ ?_ ?_).mono ?_); (first | exact rm | exact rm.alloc _); (first | exact RowAt.of_box z1 | exact RowAt.of_box z2 | exact RowAt.of_box (Box.new w60 3 #[.int .i64 n1])); rintro e w61 ⟨rfl, b61⟩; have yx5 : Box w61 (w.heap.size + 1) 25 #[.int .i64 n0, .int .i64 n1, .int .i64 n2] := (by first | exact (yx5).later b61 | exact (yx5.alloc _).later b61 | exact ((yx5.alloc _).alloc _).later b61); have kyx5 := yx5.cells; have nex51 := Nat.ne_of_gt yx5.lt; have nfx51 := Nat.ne_of_gt (Nat.lt_succ_of_lt yx5.lt); have cb : Below W1.heap.size W1 w61 := (by first | exact cb.trans (b61.mono cb.size) | exact cb.trans ((below_up b61).mono cb.size) | exact cb.trans ((below_up (below_up b61)).mono cb.size)); (first | (have zl1a := z1.lt; have zl1b := z2.lt; have z1 := z1.later b61; have z2 := z2.later b61; have kz1 := z1.cells; have fz1 := z1.free; have lz1 := z1.lt; have kz2 := z2.cells; have fz2 := z2.free; have lz2 := z2.lt) | (have zl1a := z1.lt; have z1 := z1.later b61; have kz1 := z1.cells; have fz1 := z1.free; have lz1 := z1.lt) | (have zne := Nat.ne_of_lt z1.lt; have zl1b := (z1.alloc (.cells #[.int .i64 n1] 3)).lt; have z1 := (z1.alloc _).later b61; have z2 := (Box.new w60 3 #[.int .i64 n1]); have zl1a := z2.lt; have z2 := z2.later b61; have kz1 := z1.cells; have fz1 := z1.free; have lz1 := z1.lt; have kz2 := z2.cells; have fz2 := z2.free; have lz2 := z2.lt) | (have z1 := ((Box.new w60 3 #[.int .i64 n1]).alloc (.cells #[.int .i64 n1] 3)); have z2 := (Box.new' (w := w60.alloc (.cells #[.int .i64 n1] 3)) (g := w60.heap.size + 1) (t := 3) (cs := #[.int .i64 n1]) (by simp)); have zl1a := z1.lt; have zl1b := z2.lt; have zne := Nat.ne_of_lt (Nat.lt_succ_self w60.heap.size); have z1 := z1.later b61; have z2 := z2.later b61; have kz1 := z1.cells; have fz1 := z1.free; have lz1 := z1.lt; have kz2 := z2.cells; have fz2 := z2.free; have lz2 := z2.lt) | (have z1 := (Box.new w60 3 #[.int .i64 n1]); have zl1a := z1.lt; have z1 := z1.later b61; have kz1 := z1.cells; have fz1 := z1.free; have lz1 := z1.lt) | skip); (first | replace rm := (rm).below b61 (Nat.le_refl _) | replace rm := (rm.alloc _).below b61 (Nat.le_refl _) | replace rm := ((rm.alloc _).alloc _).below b61 (Nat.le_refl _))))
    all_goals (go_wp2_with fail; go_meet)
    all_goals exact ⟨rfl, rfl, cb⟩
  case rest =>
    obtain ⟨rfl, rfl, bc⟩ := hcut
    obtain ⟨W2, rfl⟩ : ∃ w0 : World, w0 = wc := ⟨_, rfl⟩
    have rm2 := rm.below bc (Nat.le_refl _)
    replace x4 := x4.later bc
    replace x5 := x5.later bc
    have B2 := B1.trans (bc.mono B1.size)
    clear bc B1 rm r1
    go_upto_region 7 with fail
    have kkx4 := x4.cells
    have kkx5 := x5.cells
    first | go_region_held3 (fun w' => w'.cell? ⟨w.heap.size, 0, none⟩ = some (.int .i64 a) ∧ w'.cell? ⟨w.heap.size, 1, none⟩ = some (.int .i64 b) ∧ w'.cell? ⟨w.heap.size + 1, 0, none⟩ = some (.int .i64 n0) ∧ w'.cell? ⟨w.heap.size + 1, 1, none⟩ = some (.int .i64 n1) ∧ w'.cell? ⟨w.heap.size + 1, 2, none⟩ = some (.int .i64 n2)) (go_keep)
      (first
        | (go_at_call 7; (with_reducible refine (LA.out _ _ _ rm2.drew).mono ?_); rintro e w80 ⟨rfl, b80⟩; have yx4 : Box w80 (w.heap.size) 24 #[.int .i64 a, .int .i64 b] := (by first | exact (x4).drew.later b80); have kyx4 := yx4.cells; have yx5 : Box w80 (w.heap.size + 1) 25 #[.int .i64 n0, .int .i64 n1, .int .i64 n2] := (by first | exact (x5).drew.later b80); have kyx5 := yx5.cells; have cb : Below W2.heap.size W2 w80 := (by first | exact (below_undrew b80)))
        | (go_at_call 4; (with_reducible refine (W.out _).mono ?_); rintro e w81 ⟨rfl, b81⟩; have yx4 : Box w81 (w.heap.size) 24 #[.int .i64 a, .int .i64 b] := (by first | exact (yx4).later b81); have kyx4 := yx4.cells; have yx5 : Box w81 (w.heap.size + 1) 25 #[.int .i64 n0, .int .i64 n1, .int .i64 n2] := (by first | exact (yx5).later b81); have kyx5 := yx5.cells; have cb : Below W2.heap.size W2 w81 := (by first | exact cb.trans (b81.mono cb.size))))
    go_wp2
    go_ret
    exact ⟨rfl, B2.trans (cb.mono B2.size)⟩

set_option maxRecDepth 100000 in
set_option maxHeartbeats 4000000 in
theorem stays_yn (A : Option Addr) (cap : Nat) (l : List (Int × Int)) (a b n0 n1 n2 : Int) (w : World) (hl : l.length ≤ 100) (hr : RowL w A l) (hq : addL l a b n0 = (l ++ [(a, b)], 0)) (hL : lastI (l ++ [(a, b)]) a = b) (h1 : lockB l n2 n1 = false) (h2 : lockB (l ++ [(a, b)]) n2 n1 = false) (h3 : n1 = a) (h4 : ¬ n2 ≤ b) :
    Calls Try.prog 3 #[.slice A l.length cap, .agg #[.int .i64 a, .int .i64 b], .agg #[.int .i64 n0, .int .i64 n1, .int .i64 n2]] w fun e w' => e = .returned (.bool true) ∧ Below w.heap.size w w' := by
  have W := Lib.hid fun w => awake_any w
  have D := Lib.hid fun w (h : RowL w A l) => add_any (cap := cap) (a := a) (b := b) (n := n0) (by omega : l.length ≤ 1000000) h
  have hlen : (l ++ [(a, b)]).length = l.length + 1 := by simp
  have Q1 := Lib.hid fun w A' (h : RowL w A l) (h' : RowAt w A' (ivals [n1])) => locked_any (c := cap) (c' := 1) (es := [n1]) (p := n2) (by omega : l.length ≤ 1000000) (by simp) h h'
  have Q2 := Lib.hid fun w A1 c1 A' (h : RowL w A1 (l ++ [(a, b)])) (h' : RowAt w A' (ivals [n1])) => locked_any (c := c1) (c' := 1) (es := [n1]) (p := n2) (by omega : (l ++ [(a, b)]).length ≤ 1000000) (by simp) h h'
  have LA := Lib.hid fun w A1 c1 (h : RowL w A1 (l ++ [(a, b)])) => last_any (c := c1) (e := a) (by omega : (l ++ [(a, b)]).length ≤ 1000000) h
  rw [hq] at D
  rw [anyB_one, h1] at Q1
  rw [anyB_one, h2] at Q2
  rw [hL] at LA
  unfold PairRow at D
  simp only [hlen] at D Q2 LA
  simp only [List.length_cons, List.length_nil, Nat.zero_add] at Q1 Q2
  generalize hm : l ++ [(a, b)] = m at *
  have g1 : (n1 == a) = true := by simpa using h3
  have g2 : decide (n2 ≤ b) = false := decide_eq_false h4
  clear hq hL h1 h2 hm hlen h3 h4
  go_enter Try.func3, Try.ntmps3
  obtain ⟨W0, hW0⟩ : ∃ W0, W0 = (w.alloc (.cells #[.int .i64 a, .int .i64 b] 24)).alloc (.cells #[.int .i64 n0, .int .i64 n1, .int .i64 n2] 25) := ⟨_, rfl⟩
  have x4 : Box W0 w.heap.size 24 #[.int .i64 a, .int .i64 b] := by rw [hW0]; exact (Box.new _ _ _).alloc _
  have x5 : Box W0 (w.heap.size + 1) 25 #[.int .i64 n0, .int .i64 n1, .int .i64 n2] := by rw [hW0]; exact Box.new' (by simp)
  have B0 : Below w.heap.size w W0 := by rw [hW0]; exact ((Below.refl _ _).alloc (Nat.le_refl _) _).alloc (by simp) _
  have r0 : RowL W0 A l := by rw [hW0]; exact (hr.alloc _).alloc _
  clear hr
  go_wp2_with fail
  rewrite [← hW0]
  clear hW0
  refine (D.out _ r0).mono ?_
  rintro e W1 ⟨A1, c1, rfl, rm, b1⟩
  have r1 := r0.below b1 (Nat.le_refl _)
  replace x4 := x4.later b1
  replace x5 := x5.later b1
  have B1 := B0.trans (b1.mono B0.size)
  clear b1 B0 r0
  go_upto_region 6 with fail
  go_cut [9, 10] from 31 to 44 (fun s9 s10 wx => StayCut false false W1 s9 s10 wx)
  case first =>
    have kkx5 := x5.cells
    have nex5 := Nat.ne_of_gt x5.lt
    have nfx5 := Nat.ne_of_gt (Nat.lt_succ_of_lt x5.lt)
    first | go_region_held3 (fun w' => w'.cell? ⟨w.heap.size + 1, 0, none⟩ = some (.int .i64 n0) ∧ w'.cell? ⟨w.heap.size + 1, 1, none⟩ = some (.int .i64 n1) ∧ w'.cell? ⟨w.heap.size + 1, 2, none⟩ = some (.int .i64 n2)) (go_keep)
      (first
        | (go_at_call 6; (with_reducible refine (Q1.out _ _ ?_ ?_).mono ?_); (first | exact (r1.alloc _).drew | exact ((r1.alloc _).alloc _).drew); (first | exact RowAt.of_box (Box.new W1 3 #[.int .i64 n1]).drew | exact RowAt.of_box ((Box.new W1 3 #[.int .i64 n1]).alloc (.cells #[.int .i64 n1] 3)).drew | exact RowAt.of_box (two_new W1 3 #[.int .i64 n1]).drew); rintro e w60 ⟨rfl, b60⟩; have yx5 : Box w60 (w.heap.size + 1) 25 #[.int .i64 n0, .int .i64 n1, .int .i64 n2] := (by first | exact (x5).drew.later b60 | exact (x5.alloc _).drew.later b60 | exact ((x5.alloc _).alloc _).drew.later b60); have kyx5 := yx5.cells; have nex50 := Nat.ne_of_gt yx5.lt; have nfx50 := Nat.ne_of_gt (Nat.lt_succ_of_lt yx5.lt); have cb : Below W1.heap.size W1 w60 := (by first | exact (below_undrew b60) | exact (below_up (below_undrew b60)) | exact (below_up (below_up (below_undrew b60)))); (first | (have zl0a := z1.lt; have zl0b := z2.lt; have z1 := z1.later b60; have z2 := z2.later b60; have kz1 := z1.cells; have fz1 := z1.free; have lz1 := z1.lt; have kz2 := z2.cells; have fz2 := z2.free; have lz2 := z2.lt) | (have zl0a := z1.lt; have z1 := z1.later b60; have kz1 := z1.cells; have fz1 := z1.free; have lz1 := z1.lt) | (have zne := Nat.ne_of_lt z1.lt; have zl0b := (z1.alloc (.cells #[.int .i64 n1] 3)).lt; have z1 := (z1.alloc _).drew.later b60; have z2 := (Box.new W1 3 #[.int .i64 n1]).drew; have zl0a := z2.lt; have z2 := z2.later b60; have kz1 := z1.cells; have fz1 := z1.free; have lz1 := z1.lt; have kz2 := z2.cells; have fz2 := z2.free; have lz2 := z2.lt) | (have z1 := ((Box.new W1 3 #[.int .i64 n1]).alloc (.cells #[.int .i64 n1] 3)).drew; have z2 := (Box.new' (w := W1.alloc (.cells #[.int .i64 n1] 3)) (g := W1.heap.size + 1) (t := 3) (cs := #[.int .i64 n1]) (by simp)).drew; have zl0a := z1.lt; have zl0b := z2.lt; have zne := Nat.ne_of_lt (Nat.lt_succ_self W1.heap.size); have z1 := z1.later b60; have z2 := z2.later b60; have kz1 := z1.cells; have fz1 := z1.free; have lz1 := z1.lt; have kz2 := z2.cells; have fz2 := z2.free; have lz2 := z2.lt) | (have z1 := (Box.new W1 3 #[.int .i64 n1]).drew; have zl0a := z1.lt; have z1 := z1.later b60; have kz1 := z1.cells; have fz1 := z1.free; have lz1 := z1.lt) | skip); (first | replace rm := (rm).drew.below b60 (Nat.le_refl _) | replace rm := (rm.alloc _).drew.below b60 (Nat.le_refl _) | replace rm := ((rm.alloc _).alloc _).drew.below b60 (Nat.le_refl _)))
        | (go_at_call 6; (with_reducible refine (Q2.out _ _ _ _ ?_ ?_).mono ?_); (first | exact rm | exact rm.alloc _); (first | exact RowAt.of_box z1 | exact RowAt.of_box z2 | exact RowAt.of_box (Box.new w60 3 #[.int .i64 n1])); rintro e w61 ⟨rfl, b61⟩; have yx5 : Box w61 (w.heap.size + 1) 25 #[.int .i64 n0, .int .i64 n1, .int .i64 n2] := (by first | exact (yx5).later b61 | exact (yx5.alloc _).later b61 | exact ((yx5.alloc _).alloc _).later b61); have kyx5 := yx5.cells; have nex51 := Nat.ne_of_gt yx5.lt; have nfx51 := Nat.ne_of_gt (Nat.lt_succ_of_lt yx5.lt); have cb : Below W1.heap.size W1 w61 := (by first | exact cb.trans (b61.mono cb.size) | exact cb.trans ((below_up b61).mono cb.size) | exact cb.trans ((below_up (below_up b61)).mono cb.size)); (first | (have zl1a := z1.lt; have zl1b := z2.lt; have z1 := z1.later b61; have z2 := z2.later b61; have kz1 := z1.cells; have fz1 := z1.free; have lz1 := z1.lt; have kz2 := z2.cells; have fz2 := z2.free; have lz2 := z2.lt) | (have zl1a := z1.lt; have z1 := z1.later b61; have kz1 := z1.cells; have fz1 := z1.free; have lz1 := z1.lt) | (have zne := Nat.ne_of_lt z1.lt; have zl1b := (z1.alloc (.cells #[.int .i64 n1] 3)).lt; have z1 := (z1.alloc _).later b61; have z2 := (Box.new w60 3 #[.int .i64 n1]); have zl1a := z2.lt; have z2 := z2.later b61; have kz1 := z1.cells; have fz1 := z1.free; have lz1 := z1.lt; have kz2 := z2.cells; have fz2 := z2.free; have lz2 := z2.lt) | (have z1 := ((Box.new w60 3 #[.int .i64 n1]).alloc (.cells #[.int .i64 n1] 3)); have z2 := (Box.new' (w := w60.alloc (.cells #[.int .i64 n1] 3)) (g := w60.heap.size + 1) (t := 3) (cs := #[.int .i64 n1]) (by simp)); have zl1a := z1.lt; have zl1b := z2.lt; have zne := Nat.ne_of_lt (Nat.lt_succ_self w60.heap.size); have z1 := z1.later b61; have z2 := z2.later b61; have kz1 := z1.cells; have fz1 := z1.free; have lz1 := z1.lt; have kz2 := z2.cells; have fz2 := z2.free; have lz2 := z2.lt) | (have z1 := (Box.new w60 3 #[.int .i64 n1]); have zl1a := z1.lt; have z1 := z1.later b61; have kz1 := z1.cells; have fz1 := z1.free; have lz1 := z1.lt) | skip); (first | replace rm := (rm).below b61 (Nat.le_refl _) | replace rm := (rm.alloc _).below b61 (Nat.le_refl _) | replace rm := ((rm.alloc _).alloc _).below b61 (Nat.le_refl _))))
    all_goals (go_wp2_with fail; go_meet)
    all_goals exact ⟨rfl, rfl, cb⟩
  case rest =>
    obtain ⟨rfl, rfl, bc⟩ := hcut
    obtain ⟨W2, rfl⟩ : ∃ w0 : World, w0 = wc := ⟨_, rfl⟩
    have rm2 := rm.below bc (Nat.le_refl _)
    replace x4 := x4.later bc
    replace x5 := x5.later bc
    have B2 := B1.trans (bc.mono B1.size)
    clear bc B1 rm r1
    go_upto_region 7 with fail
    have kkx4 := x4.cells
    have kkx5 := x5.cells
    first | go_region_held3 (fun w' => w'.cell? ⟨w.heap.size, 0, none⟩ = some (.int .i64 a) ∧ w'.cell? ⟨w.heap.size, 1, none⟩ = some (.int .i64 b) ∧ w'.cell? ⟨w.heap.size + 1, 0, none⟩ = some (.int .i64 n0) ∧ w'.cell? ⟨w.heap.size + 1, 1, none⟩ = some (.int .i64 n1) ∧ w'.cell? ⟨w.heap.size + 1, 2, none⟩ = some (.int .i64 n2)) (go_keep)
      (first
        | (go_at_call 7; (with_reducible refine (LA.out _ _ _ rm2.drew).mono ?_); rintro e w80 ⟨rfl, b80⟩; have yx4 : Box w80 (w.heap.size) 24 #[.int .i64 a, .int .i64 b] := (by first | exact (x4).drew.later b80); have kyx4 := yx4.cells; have yx5 : Box w80 (w.heap.size + 1) 25 #[.int .i64 n0, .int .i64 n1, .int .i64 n2] := (by first | exact (x5).drew.later b80); have kyx5 := yx5.cells; have cb : Below W2.heap.size W2 w80 := (by first | exact (below_undrew b80)))
        | (go_at_call 4; (with_reducible refine (W.out _).mono ?_); rintro e w81 ⟨rfl, b81⟩; have yx4 : Box w81 (w.heap.size) 24 #[.int .i64 a, .int .i64 b] := (by first | exact (yx4).later b81); have kyx4 := yx4.cells; have yx5 : Box w81 (w.heap.size + 1) 25 #[.int .i64 n0, .int .i64 n1, .int .i64 n2] := (by first | exact (yx5).later b81); have kyx5 := yx5.cells; have cb : Below W2.heap.size W2 w81 := (by first | exact cb.trans (b81.mono cb.size))))
    go_wp2
    go_ret
    exact ⟨rfl, B2.trans (cb.mono B2.size)⟩

set_option maxRecDepth 100000 in
set_option maxHeartbeats 4000000 in
theorem stays_nn (A : Option Addr) (cap : Nat) (l : List (Int × Int)) (a b n0 n1 n2 : Int) (w : World) (hl : l.length ≤ 100) (hr : RowL w A l) (hq : addL l a b n0 = (l ++ [(a, b)], 0)) (hL : lastI (l ++ [(a, b)]) a = b) (h1 : lockB l n2 n1 = false) (h2 : lockB (l ++ [(a, b)]) n2 n1 = false) (h3 : n1 ≠ a) :
    Calls Try.prog 3 #[.slice A l.length cap, .agg #[.int .i64 a, .int .i64 b], .agg #[.int .i64 n0, .int .i64 n1, .int .i64 n2]] w fun e w' => e = .returned (.bool true) ∧ Below w.heap.size w w' := by
  have W := Lib.hid fun w => awake_any w
  have D := Lib.hid fun w (h : RowL w A l) => add_any (cap := cap) (a := a) (b := b) (n := n0) (by omega : l.length ≤ 1000000) h
  have hlen : (l ++ [(a, b)]).length = l.length + 1 := by simp
  have Q1 := Lib.hid fun w A' (h : RowL w A l) (h' : RowAt w A' (ivals [n1])) => locked_any (c := cap) (c' := 1) (es := [n1]) (p := n2) (by omega : l.length ≤ 1000000) (by simp) h h'
  have Q2 := Lib.hid fun w A1 c1 A' (h : RowL w A1 (l ++ [(a, b)])) (h' : RowAt w A' (ivals [n1])) => locked_any (c := c1) (c' := 1) (es := [n1]) (p := n2) (by omega : (l ++ [(a, b)]).length ≤ 1000000) (by simp) h h'
  have LA := Lib.hid fun w A1 c1 (h : RowL w A1 (l ++ [(a, b)])) => last_any (c := c1) (e := a) (by omega : (l ++ [(a, b)]).length ≤ 1000000) h
  rw [hq] at D
  rw [anyB_one, h1] at Q1
  rw [anyB_one, h2] at Q2
  rw [hL] at LA
  unfold PairRow at D
  simp only [hlen] at D Q2 LA
  simp only [List.length_cons, List.length_nil, Nat.zero_add] at Q1 Q2
  generalize hm : l ++ [(a, b)] = m at *
  have g1 : (n1 == a) = false := by simpa using h3
  clear hq hL h1 h2 hm hlen h3
  go_enter Try.func3, Try.ntmps3
  obtain ⟨W0, hW0⟩ : ∃ W0, W0 = (w.alloc (.cells #[.int .i64 a, .int .i64 b] 24)).alloc (.cells #[.int .i64 n0, .int .i64 n1, .int .i64 n2] 25) := ⟨_, rfl⟩
  have x4 : Box W0 w.heap.size 24 #[.int .i64 a, .int .i64 b] := by rw [hW0]; exact (Box.new _ _ _).alloc _
  have x5 : Box W0 (w.heap.size + 1) 25 #[.int .i64 n0, .int .i64 n1, .int .i64 n2] := by rw [hW0]; exact Box.new' (by simp)
  have B0 : Below w.heap.size w W0 := by rw [hW0]; exact ((Below.refl _ _).alloc (Nat.le_refl _) _).alloc (by simp) _
  have r0 : RowL W0 A l := by rw [hW0]; exact (hr.alloc _).alloc _
  clear hr
  go_wp2_with fail
  rewrite [← hW0]
  clear hW0
  refine (D.out _ r0).mono ?_
  rintro e W1 ⟨A1, c1, rfl, rm, b1⟩
  have r1 := r0.below b1 (Nat.le_refl _)
  replace x4 := x4.later b1
  replace x5 := x5.later b1
  have B1 := B0.trans (b1.mono B0.size)
  clear b1 B0 r0
  go_upto_region 6 with fail
  go_cut [9, 10] from 31 to 44 (fun s9 s10 wx => StayCut false false W1 s9 s10 wx)
  case first =>
    have kkx5 := x5.cells
    have nex5 := Nat.ne_of_gt x5.lt
    have nfx5 := Nat.ne_of_gt (Nat.lt_succ_of_lt x5.lt)
    first | go_region_held3 (fun w' => w'.cell? ⟨w.heap.size + 1, 0, none⟩ = some (.int .i64 n0) ∧ w'.cell? ⟨w.heap.size + 1, 1, none⟩ = some (.int .i64 n1) ∧ w'.cell? ⟨w.heap.size + 1, 2, none⟩ = some (.int .i64 n2)) (go_keep)
      (first
        | (go_at_call 6; (with_reducible refine (Q1.out _ _ ?_ ?_).mono ?_); (first | exact (r1.alloc _).drew | exact ((r1.alloc _).alloc _).drew); (first | exact RowAt.of_box (Box.new W1 3 #[.int .i64 n1]).drew | exact RowAt.of_box ((Box.new W1 3 #[.int .i64 n1]).alloc (.cells #[.int .i64 n1] 3)).drew | exact RowAt.of_box (two_new W1 3 #[.int .i64 n1]).drew); rintro e w60 ⟨rfl, b60⟩; have yx5 : Box w60 (w.heap.size + 1) 25 #[.int .i64 n0, .int .i64 n1, .int .i64 n2] := (by first | exact (x5).drew.later b60 | exact (x5.alloc _).drew.later b60 | exact ((x5.alloc _).alloc _).drew.later b60); have kyx5 := yx5.cells; have nex50 := Nat.ne_of_gt yx5.lt; have nfx50 := Nat.ne_of_gt (Nat.lt_succ_of_lt yx5.lt); have cb : Below W1.heap.size W1 w60 := (by first | exact (below_undrew b60) | exact (below_up (below_undrew b60)) | exact (below_up (below_up (below_undrew b60)))); (first | (have zl0a := z1.lt; have zl0b := z2.lt; have z1 := z1.later b60; have z2 := z2.later b60; have kz1 := z1.cells; have fz1 := z1.free; have lz1 := z1.lt; have kz2 := z2.cells; have fz2 := z2.free; have lz2 := z2.lt) | (have zl0a := z1.lt; have z1 := z1.later b60; have kz1 := z1.cells; have fz1 := z1.free; have lz1 := z1.lt) | (have zne := Nat.ne_of_lt z1.lt; have zl0b := (z1.alloc (.cells #[.int .i64 n1] 3)).lt; have z1 := (z1.alloc _).drew.later b60; have z2 := (Box.new W1 3 #[.int .i64 n1]).drew; have zl0a := z2.lt; have z2 := z2.later b60; have kz1 := z1.cells; have fz1 := z1.free; have lz1 := z1.lt; have kz2 := z2.cells; have fz2 := z2.free; have lz2 := z2.lt) | (have z1 := ((Box.new W1 3 #[.int .i64 n1]).alloc (.cells #[.int .i64 n1] 3)).drew; have z2 := (Box.new' (w := W1.alloc (.cells #[.int .i64 n1] 3)) (g := W1.heap.size + 1) (t := 3) (cs := #[.int .i64 n1]) (by simp)).drew; have zl0a := z1.lt; have zl0b := z2.lt; have zne := Nat.ne_of_lt (Nat.lt_succ_self W1.heap.size); have z1 := z1.later b60; have z2 := z2.later b60; have kz1 := z1.cells; have fz1 := z1.free; have lz1 := z1.lt; have kz2 := z2.cells; have fz2 := z2.free; have lz2 := z2.lt) | (have z1 := (Box.new W1 3 #[.int .i64 n1]).drew; have zl0a := z1.lt; have z1 := z1.later b60; have kz1 := z1.cells; have fz1 := z1.free; have lz1 := z1.lt) | skip); (first | replace rm := (rm).drew.below b60 (Nat.le_refl _) | replace rm := (rm.alloc _).drew.below b60 (Nat.le_refl _) | replace rm := ((rm.alloc _).alloc _).drew.below b60 (Nat.le_refl _)))
        | (go_at_call 6; (with_reducible refine (Q2.out _ _ _ _ ?_ ?_).mono ?_); (first | exact rm | exact rm.alloc _); (first | exact RowAt.of_box z1 | exact RowAt.of_box z2 | exact RowAt.of_box (Box.new w60 3 #[.int .i64 n1])); rintro e w61 ⟨rfl, b61⟩; have yx5 : Box w61 (w.heap.size + 1) 25 #[.int .i64 n0, .int .i64 n1, .int .i64 n2] := (by first | exact (yx5).later b61 | exact (yx5.alloc _).later b61 | exact ((yx5.alloc _).alloc _).later b61); have kyx5 := yx5.cells; have nex51 := Nat.ne_of_gt yx5.lt; have nfx51 := Nat.ne_of_gt (Nat.lt_succ_of_lt yx5.lt); have cb : Below W1.heap.size W1 w61 := (by first | exact cb.trans (b61.mono cb.size) | exact cb.trans ((below_up b61).mono cb.size) | exact cb.trans ((below_up (below_up b61)).mono cb.size)); (first | (have zl1a := z1.lt; have zl1b := z2.lt; have z1 := z1.later b61; have z2 := z2.later b61; have kz1 := z1.cells; have fz1 := z1.free; have lz1 := z1.lt; have kz2 := z2.cells; have fz2 := z2.free; have lz2 := z2.lt) | (have zl1a := z1.lt; have z1 := z1.later b61; have kz1 := z1.cells; have fz1 := z1.free; have lz1 := z1.lt) | (have zne := Nat.ne_of_lt z1.lt; have zl1b := (z1.alloc (.cells #[.int .i64 n1] 3)).lt; have z1 := (z1.alloc _).later b61; have z2 := (Box.new w60 3 #[.int .i64 n1]); have zl1a := z2.lt; have z2 := z2.later b61; have kz1 := z1.cells; have fz1 := z1.free; have lz1 := z1.lt; have kz2 := z2.cells; have fz2 := z2.free; have lz2 := z2.lt) | (have z1 := ((Box.new w60 3 #[.int .i64 n1]).alloc (.cells #[.int .i64 n1] 3)); have z2 := (Box.new' (w := w60.alloc (.cells #[.int .i64 n1] 3)) (g := w60.heap.size + 1) (t := 3) (cs := #[.int .i64 n1]) (by simp)); have zl1a := z1.lt; have zl1b := z2.lt; have zne := Nat.ne_of_lt (Nat.lt_succ_self w60.heap.size); have z1 := z1.later b61; have z2 := z2.later b61; have kz1 := z1.cells; have fz1 := z1.free; have lz1 := z1.lt; have kz2 := z2.cells; have fz2 := z2.free; have lz2 := z2.lt) | (have z1 := (Box.new w60 3 #[.int .i64 n1]); have zl1a := z1.lt; have z1 := z1.later b61; have kz1 := z1.cells; have fz1 := z1.free; have lz1 := z1.lt) | skip); (first | replace rm := (rm).below b61 (Nat.le_refl _) | replace rm := (rm.alloc _).below b61 (Nat.le_refl _) | replace rm := ((rm.alloc _).alloc _).below b61 (Nat.le_refl _))))
    all_goals (go_wp2_with fail; go_meet)
    all_goals exact ⟨rfl, rfl, cb⟩
  case rest =>
    obtain ⟨rfl, rfl, bc⟩ := hcut
    obtain ⟨W2, rfl⟩ : ∃ w0 : World, w0 = wc := ⟨_, rfl⟩
    have rm2 := rm.below bc (Nat.le_refl _)
    replace x4 := x4.later bc
    replace x5 := x5.later bc
    have B2 := B1.trans (bc.mono B1.size)
    clear bc B1 rm r1
    go_upto_region 7 with fail
    have kx4 := x4.cells
    have kx5 := x5.cells
    refine wp_region_noPanic ?_
    refine wp_region_held_drew (S := (fun w' => w'.cell? ⟨w.heap.size, 0, none⟩ = some (.int .i64 a) ∧ w'.cell? ⟨w.heap.size, 1, none⟩ = some (.int .i64 b) ∧ w'.cell? ⟨w.heap.size + 1, 0, none⟩ = some (.int .i64 n0) ∧ w'.cell? ⟨w.heap.size + 1, 1, none⟩ = some (.int .i64 n1) ∧ w'.cell? ⟨w.heap.size + 1, 2, none⟩ = some (.int .i64 n2))) (by kernel_rfl) ?_ (fun hHeld => ?_)
    · go_keep
    refine wpAnyH_take (i := 0) (v := ?v0) rfl (by kernel_rfl) (by kernel_rfl) (by kernel_rfl) (fun _ _ _ h => h) (Or.inl ⟨by kernel_rfl, ?hy0⟩) (by assumption) ?rest0
    case hy0 => (intro w hSw; (try dsimp only at hSw); go_simp; (try with_reducible rfl))
    try simp only [Act.put]
    refine wpAnyH_take (i := 1) (v := ?v1) rfl (by kernel_rfl) (by kernel_rfl) (by kernel_rfl) (fun _ _ _ h => h) (Or.inl ⟨by kernel_rfl, ?hy1⟩) (by assumption) ?rest1
    case hy1 => (intro w hSw; (try dsimp only at hSw); go_simp; (try with_reducible rfl))
    try simp only [Act.put]
    refine wpAnyH_take (i := 2) (v := ?v2) rfl (by kernel_rfl) (by kernel_rfl) (by kernel_rfl) (fun _ _ _ h => h) (Or.inl ⟨by kernel_rfl, ?hy2⟩) (by assumption) ?rest2
    case hy2 => (intro w hSw; (try dsimp only at hSw); go_simp; (try with_reducible rfl))
    try simp only [Act.put]
    refine wpAnyH_take (i := 3) (v := ?v3) rfl (by kernel_rfl) (by kernel_rfl) (by kernel_rfl) (fun _ _ _ h => h) (Or.inl ⟨by kernel_rfl, ?hy3⟩) (by assumption) ?rest3
    case hy3 => (intro w hSw; (try dsimp only at hSw); go_simp; (try with_reducible rfl))
    try simp only [Act.put]
    refine wpAnyH_take (i := 4) (v := ?v4) rfl (by kernel_rfl) (by kernel_rfl) (by kernel_rfl) (fun _ _ _ h => h) (Or.inl ⟨by kernel_rfl, ?hy4⟩) (by assumption) ?rest4
    case hy4 => (intro w hSw; (try dsimp only at hSw); go_simp; (try with_reducible rfl))
    try simp only [Act.put]
    refine wpAnyH_take (i := 5) (v := ?v5) rfl (by kernel_rfl) (by kernel_rfl) (by kernel_rfl) (fun _ _ _ h => h) (Or.inl ⟨by kernel_rfl, ?hy5⟩) (by assumption) ?rest5
    case hy5 => (intro w hSw; (try dsimp only at hSw); go_simp; (try with_reducible rfl))
    try simp only [Act.put]
    refine wpAnyH_take (i := 6) (v := ?v6) rfl (by kernel_rfl) (by kernel_rfl) (by kernel_rfl) (fun _ _ _ h => h) (Or.inl ⟨by kernel_rfl, ?hy6⟩) (by assumption) ?rest6
    case hy6 => (intro w hSw; (try dsimp only at hSw); go_simp; (try with_reducible rfl))
    try simp only [Act.put]
    refine wpAnyH_take (i := 7) (v := ?v7) rfl (by kernel_rfl) (by kernel_rfl) (by kernel_rfl) (fun _ _ _ h => h) (Or.inl ⟨by kernel_rfl, ?hy7⟩) (by assumption) ?rest7
    case hy7 => (intro w hSw; (try dsimp only at hSw); go_simp; (try with_reducible rfl))
    try simp only [Act.put]
    refine wpAnyH_take (i := 8) (v := ?v8) rfl (by kernel_rfl) (by kernel_rfl) (by kernel_rfl) (fun _ _ _ h => h) (Or.inl ⟨by kernel_rfl, ?hy8⟩) (by assumption) ?rest8
    case hy8 => (intro w hSw; (try dsimp only at hSw); go_simp; (try with_reducible rfl))
    try simp only [Act.put]
    refine wpAnyH_take (i := 9) (v := undef) rfl (by kernel_rfl) (by kernel_rfl) (by kernel_rfl) (fun _ _ _ h => h) (Or.inr ⟨by kernel_rfl, rfl⟩) (by assumption) ?_
    try simp only [Act.put]
    refine wpAnyH_take (i := 10) (v := undef) rfl (by kernel_rfl) (by kernel_rfl) (by kernel_rfl) (fun _ _ _ h => h) (Or.inr ⟨by kernel_rfl, rfl⟩) (by assumption) ?_
    try simp only [Act.put]
    refine wpAnyH_take (i := 11) (v := undef) rfl (by kernel_rfl) (by kernel_rfl) (by kernel_rfl) (fun _ _ _ h => h) (Or.inr ⟨by kernel_rfl, rfl⟩) (by assumption) ?_
    try simp only [Act.put]
    refine wpAnyH_take (i := 12) (v := undef) rfl (by kernel_rfl) (by kernel_rfl) (by kernel_rfl) (fun _ _ _ h => h) (Or.inr ⟨by kernel_rfl, rfl⟩) (by assumption) ?_
    try simp only [Act.put]
    refine wpAnyH_take (i := 13) (v := undef) rfl (by kernel_rfl) (by kernel_rfl) (by kernel_rfl) (fun _ _ _ h => h) (Or.inr ⟨by kernel_rfl, rfl⟩) (by assumption) ?_
    try simp only [Act.put]
    refine wpAnyH_take (i := 14) (v := ?v14) rfl (by kernel_rfl) (by kernel_rfl) (by kernel_rfl) (fun _ _ _ h => h) (Or.inl ⟨by kernel_rfl, ?hy14⟩) (by assumption) ?rest14
    case hy14 => (intro w hSw; (try dsimp only at hSw); go_simp; (try with_reducible rfl))
    try simp only [Act.put]
    refine wpAnyH_take (i := 15) (v := ?v15) rfl (by kernel_rfl) (by kernel_rfl) (by kernel_rfl) (fun _ _ _ h => h) (Or.inl ⟨by kernel_rfl, ?hy15⟩) (by assumption) ?rest15
    case hy15 => (intro w hSw; (try dsimp only at hSw); go_simp; (try with_reducible rfl))
    try simp only [Act.put]
    refine wpAnyH_take (i := 16) (v := ?v16) rfl (by kernel_rfl) (by kernel_rfl) (by kernel_rfl) (fun _ _ _ h => h) (Or.inl ⟨by kernel_rfl, ?hy16⟩) (by assumption) ?rest16
    case hy16 => (intro w hSw; (try dsimp only at hSw); go_simp; (try with_reducible rfl))
    try simp only [Act.put]
    refine wpAnyH_take (i := 17) (v := ?v17) rfl (by kernel_rfl) (by kernel_rfl) (by kernel_rfl) (fun _ _ _ h => h) (Or.inl ⟨by kernel_rfl, ?hy17⟩) (by assumption) ?rest17
    case hy17 => (intro w hSw; (try dsimp only at hSw); go_simp; (try with_reducible rfl))
    try simp only [Act.put]
    refine wpAnyH_take (i := 18) (v := ?v18) rfl (by kernel_rfl) (by kernel_rfl) (by kernel_rfl) (fun _ _ _ h => h) (Or.inl ⟨by kernel_rfl, ?hy18⟩) (by assumption) ?rest18
    case hy18 => (intro w hSw; (try dsimp only at hSw); go_simp; (try with_reducible rfl))
    try simp only [Act.put]
    refine wpAnyH_take (i := 19) (v := ?v19) rfl (by kernel_rfl) (by kernel_rfl) (by kernel_rfl) (fun _ _ _ h => h) (Or.inl ⟨by kernel_rfl, ?hy19⟩) (by assumption) ?rest19
    case hy19 => (intro w hSw; (try dsimp only at hSw); go_simp; (try with_reducible rfl))
    try simp only [Act.put]
    refine wpAnyH_take (i := 20) (v := ?v20) rfl (by kernel_rfl) (by kernel_rfl) (by kernel_rfl) (fun _ _ _ h => h) (Or.inl ⟨by kernel_rfl, ?hy20⟩) (by assumption) ?rest20
    case hy20 => (intro w hSw; (try dsimp only at hSw); go_simp; (try with_reducible rfl))
    try simp only [Act.put]
    refine wpAnyH_take (i := 22) (v := ?v22) rfl (by kernel_rfl) (by kernel_rfl) (by kernel_rfl) (fun _ _ _ h => h) (Or.inl ⟨by kernel_rfl, ?hy22⟩) (by assumption) ?rest22
    case hy22 => (intro w hSw; (try dsimp only at hSw); go_simp; (try with_reducible rfl))
    try simp only [Act.put]
    refine wpAnyH_take (i := 23) (v := ?v23) rfl (by kernel_rfl) (by kernel_rfl) (by kernel_rfl) (fun _ _ _ h => h) (Or.inl ⟨by kernel_rfl, ?hy23⟩) (by assumption) ?rest23
    case hy23 => (intro w hSw; (try dsimp only at hSw); go_simp; (try with_reducible rfl))
    try simp only [Act.put]
    clear kx4 kx5
    refine wpAnyH_ready (rs := [21]) (by kernel_rfl) (by simp) ?_
    refine AllReadyH.cons rfl (fun K hK => ?_) AllReadyH.nil
    rw [if_pos (by kernel_rfl)]
    go_simp
    refine (LA.out _ _ _ rm2.drew).mono ?_
    rintro e w80 ⟨rfl, b80⟩
    have y4 := x4.drew.later b80
    have y5 := x5.drew.later b80
    have k4 := y4.cells
    have k5 := y5.cells
    have cb := below_undrew b80
    go_wp2_with fail
    refine hK.out _ _ (by go_keep) (fun hHeld => ?_)
    clear hK K
    try simp only [Act.put]
    refine wpAnyH_take (i := 24) (v := ?v24) rfl (by kernel_rfl) (by kernel_rfl) (by kernel_rfl) (fun _ _ _ h => h) (Or.inl ⟨by kernel_rfl, ?hy24⟩) (by assumption) ?rest24
    case hy24 => (intro w hSw; (try dsimp only at hSw); go_simp; (try with_reducible rfl))
    try simp only [Act.put]
    refine wpAnyH_take (i := 25) (v := ?v25) rfl (by kernel_rfl) (by kernel_rfl) (by kernel_rfl) (fun _ _ _ h => h) (Or.inl ⟨by kernel_rfl, ?hy25⟩) (by assumption) ?rest25
    case hy25 => (intro w hSw; (try dsimp only at hSw); go_simp; (try with_reducible rfl))
    try simp only [Act.put]
    refine wpAnyH_take (i := 26) (v := ?v26) rfl (by kernel_rfl) (by kernel_rfl) (by kernel_rfl) (fun _ _ _ h => h) (Or.inl ⟨by kernel_rfl, ?hy26⟩) (by assumption) ?rest26
    case hy26 => (intro w hSw; (try dsimp only at hSw); go_simp; (try with_reducible rfl))
    try simp only [Act.put]
    refine wpAnyH_ready (rs := [27]) (by kernel_rfl) (by simp) ?_
    refine AllReadyH.cons rfl (fun K hK => ?_) AllReadyH.nil
    rw [if_pos (by kernel_rfl)]
    go_simp
    refine (W.out _).mono ?_
    rintro e w81 ⟨rfl, b81⟩
    have k4 := (y4.later b81).cells
    have k5 := (y5.later b81).cells
    have cb := cb.trans (b81.mono cb.size)
    go_wp2_with fail
    refine hK.out _ _ (by go_keep) (fun hHeld => ?_)
    clear hK K
    try simp only [Act.put]
    refine wpAnyH_ready (rs := [28]) (by kernel_rfl) (by simp) ?_
    refine AllReadyH.cons rfl (fun K hK => ?_) AllReadyH.nil
    rw [if_pos (by kernel_rfl)]
    go_simp
    refine hK.out _ _ hHeld (fun hHeld => ?_)
    clear hK K
    try simp only [Act.put]
    refine wpAnyH_ready (rs := [29]) (by kernel_rfl) (by simp) ?_
    refine AllReadyH.cons rfl (fun K hK => ?_) AllReadyH.nil
    rw [if_pos (by kernel_rfl)]
    go_simp
    refine hK.out _ _ hHeld (fun hHeld => ?_)
    clear hK K
    try simp only [Act.put]
    refine wpAnyH_done (by kernel_rfl) ?_ _
    refine NoPanic.normal ?_
    go_wp2
    go_ret
    exact ⟨rfl, B2.trans (cb.mono B2.size)⟩

theorem stays_law (A : Option Addr) (cap : Nat) (l : List (Int × Int)) (a b n0 n1 n2 : Int) (w : World) (hm : l.length ≤ 9223372036854775807) (hr : RowL w A l) :
    Calls Try.prog 3 #[.slice A l.length cap, .agg #[.int .i64 a, .int .i64 b], .agg #[.int .i64 n0, .int .i64 n1, .int .i64 n2]] w fun e w' => e = .returned (.bool true) ∧ Below w.heap.size w w' := by
  by_cases h1 : 100 < l.length
  · have W := Lib.hid fun w => awake_any w
    clear hr
    go_enter Try.func3, Try.ntmps3
    go_wp2_with fail
    refine (W.out _).mono ?_
    rintro e w1 ⟨rfl, b1⟩
    go_wp2
    go_ret
    exact ⟨rfl, below_up (below_up b1)⟩
  · have hl : l.length ≤ 100 := by omega
    by_cases hq : mayI l a b n0 = 0
    · have ha : addL l a b n0 = (l ++ [(a, b)], 0) := by unfold addL; rw [if_neg (by omega), if_neg (by simp [hq])]
      have hlt := mayI_zero hq
      have hL : lastI (l ++ [(a, b)]) a = b := by rw [lastI_add, if_pos rfl]; omega
      have hs := lastI_add l a b n1
      by_cases w1 : lockB l n2 n1 = true
      · refine stays_ww A cap l a b n0 n1 n2 w hl hr ha hL w1 ?_
        unfold lockB at w1 ⊢
        have := of_decide_eq_true w1
        refine decide_eq_true ?_
        rw [hs]
        split <;> omega
      · have w1 : lockB l n2 n1 = false := by simpa using w1
        have w2 := of_decide_eq_false w1
        by_cases h3 : n1 = a
        · rw [if_pos h3.symm] at hs
          by_cases h4 : n2 ≤ b
          · exact stays_yy A cap l a b n0 n1 n2 w hl hr ha hL w1 (by unfold lockB; refine decide_eq_true ?_; rw [hs]; omega) h3 h4
          · exact stays_yn A cap l a b n0 n1 n2 w hl hr ha hL w1 (by unfold lockB; refine decide_eq_false ?_; rw [hs]; omega) h3 h4
        · rw [if_neg (fun h => h3 h.symm)] at hs
          exact stays_nn A cap l a b n0 n1 n2 w hl hr ha hL w1 (by unfold lockB; refine decide_eq_false ?_; rw [hs]; exact w2) h3
    · exact stays_no A cap l a b n0 n1 n2 w hl hr (mayI l a b n0) (by unfold addL; rw [if_neg (by omega), if_pos hq]) hq
end Go.Proofs.Ytepegkbikjjkjaa
