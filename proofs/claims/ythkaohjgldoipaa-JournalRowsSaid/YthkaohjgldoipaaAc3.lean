/-
  account: leaf, those, Children, Leaves, Under.
-/
import Derived.Test.YthkaohjgldoipaaAc2
namespace Go.Proofs.Ythkaohjgldoipaa
open Go.RowKit

/-- Is one right under a? -/
def hasP (l : List Acc) (a : Int) : Bool := l.any fun y => y.p == a
theorem hasP_hit {l : List Acc} {a : Int} {k : Nat} (hk : k < l.length) (h : l[k].p = a) : hasP l a = true := List.any_eq_true.2 ⟨l[k], List.getElem_mem hk, by simpa using h⟩
theorem hasP_step {l : List Acc} {a : Int} {k : Nat} (hk : k < l.length) (h0 : hasP (l.take k) a = false) (h : l[k].p ≠ a) : hasP (l.take (k + 1)) a = false := by
  unfold hasP at *
  rw [List.take_succ_eq_append_getElem hk, List.any_append, h0]
  simpa using h
theorem flt_snoc (p : Int → Bool) (j : Nat) : (upto (j + 1)).filter p = (upto j).filter p ++ if p ((j : Int) + 1) = true then [(j : Int) + 1] else [] := by
  rw [upto_succ, List.filter_append, List.filter_cons, List.filter_nil]
section
variable {A : Option Addr} {c : Nat} {l : List Acc} {w : World}

set_option maxHeartbeats 1000000 in
theorem aleaf1_any (x : Acc) {a : Int} {g : Nat} {w : World} (bx : Box w g 3 #[.int .i64 a]) :
    Calls Try.prog 82 #[.agg #[.int .i64 x.p, .int .i64 x.k, .bool x.s, .bool x.q], .pointer (some ⟨g, 0, none⟩)] w fun e w' => e = .returned (.bool (x.p == a)) ∧ Below w.heap.size w w' := by
  have kx := bx.cells
  have lx := bx.lt
  generalize x.p = p0 at *
  generalize x.k = k0 at *
  generalize x.s = s0 at *
  generalize x.q = q0 at *
  go_enter Try.func82, Try.ntmps82
  go_wp2
  go_ret
  exact ⟨rfl, (Below.refl _ _).alloc (Nat.le_refl _) _⟩
set_option maxHeartbeats 2000000 in
theorem aidx_any {a : Int} {g : Nat} (hm : l.length ≤ 1000000) (hr : RowC w A l) (bx : Box w g 3 #[.int .i64 a]) :
    Calls Try.prog 85 #[.slice A l.length c, .func (.func 82) #[] #[.pointer (some ⟨g, 0, none⟩)]] w fun e w' => ∃ z : Int, e = .returned (.int .i64 z) ∧ (hasP l a = true → ∃ k : Nat, z = k) ∧ (hasP l a = false → z = -1) ∧ Below w.heap.size w w' := by
  have C := Lib.hid fun (x : Acc) (w : World) (bx : Box w g 3 #[.int .i64 a]) => aleaf1_any x bx
  have R := Lib.hid hr
  have BX := Lib.hid bx
  clear hr bx
  go_enter Try.func85, Try.ntmps85
  go_wp2
  go_loopw [8] (fun i wr => ∃ k : Nat, k ≤ l.length ∧ i = .int .i64 k ∧ Hid (hasP (l.take k) a = false) ∧ Below w.heap.size w wr) (fun i _ => l.length - (intOf i).toNat)
  case atStart => exact ⟨0, by omega, rfl, rfl, Below.refl _ _⟩
  case round =>
    obtain ⟨k, hk, rfl, hf, hb⟩ := hrel
    by_cases hkn : k < l.length
    · obtain ⟨b0, off, rfl, hg, hc⟩ := (R.out.later hb).get (by omega)
      obtain ⟨h1, h2, h3, h4⟩ := hc k hkn
      have C1 := Lib.hid (C.out l[k] wr (BX.out.later hb))
      have H1 := Lib.hid fun h => hasP_hit (a := a) hkn h
      have H2 := Lib.hid fun h => hasP_step (a := a) hkn hf.out h
      clear hc
      generalize l[k].p = p0 at *
      generalize l[k].k = k0 at *
      generalize l[k].s = s0 at *
      generalize l[k].q = q0 at *
      by_cases hp : p0 = a
      · have HP := Lib.hid (H1.out hp)
        have C1 := C1.out
        rw [show (p0 == a) = true by simpa using hp] at C1
        replace C1 := Lib.hid C1
        clear hp H1 H2 hf
        go_wp2_with fail
        refine C1.out.mono ?_
        rintro e w1 ⟨rfl, b1⟩
        clear h1 h2 h3 h4 C1
        go_wp2
        go_ret
        exact ⟨_, rfl, fun _ => ⟨k, rfl⟩, fun h => (by rw [HP.out] at h; cases h), hb.trans (b1.mono hb.size)⟩
      · have HP := Lib.hid (H2.out hp)
        have C1 := C1.out
        rw [show (p0 == a) = false by simpa using hp] at C1
        replace C1 := Lib.hid C1
        clear hp H1 H2 hf
        go_wp2_with fail
        refine C1.out.mono ?_
        rintro e w1 ⟨rfl, b1⟩
        clear h1 h2 h3 h4 C1
        go_wp2
        go_roundw
        case rel => exact ⟨k + 1, by omega, by go_num, HP, hb.trans (b1.mono hb.size)⟩
        case measure => simp [intOf]; omega
    · obtain rfl : k = l.length := by omega
      have H := hf.out
      rw [List.take_length] at H
      replace H := Lib.hid H
      clear hf
      go_wp2
      go_ret
      exact ⟨-1, rfl, fun h => (by rw [H.out] at h; cases h), fun _ => rfl, hb⟩
set_option maxHeartbeats 2000000 in
theorem acont_any {a : Int} {g : Nat} (hm : l.length ≤ 1000000) (hr : RowC w A l) (bx : Box w g 3 #[.int .i64 a]) :
    Calls Try.prog 81 #[.slice A l.length c, .func (.func 82) #[] #[.pointer (some ⟨g, 0, none⟩)]] w fun e w' => e = .returned (.bool (hasP l a)) ∧ Below w.heap.size w w' := by
  have C := Lib.hid (aidx_any (c := c) hm hr bx)
  clear hr bx
  generalize hasP l a = y at *
  go_enter Try.func81, Try.ntmps81
  go_wp2_with fail
  refine C.out.mono ?_
  rintro e w1 ⟨z, rfl, h1, h2, b1⟩
  cases y
  · obtain rfl := h2 rfl
    go_wp2
    go_ret
    exact ⟨rfl, b1⟩
  · obtain ⟨k, rfl⟩ := h1 rfl
    go_wp2
    go_ret
    exact ⟨rfl, b1⟩
set_option maxHeartbeats 2000000 in
theorem aleaf_any (x : Int) (hm : l.length ≤ 1000000) (hr : RowC w A l) : Calls Try.prog 69 #[.slice A l.length c, .int .i64 x] w fun e w' => e = .returned (.bool (leafA l x)) ∧ Below w.heap.size w w' := by
  have hmf : ∀ (fn : Fn) (first cap : Array Value) (w : World), (Instr.makeFunc fn first cap).run Try.prog w = .ok (.func fn first cap) w := fun _ _ _ _ => rfl
  have C := Lib.hid (acont_any (c := c) hm (hr.alloc (.cells #[.int .i64 x] 3)) (Box.new w 3 #[.int .i64 x]))
  have IS := fun w => ais_any A c l x w
  have hlf : leafA l x = (isA l x && !hasP l x) := rfl
  rw [hlf]
  clear hlf
  cases hi : isA l x
  · rw [hi] at IS
    replace IS := Lib.hid IS
    clear hi C hr
    go_enter Try.func69, Try.ntmps69
    go_wp2_with fail
    refine (IS.out _).mono ?_
    rintro e _ ⟨rfl, rfl⟩
    go_wp2
    go_ret
    exact ⟨rfl, (Below.refl _ _).alloc (Nat.le_refl _) _⟩
  · rw [hi] at IS
    replace IS := Lib.hid IS
    generalize hasP l x = y at *
    clear hi hr
    go_enter Try.func69, Try.ntmps69
    go_wp2_with fail
    refine (IS.out _).mono ?_
    rintro e _ ⟨rfl, rfl⟩
    go_wp2_with fail
    refine C.out.mono ?_
    rintro e w1 ⟨rfl, b1⟩
    go_wp2
    go_ret
    exact ⟨rfl, below_up b1⟩

set_option maxHeartbeats 2000000 in
theorem achild1 {k : Nat} {a : Int} {g5 g3 : Nat} (hk : k < l.length) (hm : l.length ≤ 1000000) (hr : RowC w A l) (b5 : Box w g5 94 #[.slice A l.length c]) (b3 : Box w g3 3 #[.int .i64 a]) :
    Calls Try.prog 67 #[.int .i64 ((k : Int) + 1), .pointer (some ⟨g5, 0, none⟩), .pointer (some ⟨g3, 0, none⟩)] w fun e w' => e = .returned (.bool (fA l ((k : Int) + 1) == a)) ∧ Below w.heap.size w w' := by
  obtain ⟨b0, off, rfl, hg, hc⟩ := hr.get (by omega)
  have h1 := (hc k hk).1
  rw [← fA_get hk] at h1
  have k5 := b5.cells
  have k3 := b3.cells
  have l5 := b5.lt
  have l3 := b3.lt
  generalize fA l ((k : Int) + 1) = fk at *
  have hwk : IntKind.i64.wrap (k : Int) = k := (Go.IntWalk.i64_left _).trans (Go.IntWalk.wrap64_in _ (by omega))
  clear hc hr b5 b3
  go_enter Try.func67, Try.ntmps67
  go_upto_region 1 with fail
  refine wp_region_noPanic ?_
  refine wp_region_held_drew (S := (fun w' => w'.cell? ⟨g5, 0, none⟩ = some (.slice (some ⟨b0, off, none⟩) l.length c) ∧ w'.cell? ⟨g3, 0, none⟩ = some (.int .i64 a) ∧ w'.cell? ⟨b0, off + k * 4, none⟩ = some (.int .i64 fk))) (by kernel_rfl) ?_ (fun hHeld => ?_)
  · go_keep
  refine wpAnyH_take (i := 0) (v := ?vc0) rfl (by kernel_rfl) (by kernel_rfl) (by kernel_rfl) (fun _ _ _ h => h) (Or.inl ⟨by kernel_rfl, ?hyc0⟩) (by assumption) ?restc0
  case hyc0 => (intro w hSw; (try dsimp only at hSw); go_simp; (try with_reducible rfl))
  go_simp
  refine wpAnyH_take (i := 1) (v := ?vc1) rfl (by kernel_rfl) (by kernel_rfl) (by kernel_rfl) (fun _ _ _ h => h) (Or.inl ⟨by kernel_rfl, ?hyc1⟩) (by assumption) ?restc1
  case hyc1 => (intro w hSw; (try dsimp only at hSw); go_simp; (try with_reducible rfl))
  go_simp
  refine wpAnyH_take (i := 2) (v := ?vc2) rfl (by kernel_rfl) (by kernel_rfl) (by kernel_rfl) (fun _ _ _ h => h) (Or.inl ⟨by kernel_rfl, ?hyc2⟩) (by assumption) ?restc2
  case hyc2 => (intro w hSw; (try dsimp only at hSw); go_simp; (try with_reducible rfl))
  go_simp
  refine wpAnyH_take (i := 3) (v := ?vc3) rfl (by kernel_rfl) (by kernel_rfl) (by kernel_rfl) (fun _ _ _ h => h) (Or.inl ⟨by kernel_rfl, ?hyc3⟩) (by assumption) ?restc3
  case hyc3 => (intro w hSw; (try dsimp only at hSw); go_simp; (try with_reducible rfl))
  go_simp
  refine wpAnyH_take (i := 4) (v := ?vc4) rfl (by kernel_rfl) (by kernel_rfl) (by kernel_rfl) (fun _ _ _ h => h) (Or.inl ⟨by kernel_rfl, ?hyc4⟩) (by assumption) ?restc4
  case hyc4 => (intro w hSw; (try dsimp only at hSw); go_simp; (try with_reducible rfl))
  go_simp
  refine wpAnyH_take (i := 5) (v := ?vc5) rfl (by kernel_rfl) (by kernel_rfl) (by kernel_rfl) (fun _ _ _ h => h) (Or.inl ⟨by kernel_rfl, ?hyc5⟩) (by assumption) ?restc5
  case hyc5 => (intro w hSw; (try dsimp only at hSw); go_simp; (try with_reducible rfl))
  go_simp
  refine wpAnyH_take (i := 6) (v := ?vc6) rfl (by kernel_rfl) (by kernel_rfl) (by kernel_rfl) (fun _ _ _ h => h) (Or.inl ⟨by kernel_rfl, ?hyc6⟩) (by assumption) ?restc6
  case hyc6 => (intro w hSw; (try dsimp only at hSw); go_simp; (try with_reducible rfl))
  go_simp
  refine wpAnyH_take (i := 7) (v := ?vc7) rfl (by kernel_rfl) (by kernel_rfl) (by kernel_rfl) (fun _ _ _ h => h) (Or.inl ⟨by kernel_rfl, ?hyc7⟩) (by assumption) ?restc7
  case hyc7 => (intro w hSw; (try dsimp only at hSw); go_simp; (try with_reducible rfl))
  go_simp
  refine wpAnyH_ready (rs := [8]) (by kernel_rfl) (by simp) ?_
  refine AllReadyH.cons rfl (fun K hK => ?_) AllReadyH.nil
  rw [if_pos (by kernel_rfl)]
  go_simp
  refine hK.out _ _ hHeld (fun hHeld => ?_)
  clear hK K
  go_simp
  refine wpAnyH_done (by kernel_rfl) ?_ _
  refine NoPanic.normal ?_
  go_wp2
  go_ret
  exact ⟨rfl, below_drewN (Below.refl _ _) 1⟩
set_option maxHeartbeats 2000000 in
theorem aleaves1 (x : Int) {g3 g1 : Nat} (hm : l.length ≤ 1000000) (hr : RowC w A l) (b3 : Box w g3 98 #[.func (.func 69) #[] #[]]) (b1 : Box w g1 50 #[.slice A l.length c]) :
    Calls Try.prog 70 #[.int .i64 x, .pointer (some ⟨g3, 0, none⟩), .pointer (some ⟨g1, 0, none⟩)] w fun e w' => e = .returned (.bool (leafA l x)) ∧ Below w.heap.size w w' := by
  have C := Lib.hid (aleaf_any (c := c) x hm hr)
  have k1 := b1.cells
  have k3 := b3.cells
  have l1 := b1.lt
  have l3 := b3.lt
  generalize leafA l x = y at *
  clear hr b1 b3
  go_enter Try.func70, Try.ntmps70
  go_wp2_with fail
  refine C.out.mono ?_
  rintro e w1 ⟨rfl, b1⟩
  clear k1 k3
  go_wp2
  go_ret
  exact ⟨rfl, b1⟩

set_option maxRecDepth 100000 in
set_option maxHeartbeats 4000000 in
theorem aunder1 (x : Int) {a : Int} {g5 g3 : Nat} (hm : l.length ≤ 1000000) (hr : RowC w A l) (b5 : Box w g5 94 #[.slice A l.length c]) (b3 : Box w g3 3 #[.int .i64 a]) :
    Calls Try.prog 72 #[.int .i64 x, .pointer (some ⟨g5, 0, none⟩), .pointer (some ⟨g3, 0, none⟩)] w fun e w' => e = .returned (.bool (undB l a x)) ∧ Below w.heap.size w w' := by
  have C := fun w (hr : RowC w A l) => aleaf_any (c := c) x hm hr
  have UP := Lib.hid fun w (hr : RowC w A l) => (aup_any (c := c) x hm hr).mono fun _ _ h => rowOf rfl h
  have HS := Lib.hid fun (A : Option Addr) (c : Nat) (w : World) (hr : RowAt w A (ivals (upA l x))) => scontains_any (A := A) (c := c) (l := upA l x) (n := a) (by have := upA_len l x; unfold maxLen; omega) hr
  unfold undB
  generalize decide (a ∈ upA l x) = mu at *
  generalize upA l x = us at *
  have HR : RowC w.drew A l := hr.drew
  have y5 := b5.drew
  have y3 := b3.drew
  have k5 := y5.cells
  have k3 := y3.cells
  have l5 := y5.lt
  have l3 := y3.lt
  have cb : Below w.heap.size w w.drew := below_drewN (Below.refl _ _) 1
  clear hr b5 b3
  generalize leafA l x = lf at *
  cases lf
  · replace C := Lib.hid C
    go_enter Try.func72, Try.ntmps72
    go_upto_region 1 with fail
    refine wp_region_noPanic ?_
    refine wp_region_held_drew (S := (fun w' => w'.cell? ⟨g5, 0, none⟩ = some (.slice A l.length c) ∧ w'.cell? ⟨g3, 0, none⟩ = some (.int .i64 a))) (by kernel_rfl) ?_ (fun hHeld => ?_)
    · go_keep
    refine wpAnyH_take (i := 0) (v := ?vu10) rfl (by kernel_rfl) (by kernel_rfl) (by kernel_rfl) (fun _ _ _ h => h) (Or.inl ⟨by kernel_rfl, ?hyu10⟩) (by assumption) ?restu10
    case hyu10 => (intro w hSw; (try dsimp only at hSw); go_simp; (try with_reducible rfl))
    go_simp
    refine wpAnyH_take (i := 1) (v := ?vu11) rfl (by kernel_rfl) (by kernel_rfl) (by kernel_rfl) (fun _ _ _ h => h) (Or.inl ⟨by kernel_rfl, ?hyu11⟩) (by assumption) ?restu11
    case hyu11 => (intro w hSw; (try dsimp only at hSw); go_simp; (try with_reducible rfl))
    go_simp
    refine wpAnyH_ready (rs := [2]) (by kernel_rfl) (by simp) ?_
    refine AllReadyH.cons rfl (fun K hK => ?_) AllReadyH.nil
    rw [if_pos (by kernel_rfl)]
    go_simp
    refine (C.out _ HR).mono ?_
    rintro e w41 ⟨rfl, b1⟩
    have y5 := y5.later b1
    have y3 := y3.later b1
    have HR := HR.later b1
    have cb := cb.trans (b1.mono cb.size)
    have k5 := y5.cells
    have k3 := y3.cells
    clear b1
    go_wp2_with fail
    refine hK.out _ _ (by go_keep) (fun hHeld => ?_)
    clear hK K
    go_simp
    refine wpAnyH_take (i := 3) (v := ?vu13) rfl (by kernel_rfl) (by kernel_rfl) (by kernel_rfl) (fun _ _ _ h => h) (Or.inl ⟨by kernel_rfl, ?hyu13⟩) (by assumption) ?restu13
    case hyu13 => (intro w hSw; (try dsimp only at hSw); go_simp; (try with_reducible rfl))
    go_simp
    refine wpAnyH_take (i := 4) (v := undef) rfl (by kernel_rfl) (by kernel_rfl) (by kernel_rfl) (fun _ _ _ h => h) (Or.inr ⟨by kernel_rfl, rfl⟩) (by assumption) ?_
    go_simp
    refine wpAnyH_take (i := 5) (v := undef) rfl (by kernel_rfl) (by kernel_rfl) (by kernel_rfl) (fun _ _ _ h => h) (Or.inr ⟨by kernel_rfl, rfl⟩) (by assumption) ?_
    go_simp
    refine wpAnyH_take (i := 6) (v := undef) rfl (by kernel_rfl) (by kernel_rfl) (by kernel_rfl) (fun _ _ _ h => h) (Or.inr ⟨by kernel_rfl, rfl⟩) (by assumption) ?_
    go_simp
    refine wpAnyH_take (i := 7) (v := undef) rfl (by kernel_rfl) (by kernel_rfl) (by kernel_rfl) (fun _ _ _ h => h) (Or.inr ⟨by kernel_rfl, rfl⟩) (by assumption) ?_
    go_simp
    refine wpAnyH_take (i := 8) (v := undef) rfl (by kernel_rfl) (by kernel_rfl) (by kernel_rfl) (fun _ _ _ h => h) (Or.inr ⟨by kernel_rfl, rfl⟩) (by assumption) ?_
    go_simp
    refine wpAnyH_take (i := 9) (v := undef) rfl (by kernel_rfl) (by kernel_rfl) (by kernel_rfl) (fun _ _ _ h => h) (Or.inr ⟨by kernel_rfl, rfl⟩) (by assumption) ?_
    go_simp
    refine wpAnyH_take (i := 10) (v := undef) rfl (by kernel_rfl) (by kernel_rfl) (by kernel_rfl) (fun _ _ _ h => h) (Or.inr ⟨by kernel_rfl, rfl⟩) (by assumption) ?_
    go_simp
    refine wpAnyH_take (i := 11) (v := undef) rfl (by kernel_rfl) (by kernel_rfl) (by kernel_rfl) (fun _ _ _ h => h) (Or.inr ⟨by kernel_rfl, rfl⟩) (by assumption) ?_
    go_simp
    refine wpAnyH_take (i := 12) (v := undef) rfl (by kernel_rfl) (by kernel_rfl) (by kernel_rfl) (fun _ _ _ h => h) (Or.inr ⟨by kernel_rfl, rfl⟩) (by assumption) ?_
    go_simp
    refine wpAnyH_take (i := 13) (v := undef) rfl (by kernel_rfl) (by kernel_rfl) (by kernel_rfl) (fun _ _ _ h => h) (Or.inr ⟨by kernel_rfl, rfl⟩) (by assumption) ?_
    go_simp
    refine wpAnyH_take (i := 14) (v := ?vu114) rfl (by kernel_rfl) (by kernel_rfl) (by kernel_rfl) (fun _ _ _ h => h) (Or.inl ⟨by kernel_rfl, ?hyu114⟩) (by assumption) ?restu114
    case hyu114 => (intro w hSw; (try dsimp only at hSw); go_simp; (try with_reducible rfl))
    go_simp
    refine wpAnyH_ready (rs := [15]) (by kernel_rfl) (by simp) ?_
    refine AllReadyH.cons rfl (fun K hK => ?_) AllReadyH.nil
    rw [if_pos (by kernel_rfl)]
    go_simp
    refine hK.out _ _ hHeld (fun hHeld => ?_)
    clear hK K
    go_simp
    refine wpAnyH_done (by kernel_rfl) ?_ _
    refine NoPanic.normal ?_
    clear k5 k3 l5 l3
    go_wp2
    go_ret
    exact ⟨rfl, cb⟩
  · replace C := Lib.hid C
    by_cases hxa : x = a
    · have he : (x == a) = true := by simpa using hxa
      rw [he]
      clear hxa
      go_enter Try.func72, Try.ntmps72
      go_upto_region 1 with fail
      refine wp_region_noPanic ?_
      refine wp_region_held_drew (S := (fun w' => w'.cell? ⟨g5, 0, none⟩ = some (.slice A l.length c) ∧ w'.cell? ⟨g3, 0, none⟩ = some (.int .i64 a))) (by kernel_rfl) ?_ (fun hHeld => ?_)
      · go_keep
      refine wpAnyH_take (i := 0) (v := ?vu20) rfl (by kernel_rfl) (by kernel_rfl) (by kernel_rfl) (fun _ _ _ h => h) (Or.inl ⟨by kernel_rfl, ?hyu20⟩) (by assumption) ?restu20
      case hyu20 => (intro w hSw; (try dsimp only at hSw); go_simp; (try with_reducible rfl))
      go_simp
      refine wpAnyH_take (i := 1) (v := ?vu21) rfl (by kernel_rfl) (by kernel_rfl) (by kernel_rfl) (fun _ _ _ h => h) (Or.inl ⟨by kernel_rfl, ?hyu21⟩) (by assumption) ?restu21
      case hyu21 => (intro w hSw; (try dsimp only at hSw); go_simp; (try with_reducible rfl))
      go_simp
      refine wpAnyH_ready (rs := [2]) (by kernel_rfl) (by simp) ?_
      refine AllReadyH.cons rfl (fun K hK => ?_) AllReadyH.nil
      rw [if_pos (by kernel_rfl)]
      go_simp
      refine (C.out _ HR).mono ?_
      rintro e w41 ⟨rfl, b1⟩
      have y5 := y5.later b1
      have y3 := y3.later b1
      have HR := HR.later b1
      have cb := cb.trans (b1.mono cb.size)
      have k5 := y5.cells
      have k3 := y3.cells
      clear b1
      go_wp2_with fail
      refine hK.out _ _ (by go_keep) (fun hHeld => ?_)
      clear hK K
      go_simp
      refine wpAnyH_take (i := 3) (v := ?vu23) rfl (by kernel_rfl) (by kernel_rfl) (by kernel_rfl) (fun _ _ _ h => h) (Or.inl ⟨by kernel_rfl, ?hyu23⟩) (by assumption) ?restu23
      case hyu23 => (intro w hSw; (try dsimp only at hSw); go_simp; (try with_reducible rfl))
      go_simp
      refine wpAnyH_take (i := 4) (v := ?vu24) rfl (by kernel_rfl) (by kernel_rfl) (by kernel_rfl) (fun _ _ _ h => h) (Or.inl ⟨by kernel_rfl, ?hyu24⟩) (by assumption) ?restu24
      case hyu24 => (intro w hSw; (try dsimp only at hSw); go_simp; (try with_reducible rfl))
      go_simp
      refine wpAnyH_take (i := 5) (v := ?vu25) rfl (by kernel_rfl) (by kernel_rfl) (by kernel_rfl) (fun _ _ _ h => h) (Or.inl ⟨by kernel_rfl, ?hyu25⟩) (by assumption) ?restu25
      case hyu25 => (intro w hSw; (try dsimp only at hSw); go_simp; (try with_reducible rfl))
      go_simp
      refine wpAnyH_take (i := 6) (v := ?vu26) rfl (by kernel_rfl) (by kernel_rfl) (by kernel_rfl) (fun _ _ _ h => h) (Or.inl ⟨by kernel_rfl, ?hyu26⟩) (by assumption) ?restu26
      case hyu26 => (intro w hSw; (try dsimp only at hSw); go_simp; (try with_reducible rfl))
      go_simp
      refine wpAnyH_take (i := 7) (v := ?vu27) rfl (by kernel_rfl) (by kernel_rfl) (by kernel_rfl) (fun _ _ _ h => h) (Or.inl ⟨by kernel_rfl, ?hyu27⟩) (by assumption) ?restu27
      case hyu27 => (intro w hSw; (try dsimp only at hSw); go_simp; (try with_reducible rfl))
      go_simp
      refine wpAnyH_take (i := 8) (v := undef) rfl (by kernel_rfl) (by kernel_rfl) (by kernel_rfl) (fun _ _ _ h => h) (Or.inr ⟨by kernel_rfl, rfl⟩) (by assumption) ?_
      go_simp
      refine wpAnyH_take (i := 9) (v := undef) rfl (by kernel_rfl) (by kernel_rfl) (by kernel_rfl) (fun _ _ _ h => h) (Or.inr ⟨by kernel_rfl, rfl⟩) (by assumption) ?_
      go_simp
      refine wpAnyH_take (i := 10) (v := undef) rfl (by kernel_rfl) (by kernel_rfl) (by kernel_rfl) (fun _ _ _ h => h) (Or.inr ⟨by kernel_rfl, rfl⟩) (by assumption) ?_
      go_simp
      refine wpAnyH_take (i := 11) (v := undef) rfl (by kernel_rfl) (by kernel_rfl) (by kernel_rfl) (fun _ _ _ h => h) (Or.inr ⟨by kernel_rfl, rfl⟩) (by assumption) ?_
      go_simp
      refine wpAnyH_take (i := 12) (v := undef) rfl (by kernel_rfl) (by kernel_rfl) (by kernel_rfl) (fun _ _ _ h => h) (Or.inr ⟨by kernel_rfl, rfl⟩) (by assumption) ?_
      go_simp
      refine wpAnyH_take (i := 13) (v := ?vu213) rfl (by kernel_rfl) (by kernel_rfl) (by kernel_rfl) (fun _ _ _ h => h) (Or.inl ⟨by kernel_rfl, ?hyu213⟩) (by assumption) ?restu213
      case hyu213 => (intro w hSw; (try dsimp only at hSw); go_simp; (try with_reducible rfl))
      go_simp
      refine wpAnyH_take (i := 14) (v := ?vu214) rfl (by kernel_rfl) (by kernel_rfl) (by kernel_rfl) (fun _ _ _ h => h) (Or.inl ⟨by kernel_rfl, ?hyu214⟩) (by assumption) ?restu214
      case hyu214 => (intro w hSw; (try dsimp only at hSw); go_simp; (try with_reducible rfl))
      go_simp
      refine wpAnyH_ready (rs := [15]) (by kernel_rfl) (by simp) ?_
      refine AllReadyH.cons rfl (fun K hK => ?_) AllReadyH.nil
      rw [if_pos (by kernel_rfl)]
      go_simp
      refine hK.out _ _ hHeld (fun hHeld => ?_)
      clear hK K
      go_simp
      refine wpAnyH_done (by kernel_rfl) ?_ _
      refine NoPanic.normal ?_
      clear k5 k3 l5 l3
      go_wp2
      go_ret
      exact ⟨rfl, cb⟩
    · have he : (x == a) = false := by simpa using hxa
      rw [he]
      clear hxa
      go_enter Try.func72, Try.ntmps72
      go_upto_region 1 with fail
      refine wp_region_noPanic ?_
      refine wp_region_held_drew (S := (fun w' => w'.cell? ⟨g5, 0, none⟩ = some (.slice A l.length c) ∧ w'.cell? ⟨g3, 0, none⟩ = some (.int .i64 a))) (by kernel_rfl) ?_ (fun hHeld => ?_)
      · go_keep
      refine wpAnyH_take (i := 0) (v := ?vu30) rfl (by kernel_rfl) (by kernel_rfl) (by kernel_rfl) (fun _ _ _ h => h) (Or.inl ⟨by kernel_rfl, ?hyu30⟩) (by assumption) ?restu30
      case hyu30 => (intro w hSw; (try dsimp only at hSw); go_simp; (try with_reducible rfl))
      go_simp
      refine wpAnyH_take (i := 1) (v := ?vu31) rfl (by kernel_rfl) (by kernel_rfl) (by kernel_rfl) (fun _ _ _ h => h) (Or.inl ⟨by kernel_rfl, ?hyu31⟩) (by assumption) ?restu31
      case hyu31 => (intro w hSw; (try dsimp only at hSw); go_simp; (try with_reducible rfl))
      go_simp
      refine wpAnyH_ready (rs := [2]) (by kernel_rfl) (by simp) ?_
      refine AllReadyH.cons rfl (fun K hK => ?_) AllReadyH.nil
      rw [if_pos (by kernel_rfl)]
      go_simp
      refine (C.out _ HR).mono ?_
      rintro e w41 ⟨rfl, b1⟩
      have y5 := y5.later b1
      have y3 := y3.later b1
      have HR := HR.later b1
      have cb := cb.trans (b1.mono cb.size)
      have k5 := y5.cells
      have k3 := y3.cells
      clear b1
      go_wp2_with fail
      refine hK.out _ _ (by go_keep) (fun hHeld => ?_)
      clear hK K
      go_simp
      refine wpAnyH_take (i := 3) (v := ?vu33) rfl (by kernel_rfl) (by kernel_rfl) (by kernel_rfl) (fun _ _ _ h => h) (Or.inl ⟨by kernel_rfl, ?hyu33⟩) (by assumption) ?restu33
      case hyu33 => (intro w hSw; (try dsimp only at hSw); go_simp; (try with_reducible rfl))
      go_simp
      refine wpAnyH_take (i := 4) (v := ?vu34) rfl (by kernel_rfl) (by kernel_rfl) (by kernel_rfl) (fun _ _ _ h => h) (Or.inl ⟨by kernel_rfl, ?hyu34⟩) (by assumption) ?restu34
      case hyu34 => (intro w hSw; (try dsimp only at hSw); go_simp; (try with_reducible rfl))
      go_simp
      refine wpAnyH_take (i := 5) (v := ?vu35) rfl (by kernel_rfl) (by kernel_rfl) (by kernel_rfl) (fun _ _ _ h => h) (Or.inl ⟨by kernel_rfl, ?hyu35⟩) (by assumption) ?restu35
      case hyu35 => (intro w hSw; (try dsimp only at hSw); go_simp; (try with_reducible rfl))
      go_simp
      refine wpAnyH_take (i := 6) (v := ?vu36) rfl (by kernel_rfl) (by kernel_rfl) (by kernel_rfl) (fun _ _ _ h => h) (Or.inl ⟨by kernel_rfl, ?hyu36⟩) (by assumption) ?restu36
      case hyu36 => (intro w hSw; (try dsimp only at hSw); go_simp; (try with_reducible rfl))
      go_simp
      refine wpAnyH_take (i := 7) (v := ?vu37) rfl (by kernel_rfl) (by kernel_rfl) (by kernel_rfl) (fun _ _ _ h => h) (Or.inl ⟨by kernel_rfl, ?hyu37⟩) (by assumption) ?restu37
      case hyu37 => (intro w hSw; (try dsimp only at hSw); go_simp; (try with_reducible rfl))
      go_simp
      refine wpAnyH_take (i := 8) (v := ?vu38) rfl (by kernel_rfl) (by kernel_rfl) (by kernel_rfl) (fun _ _ _ h => h) (Or.inl ⟨by kernel_rfl, ?hyu38⟩) (by assumption) ?restu38
      case hyu38 => (intro w hSw; (try dsimp only at hSw); go_simp; (try with_reducible rfl))
      go_simp
      refine wpAnyH_take (i := 9) (v := ?vu39) rfl (by kernel_rfl) (by kernel_rfl) (by kernel_rfl) (fun _ _ _ h => h) (Or.inl ⟨by kernel_rfl, ?hyu39⟩) (by assumption) ?restu39
      case hyu39 => (intro w hSw; (try dsimp only at hSw); go_simp; (try with_reducible rfl))
      go_simp
      refine wpAnyH_take (i := 11) (v := ?vu311) rfl (by kernel_rfl) (by kernel_rfl) (by kernel_rfl) (fun _ _ _ h => h) (Or.inl ⟨by kernel_rfl, ?hyu311⟩) (by assumption) ?restu311
      case hyu311 => (intro w hSw; (try dsimp only at hSw); go_simp; (try with_reducible rfl))
      go_simp
      refine wpAnyH_ready (rs := [10]) (by kernel_rfl) (by simp) ?_
      refine AllReadyH.cons rfl (fun K hK => ?_) AllReadyH.nil
      rw [if_pos (by kernel_rfl)]
      go_simp
      refine (UP.out _ HR).mono ?_
      rintro e w42 ⟨A1, c1, rfl, r1, b1⟩
      have y5 := y5.later b1
      have y3 := y3.later b1
      have HR := HR.later b1
      have cb := cb.trans (b1.mono cb.size)
      have k5 := y5.cells
      have k3 := y3.cells
      clear b1
      go_wp2_with fail
      refine hK.out _ _ (by go_keep) (fun hHeld => ?_)
      clear hK K
      go_simp
      refine wpAnyH_ready (rs := [12]) (by kernel_rfl) (by simp) ?_
      refine AllReadyH.cons rfl (fun K hK => ?_) AllReadyH.nil
      rw [if_pos (by kernel_rfl)]
      go_simp
      refine (HS.out _ _ _ r1).mono ?_
      rintro e _ ⟨rfl, rfl⟩
      go_wp2_with fail
      refine hK.out _ _ (by go_keep) (fun hHeld => ?_)
      clear hK K
      go_simp
      refine wpAnyH_take (i := 13) (v := ?vu313) rfl (by kernel_rfl) (by kernel_rfl) (by kernel_rfl) (fun _ _ _ h => h) (Or.inl ⟨by kernel_rfl, ?hyu313⟩) (by assumption) ?restu313
      case hyu313 => (intro w hSw; (try dsimp only at hSw); go_simp; (try with_reducible rfl))
      go_simp
      refine wpAnyH_take (i := 14) (v := ?vu314) rfl (by kernel_rfl) (by kernel_rfl) (by kernel_rfl) (fun _ _ _ h => h) (Or.inl ⟨by kernel_rfl, ?hyu314⟩) (by assumption) ?restu314
      case hyu314 => (intro w hSw; (try dsimp only at hSw); go_simp; (try with_reducible rfl))
      go_simp
      refine wpAnyH_ready (rs := [15]) (by kernel_rfl) (by simp) ?_
      refine AllReadyH.cons rfl (fun K hK => ?_) AllReadyH.nil
      rw [if_pos (by kernel_rfl)]
      go_simp
      refine hK.out _ _ hHeld (fun hHeld => ?_)
      clear hK K
      go_simp
      refine wpAnyH_done (by kernel_rfl) ?_ _
      refine NoPanic.normal ?_
      clear k5 k3 l5 l3
      go_wp2
      go_ret
      exact ⟨rfl, cb⟩
end
end Go.Proofs.Ythkaohjgldoipaa
