/-
  account: those, Children, Leaves, Under; the document's Children, Leaf, Leaves, Under.
-/
import Derived.Test.YthkaohjgldoipaaAc3
namespace Go.Proofs.Ythkaohjgldoipaa
open Go.RowKit
section
variable {A : Option Addr} {c : Nat} {l : List Acc} {w : World}

set_option maxRecDepth 100000 in
set_option maxHeartbeats 2000000 in
theorem those_round   (hm : l.length ≤ 1000000) (hr : RowC w A l)  :
    Calls Try.prog 62 #[.slice A l.length c, .func (.func 63) #[.slice A l.length c] #[]] w (NewRow ((upto l.length).filter (rndA l)) w) := by
  obtain ⟨i0, hi, hz0, hz1, hz2⟩ := info_parts Try.infoInt'
  have C := Lib.hid fun (k : Nat) (hk : k < l.length) (w : World) (hr : RowC w A l)  => (around_any (c := c) ((k : Int) + 1) (isA_get hk) hm hr).mono fun e w1 (h : e = .returned (.bool (rndA l ((k : Int) + 1))) ∧ w = w1) => (⟨h.1, h.2 ▸ Below.refl _ _⟩ : e = .returned (.bool (rndA l ((k : Int) + 1))) ∧ Below w.heap.size w w1)
  have R := Lib.hid hr

  clear hr 
  obtain ⟨p, hp⟩ : ∃ p : Int → Bool, p = rndA l := ⟨_, rfl⟩
  rw [← hp]
  have hpi : Hid (∀ i, p i = (rndA l) i) := fun i => by rw [hp]
  clear hp
  go_enter Try.func62, Try.ntmps62
  go_wp2
  go_loopw [5, 9] (fun o t wr => ∃ (k : Nat) (A' : Option Addr) (c' : Nat), k ≤ l.length ∧ o = .slice A' ((upto k).filter p).length c' ∧ t = .int .i64 k ∧ ((upto k).filter p).length ≤ c' ∧ c' ≤ maxLen ∧ wr.ownsRow w.heap.size 3 1 (.slice A' ((upto k).filter p).length c') ((upto k).filter p).length (ivals ((upto k).filter p)) ∧ Below w.heap.size w wr)
    (fun _ t _ => l.length - (intOf t).toNat)
  case atStart => exact ⟨0, none, 0, by omega, rfl, rfl, by simp [upto], by unfold maxLen; omega, World.ownsRow_nil _ _ _ _, Below.refl _ _⟩
  case round =>
    obtain ⟨k, A', c', hk, rfl, rfl, hl, hmx, hown, hb⟩ := hrel
    by_cases hkn : k < l.length
    · have Ck := C.out k hkn wr (R.out.later hb) 
      have hst := flt_snoc p k
      have hlen := flt_len p k
      have hpk := hpi.out ((k : Int) + 1)
      rw [← hpk] at Ck
      clear hpk
      generalize (upto k).filter p = out at *
      cases hq : p ((k : Int) + 1)
      · rw [hq] at Ck hst
        rw [if_neg (by decide), List.append_nil] at hst
        replace Ck := Lib.hid Ck
        replace hst := Lib.hid hst
        clear hq
        go_wp2_with fail
        refine Ck.out.mono ?_
        rintro e w2 ⟨rfl, b2⟩
        have hown2 := own_below hown b2 (Nat.le_refl _)
        have hb2 := hb.trans (b2.mono hb.size)
        clear hown hb b2
        go_wp2
        go_roundw
        case rel => exact ⟨k + 1, A', c', by omega, by rw [hst.out], by go_num, by rw [hst.out]; exact hl, hmx, by rw [hst.out]; exact hown2, hb2⟩
        case measure => simp [intOf]; omega
      · rw [hq] at Ck hst
        rw [if_pos rfl] at hst
        replace Ck := Lib.hid Ck
        replace hst := Lib.hid hst
        clear hq
        go_wp2_with fail
        refine Ck.out.mono ?_
        rintro e w2 ⟨rfl, b2⟩
        have hown2 := own_below hown b2 (Nat.le_refl _)
        have hb2 := hb.trans (b2.mono hb.size)
        clear hown hb b2
        have hN : out.length + 1 ≤ 1099511627776 := by omega
        have hsz := hb2.size
        go_wp2_with (at_builtin; refine wpList_append_int rfl _ _ 55 rfl w.heap.size 3 i0 Try.underlying55 hi hz0 hz1 hz2 _ _ _ rfl hown2 ((k : Int) + 1) rfl hN hsz ?_)
        intro g3' c3 w4 hown4 hr4 hc3 hm3 hg3 hg3' hsz3
        have hb4 := hb2.grown hr4 hsz (fun k hk => (hown2.lt k hk).1)
        clear hown2 hr4 hb2
        go_wp2
        go_roundw
        case rel => exact ⟨k + 1, some ⟨g3', 0, none⟩, c3, by omega, by rw [hst.out]; simp, by go_num, by rw [hst.out]; simp; exact hc3, hm3, by rw [hst.out, ivals_append, List.length_append]; exact hown4, hb4⟩
        case measure => simp [intOf]; omega
    · obtain rfl : k = l.length := by omega
      generalize (upto l.length).filter p = out at *
      go_wp2
      go_ret
      exact ⟨A', c', rfl, hl, hmx, hown, hb⟩

set_option maxRecDepth 100000 in
set_option maxHeartbeats 2000000 in
theorem those_child {a : Int} {g5 g3 : Nat} (hm : l.length ≤ 1000000) (hr : RowC w A l) (b5 : Box w g5 94 #[.slice A l.length c]) (b3 : Box w g3 3 #[.int .i64 a]) :
    Calls Try.prog 62 #[.slice A l.length c, .func (.func 67) #[] #[.pointer (some ⟨g5, 0, none⟩), .pointer (some ⟨g3, 0, none⟩)]] w (NewRow ((upto l.length).filter (fun x => fA l x == a)) w) := by
  obtain ⟨i0, hi, hz0, hz1, hz2⟩ := info_parts Try.infoInt'
  have C := Lib.hid fun (k : Nat) (hk : k < l.length) (w : World) (hr : RowC w A l) (b5 : Box w g5 94 #[.slice A l.length c]) (b3 : Box w g3 3 #[.int .i64 a]) => achild1 hk hm hr b5 b3
  have R := Lib.hid hr
  have B5 := Lib.hid b5
  have B3 := Lib.hid b3
  clear hr b5 b3
  obtain ⟨p, hp⟩ : ∃ p : Int → Bool, p = fun x => fA l x == a := ⟨_, rfl⟩
  rw [← hp]
  have hpi : Hid (∀ i, p i = (fun x => fA l x == a) i) := fun i => by rw [hp]
  clear hp
  go_enter Try.func62, Try.ntmps62
  go_wp2
  go_loopw [5, 9] (fun o t wr => ∃ (k : Nat) (A' : Option Addr) (c' : Nat), k ≤ l.length ∧ o = .slice A' ((upto k).filter p).length c' ∧ t = .int .i64 k ∧ ((upto k).filter p).length ≤ c' ∧ c' ≤ maxLen ∧ wr.ownsRow w.heap.size 3 1 (.slice A' ((upto k).filter p).length c') ((upto k).filter p).length (ivals ((upto k).filter p)) ∧ Below w.heap.size w wr)
    (fun _ t _ => l.length - (intOf t).toNat)
  case atStart => exact ⟨0, none, 0, by omega, rfl, rfl, by simp [upto], by unfold maxLen; omega, World.ownsRow_nil _ _ _ _, Below.refl _ _⟩
  case round =>
    obtain ⟨k, A', c', hk, rfl, rfl, hl, hmx, hown, hb⟩ := hrel
    by_cases hkn : k < l.length
    · have Ck := C.out k hkn wr (R.out.later hb) (B5.out.later hb) (B3.out.later hb)
      have hst := flt_snoc p k
      have hlen := flt_len p k
      have hpk := hpi.out ((k : Int) + 1)
      rw [← hpk] at Ck
      clear hpk
      generalize (upto k).filter p = out at *
      cases hq : p ((k : Int) + 1)
      · rw [hq] at Ck hst
        rw [if_neg (by decide), List.append_nil] at hst
        replace Ck := Lib.hid Ck
        replace hst := Lib.hid hst
        clear hq
        go_wp2_with fail
        refine Ck.out.mono ?_
        rintro e w2 ⟨rfl, b2⟩
        have hown2 := own_below hown b2 (Nat.le_refl _)
        have hb2 := hb.trans (b2.mono hb.size)
        clear hown hb b2
        go_wp2
        go_roundw
        case rel => exact ⟨k + 1, A', c', by omega, by rw [hst.out], by go_num, by rw [hst.out]; exact hl, hmx, by rw [hst.out]; exact hown2, hb2⟩
        case measure => simp [intOf]; omega
      · rw [hq] at Ck hst
        rw [if_pos rfl] at hst
        replace Ck := Lib.hid Ck
        replace hst := Lib.hid hst
        clear hq
        go_wp2_with fail
        refine Ck.out.mono ?_
        rintro e w2 ⟨rfl, b2⟩
        have hown2 := own_below hown b2 (Nat.le_refl _)
        have hb2 := hb.trans (b2.mono hb.size)
        clear hown hb b2
        have hN : out.length + 1 ≤ 1099511627776 := by omega
        have hsz := hb2.size
        go_wp2_with (at_builtin; refine wpList_append_int rfl _ _ 55 rfl w.heap.size 3 i0 Try.underlying55 hi hz0 hz1 hz2 _ _ _ rfl hown2 ((k : Int) + 1) rfl hN hsz ?_)
        intro g3' c3 w4 hown4 hr4 hc3 hm3 hg3 hg3' hsz3
        have hb4 := hb2.grown hr4 hsz (fun k hk => (hown2.lt k hk).1)
        clear hown2 hr4 hb2
        go_wp2
        go_roundw
        case rel => exact ⟨k + 1, some ⟨g3', 0, none⟩, c3, by omega, by rw [hst.out]; simp, by go_num, by rw [hst.out]; simp; exact hc3, hm3, by rw [hst.out, ivals_append, List.length_append]; exact hown4, hb4⟩
        case measure => simp [intOf]; omega
    · obtain rfl : k = l.length := by omega
      generalize (upto l.length).filter p = out at *
      go_wp2
      go_ret
      exact ⟨A', c', rfl, hl, hmx, hown, hb⟩

set_option maxRecDepth 100000 in
set_option maxHeartbeats 2000000 in
theorem those_leaves  {g3 g1 : Nat} (hm : l.length ≤ 1000000) (hr : RowC w A l) (b3 : Box w g3 98 #[.func (.func 69) #[] #[]]) (b1 : Box w g1 50 #[.slice A l.length c]) :
    Calls Try.prog 62 #[.slice A l.length c, .func (.func 70) #[] #[.pointer (some ⟨g3, 0, none⟩), .pointer (some ⟨g1, 0, none⟩)]] w (NewRow ((upto l.length).filter (leafA l)) w) := by
  obtain ⟨i0, hi, hz0, hz1, hz2⟩ := info_parts Try.infoInt'
  have C := Lib.hid fun (k : Nat) (hk : k < l.length) (w : World) (hr : RowC w A l) (b3 : Box w g3 98 #[.func (.func 69) #[] #[]]) (b1 : Box w g1 50 #[.slice A l.length c]) => aleaves1 ((k : Int) + 1) hm hr b3 b1
  have R := Lib.hid hr
  have B3 := Lib.hid b3
  have B1 := Lib.hid b1
  clear hr b3 b1
  obtain ⟨p, hp⟩ : ∃ p : Int → Bool, p = leafA l := ⟨_, rfl⟩
  rw [← hp]
  have hpi : Hid (∀ i, p i = (leafA l) i) := fun i => by rw [hp]
  clear hp
  go_enter Try.func62, Try.ntmps62
  go_wp2
  go_loopw [5, 9] (fun o t wr => ∃ (k : Nat) (A' : Option Addr) (c' : Nat), k ≤ l.length ∧ o = .slice A' ((upto k).filter p).length c' ∧ t = .int .i64 k ∧ ((upto k).filter p).length ≤ c' ∧ c' ≤ maxLen ∧ wr.ownsRow w.heap.size 3 1 (.slice A' ((upto k).filter p).length c') ((upto k).filter p).length (ivals ((upto k).filter p)) ∧ Below w.heap.size w wr)
    (fun _ t _ => l.length - (intOf t).toNat)
  case atStart => exact ⟨0, none, 0, by omega, rfl, rfl, by simp [upto], by unfold maxLen; omega, World.ownsRow_nil _ _ _ _, Below.refl _ _⟩
  case round =>
    obtain ⟨k, A', c', hk, rfl, rfl, hl, hmx, hown, hb⟩ := hrel
    by_cases hkn : k < l.length
    · have Ck := C.out k hkn wr (R.out.later hb) (B3.out.later hb) (B1.out.later hb)
      have hst := flt_snoc p k
      have hlen := flt_len p k
      have hpk := hpi.out ((k : Int) + 1)
      rw [← hpk] at Ck
      clear hpk
      generalize (upto k).filter p = out at *
      cases hq : p ((k : Int) + 1)
      · rw [hq] at Ck hst
        rw [if_neg (by decide), List.append_nil] at hst
        replace Ck := Lib.hid Ck
        replace hst := Lib.hid hst
        clear hq
        go_wp2_with fail
        refine Ck.out.mono ?_
        rintro e w2 ⟨rfl, b2⟩
        have hown2 := own_below hown b2 (Nat.le_refl _)
        have hb2 := hb.trans (b2.mono hb.size)
        clear hown hb b2
        go_wp2
        go_roundw
        case rel => exact ⟨k + 1, A', c', by omega, by rw [hst.out], by go_num, by rw [hst.out]; exact hl, hmx, by rw [hst.out]; exact hown2, hb2⟩
        case measure => simp [intOf]; omega
      · rw [hq] at Ck hst
        rw [if_pos rfl] at hst
        replace Ck := Lib.hid Ck
        replace hst := Lib.hid hst
        clear hq
        go_wp2_with fail
        refine Ck.out.mono ?_
        rintro e w2 ⟨rfl, b2⟩
        have hown2 := own_below hown b2 (Nat.le_refl _)
        have hb2 := hb.trans (b2.mono hb.size)
        clear hown hb b2
        have hN : out.length + 1 ≤ 1099511627776 := by omega
        have hsz := hb2.size
        go_wp2_with (at_builtin; refine wpList_append_int rfl _ _ 55 rfl w.heap.size 3 i0 Try.underlying55 hi hz0 hz1 hz2 _ _ _ rfl hown2 ((k : Int) + 1) rfl hN hsz ?_)
        intro g3' c3 w4 hown4 hr4 hc3 hm3 hg3 hg3' hsz3
        have hb4 := hb2.grown hr4 hsz (fun k hk => (hown2.lt k hk).1)
        clear hown2 hr4 hb2
        go_wp2
        go_roundw
        case rel => exact ⟨k + 1, some ⟨g3', 0, none⟩, c3, by omega, by rw [hst.out]; simp, by go_num, by rw [hst.out]; simp; exact hc3, hm3, by rw [hst.out, ivals_append, List.length_append]; exact hown4, hb4⟩
        case measure => simp [intOf]; omega
    · obtain rfl : k = l.length := by omega
      generalize (upto l.length).filter p = out at *
      go_wp2
      go_ret
      exact ⟨A', c', rfl, hl, hmx, hown, hb⟩

set_option maxRecDepth 100000 in
set_option maxHeartbeats 2000000 in
theorem those_under {a : Int} {g5 g3 : Nat} (hm : l.length ≤ 1000000) (hr : RowC w A l) (b5 : Box w g5 94 #[.slice A l.length c]) (b3 : Box w g3 3 #[.int .i64 a]) :
    Calls Try.prog 62 #[.slice A l.length c, .func (.func 72) #[] #[.pointer (some ⟨g5, 0, none⟩), .pointer (some ⟨g3, 0, none⟩)]] w (NewRow ((upto l.length).filter (undB l a)) w) := by
  obtain ⟨i0, hi, hz0, hz1, hz2⟩ := info_parts Try.infoInt'
  have C := Lib.hid fun (k : Nat) (hk : k < l.length) (w : World) (hr : RowC w A l) (b5 : Box w g5 94 #[.slice A l.length c]) (b3 : Box w g3 3 #[.int .i64 a]) => aunder1 ((k : Int) + 1) hm hr b5 b3
  have R := Lib.hid hr
  have B5 := Lib.hid b5
  have B3 := Lib.hid b3
  clear hr b5 b3
  obtain ⟨p, hp⟩ : ∃ p : Int → Bool, p = undB l a := ⟨_, rfl⟩
  rw [← hp]
  have hpi : Hid (∀ i, p i = (undB l a) i) := fun i => by rw [hp]
  clear hp
  go_enter Try.func62, Try.ntmps62
  go_wp2
  go_loopw [5, 9] (fun o t wr => ∃ (k : Nat) (A' : Option Addr) (c' : Nat), k ≤ l.length ∧ o = .slice A' ((upto k).filter p).length c' ∧ t = .int .i64 k ∧ ((upto k).filter p).length ≤ c' ∧ c' ≤ maxLen ∧ wr.ownsRow w.heap.size 3 1 (.slice A' ((upto k).filter p).length c') ((upto k).filter p).length (ivals ((upto k).filter p)) ∧ Below w.heap.size w wr)
    (fun _ t _ => l.length - (intOf t).toNat)
  case atStart => exact ⟨0, none, 0, by omega, rfl, rfl, by simp [upto], by unfold maxLen; omega, World.ownsRow_nil _ _ _ _, Below.refl _ _⟩
  case round =>
    obtain ⟨k, A', c', hk, rfl, rfl, hl, hmx, hown, hb⟩ := hrel
    by_cases hkn : k < l.length
    · have Ck := C.out k hkn wr (R.out.later hb) (B5.out.later hb) (B3.out.later hb)
      have hst := flt_snoc p k
      have hlen := flt_len p k
      have hpk := hpi.out ((k : Int) + 1)
      rw [← hpk] at Ck
      clear hpk
      generalize (upto k).filter p = out at *
      cases hq : p ((k : Int) + 1)
      · rw [hq] at Ck hst
        rw [if_neg (by decide), List.append_nil] at hst
        replace Ck := Lib.hid Ck
        replace hst := Lib.hid hst
        clear hq
        go_wp2_with fail
        refine Ck.out.mono ?_
        rintro e w2 ⟨rfl, b2⟩
        have hown2 := own_below hown b2 (Nat.le_refl _)
        have hb2 := hb.trans (b2.mono hb.size)
        clear hown hb b2
        go_wp2
        go_roundw
        case rel => exact ⟨k + 1, A', c', by omega, by rw [hst.out], by go_num, by rw [hst.out]; exact hl, hmx, by rw [hst.out]; exact hown2, hb2⟩
        case measure => simp [intOf]; omega
      · rw [hq] at Ck hst
        rw [if_pos rfl] at hst
        replace Ck := Lib.hid Ck
        replace hst := Lib.hid hst
        clear hq
        go_wp2_with fail
        refine Ck.out.mono ?_
        rintro e w2 ⟨rfl, b2⟩
        have hown2 := own_below hown b2 (Nat.le_refl _)
        have hb2 := hb.trans (b2.mono hb.size)
        clear hown hb b2
        have hN : out.length + 1 ≤ 1099511627776 := by omega
        have hsz := hb2.size
        go_wp2_with (at_builtin; refine wpList_append_int rfl _ _ 55 rfl w.heap.size 3 i0 Try.underlying55 hi hz0 hz1 hz2 _ _ _ rfl hown2 ((k : Int) + 1) rfl hN hsz ?_)
        intro g3' c3 w4 hown4 hr4 hc3 hm3 hg3 hg3' hsz3
        have hb4 := hb2.grown hr4 hsz (fun k hk => (hown2.lt k hk).1)
        clear hown2 hr4 hb2
        go_wp2
        go_roundw
        case rel => exact ⟨k + 1, some ⟨g3', 0, none⟩, c3, by omega, by rw [hst.out]; simp, by go_num, by rw [hst.out]; simp; exact hc3, hm3, by rw [hst.out, ivals_append, List.length_append]; exact hown4, hb4⟩
        case measure => simp [intOf]; omega
    · obtain rfl : k = l.length := by omega
      generalize (upto l.length).filter p = out at *
      go_wp2
      go_ret
      exact ⟨A', c', rfl, hl, hmx, hown, hb⟩

set_option maxHeartbeats 2000000 in
theorem achildren_any (x : Int) (hm : l.length ≤ 1000000) (hr : RowC w A l) : Calls Try.prog 30 #[.slice A l.length c, .int .i64 x] w (NewRow (kidA l x) w) := by
  have hmf : ∀ (fn : Fn) (first cap : Array Value) (w : World), (Instr.makeFunc fn first cap).run Try.prog w = .ok (.func fn first cap) w := fun _ _ _ _ => rfl
  have IS := fun w => ais_any A c l x w
  have b3 : Box ((w.alloc (.cells #[.int .i64 x] 3)).alloc (.cells #[.slice A l.length c] 94)) w.heap.size 3 #[.int .i64 x] := (Box.new _ _ _).alloc _
  have b5 : Box ((w.alloc (.cells #[.int .i64 x] 3)).alloc (.cells #[.slice A l.length c] 94)) (w.heap.size + 1) 94 #[.slice A l.length c] := Box.new' (by simp)
  have T := Lib.hid (those_child hm ((hr.alloc (.cells #[.int .i64 x] 3)).alloc (.cells #[.slice A l.length c] 94)) b5 b3)
  have BN : Below w.heap.size w ((w.alloc (.cells #[.int .i64 x] 3)).alloc (.cells #[.slice A l.length c] 94)) := ((Below.refl _ _).alloc (Nat.le_refl _) _).alloc (by simp) _
  have hd : kidA l x = if isA l x = true then (upto l.length).filter (fun y => fA l y == x) else [] := rfl
  rw [hd]
  clear hd
  cases hi : isA l x
  · rw [hi] at IS
    replace IS := Lib.hid IS
    rw [if_neg (by decide)]
    clear hi hr b3 b5 T
    go_enter Try.func30, Try.ntmps30
    go_wp2_with fail
    refine (IS.out _).mono ?_
    rintro e _ ⟨rfl, rfl⟩
    go_wp2
    go_ret
    exact ⟨none, 0, rfl, Nat.le_refl _, by unfold maxLen; omega, World.ownsRow_nil _ _ _ _, BN⟩
  · rw [hi] at IS
    replace IS := Lib.hid IS
    rw [if_pos rfl]
    clear hi hr b3 b5 BN
    generalize (upto l.length).filter _ = zs at *
    go_enter Try.func30, Try.ntmps30
    go_wp2_with fail
    refine (IS.out _).mono ?_
    rintro e _ ⟨rfl, rfl⟩
    go_wp2_with fail
    refine T.out.mono ?_
    rintro e w1 hr
    obtain ⟨A, c, rfl, h2, h3, h4, h5⟩ := hr.up.up
    clear hr
    go_wp2
    go_ret
    exact ⟨A, c, rfl, h2, h3, h4, h5⟩

set_option maxHeartbeats 2000000 in
theorem aundera_any (x : Int) (hm : l.length ≤ 1000000) (hr : RowC w A l) : Calls Try.prog 38 #[.slice A l.length c, .int .i64 x] w (NewRow (undA l x) w) := by
  have hmf : ∀ (fn : Fn) (first cap : Array Value) (w : World), (Instr.makeFunc fn first cap).run Try.prog w = .ok (.func fn first cap) w := fun _ _ _ _ => rfl
  have IS := fun w => ais_any A c l x w
  have b3 : Box ((w.alloc (.cells #[.int .i64 x] 3)).alloc (.cells #[.slice A l.length c] 94)) w.heap.size 3 #[.int .i64 x] := (Box.new _ _ _).alloc _
  have b5 : Box ((w.alloc (.cells #[.int .i64 x] 3)).alloc (.cells #[.slice A l.length c] 94)) (w.heap.size + 1) 94 #[.slice A l.length c] := Box.new' (by simp)
  have T := Lib.hid (those_under hm ((hr.alloc (.cells #[.int .i64 x] 3)).alloc (.cells #[.slice A l.length c] 94)) b5 b3)
  have BN : Below w.heap.size w ((w.alloc (.cells #[.int .i64 x] 3)).alloc (.cells #[.slice A l.length c] 94)) := ((Below.refl _ _).alloc (Nat.le_refl _) _).alloc (by simp) _
  have hd : undA l x = if isA l x = true then (upto l.length).filter (undB l x) else [] := rfl
  rw [hd]
  clear hd
  cases hi : isA l x
  · rw [hi] at IS
    replace IS := Lib.hid IS
    rw [if_neg (by decide)]
    clear hi hr b3 b5 T
    go_enter Try.func38, Try.ntmps38
    go_wp2_with fail
    refine (IS.out _).mono ?_
    rintro e _ ⟨rfl, rfl⟩
    go_wp2
    go_ret
    exact ⟨none, 0, rfl, Nat.le_refl _, by unfold maxLen; omega, World.ownsRow_nil _ _ _ _, BN⟩
  · rw [hi] at IS
    replace IS := Lib.hid IS
    rw [if_pos rfl]
    clear hi hr b3 b5 BN
    generalize (upto l.length).filter _ = zs at *
    go_enter Try.func38, Try.ntmps38
    go_wp2_with fail
    refine (IS.out _).mono ?_
    rintro e _ ⟨rfl, rfl⟩
    go_wp2_with fail
    refine T.out.mono ?_
    rintro e w1 hr
    obtain ⟨A, c, rfl, h2, h3, h4, h5⟩ := hr.up.up
    clear hr
    go_wp2
    go_ret
    exact ⟨A, c, rfl, h2, h3, h4, h5⟩

set_option maxHeartbeats 2000000 in
theorem aleavesl_any (hm : l.length ≤ 1000000) (hr : RowC w A l) : Calls Try.prog 34 #[.slice A l.length c] w (NewRow (leavesA l) w) := by
  have hmf : ∀ (fn : Fn) (first cap : Array Value) (w : World), (Instr.makeFunc fn first cap).run Try.prog w = .ok (.func fn first cap) w := fun _ _ _ _ => rfl
  have hsf := fun (w : World) (a : Addr) (fn : Fn) (x y : Array Value) (m : Mode) => run_store Try.prog w a (.func fn x y) m rfl
  have b1 : Box ((w.alloc (.cells #[.slice A l.length c] 50)).alloc (.cells #[.func (.func 69) #[] #[]] 98)) w.heap.size 50 #[.slice A l.length c] := (Box.new _ _ _).alloc _
  have b3 : Box ((w.alloc (.cells #[.slice A l.length c] 50)).alloc (.cells #[.func (.func 69) #[] #[]] 98)) (w.heap.size + 1) 98 #[.func (.func 69) #[] #[]] := Box.new' (by simp)
  have T := Lib.hid (those_leaves hm ((hr.alloc (.cells #[.slice A l.length c] 50)).alloc (.cells #[.func (.func 69) #[] #[]] 98)) b3 b1)
  have hd : leavesA l = (upto l.length).filter (leafA l) := rfl
  rw [hd]
  clear hd hr b3 b1
  generalize (upto l.length).filter _ = zs at *
  go_enter Try.func34, Try.ntmps34
  go_wp2_with fail
  refine T.out.mono ?_
  rintro e w1 hr
  obtain ⟨A, c, rfl, h2, h3, h4, h5⟩ := hr.up.up
  clear hr
  go_wp2
  go_ret
  exact ⟨A, c, rfl, h2, h3, h4, h5⟩
theorem aleafl_any (x : Int) (hm : l.length ≤ 1000000) (hr : RowC w A l) : Calls Try.prog 32 #[.slice A l.length c, .int .i64 x] w fun e w' => e = .returned (.bool (leafA l x)) ∧ Below w.heap.size w w' := by
  have C := Lib.hid (aleaf_any (c := c) x hm hr)
  generalize leafA l x = y at *
  clear hr
  go_enter Try.func32, Try.ntmps32
  go_wp2_with fail
  refine C.out.mono ?_
  rintro e w1 ⟨rfl, b1⟩
  go_wp2
  go_ret
  exact ⟨rfl, b1⟩
theorem aupl_any (x : Int) (hm : l.length ≤ 1000000) (hr : RowC w A l) : Calls Try.prog 36 #[.slice A l.length c, .int .i64 x] w (NewRow (upA l x) w) := by
  have C := Lib.hid (aup_any (c := c) x hm hr)
  generalize upA l x = y at *
  clear hr
  go_enter Try.func36, Try.ntmps36
  go_wp2_with fail
  refine C.out.mono ?_
  rintro e w1 ⟨A, c, rfl, h2, h3, h4, h5⟩
  go_wp2
  go_ret
  exact ⟨A, c, rfl, h2, h3, h4, h5⟩
end
end Go.Proofs.Ythkaohjgldoipaa
