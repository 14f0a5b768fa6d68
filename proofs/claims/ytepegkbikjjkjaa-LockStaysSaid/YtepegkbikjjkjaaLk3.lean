/-
  lock: Check of one lock, Open up to 3; the statement's own example, awake.
-/
import Derived.Test.YtepegkbikjjkjaaLk2
import Derived.Test.YtepegkbikjjkjaaSame
namespace Go.Proofs.Ytepegkbikjjkjaa
open Go.RowKit

theorem Try.infoInt : (Try.prog.info? 3).map (fun i => (i.zero, i.size, i.bytes)) = some (some (.int .i64 0), 1, 8) := by kernel_rfl

set_option maxRecDepth 100000 in
set_option maxHeartbeats 1000000 in
theorem check_one {A : Option Addr} {w : World} (hr : RowL w A [(2, 3)]) :
    Calls Try.prog 8 #[.slice A 1 1, .int .i64 2] w fun e' w' => e' = .returned (.tuple #[.int .i64 1, .int .i64 0]) ∧ Below w.heap.size w w' := by
  obtain ⟨b, off, rfl, hbl, hc⟩ := hr.get (by simp)
  have g1 : w.cell? ⟨b, off, none⟩ = some (.int .i64 2) := (hc 0 (by simp)).1
  have g2 : w.cell? ⟨b, off + 1, none⟩ = some (.int .i64 3) := by have := (hc 0 (by simp)).2; simpa using this
  clear hc
  have M := Lib.hid fun w => may_any (A := some ⟨b, off, none⟩) (c := 1) (l := []) (a := 2) (b := 3) (n := 2) (w := w) (by simp) (RowAt.nil _ _)
  rw [show mayI [] 2 3 2 = 0 by decide] at M
  go_enter Try.func8, Try.ntmps8
  go_wp2
  go_loopw [14] (fun i wr => ∃ k : Nat, k ≤ 1 ∧ i = .int .i64 k ∧ Below w.heap.size w wr ∧ (k = 0 → wr = w)) (fun i _ => 1 - (intOf i).toNat)
  case atStart => exact ⟨0, by omega, rfl, Below.refl _ _, fun _ => rfl⟩
  case round =>
    obtain ⟨k, hk, rfl, hb, hw⟩ := hrel
    rcases (by omega : k = 0 ∨ k = 1) with rfl | rfl
    · obtain rfl := hw rfl
      have hlt := hbl
      go_wp2
      have x7 := (Box.new wr 24 #[.int .i64 2, .int .i64 3])
      have B1 := (Below.refl wr.heap.size wr).alloc (Nat.le_refl _) (.cells #[.int .i64 2, .int .i64 3] 24)
      generalize hW : wr.alloc (.cells #[.int .i64 2, .int .i64 3] 24) = W1 at *
      have k7 := x7.cells
      clear hW
      go_region_held3 (fun w' => w'.cell? ⟨wr.heap.size, 0, none⟩ = some (.int .i64 2) ∧ w'.cell? ⟨wr.heap.size, 1, none⟩ = some (.int .i64 3)) (go_keep)
        (first
          | (go_at_call 11; refine (M.out _).mono ?_; rintro e' w1 ⟨rfl, b1⟩; have k8 := (x7.drew.later b1).cells))
      have B2 := B1.trans ((below_undrew b1).mono B1.size)
      clear k8 k7
      go_wp2
      go_roundw
      case rel => exact ⟨1, by omega, rfl, B2, fun h => by omega⟩
      case measure => simp [intOf]
    · go_wp2
      go_ret2
      exact ⟨rfl, hb⟩

/-- The entities from 1 to k that are open. -/
def openTo (l : List (Int × Int)) (p : Int) : Nat → List Int
  | 0 => []
  | k + 1 => if lockB l p ((k : Int) + 1) = true then openTo l p k else openTo l p k ++ [(k : Int) + 1]
theorem openTo_len (l : List (Int × Int)) (p : Int) (k : Nat) : (openTo l p k).length ≤ k := by
  induction k with
  | zero => simp [openTo]
  | succ k ih =>
    unfold openTo
    split
    · omega
    · rw [List.length_append]; simp; omega

set_option maxHeartbeats 1000000 in
theorem open_three {A : Option Addr} {c : Nat} {l : List (Int × Int)} {p : Int} {w : World} (hm : l.length ≤ 1000000) (hr : RowL w A l) :
    Calls Try.prog 10 #[.slice A l.length c, .int .i64 3, .int .i64 p] w fun e' w' => ∃ A' c', e' = .returned (.slice A' (openTo l p 3).length c') ∧ RowAt w' A' (ivals (openTo l p 3)) ∧ Below w.heap.size w w' := by
  obtain ⟨i0, hi, hz0, hz1, hz2⟩ := info_parts Try.infoInt
  have R := Lib.hid hr
  clear hr
  go_enter Try.func10, Try.ntmps10
  go_wp2
  go_loopw [7, 8] (fun v i wr => ∃ k : Nat, k ≤ 3 ∧ i = .int .i64 (k + 1) ∧ wr.ownsRow w.heap.size 3 1 v (openTo l p k).length (ivals (openTo l p k)) ∧ Below w.heap.size w wr) (fun _ i _ => 4 - (intOf i).toNat)
  case atStart => exact ⟨0, by omega, rfl, World.ownsRow_nil _ _ _ _, Below.refl _ _⟩
  case round =>
    obtain ⟨k, hk, rfl, hown, hb⟩ := hrel
    obtain ⟨Av, cv, rfl, _⟩ := own_form hown
    by_cases hkn : k < 3
    · have C := Lib.hid (locked_any (c := c) (c' := 1) (p := p) (es := [(k : Int) + 1]) hm (by simp) ((R.out.below hb (Nat.le_refl _)).alloc (.cells #[.int .i64 ((k : Int) + 1)] 3)) (RowAt.lit1 wr 3 ((k : Int) + 1)))
      rw [anyB_one] at C
      have hlen := openTo_len l p k
      have hS := Lib.hid (show openTo l p (k + 1) = if lockB l p ((k : Int) + 1) = true then openTo l p k else openTo l p k ++ [(k : Int) + 1] from rfl)
      generalize lockB l p ((k : Int) + 1) = q at *
      have hsz := hb.size
      go_wp2_with fail
      refine C.out.mono ?_
      rintro e' w1 ⟨rfl, b1⟩
      have b1 := below_up b1
      have own1 := own_below hown b1 (Nat.le_refl _)
      have hb1 := hb.trans (b1.mono hsz)
      clear hown hb b1 C
      cases q
      · rw [if_neg (by simp)] at hS
        have hN : (openTo l p k).length + 1 ≤ 1099511627776 := by omega
        have hs1 := hb1.size
        go_wp2_with (at_builtin; refine wpList_append_int rfl _ _ 36 rfl w.heap.size 3 i0 Try.underlying36 hi hz0 hz1 hz2 _ _ _ rfl own1 ((k : Int) + 1) rfl hN hs1 ?_)
        intro g3 c3 w4 hown4 hr4 hc3 hm3 hg3 hg3' hsz3
        have hb4 := hb1.grown hr4 hs1 (fun k hk => (own1.lt k hk).1)
        clear own1 hr4 hb1
        go_wp2
        go_roundw
        case rel => exact ⟨k + 1, by omega, by go_num, by rw [hS.out, ivals_append, List.length_append]; exact hown4, hb4⟩
        case measure => simp [intOf]; omega
      · rw [if_pos rfl] at hS
        go_wp2
        go_roundw
        case rel => exact ⟨k + 1, by omega, by go_num, by rw [hS.out]; exact own1, hb1⟩
        case measure => simp [intOf]; omega
    · obtain rfl : k = 3 := by omega
      have H := Lib.hid (RowAt.of_own hown)
      clear hown
      go_wp2
      go_ret
      exact ⟨Av, cv, rfl, H.out, hb⟩
end Go.Proofs.Ytepegkbikjjkjaa
