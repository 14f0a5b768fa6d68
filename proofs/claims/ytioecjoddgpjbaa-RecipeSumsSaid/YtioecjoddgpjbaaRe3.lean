/-
  recipe: room for cells; rows of cells joined.
-/
import Derived.Test.YtioecjoddgpjbaaRe2
import Derived.Test.YtioecjoddgpjbaaApN
import Derived.Lib.AppendZeros
namespace Go.Proofs.Ytioecjoddgpjbaa
open Go.RowKit

theorem Try.infoCel : (Try.prog.info? 27).map (fun i => (i.zero, i.size, i.bytes)) = some (some (.agg #[.int .i64 0, .int .i64 0, .int .i64 0, .int .i64 0, .int .i64 0, .int .i64 0]), 6, 48) := by kernel_rfl
theorem own_room {w : World} {base g cap : Nat} {e : TypeId} {size : Nat} {cs : Array Value} (hb : base ≤ g) (h : Box w g e cs) (hc : cs.size = cap * size) (hm : cap ≤ maxLen) : w.ownsRow base e size (.slice (some ⟨g, 0, none⟩) 0 cap) 0 [] :=
  ⟨by simp, .inr ⟨g, cap, cs, rfl, hb, h, Nat.zero_le _, hm, hc, by simp⟩⟩
set_option maxRecDepth 100000 in
set_option maxHeartbeats 2000000 in
theorem grow_any (n : Nat) (hn : n ≤ 1000000) (w : World) : Calls Try.prog 37 #[.slice none 0 0, .int .i64 n] w (NewOf CelE 27 [] w) := by
  obtain ⟨i0, hi, hz0, hz1, hz2⟩ := info_parts Try.infoCel
  rcases Nat.eq_zero_or_pos n with rfl | hpos
  · go_enter Try.func37, Try.ntmps37
    go_wp2
    go_ret
    exact ⟨none, 0, rfl, Nat.le_refl _, by unfold maxLen; omega, World.ownsRow_nil _ _ _ _, Below.refl _ _⟩
  · have hAP := fun (w : World) => Lib.run_append_nil_zeros (P := Try.prog) w 25 3 25 27 i0 _ .i64 .i64 Try.underlying25 Try.underlying3 hi hz0 n hpos (by omega) (by omega) (by rw [hz2]; omega)
    have hd : decide ((0 : Int) < (n : Int)) = true := decide_eq_true (by omega)
    have hg := grownCap_ge w n 0 27
    have hgm := grownCap_le_maxLen w n 0 27 (by unfold maxLen; omega)
    go_enter Try.func37, Try.ntmps37
    go_wp2_with (at_builtin; refine Lib.wpList_append_run _ rfl _ _ _ _ rfl _ _ rfl rfl _ _ (hAP w) ?_)
    go_wp2
    go_ret
    refine ⟨some ⟨w.heap.size, 0, none⟩, _, rfl, Nat.zero_le _, hgm, own_room (Nat.le_refl _) (Box.new w _ _).drew ?_ hgm, below_drewN ((Below.refl _ w).alloc (Nat.le_refl _) _) 1⟩
    rw [Array.size_append, size_zeroCells, size_zeroCells]
    show n * 6 + (grownCap w n 0 27 - n) * 6 = grownCap w n 0 27 * 6
    rw [← Nat.add_mul]
    congr 1
    omega
section
variable {A1 A2 : Option Addr} {c1 c2 g : Nat} {l m : List Cel} {w : World}
set_option maxRecDepth 100000 in
set_option maxHeartbeats 4000000 in
theorem concat_any (hl : l.length ≤ 1000) (hm : m.length ≤ 1000) (hb : Box w g 25 #[.slice A1 l.length c1, .slice A2 m.length c2]) (hr1 : CelE.Row w A1 l) (hr2 : CelE.Row w A2 m) :
    Calls Try.prog 23 #[.slice (some ⟨g, 0, none⟩) 2 2] w (NewOf CelE 27 (l ++ m) w) := by
  obtain ⟨i0, hi, hz0, hz1, hz2⟩ := info_parts Try.infoCel
  have GR := Lib.hid fun n h w => grow_any n h w
  have k0 := hb.cells
  have l0 := hb.lt
  have HR1 := Lib.hid hr1
  have HR2 := Lib.hid hr2
  have HB := Lib.hid hb
  clear hr1 hr2 hb
  go_enter Try.func23, Try.ntmps23
  go_wp2
  go_loopw [3, 11] (fun n i wr => ((n = .int .i64 0 ∧ i = .int .i64 0) ∨ (n = .int .i64 (l.length : Int) ∧ i = .int .i64 1) ∨ (n = .int .i64 ((l.length : Int) + (m.length : Int)) ∧ i = .int .i64 2)) ∧ w = wr) (fun _ i _ => 2 - (intOf i).toNat)
  case atStart => exact ⟨.inl ⟨rfl, rfl⟩, rfl⟩
  case round =>
    obtain ⟨⟨rfl, rfl⟩ | ⟨rfl, rfl⟩ | ⟨rfl, rfl⟩, rfl⟩ := hrel
    · go_wp2
      go_roundw
      case rel => exact ⟨.inr (.inl ⟨rfl, rfl⟩), trivial⟩
      case measure => simp [intOf]
    · go_wp2
      go_roundw
      case rel => exact ⟨.inr (.inr ⟨by go_num, by go_num⟩), trivial⟩
      case measure => simp [intOf]
    · have G := GR.out (l.length + m.length) (by omega) w
      rw [Int.natCast_add] at G
      replace G := Lib.hid G
      go_wp2_with fail
      refine G.out.mono ?_
      rintro e w1 ⟨A6, c6, rfl, _, _, own6, b6⟩
      clear G
      go_wp2
      go_loopw [6, 27] (fun s i wr => ∃ (L : List Cel) (A' : Option Addr) (c' : Nat), s = .slice A' L.length c' ∧ wr.ownsRow w.heap.size 27 6 (.slice A' L.length c') L.length (CelE.vs L) ∧ Below w.heap.size w wr ∧ ((i = .int .i64 0 ∧ L = []) ∨ (i = .int .i64 1 ∧ L = l) ∨ (i = .int .i64 2 ∧ L = l ++ m))) (fun _ i _ => 2 - (intOf i).toNat)
      case atStart => exact ⟨[], A6, c6, rfl, own6, b6, .inl ⟨rfl, rfl⟩⟩
      case round =>
        clear own6 b6
        obtain ⟨L, A', c', rfl, hown, hb, ⟨rfl, rfl⟩ | ⟨rfl, hL⟩ | ⟨rfl, hL⟩⟩ := hrel
        · have k0' : ∀ i, wr.cell? ⟨g, i, none⟩ = (#[.slice A1 l.length c1, .slice A2 m.length c2] : Array Value)[i]? := ((HB.out.below hb l0)).cells
          go_wp2_with (at_builtin; refine wpList_append_rowN rfl _ _ 25 rfl w.heap.size 27 i0 _ 6 48 Try.underlying25 hi hz0 hz1 hz2 rfl (by decide) _ [].length (CelE.vs []) rfl hown A1 l.length c1 (CelE.vs l) rfl (CelE.vs_len l) (HR1.out.below hb (Nat.le_refl _)) (CelE.vs_ones l) (by unfold maxLen; (try simp); omega) (by (try simp); omega) hb.size ?_)
          intro A7 c7 w7 hown7 hgr7
          have hb7 := hb.grown hgr7 hb.size (fun k hk => (hown.lt k hk).1)
          rw [← CelE.vs_append] at hown7
          rw [List.nil_append] at hown7
          go_wp2
          go_roundw
          case rel => exact ⟨l, A7, c7, rfl, hown7, hb7, .inr (.inl ⟨rfl, rfl⟩)⟩
          case measure => simp [intOf]
        · have k0' : ∀ i, wr.cell? ⟨g, i, none⟩ = (#[.slice A1 l.length c1, .slice A2 m.length c2] : Array Value)[i]? := ((HB.out.below hb l0)).cells
          subst hL
          go_wp2_with (at_builtin; refine wpList_append_rowN rfl _ _ 25 rfl w.heap.size 27 i0 _ 6 48 Try.underlying25 hi hz0 hz1 hz2 rfl (by decide) _ L.length (CelE.vs L) rfl hown A2 m.length c2 (CelE.vs m) rfl (CelE.vs_len m) (HR2.out.below hb (Nat.le_refl _)) (CelE.vs_ones m) (by unfold maxLen; (try simp); omega) (by (try simp); omega) hb.size ?_)
          intro A7 c7 w7 hown7 hgr7
          have hb7 := hb.grown hgr7 hb.size (fun k hk => (hown.lt k hk).1)
          rw [← CelE.vs_append] at hown7
          have hlen := Lib.hid (show (L ++ m).length = L.length + m.length from List.length_append)
          go_wp2
          go_roundw
          case rel => exact ⟨L ++ m, A7, c7, by rw [hlen.out], by rw [hlen.out]; exact hown7, hb7, .inr (.inr ⟨by go_num, rfl⟩)⟩
          case measure => simp [intOf]
        · have hcap := own_cap hown
          subst hL
          go_wp2
          go_ret
          exact ⟨A', c', rfl, hcap.1, hcap.2, hown, hb⟩
end
end Go.Proofs.Ytioecjoddgpjbaa
