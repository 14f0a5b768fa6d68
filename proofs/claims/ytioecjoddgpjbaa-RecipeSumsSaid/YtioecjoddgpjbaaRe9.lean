/-
  recipe: a value by a recipe's rate; the values of cells off the map.
-/
import Derived.Test.YtioecjoddgpjbaaRe8
namespace Go.Proofs.Ytioecjoddgpjbaa
open Go.RowKit

theorem mm_hint (n : Int) (w : World) : (Instr.makeMap 62 (some (.int .i64 n))).run Try.prog w = .ok (.map (some w.heap.size)) (w.alloc (.map #[] 0)) := by
  have hu := Try.underlying62
  simp [Instr.makeMap, run_underlying hu, asInt, asIntOf, Result.andThen]
set_option maxHeartbeats 1000000 in
theorem rscale26_any (s : Cel) (rt : Bool) (v : Vl) (num den : Int) (has : Bool) (w : World) (v1 : -9223372036854775808 ≤ v.n) (v2 : v.n ≤ 9223372036854775807) : Calls Try.prog 26 #[.agg #[.int .i64 s.r, .int .i64 s.e, .int .i64 s.a, .int .i64 s.p, .int .i64 s.c, .int .i64 s.q, .bool rt, .int .i64 num, .int .i64 den, .bool has], vv v] w fun x w' => x = .returned (vv (scaleV v num den has)) ∧ Below w.heap.size w w' := by
  have SC := Lib.hid (vscale_any v num den has (((w.alloc (.cells #[.int .i64 s.r, .int .i64 s.e, .int .i64 s.a, .int .i64 s.p, .int .i64 s.c, .int .i64 s.q, .bool rt, .int .i64 num, .int .i64 den, .bool has] 38)).alloc (.cells #[.int .i64 v.n, .int .i64 v.e] 24)).alloc (.cells #[.int .i64 0, .int .i64 0] 24)) v1 v2)
  have B3 : Below w.heap.size w (((w.alloc (.cells #[.int .i64 s.r, .int .i64 s.e, .int .i64 s.a, .int .i64 s.p, .int .i64 s.c, .int .i64 s.q, .bool rt, .int .i64 num, .int .i64 den, .bool has] 38)).alloc (.cells #[.int .i64 v.n, .int .i64 v.e] 24)).alloc (.cells #[.int .i64 0, .int .i64 0] 24)) := (((Below.refl _ w).alloc (Nat.le_refl _) _).alloc (by simp) _).alloc (by simp; omega) _
  have x6 : Box (((w.alloc (.cells #[.int .i64 s.r, .int .i64 s.e, .int .i64 s.a, .int .i64 s.p, .int .i64 s.c, .int .i64 s.q, .bool rt, .int .i64 num, .int .i64 den, .bool has] 38)).alloc (.cells #[.int .i64 v.n, .int .i64 v.e] 24)).alloc (.cells #[.int .i64 0, .int .i64 0] 24)) (w.heap.size + 1 + 1) 24 #[.int .i64 0, .int .i64 0] := Box.new' (by simp)
  unfold vv at SC ⊢
  generalize scaleV v num den has = tv at *
  go_enter Try.func26, Try.ntmps26
  go_wp2_with fail
  refine SC.out.mono ?_
  rintro x w1 ⟨rfl, b1⟩
  replace x6 := x6.later b1
  replace B3 := B3.trans (b1.mono B3.size)
  have k6 := x6.cells
  have f6 := x6.free
  have l6 := x6.lt
  have y6 := (x6.set 0 (.int .i64 tv.n)).set 1 (.int .i64 tv.e)
  have j6 := y6.cells
  clear b1 SC y6
  go_wp2
  refine bodyPost_ret (by unfold results; simp only [Try.results26]; go_simp; rfl) rfl ?_
  exact ⟨rfl, (B3.setCell (by simp; omega) _).setCell (by simp; omega) _⟩
section
variable {A : Option Addr} {c g gm : Nat} {l L : List Cel} {i : List Vl} {w : World}
set_option maxRecDepth 100000 in
set_option maxHeartbeats 2000000 in
theorem those_any (hm : l.length ≤ 1000) (hwf : ∀ x ∈ l, WfC x) (hg : Box w g 62 #[.map (some gm)]) (hM : ValM w gm L i) (hr : CelE.Row w A l) : Calls Try.prog 25 #[.slice A l.length c, .pointer (some ⟨g, 0, none⟩)] w (NewOf VlE 24 (l.map (ofV L i)) w) := by
  obtain ⟨i0, hi, hz0, hz1, hz2⟩ := info_parts Try.infoVal
  have HR := Lib.hid hr
  have HM := Lib.hid hM
  have HG := Lib.hid hg
  have HW := Lib.hid hwf
  obtain ⟨f, hf⟩ : ∃ f, f = ofV L i := ⟨_, rfl⟩
  rw [← hf]
  replace hf := Lib.hid hf
  clear hr hM hg hwf
  go_enter Try.func25, Try.ntmps25
  go_wp2_with (at_make; refine wpList_make_own _ rfl _ _ 32 rfl w.heap.size 24 i0 _ 2 Try.underlying32 hi hz0 hz1 .i64 .i64 _ (l.length + 2) rfl rfl (by go_num) (by rw [hz2]; omega) (by unfold maxLen; omega) (Nat.le_refl _) ?_)
  intro w1 own1 g1
  have hb1 : Below w.heap.size w w1 := (Below.refl _ _).grown g1 (Nat.le_refl _) (fun k hk => by cases hk)
  clear g1
  go_wp2
  go_loopw [4, 13] (fun o t wr => ∃ (k : Nat) (A' : Option Addr) (c' : Nat), k ≤ l.length ∧ o = .slice A' k c' ∧ t = .int .i64 k ∧ wr.ownsRow w.heap.size 24 2 (.slice A' k c') k (VlE.vs ((l.take k).map f)) ∧ Below w.heap.size w wr) (fun _ t _ => l.length - (intOf t).toNat)
  case atStart => exact ⟨0, _, _, by omega, rfl, rfl, own1, hb1⟩
  case round =>
    clear own1 hb1
    obtain ⟨k, A', c', hk, rfl, rfl, hown, hb⟩ := hrel
    by_cases hkn : k < l.length
    · obtain ⟨b0, off, rfl, hgb, hc⟩ := (HR.out.below hb (Nat.le_refl _)).get (by omega)
      have d0 := hc k hkn 0 _ rfl
      have d1 := hc k hkn 1 _ rfl
      have d2 := hc k hkn 2 _ rfl
      have d3 := hc k hkn 3 _ rfl
      have d4 := hc k hkn 4 _ rfl
      have d5 := hc k hkn 5 _ rfl
      have hxw := HW.out l[k] (List.getElem_mem hkn)
      have HS : Hid (VlE.vs ((l.take (k + 1)).map f) = VlE.vs ((l.take k).map f) ++ VlE.v (f l[k])) := by
        show _ = _
        rw [List.take_succ_eq_append_getElem hkn, List.map_append, VlE.vs_append, List.map_cons, List.map_nil, VlE.vs_one]
      have hfx : f l[k] = ofV L i l[k] := by rw [hf.out]
      clear hc
      generalize l[k] = x at *
      rw [← hf.out] at hfx
      obtain ⟨x1, x2, x3, x4, x5, x6⟩ := x
      dsimp only at d0 d1 d2 d3 d4 d5
      rw [show CelE.n = 6 from rfl, Nat.add_zero] at d0
      rw [show CelE.n = 6 from rfl, ← Nat.add_assoc] at d1 d2 d3 d4 d5
      have hM6 := (HM.out.later hb).alloc (.cells #[.int .i64 x1, .int .i64 x2, .int .i64 x3, .int .i64 x4, .int .i64 x5, .int .i64 x6] 27)
      have LK := hM6.look hxw
      rw [← hf.out] at LK
      generalize f ⟨x1, x2, x3, x4, x5, x6⟩ = v at *
      obtain ⟨vn, ve⟩ := v
      unfold cv vv at LK
      dsimp only at LK
      have kg := (HG.out.later hb).cells
      have lg := (HG.out.later hb).lt
      have own6 := hown.alloc (.cells #[.int .i64 x1, .int .i64 x2, .int .i64 x3, .int .i64 x4, .int .i64 x5, .int .i64 x6] 27)
      have hb6 := hb.alloc hb.size (.cells #[.int .i64 x1, .int .i64 x2, .int .i64 x3, .int .i64 x4, .int .i64 x5, .int .i64 x6] 27)
      have z1 : Box ((wr.alloc (.cells #[.int .i64 x1, .int .i64 x2, .int .i64 x3, .int .i64 x4, .int .i64 x5, .int .i64 x6] 27)).alloc (.cells #[.int .i64 vn, .int .i64 ve] 24)) (wr.heap.size + 1) 24 #[.int .i64 vn, .int .i64 ve] := Box.new' (by simp)
      have ownt := own6.alloc (.cells #[.int .i64 vn, .int .i64 ve] 24)
      have hbt := hb6.alloc hb6.size (.cells #[.int .i64 vn, .int .i64 ve] 24)
      have hszt := hbt.size
      have x6b := Box.new wr 27 #[.int .i64 x1, .int .i64 x2, .int .i64 x3, .int .i64 x4, .int .i64 x5, .int .i64 x6]
      have k6 := x6b.cells
      clear hM6 hown hb hfx
      go_wp2_with (at_builtin; refine wpList_append_rowN rfl _ _ 32 rfl w.heap.size 24 i0 _ 2 16 Try.underlying32 hi hz0 hz1 hz2 rfl (by decide) _ k (VlE.vs ((l.take k).map f)) rfl ownt (some ⟨wr.heap.size + 1, 0, none⟩) 1 1 (VlE.v ⟨vn, ve⟩) rfl rfl (Enc.Row.box1 z1 rfl) (VlE.one _) (by unfold maxLen; omega) (by omega) hszt ?_)
      intro A4 c4 w4 hown4 hr4
      have hb4 := hbt.grown hr4 hszt (fun k hk => (ownt.lt k hk).1)
      clear own6 ownt hr4 hb6 hbt z1 k6 x6b kg lg
      go_wp2
      go_roundw
      case rel => exact ⟨k + 1, A4, c4, by omega, rfl, by go_num, by rw [HS.out]; first | exact hown4 | (rw [List.map_take]; exact hown4), hb4⟩
      case measure => simp [intOf]; omega
    · obtain rfl : k = l.length := by omega
      rw [List.take_length] at hown
      have hcap := own_cap hown
      have hlm : (l.map f).length = l.length := List.length_map f
      go_wp2
      go_ret
      exact ⟨A', c', by rw [hlm]; rfl, by rw [hlm]; exact hcap.1, hcap.2, by rw [hlm]; exact hown, hb⟩
end
end Go.Proofs.Ytioecjoddgpjbaa
