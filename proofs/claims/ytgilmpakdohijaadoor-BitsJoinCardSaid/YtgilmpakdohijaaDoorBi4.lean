/-
  bits: Len, Clear, Clone of words.
-/
import Derived.Test.YtgilmpakdohijaaDoorBiU
import Derived.Lib.SliceRun
namespace Go.Proofs.YtgilmpakdohijaaDoor
open Go.RowKit

section
variable {w : World} {base g c : Nat} {A : Option Addr} {ws : List Nat}
theorem belowW_zero (ws : List Nat) : belowW ws 0 = [] := rfl
set_option maxRecDepth 100000 in
set_option maxHeartbeats 2000000 in
theorem blen_any (h : SetB w base g A c ws) : Calls Tryd.prog 17 #[.pointer (some ⟨g, 0, none⟩)] w fun e w' => e = .returned (.int .i64 ((allW ws).length : Int)) ∧ w' = w := by
  have IS := Lib.hid (bis_any h.box)
  have k := h.box.cells
  have l := h.box.lt
  have hlen := h.wf.len
  have HH := Lib.hid h
  clear h
  go_enter Tryd.func17, Tryd.ntmps17
  go_wp2_with fail
  refine IS.out.mono ?_
  rintro e _ ⟨rfl, rfl⟩
  go_wp2
  go_loopw [3, 13] (fun s i wr => ∃ j : Nat, j ≤ ws.length ∧ s = .int .i64 ((belowW ws (64 * j)).length : Int) ∧ i = .int .i64 j ∧ w = wr) (fun _ i _ => ws.length - (intOf i).toNat)
  case atStart => exact ⟨0, by omega, rfl, rfl, rfl⟩
  case round =>
    obtain ⟨j, hj, rfl, rfl, rfl⟩ := hrel
    have hle := belowW_len ws (64 * j)
    by_cases hjn : j < ws.length
    · obtain ⟨A2, c2, hv, hf⟩ := own_form HH.out.own
      obtain ⟨g2, hA, hg1, hg2⟩ := hf (by omega)
      injection hv with hv1 _ hv3
      subst hv1 hv3 hA
      have hcl : w.cell? ⟨g2, j, none⟩ = some (.int .u64 (ws[j] : Int)) := by
        rw [HH.out.own.cellAt j (by omega)]; exact wv_get _ _ hjn
      have hx := HH.out.wf.lt _ (List.getElem_mem hjn)
      have OC := Lib.hid (ones_any ws[j] hx w)
      have hst := below_step hjn
      have hle2 := belowW_len ws (64 * (j + 1))
      generalize hln : (belowW ws (64 * j)).length = q at *
      generalize hln2 : (belowW ws (64 * (j + 1))).length = q2 at *
      replace hln2 := Lib.hid hln2
      generalize onesW ws[j] = o at *
      generalize ws[j] = x at *
      clear hf hln
      go_wp2_with fail
      refine OC.out.mono ?_
      rintro e _ ⟨rfl, rfl⟩
      go_wp2
      go_roundw
      case rel => exact ⟨j + 1, by omega, by rw [hln2.out, hst]; go_num, by go_num, trivial⟩
      case measure => simp [intOf]; omega
    · obtain rfl : j = ws.length := by omega
      have hq : (belowW ws (64 * ws.length)).length = (allW ws).length := rfl
      rw [hq]
      go_wp2
      go_ret
      exact ⟨rfl, rfl⟩
theorem blen_nil (w : World) : Calls Tryd.prog 17 #[.pointer none] w fun e w' => e = .returned (.int .i64 0) ∧ w = w' := by
  have IS := Lib.hid (bis_nil w)
  go_enter Tryd.func17, Tryd.ntmps17
  go_wp2_with fail
  refine IS.out.mono ?_
  rintro e _ ⟨rfl, rfl⟩
  go_wp2
  go_ret
  exact ⟨rfl, rfl⟩
/-- Words from o on set to nought, one by one. -/
def zset (ws : List Nat) : Nat → Nat → List Nat
  | _, 0 => ws
  | o, m + 1 => zset (ws.set o 0) (o + 1) m
theorem zset_len : ∀ (m o : Nat) (ws : List Nat), (zset ws o m).length = ws.length
  | 0, _, _ => rfl
  | m + 1, o, ws => by rw [zset, zset_len m]; simp
theorem zset_get : ∀ (m o : Nat) (ws : List Nat) (i : Nat), o + m = ws.length → (zset ws o m)[i]? = if i < o then ws[i]? else if i < ws.length then some 0 else none
  | 0, o, ws, i, h => by
    rw [zset]
    split
    · rfl
    · rw [if_neg (by omega), List.getElem?_eq_none (by omega)]
  | m + 1, o, ws, i, h => by
    rw [zset, zset_get m (o + 1) (ws.set o 0) i (by simp; omega), List.length_set, List.getElem?_set]
    by_cases h1 : i < o
    · rw [if_pos (by omega), if_neg (by omega), if_pos h1]
    · rw [if_neg h1]
      by_cases h2 : i = o
      · subst h2
        rw [if_pos (by omega), if_pos rfl, if_pos (by omega)]

      · rw [if_neg (by omega)]
theorem SetB.zset {g2 : Nat} : ∀ (m o : Nat) {ws : List Nat} {w : World}, SetB w base g (some ⟨g2, 0, none⟩) c ws → o + m ≤ ws.length →
    SetB (w.setCells g2 o (List.replicate m (.int .u64 0))) base g (some ⟨g2, 0, none⟩) c (Go.Proofs.YtgilmpakdohijaaDoor.zset ws o m) ∧ Chg w (w.setCells g2 o (List.replicate m (.int .u64 0))) g (oB (some ⟨g2, 0, none⟩))
  | 0, _, _, w, h, _ => ⟨h, Chg.refl _ _ _⟩
  | m + 1, o, ws, w, h, hm => by
    have hne : g ≠ g2 := fun he => own_ne_box h.own h.box (by decide) (by rw [he]; rfl)
    have hl : (ws.set o 0).length = ws.length := by simp
    have hst := h.own.stored o (.int .u64 ((0 : Nat) : Int))
    have h1 : SetB (w.setCell ⟨g2, o, none⟩ (.int .u64 0)) base g (some ⟨g2, 0, none⟩) c (ws.set o 0) := by
      refine ⟨by rw [hl]; exact h.box.far' hne _, by rw [hl, wv_set]; exact hst.1, ⟨by rw [hl]; exact h.wf.len, fun x hx => ?_⟩⟩
      rcases List.mem_or_eq_of_mem_set hx with hx | rfl
      · exact h.wf.lt x hx
      · decide
    have c1 : Chg w (w.setCell ⟨g2, o, none⟩ (.int .u64 0)) g (oB (some ⟨g2, 0, none⟩)) :=
      ⟨rfl, by simp [World.tape_setCell], rfl, by simp [World.size_setCell], fun b _ _ hR => Below.heap_setCell w ⟨g2, o, none⟩ _ b (fun e => hR (by rw [e]; rfl))⟩
    obtain ⟨r1, r2⟩ := SetB.zset m (o + 1) h1 (by rw [hl]; omega)
    exact ⟨r1, c1.trans (.inl rfl) r2⟩
/-- After Clear: all words zero. -/
def zeroW (ws : List Nat) : List Nat := List.replicate ws.length 0
theorem zset_all (ws : List Nat) : zset ws 0 ws.length = zeroW ws := by
  apply List.ext_getElem?
  intro i
  rw [zset_get _ _ _ _ (by omega), if_neg (by omega)]
  unfold zeroW
  rw [List.getElem?_replicate]
theorem zeroU (w : World) : (zeroValue 52).run Tryd.prog w = .ok (.int .u64 0) w := by kernel_rfl
theorem allW_zero (ws : List Nat) : allW (zeroW ws) = [] := by
  refine List.eq_nil_iff_forall_not_mem.2 fun x hx => ?_
  have := (mem_allW.1 hx).2
  unfold bitW zeroW at this
  rw [List.getD_eq_getElem?_getD, List.getElem?_replicate] at this
  split at this <;> simp at this
set_option maxRecDepth 100000 in
set_option maxHeartbeats 2000000 in
theorem bclear_any (h : SetB w base g A c ws) : Calls Tryd.prog 29 #[.pointer (some ⟨g, 0, none⟩)] w fun e w' => e = .returned (.tuple #[]) ∧ SetB w' base g A c (zeroW ws) ∧ Chg w w' g (oB A) := by
  have IS := Lib.hid (bis_any h.box)
  have k := h.box.cells
  have l := h.box.lt
  have hcap := own_cap h.own
  obtain ⟨A2, c2, hv, hf⟩ := own_form h.own
  injection hv with hv1 _ hv3
  subst hv1 hv3
  by_cases h0 : ws.length = 0
  · have hz : zeroW ws = ws := by rw [List.length_eq_zero_iff.1 h0]; rfl
    have hcl : ∀ ty, (Builtin.clear_ #[49] ty #[.slice A 0 c]).run Tryd.prog w = .ok (.tuple #[]) w := fun ty => by
      cases A <;> simp [Builtin.clear_, run_underlying Tryd.underlying49]
    rw [hz]
    go_enter Tryd.func29, Tryd.ntmps29
    go_wp2_with fail
    refine IS.out.mono ?_
    rintro e _ ⟨rfl, rfl⟩
    go_wp2
    go_end0
    exact ⟨rfl, h, Chg.refl _ _ _⟩
  · obtain ⟨g2, hA, hg1, hg2⟩ := hf (by omega)
    subst hA
    have hcl : ∀ ty, (Builtin.clear_ #[49] ty #[.slice (some ⟨g2, 0, none⟩) ws.length c]).run Tryd.prog w = .ok (.tuple #[]) (w.setCells g2 0 (List.replicate ws.length (.int .u64 0))) :=
      fun ty => Lib.run_clear_slice w 49 52 ty (.int .u64 0) Tryd.underlying49 zeroU rfl rfl g2 0 _ _ (by omega)
        (fun j hj => by rw [Nat.zero_add, h.own.cellAt j (by omega)]; rw [wv_get ws j (by omega)]; rfl) (fun j hj => by rw [Nat.zero_add]; exact h.own.frozenAt j)
    have Z := h.zset ws.length 0 (by omega)
    rw [zset_all] at Z
    clear hf h
    go_enter Tryd.func29, Tryd.ntmps29
    go_wp2_with fail
    refine IS.out.mono ?_
    rintro e _ ⟨rfl, rfl⟩
    go_wp2
    go_end0
    exact ⟨rfl, Z.1, Z.2⟩
end
end Go.Proofs.YtgilmpakdohijaaDoor
