/-
  account: the document's walk.
-/
import Derived.Test.YthkaohjgldoipaaAc16
namespace Go.Proofs.Ythkaohjgldoipaa
open Go.RowKit
theorem Try.infoNode20 : (Try.prog.info? 78).map (fun i => (i.zero, i.size, i.bytes)) = some (some (.agg #[.int .i64 0, .int .i64 0]), 2, 16) := by kernel_rfl
/-- What has been told once so many accounts were looked at. -/
def belP (l : List Acc) (k a d j : Nat) : List (Int × Nat) := (belT l j a).flatMap fun x => (x, d) :: walkG l k x (d + 1)
theorem belP_hit {l : List Acc} {k a d j : Nat} (hj : j < l.length) (h : l[j].p = (a : Int)) : belP l k a d (j + 1) = (belP l k a d j ++ [((j : Int) + 1, d)]) ++ walkG l k ((j : Int) + 1) (d + 1) := by
  unfold belP
  rw [belT_hit hj h, List.flatMap_append]
  simp
theorem belP_miss {l : List Acc} {k a d j : Nat} (hj : j < l.length) (h : l[j].p ≠ (a : Int)) : belP l k a d (j + 1) = belP l k a d j := by
  unfold belP
  rw [belT_miss hj h]
theorem belP_all (l : List Acc) (k a d : Nat) : belP l k a d l.length = walkG l (k + 1) (a : Int) d := rfl
theorem belP_le {l : List Acc} {k a d : Nat} : ∀ (m j : Nat), j + m = l.length → (belP l k a d j).length ≤ (walkG l (k + 1) (a : Int) d).length := by
  intro m
  induction m with
  | zero => intro j hj; rw [← belP_all, show j = l.length by omega]; exact Nat.le_refl _
  | succ m ih =>
    intro j hj
    refine Nat.le_trans ?_ (ih (j + 1) (by omega))
    by_cases h : l[j].p = (a : Int)
    · rw [belP_hit (by omega) h, List.length_append, List.length_append]; omega
    · rw [belP_miss (by omega) h]; exact Nat.le_refl _
theorem row_nv {w : World} {base n c : Nat} {t : TypeId} {A : Option Addr} {L : List (Int × Nat)} (h : w.ownsRow base t 2 (.slice A n c) n (nvs L)) : RowAt w A (nvs L) := by
  intro hn
  have hl : (nvs L).length = n * 2 := by simpa using h.1
  obtain ⟨A', c', hv, hf⟩ := own_form h
  obtain ⟨g, hA, hb, hlt⟩ := hf (by omega)
  injection hv with hv1 hv2 hv3
  subst hv1 hv3 hA
  refine ⟨g, 0, rfl, hlt, fun j u hj => ?_⟩
  have hjl : j < (nvs L).length := (List.getElem?_eq_some_iff.1 hj).1
  rw [Nat.zero_add, h.cellAt j (by omega)]
  exact hj
theorem nvs_one (L : List (Int × Nat)) : ∀ u ∈ nvs L, u.oneCell' = true := by
  intro u hu
  obtain ⟨x, _, hx⟩ := List.mem_flatMap.1 hu
  exact nv_one x u hx
/-- Nodes of the call's own. -/
def NewN (t : TypeId) (L : List (Int × Nat)) (w : World) (e : Ending) (w' : World) : Prop :=
  ∃ A c, e = .returned (.slice A L.length c) ∧ w'.ownsRow w.heap.size t 2 (.slice A L.length c) L.length (nvs L) ∧ Below w.heap.size w w'
section
variable {A : Option Addr} {c : Nat} {l : List Acc}
set_option maxRecDepth 100000 in
set_option maxHeartbeats 4000000 in
theorem rbelow_any (hm : l.length ≤ 1000000) : ∀ (k a d : Nat) (w : World), Lvl l (a : Int) d → d + k = l.length + 1 → RowC w A l →
    Calls Try.prog 76 #[.slice A l.length c, .int .i64 (a : Int), .int .i64 (d : Int)] w (NewN 78 (walkG l k a d) w) := by
  obtain ⟨i0, hi, hz0, hz1, hz2⟩ := info_parts Try.infoNode20
  intro k
  induction k with
  | zero =>
    intro a d w hv hd _
    have := hv.le
    omega
  | succ k ih =>
    intro a d w hv hd hr
    have IH := Lib.hid ih
    have hd1 := hv.le
    have hwl := walkG_len (k := k + 1) hv
    have PL := Lib.hid fun (j : Nat) (hj : j ≤ l.length) => Nat.le_trans (belP_le (k := k) (a := a) (d := d) (l.length - j) j (by omega)) hwl
    have HV := Lib.hid hv
    have EA : Hid (belP l k a d l.length = walkG l (k + 1) (a : Int) d) := belP_all l k a d
    have HR := Lib.hid hr
    clear ih hv hwl hr
    go_enter Try.func76, Try.ntmps76
    go_wp2
    go_loopw [7, 8] (fun o i wr => ∃ (j : Nat) (A' : Option Addr) (c' : Nat), j ≤ l.length ∧ o = .slice A' (belP l k a d j).length c' ∧ i = .int .i64 j ∧ wr.ownsRow w.heap.size 78 2 (.slice A' (belP l k a d j).length c') (belP l k a d j).length (nvs (belP l k a d j)) ∧ Below w.heap.size w wr) (fun _ i _ => l.length - (intOf i).toNat)
    case atStart => exact ⟨0, none, 0, by omega, rfl, rfl, World.ownsRow_nil _ _ _ _, Below.refl _ _⟩
    case round =>
      obtain ⟨j, A', c', hj, rfl, rfl, own, hb⟩ := hrel
      by_cases hjn : j < l.length
      · have hr := HR.out.below hb (Nat.le_refl _)
        obtain ⟨g, off, rfl, hg, hc⟩ := hr.get (by omega)
        have h1 := (hc j hjn).1
        have hsz := hb.size
        clear hc hr
        by_cases hpa : l[j].p = (a : Int)
        · have HIT := Lib.hid (belP_hit (k := k) (d := d) hjn hpa)
          have hlen := PL.out (j + 1) (by omega)
          rw [HIT.out, List.length_append, List.length_append] at hlen
          simp only [List.length_cons, List.length_nil] at hlen
          have IHx := IH.out (j + 1) (d + 1)
          have hkid := (HV.out.kid (mem_belA.2 ⟨isA_get hjn, by rw [prA_get hjn]; exact hpa⟩)).1
          rw [show (((j + 1 : Nat) : Int)) = (j : Int) + 1 by omega, show (((d + 1 : Nat) : Int)) = (d : Int) + 1 by omega] at IHx
          have IHy := Lib.hid fun (w : World) (hr : RowC w (some ⟨g, off, none⟩) l) => IHx w hkid (by omega) hr
          clear IHx hkid
          rw [hpa] at h1
          have BM := nvs_append (belP l k a d j) [((j : Int) + 1, d)]
          clear hpa
          generalize belP l k a d j = M at *
          generalize walkG l k ((j : Int) + 1) (d + 1) = N at *
          have EQ := Lib.hid BM
          clear BM
          go_wp2_with (at_builtin; refine wpList_append_rowN rfl _ _ 74 rfl w.heap.size 78 i0 (.agg #[.int .i64 0, .int .i64 0]) 2 16 Try.underlying74 hi hz0 hz1 hz2 rfl (by decide) _ M.length (nvs M) rfl (own.alloc _) (some ⟨wr.heap.size, 0, none⟩) 1 1 (nv ((j : Int) + 1, d)) rfl rfl (RowAt.of_cells (fun i u hi => by rw [addr_add, Nat.zero_add]; exact ((Box.new wr 78 (nv ((j : Int) + 1, d)).toArray).cells i).trans (by rw [List.getElem?_toArray]; exact hi))) (nv_one _) (by unfold maxLen; omega) (by omega) (by simp; omega) ?_)
          intro A4 c4 w4 own4 hgr4
          have b4 : Below w.heap.size w w4 := (hb.alloc hb.size _).grown hgr4 (by simp; omega) (fun g hg => (own.lt g hg).1)
          have HR4 := HR.out.below b4 (Nat.le_refl _)
          clear h1 own hb hgr4
          go_wp2_with fail
          refine (IHy.out _ HR4).mono ?_
          rintro e w5 ⟨A5, c5, rfl, own5, b5⟩
          replace own4 := own_below own4 b5 (Nat.le_refl _)
          have r5 := row_nv own5
          have hsz4 := b4.size
          have hsz5 := b5.size
          replace b4 := b4.trans (b5.mono b4.size)
          clear own5 b5 HR4
          go_wp2_with (at_builtin; refine wpList_append_rowN rfl _ _ 74 rfl w.heap.size 78 i0 (.agg #[.int .i64 0, .int .i64 0]) 2 16 Try.underlying74 hi hz0 hz1 hz2 rfl (by decide) _ (M.length + 1) (nvs M ++ nv ((j : Int) + 1, d)) rfl own4 A5 N.length c5 (nvs N) rfl (by rw [nvs_len, Nat.mul_comm]) r5 (nvs_one _) (by unfold maxLen; omega) (by omega) (by omega) ?_)
          intro A6 c6 w6 own6 hgr6
          have b6 : Below w.heap.size w w6 := b4.grown hgr6 (by omega) (fun g hg => (own4.lt g hg).1)
          have hl6 : M.length + 1 + N.length = (belP l k a d (j + 1)).length := by rw [HIT.out]; simp; omega
          have hv6 : nvs M ++ (nv ((j : Int) + 1, d) ++ nvs N) = nvs (belP l k a d (j + 1)) := by rw [HIT.out, nvs_append, nvs_append]; simp [nvs]
          rw [hl6, hv6] at own6
          replace hl6 := Lib.hid hl6
          clear own4 hgr6 r5 b4
          go_wp2
          go_roundw
          case rel => exact ⟨j + 1, A6, c6, by omega, by rw [hl6.out], by go_num, own6, b6⟩
          case measure => simp [intOf]; omega
        · have MISS := Lib.hid (belP_miss (k := k) (d := d) hjn hpa)
          have hne : (l[j].p == (a : Int)) = false := beq_eq_false_iff_ne.2 hpa
          clear hpa
          generalize l[j].p = p at *
          go_wp2
          go_roundw
          case rel => exact ⟨j + 1, A', c', by omega, by rw [MISS.out], by go_num, by rw [MISS.out]; exact own, hb⟩
          case measure => simp [intOf]; omega
      · obtain rfl : j = l.length := by omega
        rw [EA.out] at own ⊢
        go_wp2
        go_ret
        exact ⟨A', c', rfl, own, hb⟩
set_option maxHeartbeats 1000000 in
theorem rwalk_any {w : World} (hm : l.length ≤ 1000000) (hr : RowC w A l) : Calls Try.prog 47 #[.slice A l.length c] w (NewN 78 (walkA l) w) := by
  have B := Lib.hid (rbelow_any (c := c) hm (l.length + 1) 0 0 w (lvl_zero l) (by omega) hr)
  have hWA : walkG l (l.length + 1) ((0 : Nat) : Int) 0 = walkA l := rfl
  rw [hWA, show ((0 : Nat) : Int) = 0 from rfl] at B
  clear hWA hr
  go_enter Try.func47, Try.ntmps47
  go_wp2_with fail
  refine B.out.mono ?_
  rintro e w1 ⟨A1, c1, rfl, own1, b1⟩
  go_wp2
  go_ret
  exact ⟨A1, c1, rfl, own1, b1⟩
end
end Go.Proofs.Ythkaohjgldoipaa
