/-
  BitsRise: all numbers of a set rise; each that was put in is there, and no other one; told up to some, they are the first ones.
-/
import Derived.Test.YtgilmpakdohijaaDoorBiK
namespace Go.Proofs.YtgilmpakdohijaaDoor
open Go.RowKit

theorem srt_next {X : List Int} (h : Srt X) {j : Nat} (hj : j + 1 < X.length) : X[j]'(by omega) < X[j + 1] := (List.pairwise_iff_getElem.1 h) j (j + 1) (by omega) hj (by omega)
section
variable {A : Option Addr} {c : Nat} {l : List Int} {w : World}
set_option maxRecDepth 100000 in
set_option maxHeartbeats 4000000 in
theorem bitsRise_law (most : Int) (hl : l.length ≤ maxLen) (hr : RowAt w A (ivals l)) (T : Tb w) :
    Calls Tryd.prog 4 #[.slice A l.length c, .int .i64 most] w fun e w' => e = .returned (.bool true) ∧ Below w.heap.size w w' := by
  have AW := Lib.hid fun w (T : Tb w) => bawake_any w T
  have FI := Lib.hid (bfilled_any (c := c) hl hr)
  have hT0 : 1 ≤ w.heap.size := World.block_lt_of_cell? w _ (T 0 (by decide))
  have TT := Lib.hid T
  have HR := Lib.hid hr
  clear T hr
  obtain ⟨X, hXe⟩ : ∃ X, X = fillF l := ⟨_, rfl⟩
  have hXs : Srt X := by rw [hXe]; exact fillF_srt l
  have hXm : Hid (∀ x, x ∈ X ↔ x ∈ l ∧ 0 ≤ x ∧ x < 65536) := fun x => by rw [hXe]; exact mem_fillF
  replace hXs := Lib.hid hXs
  replace hXe := Lib.hid hXe
  go_enter Tryd.func4, Tryd.ntmps4
  go_wp2_with fail
  refine FI.out.mono ?_
  rintro e W1 ⟨As, cs, ws, rfl, hS, hall, hB⟩
  rw [← hXe.out] at hall
  clear FI hXe
  have big : ∀ W, Below w.heap.size w W → Calls Tryd.prog 7 #[] W fun e w' => e = .returned (.bool true) ∧ Below w.heap.size w w' := fun W hB => (AW.out W (TT.out.later hB)).mono fun e w' ⟨h1, h2⟩ => ⟨h1, hB.trans (h2.mono hB.size)⟩
  replace big := Lib.hid big
  by_cases h1 : 100 < l.length
  · go_wp2_with fail
    refine (big.out _ hB).mono ?_
    rintro e w9 ⟨rfl, h9⟩
    go_wp2
    go_ret
    exact ⟨rfl, h9⟩
  · by_cases h2 : most < 1
    · go_wp2_with fail
      refine (big.out _ hB).mono ?_
      rintro e w9 ⟨rfl, h9⟩
      go_wp2
      go_ret
      exact ⟨rfl, h9⟩
    · have hXl : X.length ≤ 65536 := by rw [← hall]; exact allW_len hS.wf
      have AL := ball_any (TT.out.later hB) hS
      rw [hall] at AL
      replace AL := Lib.hid AL
      go_wp2_with fail
      refine AL.out.mono ?_
      rintro e W2 ⟨Ax, cx, rfl, hx1, hx2, ownx, b2⟩
      have hX0 := RowAt.of_own ownx
      have hS0 := hS.later b2
      have hB0 := hB.trans (b2.mono hB.size)
      clear AL ownx b2 hS hB
      go_wp2
      go_loopw [7] (fun i wr => ∃ k : Nat, k ≤ X.length ∧ i = .int .i64 k ∧ SetB wr w.heap.size w.heap.size As cs ws ∧ RowAt wr Ax (ivals X) ∧ Below w.heap.size w wr) (fun i _ => X.length - (intOf i).toNat)
      case atStart => exact ⟨0, by omega, rfl, hS0, hX0, hB0⟩
      case round =>
        clear hS0 hX0 hB0
        obtain ⟨k, hk, rfl, hS, hX, hB⟩ := hrel
        by_cases hkn : k < X.length
        · obtain ⟨gx, ox, rfl, hgx, hcx⟩ := hX (by rw [ivals_len]; omega)
          have hxm := (hXm.out X[k]).1 (List.getElem_mem hkn)
          have HS1 := bhas_q (b := true) X[k] hS.drew hall (decide_eq_true (List.getElem_mem hkn))
          have HR1 := has_any (c := c) (n := X[k]) hl ((HR.out.below hB (Nat.le_refl _)).drew)
          rw [decide_eq_true hxm.1] at HR1
          replace HS1 := Lib.hid HS1
          replace HR1 := Lib.hid HR1
          have hcl : wr.cell? ⟨gx, ox + k, none⟩ = some (.int .i64 X[k]) := hcx k _ (by simp [ivals, hkn])
          rcases k with _ | j
          · clear hxm hcx
            generalize X[0] = x at *
            have hcl0 : wr.cell? ⟨gx, ox, none⟩ = some (.int .i64 x) := hcl
            clear hcl
            go_upto_region 8 with fail
            refine wp_region_noPanic ?_
            refine wp_region_held_drew (S := (fun w' => w'.cell? ⟨gx, ox, none⟩ = some (.int .i64 x))) (by kernel_rfl) ?_ (fun hHeld => ?_)
            · go_keep
            refine wpAnyH_take (i := 0) (v := ?vz0) rfl (by kernel_rfl) (by kernel_rfl) (by kernel_rfl) (fun _ _ _ h => h) (Or.inl ⟨by kernel_rfl, ?hyz0⟩) (by assumption) ?restz0
            case hyz0 => (intro w hSw; (try dsimp only at hSw); go_simp; (try with_reducible rfl))
            go_simp
            refine wpAnyH_take (i := 1) (v := ?vz1) rfl (by kernel_rfl) (by kernel_rfl) (by kernel_rfl) (fun _ _ _ h => h) (Or.inl ⟨by kernel_rfl, ?hyz1⟩) (by assumption) ?restz1
            case hyz1 => (intro w hSw; (try dsimp only at hSw); go_simp; (try with_reducible rfl))
            go_simp
            refine wpAnyH_take (i := 2) (v := ?vz2) rfl (by kernel_rfl) (by kernel_rfl) (by kernel_rfl) (fun _ _ _ h => h) (Or.inl ⟨by kernel_rfl, ?hyz2⟩) (by assumption) ?restz2
            case hyz2 => (intro w hSw; (try dsimp only at hSw); go_simp; (try with_reducible rfl))
            go_simp
            refine wpAnyH_take (i := 3) (v := undef) rfl (by kernel_rfl) (by kernel_rfl) (by kernel_rfl) (fun _ _ _ h => h) (Or.inr ⟨by kernel_rfl, rfl⟩) (by assumption) ?_
            go_simp
            refine wpAnyH_take (i := 4) (v := undef) rfl (by kernel_rfl) (by kernel_rfl) (by kernel_rfl) (fun _ _ _ h => h) (Or.inr ⟨by kernel_rfl, rfl⟩) (by assumption) ?_
            go_simp
            refine wpAnyH_take (i := 5) (v := undef) rfl (by kernel_rfl) (by kernel_rfl) (by kernel_rfl) (fun _ _ _ h => h) (Or.inr ⟨by kernel_rfl, rfl⟩) (by assumption) ?_
            go_simp
            refine wpAnyH_take (i := 6) (v := undef) rfl (by kernel_rfl) (by kernel_rfl) (by kernel_rfl) (fun _ _ _ h => h) (Or.inr ⟨by kernel_rfl, rfl⟩) (by assumption) ?_
            go_simp
            refine wpAnyH_take (i := 7) (v := undef) rfl (by kernel_rfl) (by kernel_rfl) (by kernel_rfl) (fun _ _ _ h => h) (Or.inr ⟨by kernel_rfl, rfl⟩) (by assumption) ?_
            go_simp
            refine wpAnyH_take (i := 8) (v := undef) rfl (by kernel_rfl) (by kernel_rfl) (by kernel_rfl) (fun _ _ _ h => h) (Or.inr ⟨by kernel_rfl, rfl⟩) (by assumption) ?_
            go_simp
            refine wpAnyH_take (i := 9) (v := undef) rfl (by kernel_rfl) (by kernel_rfl) (by kernel_rfl) (fun _ _ _ h => h) (Or.inr ⟨by kernel_rfl, rfl⟩) (by assumption) ?_
            go_simp
            refine wpAnyH_take (i := 10) (v := undef) rfl (by kernel_rfl) (by kernel_rfl) (by kernel_rfl) (fun _ _ _ h => h) (Or.inr ⟨by kernel_rfl, rfl⟩) (by assumption) ?_
            go_simp
            refine wpAnyH_take (i := 11) (v := undef) rfl (by kernel_rfl) (by kernel_rfl) (by kernel_rfl) (fun _ _ _ h => h) (Or.inr ⟨by kernel_rfl, rfl⟩) (by assumption) ?_
            go_simp
            refine wpAnyH_take (i := 12) (v := undef) rfl (by kernel_rfl) (by kernel_rfl) (by kernel_rfl) (fun _ _ _ h => h) (Or.inr ⟨by kernel_rfl, rfl⟩) (by assumption) ?_
            go_simp
            refine wpAnyH_take (i := 13) (v := ?vz13) rfl (by kernel_rfl) (by kernel_rfl) (by kernel_rfl) (fun _ _ _ h => h) (Or.inl ⟨by kernel_rfl, ?hyz13⟩) (by assumption) ?restz13
            case hyz13 => (intro w hSw; (try dsimp only at hSw); go_simp; (try with_reducible rfl))
            go_simp
            refine wpAnyH_take (i := 14) (v := ?vz14) rfl (by kernel_rfl) (by kernel_rfl) (by kernel_rfl) (fun _ _ _ h => h) (Or.inl ⟨by kernel_rfl, ?hyz14⟩) (by assumption) ?restz14
            case hyz14 => (intro w hSw; (try dsimp only at hSw); go_simp; (try with_reducible rfl))
            go_simp
            refine wpAnyH_take (i := 15) (v := ?vz15) rfl (by kernel_rfl) (by kernel_rfl) (by kernel_rfl) (fun _ _ _ h => h) (Or.inl ⟨by kernel_rfl, ?hyz15⟩) (by assumption) ?restz15
            case hyz15 => (intro w hSw; (try dsimp only at hSw); go_simp; (try with_reducible rfl))
            go_simp
            refine wpAnyH_take (i := 16) (v := ?vz16) rfl (by kernel_rfl) (by kernel_rfl) (by kernel_rfl) (fun _ _ _ h => h) (Or.inl ⟨by kernel_rfl, ?hyz16⟩) (by assumption) ?restz16
            case hyz16 => (intro w hSw; (try dsimp only at hSw); go_simp; (try with_reducible rfl))
            go_simp
            refine wpAnyH_take (i := 17) (v := ?vz17) rfl (by kernel_rfl) (by kernel_rfl) (by kernel_rfl) (fun _ _ _ h => h) (Or.inl ⟨by kernel_rfl, ?hyz17⟩) (by assumption) ?restz17
            case hyz17 => (intro w hSw; (try dsimp only at hSw); go_simp; (try with_reducible rfl))
            go_simp
            refine wpAnyH_take (i := 18) (v := ?vz18) rfl (by kernel_rfl) (by kernel_rfl) (by kernel_rfl) (fun _ _ _ h => h) (Or.inl ⟨by kernel_rfl, ?hyz18⟩) (by assumption) ?restz18
            case hyz18 => (intro w hSw; (try dsimp only at hSw); go_simp; (try with_reducible rfl))
            go_simp
            refine wpAnyH_take (i := 19) (v := ?vz19) rfl (by kernel_rfl) (by kernel_rfl) (by kernel_rfl) (fun _ _ _ h => h) (Or.inl ⟨by kernel_rfl, ?hyz19⟩) (by assumption) ?restz19
            case hyz19 => (intro w hSw; (try dsimp only at hSw); go_simp; (try with_reducible rfl))
            go_simp
            refine wpAnyH_ready (rs := [20]) (by kernel_rfl) (by simp) ?_
            refine AllReadyH.cons rfl (fun K hK => ?_) AllReadyH.nil
            rw [if_pos (by kernel_rfl)]
            go_simp
            refine HR1.out.mono ?_
            rintro e _ ⟨rfl, rfl⟩
            go_wp2_with fail
            refine hK.out _ _ (by go_keep) (fun hHeld => ?_)
            clear hK K
            go_simp
            refine wpAnyH_take (i := 21) (v := ?vz21) rfl (by kernel_rfl) (by kernel_rfl) (by kernel_rfl) (fun _ _ _ h => h) (Or.inl ⟨by kernel_rfl, ?hyz21⟩) (by assumption) ?restz21
            case hyz21 => (intro w hSw; (try dsimp only at hSw); go_simp; (try with_reducible rfl))
            go_simp
            refine wpAnyH_take (i := 22) (v := ?vz22) rfl (by kernel_rfl) (by kernel_rfl) (by kernel_rfl) (fun _ _ _ h => h) (Or.inl ⟨by kernel_rfl, ?hyz22⟩) (by assumption) ?restz22
            case hyz22 => (intro w hSw; (try dsimp only at hSw); go_simp; (try with_reducible rfl))
            go_simp
            refine wpAnyH_take (i := 23) (v := ?vz23) rfl (by kernel_rfl) (by kernel_rfl) (by kernel_rfl) (fun _ _ _ h => h) (Or.inl ⟨by kernel_rfl, ?hyz23⟩) (by assumption) ?restz23
            case hyz23 => (intro w hSw; (try dsimp only at hSw); go_simp; (try with_reducible rfl))
            go_simp
            refine wpAnyH_take (i := 24) (v := ?vz24) rfl (by kernel_rfl) (by kernel_rfl) (by kernel_rfl) (fun _ _ _ h => h) (Or.inl ⟨by kernel_rfl, ?hyz24⟩) (by assumption) ?restz24
            case hyz24 => (intro w hSw; (try dsimp only at hSw); go_simp; (try with_reducible rfl))
            go_simp
            refine wpAnyH_take (i := 25) (v := ?vz25) rfl (by kernel_rfl) (by kernel_rfl) (by kernel_rfl) (fun _ _ _ h => h) (Or.inl ⟨by kernel_rfl, ?hyz25⟩) (by assumption) ?restz25
            case hyz25 => (intro w hSw; (try dsimp only at hSw); go_simp; (try with_reducible rfl))
            go_simp
            refine wpAnyH_take (i := 26) (v := ?vz26) rfl (by kernel_rfl) (by kernel_rfl) (by kernel_rfl) (fun _ _ _ h => h) (Or.inl ⟨by kernel_rfl, ?hyz26⟩) (by assumption) ?restz26
            case hyz26 => (intro w hSw; (try dsimp only at hSw); go_simp; (try with_reducible rfl))
            go_simp
            refine wpAnyH_take (i := 27) (v := ?vz27) rfl (by kernel_rfl) (by kernel_rfl) (by kernel_rfl) (fun _ _ _ h => h) (Or.inl ⟨by kernel_rfl, ?hyz27⟩) (by assumption) ?restz27
            case hyz27 => (intro w hSw; (try dsimp only at hSw); go_simp; (try with_reducible rfl))
            go_simp
            refine wpAnyH_take (i := 28) (v := ?vz28) rfl (by kernel_rfl) (by kernel_rfl) (by kernel_rfl) (fun _ _ _ h => h) (Or.inl ⟨by kernel_rfl, ?hyz28⟩) (by assumption) ?restz28
            case hyz28 => (intro w hSw; (try dsimp only at hSw); go_simp; (try with_reducible rfl))
            go_simp
            refine wpAnyH_ready (rs := [29]) (by kernel_rfl) (by simp) ?_
            refine AllReadyH.cons rfl (fun K hK => ?_) AllReadyH.nil
            rw [if_pos (by kernel_rfl)]
            go_simp
            refine HS1.out.mono ?_
            rintro e _ ⟨rfl, rfl⟩
            go_wp2_with fail
            refine hK.out _ _ (by go_keep) (fun hHeld => ?_)
            clear hK K
            go_simp
            refine wpAnyH_take (i := 30) (v := ?vz30) rfl (by kernel_rfl) (by kernel_rfl) (by kernel_rfl) (fun _ _ _ h => h) (Or.inl ⟨by kernel_rfl, ?hyz30⟩) (by assumption) ?restz30
            case hyz30 => (intro w hSw; (try dsimp only at hSw); go_simp; (try with_reducible rfl))
            go_simp
            refine wpAnyH_take (i := 31) (v := ?vz31) rfl (by kernel_rfl) (by kernel_rfl) (by kernel_rfl) (fun _ _ _ h => h) (Or.inl ⟨by kernel_rfl, ?hyz31⟩) (by assumption) ?restz31
            case hyz31 => (intro w hSw; (try dsimp only at hSw); go_simp; (try with_reducible rfl))
            go_simp
            refine wpAnyH_done (by kernel_rfl) ?_ _
            refine NoPanic.normal ?_
            go_wp2
            go_roundw
            case rel => exact ⟨1, by omega, by go_num, hS.drew, hX.drew, below_drewN hB 1⟩
            case measure => simp [intOf]; omega
          · have hlt := srt_next hXs.out hkn
            have hd : decide (X[j + 1] ≤ X[j]'(by omega)) = false := decide_eq_false (by omega)
            have hcl2 : wr.cell? ⟨gx, ox + j, none⟩ = some (.int .i64 (X[j]'(by omega))) := hcx j _ (by simp [ivals]; try omega)
            have hj0 : (0 : Int) ≤ (j : Int) + 1 := by omega
            have hj1 : (0 : Int) ≤ (j : Int) := by omega
            have hjw : IntKind.i64.wrap (j : Int) = (j : Int) := (Go.IntWalk.i64_left _).trans (Go.IntWalk.wrap64_in _ (by omega))
            have hjl : (j : Int) < (X.length : Int) := by omega
            clear hxm hcx hlt
            generalize X[j + 1] = x at *
            generalize X[j]'(by omega) = x0 at *
            go_upto_region 8 with fail
            refine wp_region_noPanic ?_
            refine wp_region_held_drew (S := (fun w' => w'.cell? ⟨gx, ox + (j + 1), none⟩ = some (.int .i64 x) ∧ w'.cell? ⟨gx, ox + j, none⟩ = some (.int .i64 x0))) (by kernel_rfl) ?_ (fun hHeld => ?_)
            · go_keep
            refine wpAnyH_take (i := 0) (v := ?vy0) rfl (by kernel_rfl) (by kernel_rfl) (by kernel_rfl) (fun _ _ _ h => h) (Or.inl ⟨by kernel_rfl, ?hyy0⟩) (by assumption) ?resty0
            case hyy0 => (intro w hSw; (try dsimp only at hSw); go_simp; (try with_reducible rfl))
            go_simp
            refine wpAnyH_take (i := 1) (v := ?vy1) rfl (by kernel_rfl) (by kernel_rfl) (by kernel_rfl) (fun _ _ _ h => h) (Or.inl ⟨by kernel_rfl, ?hyy1⟩) (by assumption) ?resty1
            case hyy1 => (intro w hSw; (try dsimp only at hSw); go_simp; (try with_reducible rfl))
            go_simp
            refine wpAnyH_take (i := 2) (v := ?vy2) rfl (by kernel_rfl) (by kernel_rfl) (by kernel_rfl) (fun _ _ _ h => h) (Or.inl ⟨by kernel_rfl, ?hyy2⟩) (by assumption) ?resty2
            case hyy2 => (intro w hSw; (try dsimp only at hSw); go_simp; (try with_reducible rfl))
            go_simp
            refine wpAnyH_take (i := 3) (v := ?vy3) rfl (by kernel_rfl) (by kernel_rfl) (by kernel_rfl) (fun _ _ _ h => h) (Or.inl ⟨by kernel_rfl, ?hyy3⟩) (by assumption) ?resty3
            case hyy3 => (intro w hSw; (try dsimp only at hSw); go_simp; (try with_reducible rfl))
            go_simp
            refine wpAnyH_take (i := 4) (v := ?vy4) rfl (by kernel_rfl) (by kernel_rfl) (by kernel_rfl) (fun _ _ _ h => h) (Or.inl ⟨by kernel_rfl, ?hyy4⟩) (by assumption) ?resty4
            case hyy4 => (intro w hSw; (try dsimp only at hSw); go_simp; (try with_reducible rfl))
            go_simp
            refine wpAnyH_take (i := 5) (v := ?vy5) rfl (by kernel_rfl) (by kernel_rfl) (by kernel_rfl) (fun _ _ _ h => h) (Or.inl ⟨by kernel_rfl, ?hyy5⟩) (by assumption) ?resty5
            case hyy5 => (intro w hSw; (try dsimp only at hSw); go_simp; (try with_reducible rfl))
            go_simp
            refine wpAnyH_take (i := 6) (v := ?vy6) rfl (by kernel_rfl) (by kernel_rfl) (by kernel_rfl) (fun _ _ _ h => h) (Or.inl ⟨by kernel_rfl, ?hyy6⟩) (by assumption) ?resty6
            case hyy6 => (intro w hSw; (try dsimp only at hSw); go_simp; (try with_reducible rfl))
            go_simp
            refine wpAnyH_take (i := 7) (v := ?vy7) rfl (by kernel_rfl) (by kernel_rfl) (by kernel_rfl) (fun _ _ _ h => h) (Or.inl ⟨by kernel_rfl, ?hyy7⟩) (by assumption) ?resty7
            case hyy7 => (intro w hSw; (try dsimp only at hSw); go_simp; (try with_reducible rfl))
            go_simp
            refine wpAnyH_take (i := 8) (v := ?vy8) rfl (by kernel_rfl) (by kernel_rfl) (by kernel_rfl) (fun _ _ _ h => h) (Or.inl ⟨by kernel_rfl, ?hyy8⟩) (by assumption) ?resty8
            case hyy8 => (intro w hSw; (try dsimp only at hSw); go_simp; (try with_reducible rfl))
            go_simp
            refine wpAnyH_take (i := 9) (v := ?vy9) rfl (by kernel_rfl) (by kernel_rfl) (by kernel_rfl) (fun _ _ _ h => h) (Or.inl ⟨by kernel_rfl, ?hyy9⟩) (by assumption) ?resty9
            case hyy9 => (intro w hSw; (try dsimp only at hSw); go_simp; (try with_reducible rfl))
            go_simp
            refine wpAnyH_take (i := 10) (v := ?vy10) rfl (by kernel_rfl) (by kernel_rfl) (by kernel_rfl) (fun _ _ _ h => h) (Or.inl ⟨by kernel_rfl, ?hyy10⟩) (by assumption) ?resty10
            case hyy10 => (intro w hSw; (try dsimp only at hSw); go_simp; (try with_reducible rfl))
            go_simp
            refine wpAnyH_take (i := 11) (v := ?vy11) rfl (by kernel_rfl) (by kernel_rfl) (by kernel_rfl) (fun _ _ _ h => h) (Or.inl ⟨by kernel_rfl, ?hyy11⟩) (by assumption) ?resty11
            case hyy11 => (intro w hSw; (try dsimp only at hSw); go_simp; (try with_reducible rfl))
            go_simp
            refine wpAnyH_take (i := 12) (v := ?vy12) rfl (by kernel_rfl) (by kernel_rfl) (by kernel_rfl) (fun _ _ _ h => h) (Or.inl ⟨by kernel_rfl, ?hyy12⟩) (by assumption) ?resty12
            case hyy12 => (intro w hSw; (try dsimp only at hSw); go_simp; (try with_reducible rfl))
            go_simp
            refine wpAnyH_take (i := 13) (v := ?vy13) rfl (by kernel_rfl) (by kernel_rfl) (by kernel_rfl) (fun _ _ _ h => h) (Or.inl ⟨by kernel_rfl, ?hyy13⟩) (by assumption) ?resty13
            case hyy13 => (intro w hSw; (try dsimp only at hSw); go_simp; (try with_reducible rfl))
            go_simp
            refine wpAnyH_take (i := 14) (v := ?vy14) rfl (by kernel_rfl) (by kernel_rfl) (by kernel_rfl) (fun _ _ _ h => h) (Or.inl ⟨by kernel_rfl, ?hyy14⟩) (by assumption) ?resty14
            case hyy14 => (intro w hSw; (try dsimp only at hSw); go_simp; (try with_reducible rfl))
            go_simp
            refine wpAnyH_take (i := 15) (v := ?vy15) rfl (by kernel_rfl) (by kernel_rfl) (by kernel_rfl) (fun _ _ _ h => h) (Or.inl ⟨by kernel_rfl, ?hyy15⟩) (by assumption) ?resty15
            case hyy15 => (intro w hSw; (try dsimp only at hSw); go_simp; (try with_reducible rfl))
            go_simp
            refine wpAnyH_take (i := 16) (v := ?vy16) rfl (by kernel_rfl) (by kernel_rfl) (by kernel_rfl) (fun _ _ _ h => h) (Or.inl ⟨by kernel_rfl, ?hyy16⟩) (by assumption) ?resty16
            case hyy16 => (intro w hSw; (try dsimp only at hSw); go_simp; (try with_reducible rfl))
            go_simp
            refine wpAnyH_take (i := 17) (v := ?vy17) rfl (by kernel_rfl) (by kernel_rfl) (by kernel_rfl) (fun _ _ _ h => h) (Or.inl ⟨by kernel_rfl, ?hyy17⟩) (by assumption) ?resty17
            case hyy17 => (intro w hSw; (try dsimp only at hSw); go_simp; (try with_reducible rfl))
            go_simp
            refine wpAnyH_take (i := 18) (v := ?vy18) rfl (by kernel_rfl) (by kernel_rfl) (by kernel_rfl) (fun _ _ _ h => h) (Or.inl ⟨by kernel_rfl, ?hyy18⟩) (by assumption) ?resty18
            case hyy18 => (intro w hSw; (try dsimp only at hSw); go_simp; (try with_reducible rfl))
            go_simp
            refine wpAnyH_take (i := 19) (v := ?vy19) rfl (by kernel_rfl) (by kernel_rfl) (by kernel_rfl) (fun _ _ _ h => h) (Or.inl ⟨by kernel_rfl, ?hyy19⟩) (by assumption) ?resty19
            case hyy19 => (intro w hSw; (try dsimp only at hSw); go_simp; (try with_reducible rfl))
            go_simp
            refine wpAnyH_ready (rs := [20]) (by kernel_rfl) (by simp) ?_
            refine AllReadyH.cons rfl (fun K hK => ?_) AllReadyH.nil
            rw [if_pos (by kernel_rfl)]
            go_simp
            refine HR1.out.mono ?_
            rintro e _ ⟨rfl, rfl⟩
            go_wp2_with fail
            refine hK.out _ _ (by go_keep) (fun hHeld => ?_)
            clear hK K
            go_simp
            refine wpAnyH_take (i := 21) (v := ?vy21) rfl (by kernel_rfl) (by kernel_rfl) (by kernel_rfl) (fun _ _ _ h => h) (Or.inl ⟨by kernel_rfl, ?hyy21⟩) (by assumption) ?resty21
            case hyy21 => (intro w hSw; (try dsimp only at hSw); go_simp; (try with_reducible rfl))
            go_simp
            refine wpAnyH_take (i := 22) (v := ?vy22) rfl (by kernel_rfl) (by kernel_rfl) (by kernel_rfl) (fun _ _ _ h => h) (Or.inl ⟨by kernel_rfl, ?hyy22⟩) (by assumption) ?resty22
            case hyy22 => (intro w hSw; (try dsimp only at hSw); go_simp; (try with_reducible rfl))
            go_simp
            refine wpAnyH_take (i := 23) (v := ?vy23) rfl (by kernel_rfl) (by kernel_rfl) (by kernel_rfl) (fun _ _ _ h => h) (Or.inl ⟨by kernel_rfl, ?hyy23⟩) (by assumption) ?resty23
            case hyy23 => (intro w hSw; (try dsimp only at hSw); go_simp; (try with_reducible rfl))
            go_simp
            refine wpAnyH_take (i := 24) (v := ?vy24) rfl (by kernel_rfl) (by kernel_rfl) (by kernel_rfl) (fun _ _ _ h => h) (Or.inl ⟨by kernel_rfl, ?hyy24⟩) (by assumption) ?resty24
            case hyy24 => (intro w hSw; (try dsimp only at hSw); go_simp; (try with_reducible rfl))
            go_simp
            refine wpAnyH_take (i := 25) (v := ?vy25) rfl (by kernel_rfl) (by kernel_rfl) (by kernel_rfl) (fun _ _ _ h => h) (Or.inl ⟨by kernel_rfl, ?hyy25⟩) (by assumption) ?resty25
            case hyy25 => (intro w hSw; (try dsimp only at hSw); go_simp; (try with_reducible rfl))
            go_simp
            refine wpAnyH_take (i := 26) (v := ?vy26) rfl (by kernel_rfl) (by kernel_rfl) (by kernel_rfl) (fun _ _ _ h => h) (Or.inl ⟨by kernel_rfl, ?hyy26⟩) (by assumption) ?resty26
            case hyy26 => (intro w hSw; (try dsimp only at hSw); go_simp; (try with_reducible rfl))
            go_simp
            refine wpAnyH_take (i := 27) (v := ?vy27) rfl (by kernel_rfl) (by kernel_rfl) (by kernel_rfl) (fun _ _ _ h => h) (Or.inl ⟨by kernel_rfl, ?hyy27⟩) (by assumption) ?resty27
            case hyy27 => (intro w hSw; (try dsimp only at hSw); go_simp; (try with_reducible rfl))
            go_simp
            refine wpAnyH_take (i := 28) (v := ?vy28) rfl (by kernel_rfl) (by kernel_rfl) (by kernel_rfl) (fun _ _ _ h => h) (Or.inl ⟨by kernel_rfl, ?hyy28⟩) (by assumption) ?resty28
            case hyy28 => (intro w hSw; (try dsimp only at hSw); go_simp; (try with_reducible rfl))
            go_simp
            refine wpAnyH_ready (rs := [29]) (by kernel_rfl) (by simp) ?_
            refine AllReadyH.cons rfl (fun K hK => ?_) AllReadyH.nil
            rw [if_pos (by kernel_rfl)]
            go_simp
            refine HS1.out.mono ?_
            rintro e _ ⟨rfl, rfl⟩
            go_wp2_with fail
            refine hK.out _ _ (by go_keep) (fun hHeld => ?_)
            clear hK K
            go_simp
            refine wpAnyH_take (i := 30) (v := ?vy30) rfl (by kernel_rfl) (by kernel_rfl) (by kernel_rfl) (fun _ _ _ h => h) (Or.inl ⟨by kernel_rfl, ?hyy30⟩) (by assumption) ?resty30
            case hyy30 => (intro w hSw; (try dsimp only at hSw); go_simp; (try with_reducible rfl))
            go_simp
            refine wpAnyH_take (i := 31) (v := ?vy31) rfl (by kernel_rfl) (by kernel_rfl) (by kernel_rfl) (fun _ _ _ h => h) (Or.inl ⟨by kernel_rfl, ?hyy31⟩) (by assumption) ?resty31
            case hyy31 => (intro w hSw; (try dsimp only at hSw); go_simp; (try with_reducible rfl))
            go_simp
            refine wpAnyH_done (by kernel_rfl) ?_ _
            refine NoPanic.normal ?_
            go_wp2
            go_roundw
            case rel => exact ⟨j + 1 + 1, by omega, by go_num, hS.drew, hX.drew, below_drewN hB 1⟩
            case measure => simp [intOf]; omega
        · obtain rfl : k = X.length := by omega
          clear hkn hk
          go_wp2
          go_loopw [8] (fun i wr => ∃ k : Nat, k ≤ l.length ∧ i = .int .i64 k ∧ SetB wr w.heap.size w.heap.size As cs ws ∧ RowAt wr Ax (ivals X) ∧ Below w.heap.size w wr) (fun i _ => l.length - (intOf i).toNat)
          case atStart => exact ⟨0, by omega, rfl, hS, hX, hB⟩
          case round =>
            clear hS hX hB
            obtain ⟨k, hk, rfl, hS, hX, hB⟩ := hrel
            by_cases hkn : k < l.length
            · obtain ⟨g0, o0, rfl, hg0, hc0⟩ := (HR.out.below hB (Nat.le_refl _)) (by rw [ivals_len]; omega)
              have hcl : wr.cell? ⟨g0, o0 + k, none⟩ = some (.int .i64 l[k]) := hc0 k _ (by simp [ivals, hkn])
              have hxm := (hXm.out l[k])
              have hmem : l[k] ∈ l := List.getElem_mem hkn
              have HS1 := bhas_q l[k] hS hall rfl
              have HR1 := has_any (c := cx) (n := l[k]) (by unfold maxLen; omega) hX
              clear hc0
              generalize l[k] = x at *
              by_cases hx0 : x < 0
              · have hd1 : decide (0 ≤ x) = false := decide_eq_false (by omega)
                have hn : ¬ x ∈ X := fun h => by have := hxm.1 h; omega
                rw [decide_eq_false hn] at HS1 HR1
                replace HS1 := Lib.hid HS1
                replace HR1 := Lib.hid HR1
                clear hxm hn hmem
                go_wp2_with fail
                refine HR1.out.mono ?_
                rintro e _ ⟨rfl, rfl⟩
                go_wp2_with fail
                refine HS1.out.mono ?_
                rintro e _ ⟨rfl, rfl⟩
                go_wp2
                go_roundw
                case rel => exact ⟨k + 1, by omega, by go_num, hS, hX, hB⟩
                case measure => simp [intOf]; omega
              · have hd1 : decide (0 ≤ x) = true := decide_eq_true (by omega)
                have hd3 : (0 : Int) ≤ x := by omega
                by_cases hx1 : x < 65536
                · have hd2 : decide (x < 65536) = true := decide_eq_true hx1
                  have hn : x ∈ X := hxm.2 ⟨hmem, by omega, hx1⟩
                  rw [decide_eq_true hn] at HS1 HR1
                  replace HS1 := Lib.hid HS1
                  replace HR1 := Lib.hid HR1
                  clear hxm hn hmem
                  go_wp2_with fail
                  refine HR1.out.mono ?_
                  rintro e _ ⟨rfl, rfl⟩
                  go_wp2_with fail
                  refine HS1.out.mono ?_
                  rintro e _ ⟨rfl, rfl⟩
                  go_wp2
                  go_roundw
                  case rel => exact ⟨k + 1, by omega, by go_num, hS, hX, hB⟩
                  case measure => simp [intOf]; omega
                · have hd2 : decide (x < 65536) = false := decide_eq_false hx1
                  have hn : ¬ x ∈ X := fun h => by have := hxm.1 h; omega
                  rw [decide_eq_false hn] at HS1 HR1
                  replace HS1 := Lib.hid HS1
                  replace HR1 := Lib.hid HR1
                  clear hxm hn hmem
                  go_wp2_with fail
                  refine HR1.out.mono ?_
                  rintro e _ ⟨rfl, rfl⟩
                  go_wp2_with fail
                  refine HS1.out.mono ?_
                  rintro e _ ⟨rfl, rfl⟩
                  go_wp2
                  go_roundw
                  case rel => exact ⟨k + 1, by omega, by go_num, hS, hX, hB⟩
                  case measure => simp [intOf]; omega
            · obtain rfl : k = l.length := by omega
              have FI := bfirst_any most (by omega) (TT.out.later hB).drew hS.drew
              rw [hall] at FI
              obtain ⟨q, hqm, hqs, hql⟩ : ∃ q : Nat, (if (X.length : Int) < most then (X.length : Int) else most) = (q : Int) ∧ X.take most.toNat = X.take q ∧ q ≤ X.length := by
                refine ⟨min most.toNat X.length, by split <;> omega, first_law X most, by omega⟩
              have hqc : (q : Int) ≤ (cx : Int) := by omega
              have hqc2 : q ≤ cx := by omega
              have hq2 : (X.take q).length = q := by rw [List.length_take]; omega
              rw [hqs] at FI
              have FI0 := FI
              replace FI := Lib.hid FI
              replace hqs := Lib.hid hqs
              clear hkn hk
              go_wp2
              refine wp_region_noPanic ?_
              refine wp_region_held_drew (S := (fun _ => True)) (by kernel_rfl) ?_ (fun hHeld => ?_)
              · go_keep
              refine wpAnyH_take (i := 0) (v := ?vx0) rfl (by kernel_rfl) (by kernel_rfl) (by kernel_rfl) (fun _ _ _ h => h) (Or.inl ⟨by kernel_rfl, ?hyx0⟩) (by assumption) ?restx0
              case hyx0 => (intro w hSw; (try dsimp only at hSw); go_simp; (try with_reducible rfl))
              go_simp
              refine wpAnyH_take (i := 1) (v := ?vx1) rfl (by kernel_rfl) (by kernel_rfl) (by kernel_rfl) (fun _ _ _ h => h) (Or.inl ⟨by kernel_rfl, ?hyx1⟩) (by assumption) ?restx1
              case hyx1 => (intro w hSw; (try dsimp only at hSw); go_simp; (try with_reducible rfl))
              go_simp
              refine wpAnyH_take (i := 3) (v := ?vx3) rfl (by kernel_rfl) (by kernel_rfl) (by kernel_rfl) (fun _ _ _ h => h) (Or.inl ⟨by kernel_rfl, ?hyx3⟩) (by assumption) ?restx3
              case hyx3 => (intro w hSw; (try dsimp only at hSw); go_simp; (try with_reducible rfl))
              go_simp
              refine wpAnyH_take (i := 4) (v := ?vx4) rfl (by kernel_rfl) (by kernel_rfl) (by kernel_rfl) (fun _ _ _ h => h) (Or.inl ⟨by kernel_rfl, ?hyx4⟩) (by assumption) ?restx4
              case hyx4 => (intro w hSw; (try dsimp only at hSw); go_simp; (try with_reducible rfl))
              go_simp
              refine wpAnyH_take (i := 5) (v := ?vx5) rfl (by kernel_rfl) (by kernel_rfl) (by kernel_rfl) (fun _ _ _ h => h) (Or.inl ⟨by kernel_rfl, ?hyx5⟩) (by assumption) ?restx5
              case hyx5 => (intro w hSw; (try dsimp only at hSw); go_simp; (try with_reducible rfl))
              go_simp
              refine wpAnyH_take (i := 6) (v := ?vx6) rfl (by kernel_rfl) (by kernel_rfl) (by kernel_rfl) (fun _ _ _ h => h) (Or.inl ⟨by kernel_rfl, ?hyx6⟩) (by assumption) ?restx6
              case hyx6 => (intro w hSw; (try dsimp only at hSw); go_simp; (try with_reducible rfl))
              go_simp
              refine wpAnyH_take (i := 7) (v := ?vx7) rfl (by kernel_rfl) (by kernel_rfl) (by kernel_rfl) (fun _ _ _ h => h) (Or.inl ⟨by kernel_rfl, ?hyx7⟩) (by assumption) ?restx7
              case hyx7 => (intro w hSw; (try dsimp only at hSw); go_simp; (try with_reducible rfl))
              go_simp
              refine wpAnyH_take (i := 8) (v := ?vx8) rfl (by kernel_rfl) (by kernel_rfl) (by kernel_rfl) (fun _ _ _ h => h) (Or.inl ⟨by kernel_rfl, ?hyx8⟩) (by assumption) ?restx8
              case hyx8 => (intro w hSw; (try dsimp only at hSw); go_simp; (try with_reducible rfl))
              go_simp
              refine wpAnyH_ready (rs := [2]) (by kernel_rfl) (by simp) ?_
              refine AllReadyH.cons rfl (fun K hK => ?_) AllReadyH.nil
              rw [if_pos (by kernel_rfl)]
              go_simp
              refine FI.out.mono ?_
              rintro e W5 ⟨A5, c5, rfl, h51, h52, own5, b5⟩
              replace b5 := below_undrew b5
              have hr5 := RowAt.of_own own5
              have cb5 := hB.trans (b5.mono hB.size)
              have hS5 := hS.later b5
              have hX5 := hX.below b5 (Nat.le_refl _)
              clear own5 b5
              go_wp2_with fail
              refine hK.out _ _ (by go_keep) (fun hHeld => ?_)
              clear hK K
              go_simp
              refine wpAnyH_ready (rs := [9]) (by kernel_rfl) (by simp) ?_
              refine AllReadyH.cons rfl (fun K hK => ?_) AllReadyH.nil
              rw [if_pos (by kernel_rfl)]
              go_simp
              have S1 := sameInts_any A5 c5 (X.take q) Ax cx (X.take q) W5 (by unfold maxLen; omega) (by unfold maxLen; omega) hr5 (by unfold ivals; rw [List.map_take]; exact RowAt.take hX5 q)
              rw [decide_eq_true rfl, hq2] at S1
              replace S1 := Lib.hid S1
              refine S1.out.mono ?_
              rintro e W6 ⟨rfl, hW6⟩
              have b6 := below_drew0 hW6
              have hS6 := hS5.later b6
              have cb6 := cb5.trans (b6.mono cb5.size)
              have LE := blen_any hS6
              rw [hall] at LE
              replace LE := Lib.hid LE
              clear b6 hW6 S1
              go_wp2_with fail
              refine hK.out _ _ (by go_keep) (fun hHeld => ?_)
              clear hK K
              go_simp
              refine wpAnyH_take (i := 10) (v := ?vx10) rfl (by kernel_rfl) (by kernel_rfl) (by kernel_rfl) (fun _ _ _ h => h) (Or.inl ⟨by kernel_rfl, ?hyx10⟩) (by assumption) ?restx10
              case hyx10 => (intro w hSw; (try dsimp only at hSw); go_simp; (try with_reducible rfl))
              go_simp
              refine wpAnyH_take (i := 11) (v := ?vx11) rfl (by kernel_rfl) (by kernel_rfl) (by kernel_rfl) (fun _ _ _ h => h) (Or.inl ⟨by kernel_rfl, ?hyx11⟩) (by assumption) ?restx11
              case hyx11 => (intro w hSw; (try dsimp only at hSw); go_simp; (try with_reducible rfl))
              go_simp
              refine wpAnyH_take (i := 13) (v := ?vx13) rfl (by kernel_rfl) (by kernel_rfl) (by kernel_rfl) (fun _ _ _ h => h) (Or.inl ⟨by kernel_rfl, ?hyx13⟩) (by assumption) ?restx13
              case hyx13 => (intro w hSw; (try dsimp only at hSw); go_simp; (try with_reducible rfl))
              go_simp
              refine wpAnyH_take (i := 14) (v := ?vx14) rfl (by kernel_rfl) (by kernel_rfl) (by kernel_rfl) (fun _ _ _ h => h) (Or.inl ⟨by kernel_rfl, ?hyx14⟩) (by assumption) ?restx14
              case hyx14 => (intro w hSw; (try dsimp only at hSw); go_simp; (try with_reducible rfl))
              go_simp
              refine wpAnyH_ready (rs := [12]) (by kernel_rfl) (by simp) ?_
              refine AllReadyH.cons rfl (fun K hK => ?_) AllReadyH.nil
              rw [if_pos (by kernel_rfl)]
              go_simp
              refine LE.out.mono ?_
              rintro e _ ⟨rfl, rfl⟩
              go_wp2_with fail
              refine hK.out _ _ (by go_keep) (fun hHeld => ?_)
              clear hK K
              go_simp
              refine wpAnyH_take (i := 15) (v := ?vx15) rfl (by kernel_rfl) (by kernel_rfl) (by kernel_rfl) (fun _ _ _ h => h) (Or.inl ⟨by kernel_rfl, ?hyx15⟩) (by assumption) ?restx15
              case hyx15 => (intro w hSw; (try dsimp only at hSw); go_simp; (try with_reducible rfl))
              go_simp
              refine wpAnyH_take (i := 16) (v := ?vx16) rfl (by kernel_rfl) (by kernel_rfl) (by kernel_rfl) (fun _ _ _ h => h) (Or.inl ⟨by kernel_rfl, ?hyx16⟩) (by assumption) ?restx16
              case hyx16 => (intro w hSw; (try dsimp only at hSw); go_simp; (try with_reducible rfl))
              go_simp
              refine wpAnyH_take (i := 17) (v := ?vx17) rfl (by kernel_rfl) (by kernel_rfl) (by kernel_rfl) (fun _ _ _ h => h) (Or.inl ⟨by kernel_rfl, ?hyx17⟩) (by assumption) ?restx17
              case hyx17 => (intro w hSw; (try dsimp only at hSw); go_simp; (try with_reducible rfl))
              go_simp
              refine wpAnyH_ready (rs := [18]) (by kernel_rfl) (by simp) ?_
              refine AllReadyH.cons rfl (fun K hK => ?_) AllReadyH.nil
              rw [if_pos (by kernel_rfl)]
              go_simp
              refine (AW.out _ (TT.out.later cb6)).mono ?_
              rintro e W7 ⟨rfl, b7⟩
              have cb7 := cb6.trans (b7.mono cb6.size)
              go_wp2_with fail
              refine hK.out _ _ (by go_keep) (fun hHeld => ?_)
              clear hK K
              go_simp
              refine wpAnyH_take (i := 19) (v := ?vx19) rfl (by kernel_rfl) (by kernel_rfl) (by kernel_rfl) (fun _ _ _ h => h) (Or.inl ⟨by kernel_rfl, ?hyx19⟩) (by assumption) ?restx19
              case hyx19 => (intro w hSw; (try dsimp only at hSw); go_simp; (try with_reducible rfl))
              go_simp
              refine wpAnyH_ready (rs := [20]) (by kernel_rfl) (by simp) ?_
              refine AllReadyH.cons rfl (fun K hK => ?_) AllReadyH.nil
              rw [if_pos (by kernel_rfl)]
              go_simp
              refine hK.out _ _ hHeld (fun hHeld => ?_)
              clear hK K
              go_simp
              refine wpAnyH_done (by kernel_rfl) ?_ _
              refine NoPanic.normal ?_
              go_wp2
              go_ret
              exact ⟨rfl, cb7⟩
end
end Go.Proofs.YtgilmpakdohijaaDoor
