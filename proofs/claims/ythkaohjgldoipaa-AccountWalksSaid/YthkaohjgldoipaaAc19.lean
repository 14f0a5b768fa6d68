/-
  AccountWalks.
-/
import Derived.Test.YthkaohjgldoipaaAc18
namespace Go.Proofs.Ythkaohjgldoipaa
open Go.RowKit
theorem nvs_get (L : List (Int × Nat)) (k : Nat) (hk : k < L.length) : (nvs L)[k * 2]? = some (.int .i64 L[k].1) ∧ (nvs L)[k * 2 + 1]? = some (.int .i64 (L[k].2 : Int)) := by
  induction L generalizing k with
  | nil => simp at hk
  | cons x r ih =>
    cases k with
    | zero => exact ⟨rfl, rfl⟩
    | succ k =>
      have := ih k (by simpa using hk)
      rw [show nvs (x :: r) = nv x ++ nvs r from rfl]
      simpa [nv, Nat.succ_mul] using this
theorem row_node {w : World} {A : Option Addr} {L : List (Int × Nat)} (h : RowAt w A (nvs L)) (hn : 0 < L.length) : ∃ b off, A = some ⟨b, off, none⟩ ∧ b < w.heap.size ∧ ∀ k (hk : k < L.length), w.cell? ⟨b, off + k * 2, none⟩ = some (.int .i64 L[k].1) ∧ w.cell? ⟨b, off + k * 2 + 1, none⟩ = some (.int .i64 (L[k].2 : Int)) := by
  obtain ⟨b, off, rfl, hb, hc⟩ := h (by rw [nvs_len]; omega)
  refine ⟨b, off, rfl, hb, fun k hk => ?_⟩
  obtain ⟨h1, h2⟩ := nvs_get L k hk
  exact ⟨hc _ _ h1, by rw [Nat.add_assoc]; exact hc _ _ h2⟩
theorem fst_take {L : List (Int × Nat)} {j : Nat} (h : j < L.length) : (L.take (j + 1)).map (·.1) = (L.take j).map (·.1) ++ [L[j].1] := by
  rw [List.take_succ_eq_append_getElem h, List.map_append]; rfl
theorem fst_len {L : List (Int × Nat)} {j : Nat} (h : j ≤ L.length) : ((L.take j).map (·.1)).length = j := by
  rw [List.length_map, List.length_take]; omega
section
variable {A : Option Addr} {c : Nat} {l : List Acc} {w : World}
set_option maxRecDepth 100000 in
set_option maxHeartbeats 4000000 in
theorem walks_law (hc : l.length ≤ c) (hr : RowC w A l) : Calls Try.prog 11 #[.slice A l.length c] w fun e w' => e = .returned (.bool true) ∧ Below w.heap.size w w' := by
  obtain ⟨i0, hi, hz0, hz1, hz2⟩ := info_parts Try.infoInt'
  have AW := Lib.hid fun w => awake_any w
  by_cases h70 : 70 < l.length
  · clear hr
    go_enter Try.func11, Try.ntmps11
    go_wp2_with fail
    refine (AW.out _).mono ?_
    rintro e w1 ⟨rfl, b1⟩
    go_wp2
    go_ret
    exact ⟨rfl, b1⟩
  · have hm : l.length ≤ 1000000 := by omega
    have P1 := Lib.hid fun (w : World) (hr : RowC w A l) => awalk_any (c := c) hm hr
    have P2 := Lib.hid fun (w : World) (hr : RowC w A l) => rwalk_any (c := c) hm hr
    have CK := fun (w : World) (hr : RowC w A l) => acheck_any (c := c) hm hc hr
    have hwl : (walkA l).length ≤ l.length := walkG_len (k := l.length + 1) (lvl_zero l)
    by_cases hck : (chkA l).2 = 0
    · have WO := walk_ok (chkA_ok.1 hck)
      rw [chkA_at hck] at CK
      replace CK := Lib.hid CK
      clear hck
      generalize walkA l = L at *
      have hLl := WO.1
      have FC : Hid (∀ i (hi : i < L.length), L[i].1 ∉ (L.take i).map (·.1) ∧ (upA l L[i].1).length = L[i].2 ∧ ∀ p r, upA l L[i].1 = p :: r → p ∈ (L.take i).map (·.1)) := fun i hi => (WO.2 i hi).2
      replace hLl := Lib.hid hLl
      clear WO
      go_enter Try.func11, Try.ntmps11
      go_wp2_with fail
      refine (P1.out _ hr).mono ?_
      rintro e w1 ⟨A1, c1, rfl, own1, hb⟩
      have r1 := row_nv own1
      replace hr := hr.later hb
      clear own1
      go_wp2_with fail
      refine (P2.out _ hr).mono ?_
      rintro e w2 ⟨A2, c2, rfl, own2, b2⟩
      have r2 := row_nv own2
      replace r1 := r1.below b2 (Nat.le_refl _)
      replace hr := hr.later b2
      replace hb := hb.trans (b2.mono hb.size)
      clear b2 own2
      go_wp2_with fail
      refine (CK.out _ hr).mono ?_
      rintro e w4 ⟨rfl, b2⟩
      replace r1 := r1.below b2 (Nat.le_refl _)
      replace r2 := r2.below b2 (Nat.le_refl _)
      replace hr := hr.later b2
      replace hb := hb.trans (b2.mono hb.size)
      have R1 := Lib.hid r1
      have R2 := Lib.hid r2
      have HR := Lib.hid hr
      clear b2 r1 r2 hr
      have hLe : ((L.length : Int) == (l.length : Int)) = true := by rw [hLl.out]; simp
      go_wp2
      go_loopw [5, 8] (fun s i wr => ∃ (j : Nat) (A5 : Option Addr) (c5 : Nat), j ≤ L.length ∧ s = .slice A5 j c5 ∧ i = .int .i64 j ∧ wr.ownsRow w4.heap.size 3 1 (.slice A5 j c5) j (ivals ((L.take j).map (·.1))) ∧ Below w4.heap.size w4 wr) (fun _ i _ => L.length - (intOf i).toNat)
      case atStart => exact ⟨0, none, 0, by omega, rfl, rfl, World.ownsRow_nil _ _ _ _, Below.refl _ _⟩
      case round =>
        obtain ⟨j, A5, c5, hj, rfl, rfl, own, hbr⟩ := hrel
        by_cases hjn : j < L.length
        · obtain ⟨b1, off1, rfl, _, hc1⟩ := row_node (R1.out.below hbr (Nat.le_refl _)) (by omega)
          obtain ⟨b2, off2, rfl, _, hc2⟩ := row_node (R2.out.below hbr (Nat.le_refl _)) (by omega)
          obtain ⟨h1, h3⟩ := hc1 j hjn
          obtain ⟨h2, h4⟩ := hc2 j hjn
          have hr := HR.out.below hbr (Nat.le_refl _)
          have ST := Lib.hid (fst_take hjn)
          have hzl := fst_len hj
          obtain ⟨f1, f2, f3⟩ := FC.out j hjn
          have UX := Lib.hid fun (w : World) (hr : RowC w A l) => (aupl_any (c := c) L[j].1 hm hr).mono fun _ _ h => rowOf f2 h
          have hul := upA_len l L[j].1
          clear hc1 hc2
          generalize (L.take j).map (·.1) = zs at *
          generalize upA l L[j].1 = us at *
          generalize L[j].1 = x at *
          generalize L[j].2 = d at *
          replace f1 : decide (x ∈ zs) = false := decide_eq_false f1
          replace f3 := Lib.hid f3
          cases us with
          | nil =>
            have hp1 : decide (0 < d) = false := decide_eq_false (by simp at f2; omega)
            have hp2 : decide ((0 : Int) < (d : Int)) = false := decide_eq_false (by simp at f2; omega)
            clear f2 f3
            go_upto_region 11 with fail
            refine wp_region_noPanic ?_
            refine wp_region_held_drew (S := (fun w' => w'.cell? ⟨b1, off1 + j * 2, none⟩ = some (.int .i64 x) ∧ w'.cell? ⟨b1, off1 + j * 2 + 1, none⟩ = some (.int .i64 (d : Int)) ∧ w'.cell? ⟨b2, off2 + j * 2, none⟩ = some (.int .i64 x) ∧ w'.cell? ⟨b2, off2 + j * 2 + 1, none⟩ = some (.int .i64 (d : Int)))) (by kernel_rfl) ?_ (fun hHeld => ?_)
            · go_keep
            refine wpAnyH_take (i := 0) (v := ?vr00) rfl (by kernel_rfl) (by kernel_rfl) (by kernel_rfl) (fun _ _ _ h => h) (Or.inl ⟨by kernel_rfl, ?hyr00⟩) (by assumption) ?restr00
            case hyr00 => (intro w hSw; (try dsimp only at hSw); go_simp; (try with_reducible rfl))
            go_simp
            refine wpAnyH_take (i := 1) (v := ?vr01) rfl (by kernel_rfl) (by kernel_rfl) (by kernel_rfl) (fun _ _ _ h => h) (Or.inl ⟨by kernel_rfl, ?hyr01⟩) (by assumption) ?restr01
            case hyr01 => (intro w hSw; (try dsimp only at hSw); go_simp; (try with_reducible rfl))
            go_simp
            refine wpAnyH_take (i := 2) (v := ?vr02) rfl (by kernel_rfl) (by kernel_rfl) (by kernel_rfl) (fun _ _ _ h => h) (Or.inl ⟨by kernel_rfl, ?hyr02⟩) (by assumption) ?restr02
            case hyr02 => (intro w hSw; (try dsimp only at hSw); go_simp; (try with_reducible rfl))
            go_simp
            refine wpAnyH_take (i := 3) (v := ?vr03) rfl (by kernel_rfl) (by kernel_rfl) (by kernel_rfl) (fun _ _ _ h => h) (Or.inl ⟨by kernel_rfl, ?hyr03⟩) (by assumption) ?restr03
            case hyr03 => (intro w hSw; (try dsimp only at hSw); go_simp; (try with_reducible rfl))
            go_simp
            refine wpAnyH_take (i := 4) (v := ?vr04) rfl (by kernel_rfl) (by kernel_rfl) (by kernel_rfl) (fun _ _ _ h => h) (Or.inl ⟨by kernel_rfl, ?hyr04⟩) (by assumption) ?restr04
            case hyr04 => (intro w hSw; (try dsimp only at hSw); go_simp; (try with_reducible rfl))
            go_simp
            refine wpAnyH_take (i := 5) (v := ?vr05) rfl (by kernel_rfl) (by kernel_rfl) (by kernel_rfl) (fun _ _ _ h => h) (Or.inl ⟨by kernel_rfl, ?hyr05⟩) (by assumption) ?restr05
            case hyr05 => (intro w hSw; (try dsimp only at hSw); go_simp; (try with_reducible rfl))
            go_simp
            refine wpAnyH_take (i := 6) (v := ?vr06) rfl (by kernel_rfl) (by kernel_rfl) (by kernel_rfl) (fun _ _ _ h => h) (Or.inl ⟨by kernel_rfl, ?hyr06⟩) (by assumption) ?restr06
            case hyr06 => (intro w hSw; (try dsimp only at hSw); go_simp; (try with_reducible rfl))
            go_simp
            refine wpAnyH_take (i := 7) (v := ?vr07) rfl (by kernel_rfl) (by kernel_rfl) (by kernel_rfl) (fun _ _ _ h => h) (Or.inl ⟨by kernel_rfl, ?hyr07⟩) (by assumption) ?restr07
            case hyr07 => (intro w hSw; (try dsimp only at hSw); go_simp; (try with_reducible rfl))
            go_simp
            refine wpAnyH_take (i := 8) (v := ?vr08) rfl (by kernel_rfl) (by kernel_rfl) (by kernel_rfl) (fun _ _ _ h => h) (Or.inl ⟨by kernel_rfl, ?hyr08⟩) (by assumption) ?restr08
            case hyr08 => (intro w hSw; (try dsimp only at hSw); go_simp; (try with_reducible rfl))
            go_simp
            refine wpAnyH_take (i := 9) (v := ?vr09) rfl (by kernel_rfl) (by kernel_rfl) (by kernel_rfl) (fun _ _ _ h => h) (Or.inl ⟨by kernel_rfl, ?hyr09⟩) (by assumption) ?restr09
            case hyr09 => (intro w hSw; (try dsimp only at hSw); go_simp; (try with_reducible rfl))
            go_simp
            refine wpAnyH_take (i := 10) (v := ?vr010) rfl (by kernel_rfl) (by kernel_rfl) (by kernel_rfl) (fun _ _ _ h => h) (Or.inl ⟨by kernel_rfl, ?hyr010⟩) (by assumption) ?restr010
            case hyr010 => (intro w hSw; (try dsimp only at hSw); go_simp; (try with_reducible rfl))
            go_simp
            refine wpAnyH_take (i := 11) (v := ?vr011) rfl (by kernel_rfl) (by kernel_rfl) (by kernel_rfl) (fun _ _ _ h => h) (Or.inl ⟨by kernel_rfl, ?hyr011⟩) (by assumption) ?restr011
            case hyr011 => (intro w hSw; (try dsimp only at hSw); go_simp; (try with_reducible rfl))
            go_simp
            refine wpAnyH_take (i := 12) (v := ?vr012) rfl (by kernel_rfl) (by kernel_rfl) (by kernel_rfl) (fun _ _ _ h => h) (Or.inl ⟨by kernel_rfl, ?hyr012⟩) (by assumption) ?restr012
            case hyr012 => (intro w hSw; (try dsimp only at hSw); go_simp; (try with_reducible rfl))
            go_simp
            refine wpAnyH_take (i := 13) (v := ?vr013) rfl (by kernel_rfl) (by kernel_rfl) (by kernel_rfl) (fun _ _ _ h => h) (Or.inl ⟨by kernel_rfl, ?hyr013⟩) (by assumption) ?restr013
            case hyr013 => (intro w hSw; (try dsimp only at hSw); go_simp; (try with_reducible rfl))
            go_simp
            refine wpAnyH_take (i := 14) (v := ?vr014) rfl (by kernel_rfl) (by kernel_rfl) (by kernel_rfl) (fun _ _ _ h => h) (Or.inl ⟨by kernel_rfl, ?hyr014⟩) (by assumption) ?restr014
            case hyr014 => (intro w hSw; (try dsimp only at hSw); go_simp; (try with_reducible rfl))
            go_simp
            refine wpAnyH_take (i := 15) (v := ?vr015) rfl (by kernel_rfl) (by kernel_rfl) (by kernel_rfl) (fun _ _ _ h => h) (Or.inl ⟨by kernel_rfl, ?hyr015⟩) (by assumption) ?restr015
            case hyr015 => (intro w hSw; (try dsimp only at hSw); go_simp; (try with_reducible rfl))
            go_simp
            refine wpAnyH_done (by kernel_rfl) ?_ _
            refine NoPanic.normal ?_
            go_wp2_with fail
            refine (UX.out _ hr.drew).mono ?_
            rintro e w5 ⟨A6, c6, rfl, r6, b5⟩
            replace b5 := below_undrew b5
            replace h1 := (b5.cell (p := ⟨b1, off1 + j * 2, none⟩) (by assumption)).trans h1
            replace h3 := (b5.cell (p := ⟨b1, off1 + j * 2 + 1, none⟩) (by assumption)).trans h3
            replace own := own_below own b5 (Nat.le_refl _)
            replace hbr := hbr.trans (b5.mono hbr.size)
            have hsz := hbr.size
            clear b5 hr h2 h4
            have HS := has_any (c := c5) (n := x) (by unfold maxLen; omega) (RowAt.of_own own)
            rw [f1, hzl] at HS
            replace HS := Lib.hid HS
            go_wp2_with fail
            refine HS.out.mono ?_
            rintro e _ ⟨rfl, rfl⟩
            go_wp2_with (at_builtin; refine wpList_append_int rfl _ _ 55 rfl w4.heap.size 3 i0 Try.underlying55 hi hz0 hz1 hz2 _ j (ivals zs) rfl own x rfl (by omega) (by omega) ?_)
            intro g7 c7 w7 own7 hg7 hc7 hm7 hb7 hlt7 hsz7
            have hb7' := hbr.grown hg7 hbr.size (fun g hg => (own.lt g hg).1)
            have hzs : ivals zs ++ [Value.int .i64 x] = ivals ((L.take (j + 1)).map (·.1)) := by rw [ST.out, ivals_append]; rfl
            rw [hzs] at own7
            clear own hg7 hzs h1
            go_wp2
            go_roundw
            case rel => exact ⟨j + 1, some ⟨g7, 0, none⟩, c7, by omega, rfl, by go_num, own7, hb7'⟩
            case measure => simp [intOf]; omega
          | cons p r =>
            have hp1 : 0 < d := by simp at f2; omega
            have hp2 : (0 : Int) < (d : Int) := by omega
            clear f2
            go_upto_region 11 with fail
            refine wp_region_noPanic ?_
            refine wp_region_held_drew (S := (fun w' => w'.cell? ⟨b1, off1 + j * 2, none⟩ = some (.int .i64 x) ∧ w'.cell? ⟨b1, off1 + j * 2 + 1, none⟩ = some (.int .i64 (d : Int)) ∧ w'.cell? ⟨b2, off2 + j * 2, none⟩ = some (.int .i64 x) ∧ w'.cell? ⟨b2, off2 + j * 2 + 1, none⟩ = some (.int .i64 (d : Int)))) (by kernel_rfl) ?_ (fun hHeld => ?_)
            · go_keep
            refine wpAnyH_take (i := 0) (v := ?vr10) rfl (by kernel_rfl) (by kernel_rfl) (by kernel_rfl) (fun _ _ _ h => h) (Or.inl ⟨by kernel_rfl, ?hyr10⟩) (by assumption) ?restr10
            case hyr10 => (intro w hSw; (try dsimp only at hSw); go_simp; (try with_reducible rfl))
            go_simp
            refine wpAnyH_take (i := 1) (v := ?vr11) rfl (by kernel_rfl) (by kernel_rfl) (by kernel_rfl) (fun _ _ _ h => h) (Or.inl ⟨by kernel_rfl, ?hyr11⟩) (by assumption) ?restr11
            case hyr11 => (intro w hSw; (try dsimp only at hSw); go_simp; (try with_reducible rfl))
            go_simp
            refine wpAnyH_take (i := 2) (v := ?vr12) rfl (by kernel_rfl) (by kernel_rfl) (by kernel_rfl) (fun _ _ _ h => h) (Or.inl ⟨by kernel_rfl, ?hyr12⟩) (by assumption) ?restr12
            case hyr12 => (intro w hSw; (try dsimp only at hSw); go_simp; (try with_reducible rfl))
            go_simp
            refine wpAnyH_take (i := 3) (v := ?vr13) rfl (by kernel_rfl) (by kernel_rfl) (by kernel_rfl) (fun _ _ _ h => h) (Or.inl ⟨by kernel_rfl, ?hyr13⟩) (by assumption) ?restr13
            case hyr13 => (intro w hSw; (try dsimp only at hSw); go_simp; (try with_reducible rfl))
            go_simp
            refine wpAnyH_take (i := 4) (v := ?vr14) rfl (by kernel_rfl) (by kernel_rfl) (by kernel_rfl) (fun _ _ _ h => h) (Or.inl ⟨by kernel_rfl, ?hyr14⟩) (by assumption) ?restr14
            case hyr14 => (intro w hSw; (try dsimp only at hSw); go_simp; (try with_reducible rfl))
            go_simp
            refine wpAnyH_take (i := 5) (v := ?vr15) rfl (by kernel_rfl) (by kernel_rfl) (by kernel_rfl) (fun _ _ _ h => h) (Or.inl ⟨by kernel_rfl, ?hyr15⟩) (by assumption) ?restr15
            case hyr15 => (intro w hSw; (try dsimp only at hSw); go_simp; (try with_reducible rfl))
            go_simp
            refine wpAnyH_take (i := 6) (v := ?vr16) rfl (by kernel_rfl) (by kernel_rfl) (by kernel_rfl) (fun _ _ _ h => h) (Or.inl ⟨by kernel_rfl, ?hyr16⟩) (by assumption) ?restr16
            case hyr16 => (intro w hSw; (try dsimp only at hSw); go_simp; (try with_reducible rfl))
            go_simp
            refine wpAnyH_take (i := 7) (v := ?vr17) rfl (by kernel_rfl) (by kernel_rfl) (by kernel_rfl) (fun _ _ _ h => h) (Or.inl ⟨by kernel_rfl, ?hyr17⟩) (by assumption) ?restr17
            case hyr17 => (intro w hSw; (try dsimp only at hSw); go_simp; (try with_reducible rfl))
            go_simp
            refine wpAnyH_take (i := 8) (v := ?vr18) rfl (by kernel_rfl) (by kernel_rfl) (by kernel_rfl) (fun _ _ _ h => h) (Or.inl ⟨by kernel_rfl, ?hyr18⟩) (by assumption) ?restr18
            case hyr18 => (intro w hSw; (try dsimp only at hSw); go_simp; (try with_reducible rfl))
            go_simp
            refine wpAnyH_take (i := 9) (v := ?vr19) rfl (by kernel_rfl) (by kernel_rfl) (by kernel_rfl) (fun _ _ _ h => h) (Or.inl ⟨by kernel_rfl, ?hyr19⟩) (by assumption) ?restr19
            case hyr19 => (intro w hSw; (try dsimp only at hSw); go_simp; (try with_reducible rfl))
            go_simp
            refine wpAnyH_take (i := 10) (v := ?vr110) rfl (by kernel_rfl) (by kernel_rfl) (by kernel_rfl) (fun _ _ _ h => h) (Or.inl ⟨by kernel_rfl, ?hyr110⟩) (by assumption) ?restr110
            case hyr110 => (intro w hSw; (try dsimp only at hSw); go_simp; (try with_reducible rfl))
            go_simp
            refine wpAnyH_take (i := 11) (v := ?vr111) rfl (by kernel_rfl) (by kernel_rfl) (by kernel_rfl) (fun _ _ _ h => h) (Or.inl ⟨by kernel_rfl, ?hyr111⟩) (by assumption) ?restr111
            case hyr111 => (intro w hSw; (try dsimp only at hSw); go_simp; (try with_reducible rfl))
            go_simp
            refine wpAnyH_take (i := 12) (v := ?vr112) rfl (by kernel_rfl) (by kernel_rfl) (by kernel_rfl) (fun _ _ _ h => h) (Or.inl ⟨by kernel_rfl, ?hyr112⟩) (by assumption) ?restr112
            case hyr112 => (intro w hSw; (try dsimp only at hSw); go_simp; (try with_reducible rfl))
            go_simp
            refine wpAnyH_take (i := 13) (v := ?vr113) rfl (by kernel_rfl) (by kernel_rfl) (by kernel_rfl) (fun _ _ _ h => h) (Or.inl ⟨by kernel_rfl, ?hyr113⟩) (by assumption) ?restr113
            case hyr113 => (intro w hSw; (try dsimp only at hSw); go_simp; (try with_reducible rfl))
            go_simp
            refine wpAnyH_take (i := 14) (v := ?vr114) rfl (by kernel_rfl) (by kernel_rfl) (by kernel_rfl) (fun _ _ _ h => h) (Or.inl ⟨by kernel_rfl, ?hyr114⟩) (by assumption) ?restr114
            case hyr114 => (intro w hSw; (try dsimp only at hSw); go_simp; (try with_reducible rfl))
            go_simp
            refine wpAnyH_take (i := 15) (v := ?vr115) rfl (by kernel_rfl) (by kernel_rfl) (by kernel_rfl) (fun _ _ _ h => h) (Or.inl ⟨by kernel_rfl, ?hyr115⟩) (by assumption) ?restr115
            case hyr115 => (intro w hSw; (try dsimp only at hSw); go_simp; (try with_reducible rfl))
            go_simp
            refine wpAnyH_done (by kernel_rfl) ?_ _
            refine NoPanic.normal ?_
            go_wp2_with fail
            refine (UX.out _ hr.drew).mono ?_
            rintro e w5 ⟨A6, c6, rfl, r6, b5⟩
            replace b5 := below_undrew b5
            replace h1 := (b5.cell (p := ⟨b1, off1 + j * 2, none⟩) (by assumption)).trans h1
            replace h3 := (b5.cell (p := ⟨b1, off1 + j * 2 + 1, none⟩) (by assumption)).trans h3
            replace own := own_below own b5 (Nat.le_refl _)
            replace hbr := hbr.trans (b5.mono hbr.size)
            have hsz := hbr.size
            clear b5 hr h2 h4
            have HS := has_any (c := c5) (n := x) (by unfold maxLen; omega) (RowAt.of_own own)
            rw [f1, hzl] at HS
            replace HS := Lib.hid HS
            obtain ⟨b6, off6, rfl, _, hc6⟩ := r6.iget (by simp)
            have h6 : w5.cell? ⟨b6, off6, none⟩ = some (.int .i64 p) := hc6 0 (by simp)
            have HP := has_any (c := c5) (n := p) (by unfold maxLen; omega) (RowAt.of_own own)
            rw [decide_eq_true (f3.out p r rfl), hzl] at HP
            replace HP := Lib.hid HP
            clear hc6
            go_wp2_with fail
            refine HS.out.mono ?_
            rintro e _ ⟨rfl, rfl⟩
            go_wp2_with fail
            refine HP.out.mono ?_
            rintro e _ ⟨rfl, rfl⟩
            clear h6
            go_wp2_with (at_builtin; refine wpList_append_int rfl _ _ 55 rfl w4.heap.size 3 i0 Try.underlying55 hi hz0 hz1 hz2 _ j (ivals zs) rfl own x rfl (by omega) (by omega) ?_)
            intro g7 c7 w7 own7 hg7 hc7 hm7 hb7 hlt7 hsz7
            have hb7' := hbr.grown hg7 hbr.size (fun g hg => (own.lt g hg).1)
            have hzs : ivals zs ++ [Value.int .i64 x] = ivals ((L.take (j + 1)).map (·.1)) := by rw [ST.out, ivals_append]; rfl
            rw [hzs] at own7
            clear own hg7 hzs h1
            go_wp2
            go_roundw
            case rel => exact ⟨j + 1, some ⟨g7, 0, none⟩, c7, by omega, rfl, by go_num, own7, hb7'⟩
            case measure => simp [intOf]; omega
        · obtain rfl : j = L.length := by omega
          have own := own
          go_wp2_with fail
          refine (AW.out _).mono ?_
          rintro e w9 ⟨rfl, b9⟩
          have B9 := hb.trans ((hbr.mono hb.size).trans (b9.mono (Nat.le_trans hb.size hbr.size)))
          go_wp2
          go_ret
          exact ⟨rfl, B9⟩
    · have hne : ((chkA l).2 != 0) = true := by simpa using hck
      have hne' : ((chkA l).2 == 0) = false := beq_eq_false_iff_ne.2 hck
      replace CK := Lib.hid CK
      clear hck
      generalize walkA l = L at *
      generalize chkA l = ck at *
      obtain ⟨k1, k2⟩ := ck
      dsimp only at hne hne'
      go_enter Try.func11, Try.ntmps11
      go_wp2_with fail
      refine (P1.out _ hr).mono ?_
      rintro e w1 ⟨A1, c1, rfl, own1, hb⟩
      have r1 := row_nv own1
      replace hr := hr.later hb
      clear own1
      go_wp2_with fail
      refine (P2.out _ hr).mono ?_
      rintro e w2 ⟨A2, c2, rfl, own2, b2⟩
      have r2 := row_nv own2
      replace r1 := r1.below b2 (Nat.le_refl _)
      replace hr := hr.later b2
      replace hb := hb.trans (b2.mono hb.size)
      clear b2 own2
      go_wp2_with fail
      refine (CK.out _ hr).mono ?_
      rintro e w4 ⟨rfl, b2⟩
      replace r1 := r1.below b2 (Nat.le_refl _)
      replace r2 := r2.below b2 (Nat.le_refl _)
      replace hr := hr.later b2
      replace hb := hb.trans (b2.mono hb.size)
      have R1 := Lib.hid r1
      have R2 := Lib.hid r2
      have HR := Lib.hid hr
      clear b2 r1 r2 hr
      go_wp2
      go_loopw [5, 8] (fun s i wr => ∃ (j : Nat) (A5 : Option Addr) (c5 : Nat), j ≤ L.length ∧ s = .slice A5 j c5 ∧ i = .int .i64 j ∧ wr.ownsRow w4.heap.size 3 1 (.slice A5 j c5) j (ivals ((L.take j).map (·.1))) ∧ Below w4.heap.size w4 wr) (fun _ i _ => L.length - (intOf i).toNat)
      case atStart => exact ⟨0, none, 0, by omega, rfl, rfl, World.ownsRow_nil _ _ _ _, Below.refl _ _⟩
      case round =>
        obtain ⟨j, A5, c5, hj, rfl, rfl, own, hbr⟩ := hrel
        by_cases hjn : j < L.length
        · obtain ⟨b1, off1, rfl, _, hc1⟩ := row_node (R1.out.below hbr (Nat.le_refl _)) (by omega)
          obtain ⟨b2, off2, rfl, _, hc2⟩ := row_node (R2.out.below hbr (Nat.le_refl _)) (by omega)
          obtain ⟨h1, h3⟩ := hc1 j hjn
          obtain ⟨h2, h4⟩ := hc2 j hjn
          have hr := HR.out.below hbr (Nat.le_refl _)
          have ST := Lib.hid (fst_take hjn)
          have hzl := fst_len hj
          have UX := Lib.hid fun (w : World) (hr : RowC w A l) => (aupl_any (c := c) L[j].1 hm hr).mono fun _ _ h => rowOf rfl h
          have hul := upA_len l L[j].1
          clear hc1 hc2
          generalize (L.take j).map (·.1) = zs at *
          generalize upA l L[j].1 = us at *
          generalize L[j].1 = x at *
          generalize L[j].2 = d at *
          go_upto_region 11 with fail
          refine wp_region_noPanic ?_
          refine wp_region_held_drew (S := (fun w' => w'.cell? ⟨b1, off1 + j * 2, none⟩ = some (.int .i64 x) ∧ w'.cell? ⟨b1, off1 + j * 2 + 1, none⟩ = some (.int .i64 (d : Int)) ∧ w'.cell? ⟨b2, off2 + j * 2, none⟩ = some (.int .i64 x) ∧ w'.cell? ⟨b2, off2 + j * 2 + 1, none⟩ = some (.int .i64 (d : Int)))) (by kernel_rfl) ?_ (fun hHeld => ?_)
          · go_keep
          refine wpAnyH_take (i := 0) (v := ?vq0) rfl (by kernel_rfl) (by kernel_rfl) (by kernel_rfl) (fun _ _ _ h => h) (Or.inl ⟨by kernel_rfl, ?hyq0⟩) (by assumption) ?restq0
          case hyq0 => (intro w hSw; (try dsimp only at hSw); go_simp; (try with_reducible rfl))
          go_simp
          refine wpAnyH_take (i := 1) (v := ?vq1) rfl (by kernel_rfl) (by kernel_rfl) (by kernel_rfl) (fun _ _ _ h => h) (Or.inl ⟨by kernel_rfl, ?hyq1⟩) (by assumption) ?restq1
          case hyq1 => (intro w hSw; (try dsimp only at hSw); go_simp; (try with_reducible rfl))
          go_simp
          refine wpAnyH_take (i := 2) (v := ?vq2) rfl (by kernel_rfl) (by kernel_rfl) (by kernel_rfl) (fun _ _ _ h => h) (Or.inl ⟨by kernel_rfl, ?hyq2⟩) (by assumption) ?restq2
          case hyq2 => (intro w hSw; (try dsimp only at hSw); go_simp; (try with_reducible rfl))
          go_simp
          refine wpAnyH_take (i := 3) (v := ?vq3) rfl (by kernel_rfl) (by kernel_rfl) (by kernel_rfl) (fun _ _ _ h => h) (Or.inl ⟨by kernel_rfl, ?hyq3⟩) (by assumption) ?restq3
          case hyq3 => (intro w hSw; (try dsimp only at hSw); go_simp; (try with_reducible rfl))
          go_simp
          refine wpAnyH_take (i := 4) (v := ?vq4) rfl (by kernel_rfl) (by kernel_rfl) (by kernel_rfl) (fun _ _ _ h => h) (Or.inl ⟨by kernel_rfl, ?hyq4⟩) (by assumption) ?restq4
          case hyq4 => (intro w hSw; (try dsimp only at hSw); go_simp; (try with_reducible rfl))
          go_simp
          refine wpAnyH_take (i := 5) (v := ?vq5) rfl (by kernel_rfl) (by kernel_rfl) (by kernel_rfl) (fun _ _ _ h => h) (Or.inl ⟨by kernel_rfl, ?hyq5⟩) (by assumption) ?restq5
          case hyq5 => (intro w hSw; (try dsimp only at hSw); go_simp; (try with_reducible rfl))
          go_simp
          refine wpAnyH_take (i := 6) (v := ?vq6) rfl (by kernel_rfl) (by kernel_rfl) (by kernel_rfl) (fun _ _ _ h => h) (Or.inl ⟨by kernel_rfl, ?hyq6⟩) (by assumption) ?restq6
          case hyq6 => (intro w hSw; (try dsimp only at hSw); go_simp; (try with_reducible rfl))
          go_simp
          refine wpAnyH_take (i := 7) (v := ?vq7) rfl (by kernel_rfl) (by kernel_rfl) (by kernel_rfl) (fun _ _ _ h => h) (Or.inl ⟨by kernel_rfl, ?hyq7⟩) (by assumption) ?restq7
          case hyq7 => (intro w hSw; (try dsimp only at hSw); go_simp; (try with_reducible rfl))
          go_simp
          refine wpAnyH_take (i := 8) (v := ?vq8) rfl (by kernel_rfl) (by kernel_rfl) (by kernel_rfl) (fun _ _ _ h => h) (Or.inl ⟨by kernel_rfl, ?hyq8⟩) (by assumption) ?restq8
          case hyq8 => (intro w hSw; (try dsimp only at hSw); go_simp; (try with_reducible rfl))
          go_simp
          refine wpAnyH_take (i := 9) (v := ?vq9) rfl (by kernel_rfl) (by kernel_rfl) (by kernel_rfl) (fun _ _ _ h => h) (Or.inl ⟨by kernel_rfl, ?hyq9⟩) (by assumption) ?restq9
          case hyq9 => (intro w hSw; (try dsimp only at hSw); go_simp; (try with_reducible rfl))
          go_simp
          refine wpAnyH_take (i := 10) (v := ?vq10) rfl (by kernel_rfl) (by kernel_rfl) (by kernel_rfl) (fun _ _ _ h => h) (Or.inl ⟨by kernel_rfl, ?hyq10⟩) (by assumption) ?restq10
          case hyq10 => (intro w hSw; (try dsimp only at hSw); go_simp; (try with_reducible rfl))
          go_simp
          refine wpAnyH_take (i := 11) (v := ?vq11) rfl (by kernel_rfl) (by kernel_rfl) (by kernel_rfl) (fun _ _ _ h => h) (Or.inl ⟨by kernel_rfl, ?hyq11⟩) (by assumption) ?restq11
          case hyq11 => (intro w hSw; (try dsimp only at hSw); go_simp; (try with_reducible rfl))
          go_simp
          refine wpAnyH_take (i := 12) (v := ?vq12) rfl (by kernel_rfl) (by kernel_rfl) (by kernel_rfl) (fun _ _ _ h => h) (Or.inl ⟨by kernel_rfl, ?hyq12⟩) (by assumption) ?restq12
          case hyq12 => (intro w hSw; (try dsimp only at hSw); go_simp; (try with_reducible rfl))
          go_simp
          refine wpAnyH_take (i := 13) (v := ?vq13) rfl (by kernel_rfl) (by kernel_rfl) (by kernel_rfl) (fun _ _ _ h => h) (Or.inl ⟨by kernel_rfl, ?hyq13⟩) (by assumption) ?restq13
          case hyq13 => (intro w hSw; (try dsimp only at hSw); go_simp; (try with_reducible rfl))
          go_simp
          refine wpAnyH_take (i := 14) (v := ?vq14) rfl (by kernel_rfl) (by kernel_rfl) (by kernel_rfl) (fun _ _ _ h => h) (Or.inl ⟨by kernel_rfl, ?hyq14⟩) (by assumption) ?restq14
          case hyq14 => (intro w hSw; (try dsimp only at hSw); go_simp; (try with_reducible rfl))
          go_simp
          refine wpAnyH_take (i := 15) (v := ?vq15) rfl (by kernel_rfl) (by kernel_rfl) (by kernel_rfl) (fun _ _ _ h => h) (Or.inl ⟨by kernel_rfl, ?hyq15⟩) (by assumption) ?restq15
          case hyq15 => (intro w hSw; (try dsimp only at hSw); go_simp; (try with_reducible rfl))
          go_simp
          refine wpAnyH_done (by kernel_rfl) ?_ _
          refine NoPanic.normal ?_
          go_wp2_with fail
          refine (UX.out _ hr.drew).mono ?_
          rintro e w5 ⟨A6, c6, rfl, r6, b5⟩
          replace b5 := below_undrew b5
          replace h1 := (b5.cell (p := ⟨b1, off1 + j * 2, none⟩) (by assumption)).trans h1
          replace own := own_below own b5 (Nat.le_refl _)
          replace hbr := hbr.trans (b5.mono hbr.size)
          have hsz := hbr.size
          clear b5 r6 hr h2 h3 h4
          go_wp2_with (at_builtin; refine wpList_append_int rfl _ _ 55 rfl w4.heap.size 3 i0 Try.underlying55 hi hz0 hz1 hz2 _ j (ivals zs) rfl own x rfl (by omega) (by omega) ?_)
          intro g7 c7 w7 own7 hg7 hc7 hm7 hb7 hlt7 hsz7
          have hb7' := hbr.grown hg7 hbr.size (fun g hg => (own.lt g hg).1)
          have hzs : ivals zs ++ [Value.int .i64 x] = ivals ((L.take (j + 1)).map (·.1)) := by rw [ST.out, ivals_append]; rfl
          rw [hzs] at own7
          clear own hg7 hzs h1
          go_wp2
          go_roundw
          case rel => exact ⟨j + 1, some ⟨g7, 0, none⟩, c7, by omega, rfl, by go_num, own7, hb7'⟩
          case measure => simp [intOf]; omega
        · obtain rfl : j = L.length := by omega
          have own := own
          go_wp2_with fail
          refine (AW.out _).mono ?_
          rintro e w9 ⟨rfl, b9⟩
          have B9 := hb.trans ((hbr.mono hb.size).trans (b9.mono (Nat.le_trans hb.size hbr.size)))
          go_wp2
          go_ret
          exact ⟨rfl, B9⟩
end
end Go.Proofs.Ythkaohjgldoipaa
