/-
  account: Check, and the document's Check.
-/
import Derived.Test.YthkaohjgldoipaaAc7
namespace Go.Proofs.Ythkaohjgldoipaa
open Go.RowKit

theorem find_none {p : Int → Bool} {k : Nat} (h : ∀ i : Nat, i < k → p ((i : Int) + 1) = false) : (upto k).find? p = none := by
  rw [List.find?_eq_none]
  intro x hx
  have := mem_upto.1 hx
  have h1 := h (x.toNat - 1) (by omega)
  rw [show ((x.toNat - 1 : Nat) : Int) + 1 = x by omega] at h1
  rw [h1]; decide
theorem find_some {p : Int → Bool} {k : Nat} (h : ∀ i : Nat, i < k → p ((i : Int) + 1) = false) (hp : p ((k : Int) + 1) = true) : ∀ n, k < n → (upto n).find? p = some ((k : Int) + 1) := by
  intro n
  induction n with
  | zero => intro hk; omega
  | succ n ih =>
    intro hk
    rw [upto_succ, List.find?_append]
    by_cases he : k = n
    · subst he
      rw [find_none h, Option.none_or, List.find?_cons_of_pos hp]
    · rw [ih (by omega)]; rfl
theorem mayG_drop {n : Int} {l : List Acc} {k : Nat} (h : k < l.length) : mayG n (l.drop k) k = if mayI l[k] n ≠ 0 then some ((k : Int), mayI l[k] n) else mayG n (l.drop (k + 1)) (k + 1) := by
  rw [List.drop_eq_getElem_cons h]
  rfl
/-- What Check tells of accounts that begin as they must. -/
def chkB (l : List Acc) : Int × Int := match mayG l.length l 0 with | some e => e | none => match (upto l.length).find? (rndA l) with | some a => (a - 1, 26) | none => (l.length, 0)
theorem chkA_B {l : List Acc} (h : ¬ 60 < l.length) (h3 : l.take 3 = newA) : chkA l = chkB l := by
  unfold chkA
  rw [if_neg h, if_neg (fun hh => hh h3)]
  rfl
theorem chkB_some {l : List Acc} {e : Int × Int} (h : mayG l.length l 0 = some e) : chkB l = e := by unfold chkB; rw [h]
theorem chkB_none {l : List Acc} (h : mayG l.length l 0 = none) : chkB l = match (upto l.length).find? (rndA l) with | some a => (a - 1, 26) | none => ((l.length : Int), 0) := by unfold chkB; rw [h]
theorem chkA_not {l : List Acc} (h : ¬ 60 < l.length) (h3 : l.take 3 ≠ newA) : chkA l = (0, 28) := by
  unfold chkA
  rw [if_neg h, if_pos h3]
section
variable {A : Option Addr} {c : Nat} {l : List Acc} {w : World}

/-- A pair that was told. -/
def Told2 (p : Int × Int) (w : World) (e : Ending) (w' : World) : Prop := e = .returned (.tuple #[.int .i64 p.1, .int .i64 p.2]) ∧ Below w.heap.size w w'
set_option maxRecDepth 100000 in
set_option maxHeartbeats 4000000 in
theorem acheck_any (hm : l.length ≤ 1000000) (hc : l.length ≤ c) (hr : RowC w A l) : Calls Try.prog 27 #[.slice A l.length c] w (Told2 (chkA l) w) := by
  have hmf : ∀ (fn : Fn) (first cap : Array Value) (w : World), (Instr.makeFunc fn first cap).run Try.prog w = .ok (.func fn first cap) w := fun _ _ _ _ => rfl
  by_cases h60 : 60 < l.length
  · rw [show chkA l = (0, 3) from if_pos h60]
    go_enter Try.func27, Try.ntmps27
    go_wp2
    go_ret2
    exact ⟨rfl, Below.refl _ _⟩
  · by_cases h3 : l.length < 3
    · rw [chkA_not h60 (fun h => by have := congrArg List.length h; simp [newA] at this; omega)]
      have h3i : (l.length : Int) < 3 := by omega
      clear hr
      go_enter Try.func27, Try.ntmps27
      go_upto_region 3 with fail
      refine wp_region_noPanic ?_
      refine wp_region_held_drew (S := (fun _ => True)) (by kernel_rfl) ?_ (fun hHeld => ?_)
      · exact trivial
      refine wpAnyH_take (i := 0) (v := ?va0) rfl (by kernel_rfl) (by kernel_rfl) (by kernel_rfl) (fun _ _ _ h => h) (Or.inl ⟨by kernel_rfl, ?hya0⟩) (by assumption) ?resta0
      case hya0 => (intro w hSw; (try dsimp only at hSw); go_simp; (try with_reducible rfl))
      go_simp
      refine wpAnyH_take (i := 1) (v := ?va1) rfl (by kernel_rfl) (by kernel_rfl) (by kernel_rfl) (fun _ _ _ h => h) (Or.inl ⟨by kernel_rfl, ?hya1⟩) (by assumption) ?resta1
      case hya1 => (intro w hSw; (try dsimp only at hSw); go_simp; (try with_reducible rfl))
      go_simp
      refine wpAnyH_take (i := 2) (v := ?va2) rfl (by kernel_rfl) (by kernel_rfl) (by kernel_rfl) (fun _ _ _ h => h) (Or.inl ⟨by kernel_rfl, ?hya2⟩) (by assumption) ?resta2
      case hya2 => (intro w hSw; (try dsimp only at hSw); go_simp; (try with_reducible rfl))
      go_simp
      refine wpAnyH_take (i := 3) (v := ?va3) rfl (by kernel_rfl) (by kernel_rfl) (by kernel_rfl) (fun _ _ _ h => h) (Or.inl ⟨by kernel_rfl, ?hya3⟩) (by assumption) ?resta3
      case hya3 => (intro w hSw; (try dsimp only at hSw); go_simp; (try with_reducible rfl))
      go_simp
      refine wpAnyH_take (i := 4) (v := undef) rfl (by kernel_rfl) (by kernel_rfl) (by kernel_rfl) (fun _ _ _ h => h) (Or.inr ⟨by kernel_rfl, rfl⟩) (by assumption) ?_
      go_simp
      refine wpAnyH_take (i := 5) (v := undef) rfl (by kernel_rfl) (by kernel_rfl) (by kernel_rfl) (fun _ _ _ h => h) (Or.inr ⟨by kernel_rfl, rfl⟩) (by assumption) ?_
      go_simp
      refine wpAnyH_take (i := 6) (v := undef) rfl (by kernel_rfl) (by kernel_rfl) (by kernel_rfl) (fun _ _ _ h => h) (Or.inr ⟨by kernel_rfl, rfl⟩) (by assumption) ?_
      go_simp
      refine wpAnyH_take (i := 7) (v := undef) rfl (by kernel_rfl) (by kernel_rfl) (by kernel_rfl) (fun _ _ _ h => h) (Or.inr ⟨by kernel_rfl, rfl⟩) (by assumption) ?_
      go_simp
      refine wpAnyH_take (i := 8) (v := undef) rfl (by kernel_rfl) (by kernel_rfl) (by kernel_rfl) (fun _ _ _ h => h) (Or.inr ⟨by kernel_rfl, rfl⟩) (by assumption) ?_
      go_simp
      refine wpAnyH_take (i := 9) (v := ?va9) rfl (by kernel_rfl) (by kernel_rfl) (by kernel_rfl) (fun _ _ _ h => h) (Or.inl ⟨by kernel_rfl, ?hya9⟩) (by assumption) ?resta9
      case hya9 => (intro w hSw; (try dsimp only at hSw); go_simp; (try with_reducible rfl))
      go_simp
      refine wpAnyH_ready (rs := [10]) (by kernel_rfl) (by simp) ?_
      refine AllReadyH.cons rfl (fun K hK => ?_) AllReadyH.nil
      rw [if_pos (by kernel_rfl)]
      go_simp
      refine hK.out _ _ hHeld (fun hHeld => ?_)
      clear hK K
      go_simp
      refine wpAnyH_done (by kernel_rfl) ?_ _
      refine NoPanic.normal ?_
      go_wp2
      go_ret2
      exact ⟨rfl, below_drewN (Below.refl _ _) 1⟩
    · have NW := Lib.hid fun (w : World) => anew_any w
      have EQ := Lib.hid fun (a : Addr) (w : World) (hr : RowC w A l) (r1 : RowC w (some a) newA) => aequal_any (A := A) (A' := some a) (c := c) (c' := 3) (l := l.take 3) (m := newA) (by rw [List.length_take]; omega) (by decide) (hr.take 3) r1
      have hc3 : (3 : Int) ≤ (c : Int) := by omega
      have h3i : decide ((l.length : Int) < 3) = false := decide_eq_false (by omega)
      have hl3 : (l.take 3).length = 3 := by rw [List.length_take]; omega
      rw [hl3, show newA.length = 3 from rfl] at EQ
      have R := Lib.hid hr
      have HR : RowC w.drew A l := hr.drew
      have cb : Below w.heap.size w w.drew := below_drewN (Below.refl _ _) 1
      clear hr
      by_cases ht : l.take 3 = newA
      · rw [decide_eq_true ht] at EQ
        replace EQ := Lib.hid EQ.out
        have C0 := chkA_B h60 ht
        obtain ⟨tot, htot⟩ : ∃ t, t = chkA l := ⟨_, rfl⟩
        rw [← htot] at C0 ⊢
        have TR := Lib.hid fun (w : World) (hr : RowC w A l) => (those_round (c := c) hm hr).mono fun _ _ h => rowOf rfl h
        have PL := Lib.hid fun (p n : Int) (w : World) => place_any p n w
        have KI := Lib.hid fun (x : Acc) (w : World) => kind_any x w
        obtain ⟨mg, hmg⟩ : ∃ m, m = mayG l.length l 0 := ⟨_, rfl⟩
        have hS : Hid (∀ e, mg = some e → tot = e) := fun e he => C0.trans (chkB_some (hmg.symm.trans he))
        have hN : Hid (mg = none → tot = match (upto l.length).find? (rndA l) with | some a => (a - 1, 26) | none => ((l.length : Int), 0)) := fun he => C0.trans (chkB_none (hmg.symm.trans he))
        have I0 : Hid (mayG l.length (l.drop 0) 0 = mg) := Lib.hid (by rw [hmg]; rfl)
        clear htot C0 hmg ht hl3
        go_enter Try.func27, Try.ntmps27
        go_upto_region 3 with fail
        refine wp_region_noPanic ?_
        refine wp_region_held_drew (S := (fun _ => True)) (by kernel_rfl) ?_ (fun hHeld => ?_)
        · exact trivial
        refine wpAnyH_take (i := 0) (v := ?vb0) rfl (by kernel_rfl) (by kernel_rfl) (by kernel_rfl) (fun _ _ _ h => h) (Or.inl ⟨by kernel_rfl, ?hyb0⟩) (by assumption) ?restb0
        case hyb0 => (intro w hSw; (try dsimp only at hSw); go_simp; (try with_reducible rfl))
        go_simp
        refine wpAnyH_take (i := 1) (v := ?vb1) rfl (by kernel_rfl) (by kernel_rfl) (by kernel_rfl) (fun _ _ _ h => h) (Or.inl ⟨by kernel_rfl, ?hyb1⟩) (by assumption) ?restb1
        case hyb1 => (intro w hSw; (try dsimp only at hSw); go_simp; (try with_reducible rfl))
        go_simp
        refine wpAnyH_take (i := 2) (v := ?vb2) rfl (by kernel_rfl) (by kernel_rfl) (by kernel_rfl) (fun _ _ _ h => h) (Or.inl ⟨by kernel_rfl, ?hyb2⟩) (by assumption) ?restb2
        case hyb2 => (intro w hSw; (try dsimp only at hSw); go_simp; (try with_reducible rfl))
        go_simp
        refine wpAnyH_take (i := 3) (v := ?vb3) rfl (by kernel_rfl) (by kernel_rfl) (by kernel_rfl) (fun _ _ _ h => h) (Or.inl ⟨by kernel_rfl, ?hyb3⟩) (by assumption) ?restb3
        case hyb3 => (intro w hSw; (try dsimp only at hSw); go_simp; (try with_reducible rfl))
        go_simp
        refine wpAnyH_take (i := 4) (v := ?vb4) rfl (by kernel_rfl) (by kernel_rfl) (by kernel_rfl) (fun _ _ _ h => h) (Or.inl ⟨by kernel_rfl, ?hyb4⟩) (by assumption) ?restb4
        case hyb4 => (intro w hSw; (try dsimp only at hSw); go_simp; (try with_reducible rfl))
        go_simp
        refine wpAnyH_take (i := 5) (v := ?vb5) rfl (by kernel_rfl) (by kernel_rfl) (by kernel_rfl) (fun _ _ _ h => h) (Or.inl ⟨by kernel_rfl, ?hyb5⟩) (by assumption) ?restb5
        case hyb5 => (intro w hSw; (try dsimp only at hSw); go_simp; (try with_reducible rfl))
        go_simp
        refine wpAnyH_ready (rs := [6]) (by kernel_rfl) (by simp) ?_
        refine AllReadyH.cons rfl (fun K hK => ?_) AllReadyH.nil
        rw [if_pos (by kernel_rfl)]
        go_simp
        refine (NW.out _).mono ?_
        rintro e w41 ⟨a1, rfl, r1, b1⟩
        have HR := HR.later b1
        have cb := cb.trans (b1.mono cb.size)
        clear b1
        go_wp2_with fail
        refine hK.out _ _ (by exact trivial) (fun hHeld => ?_)
        clear hK K
        go_simp
        refine wpAnyH_ready (rs := [7]) (by kernel_rfl) (by simp) ?_
        refine AllReadyH.cons rfl (fun K hK => ?_) AllReadyH.nil
        rw [if_pos (by kernel_rfl)]
        go_simp
        refine (EQ.out _ _ HR r1).mono ?_
        rintro e w42 ⟨rfl, b1⟩
        have HR := HR.later b1
        have cb := cb.trans (b1.mono cb.size)
        clear b1 r1
        go_wp2_with fail
        refine hK.out _ _ (by exact trivial) (fun hHeld => ?_)
        clear hK K
        go_simp
        refine wpAnyH_take (i := 8) (v := ?vb8) rfl (by kernel_rfl) (by kernel_rfl) (by kernel_rfl) (fun _ _ _ h => h) (Or.inl ⟨by kernel_rfl, ?hyb8⟩) (by assumption) ?restb8
        case hyb8 => (intro w hSw; (try dsimp only at hSw); go_simp; (try with_reducible rfl))
        go_simp
        refine wpAnyH_take (i := 9) (v := ?vb9) rfl (by kernel_rfl) (by kernel_rfl) (by kernel_rfl) (fun _ _ _ h => h) (Or.inl ⟨by kernel_rfl, ?hyb9⟩) (by assumption) ?restb9
        case hyb9 => (intro w hSw; (try dsimp only at hSw); go_simp; (try with_reducible rfl))
        go_simp
        refine wpAnyH_ready (rs := [10]) (by kernel_rfl) (by simp) ?_
        refine AllReadyH.cons rfl (fun K hK => ?_) AllReadyH.nil
        rw [if_pos (by kernel_rfl)]
        go_simp
        refine hK.out _ _ hHeld (fun hHeld => ?_)
        clear hK K
        go_simp
        refine wpAnyH_done (by kernel_rfl) ?_ _
        refine NoPanic.normal ?_
        clear NW EQ
        go_wp2
        go_loopw [27] (fun i wr => ∃ k : Nat, k ≤ l.length ∧ i = .int .i64 k ∧ Hid (mayG l.length (l.drop k) k = mg) ∧ RowC wr A l ∧ Below w.heap.size w wr) (fun i _ => l.length - (intOf i).toNat)
        case atStart => exact ⟨0, by omega, rfl, I0, HR, cb⟩
        case round =>
          clear I0 HR cb
          obtain ⟨k, hk, rfl, hI, HR, cb⟩ := hrel
          by_cases hkn : k < l.length
          · obtain ⟨b0, off, rfl, hg, hcc⟩ := HR.get (by omega)
            obtain ⟨h1, h2, h3', h4⟩ := hcc k hkn
            have hst := mayG_drop (n := l.length) hkn
            rw [hI.out] at hst
            have PLk := PL.out l[k].p l.length
            have KIk := Lib.hid (KI.out l[k])
            have hmy : mayI l[k] l.length = if placeI l[k].p l.length ≠ 0 then placeI l[k].p l.length else if badK l[k] = true then 25 else 0 := rfl
            rw [hmy] at hst
            clear hcc hmy hI
            generalize placeI l[k].p l.length = pe at *
            generalize (if badK l[k] = true then (25 : Int) else 0) = ke at *
            generalize l[k].p = p0 at *
            generalize l[k].k = d0 at *
            generalize l[k].s = s0 at *
            generalize l[k].q = q0 at *
            have x5 := Box.new wr 60 #[.int .i64 p0, .int .i64 d0, .bool s0, .bool q0]
            have HR' := HR.alloc (.cells #[.int .i64 p0, .int .i64 d0, .bool s0, .bool q0] 60)
            have cb' := cb.alloc cb.size (.cells #[.int .i64 p0, .int .i64 d0, .bool s0, .bool q0] 60)
            by_cases hpe : pe = 0
            · have hme : (if pe ≠ 0 then pe else ke) = ke := if_neg (fun h => h hpe)
              rw [hme] at hst
              clear hme
              rw [hpe] at PLk
              replace PLk := Lib.hid PLk
              clear hpe
              by_cases hke : ke = 0
              · rw [if_neg (fun h => h hke)] at hst
                have HI := Lib.hid hst.symm
                rw [hke] at KIk
                clear hke hst
                go_wp2_with fail
                refine (PLk.out _).mono ?_
                rintro e _ ⟨rfl, rfl⟩
                go_wp2_with fail
                refine (KIk.out _).mono ?_
                rintro e w6 ⟨rfl, b6⟩
                have HR6 := HR'.later b6
                have cb6 := cb'.trans (b6.mono cb'.size)
                clear h1 h2 h3' h4 x5 b6
                go_wp2
                go_roundw
                case rel => exact ⟨k + 1, by omega, by go_num, HI, HR6, cb6⟩
                case measure => simp [intOf]; omega
              · rw [if_pos hke] at hst
                have HE := Lib.hid (hS.out _ hst)
                have hne : (ke != 0) = true := by simpa using hke
                clear hke hst
                go_wp2_with fail
                refine (PLk.out _).mono ?_
                rintro e _ ⟨rfl, rfl⟩
                go_wp2_with fail
                refine (KIk.out _).mono ?_
                rintro e w6 ⟨rfl, b6⟩
                have cb6 := cb'.trans (b6.mono cb'.size)
                clear h1 h2 h3' h4 x5 b6
                go_wp2
                go_ret2
                exact ⟨by rw [HE.out]; rfl, cb6⟩
            · have hme : (if pe ≠ 0 then pe else ke) = pe := if_pos hpe
              rw [hme, if_pos hpe] at hst
              clear hme
              have HE := Lib.hid (hS.out _ hst)
              have hne : (pe != 0) = true := by simpa using hpe
              replace PLk := Lib.hid PLk
              clear hpe hst
              go_wp2_with fail
              refine (PLk.out _).mono ?_
              rintro e _ ⟨rfl, rfl⟩
              clear h1 h2 h3' h4 x5
              go_wp2
              go_ret2
              exact ⟨by rw [HE.out]; rfl, cb'⟩
          · obtain rfl : k = l.length := by omega
            have hmn : mg = none := by rw [← hI.out, List.drop_length]; rfl
            have hT := hN.out hmn
            rw [← List.head?_filter] at hT
            have TRw := TR.out wr HR
            have hin : ∀ b ∈ (upto l.length).filter (rndA l), 1 ≤ b ∧ b ≤ l.length := fun b hb => mem_upto.1 ((List.mem_filter.1 hb).1)
            generalize (upto l.length).filter (rndA l) = fs at *
            clear hI hmn hS hN TR
            cases fs with
            | nil =>
              have hT : tot = ((l.length : Int), 0) := hT
              replace hT := Lib.hid hT
              replace TRw := Lib.hid TRw
              clear hin
              go_wp2_with fail
              refine TRw.out.mono ?_
              rintro e w6 ⟨A6, c6, rfl, r6, b6⟩
              have cb6 := cb.trans (b6.mono cb.size)
              go_wp2
              go_ret2
              exact ⟨by rw [hT.out]; rfl, cb6⟩
            | cons b r =>
              have hT : tot = (b - 1, 26) := hT
              replace hT := Lib.hid hT
              have hb12 := hin b (List.mem_cons_self ..)
              clear hin
              obtain ⟨m, hm9⟩ : ∃ m : Nat, (b :: r).length = m + 1 := ⟨r.length, rfl⟩
              rw [hm9] at TRw
              replace TRw := Lib.hid TRw
              go_wp2_with fail
              refine TRw.out.mono ?_
              rintro e w6 ⟨A6, c6, rfl, r6, b6⟩
              obtain ⟨b0, off, rfl, _, hc6⟩ := r6.iget (by rw [hm9]; omega)
              have h0 := hc6 0 (by rw [hm9]; omega)
              rw [Nat.add_zero] at h0
              simp only [List.getElem_cons_zero] at h0
              have cb6 := cb.trans (b6.mono cb.size)
              clear hc6 r6 b6
              go_wp2
              go_ret2
              exact ⟨by rw [hT.out]; rfl, cb6⟩
      · rw [decide_eq_false ht] at EQ
        replace EQ := Lib.hid EQ.out
        rw [chkA_not h60 ht]
        clear ht
        go_enter Try.func27, Try.ntmps27
        go_upto_region 3 with fail
        refine wp_region_noPanic ?_
        refine wp_region_held_drew (S := (fun _ => True)) (by kernel_rfl) ?_ (fun hHeld => ?_)
        · exact trivial
        refine wpAnyH_take (i := 0) (v := ?vc0) rfl (by kernel_rfl) (by kernel_rfl) (by kernel_rfl) (fun _ _ _ h => h) (Or.inl ⟨by kernel_rfl, ?hyc0⟩) (by assumption) ?restc0
        case hyc0 => (intro w hSw; (try dsimp only at hSw); go_simp; (try with_reducible rfl))
        go_simp
        refine wpAnyH_take (i := 1) (v := ?vc1) rfl (by kernel_rfl) (by kernel_rfl) (by kernel_rfl) (fun _ _ _ h => h) (Or.inl ⟨by kernel_rfl, ?hyc1⟩) (by assumption) ?restc1
        case hyc1 => (intro w hSw; (try dsimp only at hSw); go_simp; (try with_reducible rfl))
        go_simp
        refine wpAnyH_take (i := 2) (v := ?vc2) rfl (by kernel_rfl) (by kernel_rfl) (by kernel_rfl) (fun _ _ _ h => h) (Or.inl ⟨by kernel_rfl, ?hyc2⟩) (by assumption) ?restc2
        case hyc2 => (intro w hSw; (try dsimp only at hSw); go_simp; (try with_reducible rfl))
        go_simp
        refine wpAnyH_take (i := 3) (v := ?vc3) rfl (by kernel_rfl) (by kernel_rfl) (by kernel_rfl) (fun _ _ _ h => h) (Or.inl ⟨by kernel_rfl, ?hyc3⟩) (by assumption) ?restc3
        case hyc3 => (intro w hSw; (try dsimp only at hSw); go_simp; (try with_reducible rfl))
        go_simp
        refine wpAnyH_take (i := 4) (v := ?vc4) rfl (by kernel_rfl) (by kernel_rfl) (by kernel_rfl) (fun _ _ _ h => h) (Or.inl ⟨by kernel_rfl, ?hyc4⟩) (by assumption) ?restc4
        case hyc4 => (intro w hSw; (try dsimp only at hSw); go_simp; (try with_reducible rfl))
        go_simp
        refine wpAnyH_take (i := 5) (v := ?vc5) rfl (by kernel_rfl) (by kernel_rfl) (by kernel_rfl) (fun _ _ _ h => h) (Or.inl ⟨by kernel_rfl, ?hyc5⟩) (by assumption) ?restc5
        case hyc5 => (intro w hSw; (try dsimp only at hSw); go_simp; (try with_reducible rfl))
        go_simp
        refine wpAnyH_ready (rs := [6]) (by kernel_rfl) (by simp) ?_
        refine AllReadyH.cons rfl (fun K hK => ?_) AllReadyH.nil
        rw [if_pos (by kernel_rfl)]
        go_simp
        refine (NW.out _).mono ?_
        rintro e w41 ⟨a1, rfl, r1, b1⟩
        have HR := HR.later b1
        have cb := cb.trans (b1.mono cb.size)
        clear b1
        go_wp2_with fail
        refine hK.out _ _ (by exact trivial) (fun hHeld => ?_)
        clear hK K
        go_simp
        refine wpAnyH_ready (rs := [7]) (by kernel_rfl) (by simp) ?_
        refine AllReadyH.cons rfl (fun K hK => ?_) AllReadyH.nil
        rw [if_pos (by kernel_rfl)]
        go_simp
        refine (EQ.out _ _ HR r1).mono ?_
        rintro e w42 ⟨rfl, b1⟩
        have HR := HR.later b1
        have cb := cb.trans (b1.mono cb.size)
        clear b1 r1
        go_wp2_with fail
        refine hK.out _ _ (by exact trivial) (fun hHeld => ?_)
        clear hK K
        go_simp
        refine wpAnyH_take (i := 8) (v := ?vc8) rfl (by kernel_rfl) (by kernel_rfl) (by kernel_rfl) (fun _ _ _ h => h) (Or.inl ⟨by kernel_rfl, ?hyc8⟩) (by assumption) ?restc8
        case hyc8 => (intro w hSw; (try dsimp only at hSw); go_simp; (try with_reducible rfl))
        go_simp
        refine wpAnyH_take (i := 9) (v := ?vc9) rfl (by kernel_rfl) (by kernel_rfl) (by kernel_rfl) (fun _ _ _ h => h) (Or.inl ⟨by kernel_rfl, ?hyc9⟩) (by assumption) ?restc9
        case hyc9 => (intro w hSw; (try dsimp only at hSw); go_simp; (try with_reducible rfl))
        go_simp
        refine wpAnyH_ready (rs := [10]) (by kernel_rfl) (by simp) ?_
        refine AllReadyH.cons rfl (fun K hK => ?_) AllReadyH.nil
        rw [if_pos (by kernel_rfl)]
        go_simp
        refine hK.out _ _ hHeld (fun hHeld => ?_)
        clear hK K
        go_simp
        refine wpAnyH_done (by kernel_rfl) ?_ _
        refine NoPanic.normal ?_
        go_wp2
        go_ret2
        exact ⟨rfl, cb⟩
end
end Go.Proofs.Ythkaohjgldoipaa
