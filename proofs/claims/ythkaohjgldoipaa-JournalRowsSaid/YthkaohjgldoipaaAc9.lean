/-
  account: the document's Check.
-/
import Derived.Test.YthkaohjgldoipaaAc8
namespace Go.Proofs.Ythkaohjgldoipaa
open Go.RowKit
theorem take3 {l : List Acc} (h : 3 ≤ l.length) : l.take 3 = newA ↔ (l[0] = ⟨0, 1, true, false⟩ ∧ l[1] = ⟨0, 1, false, false⟩ ∧ l[2] = ⟨0, 1, false, false⟩) := by
  match l, h with
  | a :: b :: c :: r, _ =>
    show [a, b, c] = newA ↔ _
    unfold newA
    constructor
    · intro h
      injection h with h1 h
      injection h with h2 h
      injection h with h3 h
      exact ⟨h1, h2, h3⟩
    · rintro ⟨h1, h2, h3⟩
      have h1 : a = _ := h1
      have h2 : b = _ := h2
      have h3 : c = _ := h3
      rw [h1, h2, h3]
theorem neA_a (p d : Int) (s q : Bool) (w : World) : (if p = 0 then if d = 1 then if s = false then Result.ok (Next.value (Value.bool true)) w else if q = true then Result.ok (Next.value (Value.bool true)) w else Result.ok (Next.value (Value.bool false)) w else Result.ok (Next.value (Value.bool true)) w else Result.ok (Next.value (Value.bool true)) w) = Result.ok (Next.value (Value.bool (neA ⟨p, d, s, q⟩ ⟨0, 1, true, false⟩))) w := by
  rw [← neA_if]
  cases s <;> cases q <;> simp
theorem neA_b (p d : Int) (s q : Bool) (w : World) : (if p = 0 then if d = 1 then if s = true then Result.ok (Next.value (Value.bool true)) w else if q = true then Result.ok (Next.value (Value.bool true)) w else Result.ok (Next.value (Value.bool false)) w else Result.ok (Next.value (Value.bool true)) w else Result.ok (Next.value (Value.bool true)) w) = Result.ok (Next.value (Value.bool (neA ⟨p, d, s, q⟩ ⟨0, 1, false, false⟩))) w := by
  rw [← neA_if]
  cases s <;> cases q <;> simp
section
variable {A : Option Addr} {c : Nat} {l : List Acc} {w : World}
set_option maxRecDepth 100000 in
set_option maxHeartbeats 8000000 in
theorem rcheck_any (hm : l.length ≤ 1000000) (hr : RowC w A l) : Calls Try.prog 28 #[.slice A l.length c] w (Told2 (chkA l) w) := by
  by_cases h60 : 60 < l.length
  · rw [show chkA l = (0, 3) from if_pos h60]
    go_enter Try.func28, Try.ntmps28
    go_wp2
    go_ret2
    exact ⟨rfl, Below.refl _ _⟩
  · have NW := Lib.hid fun (w : World) => rnew_any w
    by_cases h3 : l.length < 3
    · rw [chkA_not h60 (fun h => by have := congrArg List.length h; simp [newA] at this; omega)]
      have h3i : (l.length : Int) < 3 := by omega
      clear hr
      go_enter Try.func28, Try.ntmps28
      go_wp2_with fail
      refine (NW.out _).mono ?_
      rintro e w1 ⟨rfl, r1, b1⟩
      go_upto_region 4 with fail
      refine wp_region_noPanic ?_
      refine wp_region_held_drew (S := (fun _ => True)) (by kernel_rfl) ?_ (fun hHeld => ?_)
      · exact trivial
      refine wpAnyH_take (i := 0) (v := ?va0) rfl (by kernel_rfl) (by kernel_rfl) (by kernel_rfl) (fun _ _ _ h => h) (Or.inl ⟨by kernel_rfl, ?hya0⟩) (by assumption) ?resta0
      case hya0 => (intro w hSw; (try dsimp only at hSw); go_simp; (try with_reducible rfl))
      go_simp
      refine wpAnyH_take (i := 1) (v := ?va1) rfl (by kernel_rfl) (by kernel_rfl) (by kernel_rfl) (fun _ _ _ h => h) (Or.inl ⟨by kernel_rfl, ?hya1⟩) (by assumption) ?resta1
      case hya1 => (intro w hSw; (try dsimp only at hSw); go_simp; (try with_reducible rfl))
      go_simp
      refine wpAnyH_take (i := 2) (v := ?va2) rfl (by kernel_rfl) (by kernel_rfl) (by kernel_rfl) (fun _ _ _ h => h) (Or.inl ⟨by kernel_rfl, ?hya2⟩) (by assumption) ?resta2
      case hya2 => (intro w hSw; (try dsimp only at hSw); go_simp; (try with_reducible rfl))
      go_simp
      refine wpAnyH_take (i := 3) (v := ?va3) rfl (by kernel_rfl) (by kernel_rfl) (by kernel_rfl) (fun _ _ _ h => h) (Or.inl ⟨by kernel_rfl, ?hya3⟩) (by assumption) ?resta3
      case hya3 => (intro w hSw; (try dsimp only at hSw); go_simp; (try with_reducible rfl))
      go_simp
      refine wpAnyH_take (i := 4) (v := undef) rfl (by kernel_rfl) (by kernel_rfl) (by kernel_rfl) (fun _ _ _ h => h) (Or.inr ⟨by kernel_rfl, rfl⟩) (by assumption) ?_
      go_simp
      refine wpAnyH_take (i := 5) (v := undef) rfl (by kernel_rfl) (by kernel_rfl) (by kernel_rfl) (fun _ _ _ h => h) (Or.inr ⟨by kernel_rfl, rfl⟩) (by assumption) ?_
      go_simp
      refine wpAnyH_take (i := 6) (v := undef) rfl (by kernel_rfl) (by kernel_rfl) (by kernel_rfl) (fun _ _ _ h => h) (Or.inr ⟨by kernel_rfl, rfl⟩) (by assumption) ?_
      go_simp
      refine wpAnyH_take (i := 7) (v := undef) rfl (by kernel_rfl) (by kernel_rfl) (by kernel_rfl) (fun _ _ _ h => h) (Or.inr ⟨by kernel_rfl, rfl⟩) (by assumption) ?_
      go_simp
      refine wpAnyH_take (i := 8) (v := undef) rfl (by kernel_rfl) (by kernel_rfl) (by kernel_rfl) (fun _ _ _ h => h) (Or.inr ⟨by kernel_rfl, rfl⟩) (by assumption) ?_
      go_simp
      refine wpAnyH_take (i := 9) (v := undef) rfl (by kernel_rfl) (by kernel_rfl) (by kernel_rfl) (fun _ _ _ h => h) (Or.inr ⟨by kernel_rfl, rfl⟩) (by assumption) ?_
      go_simp
      refine wpAnyH_take (i := 10) (v := undef) rfl (by kernel_rfl) (by kernel_rfl) (by kernel_rfl) (fun _ _ _ h => h) (Or.inr ⟨by kernel_rfl, rfl⟩) (by assumption) ?_
      go_simp
      refine wpAnyH_take (i := 11) (v := ?va11) rfl (by kernel_rfl) (by kernel_rfl) (by kernel_rfl) (fun _ _ _ h => h) (Or.inl ⟨by kernel_rfl, ?hya11⟩) (by assumption) ?resta11
      case hya11 => (intro w hSw; (try dsimp only at hSw); go_simp; (try with_reducible rfl))
      go_simp
      refine wpAnyH_take (i := 12) (v := ?va12) rfl (by kernel_rfl) (by kernel_rfl) (by kernel_rfl) (fun _ _ _ h => h) (Or.inl ⟨by kernel_rfl, ?hya12⟩) (by assumption) ?resta12
      case hya12 => (intro w hSw; (try dsimp only at hSw); go_simp; (try with_reducible rfl))
      go_simp
      refine wpAnyH_take (i := 13) (v := undef) rfl (by kernel_rfl) (by kernel_rfl) (by kernel_rfl) (fun _ _ _ h => h) (Or.inr ⟨by kernel_rfl, rfl⟩) (by assumption) ?_
      go_simp
      refine wpAnyH_take (i := 14) (v := undef) rfl (by kernel_rfl) (by kernel_rfl) (by kernel_rfl) (fun _ _ _ h => h) (Or.inr ⟨by kernel_rfl, rfl⟩) (by assumption) ?_
      go_simp
      refine wpAnyH_take (i := 15) (v := undef) rfl (by kernel_rfl) (by kernel_rfl) (by kernel_rfl) (fun _ _ _ h => h) (Or.inr ⟨by kernel_rfl, rfl⟩) (by assumption) ?_
      go_simp
      refine wpAnyH_take (i := 16) (v := undef) rfl (by kernel_rfl) (by kernel_rfl) (by kernel_rfl) (fun _ _ _ h => h) (Or.inr ⟨by kernel_rfl, rfl⟩) (by assumption) ?_
      go_simp
      refine wpAnyH_take (i := 17) (v := undef) rfl (by kernel_rfl) (by kernel_rfl) (by kernel_rfl) (fun _ _ _ h => h) (Or.inr ⟨by kernel_rfl, rfl⟩) (by assumption) ?_
      go_simp
      refine wpAnyH_take (i := 18) (v := undef) rfl (by kernel_rfl) (by kernel_rfl) (by kernel_rfl) (fun _ _ _ h => h) (Or.inr ⟨by kernel_rfl, rfl⟩) (by assumption) ?_
      go_simp
      refine wpAnyH_take (i := 19) (v := undef) rfl (by kernel_rfl) (by kernel_rfl) (by kernel_rfl) (fun _ _ _ h => h) (Or.inr ⟨by kernel_rfl, rfl⟩) (by assumption) ?_
      go_simp
      refine wpAnyH_take (i := 20) (v := ?va20) rfl (by kernel_rfl) (by kernel_rfl) (by kernel_rfl) (fun _ _ _ h => h) (Or.inl ⟨by kernel_rfl, ?hya20⟩) (by assumption) ?resta20
      case hya20 => (intro w hSw; (try dsimp only at hSw); go_simp; (try with_reducible rfl))
      go_simp
      refine wpAnyH_take (i := 21) (v := ?va21) rfl (by kernel_rfl) (by kernel_rfl) (by kernel_rfl) (fun _ _ _ h => h) (Or.inl ⟨by kernel_rfl, ?hya21⟩) (by assumption) ?resta21
      case hya21 => (intro w hSw; (try dsimp only at hSw); go_simp; (try with_reducible rfl))
      go_simp
      refine wpAnyH_take (i := 22) (v := undef) rfl (by kernel_rfl) (by kernel_rfl) (by kernel_rfl) (fun _ _ _ h => h) (Or.inr ⟨by kernel_rfl, rfl⟩) (by assumption) ?_
      go_simp
      refine wpAnyH_take (i := 23) (v := undef) rfl (by kernel_rfl) (by kernel_rfl) (by kernel_rfl) (fun _ _ _ h => h) (Or.inr ⟨by kernel_rfl, rfl⟩) (by assumption) ?_
      go_simp
      refine wpAnyH_take (i := 24) (v := undef) rfl (by kernel_rfl) (by kernel_rfl) (by kernel_rfl) (fun _ _ _ h => h) (Or.inr ⟨by kernel_rfl, rfl⟩) (by assumption) ?_
      go_simp
      refine wpAnyH_take (i := 25) (v := undef) rfl (by kernel_rfl) (by kernel_rfl) (by kernel_rfl) (fun _ _ _ h => h) (Or.inr ⟨by kernel_rfl, rfl⟩) (by assumption) ?_
      go_simp
      refine wpAnyH_take (i := 26) (v := undef) rfl (by kernel_rfl) (by kernel_rfl) (by kernel_rfl) (fun _ _ _ h => h) (Or.inr ⟨by kernel_rfl, rfl⟩) (by assumption) ?_
      go_simp
      refine wpAnyH_take (i := 27) (v := undef) rfl (by kernel_rfl) (by kernel_rfl) (by kernel_rfl) (fun _ _ _ h => h) (Or.inr ⟨by kernel_rfl, rfl⟩) (by assumption) ?_
      go_simp
      refine wpAnyH_take (i := 28) (v := undef) rfl (by kernel_rfl) (by kernel_rfl) (by kernel_rfl) (fun _ _ _ h => h) (Or.inr ⟨by kernel_rfl, rfl⟩) (by assumption) ?_
      go_simp
      refine wpAnyH_take (i := 29) (v := ?va29) rfl (by kernel_rfl) (by kernel_rfl) (by kernel_rfl) (fun _ _ _ h => h) (Or.inl ⟨by kernel_rfl, ?hya29⟩) (by assumption) ?resta29
      case hya29 => (intro w hSw; (try dsimp only at hSw); go_simp; (try with_reducible rfl))
      go_simp
      refine wpAnyH_done (by kernel_rfl) ?_ _
      refine NoPanic.normal ?_
      go_wp2
      go_ret2
      exact ⟨rfl, below_drewN b1 1⟩
    · have h3i : decide ((l.length : Int) < 3) = false := decide_eq_false (by omega)
      have R := Lib.hid hr
      have hif := neA_a
      have hif2 := neA_b
      obtain ⟨b0, off, rfl, hg, hcc⟩ := hr.get (by omega)
      have T3 := take3 (l := l) (by omega)
      have NE : Hid (l.take 3 ≠ newA → chkA l = (0, 28)) := fun h => chkA_not h60 h
      have EQ : Hid (l.take 3 = newA → chkA l = chkB l) := fun h => chkA_B h60 h
      obtain ⟨g1, g2, g3, g4⟩ := hcc 0 (by omega)
      obtain ⟨g5, g6, g7, g8⟩ := hcc 1 (by omega)
      obtain ⟨g9, g10, g11, g12⟩ := hcc 2 (by omega)
      simp only [Nat.zero_mul, Nat.add_zero, Nat.one_mul, Nat.reduceMul, Nat.add_assoc, Nat.reduceAdd] at g1 g2 g3 g4 g5 g6 g7 g8 g9 g10 g11 g12
      have h1l : (1 : Int) < l.length := by omega
      have h2l : (2 : Int) < l.length := by omega
      have h0l : 0 < l.length := by omega
      clear hcc hr
      generalize l[0] = x0 at *
      generalize l[1] = x1 at *
      generalize l[2] = x2 at *
      obtain ⟨p0, d0, s0, q0⟩ := x0
      obtain ⟨p1, d1, s1, q1⟩ := x1
      obtain ⟨p2, d2, s2, q2⟩ := x2
      dsimp only at g1 g2 g3 g4 g5 g6 g7 g8 g9 g10 g11 g12
      by_cases e0 : (⟨p0, d0, s0, q0⟩ : Acc) = ⟨0, 1, true, false⟩
      · have n0 : neA ⟨p0, d0, s0, q0⟩ ⟨0, 1, true, false⟩ = false := by rw [e0]; exact neA_same _
        by_cases e1 : (⟨p1, d1, s1, q1⟩ : Acc) = ⟨0, 1, false, false⟩
        · have n1 : neA ⟨p1, d1, s1, q1⟩ ⟨0, 1, false, false⟩ = false := by rw [e1]; exact neA_same _
          by_cases e2 : (⟨p2, d2, s2, q2⟩ : Acc) = ⟨0, 1, false, false⟩
          · have n2 : neA ⟨p2, d2, s2, q2⟩ ⟨0, 1, false, false⟩ = false := by rw [e2]; exact neA_same _
            have C0 := EQ.out (T3.2 ⟨e0, e1, e2⟩)
            injection e0 with a1 a2 a3 a4
            injection e1 with a5 a6 a7 a8
            injection e2 with a9 a10 a11 a12
            subst a1 a2 a3 a4 a5 a6 a7 a8 a9 a10 a11 a12
            clear T3 NE EQ hif hif2 n0 n1 n2
            obtain ⟨tot, htot⟩ : ∃ t, t = chkA l := ⟨_, rfl⟩
            rw [← htot] at C0 ⊢
            have MY := Lib.hid fun (x : Acc) (n : Int) (w : World) => rmay_any x n w
            have RD := Lib.hid fun (a : Int) (ha : isA l a = true) (w : World) (hr : RowC w (some ⟨b0, off, none⟩) l) => rround_any (c := c) a ha hm hr
            have RS := Lib.hid fun (a : Int) (ha : isA l a = true) => rnd_same ha
            obtain ⟨mg, hmg⟩ : ∃ m, m = mayG l.length l 0 := ⟨_, rfl⟩
            have hS : Hid (∀ e, mg = some e → tot = e) := fun e he => C0.trans (chkB_some (hmg.symm.trans he))
            have hN : Hid (mg = none → tot = match (upto l.length).find? (rndA l) with | some a => (a - 1, 26) | none => ((l.length : Int), 0)) := fun he => C0.trans (chkB_none (hmg.symm.trans he))
            have I0 : Hid (mayG l.length (l.drop 0) 0 = mg) := Lib.hid (by rw [hmg]; rfl)
            clear htot C0 hmg
            go_enter Try.func28, Try.ntmps28
            go_wp2_with fail
            refine (NW.out _).mono ?_
            rintro e w1 ⟨rfl, r1, b1⟩
            have HR := R.out.later b1
            have f0 := r1.cellAt 0 (by decide)
            have f1 := r1.cellAt 1 (by decide)
            have f2 := r1.cellAt 2 (by decide)
            have f3 := r1.cellAt 3 (by decide)
            have f4 := r1.cellAt 4 (by decide)
            have f5 := r1.cellAt 5 (by decide)
            have f6 := r1.cellAt 6 (by decide)
            have f7 := r1.cellAt 7 (by decide)
            have f8 := r1.cellAt 8 (by decide)
            have f9 := r1.cellAt 9 (by decide)
            have f10 := r1.cellAt 10 (by decide)
            have f11 := r1.cellAt 11 (by decide)
            simp only [avs, newA, av, List.flatMap_cons, List.flatMap_nil, List.cons_append, List.nil_append, List.append_nil, List.getElem?_cons_zero, List.getElem?_cons_succ] at f0 f1 f2 f3 f4 f5 f6 f7 f8 f9 f10 f11
            replace g1 := (b1.cell (p := ⟨b0, off, none⟩) hg).trans g1
            replace g2 := (b1.cell (p := ⟨b0, off + 1, none⟩) hg).trans g2
            replace g3 := (b1.cell (p := ⟨b0, off + 2, none⟩) hg).trans g3
            replace g4 := (b1.cell (p := ⟨b0, off + 3, none⟩) hg).trans g4
            replace g5 := (b1.cell (p := ⟨b0, off + 4, none⟩) hg).trans g5
            replace g6 := (b1.cell (p := ⟨b0, off + 5, none⟩) hg).trans g6
            replace g7 := (b1.cell (p := ⟨b0, off + 6, none⟩) hg).trans g7
            replace g8 := (b1.cell (p := ⟨b0, off + 7, none⟩) hg).trans g8
            replace g9 := (b1.cell (p := ⟨b0, off + 8, none⟩) hg).trans g9
            replace g10 := (b1.cell (p := ⟨b0, off + 9, none⟩) hg).trans g10
            replace g11 := (b1.cell (p := ⟨b0, off + 10, none⟩) hg).trans g11
            replace g12 := (b1.cell (p := ⟨b0, off + 11, none⟩) hg).trans g12
            clear NW r1
            go_upto_region 4 with fail
            refine wp_region_noPanic ?_
            refine wp_region_held_drew (S := (fun w' => w'.cell? ⟨b0, off, none⟩ = some (.int .i64 0) ∧ w'.cell? ⟨b0, off + 1, none⟩ = some (.int .i64 1) ∧ w'.cell? ⟨b0, off + 2, none⟩ = some (.bool true) ∧ w'.cell? ⟨b0, off + 3, none⟩ = some (.bool false) ∧ w'.cell? ⟨b0, off + 4, none⟩ = some (.int .i64 0) ∧ w'.cell? ⟨b0, off + 5, none⟩ = some (.int .i64 1) ∧ w'.cell? ⟨b0, off + 6, none⟩ = some (.bool false) ∧ w'.cell? ⟨b0, off + 7, none⟩ = some (.bool false) ∧ w'.cell? ⟨b0, off + 8, none⟩ = some (.int .i64 0) ∧ w'.cell? ⟨b0, off + 9, none⟩ = some (.int .i64 1) ∧ w'.cell? ⟨b0, off + 10, none⟩ = some (.bool false) ∧ w'.cell? ⟨b0, off + 11, none⟩ = some (.bool false) ∧ w'.cell? ⟨w.heap.size, 0, none⟩ = some (.int .i64 0) ∧ w'.cell? ⟨w.heap.size, 1, none⟩ = some (.int .i64 1) ∧ w'.cell? ⟨w.heap.size, 2, none⟩ = some (.bool true) ∧ w'.cell? ⟨w.heap.size, 3, none⟩ = some (.bool false) ∧ w'.cell? ⟨w.heap.size, 4, none⟩ = some (.int .i64 0) ∧ w'.cell? ⟨w.heap.size, 5, none⟩ = some (.int .i64 1) ∧ w'.cell? ⟨w.heap.size, 6, none⟩ = some (.bool false) ∧ w'.cell? ⟨w.heap.size, 7, none⟩ = some (.bool false) ∧ w'.cell? ⟨w.heap.size, 8, none⟩ = some (.int .i64 0) ∧ w'.cell? ⟨w.heap.size, 9, none⟩ = some (.int .i64 1) ∧ w'.cell? ⟨w.heap.size, 10, none⟩ = some (.bool false) ∧ w'.cell? ⟨w.heap.size, 11, none⟩ = some (.bool false))) (by kernel_rfl) ?_ (fun hHeld => ?_)
            · go_keep
            refine wpAnyH_take (i := 0) (v := ?vd0) rfl (by kernel_rfl) (by kernel_rfl) (by kernel_rfl) (fun _ _ _ h => h) (Or.inl ⟨by kernel_rfl, ?hyd0⟩) (by assumption) ?restd0
            case hyd0 => (intro w hSw; (try dsimp only at hSw); go_simp; (try with_reducible rfl))
            go_simp
            refine wpAnyH_take (i := 1) (v := ?vd1) rfl (by kernel_rfl) (by kernel_rfl) (by kernel_rfl) (fun _ _ _ h => h) (Or.inl ⟨by kernel_rfl, ?hyd1⟩) (by assumption) ?restd1
            case hyd1 => (intro w hSw; (try dsimp only at hSw); go_simp; (try with_reducible rfl))
            go_simp
            refine wpAnyH_take (i := 2) (v := ?vd2) rfl (by kernel_rfl) (by kernel_rfl) (by kernel_rfl) (fun _ _ _ h => h) (Or.inl ⟨by kernel_rfl, ?hyd2⟩) (by assumption) ?restd2
            case hyd2 => (intro w hSw; (try dsimp only at hSw); go_simp; (try with_reducible rfl))
            go_simp
            refine wpAnyH_take (i := 3) (v := ?vd3) rfl (by kernel_rfl) (by kernel_rfl) (by kernel_rfl) (fun _ _ _ h => h) (Or.inl ⟨by kernel_rfl, ?hyd3⟩) (by assumption) ?restd3
            case hyd3 => (intro w hSw; (try dsimp only at hSw); go_simp; (try with_reducible rfl))
            go_simp
            refine wpAnyH_take (i := 4) (v := ?vd4) rfl (by kernel_rfl) (by kernel_rfl) (by kernel_rfl) (fun _ _ _ h => h) (Or.inl ⟨by kernel_rfl, ?hyd4⟩) (by assumption) ?restd4
            case hyd4 => (intro w hSw; (try dsimp only at hSw); go_simp; (try with_reducible rfl))
            go_simp
            refine wpAnyH_take (i := 5) (v := ?vd5) rfl (by kernel_rfl) (by kernel_rfl) (by kernel_rfl) (fun _ _ _ h => h) (Or.inl ⟨by kernel_rfl, ?hyd5⟩) (by assumption) ?restd5
            case hyd5 => (intro w hSw; (try dsimp only at hSw); go_simp; (try with_reducible rfl))
            go_simp
            refine wpAnyH_take (i := 6) (v := ?vd6) rfl (by kernel_rfl) (by kernel_rfl) (by kernel_rfl) (fun _ _ _ h => h) (Or.inl ⟨by kernel_rfl, ?hyd6⟩) (by assumption) ?restd6
            case hyd6 => (intro w hSw; (try dsimp only at hSw); go_simp; (try with_reducible rfl))
            go_simp
            refine wpAnyH_take (i := 7) (v := ?vd7) rfl (by kernel_rfl) (by kernel_rfl) (by kernel_rfl) (fun _ _ _ h => h) (Or.inl ⟨by kernel_rfl, ?hyd7⟩) (by assumption) ?restd7
            case hyd7 => (intro w hSw; (try dsimp only at hSw); go_simp; (try with_reducible rfl))
            go_simp
            refine wpAnyH_take (i := 8) (v := ?vd8) rfl (by kernel_rfl) (by kernel_rfl) (by kernel_rfl) (fun _ _ _ h => h) (Or.inl ⟨by kernel_rfl, ?hyd8⟩) (by assumption) ?restd8
            case hyd8 => (intro w hSw; (try dsimp only at hSw); go_simp; (try with_reducible rfl))
            go_simp
            refine wpAnyH_take (i := 9) (v := ?vd9) rfl (by kernel_rfl) (by kernel_rfl) (by kernel_rfl) (fun _ _ _ h => h) (Or.inl ⟨by kernel_rfl, ?hyd9⟩) (by assumption) ?restd9
            case hyd9 => (intro w hSw; (try dsimp only at hSw); go_simp; (try with_reducible rfl))
            go_simp
            refine wpAnyH_take (i := 10) (v := ?vd10) rfl (by kernel_rfl) (by kernel_rfl) (by kernel_rfl) (fun _ _ _ h => h) (Or.inl ⟨by kernel_rfl, ?hyd10⟩) (by assumption) ?restd10
            case hyd10 => (intro w hSw; (try dsimp only at hSw); go_simp; (try with_reducible rfl))
            go_simp
            refine wpAnyH_take (i := 11) (v := ?vd11) rfl (by kernel_rfl) (by kernel_rfl) (by kernel_rfl) (fun _ _ _ h => h) (Or.inl ⟨by kernel_rfl, ?hyd11⟩) (by assumption) ?restd11
            case hyd11 => (intro w hSw; (try dsimp only at hSw); go_simp; (try with_reducible rfl))
            go_simp
            refine wpAnyH_take (i := 12) (v := ?vd12) rfl (by kernel_rfl) (by kernel_rfl) (by kernel_rfl) (fun _ _ _ h => h) (Or.inl ⟨by kernel_rfl, ?hyd12⟩) (by assumption) ?restd12
            case hyd12 => (intro w hSw; (try dsimp only at hSw); go_simp; (try with_reducible rfl))
            go_simp
            refine wpAnyH_take (i := 13) (v := ?vd13) rfl (by kernel_rfl) (by kernel_rfl) (by kernel_rfl) (fun _ _ _ h => h) (Or.inl ⟨by kernel_rfl, ?hyd13⟩) (by assumption) ?restd13
            case hyd13 => (intro w hSw; (try dsimp only at hSw); go_simp; (try with_reducible rfl))
            go_simp
            refine wpAnyH_take (i := 14) (v := ?vd14) rfl (by kernel_rfl) (by kernel_rfl) (by kernel_rfl) (fun _ _ _ h => h) (Or.inl ⟨by kernel_rfl, ?hyd14⟩) (by assumption) ?restd14
            case hyd14 => (intro w hSw; (try dsimp only at hSw); go_simp; (try with_reducible rfl))
            go_simp
            refine wpAnyH_take (i := 15) (v := ?vd15) rfl (by kernel_rfl) (by kernel_rfl) (by kernel_rfl) (fun _ _ _ h => h) (Or.inl ⟨by kernel_rfl, ?hyd15⟩) (by assumption) ?restd15
            case hyd15 => (intro w hSw; (try dsimp only at hSw); go_simp; (try with_reducible rfl))
            go_simp
            refine wpAnyH_take (i := 16) (v := ?vd16) rfl (by kernel_rfl) (by kernel_rfl) (by kernel_rfl) (fun _ _ _ h => h) (Or.inl ⟨by kernel_rfl, ?hyd16⟩) (by assumption) ?restd16
            case hyd16 => (intro w hSw; (try dsimp only at hSw); go_simp; (try with_reducible rfl))
            go_simp
            refine wpAnyH_take (i := 17) (v := ?vd17) rfl (by kernel_rfl) (by kernel_rfl) (by kernel_rfl) (fun _ _ _ h => h) (Or.inl ⟨by kernel_rfl, ?hyd17⟩) (by assumption) ?restd17
            case hyd17 => (intro w hSw; (try dsimp only at hSw); go_simp; (try with_reducible rfl))
            go_simp
            refine wpAnyH_take (i := 18) (v := ?vd18) rfl (by kernel_rfl) (by kernel_rfl) (by kernel_rfl) (fun _ _ _ h => h) (Or.inl ⟨by kernel_rfl, ?hyd18⟩) (by assumption) ?restd18
            case hyd18 => (intro w hSw; (try dsimp only at hSw); go_simp; (try with_reducible rfl))
            go_simp
            refine wpAnyH_take (i := 19) (v := ?vd19) rfl (by kernel_rfl) (by kernel_rfl) (by kernel_rfl) (fun _ _ _ h => h) (Or.inl ⟨by kernel_rfl, ?hyd19⟩) (by assumption) ?restd19
            case hyd19 => (intro w hSw; (try dsimp only at hSw); go_simp; (try with_reducible rfl))
            go_simp
            refine wpAnyH_take (i := 20) (v := ?vd20) rfl (by kernel_rfl) (by kernel_rfl) (by kernel_rfl) (fun _ _ _ h => h) (Or.inl ⟨by kernel_rfl, ?hyd20⟩) (by assumption) ?restd20
            case hyd20 => (intro w hSw; (try dsimp only at hSw); go_simp; (try with_reducible rfl))
            go_simp
            refine wpAnyH_take (i := 21) (v := ?vd21) rfl (by kernel_rfl) (by kernel_rfl) (by kernel_rfl) (fun _ _ _ h => h) (Or.inl ⟨by kernel_rfl, ?hyd21⟩) (by assumption) ?restd21
            case hyd21 => (intro w hSw; (try dsimp only at hSw); go_simp; (try with_reducible rfl))
            go_simp
            refine wpAnyH_take (i := 22) (v := ?vd22) rfl (by kernel_rfl) (by kernel_rfl) (by kernel_rfl) (fun _ _ _ h => h) (Or.inl ⟨by kernel_rfl, ?hyd22⟩) (by assumption) ?restd22
            case hyd22 => (intro w hSw; (try dsimp only at hSw); go_simp; (try with_reducible rfl))
            go_simp
            refine wpAnyH_take (i := 23) (v := ?vd23) rfl (by kernel_rfl) (by kernel_rfl) (by kernel_rfl) (fun _ _ _ h => h) (Or.inl ⟨by kernel_rfl, ?hyd23⟩) (by assumption) ?restd23
            case hyd23 => (intro w hSw; (try dsimp only at hSw); go_simp; (try with_reducible rfl))
            go_simp
            refine wpAnyH_take (i := 24) (v := ?vd24) rfl (by kernel_rfl) (by kernel_rfl) (by kernel_rfl) (fun _ _ _ h => h) (Or.inl ⟨by kernel_rfl, ?hyd24⟩) (by assumption) ?restd24
            case hyd24 => (intro w hSw; (try dsimp only at hSw); go_simp; (try with_reducible rfl))
            go_simp
            refine wpAnyH_take (i := 25) (v := ?vd25) rfl (by kernel_rfl) (by kernel_rfl) (by kernel_rfl) (fun _ _ _ h => h) (Or.inl ⟨by kernel_rfl, ?hyd25⟩) (by assumption) ?restd25
            case hyd25 => (intro w hSw; (try dsimp only at hSw); go_simp; (try with_reducible rfl))
            go_simp
            refine wpAnyH_take (i := 26) (v := ?vd26) rfl (by kernel_rfl) (by kernel_rfl) (by kernel_rfl) (fun _ _ _ h => h) (Or.inl ⟨by kernel_rfl, ?hyd26⟩) (by assumption) ?restd26
            case hyd26 => (intro w hSw; (try dsimp only at hSw); go_simp; (try with_reducible rfl))
            go_simp
            refine wpAnyH_take (i := 27) (v := ?vd27) rfl (by kernel_rfl) (by kernel_rfl) (by kernel_rfl) (fun _ _ _ h => h) (Or.inl ⟨by kernel_rfl, ?hyd27⟩) (by assumption) ?restd27
            case hyd27 => (intro w hSw; (try dsimp only at hSw); go_simp; (try with_reducible rfl))
            go_simp
            refine wpAnyH_take (i := 28) (v := ?vd28) rfl (by kernel_rfl) (by kernel_rfl) (by kernel_rfl) (fun _ _ _ h => h) (Or.inl ⟨by kernel_rfl, ?hyd28⟩) (by assumption) ?restd28
            case hyd28 => (intro w hSw; (try dsimp only at hSw); go_simp; (try with_reducible rfl))
            go_simp
            refine wpAnyH_take (i := 29) (v := ?vd29) rfl (by kernel_rfl) (by kernel_rfl) (by kernel_rfl) (fun _ _ _ h => h) (Or.inl ⟨by kernel_rfl, ?hyd29⟩) (by assumption) ?restd29
            case hyd29 => (intro w hSw; (try dsimp only at hSw); go_simp; (try with_reducible rfl))
            go_simp
            refine wpAnyH_done (by kernel_rfl) ?_ _
            refine NoPanic.normal ?_
            have HR := HR.drew
            have cb := below_drewN b1 1
            clear g1 g2 g3 g4 g5 g6 g7 g8 g9 g10 g11 g12 f0 f1 f2 f3 f4 f5 f6 f7 f8 f9 f10 f11 b1
            go_wp2
            go_loopw [5] (fun i wr => ∃ k : Nat, k ≤ l.length ∧ i = .int .i64 k ∧ Hid (mayG l.length (l.drop k) k = mg) ∧ RowC wr (some ⟨b0, off, none⟩) l ∧ Below w.heap.size w wr) (fun i _ => l.length - (intOf i).toNat)
            case atStart => exact ⟨0, by omega, rfl, I0, HR, cb⟩
            case round =>
              clear I0 HR cb
              obtain ⟨k, hk, rfl, hI, HR, cb⟩ := hrel
              by_cases hkn : k < l.length
              · obtain ⟨b3, off3, hAA, hg3, hcc⟩ := HR.get (by omega)
                injection hAA with hAA
                injection hAA with hA1 hA2 _
                subst hA1 hA2
                obtain ⟨h1, h2, h3', h4⟩ := hcc k hkn
                have hst := mayG_drop (n := l.length) hkn
                rw [hI.out] at hst
                have MYk := MY.out l[k] l.length
                clear hcc hI
                generalize mayI l[k] l.length = me at *
                generalize l[k].p = p0 at *
                generalize l[k].k = d0 at *
                generalize l[k].s = s0 at *
                generalize l[k].q = q0 at *
                by_cases hme : me = 0
                · rw [if_neg (fun h => h hme)] at hst
                  have HI := Lib.hid hst.symm
                  rw [hme] at MYk
                  replace MYk := Lib.hid MYk
                  clear hme hst
                  go_wp2_with fail
                  refine (MYk.out _).mono ?_
                  rintro e w6 ⟨rfl, b6⟩
                  have HR6 := HR.later b6
                  have cb6 := cb.trans (b6.mono cb.size)
                  clear h1 h2 h3' h4 b6
                  go_wp2
                  go_roundw
                  case rel => exact ⟨k + 1, by omega, by go_num, HI, HR6, cb6⟩
                  case measure => simp [intOf]; omega
                · rw [if_pos hme] at hst
                  have HE := Lib.hid (hS.out _ hst)
                  have hne : (me != 0) = true := by simpa using hme
                  replace MYk := Lib.hid MYk
                  clear hme hst
                  go_wp2_with fail
                  refine (MYk.out _).mono ?_
                  rintro e w6 ⟨rfl, b6⟩
                  have cb6 := cb.trans (b6.mono cb.size)
                  clear h1 h2 h3' h4 b6
                  go_wp2
                  go_ret2
                  exact ⟨by rw [HE.out]; rfl, cb6⟩
              · obtain rfl : k = l.length := by omega
                have hmn : mg = none := by rw [← hI.out, List.drop_length]; rfl
                have hT := Lib.hid (hN.out hmn)
                clear hI hmn hS hN MY
                go_wp2
                go_loopw [7] (fun i wr => ∃ k : Nat, k ≤ l.length ∧ i = .int .i64 k ∧ Hid (∀ j : Nat, j < k → rndA l ((j : Int) + 1) = false) ∧ RowC wr (some ⟨b0, off, none⟩) l ∧ Below w.heap.size w wr) (fun i _ => l.length - (intOf i).toNat)
                case atStart => exact ⟨0, by omega, rfl, fun j hj => absurd hj (by omega), HR, cb⟩
                case round =>
                  clear HR cb
                  obtain ⟨k, hk, rfl, hI, HR, cb⟩ := hrel
                  by_cases hkn : k < l.length
                  · have RDk := RD.out _ (isA_get hkn) _ HR
                    rw [RS.out _ (isA_get hkn)] at RDk
                    cases hq : rndA l ((k : Int) + 1)
                    · rw [hq] at RDk
                      have HI : Hid (∀ j : Nat, j < k + 1 → rndA l ((j : Int) + 1) = false) := fun j hj => by
                        by_cases hjk : j = k
                        · rw [hjk]; exact hq
                        · exact hI.out j (by omega)
                      replace RDk := Lib.hid RDk
                      clear hq hI
                      go_wp2_with fail
                      refine RDk.out.mono ?_
                      rintro e w6 ⟨rfl, b6⟩
                      have HR6 := HR.later b6
                      have cb6 := cb.trans (b6.mono cb.size)
                      clear b6
                      go_wp2
                      go_roundw
                      case rel => exact ⟨k + 1, by omega, by go_num, HI, HR6, cb6⟩
                      case measure => simp [intOf]; omega
                    · have hf := hT.out
                      rw [find_some hI.out hq _ hkn] at hf
                      have hf : tot = ((k : Int) + 1 - 1, 26) := hf
                      rw [show (k : Int) + 1 - 1 = k by omega] at hf
                      replace hf := Lib.hid hf
                      rw [hq] at RDk
                      replace RDk := Lib.hid RDk
                      clear hq hI hT
                      go_wp2_with fail
                      refine RDk.out.mono ?_
                      rintro e w6 ⟨rfl, b6⟩
                      have cb6 := cb.trans (b6.mono cb.size)
                      go_wp2
                      go_ret2
                      exact ⟨by rw [hf.out]; rfl, cb6⟩
                  · obtain rfl : k = l.length := by omega
                    have hf := hT.out
                    rw [find_none hI.out] at hf
                    have hf : tot = ((l.length : Int), 0) := hf
                    rw [hf]
                    clear hI hT hf
                    go_wp2
                    go_ret2
                    exact ⟨rfl, cb⟩
          · have NN := NE.out (fun h => e2 (T3.1 h).2.2)
            have n2 := neA_of e2
            rw [NN]
            clear T3 NE EQ NN e0 e1 e2
            go_enter Try.func28, Try.ntmps28
            go_wp2_with fail
            refine (NW.out _).mono ?_
            rintro e w1 ⟨rfl, r1, b1⟩
            have HR := R.out.later b1
            have f0 := r1.cellAt 0 (by decide)
            have f1 := r1.cellAt 1 (by decide)
            have f2 := r1.cellAt 2 (by decide)
            have f3 := r1.cellAt 3 (by decide)
            have f4 := r1.cellAt 4 (by decide)
            have f5 := r1.cellAt 5 (by decide)
            have f6 := r1.cellAt 6 (by decide)
            have f7 := r1.cellAt 7 (by decide)
            have f8 := r1.cellAt 8 (by decide)
            have f9 := r1.cellAt 9 (by decide)
            have f10 := r1.cellAt 10 (by decide)
            have f11 := r1.cellAt 11 (by decide)
            simp only [avs, newA, av, List.flatMap_cons, List.flatMap_nil, List.cons_append, List.nil_append, List.append_nil, List.getElem?_cons_zero, List.getElem?_cons_succ] at f0 f1 f2 f3 f4 f5 f6 f7 f8 f9 f10 f11
            replace g1 := (b1.cell (p := ⟨b0, off, none⟩) hg).trans g1
            replace g2 := (b1.cell (p := ⟨b0, off + 1, none⟩) hg).trans g2
            replace g3 := (b1.cell (p := ⟨b0, off + 2, none⟩) hg).trans g3
            replace g4 := (b1.cell (p := ⟨b0, off + 3, none⟩) hg).trans g4
            replace g5 := (b1.cell (p := ⟨b0, off + 4, none⟩) hg).trans g5
            replace g6 := (b1.cell (p := ⟨b0, off + 5, none⟩) hg).trans g6
            replace g7 := (b1.cell (p := ⟨b0, off + 6, none⟩) hg).trans g7
            replace g8 := (b1.cell (p := ⟨b0, off + 7, none⟩) hg).trans g8
            replace g9 := (b1.cell (p := ⟨b0, off + 8, none⟩) hg).trans g9
            replace g10 := (b1.cell (p := ⟨b0, off + 9, none⟩) hg).trans g10
            replace g11 := (b1.cell (p := ⟨b0, off + 10, none⟩) hg).trans g11
            replace g12 := (b1.cell (p := ⟨b0, off + 11, none⟩) hg).trans g12
            clear NW r1
            go_upto_region 4 with fail
            refine wp_region_noPanic ?_
            refine wp_region_held_drew (S := (fun w' => w'.cell? ⟨b0, off, none⟩ = some (.int .i64 p0) ∧ w'.cell? ⟨b0, off + 1, none⟩ = some (.int .i64 d0) ∧ w'.cell? ⟨b0, off + 2, none⟩ = some (.bool s0) ∧ w'.cell? ⟨b0, off + 3, none⟩ = some (.bool q0) ∧ w'.cell? ⟨b0, off + 4, none⟩ = some (.int .i64 p1) ∧ w'.cell? ⟨b0, off + 5, none⟩ = some (.int .i64 d1) ∧ w'.cell? ⟨b0, off + 6, none⟩ = some (.bool s1) ∧ w'.cell? ⟨b0, off + 7, none⟩ = some (.bool q1) ∧ w'.cell? ⟨b0, off + 8, none⟩ = some (.int .i64 p2) ∧ w'.cell? ⟨b0, off + 9, none⟩ = some (.int .i64 d2) ∧ w'.cell? ⟨b0, off + 10, none⟩ = some (.bool s2) ∧ w'.cell? ⟨b0, off + 11, none⟩ = some (.bool q2) ∧ w'.cell? ⟨w.heap.size, 0, none⟩ = some (.int .i64 0) ∧ w'.cell? ⟨w.heap.size, 1, none⟩ = some (.int .i64 1) ∧ w'.cell? ⟨w.heap.size, 2, none⟩ = some (.bool true) ∧ w'.cell? ⟨w.heap.size, 3, none⟩ = some (.bool false) ∧ w'.cell? ⟨w.heap.size, 4, none⟩ = some (.int .i64 0) ∧ w'.cell? ⟨w.heap.size, 5, none⟩ = some (.int .i64 1) ∧ w'.cell? ⟨w.heap.size, 6, none⟩ = some (.bool false) ∧ w'.cell? ⟨w.heap.size, 7, none⟩ = some (.bool false) ∧ w'.cell? ⟨w.heap.size, 8, none⟩ = some (.int .i64 0) ∧ w'.cell? ⟨w.heap.size, 9, none⟩ = some (.int .i64 1) ∧ w'.cell? ⟨w.heap.size, 10, none⟩ = some (.bool false) ∧ w'.cell? ⟨w.heap.size, 11, none⟩ = some (.bool false))) (by kernel_rfl) ?_ (fun hHeld => ?_)
            · go_keep
            refine wpAnyH_take (i := 0) (v := ?vg0) rfl (by kernel_rfl) (by kernel_rfl) (by kernel_rfl) (fun _ _ _ h => h) (Or.inl ⟨by kernel_rfl, ?hyg0⟩) (by assumption) ?restg0
            case hyg0 => (intro w hSw; (try dsimp only at hSw); go_simp; (try with_reducible rfl))
            go_simp
            refine wpAnyH_take (i := 1) (v := ?vg1) rfl (by kernel_rfl) (by kernel_rfl) (by kernel_rfl) (fun _ _ _ h => h) (Or.inl ⟨by kernel_rfl, ?hyg1⟩) (by assumption) ?restg1
            case hyg1 => (intro w hSw; (try dsimp only at hSw); go_simp; (try with_reducible rfl))
            go_simp
            refine wpAnyH_take (i := 2) (v := ?vg2) rfl (by kernel_rfl) (by kernel_rfl) (by kernel_rfl) (fun _ _ _ h => h) (Or.inl ⟨by kernel_rfl, ?hyg2⟩) (by assumption) ?restg2
            case hyg2 => (intro w hSw; (try dsimp only at hSw); go_simp; (try with_reducible rfl))
            go_simp
            refine wpAnyH_take (i := 3) (v := ?vg3) rfl (by kernel_rfl) (by kernel_rfl) (by kernel_rfl) (fun _ _ _ h => h) (Or.inl ⟨by kernel_rfl, ?hyg3⟩) (by assumption) ?restg3
            case hyg3 => (intro w hSw; (try dsimp only at hSw); go_simp; (try with_reducible rfl))
            go_simp
            refine wpAnyH_take (i := 4) (v := ?vg4) rfl (by kernel_rfl) (by kernel_rfl) (by kernel_rfl) (fun _ _ _ h => h) (Or.inl ⟨by kernel_rfl, ?hyg4⟩) (by assumption) ?restg4
            case hyg4 => (intro w hSw; (try dsimp only at hSw); go_simp; (try with_reducible rfl))
            go_simp
            refine wpAnyH_take (i := 5) (v := ?vg5) rfl (by kernel_rfl) (by kernel_rfl) (by kernel_rfl) (fun _ _ _ h => h) (Or.inl ⟨by kernel_rfl, ?hyg5⟩) (by assumption) ?restg5
            case hyg5 => (intro w hSw; (try dsimp only at hSw); go_simp; (try with_reducible rfl))
            go_simp
            refine wpAnyH_take (i := 6) (v := ?vg6) rfl (by kernel_rfl) (by kernel_rfl) (by kernel_rfl) (fun _ _ _ h => h) (Or.inl ⟨by kernel_rfl, ?hyg6⟩) (by assumption) ?restg6
            case hyg6 => (intro w hSw; (try dsimp only at hSw); go_simp; (try with_reducible rfl))
            go_simp
            refine wpAnyH_take (i := 7) (v := ?vg7) rfl (by kernel_rfl) (by kernel_rfl) (by kernel_rfl) (fun _ _ _ h => h) (Or.inl ⟨by kernel_rfl, ?hyg7⟩) (by assumption) ?restg7
            case hyg7 => (intro w hSw; (try dsimp only at hSw); go_simp; (try with_reducible rfl))
            go_simp
            refine wpAnyH_take (i := 8) (v := ?vg8) rfl (by kernel_rfl) (by kernel_rfl) (by kernel_rfl) (fun _ _ _ h => h) (Or.inl ⟨by kernel_rfl, ?hyg8⟩) (by assumption) ?restg8
            case hyg8 => (intro w hSw; (try dsimp only at hSw); go_simp; (try with_reducible rfl))
            go_simp
            refine wpAnyH_take (i := 9) (v := ?vg9) rfl (by kernel_rfl) (by kernel_rfl) (by kernel_rfl) (fun _ _ _ h => h) (Or.inl ⟨by kernel_rfl, ?hyg9⟩) (by assumption) ?restg9
            case hyg9 => (intro w hSw; (try dsimp only at hSw); go_simp; (try with_reducible rfl))
            go_simp
            refine wpAnyH_take (i := 10) (v := ?vg10) rfl (by kernel_rfl) (by kernel_rfl) (by kernel_rfl) (fun _ _ _ h => h) (Or.inl ⟨by kernel_rfl, ?hyg10⟩) (by assumption) ?restg10
            case hyg10 => (intro w hSw; (try dsimp only at hSw); go_simp; (try with_reducible rfl))
            go_simp
            refine wpAnyH_take (i := 11) (v := ?vg11) rfl (by kernel_rfl) (by kernel_rfl) (by kernel_rfl) (fun _ _ _ h => h) (Or.inl ⟨by kernel_rfl, ?hyg11⟩) (by assumption) ?restg11
            case hyg11 => (intro w hSw; (try dsimp only at hSw); go_simp; (try with_reducible rfl))
            go_simp
            refine wpAnyH_take (i := 12) (v := ?vg12) rfl (by kernel_rfl) (by kernel_rfl) (by kernel_rfl) (fun _ _ _ h => h) (Or.inl ⟨by kernel_rfl, ?hyg12⟩) (by assumption) ?restg12
            case hyg12 => (intro w hSw; (try dsimp only at hSw); go_simp; (try with_reducible rfl))
            go_simp
            refine wpAnyH_take (i := 13) (v := ?vg13) rfl (by kernel_rfl) (by kernel_rfl) (by kernel_rfl) (fun _ _ _ h => h) (Or.inl ⟨by kernel_rfl, ?hyg13⟩) (by assumption) ?restg13
            case hyg13 => (intro w hSw; (try dsimp only at hSw); go_simp; (try with_reducible rfl))
            go_simp
            refine wpAnyH_take (i := 14) (v := ?vg14) rfl (by kernel_rfl) (by kernel_rfl) (by kernel_rfl) (fun _ _ _ h => h) (Or.inl ⟨by kernel_rfl, ?hyg14⟩) (by assumption) ?restg14
            case hyg14 => (intro w hSw; (try dsimp only at hSw); go_simp; (try with_reducible rfl))
            go_simp
            refine wpAnyH_take (i := 15) (v := ?vg15) rfl (by kernel_rfl) (by kernel_rfl) (by kernel_rfl) (fun _ _ _ h => h) (Or.inl ⟨by kernel_rfl, ?hyg15⟩) (by assumption) ?restg15
            case hyg15 => (intro w hSw; (try dsimp only at hSw); go_simp; (try with_reducible rfl))
            go_simp
            refine wpAnyH_take (i := 16) (v := ?vg16) rfl (by kernel_rfl) (by kernel_rfl) (by kernel_rfl) (fun _ _ _ h => h) (Or.inl ⟨by kernel_rfl, ?hyg16⟩) (by assumption) ?restg16
            case hyg16 => (intro w hSw; (try dsimp only at hSw); go_simp; (try with_reducible rfl))
            go_simp
            refine wpAnyH_take (i := 17) (v := ?vg17) rfl (by kernel_rfl) (by kernel_rfl) (by kernel_rfl) (fun _ _ _ h => h) (Or.inl ⟨by kernel_rfl, ?hyg17⟩) (by assumption) ?restg17
            case hyg17 => (intro w hSw; (try dsimp only at hSw); go_simp; (try with_reducible rfl))
            go_simp
            refine wpAnyH_take (i := 18) (v := ?vg18) rfl (by kernel_rfl) (by kernel_rfl) (by kernel_rfl) (fun _ _ _ h => h) (Or.inl ⟨by kernel_rfl, ?hyg18⟩) (by assumption) ?restg18
            case hyg18 => (intro w hSw; (try dsimp only at hSw); go_simp; (try with_reducible rfl))
            go_simp
            refine wpAnyH_take (i := 19) (v := ?vg19) rfl (by kernel_rfl) (by kernel_rfl) (by kernel_rfl) (fun _ _ _ h => h) (Or.inl ⟨by kernel_rfl, ?hyg19⟩) (by assumption) ?restg19
            case hyg19 => (intro w hSw; (try dsimp only at hSw); go_simp; (try with_reducible rfl))
            go_simp
            refine wpAnyH_take (i := 20) (v := ?vg20) rfl (by kernel_rfl) (by kernel_rfl) (by kernel_rfl) (fun _ _ _ h => h) (Or.inl ⟨by kernel_rfl, ?hyg20⟩) (by assumption) ?restg20
            case hyg20 => (intro w hSw; (try dsimp only at hSw); go_simp; (try with_reducible rfl))
            go_simp
            refine wpAnyH_take (i := 21) (v := ?vg21) rfl (by kernel_rfl) (by kernel_rfl) (by kernel_rfl) (fun _ _ _ h => h) (Or.inl ⟨by kernel_rfl, ?hyg21⟩) (by assumption) ?restg21
            case hyg21 => (intro w hSw; (try dsimp only at hSw); go_simp; (try with_reducible rfl))
            go_simp
            refine wpAnyH_take (i := 22) (v := ?vg22) rfl (by kernel_rfl) (by kernel_rfl) (by kernel_rfl) (fun _ _ _ h => h) (Or.inl ⟨by kernel_rfl, ?hyg22⟩) (by assumption) ?restg22
            case hyg22 => (intro w hSw; (try dsimp only at hSw); go_simp; (try with_reducible rfl))
            go_simp
            refine wpAnyH_take (i := 23) (v := ?vg23) rfl (by kernel_rfl) (by kernel_rfl) (by kernel_rfl) (fun _ _ _ h => h) (Or.inl ⟨by kernel_rfl, ?hyg23⟩) (by assumption) ?restg23
            case hyg23 => (intro w hSw; (try dsimp only at hSw); go_simp; (try with_reducible rfl))
            go_simp
            refine wpAnyH_take (i := 24) (v := ?vg24) rfl (by kernel_rfl) (by kernel_rfl) (by kernel_rfl) (fun _ _ _ h => h) (Or.inl ⟨by kernel_rfl, ?hyg24⟩) (by assumption) ?restg24
            case hyg24 => (intro w hSw; (try dsimp only at hSw); go_simp; (try with_reducible rfl))
            go_simp
            refine wpAnyH_take (i := 25) (v := ?vg25) rfl (by kernel_rfl) (by kernel_rfl) (by kernel_rfl) (fun _ _ _ h => h) (Or.inl ⟨by kernel_rfl, ?hyg25⟩) (by assumption) ?restg25
            case hyg25 => (intro w hSw; (try dsimp only at hSw); go_simp; (try with_reducible rfl))
            go_simp
            refine wpAnyH_take (i := 26) (v := ?vg26) rfl (by kernel_rfl) (by kernel_rfl) (by kernel_rfl) (fun _ _ _ h => h) (Or.inl ⟨by kernel_rfl, ?hyg26⟩) (by assumption) ?restg26
            case hyg26 => (intro w hSw; (try dsimp only at hSw); go_simp; (try with_reducible rfl))
            go_simp
            refine wpAnyH_take (i := 27) (v := ?vg27) rfl (by kernel_rfl) (by kernel_rfl) (by kernel_rfl) (fun _ _ _ h => h) (Or.inl ⟨by kernel_rfl, ?hyg27⟩) (by assumption) ?restg27
            case hyg27 => (intro w hSw; (try dsimp only at hSw); go_simp; (try with_reducible rfl))
            go_simp
            refine wpAnyH_take (i := 28) (v := ?vg28) rfl (by kernel_rfl) (by kernel_rfl) (by kernel_rfl) (fun _ _ _ h => h) (Or.inl ⟨by kernel_rfl, ?hyg28⟩) (by assumption) ?restg28
            case hyg28 => (intro w hSw; (try dsimp only at hSw); go_simp; (try with_reducible rfl))
            go_simp
            refine wpAnyH_take (i := 29) (v := ?vg29) rfl (by kernel_rfl) (by kernel_rfl) (by kernel_rfl) (fun _ _ _ h => h) (Or.inl ⟨by kernel_rfl, ?hyg29⟩) (by assumption) ?restg29
            case hyg29 => (intro w hSw; (try dsimp only at hSw); go_simp; (try with_reducible rfl))
            go_simp
            refine wpAnyH_done (by kernel_rfl) ?_ _
            refine NoPanic.normal ?_
            go_wp2
            go_ret2
            exact ⟨rfl, below_drewN b1 1⟩
        · have NN := NE.out (fun h => e1 (T3.1 h).2.1)
          have n1 := neA_of e1
          rw [NN]
          clear T3 NE EQ NN e0 e1
          go_enter Try.func28, Try.ntmps28
          go_wp2_with fail
          refine (NW.out _).mono ?_
          rintro e w1 ⟨rfl, r1, b1⟩
          have HR := R.out.later b1
          have f0 := r1.cellAt 0 (by decide)
          have f1 := r1.cellAt 1 (by decide)
          have f2 := r1.cellAt 2 (by decide)
          have f3 := r1.cellAt 3 (by decide)
          have f4 := r1.cellAt 4 (by decide)
          have f5 := r1.cellAt 5 (by decide)
          have f6 := r1.cellAt 6 (by decide)
          have f7 := r1.cellAt 7 (by decide)
          have f8 := r1.cellAt 8 (by decide)
          have f9 := r1.cellAt 9 (by decide)
          have f10 := r1.cellAt 10 (by decide)
          have f11 := r1.cellAt 11 (by decide)
          simp only [avs, newA, av, List.flatMap_cons, List.flatMap_nil, List.cons_append, List.nil_append, List.append_nil, List.getElem?_cons_zero, List.getElem?_cons_succ] at f0 f1 f2 f3 f4 f5 f6 f7 f8 f9 f10 f11
          replace g1 := (b1.cell (p := ⟨b0, off, none⟩) hg).trans g1
          replace g2 := (b1.cell (p := ⟨b0, off + 1, none⟩) hg).trans g2
          replace g3 := (b1.cell (p := ⟨b0, off + 2, none⟩) hg).trans g3
          replace g4 := (b1.cell (p := ⟨b0, off + 3, none⟩) hg).trans g4
          replace g5 := (b1.cell (p := ⟨b0, off + 4, none⟩) hg).trans g5
          replace g6 := (b1.cell (p := ⟨b0, off + 5, none⟩) hg).trans g6
          replace g7 := (b1.cell (p := ⟨b0, off + 6, none⟩) hg).trans g7
          replace g8 := (b1.cell (p := ⟨b0, off + 7, none⟩) hg).trans g8
          replace g9 := (b1.cell (p := ⟨b0, off + 8, none⟩) hg).trans g9
          replace g10 := (b1.cell (p := ⟨b0, off + 9, none⟩) hg).trans g10
          replace g11 := (b1.cell (p := ⟨b0, off + 10, none⟩) hg).trans g11
          replace g12 := (b1.cell (p := ⟨b0, off + 11, none⟩) hg).trans g12
          clear NW r1
          go_upto_region 4 with fail
          refine wp_region_noPanic ?_
          refine wp_region_held_drew (S := (fun w' => w'.cell? ⟨b0, off, none⟩ = some (.int .i64 p0) ∧ w'.cell? ⟨b0, off + 1, none⟩ = some (.int .i64 d0) ∧ w'.cell? ⟨b0, off + 2, none⟩ = some (.bool s0) ∧ w'.cell? ⟨b0, off + 3, none⟩ = some (.bool q0) ∧ w'.cell? ⟨b0, off + 4, none⟩ = some (.int .i64 p1) ∧ w'.cell? ⟨b0, off + 5, none⟩ = some (.int .i64 d1) ∧ w'.cell? ⟨b0, off + 6, none⟩ = some (.bool s1) ∧ w'.cell? ⟨b0, off + 7, none⟩ = some (.bool q1) ∧ w'.cell? ⟨b0, off + 8, none⟩ = some (.int .i64 p2) ∧ w'.cell? ⟨b0, off + 9, none⟩ = some (.int .i64 d2) ∧ w'.cell? ⟨b0, off + 10, none⟩ = some (.bool s2) ∧ w'.cell? ⟨b0, off + 11, none⟩ = some (.bool q2) ∧ w'.cell? ⟨w.heap.size, 0, none⟩ = some (.int .i64 0) ∧ w'.cell? ⟨w.heap.size, 1, none⟩ = some (.int .i64 1) ∧ w'.cell? ⟨w.heap.size, 2, none⟩ = some (.bool true) ∧ w'.cell? ⟨w.heap.size, 3, none⟩ = some (.bool false) ∧ w'.cell? ⟨w.heap.size, 4, none⟩ = some (.int .i64 0) ∧ w'.cell? ⟨w.heap.size, 5, none⟩ = some (.int .i64 1) ∧ w'.cell? ⟨w.heap.size, 6, none⟩ = some (.bool false) ∧ w'.cell? ⟨w.heap.size, 7, none⟩ = some (.bool false) ∧ w'.cell? ⟨w.heap.size, 8, none⟩ = some (.int .i64 0) ∧ w'.cell? ⟨w.heap.size, 9, none⟩ = some (.int .i64 1) ∧ w'.cell? ⟨w.heap.size, 10, none⟩ = some (.bool false) ∧ w'.cell? ⟨w.heap.size, 11, none⟩ = some (.bool false))) (by kernel_rfl) ?_ (fun hHeld => ?_)
          · go_keep
          refine wpAnyH_take (i := 0) (v := ?vf0) rfl (by kernel_rfl) (by kernel_rfl) (by kernel_rfl) (fun _ _ _ h => h) (Or.inl ⟨by kernel_rfl, ?hyf0⟩) (by assumption) ?restf0
          case hyf0 => (intro w hSw; (try dsimp only at hSw); go_simp; (try with_reducible rfl))
          go_simp
          refine wpAnyH_take (i := 1) (v := ?vf1) rfl (by kernel_rfl) (by kernel_rfl) (by kernel_rfl) (fun _ _ _ h => h) (Or.inl ⟨by kernel_rfl, ?hyf1⟩) (by assumption) ?restf1
          case hyf1 => (intro w hSw; (try dsimp only at hSw); go_simp; (try with_reducible rfl))
          go_simp
          refine wpAnyH_take (i := 2) (v := ?vf2) rfl (by kernel_rfl) (by kernel_rfl) (by kernel_rfl) (fun _ _ _ h => h) (Or.inl ⟨by kernel_rfl, ?hyf2⟩) (by assumption) ?restf2
          case hyf2 => (intro w hSw; (try dsimp only at hSw); go_simp; (try with_reducible rfl))
          go_simp
          refine wpAnyH_take (i := 3) (v := ?vf3) rfl (by kernel_rfl) (by kernel_rfl) (by kernel_rfl) (fun _ _ _ h => h) (Or.inl ⟨by kernel_rfl, ?hyf3⟩) (by assumption) ?restf3
          case hyf3 => (intro w hSw; (try dsimp only at hSw); go_simp; (try with_reducible rfl))
          go_simp
          refine wpAnyH_take (i := 4) (v := ?vf4) rfl (by kernel_rfl) (by kernel_rfl) (by kernel_rfl) (fun _ _ _ h => h) (Or.inl ⟨by kernel_rfl, ?hyf4⟩) (by assumption) ?restf4
          case hyf4 => (intro w hSw; (try dsimp only at hSw); go_simp; (try with_reducible rfl))
          go_simp
          refine wpAnyH_take (i := 5) (v := ?vf5) rfl (by kernel_rfl) (by kernel_rfl) (by kernel_rfl) (fun _ _ _ h => h) (Or.inl ⟨by kernel_rfl, ?hyf5⟩) (by assumption) ?restf5
          case hyf5 => (intro w hSw; (try dsimp only at hSw); go_simp; (try with_reducible rfl))
          go_simp
          refine wpAnyH_take (i := 6) (v := ?vf6) rfl (by kernel_rfl) (by kernel_rfl) (by kernel_rfl) (fun _ _ _ h => h) (Or.inl ⟨by kernel_rfl, ?hyf6⟩) (by assumption) ?restf6
          case hyf6 => (intro w hSw; (try dsimp only at hSw); go_simp; (try with_reducible rfl))
          go_simp
          refine wpAnyH_take (i := 7) (v := ?vf7) rfl (by kernel_rfl) (by kernel_rfl) (by kernel_rfl) (fun _ _ _ h => h) (Or.inl ⟨by kernel_rfl, ?hyf7⟩) (by assumption) ?restf7
          case hyf7 => (intro w hSw; (try dsimp only at hSw); go_simp; (try with_reducible rfl))
          go_simp
          refine wpAnyH_take (i := 8) (v := ?vf8) rfl (by kernel_rfl) (by kernel_rfl) (by kernel_rfl) (fun _ _ _ h => h) (Or.inl ⟨by kernel_rfl, ?hyf8⟩) (by assumption) ?restf8
          case hyf8 => (intro w hSw; (try dsimp only at hSw); go_simp; (try with_reducible rfl))
          go_simp
          refine wpAnyH_take (i := 9) (v := ?vf9) rfl (by kernel_rfl) (by kernel_rfl) (by kernel_rfl) (fun _ _ _ h => h) (Or.inl ⟨by kernel_rfl, ?hyf9⟩) (by assumption) ?restf9
          case hyf9 => (intro w hSw; (try dsimp only at hSw); go_simp; (try with_reducible rfl))
          go_simp
          refine wpAnyH_take (i := 10) (v := ?vf10) rfl (by kernel_rfl) (by kernel_rfl) (by kernel_rfl) (fun _ _ _ h => h) (Or.inl ⟨by kernel_rfl, ?hyf10⟩) (by assumption) ?restf10
          case hyf10 => (intro w hSw; (try dsimp only at hSw); go_simp; (try with_reducible rfl))
          go_simp
          refine wpAnyH_take (i := 11) (v := ?vf11) rfl (by kernel_rfl) (by kernel_rfl) (by kernel_rfl) (fun _ _ _ h => h) (Or.inl ⟨by kernel_rfl, ?hyf11⟩) (by assumption) ?restf11
          case hyf11 => (intro w hSw; (try dsimp only at hSw); go_simp; (try with_reducible rfl))
          go_simp
          refine wpAnyH_take (i := 12) (v := ?vf12) rfl (by kernel_rfl) (by kernel_rfl) (by kernel_rfl) (fun _ _ _ h => h) (Or.inl ⟨by kernel_rfl, ?hyf12⟩) (by assumption) ?restf12
          case hyf12 => (intro w hSw; (try dsimp only at hSw); go_simp; (try with_reducible rfl))
          go_simp
          refine wpAnyH_take (i := 13) (v := ?vf13) rfl (by kernel_rfl) (by kernel_rfl) (by kernel_rfl) (fun _ _ _ h => h) (Or.inl ⟨by kernel_rfl, ?hyf13⟩) (by assumption) ?restf13
          case hyf13 => (intro w hSw; (try dsimp only at hSw); go_simp; (try with_reducible rfl))
          go_simp
          refine wpAnyH_take (i := 14) (v := ?vf14) rfl (by kernel_rfl) (by kernel_rfl) (by kernel_rfl) (fun _ _ _ h => h) (Or.inl ⟨by kernel_rfl, ?hyf14⟩) (by assumption) ?restf14
          case hyf14 => (intro w hSw; (try dsimp only at hSw); go_simp; (try with_reducible rfl))
          go_simp
          refine wpAnyH_take (i := 15) (v := ?vf15) rfl (by kernel_rfl) (by kernel_rfl) (by kernel_rfl) (fun _ _ _ h => h) (Or.inl ⟨by kernel_rfl, ?hyf15⟩) (by assumption) ?restf15
          case hyf15 => (intro w hSw; (try dsimp only at hSw); go_simp; (try with_reducible rfl))
          go_simp
          refine wpAnyH_take (i := 16) (v := ?vf16) rfl (by kernel_rfl) (by kernel_rfl) (by kernel_rfl) (fun _ _ _ h => h) (Or.inl ⟨by kernel_rfl, ?hyf16⟩) (by assumption) ?restf16
          case hyf16 => (intro w hSw; (try dsimp only at hSw); go_simp; (try with_reducible rfl))
          go_simp
          refine wpAnyH_take (i := 17) (v := ?vf17) rfl (by kernel_rfl) (by kernel_rfl) (by kernel_rfl) (fun _ _ _ h => h) (Or.inl ⟨by kernel_rfl, ?hyf17⟩) (by assumption) ?restf17
          case hyf17 => (intro w hSw; (try dsimp only at hSw); go_simp; (try with_reducible rfl))
          go_simp
          refine wpAnyH_take (i := 18) (v := ?vf18) rfl (by kernel_rfl) (by kernel_rfl) (by kernel_rfl) (fun _ _ _ h => h) (Or.inl ⟨by kernel_rfl, ?hyf18⟩) (by assumption) ?restf18
          case hyf18 => (intro w hSw; (try dsimp only at hSw); go_simp; (try with_reducible rfl))
          go_simp
          refine wpAnyH_take (i := 19) (v := ?vf19) rfl (by kernel_rfl) (by kernel_rfl) (by kernel_rfl) (fun _ _ _ h => h) (Or.inl ⟨by kernel_rfl, ?hyf19⟩) (by assumption) ?restf19
          case hyf19 => (intro w hSw; (try dsimp only at hSw); go_simp; (try with_reducible rfl))
          go_simp
          refine wpAnyH_take (i := 20) (v := ?vf20) rfl (by kernel_rfl) (by kernel_rfl) (by kernel_rfl) (fun _ _ _ h => h) (Or.inl ⟨by kernel_rfl, ?hyf20⟩) (by assumption) ?restf20
          case hyf20 => (intro w hSw; (try dsimp only at hSw); go_simp; (try with_reducible rfl))
          go_simp
          refine wpAnyH_take (i := 21) (v := ?vf21) rfl (by kernel_rfl) (by kernel_rfl) (by kernel_rfl) (fun _ _ _ h => h) (Or.inl ⟨by kernel_rfl, ?hyf21⟩) (by assumption) ?restf21
          case hyf21 => (intro w hSw; (try dsimp only at hSw); go_simp; (try with_reducible rfl))
          go_simp
          refine wpAnyH_take (i := 22) (v := undef) rfl (by kernel_rfl) (by kernel_rfl) (by kernel_rfl) (fun _ _ _ h => h) (Or.inr ⟨by kernel_rfl, rfl⟩) (by assumption) ?_
          go_simp
          refine wpAnyH_take (i := 23) (v := undef) rfl (by kernel_rfl) (by kernel_rfl) (by kernel_rfl) (fun _ _ _ h => h) (Or.inr ⟨by kernel_rfl, rfl⟩) (by assumption) ?_
          go_simp
          refine wpAnyH_take (i := 24) (v := undef) rfl (by kernel_rfl) (by kernel_rfl) (by kernel_rfl) (fun _ _ _ h => h) (Or.inr ⟨by kernel_rfl, rfl⟩) (by assumption) ?_
          go_simp
          refine wpAnyH_take (i := 25) (v := undef) rfl (by kernel_rfl) (by kernel_rfl) (by kernel_rfl) (fun _ _ _ h => h) (Or.inr ⟨by kernel_rfl, rfl⟩) (by assumption) ?_
          go_simp
          refine wpAnyH_take (i := 26) (v := undef) rfl (by kernel_rfl) (by kernel_rfl) (by kernel_rfl) (fun _ _ _ h => h) (Or.inr ⟨by kernel_rfl, rfl⟩) (by assumption) ?_
          go_simp
          refine wpAnyH_take (i := 27) (v := undef) rfl (by kernel_rfl) (by kernel_rfl) (by kernel_rfl) (fun _ _ _ h => h) (Or.inr ⟨by kernel_rfl, rfl⟩) (by assumption) ?_
          go_simp
          refine wpAnyH_take (i := 28) (v := undef) rfl (by kernel_rfl) (by kernel_rfl) (by kernel_rfl) (fun _ _ _ h => h) (Or.inr ⟨by kernel_rfl, rfl⟩) (by assumption) ?_
          go_simp
          refine wpAnyH_take (i := 29) (v := ?vf29) rfl (by kernel_rfl) (by kernel_rfl) (by kernel_rfl) (fun _ _ _ h => h) (Or.inl ⟨by kernel_rfl, ?hyf29⟩) (by assumption) ?restf29
          case hyf29 => (intro w hSw; (try dsimp only at hSw); go_simp; (try with_reducible rfl))
          go_simp
          refine wpAnyH_done (by kernel_rfl) ?_ _
          refine NoPanic.normal ?_
          go_wp2
          go_ret2
          exact ⟨rfl, below_drewN b1 1⟩
      · have NN := NE.out (fun h => e0 (T3.1 h).1)
        have n0 := neA_of e0
        rw [NN]
        clear T3 NE EQ NN e0
        go_enter Try.func28, Try.ntmps28
        go_wp2_with fail
        refine (NW.out _).mono ?_
        rintro e w1 ⟨rfl, r1, b1⟩
        have HR := R.out.later b1
        have f0 := r1.cellAt 0 (by decide)
        have f1 := r1.cellAt 1 (by decide)
        have f2 := r1.cellAt 2 (by decide)
        have f3 := r1.cellAt 3 (by decide)
        have f4 := r1.cellAt 4 (by decide)
        have f5 := r1.cellAt 5 (by decide)
        have f6 := r1.cellAt 6 (by decide)
        have f7 := r1.cellAt 7 (by decide)
        have f8 := r1.cellAt 8 (by decide)
        have f9 := r1.cellAt 9 (by decide)
        have f10 := r1.cellAt 10 (by decide)
        have f11 := r1.cellAt 11 (by decide)
        simp only [avs, newA, av, List.flatMap_cons, List.flatMap_nil, List.cons_append, List.nil_append, List.append_nil, List.getElem?_cons_zero, List.getElem?_cons_succ] at f0 f1 f2 f3 f4 f5 f6 f7 f8 f9 f10 f11
        replace g1 := (b1.cell (p := ⟨b0, off, none⟩) hg).trans g1
        replace g2 := (b1.cell (p := ⟨b0, off + 1, none⟩) hg).trans g2
        replace g3 := (b1.cell (p := ⟨b0, off + 2, none⟩) hg).trans g3
        replace g4 := (b1.cell (p := ⟨b0, off + 3, none⟩) hg).trans g4
        replace g5 := (b1.cell (p := ⟨b0, off + 4, none⟩) hg).trans g5
        replace g6 := (b1.cell (p := ⟨b0, off + 5, none⟩) hg).trans g6
        replace g7 := (b1.cell (p := ⟨b0, off + 6, none⟩) hg).trans g7
        replace g8 := (b1.cell (p := ⟨b0, off + 7, none⟩) hg).trans g8
        replace g9 := (b1.cell (p := ⟨b0, off + 8, none⟩) hg).trans g9
        replace g10 := (b1.cell (p := ⟨b0, off + 9, none⟩) hg).trans g10
        replace g11 := (b1.cell (p := ⟨b0, off + 10, none⟩) hg).trans g11
        replace g12 := (b1.cell (p := ⟨b0, off + 11, none⟩) hg).trans g12
        clear NW r1
        go_upto_region 4 with fail
        refine wp_region_noPanic ?_
        refine wp_region_held_drew (S := (fun w' => w'.cell? ⟨b0, off, none⟩ = some (.int .i64 p0) ∧ w'.cell? ⟨b0, off + 1, none⟩ = some (.int .i64 d0) ∧ w'.cell? ⟨b0, off + 2, none⟩ = some (.bool s0) ∧ w'.cell? ⟨b0, off + 3, none⟩ = some (.bool q0) ∧ w'.cell? ⟨b0, off + 4, none⟩ = some (.int .i64 p1) ∧ w'.cell? ⟨b0, off + 5, none⟩ = some (.int .i64 d1) ∧ w'.cell? ⟨b0, off + 6, none⟩ = some (.bool s1) ∧ w'.cell? ⟨b0, off + 7, none⟩ = some (.bool q1) ∧ w'.cell? ⟨b0, off + 8, none⟩ = some (.int .i64 p2) ∧ w'.cell? ⟨b0, off + 9, none⟩ = some (.int .i64 d2) ∧ w'.cell? ⟨b0, off + 10, none⟩ = some (.bool s2) ∧ w'.cell? ⟨b0, off + 11, none⟩ = some (.bool q2) ∧ w'.cell? ⟨w.heap.size, 0, none⟩ = some (.int .i64 0) ∧ w'.cell? ⟨w.heap.size, 1, none⟩ = some (.int .i64 1) ∧ w'.cell? ⟨w.heap.size, 2, none⟩ = some (.bool true) ∧ w'.cell? ⟨w.heap.size, 3, none⟩ = some (.bool false) ∧ w'.cell? ⟨w.heap.size, 4, none⟩ = some (.int .i64 0) ∧ w'.cell? ⟨w.heap.size, 5, none⟩ = some (.int .i64 1) ∧ w'.cell? ⟨w.heap.size, 6, none⟩ = some (.bool false) ∧ w'.cell? ⟨w.heap.size, 7, none⟩ = some (.bool false) ∧ w'.cell? ⟨w.heap.size, 8, none⟩ = some (.int .i64 0) ∧ w'.cell? ⟨w.heap.size, 9, none⟩ = some (.int .i64 1) ∧ w'.cell? ⟨w.heap.size, 10, none⟩ = some (.bool false) ∧ w'.cell? ⟨w.heap.size, 11, none⟩ = some (.bool false))) (by kernel_rfl) ?_ (fun hHeld => ?_)
        · go_keep
        refine wpAnyH_take (i := 0) (v := ?ve0) rfl (by kernel_rfl) (by kernel_rfl) (by kernel_rfl) (fun _ _ _ h => h) (Or.inl ⟨by kernel_rfl, ?hye0⟩) (by assumption) ?reste0
        case hye0 => (intro w hSw; (try dsimp only at hSw); go_simp; (try with_reducible rfl))
        go_simp
        refine wpAnyH_take (i := 1) (v := ?ve1) rfl (by kernel_rfl) (by kernel_rfl) (by kernel_rfl) (fun _ _ _ h => h) (Or.inl ⟨by kernel_rfl, ?hye1⟩) (by assumption) ?reste1
        case hye1 => (intro w hSw; (try dsimp only at hSw); go_simp; (try with_reducible rfl))
        go_simp
        refine wpAnyH_take (i := 2) (v := ?ve2) rfl (by kernel_rfl) (by kernel_rfl) (by kernel_rfl) (fun _ _ _ h => h) (Or.inl ⟨by kernel_rfl, ?hye2⟩) (by assumption) ?reste2
        case hye2 => (intro w hSw; (try dsimp only at hSw); go_simp; (try with_reducible rfl))
        go_simp
        refine wpAnyH_take (i := 3) (v := ?ve3) rfl (by kernel_rfl) (by kernel_rfl) (by kernel_rfl) (fun _ _ _ h => h) (Or.inl ⟨by kernel_rfl, ?hye3⟩) (by assumption) ?reste3
        case hye3 => (intro w hSw; (try dsimp only at hSw); go_simp; (try with_reducible rfl))
        go_simp
        refine wpAnyH_take (i := 4) (v := ?ve4) rfl (by kernel_rfl) (by kernel_rfl) (by kernel_rfl) (fun _ _ _ h => h) (Or.inl ⟨by kernel_rfl, ?hye4⟩) (by assumption) ?reste4
        case hye4 => (intro w hSw; (try dsimp only at hSw); go_simp; (try with_reducible rfl))
        go_simp
        refine wpAnyH_take (i := 5) (v := ?ve5) rfl (by kernel_rfl) (by kernel_rfl) (by kernel_rfl) (fun _ _ _ h => h) (Or.inl ⟨by kernel_rfl, ?hye5⟩) (by assumption) ?reste5
        case hye5 => (intro w hSw; (try dsimp only at hSw); go_simp; (try with_reducible rfl))
        go_simp
        refine wpAnyH_take (i := 6) (v := ?ve6) rfl (by kernel_rfl) (by kernel_rfl) (by kernel_rfl) (fun _ _ _ h => h) (Or.inl ⟨by kernel_rfl, ?hye6⟩) (by assumption) ?reste6
        case hye6 => (intro w hSw; (try dsimp only at hSw); go_simp; (try with_reducible rfl))
        go_simp
        refine wpAnyH_take (i := 7) (v := ?ve7) rfl (by kernel_rfl) (by kernel_rfl) (by kernel_rfl) (fun _ _ _ h => h) (Or.inl ⟨by kernel_rfl, ?hye7⟩) (by assumption) ?reste7
        case hye7 => (intro w hSw; (try dsimp only at hSw); go_simp; (try with_reducible rfl))
        go_simp
        refine wpAnyH_take (i := 8) (v := ?ve8) rfl (by kernel_rfl) (by kernel_rfl) (by kernel_rfl) (fun _ _ _ h => h) (Or.inl ⟨by kernel_rfl, ?hye8⟩) (by assumption) ?reste8
        case hye8 => (intro w hSw; (try dsimp only at hSw); go_simp; (try with_reducible rfl))
        go_simp
        refine wpAnyH_take (i := 9) (v := ?ve9) rfl (by kernel_rfl) (by kernel_rfl) (by kernel_rfl) (fun _ _ _ h => h) (Or.inl ⟨by kernel_rfl, ?hye9⟩) (by assumption) ?reste9
        case hye9 => (intro w hSw; (try dsimp only at hSw); go_simp; (try with_reducible rfl))
        go_simp
        refine wpAnyH_take (i := 10) (v := ?ve10) rfl (by kernel_rfl) (by kernel_rfl) (by kernel_rfl) (fun _ _ _ h => h) (Or.inl ⟨by kernel_rfl, ?hye10⟩) (by assumption) ?reste10
        case hye10 => (intro w hSw; (try dsimp only at hSw); go_simp; (try with_reducible rfl))
        go_simp
        refine wpAnyH_take (i := 11) (v := ?ve11) rfl (by kernel_rfl) (by kernel_rfl) (by kernel_rfl) (fun _ _ _ h => h) (Or.inl ⟨by kernel_rfl, ?hye11⟩) (by assumption) ?reste11
        case hye11 => (intro w hSw; (try dsimp only at hSw); go_simp; (try with_reducible rfl))
        go_simp
        refine wpAnyH_take (i := 12) (v := ?ve12) rfl (by kernel_rfl) (by kernel_rfl) (by kernel_rfl) (fun _ _ _ h => h) (Or.inl ⟨by kernel_rfl, ?hye12⟩) (by assumption) ?reste12
        case hye12 => (intro w hSw; (try dsimp only at hSw); go_simp; (try with_reducible rfl))
        go_simp
        refine wpAnyH_take (i := 13) (v := undef) rfl (by kernel_rfl) (by kernel_rfl) (by kernel_rfl) (fun _ _ _ h => h) (Or.inr ⟨by kernel_rfl, rfl⟩) (by assumption) ?_
        go_simp
        refine wpAnyH_take (i := 14) (v := undef) rfl (by kernel_rfl) (by kernel_rfl) (by kernel_rfl) (fun _ _ _ h => h) (Or.inr ⟨by kernel_rfl, rfl⟩) (by assumption) ?_
        go_simp
        refine wpAnyH_take (i := 15) (v := undef) rfl (by kernel_rfl) (by kernel_rfl) (by kernel_rfl) (fun _ _ _ h => h) (Or.inr ⟨by kernel_rfl, rfl⟩) (by assumption) ?_
        go_simp
        refine wpAnyH_take (i := 16) (v := undef) rfl (by kernel_rfl) (by kernel_rfl) (by kernel_rfl) (fun _ _ _ h => h) (Or.inr ⟨by kernel_rfl, rfl⟩) (by assumption) ?_
        go_simp
        refine wpAnyH_take (i := 17) (v := undef) rfl (by kernel_rfl) (by kernel_rfl) (by kernel_rfl) (fun _ _ _ h => h) (Or.inr ⟨by kernel_rfl, rfl⟩) (by assumption) ?_
        go_simp
        refine wpAnyH_take (i := 18) (v := undef) rfl (by kernel_rfl) (by kernel_rfl) (by kernel_rfl) (fun _ _ _ h => h) (Or.inr ⟨by kernel_rfl, rfl⟩) (by assumption) ?_
        go_simp
        refine wpAnyH_take (i := 19) (v := undef) rfl (by kernel_rfl) (by kernel_rfl) (by kernel_rfl) (fun _ _ _ h => h) (Or.inr ⟨by kernel_rfl, rfl⟩) (by assumption) ?_
        go_simp
        refine wpAnyH_take (i := 20) (v := ?ve20) rfl (by kernel_rfl) (by kernel_rfl) (by kernel_rfl) (fun _ _ _ h => h) (Or.inl ⟨by kernel_rfl, ?hye20⟩) (by assumption) ?reste20
        case hye20 => (intro w hSw; (try dsimp only at hSw); go_simp; (try with_reducible rfl))
        go_simp
        refine wpAnyH_take (i := 21) (v := ?ve21) rfl (by kernel_rfl) (by kernel_rfl) (by kernel_rfl) (fun _ _ _ h => h) (Or.inl ⟨by kernel_rfl, ?hye21⟩) (by assumption) ?reste21
        case hye21 => (intro w hSw; (try dsimp only at hSw); go_simp; (try with_reducible rfl))
        go_simp
        refine wpAnyH_take (i := 22) (v := undef) rfl (by kernel_rfl) (by kernel_rfl) (by kernel_rfl) (fun _ _ _ h => h) (Or.inr ⟨by kernel_rfl, rfl⟩) (by assumption) ?_
        go_simp
        refine wpAnyH_take (i := 23) (v := undef) rfl (by kernel_rfl) (by kernel_rfl) (by kernel_rfl) (fun _ _ _ h => h) (Or.inr ⟨by kernel_rfl, rfl⟩) (by assumption) ?_
        go_simp
        refine wpAnyH_take (i := 24) (v := undef) rfl (by kernel_rfl) (by kernel_rfl) (by kernel_rfl) (fun _ _ _ h => h) (Or.inr ⟨by kernel_rfl, rfl⟩) (by assumption) ?_
        go_simp
        refine wpAnyH_take (i := 25) (v := undef) rfl (by kernel_rfl) (by kernel_rfl) (by kernel_rfl) (fun _ _ _ h => h) (Or.inr ⟨by kernel_rfl, rfl⟩) (by assumption) ?_
        go_simp
        refine wpAnyH_take (i := 26) (v := undef) rfl (by kernel_rfl) (by kernel_rfl) (by kernel_rfl) (fun _ _ _ h => h) (Or.inr ⟨by kernel_rfl, rfl⟩) (by assumption) ?_
        go_simp
        refine wpAnyH_take (i := 27) (v := undef) rfl (by kernel_rfl) (by kernel_rfl) (by kernel_rfl) (fun _ _ _ h => h) (Or.inr ⟨by kernel_rfl, rfl⟩) (by assumption) ?_
        go_simp
        refine wpAnyH_take (i := 28) (v := undef) rfl (by kernel_rfl) (by kernel_rfl) (by kernel_rfl) (fun _ _ _ h => h) (Or.inr ⟨by kernel_rfl, rfl⟩) (by assumption) ?_
        go_simp
        refine wpAnyH_take (i := 29) (v := ?ve29) rfl (by kernel_rfl) (by kernel_rfl) (by kernel_rfl) (fun _ _ _ h => h) (Or.inl ⟨by kernel_rfl, ?hye29⟩) (by assumption) ?reste29
        case hye29 => (intro w hSw; (try dsimp only at hSw); go_simp; (try with_reducible rfl))
        go_simp
        refine wpAnyH_done (by kernel_rfl) ?_ _
        refine NoPanic.normal ?_
        go_wp2
        go_ret2
        exact ⟨rfl, below_drewN b1 1⟩
end
end Go.Proofs.Ythkaohjgldoipaa
