/-
  recipe: cells and values held against each other.
-/
import Derived.Test.YtioecjoddgpjbaaReC
namespace Go.Proofs.Ytioecjoddgpjbaa
open Go.RowKit

def cv (x : Cel) : Value := .agg #[.int .i64 x.r, .int .i64 x.e, .int .i64 x.a, .int .i64 x.p, .int .i64 x.c, .int .i64 x.q]
def vv (x : Vl) : Value := .agg #[.int .i64 x.n, .int .i64 x.e]
theorem cel_eq (x y : Cel) : decide (x = y) = (x.r == y.r && x.e == y.e && x.a == y.a && x.p == y.p && x.c == y.c && x.q == y.q) := by
  obtain ⟨a1, a2, a3, a4, a5, a6⟩ := x
  obtain ⟨b1, b2, b3, b4, b5, b6⟩ := y
  rw [Bool.eq_iff_iff]
  simp only [decide_eq_true_eq, Cel.mk.injEq, Bool.and_eq_true, beq_iff_eq, and_assoc]
theorem vl_eq (x y : Vl) : decide (x = y) = (x.n == y.n && x.e == y.e) := by
  obtain ⟨a1, a2⟩ := x
  obtain ⟨b1, b2⟩ := y
  rw [Bool.eq_iff_iff]
  simp only [decide_eq_true_eq, Vl.mk.injEq, Bool.and_eq_true, beq_iff_eq]
set_option maxHeartbeats 1000000 in
/-- Two cells, held against each other. -/
theorem ceq (a b c d e f a' b' c' d' e' f' : Int) (w : World) : (Op.equalIn 10000 27 (.agg #[.int .i64 a, .int .i64 b, .int .i64 c, .int .i64 d, .int .i64 e, .int .i64 f]) (.agg #[.int .i64 a', .int .i64 b', .int .i64 c', .int .i64 d', .int .i64 e', .int .i64 f'])).run Try.prog w = .ok (decide ((⟨a, b, c, d, e, f⟩ : Cel) = ⟨a', b', c', d', e', f'⟩)) w := by
  have u3 := Try.underlying3
  have a3 := Try.isAgg3
  have z3 := Try.sizeOf3
  have hS : Try.prog.underlying 27 = some (.struct (Try.prog.fieldsOf 27)) := by kernel_rfl
  have hp : Try.prog.stoodInHeld 27 = false := by kernel_rfl
  rw [cel_eq, show (10000 : Nat) = 9999 + 1 from rfl, run_equalIn_agg w 9999 _ _ _ hS hp]
  simp only [Program.fieldsOf, Try.underlying27]
  go_simp
  by_cases h1 : a = a'
  case neg => simp [h1]
  by_cases h2 : b = b'
  case neg => simp [h1, h2]
  by_cases h3 : c = c'
  case neg => simp [h1, h2, h3]
  by_cases h4 : d = d'
  case neg => simp [h1, h2, h3, h4]
  by_cases h5 : e = e'
  case neg => simp [h1, h2, h3, h4, h5]
  by_cases h6 : f = f'
  case neg => simp [h1, h2, h3, h4, h5, h6]
  simp [h1, h2, h3, h4, h5, h6]
section
variable {A A' : Option Addr} {c c' : Nat} {l m : List Cel} {w : World}
theorem take_extC {l m : List Cel} {k : Nat} (hl : k < l.length) (hm : k < m.length) (h : l.take k = m.take k) (he : l[k] = m[k]) : l.take (k + 1) = m.take (k + 1) := by
  rw [List.take_succ_eq_append_getElem hl, List.take_succ_eq_append_getElem hm, h, he]
set_option maxRecDepth 100000 in
set_option maxHeartbeats 2000000 in
theorem chas_any (y : Cel) (hm : l.length ≤ 1000000) (hr : CelE.Row w A l) : Calls Try.prog 16 #[.slice A l.length c, cv y] w fun e w' => e = .returned (.bool (decide (y ∈ l))) ∧ Below w.heap.size w w' := by
  obtain ⟨y1, y2, y3, y4, y5, y6⟩ := y
  unfold cv
  dsimp only
  have R := Lib.hid hr
  have bx := Box.new w 27 #[.int .i64 y1, .int .i64 y2, .int .i64 y3, .int .i64 y4, .int .i64 y5, .int .i64 y6]
  have hb0 : Below w.heap.size w (w.alloc (.cells #[.int .i64 y1, .int .i64 y2, .int .i64 y3, .int .i64 y4, .int .i64 y5, .int .i64 y6] 27)) := (Below.refl _ w).alloc (Nat.le_refl _) _
  clear hr
  obtain ⟨yy, hyy⟩ : ∃ yy : Cel, yy = (⟨y1, y2, y3, y4, y5, y6⟩ : Cel) := ⟨_, rfl⟩
  rw [← hyy]
  replace hyy := Lib.hid hyy
  have H0 : Hid (yy ∉ l.take 0) := fun h => by simp at h
  go_enter Try.func16, Try.ntmps16
  go_wp2
  go_loopw [5] (fun i wr => ∃ k : Nat, k ≤ l.length ∧ i = .int .i64 k ∧ Hid (yy ∉ l.take k) ∧ Box wr w.heap.size 27 #[.int .i64 y1, .int .i64 y2, .int .i64 y3, .int .i64 y4, .int .i64 y5, .int .i64 y6] ∧ Below w.heap.size w wr) (fun i _ => l.length - (intOf i).toNat)
  case atStart => exact ⟨0, by omega, rfl, H0, bx, hb0⟩
  case round =>
    clear H0 bx hb0
    obtain ⟨k, hk, rfl, hI, bx, hb⟩ := hrel
    by_cases hkn : k < l.length
    · obtain ⟨b0, off, rfl, hg, hc⟩ := (R.out.below hb (Nat.le_refl _)).get (by omega)
      have c0 := hc k hkn 0 _ rfl
      have c1 := hc k hkn 1 _ rfl
      have c2 := hc k hkn 2 _ rfl
      have c3 := hc k hkn 3 _ rfl
      have c4 := hc k hkn 4 _ rfl
      have c5 := hc k hkn 5 _ rfl
      have HH : Hid (yy = l[k] → yy ∈ l) := fun he => by rw [he]; exact List.getElem_mem hkn
      have HT : Hid (yy ≠ l[k] → yy ∉ l.take (k + 1)) := fun he hx => by
        rw [List.take_succ_eq_append_getElem hkn, List.mem_append, List.mem_singleton] at hx
        exact hx.elim hI.out he
      clear hc hI
      generalize l[k] = x at *
      obtain ⟨x1, x2, x3, x4, x5, x6⟩ := x
      dsimp only at c0 c1 c2 c3 c4 c5
      rw [show CelE.n = 6 from rfl, Nat.add_zero] at c0
      rw [show CelE.n = 6 from rfl, ← Nat.add_assoc] at c1 c2 c3 c4 c5
      have CE := fun w => ceq x1 x2 x3 x4 x5 x6 y1 y2 y3 y4 y5 y6 w
      have k3 := bx.cells
      have l3 := bx.lt
      by_cases he : (⟨x1, x2, x3, x4, x5, x6⟩ : Cel) = (⟨y1, y2, y3, y4, y5, y6⟩ : Cel)
      · rw [decide_eq_true he] at CE
        have HE := Lib.hid (HH.out (hyy.out.trans he.symm))
        clear HH HT he
        go_upto_region 4 with fail
        refine wp_region_noPanic ?_
        refine wp_region_held_drew (S := (fun w' => w'.cell? ⟨b0, off + k * 6, none⟩ = some (.int .i64 x1) ∧ w'.cell? ⟨b0, off + k * 6 + 1, none⟩ = some (.int .i64 x2) ∧ w'.cell? ⟨b0, off + k * 6 + 2, none⟩ = some (.int .i64 x3) ∧ w'.cell? ⟨b0, off + k * 6 + 3, none⟩ = some (.int .i64 x4) ∧ w'.cell? ⟨b0, off + k * 6 + 4, none⟩ = some (.int .i64 x5) ∧ w'.cell? ⟨b0, off + k * 6 + 5, none⟩ = some (.int .i64 x6) ∧ w'.cell? ⟨w.heap.size, 0, none⟩ = some (.int .i64 y1) ∧ w'.cell? ⟨w.heap.size, 1, none⟩ = some (.int .i64 y2) ∧ w'.cell? ⟨w.heap.size, 2, none⟩ = some (.int .i64 y3) ∧ w'.cell? ⟨w.heap.size, 3, none⟩ = some (.int .i64 y4) ∧ w'.cell? ⟨w.heap.size, 4, none⟩ = some (.int .i64 y5) ∧ w'.cell? ⟨w.heap.size, 5, none⟩ = some (.int .i64 y6))) (by kernel_rfl) ?_ (fun hHeld => ?_)
        · go_keep
        refine wpAnyH_take (i := 0) (v := ?ve0) rfl (by kernel_rfl) (by kernel_rfl) (by kernel_rfl) (fun _ _ _ h => h) (Or.inl ⟨by kernel_rfl, ?hye0⟩) (by assumption) ?reste0
        case hye0 => (intro w hSw; (try dsimp only at hSw); go_simp; (try with_reducible rfl))
        go_simp
        refine wpAnyH_take (i := 1) (v := ?ve1) rfl (by kernel_rfl) (by kernel_rfl) (by kernel_rfl) (fun _ _ _ h => h) (Or.inl ⟨by kernel_rfl, ?hye1⟩) (by assumption) ?reste1
        case hye1 => (intro w hSw; (try dsimp only at hSw); go_simp; (try with_reducible rfl))
        go_simp
        refine wpAnyH_take (i := 2) (v := ?ve2) rfl (by kernel_rfl) (by kernel_rfl) (by kernel_rfl) (fun _ _ _ h => h) (Or.inl ⟨by kernel_rfl, ?hye2⟩) (by assumption) ?reste2
        case hye2 => (intro w hSw; (try dsimp only at hSw); go_simp; (try with_reducible rfl))
        go_simp
        refine wpAnyH_take (i := 3) (v := ?ve3) rfl (by kernel_rfl) (by kernel_rfl) (by kernel_rfl) (fun _ _ _ h => h) (Or.inl ⟨by kernel_rfl, ?hye3⟩) (by assumption) ?reste3
        case hye3 => (intro w hSw; (try dsimp only at hSw); go_simp; (try with_reducible rfl))
        go_simp
        refine wpAnyH_take (i := 4) (v := ?ve4) rfl (by kernel_rfl) (by kernel_rfl) (by kernel_rfl) (fun _ _ _ h => h) (Or.inl ⟨by kernel_rfl, ?hye4⟩) (by assumption) ?reste4
        case hye4 => (intro w hSw; (try dsimp only at hSw); go_simp; (try with_reducible rfl))
        go_simp
        refine wpAnyH_take (i := 5) (v := ?ve5) rfl (by kernel_rfl) (by kernel_rfl) (by kernel_rfl) (fun _ _ _ h => h) (Or.inl ⟨by kernel_rfl, ?hye5⟩) (by assumption) ?reste5
        case hye5 => (intro w hSw; (try dsimp only at hSw); go_simp; (try with_reducible rfl))
        go_simp
        refine wpAnyH_done (by kernel_rfl) ?_ _
        refine NoPanic.normal ?_
        go_wp2
        go_ret
        exact ⟨by rw [decide_eq_true HE.out]; try rfl, below_drewN hb 1⟩
      · rw [decide_eq_false he] at CE
        have HE := Lib.hid (HT.out (fun e => he (e.symm.trans hyy.out)))
        clear HH HT he
        go_upto_region 4 with fail
        refine wp_region_noPanic ?_
        refine wp_region_held_drew (S := (fun w' => w'.cell? ⟨b0, off + k * 6, none⟩ = some (.int .i64 x1) ∧ w'.cell? ⟨b0, off + k * 6 + 1, none⟩ = some (.int .i64 x2) ∧ w'.cell? ⟨b0, off + k * 6 + 2, none⟩ = some (.int .i64 x3) ∧ w'.cell? ⟨b0, off + k * 6 + 3, none⟩ = some (.int .i64 x4) ∧ w'.cell? ⟨b0, off + k * 6 + 4, none⟩ = some (.int .i64 x5) ∧ w'.cell? ⟨b0, off + k * 6 + 5, none⟩ = some (.int .i64 x6) ∧ w'.cell? ⟨w.heap.size, 0, none⟩ = some (.int .i64 y1) ∧ w'.cell? ⟨w.heap.size, 1, none⟩ = some (.int .i64 y2) ∧ w'.cell? ⟨w.heap.size, 2, none⟩ = some (.int .i64 y3) ∧ w'.cell? ⟨w.heap.size, 3, none⟩ = some (.int .i64 y4) ∧ w'.cell? ⟨w.heap.size, 4, none⟩ = some (.int .i64 y5) ∧ w'.cell? ⟨w.heap.size, 5, none⟩ = some (.int .i64 y6))) (by kernel_rfl) ?_ (fun hHeld => ?_)
        · go_keep
        refine wpAnyH_take (i := 0) (v := ?vn0) rfl (by kernel_rfl) (by kernel_rfl) (by kernel_rfl) (fun _ _ _ h => h) (Or.inl ⟨by kernel_rfl, ?hyn0⟩) (by assumption) ?restn0
        case hyn0 => (intro w hSw; (try dsimp only at hSw); go_simp; (try with_reducible rfl))
        go_simp
        refine wpAnyH_take (i := 1) (v := ?vn1) rfl (by kernel_rfl) (by kernel_rfl) (by kernel_rfl) (fun _ _ _ h => h) (Or.inl ⟨by kernel_rfl, ?hyn1⟩) (by assumption) ?restn1
        case hyn1 => (intro w hSw; (try dsimp only at hSw); go_simp; (try with_reducible rfl))
        go_simp
        refine wpAnyH_take (i := 2) (v := ?vn2) rfl (by kernel_rfl) (by kernel_rfl) (by kernel_rfl) (fun _ _ _ h => h) (Or.inl ⟨by kernel_rfl, ?hyn2⟩) (by assumption) ?restn2
        case hyn2 => (intro w hSw; (try dsimp only at hSw); go_simp; (try with_reducible rfl))
        go_simp
        refine wpAnyH_take (i := 3) (v := ?vn3) rfl (by kernel_rfl) (by kernel_rfl) (by kernel_rfl) (fun _ _ _ h => h) (Or.inl ⟨by kernel_rfl, ?hyn3⟩) (by assumption) ?restn3
        case hyn3 => (intro w hSw; (try dsimp only at hSw); go_simp; (try with_reducible rfl))
        go_simp
        refine wpAnyH_take (i := 4) (v := ?vn4) rfl (by kernel_rfl) (by kernel_rfl) (by kernel_rfl) (fun _ _ _ h => h) (Or.inl ⟨by kernel_rfl, ?hyn4⟩) (by assumption) ?restn4
        case hyn4 => (intro w hSw; (try dsimp only at hSw); go_simp; (try with_reducible rfl))
        go_simp
        refine wpAnyH_take (i := 5) (v := ?vn5) rfl (by kernel_rfl) (by kernel_rfl) (by kernel_rfl) (fun _ _ _ h => h) (Or.inl ⟨by kernel_rfl, ?hyn5⟩) (by assumption) ?restn5
        case hyn5 => (intro w hSw; (try dsimp only at hSw); go_simp; (try with_reducible rfl))
        go_simp
        refine wpAnyH_done (by kernel_rfl) ?_ _
        refine NoPanic.normal ?_
        go_wp2
        go_roundw
        case rel => exact ⟨k + 1, by omega, by go_num, HE, bx.drewN 1, below_drewN hb 1⟩
        case measure => simp [intOf]; omega
    · obtain rfl : k = l.length := by omega
      rw [List.take_length] at hI
      go_wp2
      go_ret
      exact ⟨by rw [decide_eq_false hI.out]; try rfl, hb⟩
set_option maxRecDepth 100000 in
set_option maxHeartbeats 2000000 in
theorem csame_any (hm : l.length ≤ 1000000) (hm' : m.length ≤ 1000000) (hr : CelE.Row w A l) (hr' : CelE.Row w A' m) : Calls Try.prog 8 #[.slice A l.length c, .slice A' m.length c'] w fun e w' => e = .returned (.bool (decide (l = m))) ∧ Below w.heap.size w w' := by
  by_cases hlm : l.length = m.length
  · have R := Lib.hid hr
    have R' := Lib.hid hr'
    obtain ⟨n, hn⟩ : ∃ n, n = l.length := ⟨_, rfl⟩
    have H0 : Hid (l.take 0 = m.take 0) := rfl
    rw [← hn] at hm hlm ⊢
    rw [← hlm] at hm' ⊢
    replace hn := Lib.hid hn
    replace hlm := Lib.hid hlm
    clear hr hr'
    go_enter Try.func8, Try.ntmps8
    go_wp2
    go_loopw [5] (fun i wr => ∃ k : Nat, k ≤ n ∧ i = .int .i64 k ∧ Hid (l.take k = m.take k) ∧ Below w.heap.size w wr) (fun i _ => n - (intOf i).toNat)
    case atStart => exact ⟨0, by omega, rfl, H0, Below.refl _ _⟩
    case round =>
      clear H0
      obtain ⟨k, hk, rfl, hI, hb⟩ := hrel
      by_cases hkn : k < n
      · have k1 : k < l.length := by have := hn.out; omega
        have k2 : k < m.length := by have := hlm.out; omega
        obtain ⟨b0, off, rfl, hg, hc⟩ := (R.out.below hb (Nat.le_refl _)).get (by omega)
        obtain ⟨b2, off2, rfl, hg2, hc2⟩ := (R'.out.below hb (Nat.le_refl _)).get (by omega)
        have c0 := hc k k1 0 _ rfl
        have c1 := hc k k1 1 _ rfl
        have c2 := hc k k1 2 _ rfl
        have c3 := hc k k1 3 _ rfl
        have c4 := hc k k1 4 _ rfl
        have c5 := hc k k1 5 _ rfl
        have d0 := hc2 k k2 0 _ rfl
        have d1 := hc2 k k2 1 _ rfl
        have d2 := hc2 k k2 2 _ rfl
        have d3 := hc2 k k2 3 _ rfl
        have d4 := hc2 k k2 4 _ rfl
        have d5 := hc2 k k2 5 _ rfl
        have HS := Lib.hid fun he => take_extC k1 k2 hI.out he
        have HN : Hid (l[k] ≠ m[k] → l ≠ m) := fun he hx => by subst hx; exact he rfl
        clear hc hc2
        generalize l[k] = x at *
        generalize m[k] = y at *
        obtain ⟨x1, x2, x3, x4, x5, x6⟩ := x
        obtain ⟨y1, y2, y3, y4, y5, y6⟩ := y
        dsimp only at c0 c1 c2 c3 c4 c5 d0 d1 d2 d3 d4 d5
        rw [show CelE.n = 6 from rfl, Nat.add_zero] at c0 d0
        rw [show CelE.n = 6 from rfl, ← Nat.add_assoc] at c1 c2 c3 c4 c5 d1 d2 d3 d4 d5
        have CE := fun w => ceq x1 x2 x3 x4 x5 x6 y1 y2 y3 y4 y5 y6 w
        by_cases he : (⟨x1, x2, x3, x4, x5, x6⟩ : Cel) = (⟨y1, y2, y3, y4, y5, y6⟩ : Cel)
        · rw [decide_eq_true he] at CE
          have HE := Lib.hid (HS.out he)
          clear HS HN he
          go_upto_region 6 with fail
          refine wp_region_noPanic ?_
          refine wp_region_held_drew (S := (fun w' => w'.cell? ⟨b0, off + k * 6, none⟩ = some (.int .i64 x1) ∧ w'.cell? ⟨b0, off + k * 6 + 1, none⟩ = some (.int .i64 x2) ∧ w'.cell? ⟨b0, off + k * 6 + 2, none⟩ = some (.int .i64 x3) ∧ w'.cell? ⟨b0, off + k * 6 + 3, none⟩ = some (.int .i64 x4) ∧ w'.cell? ⟨b0, off + k * 6 + 4, none⟩ = some (.int .i64 x5) ∧ w'.cell? ⟨b0, off + k * 6 + 5, none⟩ = some (.int .i64 x6) ∧ w'.cell? ⟨b2, off2 + k * 6, none⟩ = some (.int .i64 y1) ∧ w'.cell? ⟨b2, off2 + k * 6 + 1, none⟩ = some (.int .i64 y2) ∧ w'.cell? ⟨b2, off2 + k * 6 + 2, none⟩ = some (.int .i64 y3) ∧ w'.cell? ⟨b2, off2 + k * 6 + 3, none⟩ = some (.int .i64 y4) ∧ w'.cell? ⟨b2, off2 + k * 6 + 4, none⟩ = some (.int .i64 y5) ∧ w'.cell? ⟨b2, off2 + k * 6 + 5, none⟩ = some (.int .i64 y6))) (by kernel_rfl) ?_ (fun hHeld => ?_)
          · go_keep
          refine wpAnyH_take (i := 0) (v := ?ves0) rfl (by kernel_rfl) (by kernel_rfl) (by kernel_rfl) (fun _ _ _ h => h) (Or.inl ⟨by kernel_rfl, ?hyes0⟩) (by assumption) ?restes0
          case hyes0 => (intro w hSw; (try dsimp only at hSw); go_simp; (try with_reducible rfl))
          go_simp
          refine wpAnyH_take (i := 1) (v := ?ves1) rfl (by kernel_rfl) (by kernel_rfl) (by kernel_rfl) (fun _ _ _ h => h) (Or.inl ⟨by kernel_rfl, ?hyes1⟩) (by assumption) ?restes1
          case hyes1 => (intro w hSw; (try dsimp only at hSw); go_simp; (try with_reducible rfl))
          go_simp
          refine wpAnyH_take (i := 2) (v := ?ves2) rfl (by kernel_rfl) (by kernel_rfl) (by kernel_rfl) (fun _ _ _ h => h) (Or.inl ⟨by kernel_rfl, ?hyes2⟩) (by assumption) ?restes2
          case hyes2 => (intro w hSw; (try dsimp only at hSw); go_simp; (try with_reducible rfl))
          go_simp
          refine wpAnyH_take (i := 3) (v := ?ves3) rfl (by kernel_rfl) (by kernel_rfl) (by kernel_rfl) (fun _ _ _ h => h) (Or.inl ⟨by kernel_rfl, ?hyes3⟩) (by assumption) ?restes3
          case hyes3 => (intro w hSw; (try dsimp only at hSw); go_simp; (try with_reducible rfl))
          go_simp
          refine wpAnyH_take (i := 4) (v := ?ves4) rfl (by kernel_rfl) (by kernel_rfl) (by kernel_rfl) (fun _ _ _ h => h) (Or.inl ⟨by kernel_rfl, ?hyes4⟩) (by assumption) ?restes4
          case hyes4 => (intro w hSw; (try dsimp only at hSw); go_simp; (try with_reducible rfl))
          go_simp
          refine wpAnyH_take (i := 5) (v := ?ves5) rfl (by kernel_rfl) (by kernel_rfl) (by kernel_rfl) (fun _ _ _ h => h) (Or.inl ⟨by kernel_rfl, ?hyes5⟩) (by assumption) ?restes5
          case hyes5 => (intro w hSw; (try dsimp only at hSw); go_simp; (try with_reducible rfl))
          go_simp
          refine wpAnyH_take (i := 6) (v := ?ves6) rfl (by kernel_rfl) (by kernel_rfl) (by kernel_rfl) (fun _ _ _ h => h) (Or.inl ⟨by kernel_rfl, ?hyes6⟩) (by assumption) ?restes6
          case hyes6 => (intro w hSw; (try dsimp only at hSw); go_simp; (try with_reducible rfl))
          go_simp
          refine wpAnyH_take (i := 7) (v := ?ves7) rfl (by kernel_rfl) (by kernel_rfl) (by kernel_rfl) (fun _ _ _ h => h) (Or.inl ⟨by kernel_rfl, ?hyes7⟩) (by assumption) ?restes7
          case hyes7 => (intro w hSw; (try dsimp only at hSw); go_simp; (try with_reducible rfl))
          go_simp
          refine wpAnyH_take (i := 8) (v := ?ves8) rfl (by kernel_rfl) (by kernel_rfl) (by kernel_rfl) (fun _ _ _ h => h) (Or.inl ⟨by kernel_rfl, ?hyes8⟩) (by assumption) ?restes8
          case hyes8 => (intro w hSw; (try dsimp only at hSw); go_simp; (try with_reducible rfl))
          go_simp
          refine wpAnyH_done (by kernel_rfl) ?_ _
          refine NoPanic.normal ?_
          go_wp2
          go_roundw
          case rel => exact ⟨k + 1, by omega, by go_num, HE, below_drewN hb 1⟩
          case measure => simp [intOf]; omega
        · rw [decide_eq_false he] at CE
          have HE := Lib.hid (HN.out he)
          clear HS HN he
          go_upto_region 6 with fail
          refine wp_region_noPanic ?_
          refine wp_region_held_drew (S := (fun w' => w'.cell? ⟨b0, off + k * 6, none⟩ = some (.int .i64 x1) ∧ w'.cell? ⟨b0, off + k * 6 + 1, none⟩ = some (.int .i64 x2) ∧ w'.cell? ⟨b0, off + k * 6 + 2, none⟩ = some (.int .i64 x3) ∧ w'.cell? ⟨b0, off + k * 6 + 3, none⟩ = some (.int .i64 x4) ∧ w'.cell? ⟨b0, off + k * 6 + 4, none⟩ = some (.int .i64 x5) ∧ w'.cell? ⟨b0, off + k * 6 + 5, none⟩ = some (.int .i64 x6) ∧ w'.cell? ⟨b2, off2 + k * 6, none⟩ = some (.int .i64 y1) ∧ w'.cell? ⟨b2, off2 + k * 6 + 1, none⟩ = some (.int .i64 y2) ∧ w'.cell? ⟨b2, off2 + k * 6 + 2, none⟩ = some (.int .i64 y3) ∧ w'.cell? ⟨b2, off2 + k * 6 + 3, none⟩ = some (.int .i64 y4) ∧ w'.cell? ⟨b2, off2 + k * 6 + 4, none⟩ = some (.int .i64 y5) ∧ w'.cell? ⟨b2, off2 + k * 6 + 5, none⟩ = some (.int .i64 y6))) (by kernel_rfl) ?_ (fun hHeld => ?_)
          · go_keep
          refine wpAnyH_take (i := 0) (v := ?vns0) rfl (by kernel_rfl) (by kernel_rfl) (by kernel_rfl) (fun _ _ _ h => h) (Or.inl ⟨by kernel_rfl, ?hyns0⟩) (by assumption) ?restns0
          case hyns0 => (intro w hSw; (try dsimp only at hSw); go_simp; (try with_reducible rfl))
          go_simp
          refine wpAnyH_take (i := 1) (v := ?vns1) rfl (by kernel_rfl) (by kernel_rfl) (by kernel_rfl) (fun _ _ _ h => h) (Or.inl ⟨by kernel_rfl, ?hyns1⟩) (by assumption) ?restns1
          case hyns1 => (intro w hSw; (try dsimp only at hSw); go_simp; (try with_reducible rfl))
          go_simp
          refine wpAnyH_take (i := 2) (v := ?vns2) rfl (by kernel_rfl) (by kernel_rfl) (by kernel_rfl) (fun _ _ _ h => h) (Or.inl ⟨by kernel_rfl, ?hyns2⟩) (by assumption) ?restns2
          case hyns2 => (intro w hSw; (try dsimp only at hSw); go_simp; (try with_reducible rfl))
          go_simp
          refine wpAnyH_take (i := 3) (v := ?vns3) rfl (by kernel_rfl) (by kernel_rfl) (by kernel_rfl) (fun _ _ _ h => h) (Or.inl ⟨by kernel_rfl, ?hyns3⟩) (by assumption) ?restns3
          case hyns3 => (intro w hSw; (try dsimp only at hSw); go_simp; (try with_reducible rfl))
          go_simp
          refine wpAnyH_take (i := 4) (v := ?vns4) rfl (by kernel_rfl) (by kernel_rfl) (by kernel_rfl) (fun _ _ _ h => h) (Or.inl ⟨by kernel_rfl, ?hyns4⟩) (by assumption) ?restns4
          case hyns4 => (intro w hSw; (try dsimp only at hSw); go_simp; (try with_reducible rfl))
          go_simp
          refine wpAnyH_take (i := 5) (v := ?vns5) rfl (by kernel_rfl) (by kernel_rfl) (by kernel_rfl) (fun _ _ _ h => h) (Or.inl ⟨by kernel_rfl, ?hyns5⟩) (by assumption) ?restns5
          case hyns5 => (intro w hSw; (try dsimp only at hSw); go_simp; (try with_reducible rfl))
          go_simp
          refine wpAnyH_take (i := 6) (v := ?vns6) rfl (by kernel_rfl) (by kernel_rfl) (by kernel_rfl) (fun _ _ _ h => h) (Or.inl ⟨by kernel_rfl, ?hyns6⟩) (by assumption) ?restns6
          case hyns6 => (intro w hSw; (try dsimp only at hSw); go_simp; (try with_reducible rfl))
          go_simp
          refine wpAnyH_take (i := 7) (v := ?vns7) rfl (by kernel_rfl) (by kernel_rfl) (by kernel_rfl) (fun _ _ _ h => h) (Or.inl ⟨by kernel_rfl, ?hyns7⟩) (by assumption) ?restns7
          case hyns7 => (intro w hSw; (try dsimp only at hSw); go_simp; (try with_reducible rfl))
          go_simp
          refine wpAnyH_take (i := 8) (v := ?vns8) rfl (by kernel_rfl) (by kernel_rfl) (by kernel_rfl) (fun _ _ _ h => h) (Or.inl ⟨by kernel_rfl, ?hyns8⟩) (by assumption) ?restns8
          case hyns8 => (intro w hSw; (try dsimp only at hSw); go_simp; (try with_reducible rfl))
          go_simp
          refine wpAnyH_done (by kernel_rfl) ?_ _
          refine NoPanic.normal ?_
          go_wp2
          go_ret
          exact ⟨by rw [decide_eq_false HE.out]; try rfl, below_drewN hb 1⟩
      · obtain rfl : k = n := by omega
        have HE : l = m := by
          have := hI.out
          rw [List.take_of_length_le (by have := hn.out; omega), List.take_of_length_le (by have := hlm.out; omega)] at this
          exact this
        replace HE := Lib.hid HE
        go_wp2
        go_ret
        exact ⟨by rw [decide_eq_true HE.out]; try rfl, hb⟩
  · have hne : l ≠ m := fun h => hlm (by rw [h])
    have hd : (((l.length : Nat) : Int) == ((m.length : Nat) : Int)) = false := beq_eq_false_iff_ne.2 fun h => hlm (by omega)
    have HE := Lib.hid (decide_eq_false hne)
    clear hne hlm
    go_enter Try.func8, Try.ntmps8
    go_wp2
    go_ret
    exact ⟨by rw [HE.out]; try rfl, Below.refl _ _⟩
set_option maxRecDepth 100000 in
set_option maxHeartbeats 2000000 in
theorem cequal_any (hm : l.length ≤ 1000000) (hm' : m.length ≤ 1000000) (hr : CelE.Row w A l) (hr' : CelE.Row w A' m) : Calls Try.prog 31 #[.slice A l.length c, .slice A' m.length c'] w fun e w' => e = .returned (.bool (decide (l = m))) ∧ Below w.heap.size w w' := by
  by_cases hlm : l.length = m.length
  · have R := Lib.hid hr
    have R' := Lib.hid hr'
    obtain ⟨n, hn⟩ : ∃ n, n = l.length := ⟨_, rfl⟩
    have H0 : Hid (l.take 0 = m.take 0) := rfl
    rw [← hn] at hm hlm ⊢
    rw [← hlm] at hm' ⊢
    replace hn := Lib.hid hn
    replace hlm := Lib.hid hlm
    clear hr hr'
    go_enter Try.func31, Try.ntmps31
    go_wp2
    go_loopw [13] (fun i wr => ∃ k : Nat, k ≤ n ∧ i = .int .i64 k ∧ Hid (l.take k = m.take k) ∧ Below w.heap.size w wr) (fun i _ => n - (intOf i).toNat)
    case atStart => exact ⟨0, by omega, rfl, H0, Below.refl _ _⟩
    case round =>
      clear H0
      obtain ⟨k, hk, rfl, hI, hb⟩ := hrel
      by_cases hkn : k < n
      · have k1 : k < l.length := by have := hn.out; omega
        have k2 : k < m.length := by have := hlm.out; omega
        obtain ⟨b0, off, rfl, hg, hc⟩ := (R.out.below hb (Nat.le_refl _)).get (by omega)
        obtain ⟨b2, off2, rfl, hg2, hc2⟩ := (R'.out.below hb (Nat.le_refl _)).get (by omega)
        have c0 := hc k k1 0 _ rfl
        have c1 := hc k k1 1 _ rfl
        have c2 := hc k k1 2 _ rfl
        have c3 := hc k k1 3 _ rfl
        have c4 := hc k k1 4 _ rfl
        have c5 := hc k k1 5 _ rfl
        have d0 := hc2 k k2 0 _ rfl
        have d1 := hc2 k k2 1 _ rfl
        have d2 := hc2 k k2 2 _ rfl
        have d3 := hc2 k k2 3 _ rfl
        have d4 := hc2 k k2 4 _ rfl
        have d5 := hc2 k k2 5 _ rfl
        have HS := Lib.hid fun he => take_extC k1 k2 hI.out he
        have HN : Hid (l[k] ≠ m[k] → l ≠ m) := fun he hx => by subst hx; exact he rfl
        clear hc hc2
        generalize l[k] = x at *
        generalize m[k] = y at *
        obtain ⟨x1, x2, x3, x4, x5, x6⟩ := x
        obtain ⟨y1, y2, y3, y4, y5, y6⟩ := y
        dsimp only at c0 c1 c2 c3 c4 c5 d0 d1 d2 d3 d4 d5
        rw [show CelE.n = 6 from rfl, Nat.add_zero] at c0 d0
        rw [show CelE.n = 6 from rfl, ← Nat.add_assoc] at c1 c2 c3 c4 c5 d1 d2 d3 d4 d5
        have CE := fun w => ceq x1 x2 x3 x4 x5 x6 y1 y2 y3 y4 y5 y6 w
        by_cases he : (⟨x1, x2, x3, x4, x5, x6⟩ : Cel) = (⟨y1, y2, y3, y4, y5, y6⟩ : Cel)
        · rw [decide_eq_true he] at CE
          have HE := Lib.hid (HS.out he)
          clear HS HN he
          go_upto_region 6 with fail
          refine wp_region_noPanic ?_
          refine wp_region_held_drew (S := (fun w' => w'.cell? ⟨b0, off + k * 6, none⟩ = some (.int .i64 x1) ∧ w'.cell? ⟨b0, off + k * 6 + 1, none⟩ = some (.int .i64 x2) ∧ w'.cell? ⟨b0, off + k * 6 + 2, none⟩ = some (.int .i64 x3) ∧ w'.cell? ⟨b0, off + k * 6 + 3, none⟩ = some (.int .i64 x4) ∧ w'.cell? ⟨b0, off + k * 6 + 4, none⟩ = some (.int .i64 x5) ∧ w'.cell? ⟨b0, off + k * 6 + 5, none⟩ = some (.int .i64 x6) ∧ w'.cell? ⟨b2, off2 + k * 6, none⟩ = some (.int .i64 y1) ∧ w'.cell? ⟨b2, off2 + k * 6 + 1, none⟩ = some (.int .i64 y2) ∧ w'.cell? ⟨b2, off2 + k * 6 + 2, none⟩ = some (.int .i64 y3) ∧ w'.cell? ⟨b2, off2 + k * 6 + 3, none⟩ = some (.int .i64 y4) ∧ w'.cell? ⟨b2, off2 + k * 6 + 4, none⟩ = some (.int .i64 y5) ∧ w'.cell? ⟨b2, off2 + k * 6 + 5, none⟩ = some (.int .i64 y6))) (by kernel_rfl) ?_ (fun hHeld => ?_)
          · go_keep
          refine wpAnyH_take (i := 0) (v := ?veq0) rfl (by kernel_rfl) (by kernel_rfl) (by kernel_rfl) (fun _ _ _ h => h) (Or.inl ⟨by kernel_rfl, ?hyeq0⟩) (by assumption) ?resteq0
          case hyeq0 => (intro w hSw; (try dsimp only at hSw); go_simp; (try with_reducible rfl))
          go_simp
          refine wpAnyH_take (i := 1) (v := ?veq1) rfl (by kernel_rfl) (by kernel_rfl) (by kernel_rfl) (fun _ _ _ h => h) (Or.inl ⟨by kernel_rfl, ?hyeq1⟩) (by assumption) ?resteq1
          case hyeq1 => (intro w hSw; (try dsimp only at hSw); go_simp; (try with_reducible rfl))
          go_simp
          refine wpAnyH_take (i := 2) (v := ?veq2) rfl (by kernel_rfl) (by kernel_rfl) (by kernel_rfl) (fun _ _ _ h => h) (Or.inl ⟨by kernel_rfl, ?hyeq2⟩) (by assumption) ?resteq2
          case hyeq2 => (intro w hSw; (try dsimp only at hSw); go_simp; (try with_reducible rfl))
          go_simp
          refine wpAnyH_take (i := 3) (v := ?veq3) rfl (by kernel_rfl) (by kernel_rfl) (by kernel_rfl) (fun _ _ _ h => h) (Or.inl ⟨by kernel_rfl, ?hyeq3⟩) (by assumption) ?resteq3
          case hyeq3 => (intro w hSw; (try dsimp only at hSw); go_simp; (try with_reducible rfl))
          go_simp
          refine wpAnyH_take (i := 4) (v := ?veq4) rfl (by kernel_rfl) (by kernel_rfl) (by kernel_rfl) (fun _ _ _ h => h) (Or.inl ⟨by kernel_rfl, ?hyeq4⟩) (by assumption) ?resteq4
          case hyeq4 => (intro w hSw; (try dsimp only at hSw); go_simp; (try with_reducible rfl))
          go_simp
          refine wpAnyH_take (i := 5) (v := ?veq5) rfl (by kernel_rfl) (by kernel_rfl) (by kernel_rfl) (fun _ _ _ h => h) (Or.inl ⟨by kernel_rfl, ?hyeq5⟩) (by assumption) ?resteq5
          case hyeq5 => (intro w hSw; (try dsimp only at hSw); go_simp; (try with_reducible rfl))
          go_simp
          refine wpAnyH_take (i := 6) (v := ?veq6) rfl (by kernel_rfl) (by kernel_rfl) (by kernel_rfl) (fun _ _ _ h => h) (Or.inl ⟨by kernel_rfl, ?hyeq6⟩) (by assumption) ?resteq6
          case hyeq6 => (intro w hSw; (try dsimp only at hSw); go_simp; (try with_reducible rfl))
          go_simp
          refine wpAnyH_take (i := 7) (v := ?veq7) rfl (by kernel_rfl) (by kernel_rfl) (by kernel_rfl) (fun _ _ _ h => h) (Or.inl ⟨by kernel_rfl, ?hyeq7⟩) (by assumption) ?resteq7
          case hyeq7 => (intro w hSw; (try dsimp only at hSw); go_simp; (try with_reducible rfl))
          go_simp
          refine wpAnyH_take (i := 8) (v := ?veq8) rfl (by kernel_rfl) (by kernel_rfl) (by kernel_rfl) (fun _ _ _ h => h) (Or.inl ⟨by kernel_rfl, ?hyeq8⟩) (by assumption) ?resteq8
          case hyeq8 => (intro w hSw; (try dsimp only at hSw); go_simp; (try with_reducible rfl))
          go_simp
          refine wpAnyH_done (by kernel_rfl) ?_ _
          refine NoPanic.normal ?_
          go_wp2
          go_roundw
          case rel => exact ⟨k + 1, by omega, by go_num, HE, below_drewN hb 1⟩
          case measure => simp [intOf]; omega
        · rw [decide_eq_false he] at CE
          have HE := Lib.hid (HN.out he)
          clear HS HN he
          go_upto_region 6 with fail
          refine wp_region_noPanic ?_
          refine wp_region_held_drew (S := (fun w' => w'.cell? ⟨b0, off + k * 6, none⟩ = some (.int .i64 x1) ∧ w'.cell? ⟨b0, off + k * 6 + 1, none⟩ = some (.int .i64 x2) ∧ w'.cell? ⟨b0, off + k * 6 + 2, none⟩ = some (.int .i64 x3) ∧ w'.cell? ⟨b0, off + k * 6 + 3, none⟩ = some (.int .i64 x4) ∧ w'.cell? ⟨b0, off + k * 6 + 4, none⟩ = some (.int .i64 x5) ∧ w'.cell? ⟨b0, off + k * 6 + 5, none⟩ = some (.int .i64 x6) ∧ w'.cell? ⟨b2, off2 + k * 6, none⟩ = some (.int .i64 y1) ∧ w'.cell? ⟨b2, off2 + k * 6 + 1, none⟩ = some (.int .i64 y2) ∧ w'.cell? ⟨b2, off2 + k * 6 + 2, none⟩ = some (.int .i64 y3) ∧ w'.cell? ⟨b2, off2 + k * 6 + 3, none⟩ = some (.int .i64 y4) ∧ w'.cell? ⟨b2, off2 + k * 6 + 4, none⟩ = some (.int .i64 y5) ∧ w'.cell? ⟨b2, off2 + k * 6 + 5, none⟩ = some (.int .i64 y6))) (by kernel_rfl) ?_ (fun hHeld => ?_)
          · go_keep
          refine wpAnyH_take (i := 0) (v := ?vnq0) rfl (by kernel_rfl) (by kernel_rfl) (by kernel_rfl) (fun _ _ _ h => h) (Or.inl ⟨by kernel_rfl, ?hynq0⟩) (by assumption) ?restnq0
          case hynq0 => (intro w hSw; (try dsimp only at hSw); go_simp; (try with_reducible rfl))
          go_simp
          refine wpAnyH_take (i := 1) (v := ?vnq1) rfl (by kernel_rfl) (by kernel_rfl) (by kernel_rfl) (fun _ _ _ h => h) (Or.inl ⟨by kernel_rfl, ?hynq1⟩) (by assumption) ?restnq1
          case hynq1 => (intro w hSw; (try dsimp only at hSw); go_simp; (try with_reducible rfl))
          go_simp
          refine wpAnyH_take (i := 2) (v := ?vnq2) rfl (by kernel_rfl) (by kernel_rfl) (by kernel_rfl) (fun _ _ _ h => h) (Or.inl ⟨by kernel_rfl, ?hynq2⟩) (by assumption) ?restnq2
          case hynq2 => (intro w hSw; (try dsimp only at hSw); go_simp; (try with_reducible rfl))
          go_simp
          refine wpAnyH_take (i := 3) (v := ?vnq3) rfl (by kernel_rfl) (by kernel_rfl) (by kernel_rfl) (fun _ _ _ h => h) (Or.inl ⟨by kernel_rfl, ?hynq3⟩) (by assumption) ?restnq3
          case hynq3 => (intro w hSw; (try dsimp only at hSw); go_simp; (try with_reducible rfl))
          go_simp
          refine wpAnyH_take (i := 4) (v := ?vnq4) rfl (by kernel_rfl) (by kernel_rfl) (by kernel_rfl) (fun _ _ _ h => h) (Or.inl ⟨by kernel_rfl, ?hynq4⟩) (by assumption) ?restnq4
          case hynq4 => (intro w hSw; (try dsimp only at hSw); go_simp; (try with_reducible rfl))
          go_simp
          refine wpAnyH_take (i := 5) (v := ?vnq5) rfl (by kernel_rfl) (by kernel_rfl) (by kernel_rfl) (fun _ _ _ h => h) (Or.inl ⟨by kernel_rfl, ?hynq5⟩) (by assumption) ?restnq5
          case hynq5 => (intro w hSw; (try dsimp only at hSw); go_simp; (try with_reducible rfl))
          go_simp
          refine wpAnyH_take (i := 6) (v := ?vnq6) rfl (by kernel_rfl) (by kernel_rfl) (by kernel_rfl) (fun _ _ _ h => h) (Or.inl ⟨by kernel_rfl, ?hynq6⟩) (by assumption) ?restnq6
          case hynq6 => (intro w hSw; (try dsimp only at hSw); go_simp; (try with_reducible rfl))
          go_simp
          refine wpAnyH_take (i := 7) (v := ?vnq7) rfl (by kernel_rfl) (by kernel_rfl) (by kernel_rfl) (fun _ _ _ h => h) (Or.inl ⟨by kernel_rfl, ?hynq7⟩) (by assumption) ?restnq7
          case hynq7 => (intro w hSw; (try dsimp only at hSw); go_simp; (try with_reducible rfl))
          go_simp
          refine wpAnyH_take (i := 8) (v := ?vnq8) rfl (by kernel_rfl) (by kernel_rfl) (by kernel_rfl) (fun _ _ _ h => h) (Or.inl ⟨by kernel_rfl, ?hynq8⟩) (by assumption) ?restnq8
          case hynq8 => (intro w hSw; (try dsimp only at hSw); go_simp; (try with_reducible rfl))
          go_simp
          refine wpAnyH_done (by kernel_rfl) ?_ _
          refine NoPanic.normal ?_
          go_wp2
          go_ret
          exact ⟨by rw [decide_eq_false HE.out]; try rfl, below_drewN hb 1⟩
      · obtain rfl : k = n := by omega
        have HE : l = m := by
          have := hI.out
          rw [List.take_of_length_le (by have := hn.out; omega), List.take_of_length_le (by have := hlm.out; omega)] at this
          exact this
        replace HE := Lib.hid HE
        go_wp2
        go_ret
        exact ⟨by rw [decide_eq_true HE.out]; try rfl, hb⟩
  · have hne : l ≠ m := fun h => hlm (by rw [h])
    have hd : (((l.length : Nat) : Int) == ((m.length : Nat) : Int)) = false := beq_eq_false_iff_ne.2 fun h => hlm (by omega)
    have HE := Lib.hid (decide_eq_false hne)
    clear hne hlm
    go_enter Try.func31, Try.ntmps31
    go_wp2
    go_ret
    exact ⟨by rw [HE.out]; try rfl, Below.refl _ _⟩
end
end Go.Proofs.Ytioecjoddgpjbaa
