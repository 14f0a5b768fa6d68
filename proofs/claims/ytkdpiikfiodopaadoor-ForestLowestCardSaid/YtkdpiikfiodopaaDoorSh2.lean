/-
  Chapter 5: Chain.
-/
import Derived.Test.YtkdpiikfiodopaaDoorSh
namespace Go.Proofs.YtkdpiikfiodopaaDoor
open Go.RowKit

def badS (s : Int) : Bool := chkS s != 0
theorem firstOf_any {p : Int → Bool} {l : List Int} : firstOf p l < l.length ↔ l.any p = true := by
  induction l with
  | nil => simp [firstOf]
  | cons a r ih =>
    unfold firstOf
    cases h : p a
    · simp [h, ih]
    · simp [h]

set_option maxHeartbeats 1000000 in
theorem sindexf_any {A : Option Addr} {c : Nat} {l : List Int} {w : World} (hm : l.length ≤ maxLen) (hr : RowAt w A (ivals l)) :
    Calls Tryd.prog 75 #[.slice A l.length c, .func (Fn.func 57) #[] #[]] w fun e w' => e = .returned (.int .i64 (idxI (firstOf badS l) l.length)) ∧ w = w' := by
  have CL := Lib.hid fun (s : Int) w => sclosure_any s w
  unfold maxLen at hm
  go_enter Tryd.func75, Tryd.ntmps75
  go_wp2
  go_loop [8] (fun i => ∃ k : Nat, k ≤ l.length ∧ i = .int .i64 k ∧ Hid (k ≤ firstOf badS l)) (fun i => l.length - (intOf i).toNat)
  case atStart => exact ⟨0, by omega, rfl, Nat.zero_le _⟩
  case round =>
    obtain ⟨k, hk, rfl, hf⟩ := hrel
    by_cases hkn : k < l.length
    · obtain ⟨b, off, rfl, _, hc⟩ := hr.iget (by omega)
      have h1 := hc k hkn
      have CK := Lib.hid (CL.out l[k])
      clear hc
      cases hx : badS l[k]
      · have H := Lib.hid (firstOf_step (p := badS) hkn hf.out hx)
        unfold badS at hx
        rw [hx] at CK
        generalize l[k] = x at *
        clear hf hx
        go_wp2_with fail
        refine (CK.out _).mono ?_
        rintro e _ ⟨rfl, rfl⟩
        go_wp2
        go_round
        case rel => exact ⟨k + 1, by omega, by go_num, H.out⟩
        case measure => simp [intOf] <;> omega
      · have H := Lib.hid (firstOf_hit (p := badS) hkn hf.out hx)
        unfold badS at hx
        rw [hx] at CK
        generalize l[k] = x at *
        clear hf hx
        go_wp2_with fail
        refine (CK.out _).mono ?_
        rintro e _ ⟨rfl, rfl⟩
        go_wp2
        go_ret
        exact ⟨by rw [H.out, idxI_hit hkn]; try rfl, rfl⟩
    · obtain rfl : k = l.length := by omega
      have H := Lib.hid (firstOf_end hf.out)
      clear hf
      go_wp2
      go_ret
      exact ⟨by rw [H.out, idxI_none]; try rfl, rfl⟩
theorem scontainsf_any {A : Option Addr} {c : Nat} {l : List Int} {w : World} (hm : l.length ≤ maxLen) (hr : RowAt w A (ivals l)) :
    Calls Tryd.prog 58 #[.slice A l.length c, .func (Fn.func 57) #[] #[]] w fun e w' => e = .returned (.bool (l.any badS)) ∧ w = w' := by
  have C := Lib.hid (fun w (h : RowAt w A (ivals l)) => sindexf_any (c := c) hm h)
  have M := firstOf_any (p := badS) (l := l)
  cases h : l.any badS
  · have h1 : ¬ firstOf badS l < l.length := fun hh => by rw [M.1 hh] at h; cases h
    unfold idxI at C
    rw [if_neg h1] at C
    clear M h h1
    go_enter Tryd.func58, Tryd.ntmps58
    go_wp2_with fail
    refine (C.out _ hr).mono ?_
    rintro e _ ⟨rfl, rfl⟩
    go_wp2
    go_ret
    exact ⟨rfl, rfl⟩
  · have h1 := M.2 h
    rw [idxI_hit h1] at C
    generalize firstOf badS l = k at *
    clear M h
    go_enter Tryd.func58, Tryd.ntmps58
    go_wp2_with fail
    refine (C.out _ hr).mono ?_
    rintro e _ ⟨rfl, rfl⟩
    go_wp2
    go_ret
    exact ⟨rfl, rfl⟩

/-- Shares, one of the other. -/
def chainGo : List Int → Int × Int → (Int × Int) × Int
  | [], a => (a, 0)
  | s :: r, a => if (timesI a.1 a.2 s 10000).2 = 0 then chainGo r (timesI a.1 a.2 s 10000).1 else ((0, 0), (timesI a.1 a.2 s 10000).2)
def chainI (l : List Int) : (Int × Int) × Int := if l.any badS = true then ((0, 0), 12) else if 0 ∈ l then ((0, 1), 0) else chainGo l (1, 1)
theorem chainGo_drop {l : List Int} {k : Nat} {a : Int × Int} (h : k < l.length) : chainGo (l.drop k) a = if (timesI a.1 a.2 l[k] 10000).2 = 0 then chainGo (l.drop (k + 1)) (timesI a.1 a.2 l[k] 10000).1 else ((0, 0), (timesI a.1 a.2 l[k] 10000).2) := by
  rw [List.drop_eq_getElem_cons h]
  rfl

set_option maxRecDepth 100000 in
set_option maxHeartbeats 1000000 in
theorem chain_any {A : Option Addr} {c : Nat} {l : List Int} {w : World} (hm : l.length ≤ 1000000) (hr : RowAt w A (ivals l)) (T : Tb w) :
    Calls Tryd.prog 17 #[.slice A l.length c] w fun e w' => e = .returned (.tuple #[.agg #[.int .i64 (chainI l).1.1, .int .i64 (chainI l).1.2], .int .i64 (chainI l).2]) ∧ Below w.heap.size w w' := by
  have CF := Lib.hid fun (w : World) (h : RowAt w A (ivals l)) => scontainsf_any (c := c) (by unfold maxLen; omega) h
  have CZ := Lib.hid fun (w : World) (h : RowAt w A (ivals l)) => scontains_any (c := c) (n := 0) (by unfold maxLen; omega) h
  have HR := Lib.hid hr
  have hT1 : 1 < w.heap.size := World.block_lt_of_cell? w _ (T 0 (by decide))
  clear hr
  cases hb : l.any badS
  · rw [hb] at CF
    by_cases hz : (0 : Int) ∈ l
    · rw [show chainI l = ((0, 1), 0) from (if_neg (by rw [hb]; decide)).trans (if_pos hz)]
      rw [decide_eq_true hz] at CZ
      clear hb hz T
      go_enter Tryd.func17, Tryd.ntmps17
      go_wp2_with fail
      refine (CF.out _ (HR.out.alloc _)).mono ?_
      rintro e _ ⟨rfl, rfl⟩
      go_wp2_with fail
      refine (CZ.out _ (HR.out.alloc _)).mono ?_
      rintro e _ ⟨rfl, rfl⟩
      go_wp2
      refine bodyPost_ret (by unfold results; simp only [Tryd.results17]; go_simp; rfl) rfl ?_
      exact ⟨rfl, (Below.refl _ _).alloc (Nat.le_refl _) _⟩
    · obtain ⟨q, hq⟩ : ∃ q, chainI l = q := ⟨_, rfl⟩
      have hq' : chainGo l (1, 1) = q := by rw [← hq]; exact ((if_neg (by rw [hb]; decide)).trans (if_neg hz)).symm
      rw [hq]
      rw [decide_eq_false hz] at CZ
      have HQ := Lib.hid hq'
      clear hb hz hq hq'
      go_enter Tryd.func17, Tryd.ntmps17
      go_wp2_with fail
      refine (CF.out _ (HR.out.alloc _)).mono ?_
      rintro e _ ⟨rfl, rfl⟩
      go_wp2_with fail
      refine (CZ.out _ (HR.out.alloc _)).mono ?_
      rintro e _ ⟨rfl, rfl⟩
      go_wp2_with fail
      go_loopw [22] (fun i wr => ∃ (k : Nat) (p : Int × Int), k ≤ l.length ∧ i = .int .i64 k ∧ Hid (chainGo (l.drop k) p = q) ∧ Box wr w.heap.size 23 #[.int .i64 0, .int .i64 0] ∧ Box wr (w.heap.size + 1) 23 #[.int .i64 p.1, .int .i64 p.2] ∧ Tb wr ∧ Below w.heap.size w wr) (fun i _ => l.length - (intOf i).toNat)
      case atStart => exact ⟨0, (1, 1), by omega, rfl, HQ, (Box.new _ _ _).alloc _, Box.new' (by simp), (T.alloc _).alloc _, ((Below.refl _ _).alloc (Nat.le_refl _) _).alloc (by simp) _⟩
      case round =>
        clear T CF CZ HQ
        obtain ⟨k, p, hk, rfl, hg, b2, b5, T, hb⟩ := hrel
        have k5 := b5.cells
        have l5 := b5.lt
        have hs := hb.size
        by_cases hkn : k < l.length
        · obtain ⟨ba, offa, rfl, halt, hc⟩ := HR.out.iget (by omega)
          have h1 : wr.cell? ⟨ba, offa + k, none⟩ = some (.int .i64 l[k]) := (hb.cell (by exact halt)).trans (hc k hkn)
          have hstep := hg.out
          rw [chainGo_drop hkn] at hstep
          have TM := Lib.hid fun (w : World) (T : Tb w) => rtimes_any p.1 p.2 l[k] 10000 w T
          generalize l[k] = x at *
          generalize timesI p.1 p.2 x 10000 = r at *
          clear hc hg
          by_cases hr0 : r.2 = 0
          · rw [if_pos hr0] at hstep
            rw [hr0] at TM
            have HS := Lib.hid hstep
            clear hstep hr0
            go_wp2_with fail
            refine (TM.out _ T).mono ?_
            rintro e w1 ⟨rfl, bb⟩
            replace T := T.later bb
            replace b2 := b2.later bb
            replace b5 := b5.later bb
            replace hb := hb.trans (bb.mono hs)
            clear TM bb k5 l5 h1 hs
            have k5 := b5.cells
            have l5 := b5.lt
            have f5 := b5.free
            go_wp2
            go_roundw
            case rel => exact ⟨k + 1, r.1, by omega, by go_num, HS, (b2.far' (by omega) _ |>.far' (by omega) _).alloc _, (box2r b5 _ _).alloc _, (tb_set (tb_set T (by omega)) (by omega)).alloc _, ((hb.setCell (by simp) _).setCell (by simp) _).alloc (by simp [World.setCell]; have := hb.size; omega) _⟩
            case measure => simp [intOf] <;> omega
          · rw [if_neg hr0] at hstep
            have e0 : (r.2 != 0) = true := bne_iff_ne.2 hr0
            have e1 : (r.2 == 0) = false := beq_eq_false_iff_ne.2 hr0
            have HS := Lib.hid hstep
            clear hstep hr0
            go_wp2_with fail
            refine (TM.out _ T).mono ?_
            rintro e w1 ⟨rfl, bb⟩
            replace b2 := b2.later bb
            replace hb := hb.trans (bb.mono hs)
            clear TM bb k5 l5 h1 hs T b5
            have k2 := b2.cells
            have l2 := b2.lt
            have f2 := b2.free
            go_wp2
            refine bodyPost_ret (by unfold results; simp only [Tryd.results17]; go_simp; rfl) rfl ?_
            rw [← HS.out]
            exact ⟨rfl, ((hb.setCell (by simp) _).setCell (by simp) _).alloc (by have := hb.size; simpa [World.setCell] using this) _⟩
        · obtain rfl : k = l.length := by omega
          have hend := hg.out
          rw [List.drop_eq_nil_of_le (Nat.le_refl _)] at hend
          have HS := Lib.hid (show (p, (0 : Int)) = q from hend)
          clear hend hg
          have k2 := b2.cells
          have l2 := b2.lt
          have f2 := b2.free
          go_wp2
          refine bodyPost_ret (by unfold results; simp only [Tryd.results17]; go_simp; rfl) rfl ?_
          rw [← HS.out]
          exact ⟨rfl, (hb.setCell (by simp) _).setCell (by simp) _⟩
  · rw [show chainI l = ((0, 0), 12) from if_pos hb]
    rw [hb] at CF
    clear hb T
    go_enter Tryd.func17, Tryd.ntmps17
    go_wp2_with fail
    refine (CF.out _ (HR.out.alloc _)).mono ?_
    rintro e _ ⟨rfl, rfl⟩
    go_wp2
    refine bodyPost_ret (by unfold results; simp only [Tryd.results17]; go_simp; rfl) rfl ?_
    exact ⟨rfl, (Below.refl _ _).alloc (Nat.le_refl _) _⟩
end Go.Proofs.YtkdpiikfiodopaaDoor
