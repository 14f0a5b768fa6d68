/-
  AccountStays.
-/
import Derived.Test.YthkaohjgldoipaaAc16
namespace Go.Proofs.Ythkaohjgldoipaa
open Go.RowKit
theorem addA_ok {l : List Acc} {x : Acc} (ho : OkA l) (h : (addA l x).2 = 0) : addA l x = (l ++ [x], 0) ∧ chkA (l ++ [x]) = ((l.length : Int) + 1, 0) := by
  unfold addA at h ⊢
  split at h
  · simp at h
  · rename_i h1
    split at h
    · rename_i h2; exact absurd h h2
    · rename_i h2
      have h3 : mayI x l.length = 0 := by omega
      rw [if_neg h1, if_neg (by omega)]
      refine ⟨rfl, ?_⟩
      rw [chkA_at (chkA_ok.2 (ho.add (by omega) h3))]
      simp
theorem moveR_ok {l : List Acc} {a p : Int} (ho : OkA l) (h : (moveR l a p).2 = 0) : ∃ k : Nat, k < l.length ∧ a = (k : Int) + 1 ∧ moveR l a p = (moveA l k p, 0) ∧ chkA (moveA l k p) = ((l.length : Int), 0) := by
  unfold moveR at h ⊢
  split at h
  · simp at h
  · rename_i h1
    split at h
    · simp at h
    · rename_i h2
      split at h
      · simp at h
      · rename_i h3
        have hia : isA l a = true := by
          cases hi : isA l a
          · exact absurd (.inl (by rw [hi]; simp)) h1
          · rfl
        obtain ⟨k, hk, rfl⟩ := isA_cast hia
        refine ⟨k, hk, rfl, ?_, ?_⟩
        · rw [if_neg h1, if_neg h2, if_neg h3, show ((k : Int) + 1).toNat - 1 = k by omega]
        · have hp : placeI p l.length = 0 := by
            by_cases h : placeI p l.length = 0
            · exact h
            · exact absurd (.inr h) h2
          have hp' : 0 ≤ p ∧ p ≤ l.length ∧ (p = 0 ∨ 3 < p) := by
            unfold placeI at hp
            split at hp
            · simp at hp
            · split at hp
              · simp at hp
              · omega
          have hm := ho.move (a := k) (p := p) hk (by have : ¬ ((k : Int) + 1 ≤ 3) := fun h => h2 (.inl h); omega) hp' (fun h => h3 (.inl h)) (fun h => h3 (.inr h))
          rw [chkA_at (chkA_ok.2 hm), moveA_len]
section
variable {A : Option Addr} {c : Nat} {l : List Acc} {w : World}
set_option maxRecDepth 100000 in
set_option maxHeartbeats 8000000 in
theorem stays_law (x : Acc) (n0 n1 : Int) (hc : l.length ≤ c) (hr : RowC w A l) : Calls Try.prog 10 #[.slice A l.length c, .agg #[.int .i64 x.p, .int .i64 x.k, .bool x.s, .bool x.q], .agg #[.int .i64 n0, .int .i64 n1]] w fun e w' => e = .returned (.bool true) ∧ Below w.heap.size w w' := by
  have AW := Lib.hid fun w => awake_any w
  by_cases h70 : 70 < l.length
  · clear hr
    go_enter Try.func10, Try.ntmps10
    go_wp2_with fail
    refine (AW.out _).mono ?_
    rintro e w1 ⟨rfl, b1⟩
    go_wp2
    go_ret
    exact ⟨rfl, below_up (below_up b1)⟩
  · have hm : l.length ≤ 1000000 := by omega
    have CK := fun (w : World) (hr : RowC w A l) => acheck_any (c := c) hm hc hr
    by_cases hck : (chkA l).2 = 0
    · have OKL := Lib.hid (chkA_ok.1 hck)
      rw [chkA_at hck] at CK
      replace CK := Lib.hid CK
      clear hck
      have P1 := fun (w : World) (hr : RowC w A l) => aadd_any (c := c) x hm hr
      have M1 := fun (w : World) (hr : RowC w A l) => amove_any (c := c) n0 n1 hm hr
      go_enter Try.func10, Try.ntmps10
      have hb : Below w.heap.size w ((w.alloc (.cells #[.int .i64 x.p, .int .i64 x.k, .bool x.s, .bool x.q] 60)).alloc (.cells #[.int .i64 n0, .int .i64 n1] 61)) := ((Below.refl _ _).alloc (Nat.le_refl _) _).alloc (by simp) _
      have x4 : Box ((w.alloc (.cells #[.int .i64 x.p, .int .i64 x.k, .bool x.s, .bool x.q] 60)).alloc (.cells #[.int .i64 n0, .int .i64 n1] 61)) w.heap.size 60 #[.int .i64 x.p, .int .i64 x.k, .bool x.s, .bool x.q] := (Box.new w 60 #[.int .i64 x.p, .int .i64 x.k, .bool x.s, .bool x.q]).alloc (.cells #[.int .i64 n0, .int .i64 n1] 61)
      have x5 : Box ((w.alloc (.cells #[.int .i64 x.p, .int .i64 x.k, .bool x.s, .bool x.q] 60)).alloc (.cells #[.int .i64 n0, .int .i64 n1] 61)) (w.heap.size + 1) 61 #[.int .i64 n0, .int .i64 n1] := Box.new' (by simp)
      replace hr := hr.later hb
      go_wp2_with fail
      refine (CK.out _ hr).mono ?_
      rintro e w1 ⟨rfl, b9⟩
      replace hr := hr.below b9 (Nat.le_refl _)
      replace x4 := x4.later b9
      replace x5 := x5.later b9
      replace hb := hb.trans (b9.mono hb.size)
      clear b9
      by_cases hao : (addA l x).2 = 0
      · obtain ⟨had, hch⟩ := addA_ok OKL.out hao
        rw [had] at P1
        have hl1 : (l ++ [x]).length = l.length + 1 := by simp
        have P1' := Lib.hid fun (w : World) (hr : RowC w A l) => (P1 w hr).mono fun _ _ h => pairC_of h rfl hl1
        have CM := fun (A : Option Addr) (c : Nat) (w : World) (hc : l.length + 1 ≤ c) (hr : RowC w A (l ++ [x])) => acheck_any (A := A) (c := c) (w := w) (l := l ++ [x]) (by omega) (by omega) hr
        rw [hl1, hch] at CM
        replace CM := Lib.hid CM
        have SA := fun (A1 : Option Addr) (c1 : Nat) (w : World) (hr1 : RowC w A1 (l ++ [x])) (hr : RowC w A l) => rsame_any (A := A1) (c := c1) (A' := A) (c' := c) (w := w) (l := (l ++ [x]).take l.length) (m := l) (by simp; omega) hm (hr1.take l.length) hr
        rw [show (l ++ [x]).take l.length = l by simp, decide_eq_true rfl] at SA
        replace SA := Lib.hid SA
        have XG := Lib.hid (show (l ++ [x])[l.length]'(by simp) = x by simp)
        have hl1' := Lib.hid hl1
        clear P1 had hch hao hl1
        have k4 := x4.cells
        have k5 := x5.cells
        have l4 := x4.lt
        have l5 := x5.lt
        go_wp2_with fail
        refine (P1'.out _ hr).mono ?_
        rintro e w2 ⟨A1, c1, rfl, hc1, hm1, H1, b9⟩
        replace hr := hr.below b9 (Nat.le_refl _)
        replace x4 := x4.later b9
        replace x5 := x5.later b9
        replace hb := hb.trans (b9.mono hb.size)
        clear b9
        clear k4 k5 l4 l5
        go_wp2_with fail
        refine (CM.out _ _ _ hc1 H1).mono ?_
        rintro e w3 ⟨rfl, b9⟩
        replace hr := hr.below b9 (Nat.le_refl _)
        replace H1 := H1.below b9 (Nat.le_refl _)
        replace x4 := x4.later b9
        replace x5 := x5.later b9
        replace hb := hb.trans (b9.mono hb.size)
        clear b9
        obtain ⟨g1, o1, rfl, hg1, hcc⟩ := H1.get (by simp)
        obtain ⟨e0, e1, e2, e3⟩ := hcc l.length (by simp)
        rw [XG.out] at e0 e1 e2 e3
        clear hcc
        have k4 := x4.cells
        have l4 := x4.lt
        have hlc : l.length ≤ c1 := by omega
        have hli : (l.length : Int) < (l.length : Int) + 1 := by omega
        have hwk : IntKind.i64.wrap ((l.length : Int) + 1) = (l.length : Int) + 1 := (Go.IntWalk.i64_left _).trans (Go.IntWalk.wrap64_in _ (by omega))
        go_upto_region 9 with fail
        refine wp_region_noPanic ?_
        refine wp_region_held_drew (S := (fun w' => w'.cell? ⟨g1, o1 + l.length * 4, none⟩ = some (.int .i64 x.p) ∧ w'.cell? ⟨g1, o1 + l.length * 4 + 1, none⟩ = some (.int .i64 x.k) ∧ w'.cell? ⟨g1, o1 + l.length * 4 + 2, none⟩ = some (.bool x.s) ∧ w'.cell? ⟨g1, o1 + l.length * 4 + 3, none⟩ = some (.bool x.q) ∧ w'.cell? ⟨w.heap.size, 0, none⟩ = some (.int .i64 x.p) ∧ w'.cell? ⟨w.heap.size, 1, none⟩ = some (.int .i64 x.k) ∧ w'.cell? ⟨w.heap.size, 2, none⟩ = some (.bool x.s) ∧ w'.cell? ⟨w.heap.size, 3, none⟩ = some (.bool x.q))) (by kernel_rfl) ?_ (fun hHeld => ?_)
        · go_keep
        refine wpAnyH_take (i := 0) (v := ?vs0) rfl (by kernel_rfl) (by kernel_rfl) (by kernel_rfl) (fun _ _ _ h => h) (Or.inl ⟨by kernel_rfl, ?hys0⟩) (by assumption) ?rests0
        case hys0 => (intro w hSw; (try dsimp only at hSw); go_simp; (try with_reducible rfl))
        go_simp
        refine wpAnyH_take (i := 1) (v := ?vs1) rfl (by kernel_rfl) (by kernel_rfl) (by kernel_rfl) (fun _ _ _ h => h) (Or.inl ⟨by kernel_rfl, ?hys1⟩) (by assumption) ?rests1
        case hys1 => (intro w hSw; (try dsimp only at hSw); go_simp; (try with_reducible rfl))
        go_simp
        refine wpAnyH_take (i := 2) (v := ?vs2) rfl (by kernel_rfl) (by kernel_rfl) (by kernel_rfl) (fun _ _ _ h => h) (Or.inl ⟨by kernel_rfl, ?hys2⟩) (by assumption) ?rests2
        case hys2 => (intro w hSw; (try dsimp only at hSw); go_simp; (try with_reducible rfl))
        go_simp
        refine wpAnyH_take (i := 3) (v := ?vs3) rfl (by kernel_rfl) (by kernel_rfl) (by kernel_rfl) (fun _ _ _ h => h) (Or.inl ⟨by kernel_rfl, ?hys3⟩) (by assumption) ?rests3
        case hys3 => (intro w hSw; (try dsimp only at hSw); go_simp; (try with_reducible rfl))
        go_simp
        refine wpAnyH_take (i := 4) (v := ?vs4) rfl (by kernel_rfl) (by kernel_rfl) (by kernel_rfl) (fun _ _ _ h => h) (Or.inl ⟨by kernel_rfl, ?hys4⟩) (by assumption) ?rests4
        case hys4 => (intro w hSw; (try dsimp only at hSw); go_simp; (try with_reducible rfl))
        go_simp
        refine wpAnyH_take (i := 5) (v := ?vs5) rfl (by kernel_rfl) (by kernel_rfl) (by kernel_rfl) (fun _ _ _ h => h) (Or.inl ⟨by kernel_rfl, ?hys5⟩) (by assumption) ?rests5
        case hys5 => (intro w hSw; (try dsimp only at hSw); go_simp; (try with_reducible rfl))
        go_simp
        refine wpAnyH_take (i := 6) (v := ?vs6) rfl (by kernel_rfl) (by kernel_rfl) (by kernel_rfl) (fun _ _ _ h => h) (Or.inl ⟨by kernel_rfl, ?hys6⟩) (by assumption) ?rests6
        case hys6 => (intro w hSw; (try dsimp only at hSw); go_simp; (try with_reducible rfl))
        go_simp
        refine wpAnyH_take (i := 7) (v := ?vs7) rfl (by kernel_rfl) (by kernel_rfl) (by kernel_rfl) (fun _ _ _ h => h) (Or.inl ⟨by kernel_rfl, ?hys7⟩) (by assumption) ?rests7
        case hys7 => (intro w hSw; (try dsimp only at hSw); go_simp; (try with_reducible rfl))
        go_simp
        refine wpAnyH_take (i := 8) (v := ?vs8) rfl (by kernel_rfl) (by kernel_rfl) (by kernel_rfl) (fun _ _ _ h => h) (Or.inl ⟨by kernel_rfl, ?hys8⟩) (by assumption) ?rests8
        case hys8 => (intro w hSw; (try dsimp only at hSw); go_simp; (try with_reducible rfl))
        go_simp
        refine wpAnyH_take (i := 9) (v := ?vs9) rfl (by kernel_rfl) (by kernel_rfl) (by kernel_rfl) (fun _ _ _ h => h) (Or.inl ⟨by kernel_rfl, ?hys9⟩) (by assumption) ?rests9
        case hys9 => (intro w hSw; (try dsimp only at hSw); go_simp; (try with_reducible rfl))
        go_simp
        refine wpAnyH_take (i := 10) (v := ?vs10) rfl (by kernel_rfl) (by kernel_rfl) (by kernel_rfl) (fun _ _ _ h => h) (Or.inl ⟨by kernel_rfl, ?hys10⟩) (by assumption) ?rests10
        case hys10 => (intro w hSw; (try dsimp only at hSw); go_simp; (try with_reducible rfl))
        go_simp
        refine wpAnyH_take (i := 11) (v := ?vs11) rfl (by kernel_rfl) (by kernel_rfl) (by kernel_rfl) (fun _ _ _ h => h) (Or.inl ⟨by kernel_rfl, ?hys11⟩) (by assumption) ?rests11
        case hys11 => (intro w hSw; (try dsimp only at hSw); go_simp; (try with_reducible rfl))
        go_simp
        refine wpAnyH_take (i := 12) (v := ?vs12) rfl (by kernel_rfl) (by kernel_rfl) (by kernel_rfl) (fun _ _ _ h => h) (Or.inl ⟨by kernel_rfl, ?hys12⟩) (by assumption) ?rests12
        case hys12 => (intro w hSw; (try dsimp only at hSw); go_simp; (try with_reducible rfl))
        go_simp
        refine wpAnyH_take (i := 13) (v := ?vs13) rfl (by kernel_rfl) (by kernel_rfl) (by kernel_rfl) (fun _ _ _ h => h) (Or.inl ⟨by kernel_rfl, ?hys13⟩) (by assumption) ?rests13
        case hys13 => (intro w hSw; (try dsimp only at hSw); go_simp; (try with_reducible rfl))
        go_simp
        refine wpAnyH_take (i := 14) (v := ?vs14) rfl (by kernel_rfl) (by kernel_rfl) (by kernel_rfl) (fun _ _ _ h => h) (Or.inl ⟨by kernel_rfl, ?hys14⟩) (by assumption) ?rests14
        case hys14 => (intro w hSw; (try dsimp only at hSw); go_simp; (try with_reducible rfl))
        go_simp
        refine wpAnyH_take (i := 15) (v := ?vs15) rfl (by kernel_rfl) (by kernel_rfl) (by kernel_rfl) (fun _ _ _ h => h) (Or.inl ⟨by kernel_rfl, ?hys15⟩) (by assumption) ?rests15
        case hys15 => (intro w hSw; (try dsimp only at hSw); go_simp; (try with_reducible rfl))
        go_simp
        refine wpAnyH_take (i := 16) (v := ?vs16) rfl (by kernel_rfl) (by kernel_rfl) (by kernel_rfl) (fun _ _ _ h => h) (Or.inl ⟨by kernel_rfl, ?hys16⟩) (by assumption) ?rests16
        case hys16 => (intro w hSw; (try dsimp only at hSw); go_simp; (try with_reducible rfl))
        go_simp
        refine wpAnyH_take (i := 17) (v := ?vs17) rfl (by kernel_rfl) (by kernel_rfl) (by kernel_rfl) (fun _ _ _ h => h) (Or.inl ⟨by kernel_rfl, ?hys17⟩) (by assumption) ?rests17
        case hys17 => (intro w hSw; (try dsimp only at hSw); go_simp; (try with_reducible rfl))
        go_simp
        refine wpAnyH_take (i := 18) (v := ?vs18) rfl (by kernel_rfl) (by kernel_rfl) (by kernel_rfl) (fun _ _ _ h => h) (Or.inl ⟨by kernel_rfl, ?hys18⟩) (by assumption) ?rests18
        case hys18 => (intro w hSw; (try dsimp only at hSw); go_simp; (try with_reducible rfl))
        go_simp
        refine wpAnyH_take (i := 19) (v := ?vs19) rfl (by kernel_rfl) (by kernel_rfl) (by kernel_rfl) (fun _ _ _ h => h) (Or.inl ⟨by kernel_rfl, ?hys19⟩) (by assumption) ?rests19
        case hys19 => (intro w hSw; (try dsimp only at hSw); go_simp; (try with_reducible rfl))
        go_simp
        refine wpAnyH_take (i := 20) (v := ?vs20) rfl (by kernel_rfl) (by kernel_rfl) (by kernel_rfl) (fun _ _ _ h => h) (Or.inl ⟨by kernel_rfl, ?hys20⟩) (by assumption) ?rests20
        case hys20 => (intro w hSw; (try dsimp only at hSw); go_simp; (try with_reducible rfl))
        go_simp
        refine wpAnyH_take (i := 21) (v := ?vs21) rfl (by kernel_rfl) (by kernel_rfl) (by kernel_rfl) (fun _ _ _ h => h) (Or.inl ⟨by kernel_rfl, ?hys21⟩) (by assumption) ?rests21
        case hys21 => (intro w hSw; (try dsimp only at hSw); go_simp; (try with_reducible rfl))
        go_simp
        refine wpAnyH_take (i := 22) (v := ?vs22) rfl (by kernel_rfl) (by kernel_rfl) (by kernel_rfl) (fun _ _ _ h => h) (Or.inl ⟨by kernel_rfl, ?hys22⟩) (by assumption) ?rests22
        case hys22 => (intro w hSw; (try dsimp only at hSw); go_simp; (try with_reducible rfl))
        go_simp
        refine wpAnyH_ready (rs := [23]) (by kernel_rfl) (by simp) ?_
        refine AllReadyH.cons rfl (fun K hK => ?_) AllReadyH.nil
        rw [if_pos (by kernel_rfl)]
        go_simp
        refine (SA.out _ _ _ H1.drew hr.drew).mono ?_
        rintro e w41 ⟨rfl, b41⟩
        replace b41 := below_undrew b41
        have H1 := H1.below b41 (Nat.le_refl _)
        have hr := hr.later b41
        have x4 := x4.later b41
        have x5 := x5.later b41
        have hb := hb.trans (b41.mono hb.size)
        have k4 := x4.cells
        have e0 := (b41.cell (p := ⟨g1, o1 + l.length * 4, none⟩) hg1).trans e0
        have e1 := (b41.cell (p := ⟨g1, o1 + l.length * 4 + 1, none⟩) hg1).trans e1
        have e2 := (b41.cell (p := ⟨g1, o1 + l.length * 4 + 2, none⟩) hg1).trans e2
        have e3 := (b41.cell (p := ⟨g1, o1 + l.length * 4 + 3, none⟩) hg1).trans e3
        clear b41
        go_wp2_with fail
        refine hK.out _ _ (by go_keep) (fun hHeld => ?_)
        clear hK K
        go_simp
        refine wpAnyH_take (i := 24) (v := ?vs24) rfl (by kernel_rfl) (by kernel_rfl) (by kernel_rfl) (fun _ _ _ h => h) (Or.inl ⟨by kernel_rfl, ?hys24⟩) (by assumption) ?rests24
        case hys24 => (intro w hSw; (try dsimp only at hSw); go_simp; (try with_reducible rfl))
        go_simp
        refine wpAnyH_take (i := 25) (v := ?vs25) rfl (by kernel_rfl) (by kernel_rfl) (by kernel_rfl) (fun _ _ _ h => h) (Or.inl ⟨by kernel_rfl, ?hys25⟩) (by assumption) ?rests25
        case hys25 => (intro w hSw; (try dsimp only at hSw); go_simp; (try with_reducible rfl))
        go_simp
        refine wpAnyH_take (i := 26) (v := ?vs26) rfl (by kernel_rfl) (by kernel_rfl) (by kernel_rfl) (fun _ _ _ h => h) (Or.inl ⟨by kernel_rfl, ?hys26⟩) (by assumption) ?rests26
        case hys26 => (intro w hSw; (try dsimp only at hSw); go_simp; (try with_reducible rfl))
        go_simp
        refine wpAnyH_take (i := 27) (v := ?vs27) rfl (by kernel_rfl) (by kernel_rfl) (by kernel_rfl) (fun _ _ _ h => h) (Or.inl ⟨by kernel_rfl, ?hys27⟩) (by assumption) ?rests27
        case hys27 => (intro w hSw; (try dsimp only at hSw); go_simp; (try with_reducible rfl))
        go_simp
        refine wpAnyH_take (i := 28) (v := ?vs28) rfl (by kernel_rfl) (by kernel_rfl) (by kernel_rfl) (fun _ _ _ h => h) (Or.inl ⟨by kernel_rfl, ?hys28⟩) (by assumption) ?rests28
        case hys28 => (intro w hSw; (try dsimp only at hSw); go_simp; (try with_reducible rfl))
        go_simp
        refine wpAnyH_take (i := 29) (v := ?vs29) rfl (by kernel_rfl) (by kernel_rfl) (by kernel_rfl) (fun _ _ _ h => h) (Or.inl ⟨by kernel_rfl, ?hys29⟩) (by assumption) ?rests29
        case hys29 => (intro w hSw; (try dsimp only at hSw); go_simp; (try with_reducible rfl))
        go_simp
        refine wpAnyH_take (i := 30) (v := ?vs30) rfl (by kernel_rfl) (by kernel_rfl) (by kernel_rfl) (fun _ _ _ h => h) (Or.inl ⟨by kernel_rfl, ?hys30⟩) (by assumption) ?rests30
        case hys30 => (intro w hSw; (try dsimp only at hSw); go_simp; (try with_reducible rfl))
        go_simp
        refine wpAnyH_take (i := 31) (v := ?vs31) rfl (by kernel_rfl) (by kernel_rfl) (by kernel_rfl) (fun _ _ _ h => h) (Or.inl ⟨by kernel_rfl, ?hys31⟩) (by assumption) ?rests31
        case hys31 => (intro w hSw; (try dsimp only at hSw); go_simp; (try with_reducible rfl))
        go_simp
        refine wpAnyH_take (i := 32) (v := ?vs32) rfl (by kernel_rfl) (by kernel_rfl) (by kernel_rfl) (fun _ _ _ h => h) (Or.inl ⟨by kernel_rfl, ?hys32⟩) (by assumption) ?rests32
        case hys32 => (intro w hSw; (try dsimp only at hSw); go_simp; (try with_reducible rfl))
        go_simp
        refine wpAnyH_take (i := 33) (v := ?vs33) rfl (by kernel_rfl) (by kernel_rfl) (by kernel_rfl) (fun _ _ _ h => h) (Or.inl ⟨by kernel_rfl, ?hys33⟩) (by assumption) ?rests33
        case hys33 => (intro w hSw; (try dsimp only at hSw); go_simp; (try with_reducible rfl))
        go_simp
        refine wpAnyH_take (i := 34) (v := ?vs34) rfl (by kernel_rfl) (by kernel_rfl) (by kernel_rfl) (fun _ _ _ h => h) (Or.inl ⟨by kernel_rfl, ?hys34⟩) (by assumption) ?rests34
        case hys34 => (intro w hSw; (try dsimp only at hSw); go_simp; (try with_reducible rfl))
        go_simp
        refine wpAnyH_done (by kernel_rfl) ?_ _
        refine NoPanic.normal ?_
        clear k4 e0 e1 e2 e3 l4 H1 hg1
        have hm1' := hm1
        by_cases hmo : (moveR l n0 n1).2 = 0
        · obtain ⟨k, hkl, hn0, hmv, hch⟩ := moveR_ok OKL.out hmo
          rw [hmv] at M1
          have M1' := Lib.hid fun (w : World) (hr : RowC w A l) => (M1 w hr).mono fun _ _ h => pairC_of h rfl (moveA_len l k n1)
          have CM := fun (A : Option Addr) (c : Nat) (w : World) (hc : l.length ≤ c) (hr : RowC w A (moveA l k n1)) => acheck_any (A := A) (c := c) (w := w) (l := moveA l k n1) (by rw [moveA_len]; omega) (by rw [moveA_len]; exact hc) hr
          rw [moveA_len, hch] at CM
          replace CM := Lib.hid CM
          have MG : Hid (∀ (i : Nat) (hi : i < l.length) (hi' : i < (moveA l k n1).length), (moveA l k n1)[i] = if i = k then { l[i] with p := n1 } else l[i]) := fun i hi _ => moveA_get hi
          have HML := Lib.hid (moveA_len l k n1)
          have HN0 := Lib.hid hn0
          clear hn0
          clear M1 hmv hch hmo
          generalize moveA l k n1 = mv at *
          have k4 := x4.cells
          have k5 := x5.cells
          have l4 := x4.lt
          have l5 := x5.lt
          go_wp2_with fail
          refine (M1'.out _ hr).mono ?_
          rintro e w6 ⟨A3, c3, rfl, hc3, hm3, H3, b9⟩
          replace hr := hr.below b9 (Nat.le_refl _)
          replace x4 := x4.later b9
          replace x5 := x5.later b9
          replace hb := hb.trans (b9.mono hb.size)
          clear b9
          clear k4 k5 l4 l5
          go_wp2_with fail
          refine (CM.out _ _ _ hc3 H3).mono ?_
          rintro e w7 ⟨rfl, b9⟩
          replace hr := hr.below b9 (Nat.le_refl _)
          replace H3 := H3.below b9 (Nat.le_refl _)
          replace x5 := x5.later b9
          replace hb := hb.trans (b9.mono hb.size)
          clear b9
          clear x4
          go_wp2
          go_loopw [17] (fun i wr => ∃ j : Nat, j ≤ l.length ∧ i = .int .i64 j ∧ RowC wr A l ∧ RowC wr A3 mv ∧ Box wr (w.heap.size + 1) 61 #[.int .i64 n0, .int .i64 n1] ∧ Below w.heap.size w wr) (fun i _ => l.length - (intOf i).toNat)
          case atStart => exact ⟨0, by omega, rfl, hr, H3, x5, hb⟩
          case round =>
            clear hr H3 x5 hb
            obtain ⟨j, hj, rfl, hr, H3, x5, hb⟩ := hrel
            by_cases hjn : j < l.length
            · have hlm : j < mv.length := by rw [HML.out]; exact hjn
              have mg := MG.out j hjn hlm
              have H3' := H3
              have hr' := hr
              obtain ⟨g0, o0, rfl, hg0, hc0⟩ := hr.get (by omega)
              obtain ⟨g3, o3, rfl, hg3, hc3x⟩ := H3.get (by rw [HML.out]; omega)
              obtain ⟨a1, a2, a3, a4⟩ := hc0 j hjn
              obtain ⟨e1, e2, e3, e4⟩ := hc3x j hlm
              rw [mg] at e1 e2 e3 e4
              clear hc0 hc3x mg hlm
              have k5 := x5.cells
              have l5 := x5.lt
              by_cases hjk : j = k
              · simp only [if_pos hjk] at e1 e2 e3 e4
                generalize l[j] = q at *
                obtain ⟨q1, q2, q3, q4⟩ := q
                dsimp only at a1 a2 a3 a4 e1 e2 e3 e4
                have heq : ((j : Int) + 1 == n0) = true := by rw [HN0.out, hjk]; simp
                clear hjk
                have Y := Box.new wr 60 #[.int .i64 n1, .int .i64 q2, .bool q3, .bool q4]
                have ky := Y.cells
                have hW : Below wr.heap.size wr ((wr.alloc (.cells #[.int .i64 n1, .int .i64 q2, .bool q3, .bool q4] 60)).drew) := below_drewN ((Below.refl _ _).alloc (Nat.le_refl _) _) 1
                replace e1 := (hW.cell (p := ⟨g3, o3 + j * 4, none⟩) hg3).trans e1
                replace e2 := (hW.cell (p := ⟨g3, o3 + j * 4 + 1, none⟩) hg3).trans e2
                replace e3 := (hW.cell (p := ⟨g3, o3 + j * 4 + 2, none⟩) hg3).trans e3
                replace e4 := (hW.cell (p := ⟨g3, o3 + j * 4 + 3, none⟩) hg3).trans e4
                go_upto_region 22 with fail
                refine wp_region_noPanic ?_
                refine wp_region_held_drew (S := (fun w' => w'.cell? ⟨g3, o3 + j * 4, none⟩ = some (.int .i64 n1) ∧ w'.cell? ⟨g3, o3 + j * 4 + 1, none⟩ = some (.int .i64 q2) ∧ w'.cell? ⟨g3, o3 + j * 4 + 2, none⟩ = some (.bool q3) ∧ w'.cell? ⟨g3, o3 + j * 4 + 3, none⟩ = some (.bool q4) ∧ w'.cell? ⟨wr.heap.size, 0, none⟩ = some (.int .i64 n1) ∧ w'.cell? ⟨wr.heap.size, 1, none⟩ = some (.int .i64 q2) ∧ w'.cell? ⟨wr.heap.size, 2, none⟩ = some (.bool q3) ∧ w'.cell? ⟨wr.heap.size, 3, none⟩ = some (.bool q4))) (by kernel_rfl) ?_ (fun hHeld => ?_)
                · go_keep
                refine wpAnyH_take (i := 0) (v := ?vm1a0) rfl (by kernel_rfl) (by kernel_rfl) (by kernel_rfl) (fun _ _ _ h => h) (Or.inl ⟨by kernel_rfl, ?hym1a0⟩) (by assumption) ?restm1a0
                case hym1a0 => (intro w hSw; (try dsimp only at hSw); go_simp; (try with_reducible rfl))
                go_simp
                refine wpAnyH_take (i := 1) (v := ?vm1a1) rfl (by kernel_rfl) (by kernel_rfl) (by kernel_rfl) (fun _ _ _ h => h) (Or.inl ⟨by kernel_rfl, ?hym1a1⟩) (by assumption) ?restm1a1
                case hym1a1 => (intro w hSw; (try dsimp only at hSw); go_simp; (try with_reducible rfl))
                go_simp
                refine wpAnyH_take (i := 2) (v := ?vm1a2) rfl (by kernel_rfl) (by kernel_rfl) (by kernel_rfl) (fun _ _ _ h => h) (Or.inl ⟨by kernel_rfl, ?hym1a2⟩) (by assumption) ?restm1a2
                case hym1a2 => (intro w hSw; (try dsimp only at hSw); go_simp; (try with_reducible rfl))
                go_simp
                refine wpAnyH_take (i := 3) (v := ?vm1a3) rfl (by kernel_rfl) (by kernel_rfl) (by kernel_rfl) (fun _ _ _ h => h) (Or.inl ⟨by kernel_rfl, ?hym1a3⟩) (by assumption) ?restm1a3
                case hym1a3 => (intro w hSw; (try dsimp only at hSw); go_simp; (try with_reducible rfl))
                go_simp
                refine wpAnyH_take (i := 4) (v := ?vm1a4) rfl (by kernel_rfl) (by kernel_rfl) (by kernel_rfl) (fun _ _ _ h => h) (Or.inl ⟨by kernel_rfl, ?hym1a4⟩) (by assumption) ?restm1a4
                case hym1a4 => (intro w hSw; (try dsimp only at hSw); go_simp; (try with_reducible rfl))
                go_simp
                refine wpAnyH_take (i := 5) (v := ?vm1a5) rfl (by kernel_rfl) (by kernel_rfl) (by kernel_rfl) (fun _ _ _ h => h) (Or.inl ⟨by kernel_rfl, ?hym1a5⟩) (by assumption) ?restm1a5
                case hym1a5 => (intro w hSw; (try dsimp only at hSw); go_simp; (try with_reducible rfl))
                go_simp
                refine wpAnyH_done (by kernel_rfl) ?_ _
                refine NoPanic.normal ?_
                replace hr := hr'.later hW
                replace H3 := H3'.later hW
                replace x5 := x5.later hW
                replace hb := hb.trans (hW.mono hb.size)
                clear ky Y e1 e2 e3 e4 k5 l5 hW
                go_wp2
                go_roundw
                case rel => exact ⟨j + 1, by omega, by go_num, hr, H3, x5, hb⟩
                case measure => simp [intOf]; omega
              · simp only [if_neg hjk] at e1 e2 e3 e4
                generalize l[j] = q at *
                obtain ⟨q1, q2, q3, q4⟩ := q
                dsimp only at a1 a2 a3 a4 e1 e2 e3 e4
                have heq : ((j : Int) + 1 == n0) = false := beq_eq_false_iff_ne.2 (by rw [HN0.out]; omega)
                clear hjk
                have Y := Box.new wr 60 #[.int .i64 q1, .int .i64 q2, .bool q3, .bool q4]
                have ky := Y.cells
                have hW : Below wr.heap.size wr ((wr.alloc (.cells #[.int .i64 q1, .int .i64 q2, .bool q3, .bool q4] 60)).drew) := below_drewN ((Below.refl _ _).alloc (Nat.le_refl _) _) 1
                replace e1 := (hW.cell (p := ⟨g3, o3 + j * 4, none⟩) hg3).trans e1
                replace e2 := (hW.cell (p := ⟨g3, o3 + j * 4 + 1, none⟩) hg3).trans e2
                replace e3 := (hW.cell (p := ⟨g3, o3 + j * 4 + 2, none⟩) hg3).trans e3
                replace e4 := (hW.cell (p := ⟨g3, o3 + j * 4 + 3, none⟩) hg3).trans e4
                go_upto_region 22 with fail
                refine wp_region_noPanic ?_
                refine wp_region_held_drew (S := (fun w' => w'.cell? ⟨g3, o3 + j * 4, none⟩ = some (.int .i64 q1) ∧ w'.cell? ⟨g3, o3 + j * 4 + 1, none⟩ = some (.int .i64 q2) ∧ w'.cell? ⟨g3, o3 + j * 4 + 2, none⟩ = some (.bool q3) ∧ w'.cell? ⟨g3, o3 + j * 4 + 3, none⟩ = some (.bool q4) ∧ w'.cell? ⟨wr.heap.size, 0, none⟩ = some (.int .i64 q1) ∧ w'.cell? ⟨wr.heap.size, 1, none⟩ = some (.int .i64 q2) ∧ w'.cell? ⟨wr.heap.size, 2, none⟩ = some (.bool q3) ∧ w'.cell? ⟨wr.heap.size, 3, none⟩ = some (.bool q4))) (by kernel_rfl) ?_ (fun hHeld => ?_)
                · go_keep
                refine wpAnyH_take (i := 0) (v := ?vm1b0) rfl (by kernel_rfl) (by kernel_rfl) (by kernel_rfl) (fun _ _ _ h => h) (Or.inl ⟨by kernel_rfl, ?hym1b0⟩) (by assumption) ?restm1b0
                case hym1b0 => (intro w hSw; (try dsimp only at hSw); go_simp; (try with_reducible rfl))
                go_simp
                refine wpAnyH_take (i := 1) (v := ?vm1b1) rfl (by kernel_rfl) (by kernel_rfl) (by kernel_rfl) (fun _ _ _ h => h) (Or.inl ⟨by kernel_rfl, ?hym1b1⟩) (by assumption) ?restm1b1
                case hym1b1 => (intro w hSw; (try dsimp only at hSw); go_simp; (try with_reducible rfl))
                go_simp
                refine wpAnyH_take (i := 2) (v := ?vm1b2) rfl (by kernel_rfl) (by kernel_rfl) (by kernel_rfl) (fun _ _ _ h => h) (Or.inl ⟨by kernel_rfl, ?hym1b2⟩) (by assumption) ?restm1b2
                case hym1b2 => (intro w hSw; (try dsimp only at hSw); go_simp; (try with_reducible rfl))
                go_simp
                refine wpAnyH_take (i := 3) (v := ?vm1b3) rfl (by kernel_rfl) (by kernel_rfl) (by kernel_rfl) (fun _ _ _ h => h) (Or.inl ⟨by kernel_rfl, ?hym1b3⟩) (by assumption) ?restm1b3
                case hym1b3 => (intro w hSw; (try dsimp only at hSw); go_simp; (try with_reducible rfl))
                go_simp
                refine wpAnyH_take (i := 4) (v := ?vm1b4) rfl (by kernel_rfl) (by kernel_rfl) (by kernel_rfl) (fun _ _ _ h => h) (Or.inl ⟨by kernel_rfl, ?hym1b4⟩) (by assumption) ?restm1b4
                case hym1b4 => (intro w hSw; (try dsimp only at hSw); go_simp; (try with_reducible rfl))
                go_simp
                refine wpAnyH_take (i := 5) (v := ?vm1b5) rfl (by kernel_rfl) (by kernel_rfl) (by kernel_rfl) (fun _ _ _ h => h) (Or.inl ⟨by kernel_rfl, ?hym1b5⟩) (by assumption) ?restm1b5
                case hym1b5 => (intro w hSw; (try dsimp only at hSw); go_simp; (try with_reducible rfl))
                go_simp
                refine wpAnyH_done (by kernel_rfl) ?_ _
                refine NoPanic.normal ?_
                replace hr := hr'.later hW
                replace H3 := H3'.later hW
                replace x5 := x5.later hW
                replace hb := hb.trans (hW.mono hb.size)
                clear ky Y e1 e2 e3 e4 k5 l5 hW
                go_wp2
                go_roundw
                case rel => exact ⟨j + 1, by omega, by go_num, hr, H3, x5, hb⟩
                case measure => simp [intOf]; omega
            · obtain rfl : j = l.length := by omega
              go_wp2_with fail
              refine (AW.out _).mono ?_
              rintro e w9 ⟨rfl, b9⟩
              have B9 := hb.trans (b9.mono hb.size)
              go_wp2
              go_ret
              exact ⟨rfl, B9⟩
        · have hne : ((moveR l n0 n1).2 == 0) = false := beq_eq_false_iff_ne.2 hmo
          clear hmo
          have M1' := Lib.hid M1
          clear M1
          generalize moveR l n0 n1 = mo at *
          obtain ⟨mo1, mo2⟩ := mo
          dsimp only at hne
          have k4 := x4.cells
          have k5 := x5.cells
          have l4 := x4.lt
          have l5 := x5.lt
          go_wp2_with fail
          refine (M1'.out _ hr).mono ?_
          rintro e w6 ⟨A3, c3, rfl, _, _, _, b9⟩
          replace hr := hr.below b9 (Nat.le_refl _)
          replace x4 := x4.later b9
          replace x5 := x5.later b9
          replace hb := hb.trans (b9.mono hb.size)
          clear b9
          clear k4 k5 l4 l5
          go_wp2_with fail
          refine (AW.out _).mono ?_
          rintro e w9 ⟨rfl, b9⟩
          have B9 := hb.trans (b9.mono hb.size)
          go_wp2
          go_ret
          exact ⟨rfl, B9⟩
      · have hne : ((addA l x).2 == 0) = false := beq_eq_false_iff_ne.2 hao
        clear hao
        have P1' := Lib.hid P1
        clear P1
        generalize addA l x = ad at *
        obtain ⟨ad1, ad2⟩ := ad
        dsimp only at hne
        have k4 := x4.cells
        have k5 := x5.cells
        have l4 := x4.lt
        have l5 := x5.lt
        go_wp2_with fail
        refine (P1'.out _ hr).mono ?_
        rintro e w2 ⟨A1, c1, rfl, _, _, _, b9⟩
        replace hr := hr.below b9 (Nat.le_refl _)
        replace x4 := x4.later b9
        replace x5 := x5.later b9
        replace hb := hb.trans (b9.mono hb.size)
        clear b9
        clear k4 k5 l4 l5
        by_cases hmo : (moveR l n0 n1).2 = 0
        · obtain ⟨k, hkl, hn0, hmv, hch⟩ := moveR_ok OKL.out hmo
          rw [hmv] at M1
          have M1' := Lib.hid fun (w : World) (hr : RowC w A l) => (M1 w hr).mono fun _ _ h => pairC_of h rfl (moveA_len l k n1)
          have CM := fun (A : Option Addr) (c : Nat) (w : World) (hc : l.length ≤ c) (hr : RowC w A (moveA l k n1)) => acheck_any (A := A) (c := c) (w := w) (l := moveA l k n1) (by rw [moveA_len]; omega) (by rw [moveA_len]; exact hc) hr
          rw [moveA_len, hch] at CM
          replace CM := Lib.hid CM
          have MG : Hid (∀ (i : Nat) (hi : i < l.length) (hi' : i < (moveA l k n1).length), (moveA l k n1)[i] = if i = k then { l[i] with p := n1 } else l[i]) := fun i hi _ => moveA_get hi
          have HML := Lib.hid (moveA_len l k n1)
          have HN0 := Lib.hid hn0
          clear hn0
          clear M1 hmv hch hmo
          generalize moveA l k n1 = mv at *
          have k4 := x4.cells
          have k5 := x5.cells
          have l4 := x4.lt
          have l5 := x5.lt
          go_wp2_with fail
          refine (M1'.out _ hr).mono ?_
          rintro e w6 ⟨A3, c3, rfl, hc3, hm3, H3, b9⟩
          replace hr := hr.below b9 (Nat.le_refl _)
          replace x4 := x4.later b9
          replace x5 := x5.later b9
          replace hb := hb.trans (b9.mono hb.size)
          clear b9
          clear k4 k5 l4 l5
          go_wp2_with fail
          refine (CM.out _ _ _ hc3 H3).mono ?_
          rintro e w7 ⟨rfl, b9⟩
          replace hr := hr.below b9 (Nat.le_refl _)
          replace H3 := H3.below b9 (Nat.le_refl _)
          replace x5 := x5.later b9
          replace hb := hb.trans (b9.mono hb.size)
          clear b9
          clear x4
          go_wp2
          go_loopw [17] (fun i wr => ∃ j : Nat, j ≤ l.length ∧ i = .int .i64 j ∧ RowC wr A l ∧ RowC wr A3 mv ∧ Box wr (w.heap.size + 1) 61 #[.int .i64 n0, .int .i64 n1] ∧ Below w.heap.size w wr) (fun i _ => l.length - (intOf i).toNat)
          case atStart => exact ⟨0, by omega, rfl, hr, H3, x5, hb⟩
          case round =>
            clear hr H3 x5 hb
            obtain ⟨j, hj, rfl, hr, H3, x5, hb⟩ := hrel
            by_cases hjn : j < l.length
            · have hlm : j < mv.length := by rw [HML.out]; exact hjn
              have mg := MG.out j hjn hlm
              have H3' := H3
              have hr' := hr
              obtain ⟨g0, o0, rfl, hg0, hc0⟩ := hr.get (by omega)
              obtain ⟨g3, o3, rfl, hg3, hc3x⟩ := H3.get (by rw [HML.out]; omega)
              obtain ⟨a1, a2, a3, a4⟩ := hc0 j hjn
              obtain ⟨e1, e2, e3, e4⟩ := hc3x j hlm
              rw [mg] at e1 e2 e3 e4
              clear hc0 hc3x mg hlm
              have k5 := x5.cells
              have l5 := x5.lt
              by_cases hjk : j = k
              · simp only [if_pos hjk] at e1 e2 e3 e4
                generalize l[j] = q at *
                obtain ⟨q1, q2, q3, q4⟩ := q
                dsimp only at a1 a2 a3 a4 e1 e2 e3 e4
                have heq : ((j : Int) + 1 == n0) = true := by rw [HN0.out, hjk]; simp
                clear hjk
                have Y := Box.new wr 60 #[.int .i64 n1, .int .i64 q2, .bool q3, .bool q4]
                have ky := Y.cells
                have hW : Below wr.heap.size wr ((wr.alloc (.cells #[.int .i64 n1, .int .i64 q2, .bool q3, .bool q4] 60)).drew) := below_drewN ((Below.refl _ _).alloc (Nat.le_refl _) _) 1
                replace e1 := (hW.cell (p := ⟨g3, o3 + j * 4, none⟩) hg3).trans e1
                replace e2 := (hW.cell (p := ⟨g3, o3 + j * 4 + 1, none⟩) hg3).trans e2
                replace e3 := (hW.cell (p := ⟨g3, o3 + j * 4 + 2, none⟩) hg3).trans e3
                replace e4 := (hW.cell (p := ⟨g3, o3 + j * 4 + 3, none⟩) hg3).trans e4
                go_upto_region 22 with fail
                refine wp_region_noPanic ?_
                refine wp_region_held_drew (S := (fun w' => w'.cell? ⟨g3, o3 + j * 4, none⟩ = some (.int .i64 n1) ∧ w'.cell? ⟨g3, o3 + j * 4 + 1, none⟩ = some (.int .i64 q2) ∧ w'.cell? ⟨g3, o3 + j * 4 + 2, none⟩ = some (.bool q3) ∧ w'.cell? ⟨g3, o3 + j * 4 + 3, none⟩ = some (.bool q4) ∧ w'.cell? ⟨wr.heap.size, 0, none⟩ = some (.int .i64 n1) ∧ w'.cell? ⟨wr.heap.size, 1, none⟩ = some (.int .i64 q2) ∧ w'.cell? ⟨wr.heap.size, 2, none⟩ = some (.bool q3) ∧ w'.cell? ⟨wr.heap.size, 3, none⟩ = some (.bool q4))) (by kernel_rfl) ?_ (fun hHeld => ?_)
                · go_keep
                refine wpAnyH_take (i := 0) (v := ?vm2a0) rfl (by kernel_rfl) (by kernel_rfl) (by kernel_rfl) (fun _ _ _ h => h) (Or.inl ⟨by kernel_rfl, ?hym2a0⟩) (by assumption) ?restm2a0
                case hym2a0 => (intro w hSw; (try dsimp only at hSw); go_simp; (try with_reducible rfl))
                go_simp
                refine wpAnyH_take (i := 1) (v := ?vm2a1) rfl (by kernel_rfl) (by kernel_rfl) (by kernel_rfl) (fun _ _ _ h => h) (Or.inl ⟨by kernel_rfl, ?hym2a1⟩) (by assumption) ?restm2a1
                case hym2a1 => (intro w hSw; (try dsimp only at hSw); go_simp; (try with_reducible rfl))
                go_simp
                refine wpAnyH_take (i := 2) (v := ?vm2a2) rfl (by kernel_rfl) (by kernel_rfl) (by kernel_rfl) (fun _ _ _ h => h) (Or.inl ⟨by kernel_rfl, ?hym2a2⟩) (by assumption) ?restm2a2
                case hym2a2 => (intro w hSw; (try dsimp only at hSw); go_simp; (try with_reducible rfl))
                go_simp
                refine wpAnyH_take (i := 3) (v := ?vm2a3) rfl (by kernel_rfl) (by kernel_rfl) (by kernel_rfl) (fun _ _ _ h => h) (Or.inl ⟨by kernel_rfl, ?hym2a3⟩) (by assumption) ?restm2a3
                case hym2a3 => (intro w hSw; (try dsimp only at hSw); go_simp; (try with_reducible rfl))
                go_simp
                refine wpAnyH_take (i := 4) (v := ?vm2a4) rfl (by kernel_rfl) (by kernel_rfl) (by kernel_rfl) (fun _ _ _ h => h) (Or.inl ⟨by kernel_rfl, ?hym2a4⟩) (by assumption) ?restm2a4
                case hym2a4 => (intro w hSw; (try dsimp only at hSw); go_simp; (try with_reducible rfl))
                go_simp
                refine wpAnyH_take (i := 5) (v := ?vm2a5) rfl (by kernel_rfl) (by kernel_rfl) (by kernel_rfl) (fun _ _ _ h => h) (Or.inl ⟨by kernel_rfl, ?hym2a5⟩) (by assumption) ?restm2a5
                case hym2a5 => (intro w hSw; (try dsimp only at hSw); go_simp; (try with_reducible rfl))
                go_simp
                refine wpAnyH_done (by kernel_rfl) ?_ _
                refine NoPanic.normal ?_
                replace hr := hr'.later hW
                replace H3 := H3'.later hW
                replace x5 := x5.later hW
                replace hb := hb.trans (hW.mono hb.size)
                clear ky Y e1 e2 e3 e4 k5 l5 hW
                go_wp2
                go_roundw
                case rel => exact ⟨j + 1, by omega, by go_num, hr, H3, x5, hb⟩
                case measure => simp [intOf]; omega
              · simp only [if_neg hjk] at e1 e2 e3 e4
                generalize l[j] = q at *
                obtain ⟨q1, q2, q3, q4⟩ := q
                dsimp only at a1 a2 a3 a4 e1 e2 e3 e4
                have heq : ((j : Int) + 1 == n0) = false := beq_eq_false_iff_ne.2 (by rw [HN0.out]; omega)
                clear hjk
                have Y := Box.new wr 60 #[.int .i64 q1, .int .i64 q2, .bool q3, .bool q4]
                have ky := Y.cells
                have hW : Below wr.heap.size wr ((wr.alloc (.cells #[.int .i64 q1, .int .i64 q2, .bool q3, .bool q4] 60)).drew) := below_drewN ((Below.refl _ _).alloc (Nat.le_refl _) _) 1
                replace e1 := (hW.cell (p := ⟨g3, o3 + j * 4, none⟩) hg3).trans e1
                replace e2 := (hW.cell (p := ⟨g3, o3 + j * 4 + 1, none⟩) hg3).trans e2
                replace e3 := (hW.cell (p := ⟨g3, o3 + j * 4 + 2, none⟩) hg3).trans e3
                replace e4 := (hW.cell (p := ⟨g3, o3 + j * 4 + 3, none⟩) hg3).trans e4
                go_upto_region 22 with fail
                refine wp_region_noPanic ?_
                refine wp_region_held_drew (S := (fun w' => w'.cell? ⟨g3, o3 + j * 4, none⟩ = some (.int .i64 q1) ∧ w'.cell? ⟨g3, o3 + j * 4 + 1, none⟩ = some (.int .i64 q2) ∧ w'.cell? ⟨g3, o3 + j * 4 + 2, none⟩ = some (.bool q3) ∧ w'.cell? ⟨g3, o3 + j * 4 + 3, none⟩ = some (.bool q4) ∧ w'.cell? ⟨wr.heap.size, 0, none⟩ = some (.int .i64 q1) ∧ w'.cell? ⟨wr.heap.size, 1, none⟩ = some (.int .i64 q2) ∧ w'.cell? ⟨wr.heap.size, 2, none⟩ = some (.bool q3) ∧ w'.cell? ⟨wr.heap.size, 3, none⟩ = some (.bool q4))) (by kernel_rfl) ?_ (fun hHeld => ?_)
                · go_keep
                refine wpAnyH_take (i := 0) (v := ?vm2b0) rfl (by kernel_rfl) (by kernel_rfl) (by kernel_rfl) (fun _ _ _ h => h) (Or.inl ⟨by kernel_rfl, ?hym2b0⟩) (by assumption) ?restm2b0
                case hym2b0 => (intro w hSw; (try dsimp only at hSw); go_simp; (try with_reducible rfl))
                go_simp
                refine wpAnyH_take (i := 1) (v := ?vm2b1) rfl (by kernel_rfl) (by kernel_rfl) (by kernel_rfl) (fun _ _ _ h => h) (Or.inl ⟨by kernel_rfl, ?hym2b1⟩) (by assumption) ?restm2b1
                case hym2b1 => (intro w hSw; (try dsimp only at hSw); go_simp; (try with_reducible rfl))
                go_simp
                refine wpAnyH_take (i := 2) (v := ?vm2b2) rfl (by kernel_rfl) (by kernel_rfl) (by kernel_rfl) (fun _ _ _ h => h) (Or.inl ⟨by kernel_rfl, ?hym2b2⟩) (by assumption) ?restm2b2
                case hym2b2 => (intro w hSw; (try dsimp only at hSw); go_simp; (try with_reducible rfl))
                go_simp
                refine wpAnyH_take (i := 3) (v := ?vm2b3) rfl (by kernel_rfl) (by kernel_rfl) (by kernel_rfl) (fun _ _ _ h => h) (Or.inl ⟨by kernel_rfl, ?hym2b3⟩) (by assumption) ?restm2b3
                case hym2b3 => (intro w hSw; (try dsimp only at hSw); go_simp; (try with_reducible rfl))
                go_simp
                refine wpAnyH_take (i := 4) (v := ?vm2b4) rfl (by kernel_rfl) (by kernel_rfl) (by kernel_rfl) (fun _ _ _ h => h) (Or.inl ⟨by kernel_rfl, ?hym2b4⟩) (by assumption) ?restm2b4
                case hym2b4 => (intro w hSw; (try dsimp only at hSw); go_simp; (try with_reducible rfl))
                go_simp
                refine wpAnyH_take (i := 5) (v := ?vm2b5) rfl (by kernel_rfl) (by kernel_rfl) (by kernel_rfl) (fun _ _ _ h => h) (Or.inl ⟨by kernel_rfl, ?hym2b5⟩) (by assumption) ?restm2b5
                case hym2b5 => (intro w hSw; (try dsimp only at hSw); go_simp; (try with_reducible rfl))
                go_simp
                refine wpAnyH_done (by kernel_rfl) ?_ _
                refine NoPanic.normal ?_
                replace hr := hr'.later hW
                replace H3 := H3'.later hW
                replace x5 := x5.later hW
                replace hb := hb.trans (hW.mono hb.size)
                clear ky Y e1 e2 e3 e4 k5 l5 hW
                go_wp2
                go_roundw
                case rel => exact ⟨j + 1, by omega, by go_num, hr, H3, x5, hb⟩
                case measure => simp [intOf]; omega
            · obtain rfl : j = l.length := by omega
              go_wp2_with fail
              refine (AW.out _).mono ?_
              rintro e w9 ⟨rfl, b9⟩
              have B9 := hb.trans (b9.mono hb.size)
              go_wp2
              go_ret
              exact ⟨rfl, B9⟩
        · have hne : ((moveR l n0 n1).2 == 0) = false := beq_eq_false_iff_ne.2 hmo
          clear hmo
          have M1' := Lib.hid M1
          clear M1
          generalize moveR l n0 n1 = mo at *
          obtain ⟨mo1, mo2⟩ := mo
          dsimp only at hne
          have k4 := x4.cells
          have k5 := x5.cells
          have l4 := x4.lt
          have l5 := x5.lt
          go_wp2_with fail
          refine (M1'.out _ hr).mono ?_
          rintro e w6 ⟨A3, c3, rfl, _, _, _, b9⟩
          replace hr := hr.below b9 (Nat.le_refl _)
          replace x4 := x4.later b9
          replace x5 := x5.later b9
          replace hb := hb.trans (b9.mono hb.size)
          clear b9
          clear k4 k5 l4 l5
          go_wp2_with fail
          refine (AW.out _).mono ?_
          rintro e w9 ⟨rfl, b9⟩
          have B9 := hb.trans (b9.mono hb.size)
          go_wp2
          go_ret
          exact ⟨rfl, B9⟩
    · have hne : ((chkA l).2 != 0) = true := by simpa using hck
      replace CK := Lib.hid CK
      clear hck
      generalize chkA l = ck at *
      obtain ⟨k1, k2⟩ := ck
      dsimp only at hne
      go_enter Try.func10, Try.ntmps10
      have hb : Below w.heap.size w ((w.alloc (.cells #[.int .i64 x.p, .int .i64 x.k, .bool x.s, .bool x.q] 60)).alloc (.cells #[.int .i64 n0, .int .i64 n1] 61)) := ((Below.refl _ _).alloc (Nat.le_refl _) _).alloc (by simp) _
      have x4 : Box ((w.alloc (.cells #[.int .i64 x.p, .int .i64 x.k, .bool x.s, .bool x.q] 60)).alloc (.cells #[.int .i64 n0, .int .i64 n1] 61)) w.heap.size 60 #[.int .i64 x.p, .int .i64 x.k, .bool x.s, .bool x.q] := (Box.new w 60 #[.int .i64 x.p, .int .i64 x.k, .bool x.s, .bool x.q]).alloc (.cells #[.int .i64 n0, .int .i64 n1] 61)
      have x5 : Box ((w.alloc (.cells #[.int .i64 x.p, .int .i64 x.k, .bool x.s, .bool x.q] 60)).alloc (.cells #[.int .i64 n0, .int .i64 n1] 61)) (w.heap.size + 1) 61 #[.int .i64 n0, .int .i64 n1] := Box.new' (by simp)
      replace hr := hr.later hb
      go_wp2_with fail
      refine (CK.out _ hr).mono ?_
      rintro e w1 ⟨rfl, b9⟩
      replace hr := hr.below b9 (Nat.le_refl _)
      replace x4 := x4.later b9
      replace x5 := x5.later b9
      replace hb := hb.trans (b9.mono hb.size)
      clear b9
      clear x4 x5 hr
      go_wp2_with fail
      refine (AW.out _).mono ?_
      rintro e w9 ⟨rfl, b9⟩
      have B9 := hb.trans (b9.mono hb.size)
      go_wp2
      go_ret
      exact ⟨rfl, B9⟩
end
end Go.Proofs.Ythkaohjgldoipaa
