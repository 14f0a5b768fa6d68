/-
  account: Clone of accounts, Add, Move; the document's.
-/
import Derived.Test.YthkaohjgldoipaaAc9
import Derived.Lib.SliceRun
namespace Go.Proofs.Ythkaohjgldoipaa
open Go.RowKit

/-- append(s, xs...): s a row of the call's own, xs whatever slice of elements of so many cells. -/
theorem wp_append_rowN {P : Program} {o : Oper} {a : Act} {K : Act → World → Prop} {Q : Exit → Act → World → Prop} {w : World} (s x : Operand) (t : TypeId)
    (ho : o.op = .call { callee := .builtin .append, args := #[s, x], argTypes := #[t, t] })
    (base : Nat) (e : TypeId) (i : TypeInfo) (z : Value) (size bytes : Nat) (ht : P.underlying t = some (.slice e)) (hi : P.info? e = some i) (hz : i.zero = some z)
    (hsize : i.size = size) (hby : i.bytes = bytes) (hzs : z.cells.size = size) (hsz : 0 < size)
    (v : Value) (n : Nat) (xs : List Value) (hs : a.eval s = v) (hown : w.ownsRow base e size v n xs)
    (A : Option Addr) (m c : Nat) (news : List Value) (hx : a.eval x = .slice A m c) (hl : news.length = m * size) (hr : RowAt w A news) (h1 : ∀ u ∈ news, u.oneCell' = true)
    (h63 : n + m ≤ maxLen) (hbytes : (n + m) * bytes ≤ 140737488355328) (hbase : base ≤ w.heap.size)
    (h : ∀ A' c' w', w'.ownsRow base e size (.slice A' (n + m) c') (n + m) (xs ++ news) → w.grownBy w' v.ownBlock → K (a.put o.dst (.slice A' (n + m) c')) w') : o.wp P a w K Q := by
  have fin : ∀ v' w', w'.ownsRow base e size v' (n + m) (xs ++ news) → w.grownBy w' v.ownBlock → K (a.put o.dst v') w' := by
    intro v' w' hown' hg
    obtain ⟨A', c', rfl, hA⟩ := own_form hown'
    exact h A' c' w' hown' hg
  rcases A with _ | ad
  · have hm : m = 0 := by
      rcases Nat.eq_zero_or_pos m with h0 | h0
      · exact h0
      · obtain ⟨b, off, h, _⟩ := hr (by rw [hl]; exact Nat.mul_pos h0 hsz)
        cases h
    subst hm
    have hn : news = [] := List.eq_nil_of_length_eq_zero (by rw [hl, Nat.zero_mul])
    subst hn
    have hrun : (Builtin.append_ #[t, t] o.type #[v, .slice none 0 c]).run P w = .ok v w := by
      rcases hown.2 with ⟨rfl, rfl⟩ | ⟨g, cap, cur, rfl, _, _, hnc, _⟩
      · simp [Builtin.append_, run_underlying ht, sizeOf, typeInfo, hi, Builtin.lenOf, Builtin.firstCells]
      · simp [Builtin.append_, run_underlying ht, sizeOf, typeInfo, hi, Builtin.lenOf, Builtin.firstCells, hnc, storeCells]
    unfold Oper.wp execOp
    simp only [ho, resolve, invoke, builtin, Sem.run_bind, Sem.run_pure, Result.andThen_ok, List.map_toArray, List.map_cons, List.map_nil, hs, hx, hrun]
    exact fin v w (by simpa using hown) (World.grownBy.refl w _)
  · refine wp_append_own w s x t ho base e i z size bytes ht hi hz hsize hby hzs hsz v n xs hs hown ad m c news hx hl ?_ h1 h63 hbytes hbase fun v' w' a b _ => fin v' w' a b
    intro j u hj
    have hjl : j < news.length := (List.getElem?_eq_some_iff.1 hj).1
    obtain ⟨b, off, he, _, hc⟩ := hr (by omega)
    injection he with he
    subst he
    rw [addr_add]
    exact hc j u hj
theorem wpList_append_rowN {P : Program} {ops : Array Oper} {rest : List Oper} {o : Oper} {a : Act} {Q : Exit → Act → World → Prop} {w : World} (hw : Region.wanted o (yielded ops a.tmps) = true) (s x : Operand) (t : TypeId)
    (ho : o.op = .call { callee := .builtin .append, args := #[s, x], argTypes := #[t, t] })
    (base : Nat) (e : TypeId) (i : TypeInfo) (z : Value) (size bytes : Nat) (ht : P.underlying t = some (.slice e)) (hi : P.info? e = some i) (hz : i.zero = some z)
    (hsize : i.size = size) (hby : i.bytes = bytes) (hzs : z.cells.size = size) (hsz : 0 < size)
    (v : Value) (n : Nat) (xs : List Value) (hs : a.eval s = v) (hown : w.ownsRow base e size v n xs)
    (A : Option Addr) (m c : Nat) (news : List Value) (hx : a.eval x = .slice A m c) (hl : news.length = m * size) (hr : RowAt w A news) (h1 : ∀ u ∈ news, u.oneCell' = true)
    (h63 : n + m ≤ maxLen) (hbytes : (n + m) * bytes ≤ 140737488355328) (hbase : base ≤ w.heap.size)
    (h : ∀ A' c' w', w'.ownsRow base e size (.slice A' (n + m) c') (n + m) (xs ++ news) → w.grownBy w' v.ownBlock → wpList P ops Q rest (a.put o.dst (.slice A' (n + m) c')) w') : wpList P ops Q (o :: rest) a w :=
  wpList_wanted hw (wp_append_rowN s x t ho base e i z size bytes ht hi hz hsize hby hzs hsz v n xs hs hown A m c news hx hl hr h1 h63 hbytes hbase h)
theorem step_append_rowN {P : Program} {ops : Array Oper} {o : Oper} {a : Act} {K : Act → World → Prop} {Q : Exit → Act → World → Prop} {E : Prop} {w : World} (hgd : o.guard = none) (s x : Operand) (t : TypeId)
    (ho : o.op = .call { callee := .builtin .append, args := #[s, x], argTypes := #[t, t] })
    (base : Nat) (e : TypeId) (i : TypeInfo) (z : Value) (size bytes : Nat) (ht : P.underlying t = some (.slice e)) (hi : P.info? e = some i) (hz : i.zero = some z)
    (hsize : i.size = size) (hby : i.bytes = bytes) (hzs : z.cells.size = size) (hsz : 0 < size)
    (v : Value) (n : Nat) (xs : List Value) (hs : a.eval s = v) (hown : w.ownsRow base e size v n xs)
    (A : Option Addr) (m c : Nat) (news : List Value) (hx : a.eval x = .slice A m c) (hl : news.length = m * size) (hr : RowAt w A news) (h1 : ∀ u ∈ news, u.oneCell' = true)
    (h63 : n + m ≤ maxLen) (hbytes : (n + m) * bytes ≤ 140737488355328) (hbase : base ≤ w.heap.size)
    (h : ∀ A' c' w', w'.ownsRow base e size (.slice A' (n + m) c') (n + m) (xs ++ news) → w.grownBy w' v.ownBlock → K (a.put o.dst (.slice A' (n + m) c')) w') :
    if Region.wanted o (yielded ops a.tmps) = true then Oper.wp P o a w K Q else E := by
  have hw : Region.wanted o (yielded ops a.tmps) = true := by simp [Region.wanted, hgd]
  rw [if_pos hw]
  exact wp_append_rowN s x t ho base e i z size bytes ht hi hz hsize hby hzs hsz v n xs hs hown A m c news hx hl hr h1 h63 hbytes hbase h
theorem RowC.ofNew {l : List Acc} {w : World} {base : Nat} {A : Option Addr} {c : Nat} (h : w.ownsRow base 60 4 (.slice A l.length c) l.length (avs l)) : RowC w A l := RowC.of_own h
theorem row_box {w : World} {g : Nat} {x : Acc} (h : Box w g 60 #[.int .i64 x.p, .int .i64 x.k, .bool x.s, .bool x.q]) : RowAt w (some ⟨g, 0, none⟩) (av x) := by
  refine RowAt.of_cells fun j u hj => ?_
  rw [addr_add, Nat.zero_add]
  exact (h.cells j).trans (by rw [← hj]; exact List.getElem?_toArray ..)
theorem av_one (x : Acc) : ∀ u ∈ av x, u.oneCell' = true := by
  have := avs_one [x]
  rw [avs_cons, avs_nil, List.append_nil] at this
  exact this
theorem avs_snoc (l : List Acc) (x : Acc) : avs (l ++ [x]) = avs l ++ av x := by rw [avs_append, avs_cons, avs_nil, List.append_nil]

/-- A row of accounts of the call's own, as a clone gives it. -/
def NewC (l : List Acc) (w : World) (e : Ending) (w' : World) : Prop :=
  ∃ A c, e = .returned (.slice A l.length c) ∧ w'.ownsRow w.heap.size 60 4 (.slice A l.length c) l.length (avs l) ∧ Below w.heap.size w w'
section
variable {A : Option Addr} {c : Nat} {l : List Acc} {w : World}
set_option maxHeartbeats 2000000 in
theorem aclone_any (hm : l.length ≤ 1000000) (hr : RowC w A l) : Calls Try.prog 74 #[.slice A l.length c] w (NewC l w) := by
  obtain ⟨i0, hi, hz0, hz1, hz2⟩ := info_parts Try.infoAcc
  rcases A with _ | a
  · obtain rfl : l = [] := by
      rcases Nat.eq_zero_or_pos l.length with h | h
      · exact List.eq_nil_of_length_eq_zero h
      · obtain ⟨b, off, h, _⟩ := hr.get h
        cases h
    have hE := fun (w : World) (n c : Nat) => Lib.run_eql_slice_nil (P := Try.prog) w 50 60 none n c 0 0 Try.underlying50
    rw [Option.isNone_none] at hE
    go_enter Try.func74, Try.ntmps74
    go_wp2
    go_ret
    exact ⟨none, 0, rfl, World.ownsRow_nil _ _ _ _, Below.refl _ _⟩
  · have hE := fun (w : World) (n c : Nat) => Lib.run_eql_slice_nil (P := Try.prog) w 50 60 (some a) n c 0 0 Try.underlying50
    rw [Option.isNone_some] at hE
    go_enter Try.func74, Try.ntmps74
    go_wp2_with (at_builtin; refine wpList_append_rowN rfl _ _ 50 rfl w.heap.size 60 i0 (.agg #[.int .i64 0, .int .i64 0, .bool false, .bool false]) 4 24 Try.underlying50 hi hz0 hz1 hz2 rfl (by decide) _ 0 [] rfl (own_empty (Nat.le_refl _) rfl) (some a) l.length c (avs l) rfl (by rw [avs_len, Nat.mul_comm]) (hr.alloc _) (avs_one l) (by unfold maxLen; omega) (by omega) (by simp) ?_)
    intro A7 c7 w7 hown7 hr7
    have B7 : Below w.heap.size w w7 := ((Below.refl _ _).alloc (Nat.le_refl _) _).grown hr7 (by simp) (by simp [Value.ownBlock])
    clear hr7
    go_wp2
    go_ret
    exact ⟨A7, c7, rfl, hown7, B7⟩

/-- What Add tells. -/
def addA (l : List Acc) (x : Acc) : List Acc × Int := if 60 ≤ l.length then ([], 3) else if mayI x l.length ≠ 0 then ([], mayI x l.length) else (l ++ [x], 0)
/-- A row of the call's own, and a number. -/
def PairC (p : List Acc × Int) (w : World) (e : Ending) (w' : World) : Prop :=
  ∃ A c, e = .returned (.tuple #[.slice A p.1.length c, .int .i64 p.2]) ∧ p.1.length ≤ c ∧ c ≤ maxLen ∧ RowC w' A p.1 ∧ Below w.heap.size w w'
theorem PairC.none {k : Int} {w w' : World} (h : Below w.heap.size w w') : PairC ([], k) w (.returned (.tuple #[.slice Option.none 0 0, .int .i64 k])) w' := ⟨Option.none, 0, rfl, Nat.zero_le _, Nat.zero_le _, RowAt.nil _ _, h⟩

set_option maxRecDepth 100000 in
set_option maxHeartbeats 4000000 in
theorem aadd_any (x : Acc) (hm : l.length ≤ 1000000) (hr : RowC w A l) : Calls Try.prog 40 #[.slice A l.length c, .agg #[.int .i64 x.p, .int .i64 x.k, .bool x.s, .bool x.q]] w (PairC (addA l x) w) := by
  obtain ⟨i0, hi, hz0, hz1, hz2⟩ := info_parts Try.infoAcc
  by_cases h : 60 ≤ l.length
  · rw [show addA l x = ([], 3) from if_pos h]
    go_enter Try.func40, Try.ntmps40
    go_wp2
    go_ret2
    exact PairC.none ((Below.refl _ _).alloc (Nat.le_refl _) _)
  · have PL := fun w => place_any x.p l.length w
    have KI := fun w => kind_any x w
    have hmy : mayI x l.length = if placeI x.p l.length ≠ 0 then placeI x.p l.length else if badK x = true then 25 else 0 := rfl
    by_cases hp : placeI x.p l.length = 0
    · rw [hp] at PL
      rw [hp, if_neg (by decide)] at hmy
      replace PL := Lib.hid PL
      by_cases hk : (if badK x = true then (25 : Int) else 0) = 0
      · rw [hk] at hmy KI
        rw [show addA l x = (l ++ [x], 0) by unfold addA; rw [if_neg h, if_neg (by simp [hmy])]]
        replace KI := Lib.hid KI
        have C := Lib.hid fun w (h : RowC w A l) => aclone_any (c := c) hm h
        have r0 := hr.alloc (.cells #[.int .i64 x.p, .int .i64 x.k, .bool x.s, .bool x.q] 60)
        clear hk hmy hp hr
        go_enter Try.func40, Try.ntmps40
        go_wp2_with fail
        refine (PL.out _).mono ?_
        rintro e _ ⟨rfl, rfl⟩
        go_wp2_with fail
        refine (KI.out _).mono ?_
        rintro e' W ⟨rfl, b0⟩
        have x3 := ((Box.new w 60 #[.int .i64 x.p, .int .i64 x.k, .bool x.s, .bool x.q]).later b0).drew
        have x3lt : w.heap.size < W.heap.size := x3.lt
        have k3 := x3.cells
        have r1 : RowC W.drew A l := (r0.below b0 (Nat.le_refl _)).drew
        have B1 := below_up b0
        have cb : Below W.heap.size W W.drew := below_drewN (Below.refl _ _) 1
        clear b0 r0 PL KI
        go_upto_region 9 with fail
        refine wp_region_noPanic ?_
        refine wp_region_held_drew (S := (fun w' => w'.cell? ⟨w.heap.size, 0, none⟩ = some (.int .i64 x.p) ∧ w'.cell? ⟨w.heap.size, 1, none⟩ = some (.int .i64 x.k) ∧ w'.cell? ⟨w.heap.size, 2, none⟩ = some (.bool x.s) ∧ w'.cell? ⟨w.heap.size, 3, none⟩ = some (.bool x.q))) (by kernel_rfl) ?_ (fun hHeld => ?_)
        · go_keep
        refine wpAnyH_take (i := 0) (v := ?vt1) rfl (by kernel_rfl) (by kernel_rfl) (by kernel_rfl) (fun _ _ _ h => h) (Or.inl ⟨by kernel_rfl, ?hyt1⟩) (by assumption) ?restt1
        case hyt1 => (intro w hSw; (try dsimp only at hSw); go_simp; (try with_reducible rfl))
        go_simp
        refine wpAnyH_take (i := 2) (v := ?vt2) rfl (by kernel_rfl) (by kernel_rfl) (by kernel_rfl) (fun _ _ _ h => h) (Or.inl ⟨by kernel_rfl, ?hyt2⟩) (by assumption) ?restt2
        case hyt2 => (intro w hSw; (try dsimp only at hSw); go_simp; (try with_reducible rfl))
        go_simp
        refine wpAnyH_ready (rs := [1, 3]) (by kernel_rfl) (by simp) ?_
        refine AllReadyH.cons rfl (fun K hK => ?_) (AllReadyH.cons rfl (fun K hK => ?_) AllReadyH.nil)
        · rw [if_pos (by kernel_rfl)]
          go_simp
          refine (C.out _ r1).mono ?_
          rintro e w1 ⟨A1, c1, rfl, hown, b1⟩
          have x3 := x3.later b1
          have k3 := x3.cells
          have hown := own_base (base' := W.heap.size) hown (by first | exact Nat.le_refl _ | exact cb.size)
          have cb := cb.trans (b1.mono cb.size)
          go_wp2_with fail
          refine hK.out _ _ (by go_keep) (fun hHeld => ?_)
          clear hK K
          go_simp
          refine wpAnyH_ready (rs := [3]) (by kernel_rfl) (by simp) ?_
          refine AllReadyH.cons rfl (fun K hK => ?_) AllReadyH.nil
          rw [if_pos (by kernel_rfl)]
          go_simp
          have z3 := Box.new w1 60 #[.int .i64 x.p, .int .i64 x.k, .bool x.s, .bool x.q]
          have x3 := x3.alloc (.cells #[.int .i64 x.p, .int .i64 x.k, .bool x.s, .bool x.q] 60)
          have k3 := x3.cells
          have hown := hown.alloc (.cells #[.int .i64 x.p, .int .i64 x.k, .bool x.s, .bool x.q] 60)
          have cb := cb.alloc cb.size (.cells #[.int .i64 x.p, .int .i64 x.k, .bool x.s, .bool x.q] 60)
          clear b1
          refine hK.out _ _ (by go_keep) (fun hHeld => ?_)
          clear hK K
          go_simp
          refine wpAnyH_ready (rs := [4]) (by kernel_rfl) (by simp) ?_
          refine AllReadyH.cons rfl (fun K hK => ?_) AllReadyH.nil
          refine step_append_rowN rfl _ _ 50 rfl W.heap.size 60 i0 (.agg #[.int .i64 0, .int .i64 0, .bool false, .bool false]) 4 24 Try.underlying50 hi hz0 hz1 hz2 rfl (by decide) _ l.length (avs l) rfl hown (some ⟨w1.heap.size, 0, none⟩) 1 1 (av x) rfl rfl (row_box z3) (av_one x) (by unfold maxLen; omega) (by omega) cb.size ?_
          intro A9 c9 w9 hown9 hgr9
          have x3 := x3.grown hgr9 (fun he => by have := (hown.lt _ he.symm).1; have := x3lt; omega)
          have k3 := x3.cells
          have cb := cb.grown hgr9 cb.size (fun k hk => (hown.lt k hk).1)
          clear hgr9 hown z3
          refine hK.out _ _ (by go_keep) (fun hHeld => ?_)
          clear hK K
          go_simp
          refine wpAnyH_ready (rs := [5]) (by kernel_rfl) (by simp) ?_
          refine AllReadyH.cons rfl (fun K hK => ?_) AllReadyH.nil
          rw [if_pos (by kernel_rfl)]
          go_simp
          refine hK.out _ _ hHeld (fun hHeld => ?_)
          clear hK K
          go_simp
          refine wpAnyH_ready (rs := [6]) (by kernel_rfl) (by simp) ?_
          refine AllReadyH.cons rfl (fun K hK => ?_) AllReadyH.nil
          rw [if_pos (by kernel_rfl)]
          go_simp
          refine hK.out _ _ hHeld (fun hHeld => ?_)
          clear hK K
          go_simp
          refine wpAnyH_done (by kernel_rfl) ?_ _
          refine NoPanic.normal ?_
          clear k3 x3
          rw [← avs_snoc] at hown9
          have hcap := own_cap hown9
          have hlen : (l ++ [x]).length = l.length + 1 := by simp
          have HRow := RowC.of_own hown9
          have BB := B1.trans (cb.mono B1.size)
          clear hown9 cb
          go_wp2
          go_ret2
          exact ⟨A9, c9, by rw [hlen]; rfl, by rw [hlen]; exact hcap.1, hcap.2, HRow, BB⟩
        · rw [if_pos (by kernel_rfl)]
          go_simp
          have z3 := Box.new W.drew 60 #[.int .i64 x.p, .int .i64 x.k, .bool x.s, .bool x.q]
          have x3 := x3.alloc (.cells #[.int .i64 x.p, .int .i64 x.k, .bool x.s, .bool x.q] 60)
          have k3 : ∀ i, (W.alloc (.cells #[.int .i64 x.p, .int .i64 x.k, .bool x.s, .bool x.q] 60)).cell? ⟨w.heap.size, i, none⟩ = (#[.int .i64 x.p, .int .i64 x.k, .bool x.s, .bool x.q] : Array Value)[i]? := x3.cells
          have cb := cb.alloc cb.size (.cells #[.int .i64 x.p, .int .i64 x.k, .bool x.s, .bool x.q] 60)
          refine hK.out _ _ (by go_keep) (fun hHeld => ?_)
          clear hK K
          go_simp
          refine wpAnyH_ready (rs := [1]) (by kernel_rfl) (by simp) ?_
          refine AllReadyH.cons rfl (fun K hK => ?_) AllReadyH.nil
          rw [if_pos (by kernel_rfl)]
          go_simp
          refine (C.out _ (r1.alloc _)).mono ?_
          rintro e w1 ⟨A1, c1, rfl, hown, b1⟩
          have x3 := x3.later b1
          have k3 := x3.cells
          have hown := own_base (base' := W.heap.size) hown (by first | exact Nat.le_refl _ | exact cb.size)
          have cb := cb.trans (b1.mono cb.size)
          have z3 := z3.later b1
          clear b1
          go_wp2_with fail
          refine hK.out _ _ (by go_keep) (fun hHeld => ?_)
          clear hK K
          go_simp
          refine wpAnyH_ready (rs := [4]) (by kernel_rfl) (by simp) ?_
          refine AllReadyH.cons rfl (fun K hK => ?_) AllReadyH.nil
          refine step_append_rowN rfl _ _ 50 rfl W.heap.size 60 i0 (.agg #[.int .i64 0, .int .i64 0, .bool false, .bool false]) 4 24 Try.underlying50 hi hz0 hz1 hz2 rfl (by decide) _ l.length (avs l) rfl hown (some ⟨W.heap.size, 0, none⟩) 1 1 (av x) rfl rfl (row_box z3) (av_one x) (by unfold maxLen; omega) (by omega) cb.size ?_
          intro A9 c9 w9 hown9 hgr9
          have x3 := x3.grown hgr9 (fun he => by have := (hown.lt _ he.symm).1; have := x3lt; omega)
          have k3 := x3.cells
          have cb := cb.grown hgr9 cb.size (fun k hk => (hown.lt k hk).1)
          clear hgr9 hown z3
          refine hK.out _ _ (by go_keep) (fun hHeld => ?_)
          clear hK K
          go_simp
          refine wpAnyH_ready (rs := [5]) (by kernel_rfl) (by simp) ?_
          refine AllReadyH.cons rfl (fun K hK => ?_) AllReadyH.nil
          rw [if_pos (by kernel_rfl)]
          go_simp
          refine hK.out _ _ hHeld (fun hHeld => ?_)
          clear hK K
          go_simp
          refine wpAnyH_ready (rs := [6]) (by kernel_rfl) (by simp) ?_
          refine AllReadyH.cons rfl (fun K hK => ?_) AllReadyH.nil
          rw [if_pos (by kernel_rfl)]
          go_simp
          refine hK.out _ _ hHeld (fun hHeld => ?_)
          clear hK K
          go_simp
          refine wpAnyH_done (by kernel_rfl) ?_ _
          refine NoPanic.normal ?_
          clear k3 x3
          rw [← avs_snoc] at hown9
          have hcap := own_cap hown9
          have hlen : (l ++ [x]).length = l.length + 1 := by simp
          have HRow := RowC.of_own hown9
          have BB := B1.trans (cb.mono B1.size)
          clear hown9 cb
          go_wp2
          go_ret2
          exact ⟨A9, c9, by rw [hlen]; rfl, by rw [hlen]; exact hcap.1, hcap.2, HRow, BB⟩
      · have hb : ((if badK x = true then (25 : Int) else 0) != 0) = true := by simpa using hk
        rw [show addA l x = ([], mayI x l.length) by unfold addA; rw [if_neg h, if_pos (by rw [hmy]; exact hk)], hmy]
        clear hk hmy hp hr
        generalize (if badK x = true then (25 : Int) else 0) = ke at *
        replace KI := Lib.hid KI
        go_enter Try.func40, Try.ntmps40
        go_wp2_with fail
        refine (PL.out _).mono ?_
        rintro e _ ⟨rfl, rfl⟩
        go_wp2_with fail
        refine (KI.out _).mono ?_
        rintro e' W ⟨rfl, b0⟩
        go_wp2
        go_ret2
        exact PairC.none (below_up b0)
    · have hb : (placeI x.p l.length != 0) = true := by simpa using hp
      rw [if_pos hp] at hmy
      rw [show addA l x = ([], mayI x l.length) by unfold addA; rw [if_neg h, if_pos (by rw [hmy]; exact hp)], hmy]
      clear hmy hp hr KI
      generalize placeI x.p l.length = pe at *
      replace PL := Lib.hid PL
      go_enter Try.func40, Try.ntmps40
      go_wp2_with fail
      refine (PL.out _).mono ?_
      rintro e _ ⟨rfl, rfl⟩
      go_wp2
      go_ret2
      exact PairC.none ((Below.refl _ _).alloc (Nat.le_refl _) _)

set_option maxRecDepth 100000 in
set_option maxHeartbeats 4000000 in
theorem radd_any (x : Acc) (hm : l.length ≤ 1000000) (hr : RowC w A l) : Calls Try.prog 41 #[.slice A l.length c, .agg #[.int .i64 x.p, .int .i64 x.k, .bool x.s, .bool x.q]] w (PairC (addA l x) w) := by
  obtain ⟨i0, hi, hz0, hz1, hz2⟩ := info_parts Try.infoAcc
  by_cases h : 60 ≤ l.length
  · rw [show addA l x = ([], 3) from if_pos h]
    go_enter Try.func41, Try.ntmps41
    go_wp2
    go_ret2
    exact PairC.none ((Below.refl _ _).alloc (Nat.le_refl _) _)
  · have MY := fun w => rmay_any x l.length w
    by_cases hp : mayI x l.length = 0
    · rw [hp] at MY
      rw [show addA l x = (l ++ [x], 0) by unfold addA; rw [if_neg h, if_neg (by simp [hp])]]
      replace MY := Lib.hid MY
      have r0 := hr.alloc (.cells #[.int .i64 x.p, .int .i64 x.k, .bool x.s, .bool x.q] 60)
      clear hp hr
      go_enter Try.func41, Try.ntmps41
      go_wp2_with fail
      refine (MY.out _).mono ?_
      rintro e' W ⟨rfl, b0⟩
      have x3 := ((Box.new w 60 #[.int .i64 x.p, .int .i64 x.k, .bool x.s, .bool x.q]).later b0).drew
      have x3lt : w.heap.size < W.heap.size := x3.lt
      have k3 := x3.cells
      have r1 : RowC W.drew A l := (r0.below b0 (Nat.le_refl _)).drew
      have B1 := below_up b0
      have cb : Below W.heap.size W W.drew := below_drewN (Below.refl _ _) 1
      clear b0 r0 MY
      go_upto_region 6 with fail
      refine wp_region_noPanic ?_
      refine wp_region_held_drew (S := (fun w' => w'.cell? ⟨w.heap.size, 0, none⟩ = some (.int .i64 x.p) ∧ w'.cell? ⟨w.heap.size, 1, none⟩ = some (.int .i64 x.k) ∧ w'.cell? ⟨w.heap.size, 2, none⟩ = some (.bool x.s) ∧ w'.cell? ⟨w.heap.size, 3, none⟩ = some (.bool x.q))) (by kernel_rfl) ?_ (fun hHeld => ?_)
      · go_keep
      refine wpAnyH_take (i := 1) (v := ?vr1) rfl (by kernel_rfl) (by kernel_rfl) (by kernel_rfl) (fun _ _ _ h => h) (Or.inl ⟨by kernel_rfl, ?hyr1⟩) (by assumption) ?restr1
      case hyr1 => (intro w hSw; (try dsimp only at hSw); go_simp; (try with_reducible rfl))
      go_simp
      refine wpAnyH_take (i := 3) (v := ?vr2) rfl (by kernel_rfl) (by kernel_rfl) (by kernel_rfl) (fun _ _ _ h => h) (Or.inl ⟨by kernel_rfl, ?hyr2⟩) (by assumption) ?restr2
      case hyr2 => (intro w hSw; (try dsimp only at hSw); go_simp; (try with_reducible rfl))
      go_simp
      refine wpAnyH_ready (rs := [0, 4]) (by kernel_rfl) (by simp) ?_
      refine AllReadyH.cons rfl (fun K hK => ?_) (AllReadyH.cons rfl (fun K hK => ?_) AllReadyH.nil)
      · rw [if_pos (by kernel_rfl)]
        go_simp
        have own0 : (W.drew.alloc (.cells #[] 60)).ownsRow W.heap.size 60 4 (.slice (some ⟨W.heap.size, 0, none⟩) 0 0) 0 [] := own_empty (Nat.le_refl _) rfl
        have x3 := x3.alloc (.cells #[] 60)
        have k3 : ∀ i, (W.alloc (.cells #[] 60)).cell? ⟨w.heap.size, i, none⟩ = (#[.int .i64 x.p, .int .i64 x.k, .bool x.s, .bool x.q] : Array Value)[i]? := x3.cells
        have cb := cb.alloc cb.size (.cells #[] 60)
        refine hK.out _ _ (by go_keep) (fun hHeld => ?_)
        clear hK K
        go_simp
        refine wpAnyH_ready (rs := [2, 4]) (by kernel_rfl) (by simp) ?_
        refine AllReadyH.cons rfl (fun K hK => ?_) (AllReadyH.cons rfl (fun K hK => ?_) AllReadyH.nil)
        · refine step_append_rowN rfl _ _ 50 rfl W.heap.size 60 i0 (.agg #[.int .i64 0, .int .i64 0, .bool false, .bool false]) 4 24 Try.underlying50 hi hz0 hz1 hz2 rfl (by decide) _ 0 [] rfl own0 A l.length c (avs l) rfl (by rw [avs_len, Nat.mul_comm]) (r1.alloc (.cells #[] 60)) (avs_one l) (by unfold maxLen; omega) (by omega) cb.size ?_
          intro A8 c8 w8 hown8 hgr8
          have x3 := x3.grown hgr8 (fun he => by have := (own0.lt _ he.symm).1; have := x3lt; omega)
          have k3 := x3.cells
          have cb := cb.grown hgr8 cb.size (fun k hk => (own0.lt k hk).1)
          have hown8 : w8.ownsRow W.heap.size 60 4 (.slice A8 l.length c8) l.length (avs l) := by first | exact hown8 | simpa using hown8
          refine hK.out _ _ (by go_keep) (fun hHeld => ?_)
          clear hK K
          go_simp
          refine wpAnyH_ready (rs := [4]) (by kernel_rfl) (by simp) ?_
          refine AllReadyH.cons rfl (fun K hK => ?_) AllReadyH.nil
          rw [if_pos (by kernel_rfl)]
          go_simp
          have z3 := Box.new w8 60 #[.int .i64 x.p, .int .i64 x.k, .bool x.s, .bool x.q]
          have x3 := x3.alloc (.cells #[.int .i64 x.p, .int .i64 x.k, .bool x.s, .bool x.q] 60)
          have k3 := x3.cells
          have hown8 := hown8.alloc (.cells #[.int .i64 x.p, .int .i64 x.k, .bool x.s, .bool x.q] 60)
          have cb := cb.alloc cb.size (.cells #[.int .i64 x.p, .int .i64 x.k, .bool x.s, .bool x.q] 60)
          clear hgr8 own0
          refine hK.out _ _ (by go_keep) (fun hHeld => ?_)
          clear hK K
          go_simp
          refine wpAnyH_ready (rs := [5]) (by kernel_rfl) (by simp) ?_
          refine AllReadyH.cons rfl (fun K hK => ?_) AllReadyH.nil
          refine step_append_rowN rfl _ _ 50 rfl W.heap.size 60 i0 (.agg #[.int .i64 0, .int .i64 0, .bool false, .bool false]) 4 24 Try.underlying50 hi hz0 hz1 hz2 rfl (by decide) _ l.length (avs l) rfl hown8 (some ⟨w8.heap.size, 0, none⟩) 1 1 (av x) rfl rfl (row_box z3) (av_one x) (by unfold maxLen; omega) (by omega) cb.size ?_
          intro A9 c9 w9 hown9 hgr9
          have x3 := x3.grown hgr9 (fun he => by have := (hown8.lt _ he.symm).1; have := x3lt; omega)
          have k3 := x3.cells
          have cb := cb.grown hgr9 cb.size (fun k hk => (hown8.lt k hk).1)
          clear hgr9 hown8 z3
          refine hK.out _ _ (by go_keep) (fun hHeld => ?_)
          clear hK K
          go_simp
          refine wpAnyH_ready (rs := [6]) (by kernel_rfl) (by simp) ?_
          refine AllReadyH.cons rfl (fun K hK => ?_) AllReadyH.nil
          rw [if_pos (by kernel_rfl)]
          go_simp
          refine hK.out _ _ hHeld (fun hHeld => ?_)
          clear hK K
          go_simp
          refine wpAnyH_ready (rs := [7]) (by kernel_rfl) (by simp) ?_
          refine AllReadyH.cons rfl (fun K hK => ?_) AllReadyH.nil
          rw [if_pos (by kernel_rfl)]
          go_simp
          refine hK.out _ _ hHeld (fun hHeld => ?_)
          clear hK K
          go_simp
          refine wpAnyH_done (by kernel_rfl) ?_ _
          refine NoPanic.normal ?_
          clear k3 x3
          rw [← avs_snoc] at hown9
          have hcap := own_cap hown9
          have hlen : (l ++ [x]).length = l.length + 1 := by simp
          have HRow := RowC.of_own hown9
          have BB := B1.trans (cb.mono B1.size)
          clear hown9 cb
          go_wp2
          go_ret2
          exact ⟨A9, c9, by rw [hlen]; rfl, by rw [hlen]; exact hcap.1, hcap.2, HRow, BB⟩
        · rw [if_pos (by kernel_rfl)]
          go_simp
          have z3 : Box ((W.drew.alloc (.cells #[] 60)).alloc (.cells #[.int .i64 x.p, .int .i64 x.k, .bool x.s, .bool x.q] 60)) (W.heap.size + 1) 60 #[.int .i64 x.p, .int .i64 x.k, .bool x.s, .bool x.q] := Box.new' (by rw [World.size_alloc]; rfl)
          have x3 := x3.alloc (.cells #[.int .i64 x.p, .int .i64 x.k, .bool x.s, .bool x.q] 60)
          have k3 : ∀ i, ((W.alloc (.cells #[] 60)).alloc (.cells #[.int .i64 x.p, .int .i64 x.k, .bool x.s, .bool x.q] 60)).cell? ⟨w.heap.size, i, none⟩ = (#[.int .i64 x.p, .int .i64 x.k, .bool x.s, .bool x.q] : Array Value)[i]? := x3.cells
          have own0 := own0.alloc (.cells #[.int .i64 x.p, .int .i64 x.k, .bool x.s, .bool x.q] 60)
          have cb := cb.alloc cb.size (.cells #[.int .i64 x.p, .int .i64 x.k, .bool x.s, .bool x.q] 60)
          refine hK.out _ _ (by go_keep) (fun hHeld => ?_)
          clear hK K
          go_simp
          refine wpAnyH_ready (rs := [2]) (by kernel_rfl) (by simp) ?_
          refine AllReadyH.cons rfl (fun K hK => ?_) AllReadyH.nil
          refine step_append_rowN rfl _ _ 50 rfl W.heap.size 60 i0 (.agg #[.int .i64 0, .int .i64 0, .bool false, .bool false]) 4 24 Try.underlying50 hi hz0 hz1 hz2 rfl (by decide) _ 0 [] rfl own0 A l.length c (avs l) rfl (by rw [avs_len, Nat.mul_comm]) (r1.alloc (.cells #[] 60) |>.alloc (.cells #[.int .i64 x.p, .int .i64 x.k, .bool x.s, .bool x.q] 60)) (avs_one l) (by unfold maxLen; omega) (by omega) cb.size ?_
          intro A8 c8 w8 hown8 hgr8
          have x3 := x3.grown hgr8 (fun he => by have := (own0.lt _ he.symm).1; have := x3lt; omega)
          have k3 := x3.cells
          have cb := cb.grown hgr8 cb.size (fun k hk => (own0.lt k hk).1)
          have hown8 : w8.ownsRow W.heap.size 60 4 (.slice A8 l.length c8) l.length (avs l) := by first | exact hown8 | simpa using hown8
          have z3 := z3.grown hgr8 (fun he => by injection he with he; first | exact Nat.ne_of_lt (Nat.lt_succ_self _) he.symm | exact Nat.ne_of_lt (Nat.lt_succ_self _) he)
          clear hgr8 own0
          refine hK.out _ _ (by go_keep) (fun hHeld => ?_)
          clear hK K
          go_simp
          refine wpAnyH_ready (rs := [5]) (by kernel_rfl) (by simp) ?_
          refine AllReadyH.cons rfl (fun K hK => ?_) AllReadyH.nil
          refine step_append_rowN rfl _ _ 50 rfl W.heap.size 60 i0 (.agg #[.int .i64 0, .int .i64 0, .bool false, .bool false]) 4 24 Try.underlying50 hi hz0 hz1 hz2 rfl (by decide) _ l.length (avs l) rfl hown8 (some ⟨W.heap.size + 1, 0, none⟩) 1 1 (av x) rfl rfl (row_box z3) (av_one x) (by unfold maxLen; omega) (by omega) cb.size ?_
          intro A9 c9 w9 hown9 hgr9
          have x3 := x3.grown hgr9 (fun he => by have := (hown8.lt _ he.symm).1; have := x3lt; omega)
          have k3 := x3.cells
          have cb := cb.grown hgr9 cb.size (fun k hk => (hown8.lt k hk).1)
          clear hgr9 hown8 z3
          refine hK.out _ _ (by go_keep) (fun hHeld => ?_)
          clear hK K
          go_simp
          refine wpAnyH_ready (rs := [6]) (by kernel_rfl) (by simp) ?_
          refine AllReadyH.cons rfl (fun K hK => ?_) AllReadyH.nil
          rw [if_pos (by kernel_rfl)]
          go_simp
          refine hK.out _ _ hHeld (fun hHeld => ?_)
          clear hK K
          go_simp
          refine wpAnyH_ready (rs := [7]) (by kernel_rfl) (by simp) ?_
          refine AllReadyH.cons rfl (fun K hK => ?_) AllReadyH.nil
          rw [if_pos (by kernel_rfl)]
          go_simp
          refine hK.out _ _ hHeld (fun hHeld => ?_)
          clear hK K
          go_simp
          refine wpAnyH_done (by kernel_rfl) ?_ _
          refine NoPanic.normal ?_
          clear k3 x3
          rw [← avs_snoc] at hown9
          have hcap := own_cap hown9
          have hlen : (l ++ [x]).length = l.length + 1 := by simp
          have HRow := RowC.of_own hown9
          have BB := B1.trans (cb.mono B1.size)
          clear hown9 cb
          go_wp2
          go_ret2
          exact ⟨A9, c9, by rw [hlen]; rfl, by rw [hlen]; exact hcap.1, hcap.2, HRow, BB⟩
      · rw [if_pos (by kernel_rfl)]
        go_simp
        have z3 := Box.new W.drew 60 #[.int .i64 x.p, .int .i64 x.k, .bool x.s, .bool x.q]
        have x3 := x3.alloc (.cells #[.int .i64 x.p, .int .i64 x.k, .bool x.s, .bool x.q] 60)
        have k3 : ∀ i, (W.alloc (.cells #[.int .i64 x.p, .int .i64 x.k, .bool x.s, .bool x.q] 60)).cell? ⟨w.heap.size, i, none⟩ = (#[.int .i64 x.p, .int .i64 x.k, .bool x.s, .bool x.q] : Array Value)[i]? := x3.cells
        have cb := cb.alloc cb.size (.cells #[.int .i64 x.p, .int .i64 x.k, .bool x.s, .bool x.q] 60)
        refine hK.out _ _ (by go_keep) (fun hHeld => ?_)
        clear hK K
        go_simp
        refine wpAnyH_ready (rs := [0]) (by kernel_rfl) (by simp) ?_
        refine AllReadyH.cons rfl (fun K hK => ?_) AllReadyH.nil
        rw [if_pos (by kernel_rfl)]
        go_simp
        have own0 : ((W.drew.alloc (.cells #[.int .i64 x.p, .int .i64 x.k, .bool x.s, .bool x.q] 60)).alloc (.cells #[] 60)).ownsRow W.heap.size 60 4 (.slice (some ⟨W.heap.size + 1, 0, none⟩) 0 0) 0 [] := own_empty cb.size (by rw [World.size_alloc]; rfl)
        have z3 := z3.alloc (.cells #[] 60)
        have x3 := x3.alloc (.cells #[] 60)
        have k3 : ∀ i, ((W.alloc (.cells #[.int .i64 x.p, .int .i64 x.k, .bool x.s, .bool x.q] 60)).alloc (.cells #[] 60)).cell? ⟨w.heap.size, i, none⟩ = (#[.int .i64 x.p, .int .i64 x.k, .bool x.s, .bool x.q] : Array Value)[i]? := x3.cells
        have cb := cb.alloc cb.size (.cells #[] 60)
        refine hK.out _ _ (by go_keep) (fun hHeld => ?_)
        clear hK K
        go_simp
        refine wpAnyH_ready (rs := [2]) (by kernel_rfl) (by simp) ?_
        refine AllReadyH.cons rfl (fun K hK => ?_) AllReadyH.nil
        refine step_append_rowN rfl _ _ 50 rfl W.heap.size 60 i0 (.agg #[.int .i64 0, .int .i64 0, .bool false, .bool false]) 4 24 Try.underlying50 hi hz0 hz1 hz2 rfl (by decide) _ 0 [] rfl own0 A l.length c (avs l) rfl (by rw [avs_len, Nat.mul_comm]) (r1.alloc (.cells #[.int .i64 x.p, .int .i64 x.k, .bool x.s, .bool x.q] 60) |>.alloc (.cells #[] 60)) (avs_one l) (by unfold maxLen; omega) (by omega) cb.size ?_
        intro A8 c8 w8 hown8 hgr8
        have x3 := x3.grown hgr8 (fun he => by have := (own0.lt _ he.symm).1; have := x3lt; omega)
        have k3 := x3.cells
        have cb := cb.grown hgr8 cb.size (fun k hk => (own0.lt k hk).1)
        have hown8 : w8.ownsRow W.heap.size 60 4 (.slice A8 l.length c8) l.length (avs l) := by first | exact hown8 | simpa using hown8
        have z3 := z3.grown hgr8 (fun he => by injection he with he; first | exact Nat.ne_of_lt (Nat.lt_succ_self _) he.symm | exact Nat.ne_of_lt (Nat.lt_succ_self _) he)
        clear hgr8 own0
        refine hK.out _ _ (by go_keep) (fun hHeld => ?_)
        clear hK K
        go_simp
        refine wpAnyH_ready (rs := [5]) (by kernel_rfl) (by simp) ?_
        refine AllReadyH.cons rfl (fun K hK => ?_) AllReadyH.nil
        refine step_append_rowN rfl _ _ 50 rfl W.heap.size 60 i0 (.agg #[.int .i64 0, .int .i64 0, .bool false, .bool false]) 4 24 Try.underlying50 hi hz0 hz1 hz2 rfl (by decide) _ l.length (avs l) rfl hown8 (some ⟨W.heap.size, 0, none⟩) 1 1 (av x) rfl rfl (row_box z3) (av_one x) (by unfold maxLen; omega) (by omega) cb.size ?_
        intro A9 c9 w9 hown9 hgr9
        have x3 := x3.grown hgr9 (fun he => by have := (hown8.lt _ he.symm).1; have := x3lt; omega)
        have k3 := x3.cells
        have cb := cb.grown hgr9 cb.size (fun k hk => (hown8.lt k hk).1)
        clear hgr9 hown8 z3
        refine hK.out _ _ (by go_keep) (fun hHeld => ?_)
        clear hK K
        go_simp
        refine wpAnyH_ready (rs := [6]) (by kernel_rfl) (by simp) ?_
        refine AllReadyH.cons rfl (fun K hK => ?_) AllReadyH.nil
        rw [if_pos (by kernel_rfl)]
        go_simp
        refine hK.out _ _ hHeld (fun hHeld => ?_)
        clear hK K
        go_simp
        refine wpAnyH_ready (rs := [7]) (by kernel_rfl) (by simp) ?_
        refine AllReadyH.cons rfl (fun K hK => ?_) AllReadyH.nil
        rw [if_pos (by kernel_rfl)]
        go_simp
        refine hK.out _ _ hHeld (fun hHeld => ?_)
        clear hK K
        go_simp
        refine wpAnyH_done (by kernel_rfl) ?_ _
        refine NoPanic.normal ?_
        clear k3 x3
        rw [← avs_snoc] at hown9
        have hcap := own_cap hown9
        have hlen : (l ++ [x]).length = l.length + 1 := by simp
        have HRow := RowC.of_own hown9
        have BB := B1.trans (cb.mono B1.size)
        clear hown9 cb
        go_wp2
        go_ret2
        exact ⟨A9, c9, by rw [hlen]; rfl, by rw [hlen]; exact hcap.1, hcap.2, HRow, BB⟩
    · have hb : (mayI x l.length != 0) = true := by simpa using hp
      rw [show addA l x = ([], mayI x l.length) by unfold addA; rw [if_neg h, if_pos hp]]
      clear hp hr
      generalize mayI x l.length = ke at *
      replace MY := Lib.hid MY
      go_enter Try.func41, Try.ntmps41
      go_wp2_with fail
      refine (MY.out _).mono ?_
      rintro e' W ⟨rfl, b0⟩
      go_wp2
      go_ret2
      exact PairC.none (below_up b0)
end
end Go.Proofs.Ythkaohjgldoipaa
