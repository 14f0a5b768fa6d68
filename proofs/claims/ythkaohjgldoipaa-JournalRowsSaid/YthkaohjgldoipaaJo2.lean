/-
  journal: Each, for whatever loop takes its lines.
-/
import Derived.Test.YthkaohjgldoipaaJo1
namespace Go.Proofs.Ythkaohjgldoipaa
open Go.RowKit Go.Shelf
attribute [local go_sem] Oper.semAt_some

set_option maxHeartbeats 1000000 in
theorem jeach_any (A : Option Addr) (n c : Nat) (w : World) : Calls Try.prog 50 #[.slice A n c] w fun e w' => e = .returned (.func (.func 78) #[] #[.pointer (some ⟨w.heap.size, 0, none⟩)]) ∧ w' = w.alloc (.cells #[.slice A n c] 22) := by
  go_enter Try.func50, Try.ntmps50
  go_wp2
  go_ret
  exact ⟨rfl, rfl⟩

section
variable {A : Option Addr} {c : Nat} {l : List Ent}
theorem j_alloc {β : Type} {J : β → World → Prop} {B : Nat} (h : AbidesFrom B J) {s : β} {W : World} (o : Obj) (hs : J s W) : J s (W.alloc o) := h s _ _ none hs (World.grownBy_alloc W o none) (fun _ e => by cases e)
set_option maxRecDepth 100000 in
set_option maxHeartbeats 2000000 in
theorem jeach1_in (F : Fence) (n : Nat) (h78 : F.fn 78) (hro : F.round = none) (hn : 1 ≤ n) (lp Bl : Nat) (hm : (linesJ l).length ≤ 1000000) (hm' : l.length ≤ 1000000) (J Jx : List Pst → World → Prop)
    (w0 w : World) (hb0 : Below w0.heap.size w0 w) (hJ : AbidesFrom w.heap.size J)
    (hY : ∀ pre x W, J pre W → pre.length < (linesJ l).length → YieldAt F (n - 1) Try.prog lp #[.agg (pv x).toArray] W fun e W' =>
      (e = .returned (.bool true) ∧ J (pre ++ [x]) W' ∧ Kj w0.heap.size W W') ∨ (e = .returned (.bool false) ∧ Jx (pre ++ [x]) W'))
    (hBl : Box w Bl 22 #[.slice A l.length c]) (hr : RowE w0 A l) (h0 : J [] w) :
    CallsIn F n Try.prog 78 #[.func (.yield lp) #[] #[], .pointer (some ⟨Bl, 0, none⟩)] w fun e W' => (∃ v, e = .returned v) ∧
      ((∃ ys, ys = linesJ l ∧ J ys W') ∨ (∃ pre, pre <+: linesJ l ∧ Jx pre W')) := by
  have kl := hBl.cells
  have HR := Lib.hid hr
  have HY := Lib.hid hY
  have EN := Lib.hid (outJ_end l)
  clear hr hBl hY
  refine callsIn_of_wp Try.func78 rfl h78 ?_ hro
  simp only [Try.ntmps78, List.size_toArray, List.length_cons, List.length_nil, Nat.reduceAdd, Nat.reduceSub, Array.replicate_succ, Array.replicate_zero, List.push_toArray, List.append_toArray, List.nil_append, List.cons_append]
  gi_wp2
  clear kl
  gi_loopw [3, 10] (fun d i wr => ∃ k : Nat, k ≤ l.length ∧ d = .int .i64 ((outJ l k 0).length : Int) ∧ i = .int .i64 k ∧ J (outJ l k 0) wr ∧ w.heap.size ≤ wr.heap.size ∧ Below w0.heap.size w0 wr) (fun _ i _ => l.length - (intOf i).toNat)
  case atStart => exact ⟨0, by omega, by rw [outJ_zero]; rfl, rfl, by rw [outJ_zero]; exact h0, Nat.le_refl _, hb0⟩
  case round =>
    clear hb0
    obtain ⟨k, hk, rfl, rfl, hJs, hsz, hb0⟩ := hrel
    by_cases hkn : k < l.length
    · obtain ⟨g0, o0, rfl, hg0, hc0⟩ := (HR.out.below hb0 (Nat.le_refl _)).get (by omega)
      obtain ⟨e1, e2, e3⟩ := hc0 k hkn
      have HL := Lib.hid (HR.out.2 l[k] (List.getElem_mem hkn))
      have STP := Lib.hid fun (j : Nat) (hj : j < l[k].ls.length) => outJ_step hkn hj
      have PRE := Lib.hid fun (j : Nat) => outJ_pre (j := j) hkn
      have LT := Lib.hid fun (j : Nat) (hj : j < l[k].ls.length) => outJ_lt hkn hj
      have ALL := Lib.hid (outJ_all hkn)
      have hlsm := outJ_ls hkn
      clear hc0
      generalize l[k] = e at *
      obtain ⟨p, r, Ae, ce, ls⟩ := e
      dsimp only at e1 e2 e3 HL STP LT ALL hlsm
      obtain ⟨wo, rfl⟩ : ∃ w5, w5 = wr := ⟨_, rfl⟩
      have bX := Box.new wo 49 #[.int .i64 p, .int .i64 r, .slice Ae ls.length ce]
      gi_wp2
      gi_loopw [3, 18] (fun d i wx => ∃ j : Nat, j ≤ ls.length ∧ d = .int .i64 ((outJ l k j).length : Int) ∧ i = .int .i64 j ∧ J (outJ l k j) wx ∧ Box wx wo.heap.size 49 #[.int .i64 p, .int .i64 r, .slice Ae ls.length ce] ∧ w.heap.size ≤ wx.heap.size ∧ Below w0.heap.size w0 wx) (fun _ i _ => ls.length - (intOf i).toNat)
      case atStart => exact ⟨0, by omega, rfl, rfl, j_alloc hJ _ hJs, bX, by simp; omega, hb0.alloc hb0.size _⟩
      case round =>
        clear hb0 bX hsz hJs e1 e2 e3
        obtain ⟨j, hj, rfl, rfl, hJs, bX, hsz, hb0⟩ := hrel
        have hpl := (PRE.out j).length_le
        by_cases hjn : j < ls.length
        · obtain ⟨g4, o4, rfl, hg4, hc4⟩ := (HL.out.below hb0 (Nat.le_refl _)).lines (by omega)
          obtain ⟨a1, a2, a3, a4⟩ := hc4 j hjn
          have ST := Lib.hid (STP.out j hjn)
          have PR := Lib.hid (PRE.out (j + 1))
          have hlt := LT.out j hjn
          have kX := bX.cells
          have lX := bX.lt
          clear hc4
          generalize ls[j] = x at *
          obtain ⟨x1, x2, x3, x4⟩ := x
          dsimp only at a1 a2 a3 a4
          obtain ⟨fn, tmps, assign, body, hy, hR⟩ := HY.out (outJ l k j) ⟨((outJ l k j).length : Int) + 1, (k : Int) + 1, p, ⟨x1, x2, x3, x4⟩⟩ (wr.alloc (.cells #[.int .i64 x1, .int .i64 x2, .int .i64 x3, .int .i64 x4] 32)) (j_alloc hJ _ hJs) hlt
          dsimp only [pv] at hy
          generalize outJ l k j = pre at *
          gi_wp2
          refine hR.mono ?_
          rintro e W3 (⟨rfl, hJ3, hk3⟩ | ⟨rfl, hJx3⟩)
          · have hs3 := hk3.low.size
            rw [World.size_alloc] at hs3
            have bX3 := hk3.box _ _ (bX.alloc (.cells #[.int .i64 x1, .int .i64 x2, .int .i64 x3, .int .i64 x4] 32))
            have hb3 := (hb0.alloc hb0.size (.cells #[.int .i64 x1, .int .i64 x2, .int .i64 x3, .int .i64 x4] 32)).trans hk3.low
            clear hk3 hR hy kX lX a1 a2 a3 a4
            gi_wp2
            go_roundw
            case rel => exact ⟨j + 1, by omega, by rw [ST.out]; simp, by go_num, by rw [ST.out]; exact hJ3, bX3, by omega, hb3⟩
            case measure => simp [intOf]; omega
          · gi_wp2
            refine bodyPost_ret (results_none rfl _ _ _) rfl ?_
            exact ⟨⟨_, rfl⟩, .inr ⟨_, by rw [← ST.out]; exact PR.out, hJx3⟩⟩
        · obtain rfl : j = ls.length := by omega
          rw [ALL.out] at hJs hpl ⊢
          clear bX
          gi_wp2
          go_roundw
          case rel => exact ⟨k + 1, by omega, rfl, by go_num, hJs, hsz, hb0⟩
          case measure => simp [intOf]; omega
    · obtain rfl : k = l.length := by omega
      rw [EN.out] at hJs ⊢
      gi_wp2
      go_end0
      exact ⟨⟨_, rfl⟩, .inl ⟨_, rfl, hJs⟩⟩
/-- Each's value tells the journal's lines, all or as many as are taken. -/
theorem jeach_stops (F : Fence) (n : Nat) (h78 : F.fn 78) (hro : F.round = none) (hn : 1 ≤ n) (Bl : Nat) (hm : (linesJ l).length ≤ 1000000) (hm' : l.length ≤ 1000000)
    (w0 w : World) (hb0 : Below w0.heap.size w0 w) (hBl : Box w Bl 22 #[.slice A l.length c]) (hr : RowE w0 A l) :
    SeqStopsK F n Try.prog 78 #[.pointer (some ⟨Bl, 0, none⟩)] (fun x : Pst => #[Value.agg (pv x).toArray]) (Kj w0.heap.size) (fun ys => ys = linesJ l) (fun pre => pre <+: linesJ l) (linesJ l).length w := fun lp J Jx W hW hJ _ hY h0 =>
  jeach1_in F n h78 hro hn lp Bl hm hm' J Jx w0 W (hb0.trans (hW.mono hb0.size)) hJ hY (hBl.later hW) hr h0
end
end Go.Proofs.Ythkaohjgldoipaa
