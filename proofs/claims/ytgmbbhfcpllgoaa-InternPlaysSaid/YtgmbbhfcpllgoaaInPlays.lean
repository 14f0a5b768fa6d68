/-
  The walk of InternPlays: true for every bound and every list of calls; no further condition.
-/
import Derived.Test.YtgmbbhfcpllgoaaInDo
import Derived.Test.YtgmbbhfcpllgoaaInAwake
namespace Go.Proofs.Ytgmbbhfcpllgoaa
open Go.RowKit Go.Maps

/-- A slice of calls that came in: element i lies at two cells. -/
def ActsAt (w : World) (A : Option Addr) (l : List (Int × Int)) : Prop :=
  0 < l.length → ∃ b off, A = some ⟨b, off, none⟩ ∧ b < w.heap.size ∧ ∀ j (h : j < l.length), w.cell? ⟨b, off + j * 2, none⟩ = some (.int .i64 l[j].1) ∧ w.cell? ⟨b, off + j * 2 + 1, none⟩ = some (.int .i64 l[j].2)

theorem Box.only {F : List Nat} {w w' : World} {g : Nat} {t : TypeId} {cs : Array Value} (h : Box w g t cs) (ho : Only F w w') (hg : g ∉ F) : Box w' g t cs := (ho.block g h.lt hg).trans h

/-- What holds behind the document's answer: its row lies in block 's13', and what was there is as it was. -/
def CutRel (S : Nat → Prop) (most : Int) (w5 : World) (T : Told) (s13 s14 s15 s16 : Value) (w' : World) : Prop :=
  ∃ g13 B0 d0, s13 = .pointer (some ⟨g13, 0, none⟩) ∧ s14 = .int .i64 T.x ∧ s15 = .int .i64 T.e ∧ s16 = .bool T.ok ∧ T.l.length ≤ d0 ∧
    Box w' g13 30 #[.slice B0 T.l.length d0, .int .i64 most] ∧ RowS S w' B0 (ivals T.l) ∧ w5.heap.size ≤ g13 ∧ Below w5.heap.size w5 w'

theorem box2 {w : World} {g : Nat} {t : TypeId} {a b : Value} (h : Box w g t #[a, b]) (a' b' : Value) : Box ((w.setCell ⟨g, 0, none⟩ a').setCell ⟨g, 1, none⟩ b') g t #[a', b'] := by
  have := (h.set 0 a').set 1 b'
  simpa using this

theorem cutA {S : Nat → Prop} {most : Int} {w5 w6 : World} {T : Told} {B0 : Option Addr} {d0 : Nat} (hS : ∀ x, w5.heap.size ≤ x → S x) (m0 : T.l.length ≤ d0)
    (j0 : RowS (fun x => (S x ∧ x < w5.heap.size) ∨ w5.heap.size ≤ x) w6 B0 (ivals T.l)) (hb : Below w5.heap.size w5.drew w6) :
    CutRel S most w5 T (.pointer (some ⟨w6.heap.size, 0, none⟩)) (.int .i64 T.x) (.int .i64 T.e) (.bool T.ok) (w6.alloc (.cells #[.slice B0 T.l.length d0, .int .i64 most] 30)) := by
  have hs : w5.heap.size ≤ w6.heap.size := hb.size
  exact ⟨_, _, _, rfl, rfl, rfl, rfl, m0, Box.new _ _ _, (j0.mono fun x _ h => h.elim (·.1) (hS x)).alloc _, hs, ((⟨hb.os, hb.tape, hb.output, hb.size, hb.block⟩ : Below w5.heap.size w5 w6)).alloc hs _⟩
theorem cutB {S : Nat → Prop} {most : Int} {w5 w6 : World} {o : Obj} {T : Told} {B0 : Option Addr} {d0 : Nat} {z0 z1 : Value} (hS : ∀ x, w5.heap.size ≤ x → S x) (m0 : T.l.length ≤ d0)
    (j0 : RowS (fun x => (S x ∧ x < w5.heap.size) ∨ (w5.alloc o).drew.heap.size ≤ x) w6 B0 (ivals T.l))
    (bx : Box w6 w5.heap.size 30 #[z0, z1]) (hb : Below (w5.alloc o).drew.heap.size (w5.alloc o).drew w6) :
    CutRel S most w5 T (.pointer (some ⟨w5.heap.size, 0, none⟩)) (.int .i64 T.x) (.int .i64 T.e) (.bool T.ok)
      ((w6.setCell ⟨w5.heap.size, 0, none⟩ (.slice B0 T.l.length d0)).setCell ⟨w5.heap.size, 1, none⟩ (.int .i64 most)) := by
  have hz : (w5.alloc o).drew.heap.size = w5.heap.size + 1 := by show (w5.alloc o).heap.size = _; simp
  rw [hz] at j0
  have k0 : RowS (fun x => S x ∧ x ≠ w5.heap.size) w6 B0 (ivals T.l) := j0.mono fun x _ h => by
    rcases h with ⟨h1, h2⟩ | h
    · exact ⟨h1, by omega⟩
    · exact ⟨hS x (by omega), by omega⟩
  have hb' : Below w5.heap.size w5 w6 := ((Below.refl _ w5).alloc (Nat.le_refl _) o).trans ((⟨hb.os, hb.tape, hb.output, hb.size, hb.block⟩ : Below (w5.alloc o).drew.heap.size (w5.alloc o) w6).mono (by rw [hz]; omega))
  refine ⟨_, _, _, rfl, rfl, rfl, rfl, m0, box2 bx _ _, ?_, Nat.le_refl _, ?_⟩
  · exact ((k0.setCell (fun h => h.2 rfl) _).setCell (fun h => h.2 rfl) _).mono fun x _ h => h.1
  · exact (hb'.setCell (Nat.le_refl _) _).setCell (Nat.le_refl _) _

theorem quiet_left' {P : Program} {f : FuncId} {args : Array Value} {w : World} {n : Nat} {v : Value}
    (h : Calls P f args (w.drewN n) fun e w' => e = .returned v ∧ w.drewN n = w') : Calls P f args (w.drewN n) fun e w'' => e = .returned v ∧ ∃ m, w'' = w.drewN m :=
  h.mono fun _ _ ⟨he, hm⟩ => ⟨he, n, hm.symm⟩

theorem TN.drewN {B : Nat} {w : World} {g m : Nat} {most : Int} {v : Value} {xs : List Int} (h : TN B w g m most v xs) (n : Nat) : TN B (w.drewN n) g m most v xs := ⟨⟨h.t.st, h.t.row, h.t.map⟩, h.new⟩

/-- The blocks of the document's row are none of the table's, and not that of its variable. -/
def Far (g m : Nat) (v : Value) (G : Nat) (x : Nat) : Prop := x ∉ foot g m v ∧ x ≠ G

/-- All that holds between two rounds. -/
structure St (w0 : World) (w : World) (g m G : Nat) (most : Int) (v rv : Value) (l0 : List Int) : Prop where
  tab : TN w0.heap.size w g m most v l0
  far : G ∉ foot g m v
  box : Box w G 30 #[rv, .int .i64 most]
  row : IRow (Far g m v G) w rv l0
  bel : Below w0.heap.size w0 w
  new : w0.heap.size ≤ G
  len : (l0.length : Int) ≤ most
  wf : ∀ k ∈ l0, (Lit.int .i64 k).wf = true

theorem St.drewN {w0 w : World} {g m G : Nat} {most : Int} {v rv : Value} {l0 : List Int} (h : St w0 w g m G most v rv l0) (n : Nat) : St w0 (w.drewN n) g m G most v rv l0 :=
  ⟨h.tab.drewN n, h.far, h.box.drewN n, h.row.drewN n, below_drewN h.bel n, h.new, h.len, h.wf⟩

/-- The table has answered. -/
theorem St.did {w0 w w5 : World} {g m G : Nat} {most : Int} {v v' rv : Value} {l0 l1 : List Int} (h : St w0 w g m G most v rv l0) (h1 : TI w5 g m most v' l1) (ho : Only (foot g m v) w w5) (hv : ∀ b, v'.ownBlock = some b → v.ownBlock = some b ∨ w.heap.size ≤ b) :
    TN w0.heap.size w5 g m most v' l1 ∧ G ∉ foot g m v' ∧ Box w5 G 30 #[rv, .int .i64 most] ∧ IRow (fun x => Far g m v' G x ∧ x < w5.heap.size) w5 rv l0 ∧ Below w0.heap.size w0 w5 := by
  obtain ⟨h2, h3⟩ := h.tab.next h1 ho hv h.bel
  have hf : ∀ x, x < w.heap.size → x ∉ foot g m v → x ∉ foot g m v' := by
    intro x hx hn hm
    unfold foot at hm hn
    rw [List.mem_cons, List.mem_cons, Option.mem_toList] at hm hn
    rcases hm with rfl | rfl | hm
    · exact hn (.inl rfl)
    · exact hn (.inr (.inl rfl))
    · rcases hv x hm with h4 | h4
      · exact hn (.inr (.inr h4))
      · omega
  refine ⟨h2, hf G h.box.lt h.far, h.box.only ho h.far, ?_, h3⟩
  have r1 : IRow (fun x => Far g m v G x ∧ x < w.heap.size) w rv l0 := h.row.mono fun x a b => ⟨b, a⟩
  exact (r1.only ho (fun x a => a.1.1)).mono fun x a b => ⟨⟨hf x b.2 b.1.1, b.1.2⟩, a⟩

/-- The document has answered, and its table is the new one. -/
theorem St.next {w0 w5 wc wd : World} {g m G : Nat} {most : Int} {v : Value} {l1 : List Int} {z0 : Value} {B0 : Option Addr} {d0 : Nat} (hwd : wd = (wc.setCell ⟨G, 0, none⟩ (.slice B0 l1.length d0)).setCell ⟨G, 1, none⟩ (.int .i64 most))
    (ht : TN w0.heap.size w5 g m most v l1) (hG : G ∉ foot g m v) (hB : Box w5 G 30 #[z0, .int .i64 most]) (hb : Below w0.heap.size w0 w5) (hn : w0.heap.size ≤ G)
    (m0 : l1.length ≤ d0) (j0 : RowS (Far g m v G) wc B0 (ivals l1)) (hc : Below w5.heap.size w5 wc) (h1 : (l1.length : Int) ≤ most) (h2 : ∀ k ∈ l1, (Lit.int .i64 k).wf = true) :
    St w0 wd g m G most v (.slice B0 l1.length d0) l1 := by
  subst hwd
  obtain ⟨t1, b1⟩ := ht.next_below hc hb
  have o1 : Only [G] wc ((wc.setCell ⟨G, 0, none⟩ (.slice B0 l1.length d0)).setCell ⟨G, 1, none⟩ (.int .i64 most)) := (Only.setCell wc (F := [G]) (a := ⟨G, 0, none⟩) (by simp) _).trans (Only.setCell _ (F := [G]) (a := ⟨G, 1, none⟩) (by simp) _) (fun j hj => .inl hj)
  refine ⟨⟨t1.t.only o1 (fun k hk hm => hG (by rw [List.mem_singleton] at hm; exact hm ▸ hk)), ht.new⟩, hG, box2 (hB.later hc) _ _, ⟨B0, d0, rfl, m0, ?_⟩, ?_, hn, h1, h2⟩
  · exact (j0.setCell (fun h => h.2 rfl) _).setCell (fun h => h.2 rfl) _
  · exact b1.trans (o1.below (by have := b1.size; omega) (fun j hj => by rw [List.mem_singleton] at hj; omega))

set_option maxRecDepth 100000 in
set_option maxHeartbeats 4000000 in
theorem plays_main (most : Int) (A : Option Addr) (cap : Nat) (l : List (Int × Int)) (w : World) (hm1 : 1 ≤ most) (hm2 : most ≤ 20000) (hl : l.length ≤ 100) (hrow : ActsAt w A l) (hwf : ∀ x ∈ l, (Lit.int .i64 x.2).wf = true) :
    Calls Try.prog 3 #[.int .i64 most, .slice A l.length cap] w fun e w' => e = .returned (.bool true) ∧ Below w.heap.size w w' := by
  go_enter Try.func3, Try.ntmps3
  go_wp2_with fail
  refine (inew_yes w most hm1 hm2).mono ?_
  rintro e w1 ⟨g, m, rfl, hT, hb, hg, hm⟩
  have H := TN.made hT hg hm
  clear hT hg hm
  go_wp2_with fail
  refine (rnew_yes _ most hm1 hm2).mono ?_
  rintro e w2 ⟨rfl, hb1⟩
  obtain ⟨H, hb⟩ := H.next_below hb1 hb
  clear hb1
  have hs2 := hb.size
  have S0 : St w (w2.alloc (.cells #[.slice none 0 0, .int .i64 most] 30)) g m w2.heap.size most (.slice none 0 0) (.slice none 0 0) [] := by
    obtain ⟨H', hb'⟩ := H.next_below (alloc_below w2 (.cells #[.slice none 0 0, .int .i64 most] 30)) hb
    exact ⟨H', fun hm => Nat.lt_irrefl _ (H.t.foot_lt _ hm), Box.new _ _ _, IRow.nil _ _, hb', hs2, by simp; omega, by simp⟩
  clear H hb
  go_wp2_with fail
  generalize hW : w2.alloc (.cells #[.slice none 0 0, .int .i64 most] 30) = W0 at *
  clear hW
  generalize w2.heap.size = G at *
  go_loopw [9] (fun i wr => ∃ (k : Nat) (l0 : List Int) (v rv : Value), k ≤ l.length ∧ i = .int .i64 k ∧ St w wr g m G most v rv l0) (fun i _ => l.length - (intOf i).toNat)
  case atStart => exact ⟨0, [], _, _, by omega, rfl, S0⟩
  case round =>
    clear S0
    obtain ⟨k, l0, v, rv, hk, rfl, HS⟩ := hrel
    by_cases hkl : k < l.length
    · obtain ⟨Ab, off, rfl, hAb, hcell⟩ := hrow (by omega)
      obtain ⟨x1, x2⟩ := hcell k hkl
      have hx2 := hwf l[k] (List.getElem_mem _)
      generalize hx : l[k] = x at x1 x2 hx2
      obtain ⟨kind, n⟩ := x
      clear hx hcell hrow
      simp only at x1 x2 hx2
      have y1 : wr.cell? ⟨Ab, off + k * 2, none⟩ = some (.int .i64 kind) := (HS.bel.cell (by exact hAb)).trans x1
      have y2 : wr.cell? ⟨Ab, off + k * 2 + 1, none⟩ = some (.int .i64 n) := (HS.bel.cell (by exact hAb)).trans x2
      clear x1 x2
      have hln := HS.len
      go_wp2_with fail
      refine (do_any HS.tab.t hx2 HS.wf (by omega) hm2).mono ?_
      rintro e w5 ⟨rfl, v', hT5, ho5, hv5⟩
      obtain ⟨ht, hG, hB, hr, hb⟩ := HS.did hT5 ho5 hv5
      have hAf : Ab ∉ foot g m v := fun h => by have := HS.tab.new _ h; omega
      have y1 : w5.cell? ⟨Ab, off + k * 2, none⟩ = some (.int .i64 kind) := ho5.cell hAf y1
      have y2 : w5.cell? ⟨Ab, off + k * 2 + 1, none⟩ = some (.int .i64 n) := ho5.cell hAf y2
      have hAb5 : Ab < w5.heap.size := by have := hb.size; omega
      have HN := HS.new
      have HW := HS.wf
      have hS : ∀ x, w5.heap.size ≤ x → Far g m v' G x := fun x h => ⟨fun hm => by have := ht.t.foot_lt x hm; omega, fun e => by have := hB.lt; omega⟩
      clear HS hT5 ho5 hv5 hAf
      obtain ⟨A0, cc0, rfl, hlc0, hr0⟩ := hr
      have k7 := hB.cells
      have kl7 := hB.lt
      have cA := fun (w' : World) (h : w' = w5.drew) => refDo_any (w := w') (most := most) (kind := kind) (x := n) (l := l0) (S := fun x => Far g m v' G x ∧ x < w5.heap.size) ⟨A0, cc0, rfl, hlc0, by rw [h]; exact hr0.drew⟩ (by omega)
      have cB := fun (w' : World) (o : Obj) (h : w' = (w5.alloc o).drew) => refDo_any (w := w') (most := most) (kind := kind) (x := n) (l := l0) (S := fun x => Far g m v' G x ∧ x < w5.heap.size) ⟨A0, cc0, rfl, hlc0, by rw [h]; exact (hr0.alloc _).drew⟩ (by omega)
      have CA := Lib.hid cA
      have CB := Lib.hid cB
      clear cA cB
      go_upto_region 11 with fail
      go_cut [13, 14, 15, 16] from 61 to 71 (fun s13 s14 s15 s16 w' => CutRel (Far g m v' G) most w5 (stepI most l0 kind n) s13 s14 s15 s16 w')
      case first =>
        go_region_with (first | (go_at_call 10; refine (CA.out _ rfl).mono ?_; rintro e w6 ⟨u0, rfl, ⟨B0, d0, rfl, m0, j0⟩, hb6⟩) | (go_at_call 10; refine (CB.out _ _ rfl).mono ?_; rintro e w6 ⟨u0, rfl, ⟨B0, d0, rfl, m0, j0⟩, hb6⟩; have bx := Box.later (g := w5.heap.size) (t := 30) (cs := #[.slice none 0 0, .int .i64 0]) (Box.drew (Box.new w5 30 _)) hb6; have bc := bx.cells; have bf := bx.free; have bl := bx.lt))
        all_goals (go_wp2_with fail; go_meet)
        all_goals (first | (have hbx := bx; exact cutB hS m0 j0 hbx hb6) | exact cutA hS m0 j0 hb6)
      case rest =>
        obtain ⟨g13, B0, d0, rfl, rfl, rfl, rfl, m0, b13, j0, hg13, hb6⟩ := hcut
        clear CA CB hr0 y1 y2 k7
        have hTl := stepI_len (kind := kind) (x := n) hln
        have hTw := stepI_wf (most := most) (kind := kind) HW hx2
        generalize stepI most l0 kind n = T at *
        obtain ⟨T0, Tx, Te, Tok⟩ := T
        simp only at *
        have k13 := b13.cells
        have f7 := (hB.later hb6).free
        have k7 := (hB.later hb6).cells
        go_upto_region 13 with fail
        obtain ⟨wd, hwd⟩ : ∃ wd, wd = (wc.setCell ⟨G, 0, none⟩ (.slice B0 T0.length d0)).setCell ⟨G, 1, none⟩ (.int .i64 most) := ⟨_, rfl⟩
        have HF := Lib.hid (St.next hwd ht hG hB hb HN m0 j0 hb6 hTl hTw)
        rewrite [← hwd]
        clear hwd b13 j0 ht hB hb hb6 k13 k7 f7
        have L0 := Lib.hid (fun n : Nat => ilen_yes _ g m most v' T0 (HF.out.drewN n).tab.t)
        have k7 := HF.out.box.cells 0
        simp only [List.getElem?_toArray, List.getElem?_cons_zero] at k7
        go_quiet ((first | (go_at_call_of 11 (Value.pointer (some ⟨g, 0, none⟩)); exact quiet_left' (L0.out _))))
        clear L0 k7
        go_wp2_with fail
        go_roundw
        case rel => exact ⟨k + 1, T0, _, _, by omega, by go_num, HF.out.drewN _⟩
        case measure => simp [intOf]; omega
    · obtain rfl : k = l.length := by omega
      have hb := HS.bel
      clear HS
      go_wp2_with fail
      refine (awake_any _).mono ?_
      rintro e w5 ⟨rfl, hb5⟩
      have hb6 := hb.trans (hb5.mono hb.size)
      clear hb hb5
      go_wp2_with fail
      go_ret
      exact ⟨rfl, hb6⟩

set_option maxRecDepth 100000 in
set_option maxHeartbeats 1000000 in
theorem plays_long (most : Int) (A : Option Addr) (cap n : Nat) (w : World) (hl : 100 < n) :
    Calls Try.prog 3 #[.int .i64 most, .slice A n cap] w fun e w' => e = .returned (.bool true) ∧ Below w.heap.size w w' := by
  go_enter Try.func3, Try.ntmps3
  go_wp2_with fail
  refine (awake_any _).mono ?_
  rintro e w4 ⟨rfl, hb4⟩
  go_wp2_with fail
  go_ret
  exact ⟨rfl, hb4⟩

set_option maxRecDepth 100000 in
set_option maxHeartbeats 2000000 in
theorem plays_no (most : Int) (hm : most < 1 ∨ 20000 < most) (A : Option Addr) (cap n : Nat) (w : World) (hl : n ≤ 100) :
    Calls Try.prog 3 #[.int .i64 most, .slice A n cap] w fun e w' => e = .returned (.bool true) ∧ Below w.heap.size w w' := by
  go_enter Try.func3, Try.ntmps3
  go_wp2_with fail
  refine (inew_no w most hm).mono ?_
  rintro e w1 ⟨rfl, rfl⟩
  go_wp2_with fail
  refine (rnew_no _ most hm).mono ?_
  rintro e w2 ⟨rfl, hb1⟩
  have hb := hb1.alloc hb1.size (.cells #[.slice none 0 0, .int .i64 0] 30)
  clear hb1
  go_wp2_with fail
  generalize w2.alloc (.cells #[.slice none 0 0, .int .i64 0] 30) = W0 at *
  generalize w2.heap.size = G at *
  go_loop [9] (fun i => i = .int .i64 0) (fun _ => 0)
  case atStart => rfl
  case round =>
    obtain rfl := hrel
    by_cases h0 : 0 < n
    · go_wp2_with fail
      refine (awake_any _).mono ?_
      rintro e w5 ⟨rfl, hb5⟩
      have hb6 := hb.trans (hb5.mono hb.size)
      clear hb hb5
      go_wp2_with fail
      go_ret
      exact ⟨rfl, hb6⟩
    · go_wp2_with fail
      refine (awake_any _).mono ?_
      rintro e w5 ⟨rfl, hb5⟩
      have hb6 := hb.trans (hb5.mono hb.size)
      clear hb hb5
      go_wp2_with fail
      go_ret
      exact ⟨rfl, hb6⟩

theorem acts_of {w : World} {A : Option Addr} {n : Nat} {xs : List Int} (hl : xs.length = n * 2) (hr : RowAt w A (ivals xs)) (hw : ∀ x ∈ xs, (Lit.int .i64 x).wf = true) :
    ∃ l : List (Int × Int), l.length = n ∧ ActsAt w A l ∧ ∀ x ∈ l, (Lit.int .i64 x.2).wf = true := by
  refine ⟨(List.range n).map fun i => (xs[i * 2]?.getD 0, xs[i * 2 + 1]?.getD 0), by simp, fun hn => ?_, fun x hx => ?_⟩
  · simp only [List.length_map, List.length_range] at hn
    obtain ⟨b, off, rfl, hb, hc⟩ := hr.iget (by omega)
    refine ⟨b, off, rfl, hb, fun j hj => ?_⟩
    simp only [List.length_map, List.length_range] at hj
    simp only [List.getElem_map, List.getElem_range]
    have h1 := hc (j * 2) (by omega)
    have h2 := hc (j * 2 + 1) (by omega)
    rw [List.getElem?_eq_getElem (by omega), List.getElem?_eq_getElem (by omega)]
    exact ⟨h1, by rw [Nat.add_assoc]; exact h2⟩
  · obtain ⟨i, hi, rfl⟩ := List.mem_map.1 hx
    rw [List.mem_range] at hi
    have h1 : i * 2 + 1 < xs.length := by omega
    simp only [List.getElem?_eq_getElem h1, Option.getD_some]
    exact hw _ (List.getElem_mem _)

theorem plays_law (most : Int) (A : Option Addr) (n cap : Nat) (xs : List Int) (hx : xs.length = n * 2) (w : World) (hr : RowAt w A (ivals xs)) (hw : ∀ x ∈ xs, (Lit.int .i64 x).wf = true) :
    Calls Try.prog 3 #[.int .i64 most, .slice A n cap] w fun e w' => e = .returned (.bool true) ∧ Below w.heap.size w w' := by
  obtain ⟨l, rfl, hl, hwf⟩ := acts_of hx hr hw
  by_cases h : 100 < l.length
  · exact plays_long most A cap _ w h
  by_cases ha : most < 1 ∨ 20000 < most
  · exact plays_no most ha A cap _ w (by omega)
  · exact plays_main most A cap l w (by omega) (by omega) (by omega) hl hwf
end Go.Proofs.Ytgmbbhfcpllgoaa
