/-
  The contracts of the queues' own functions (New, Put, Take, Len, Room, Either), for ints and strings; no further condition than that the queue was made.
-/
import Derived.Test.YtonikpljhbnoiaaK
import Derived.Conc.LoneSelect
import Derived.Conc.LoneSelectN
namespace Go.Proofs.Ytonikpljhbnoiaa
open Go.RowKit Go.Conc

theorem stepG_comm_any {P : Program} {b : Frame} {a : Act} {k : List Item} {cs : List Frame} {w : World} {ops : Array Oper} {i : Nat} {rest : List Nat} {o : Oper} {cases : Array CommCase} {blocking : Bool} {shape : CommShape} {w' : World} (ho : ops[i]? = some o) (hw : Region.wanted o (yielded ops a.tmps) = true)
    (hr : (execOp a.eval o).run P w = .ok (.comm cases blocking shape) w') :
    ∃ es, stepG P true (G (b.at a (.inRegion ops (i :: rest) :: k)) cs) w = .comm (G (b.at a (.inRegion ops (i :: rest) :: k)) cs) cases blocking shape w' es := by
  rw [stepG_oper ho hw]
  by_cases hk : b.kind = .early
  · exact ⟨_, by simp [stepG.apply, hr, G, Frame.at, hk, GStep.after]; rfl⟩
  · have hk' : (b.kind == CallKind.early) = false := by simpa using hk
    exact ⟨_, by simp [stepG.apply, hr, G, Frame.at, hk', GStep.after]; rfl⟩

theorem wp_region_comm {P : Program} {id : Nat} {o : Oper} {l : List Oper} {Q : Exit → Act → World → Prop} {a : Act} {w w2 : World} {cases : Array CommCase} {blocking : Bool} {shape : CommShape} {v : Value}
    (hg : o.guard = none)
    (hr : (execOp a.eval o).run P w = .ok (.comm cases blocking shape) w)
    (hstep : ∀ (fr : Frame) (cs : List Frame) (es : Array Event), stepG P true (G fr cs) w = .comm (G fr cs) cases blocking shape w es → step P (solo (G fr cs) w) = .next (solo (G (fr.finish v) cs) w2))
    (h : wpList P (o :: l).toArray Q l (a.put o.dst v) w2) : (Code.region id (o :: l).toArray false).wp P Q a w := by
  intro b k cs
  have h2 : wpOps P (o :: l).toArray Q (List.range' 1 l.length) (a.put o.dst v) w2 := by
    rw [wpOps_eq_wpList l 1 (fun j => by simp [Nat.add_comm 1 j])]
    exact h
  obtain ⟨e, a', w', hq, harr⟩ := wp_ops _ _ _ h2 b k cs
  have hrange : List.range (o :: l).toArray.size = 0 :: List.range' 1 l.length := by
    simp [List.range_eq_range', List.range'_succ]
  obtain ⟨es, hes⟩ := stepG_comm_any (P := P) (b := b) (a := a) (k := k) (cs := cs) (w := w) (ops := (o :: l).toArray) (i := 0) (rest := List.range' 1 l.length) (o := o) (by simp) (by simp [Region.wanted, hg]) hr
  have hs := hstep _ _ _ hes
  rw [← lone_eq_solo, ← lone_eq_solo, Frame.finish_at] at hs
  refine ⟨e, a', w', hq, .of_steps (.head (step_region (P := P) (b := b) (a := a) (k := k) (cs := cs) (w := w) (ops := (o :: l).toArray) (id := id)) (.one ?_)) harr⟩
  rw [hrange, hs]
  rfl


/-- The queue behind a pointer: block g holds the struct, block c the channel. -/
def QAt (w : World) (T : TypeId) (g c room : Nat) (xs : List Value) : Prop :=
  w.heap[g]? = some (.cells #[.chan (some c)] T (0, 0)) ∧ ∃ s r, w.heap[c]? = some (.chan room xs.toArray false s r false)

theorem QAt.cell {w : World} {T g c room : Nat} {xs : List Value} (h : QAt w T g c room xs) : w.cell? ⟨g, 0, none⟩ = some (.chan (some c)) := by
  have := cell_of_row w g 0 _ T (0, 0) h.1
  simpa using this

theorem QAt.lt {w : World} {T g c room : Nat} {xs : List Value} (h : QAt w T g c room xs) : g < w.heap.size ∧ c < w.heap.size := by
  obtain ⟨h1, s, r, h2⟩ := h
  constructor
  · rcases Nat.lt_or_ge g w.heap.size with hlt | hge
    · exact hlt
    · rw [Array.getElem?_eq_none hge] at h1; cases h1
  · rcases Nat.lt_or_ge c w.heap.size with hlt | hge
    · exact hlt
    · rw [Array.getElem?_eq_none hge] at h2; cases h2

theorem QAt.ne {w : World} {T g c room T' g' c' room' : Nat} {xs xs' : List Value} (h : QAt w T g c room xs) (h' : QAt w T' g' c' room' xs') : g ≠ c' := by
  rintro rfl
  obtain ⟨h1, _⟩ := h
  obtain ⟨_, s, r, h2⟩ := h'
  rw [h1] at h2
  cases h2

theorem QAt.set {w : World} {T g c room : Nat} {xs ys : List Value} (s r : Nat) (h : QAt w T g c room xs) : QAt (w.setChan c room ys.toArray false s r false) T g c room ys := by
  have hl := h.lt
  have hne := h.ne h
  refine ⟨?_, s, r, heap_setChan w c room _ false s r false hl.2⟩
  simp only [World.setChan]
  rw [Array.getElem?_setIfInBounds_ne (Ne.symm hne)]
  exact h.1

theorem QAt.other {w : World} {T g c room T' g' c' room' : Nat} {xs xs' : List Value} (s r : Nat) (buf : Array Value) (h : QAt w T g c room xs) (h' : QAt w T' g' c' room' xs') (hne : c ≠ c') : QAt (w.setChan c' room' buf false s r false) T g c room xs := by
  obtain ⟨h1, s', r', h2⟩ := h
  refine ⟨?_, s', r', ?_⟩
  · simp only [World.setChan]
    rw [Array.getElem?_setIfInBounds_ne (Ne.symm (QAt.ne ⟨h1, s', r', h2⟩ h'))]
    exact h1
  · simp only [World.setChan]
    rw [Array.getElem?_setIfInBounds_ne (Ne.symm hne)]
    exact h2

theorem QAt.below {w w' : World} {B T g c room : Nat} {xs : List Value} (h : QAt w T g c room xs) (hb : Below B w w') (hg : g < B) (hc : c < B) : QAt w' T g c room xs := by
  obtain ⟨h1, s, r, h2⟩ := h
  exact ⟨(hb.block g hg).trans h1, s, r, (hb.block c hc).trans h2⟩


theorem run_equalIn_chan {P : Program} (w : World) (d : Nat) (t : TypeId) {dir : ChanDir} {e : TypeId} (a b : Option Nat) (h : P.underlying t = some (.chan dir e)) :
    (Op.equalIn (d + 1) t (.chan a) (.chan b)).run P w = .ok (a == b) w := by
  simp [Op.equalIn, run_underlying h]
theorem run_neq_chan_nil {P : Program} (w : World) (t : TypeId) {dir : ChanDir} {e : TypeId} (c : Nat) (h : P.underlying t = some (.chan dir e)) :
    (binOp .neq t (.chan (some c)) (.chan none)).run P w = .ok (.bool true) w := by
  simp only [binOp]
  simp [Op.equal, Op.maxDepth, run_equalIn_chan w 9999 t (some c) none h]

theorem info_chan_int {P : Program} {e : TypeId} {z : Option Value} {sz : Nat} (h : (P.info? e).map (fun i => (i.zero, i.size, i.bytes)) = some (z, sz, 8)) :
    ∃ i, P.info? e = some i ∧ i.bytes = 8 := by
  cases hi : P.info? e with
  | none => rw [hi] at h; cases h
  | some i => rw [hi] at h; simp at h; exact ⟨i, rfl, h.2.2⟩
theorem info_chan_str {P : Program} {e : TypeId} {z : Option Value} {sz : Nat} (h : (P.info? e).map (fun i => (i.zero, i.size, i.bytes)) = some (z, sz, 16)) :
    ∃ i, P.info? e = some i ∧ i.bytes = 16 := by
  cases hi : P.info? e with
  | none => rw [hi] at h; cases h
  | some i => rw [hi] at h; simp at h; exact ⟨i, rfl, h.2.2⟩

set_option maxHeartbeats 400000 in
theorem made_yes (w : World) (g c room : Nat) (xs : List Value) (hq : QAt w 58 g c room xs) :
    Calls Try.prog 24 #[.pointer (some ⟨g, 0, none⟩)] w fun e w' => e = .returned (.bool true) ∧ w = w' := by
  have hc := hq.cell
  clear hq
  have hn := fun w => run_neq_chan_nil (P := Try.prog) w 56 c Try.underlying56
  go_enter Try.func24, Try.ntmps24
  go_wp2
  go_ret
  exact ⟨rfl, rfl⟩

set_option maxHeartbeats 400000 in
theorem made_no (w : World) :
    Calls Try.prog 24 #[.pointer none] w fun e w' => e = .returned (.bool false) ∧ w = w' := by
  go_enter Try.func24, Try.ntmps24
  go_wp2
  go_ret
  exact ⟨rfl, rfl⟩

set_option maxHeartbeats 400000 in
theorem put_room (w : World) (g c room : Nat) (xs : List Value) (x : Int) (hq : QAt w 58 g c room xs) (hr : xs.length < room) :
    Calls Try.prog 18 #[.pointer (some ⟨g, 0, none⟩), .int .i64 x] w fun e w' => e = .returned (.int .i64 0) ∧ ∃ s r, w.setChan c room (xs ++ [Value.int .i64 x]).toArray false s r false = w' := by
  have hc := hq.cell
  go_enter Try.func18, Try.ntmps18
  go_upto_region 5 with (go_at_call 24; refine (made_yes _ _ _ _ _ hq).mono ?_; rintro e w' ⟨rfl, rfl⟩)
  obtain ⟨_, s, r, hch⟩ := hq
  refine wp_region_comm (cases := #[scase c (.int .i64 x) (.int .i64 0)]) (blocking := false) (shape := .select) rfl (by simp [go_sem, execOp, scase, Act.eval])
    (fun fr cs es h => step_lone_select_send_room h hch (by simpa using hr)) ?_
  simp only [List.push_toArray]
  clear hch
  go_wp2
  go_ret
  exact ⟨rfl, _, _, rfl⟩

set_option maxHeartbeats 400000 in
theorem put_full (w : World) (g c room : Nat) (xs : List Value) (x : Int) (hq : QAt w 58 g c room xs) (hr : room ≤ xs.length) :
    Calls Try.prog 18 #[.pointer (some ⟨g, 0, none⟩), .int .i64 x] w fun e w' => e = .returned (.int .i64 3) ∧ w = w' := by
  have hc := hq.cell
  go_enter Try.func18, Try.ntmps18
  go_upto_region 5 with (go_at_call 24; refine (made_yes _ _ _ _ _ hq).mono ?_; rintro e w' ⟨rfl, rfl⟩)
  obtain ⟨_, s, r, hch⟩ := hq
  refine wp_region_comm (cases := #[scase c (.int .i64 x) (.int .i64 0)]) (blocking := false) (shape := .select) rfl (by simp [go_sem, execOp, scase, Act.eval])
    (fun fr cs es h => step_lone_select_send_full h hch (by simpa using hr)) ?_
  clear hch
  go_wp2
  go_ret
  exact ⟨rfl, rfl⟩

set_option maxHeartbeats 400000 in
theorem put_nil (w : World) (x : Int) :
    Calls Try.prog 18 #[.pointer none, .int .i64 x] w fun e w' => e = .returned (.int .i64 1) ∧ w = w' := by
  go_enter Try.func18, Try.ntmps18
  go_wp2_with (go_at_call 24; refine (made_no _).mono ?_; rintro e w' ⟨rfl, rfl⟩)
  go_ret
  exact ⟨rfl, rfl⟩

set_option maxHeartbeats 400000 in
theorem take_some (w : World) (g c room : Nat) (x : Value) (xs : List Value) (hq : QAt w 58 g c room (x :: xs)) :
    Calls Try.prog 21 #[.pointer (some ⟨g, 0, none⟩)] w fun e w' => e = .returned (.tuple #[x, .bool true]) ∧ ∃ s r, w.setChan c room xs.toArray false s r false = w' := by
  have hc := hq.cell
  go_enter Try.func21, Try.ntmps21
  go_upto_region 5 with (go_at_call 24; refine (made_yes _ _ _ _ _ hq).mono ?_; rintro e w' ⟨rfl, rfl⟩)
  obtain ⟨_, s, r, hch⟩ := hq
  refine wp_region_comm (cases := #[rcase c (.int .i64 0)]) (blocking := false) (shape := .select) rfl (by simp [go_sem, execOp, rcase, Act.eval])
    (fun fr cs es h => step_lone_select_recv_buf h hch (by simp)) ?_
  have hx : (x :: xs).toArray.extract 1 (x :: xs).toArray.size = xs.toArray := by simp
  have hx' : (x :: xs).toArray.getD 0 undef = x := by simp
  rw [hx, hx']
  clear hch hx hx'
  go_wp2
  go_ret2
  exact ⟨rfl, _, _, rfl⟩

set_option maxHeartbeats 400000 in
theorem take_none (w : World) (g c room : Nat) (hq : QAt w 58 g c room []) :
    Calls Try.prog 21 #[.pointer (some ⟨g, 0, none⟩)] w fun e w' => e = .returned (.tuple #[.int .i64 0, .bool false]) ∧ w = w' := by
  have hc := hq.cell
  go_enter Try.func21, Try.ntmps21
  go_upto_region 5 with (go_at_call 24; refine (made_yes _ _ _ _ _ hq).mono ?_; rintro e w' ⟨rfl, rfl⟩)
  obtain ⟨_, s, r, hch⟩ := hq
  refine wp_region_comm (cases := #[rcase c (.int .i64 0)]) (blocking := false) (shape := .select) rfl (by simp [go_sem, execOp, rcase, Act.eval])
    (fun fr cs es h => step_lone_select_default h hch) ?_
  clear hch
  go_wp2
  go_ret2
  exact ⟨rfl, rfl⟩

set_option maxHeartbeats 400000 in
theorem take_nil (w : World) :
    Calls Try.prog 21 #[.pointer none] w fun e w' => e = .returned (.tuple #[.int .i64 0, .bool false]) ∧ w = w' := by
  go_enter Try.func21, Try.ntmps21
  go_wp2_with (go_at_call 24; refine (made_no _).mono ?_; rintro e w' ⟨rfl, rfl⟩)
  go_ret2
  exact ⟨rfl, rfl⟩

set_option maxHeartbeats 400000 in
theorem len_any (w : World) (g c room : Nat) (xs : List Value) (hq : QAt w 58 g c room xs) :
    Calls Try.prog 11 #[.pointer (some ⟨g, 0, none⟩)] w fun e w' => e = .returned (.int .i64 xs.length) ∧ w = w' := by
  have hc := hq.cell
  obtain ⟨s, r, hch⟩ := hq.2
  have hlen := fun ty => run_len_chan (P := Try.prog) 56 ty Try.underlying56 hch
  go_enter Try.func11, Try.ntmps11
  clear hch
  go_wp2_with (go_at_call 24; refine (made_yes _ _ _ _ _ hq).mono ?_; rintro e w' ⟨rfl, rfl⟩)
  go_ret
  exact ⟨by simp, rfl⟩

set_option maxHeartbeats 400000 in
theorem room_any (w : World) (g c room : Nat) (xs : List Value) (hq : QAt w 58 g c room xs) :
    Calls Try.prog 12 #[.pointer (some ⟨g, 0, none⟩)] w fun e w' => e = .returned (.int .i64 room) ∧ w = w' := by
  have hc := hq.cell
  obtain ⟨s, r, hch⟩ := hq.2
  have hlen := fun ty => run_cap_chan (P := Try.prog) 56 ty Try.underlying56 hch
  go_enter Try.func12, Try.ntmps12
  clear hch
  go_wp2_with (go_at_call 24; refine (made_yes _ _ _ _ _ hq).mono ?_; rintro e w' ⟨rfl, rfl⟩)
  go_ret
  exact ⟨by simp, rfl⟩

theorem Try.info3x : (Try.prog.info? 3).map (fun i => (i.zero, i.size, i.bytes)) = some (some (.int .i64 0), 1, 8) := by kernel_rfl

set_option maxHeartbeats 400000 in
theorem new_yes (w : World) (n : Nat) (h1 : 1 ≤ n) (h2 : n ≤ 1000) :
    Calls Try.prog 7 #[.int .i64 n] w fun e w' => e = .returned (.tuple #[.pointer (some ⟨w.heap.size + 1, 0, none⟩), .int .i64 0]) ∧ QAt w' 58 (w.heap.size + 1) w.heap.size n [] ∧ Below w.heap.size w w' ∧ w.heap.size + 2 = w'.heap.size := by
  obtain ⟨i, hi, hb⟩ := info_chan_int Try.info3x
  have hmk := fun w => run_makeChan (P := Try.prog) (w := w) Try.underlying56 hi .i64 n (by omega) (by rw [hb]; omega)
  go_enter Try.func7, Try.ntmps7
  go_wp2
  go_ret2
  refine ⟨rfl, ⟨?_, 0, 0, ?_⟩, ((Below.refl _ _).alloc (Nat.le_refl _) _).alloc (by simp) _, by simp⟩
  · have := heap_alloc_new (w.alloc (.chan n #[] false 0 0 false)) (.cells #[.chan (some w.heap.size)] 58)
    simpa only [World.size_alloc] using this
  · rw [Below.heap_alloc _ _ _ (by simp)]
    exact heap_alloc_new w _

set_option maxHeartbeats 400000 in
theorem new_no (w : World) (n : Int) (h : n < 1 ∨ 1000 < n) :
    Calls Try.prog 7 #[.int .i64 n] w fun e w' => e = .returned (.tuple #[.pointer none, .int .i64 2]) ∧ w = w' := by
  rcases h with h | h
  · go_enter Try.func7, Try.ntmps7
    go_wp2
    go_ret2
    exact ⟨rfl, rfl⟩
  · have h' : ¬ n < 1 := by omega
    go_enter Try.func7, Try.ntmps7
    go_wp2
    go_ret2
    exact ⟨rfl, rfl⟩
set_option maxHeartbeats 400000 in
theorem smade_yes (w : World) (g c room : Nat) (xs : List Value) (hq : QAt w 64 g c room xs) :
    Calls Try.prog 25 #[.pointer (some ⟨g, 0, none⟩)] w fun e w' => e = .returned (.bool true) ∧ w = w' := by
  have hc := hq.cell
  clear hq
  have hn := fun w => run_neq_chan_nil (P := Try.prog) w 62 c Try.underlying62
  go_enter Try.func25, Try.ntmps25
  go_wp2
  go_ret
  exact ⟨rfl, rfl⟩

set_option maxHeartbeats 400000 in
theorem smade_no (w : World) :
    Calls Try.prog 25 #[.pointer none] w fun e w' => e = .returned (.bool false) ∧ w = w' := by
  go_enter Try.func25, Try.ntmps25
  go_wp2
  go_ret
  exact ⟨rfl, rfl⟩

set_option maxHeartbeats 400000 in
theorem sput_room (w : World) (g c room : Nat) (xs : List Value) (x : ByteArray) (hq : QAt w 64 g c room xs) (hr : xs.length < room) :
    Calls Try.prog 14 #[.pointer (some ⟨g, 0, none⟩), .string x] w fun e w' => e = .returned (.int .i64 0) ∧ ∃ s r, w.setChan c room (xs ++ [Value.string x]).toArray false s r false = w' := by
  have hc := hq.cell
  go_enter Try.func14, Try.ntmps14
  go_upto_region 5 with (go_at_call 25; refine (smade_yes _ _ _ _ _ hq).mono ?_; rintro e w' ⟨rfl, rfl⟩)
  obtain ⟨_, s, r, hch⟩ := hq
  refine wp_region_comm (cases := #[scase c (.string x) (.string ⟨#[]⟩)]) (blocking := false) (shape := .select) rfl (by simp [go_sem, execOp, scase, Act.eval])
    (fun fr cs es h => step_lone_select_send_room h hch (by simpa using hr)) ?_
  simp only [List.push_toArray]
  clear hch
  go_wp2
  go_ret
  exact ⟨rfl, _, _, rfl⟩

set_option maxHeartbeats 400000 in
theorem sput_full (w : World) (g c room : Nat) (xs : List Value) (x : ByteArray) (hq : QAt w 64 g c room xs) (hr : room ≤ xs.length) :
    Calls Try.prog 14 #[.pointer (some ⟨g, 0, none⟩), .string x] w fun e w' => e = .returned (.int .i64 3) ∧ w = w' := by
  have hc := hq.cell
  go_enter Try.func14, Try.ntmps14
  go_upto_region 5 with (go_at_call 25; refine (smade_yes _ _ _ _ _ hq).mono ?_; rintro e w' ⟨rfl, rfl⟩)
  obtain ⟨_, s, r, hch⟩ := hq
  refine wp_region_comm (cases := #[scase c (.string x) (.string ⟨#[]⟩)]) (blocking := false) (shape := .select) rfl (by simp [go_sem, execOp, scase, Act.eval])
    (fun fr cs es h => step_lone_select_send_full h hch (by simpa using hr)) ?_
  clear hch
  go_wp2
  go_ret
  exact ⟨rfl, rfl⟩

set_option maxHeartbeats 400000 in
theorem sput_nil (w : World) (x : ByteArray) :
    Calls Try.prog 14 #[.pointer none, .string x] w fun e w' => e = .returned (.int .i64 1) ∧ w = w' := by
  go_enter Try.func14, Try.ntmps14
  go_wp2_with (go_at_call 25; refine (smade_no _).mono ?_; rintro e w' ⟨rfl, rfl⟩)
  go_ret
  exact ⟨rfl, rfl⟩

set_option maxHeartbeats 400000 in
theorem stake_some (w : World) (g c room : Nat) (x : Value) (xs : List Value) (hq : QAt w 64 g c room (x :: xs)) :
    Calls Try.prog 17 #[.pointer (some ⟨g, 0, none⟩)] w fun e w' => e = .returned (.tuple #[x, .bool true]) ∧ ∃ s r, w.setChan c room xs.toArray false s r false = w' := by
  have hc := hq.cell
  go_enter Try.func17, Try.ntmps17
  go_upto_region 5 with (go_at_call 25; refine (smade_yes _ _ _ _ _ hq).mono ?_; rintro e w' ⟨rfl, rfl⟩)
  obtain ⟨_, s, r, hch⟩ := hq
  refine wp_region_comm (cases := #[rcase c (.string ⟨#[]⟩)]) (blocking := false) (shape := .select) rfl (by simp [go_sem, execOp, rcase, Act.eval])
    (fun fr cs es h => step_lone_select_recv_buf h hch (by simp)) ?_
  have hx : (x :: xs).toArray.extract 1 (x :: xs).toArray.size = xs.toArray := by simp
  have hx' : (x :: xs).toArray.getD 0 undef = x := by simp
  rw [hx, hx']
  clear hch hx hx'
  go_wp2
  go_ret2
  exact ⟨rfl, _, _, rfl⟩

set_option maxHeartbeats 400000 in
theorem stake_none (w : World) (g c room : Nat) (hq : QAt w 64 g c room []) :
    Calls Try.prog 17 #[.pointer (some ⟨g, 0, none⟩)] w fun e w' => e = .returned (.tuple #[.string ⟨#[]⟩, .bool false]) ∧ w = w' := by
  have hc := hq.cell
  go_enter Try.func17, Try.ntmps17
  go_upto_region 5 with (go_at_call 25; refine (smade_yes _ _ _ _ _ hq).mono ?_; rintro e w' ⟨rfl, rfl⟩)
  obtain ⟨_, s, r, hch⟩ := hq
  refine wp_region_comm (cases := #[rcase c (.string ⟨#[]⟩)]) (blocking := false) (shape := .select) rfl (by simp [go_sem, execOp, rcase, Act.eval])
    (fun fr cs es h => step_lone_select_default h hch) ?_
  clear hch
  go_wp2
  go_ret2
  exact ⟨rfl, rfl⟩

set_option maxHeartbeats 400000 in
theorem stake_nil (w : World) :
    Calls Try.prog 17 #[.pointer none] w fun e w' => e = .returned (.tuple #[.string ⟨#[]⟩, .bool false]) ∧ w = w' := by
  go_enter Try.func17, Try.ntmps17
  go_wp2_with (go_at_call 25; refine (smade_no _).mono ?_; rintro e w' ⟨rfl, rfl⟩)
  go_ret2
  exact ⟨rfl, rfl⟩

set_option maxHeartbeats 400000 in
theorem slen_any (w : World) (g c room : Nat) (xs : List Value) (hq : QAt w 64 g c room xs) :
    Calls Try.prog 15 #[.pointer (some ⟨g, 0, none⟩)] w fun e w' => e = .returned (.int .i64 xs.length) ∧ w = w' := by
  have hc := hq.cell
  obtain ⟨s, r, hch⟩ := hq.2
  have hlen := fun ty => run_len_chan (P := Try.prog) 62 ty Try.underlying62 hch
  go_enter Try.func15, Try.ntmps15
  clear hch
  go_wp2_with (go_at_call 25; refine (smade_yes _ _ _ _ _ hq).mono ?_; rintro e w' ⟨rfl, rfl⟩)
  go_ret
  exact ⟨by simp, rfl⟩

set_option maxHeartbeats 400000 in
theorem sroom_any (w : World) (g c room : Nat) (xs : List Value) (hq : QAt w 64 g c room xs) :
    Calls Try.prog 16 #[.pointer (some ⟨g, 0, none⟩)] w fun e w' => e = .returned (.int .i64 room) ∧ w = w' := by
  have hc := hq.cell
  obtain ⟨s, r, hch⟩ := hq.2
  have hlen := fun ty => run_cap_chan (P := Try.prog) 62 ty Try.underlying62 hch
  go_enter Try.func16, Try.ntmps16
  clear hch
  go_wp2_with (go_at_call 25; refine (smade_yes _ _ _ _ _ hq).mono ?_; rintro e w' ⟨rfl, rfl⟩)
  go_ret
  exact ⟨by simp, rfl⟩

theorem Try.info9x : (Try.prog.info? 9).map (fun i => (i.zero, i.size, i.bytes)) = some (some (.string ⟨#[]⟩), 1, 16) := by kernel_rfl

set_option maxHeartbeats 400000 in
theorem snew_yes (w : World) (n : Nat) (h1 : 1 ≤ n) (h2 : n ≤ 1000) :
    Calls Try.prog 13 #[.int .i64 n] w fun e w' => e = .returned (.tuple #[.pointer (some ⟨w.heap.size + 1, 0, none⟩), .int .i64 0]) ∧ QAt w' 64 (w.heap.size + 1) w.heap.size n [] ∧ Below w.heap.size w w' ∧ w.heap.size + 2 = w'.heap.size := by
  obtain ⟨i, hi, hb⟩ := info_chan_str Try.info9x
  have hmk := fun w => run_makeChan (P := Try.prog) (w := w) Try.underlying62 hi .i64 n (by omega) (by rw [hb]; omega)
  go_enter Try.func13, Try.ntmps13
  go_wp2
  go_ret2
  refine ⟨rfl, ⟨?_, 0, 0, ?_⟩, ((Below.refl _ _).alloc (Nat.le_refl _) _).alloc (by simp) _, by simp⟩
  · have := heap_alloc_new (w.alloc (.chan n #[] false 0 0 false)) (.cells #[.chan (some w.heap.size)] 64)
    simpa only [World.size_alloc] using this
  · rw [Below.heap_alloc _ _ _ (by simp)]
    exact heap_alloc_new w _

set_option maxHeartbeats 400000 in
theorem snew_no (w : World) (n : Int) (h : n < 1 ∨ 1000 < n) :
    Calls Try.prog 13 #[.int .i64 n] w fun e w' => e = .returned (.tuple #[.pointer none, .int .i64 2]) ∧ w = w' := by
  rcases h with h | h
  · go_enter Try.func13, Try.ntmps13
    go_wp2
    go_ret2
    exact ⟨rfl, rfl⟩
  · have h' : ¬ n < 1 := by omega
    go_enter Try.func13, Try.ntmps13
    go_wp2
    go_ret2
    exact ⟨rfl, rfl⟩

theorem setChan_grown {w : World} {T g c room : Nat} {xs : List Value} (s r : Nat) (buf : Array Value) (_h : QAt w T g c room xs) : w.grownBy (w.setChan c room buf false s r false) (some c) :=
  ⟨rfl, rfl, rfl, by simp [World.setChan], fun i _ hne => by simp only [World.setChan]; rw [Array.getElem?_setIfInBounds_ne (fun e => hne (by rw [e]))]⟩
theorem QAt.grown {w w' : World} {T g c room T' g' c' room' : Nat} {xs xs' : List Value} (h : QAt w T g c room xs) (h' : QAt w T' g' c' room' xs') (hg : w.grownBy w' (some c')) (hne : c ≠ c') : QAt w' T g c room xs := by
  have hl := h.lt
  have hn := h.ne h'
  obtain ⟨h1, s, r, h2⟩ := h
  exact ⟨(hg.block g hl.1 (fun e => hn (by injection e))).trans h1, s, r, (hg.block c hl.2 (fun e => hne (by injection e))).trans h2⟩
theorem QAt.grownOther {w w' : World} {T g c room : Nat} {xs : List Value} {row : Option Nat} (h : QAt w T g c room xs) (hg : w.grownBy w' row) (h1 : some g ≠ row) (h2 : some c ≠ row) : QAt w' T g c room xs := by
  have hl := h.lt
  obtain ⟨h3, s, r, h4⟩ := h
  exact ⟨(hg.block g hl.1 h1).trans h3, s, r, (hg.block c hl.2 h2).trans h4⟩
theorem QAt.alloc {w : World} {T g c room : Nat} {xs : List Value} (h : QAt w T g c room xs) (o : Obj) : QAt (w.alloc o) T g c room xs := by
  have hl := h.lt
  obtain ⟨h3, s, r, h4⟩ := h
  exact ⟨(Below.heap_alloc w o g hl.1).trans h3, s, r, (Below.heap_alloc w o c hl.2).trans h4⟩
theorem QAt.drewN {w : World} {T g c room : Nat} {xs : List Value} (h : QAt w T g c room xs) (n : Nat) : QAt (w.drewN n) T g c room xs := h

theorem put_yes (w : World) (g c room : Nat) (xs : List Value) (x : Int) (hq : QAt w 58 g c room xs) (hr : xs.length < room) :
    Calls Try.prog 18 #[.pointer (some ⟨g, 0, none⟩), .int .i64 x] w fun e w' => e = .returned (.int .i64 0) ∧ QAt w' 58 g c room (xs ++ [Value.int .i64 x]) ∧ w.grownBy w' (some c) :=
  (put_room w g c room xs x hq hr).mono fun e w' ⟨h1, s, r, h2⟩ => by subst h2; exact ⟨h1, hq.set s r, setChan_grown s r _ hq⟩
theorem sput_yes (w : World) (g c room : Nat) (xs : List Value) (x : ByteArray) (hq : QAt w 64 g c room xs) (hr : xs.length < room) :
    Calls Try.prog 14 #[.pointer (some ⟨g, 0, none⟩), .string x] w fun e w' => e = .returned (.int .i64 0) ∧ QAt w' 64 g c room (xs ++ [Value.string x]) ∧ w.grownBy w' (some c) :=
  (sput_room w g c room xs x hq hr).mono fun e w' ⟨h1, s, r, h2⟩ => by subst h2; exact ⟨h1, hq.set s r, setChan_grown s r _ hq⟩
theorem take_yes (w : World) (g c room : Nat) (x : Value) (xs : List Value) (hq : QAt w 58 g c room (x :: xs)) :
    Calls Try.prog 21 #[.pointer (some ⟨g, 0, none⟩)] w fun e w' => e = .returned (.tuple #[x, .bool true]) ∧ QAt w' 58 g c room xs ∧ w.grownBy w' (some c) :=
  (take_some w g c room x xs hq).mono fun e w' ⟨h1, s, r, h2⟩ => by subst h2; exact ⟨h1, hq.set s r, setChan_grown s r _ hq⟩
theorem stake_yes (w : World) (g c room : Nat) (x : Value) (xs : List Value) (hq : QAt w 64 g c room (x :: xs)) :
    Calls Try.prog 17 #[.pointer (some ⟨g, 0, none⟩)] w fun e w' => e = .returned (.tuple #[x, .bool true]) ∧ QAt w' 64 g c room xs ∧ w.grownBy w' (some c) :=
  (stake_some w g c room x xs hq).mono fun e w' ⟨h1, s, r, h2⟩ => by subst h2; exact ⟨h1, hq.set s r, setChan_grown s r _ hq⟩

set_option maxHeartbeats 400000 in
theorem either_fst (w : World) (g c room : Nat) (b : Value) (x : Value) (xs : List Value) (hq : QAt w 58 g c room (x :: xs)) :
    Calls Try.prog 19 #[.pointer (some ⟨g, 0, none⟩), b] w fun e w' => e = .returned (.tuple #[x, .bool true]) ∧ QAt w' 58 g c room xs ∧ w.grownBy w' (some c) := by
  go_enter Try.func19, Try.ntmps19
  go_wp2_with (go_at_call 21; refine (take_yes _ _ _ _ _ _ hq).mono ?_; rintro e w' ⟨rfl, hq', hg⟩)
  go_ret2
  exact ⟨rfl, hq', hg⟩
set_option maxHeartbeats 400000 in
theorem either_snd (w : World) (g c room g' c' room' : Nat) (x : Value) (xs : List Value) (hq : QAt w 58 g c room []) (hq' : QAt w 58 g' c' room' (x :: xs)) :
    Calls Try.prog 19 #[.pointer (some ⟨g, 0, none⟩), .pointer (some ⟨g', 0, none⟩)] w fun e w' => e = .returned (.tuple #[x, .bool true]) ∧ QAt w' 58 g' c' room' xs ∧ w.grownBy w' (some c') := by
  go_enter Try.func19, Try.ntmps19
  go_wp2_with fail
  refine (take_none _ _ _ _ hq).mono ?_
  rintro e w' ⟨rfl, rfl⟩
  go_wp2_with fail
  refine (take_yes _ _ _ _ _ _ hq').mono ?_
  rintro e w' ⟨rfl, h1, h2⟩
  go_wp2_with fail
  go_ret2
  exact ⟨rfl, h1, h2⟩
set_option maxHeartbeats 400000 in
theorem either_none (w : World) (g c room g' c' room' : Nat) (hq : QAt w 58 g c room []) (hq' : QAt w 58 g' c' room' []) :
    Calls Try.prog 19 #[.pointer (some ⟨g, 0, none⟩), .pointer (some ⟨g', 0, none⟩)] w fun e w' => e = .returned (.tuple #[.int .i64 0, .bool false]) ∧ w = w' := by
  go_enter Try.func19, Try.ntmps19
  go_wp2_with fail
  refine (take_none _ _ _ _ hq).mono ?_
  rintro e w' ⟨rfl, rfl⟩
  go_wp2_with fail
  refine (take_none _ _ _ _ hq').mono ?_
  rintro e w' ⟨rfl, rfl⟩
  go_wp2_with fail
  go_ret2
  exact ⟨rfl, rfl⟩
end Go.Proofs.Ytonikpljhbnoiaa
