/-
  The reference's Div: the quotient of a number and one above 0, rounded down, and what is left.
-/
import Derived.Test.YtioecjoddgpjbaaWide3
namespace Go.Proofs.Ytioecjoddgpjbaa
open Go.RowKit

/-- A row of digits in new memory. -/
def DigRow (P : List Int → Prop) (N : Nat) (w : World) (v : Value) : Prop :=
  ∃ A c o, v = .slice A o.length c ∧ P o ∧ o.length ≤ c ∧ c ≤ maxLen ∧ RowS (fun b => N ≤ b) w A (ivals o)
theorem DigRow.below {P : List Int → Prop} {N B : Nat} {w w' : World} {v : Value} (h : DigRow P N w v) (hb : Below B w w') (hB : w.heap.size ≤ B) : DigRow P N w' v := by
  obtain ⟨A, c, o, h1, h2, h3, h4, h5⟩ := h
  exact ⟨A, c, o, h1, h2, h3, h4, h5.below hb hB⟩

/-- What the loop over the digits keeps: the quotient of those that were taken, and what is left. -/
def DivQ (xs ys : List Int) (k : Nat) (r : Int) (q : List Int) : Prop := Dg q ∧ q.length = xs.length - k ∧ val (xs.drop k) = val q * val ys + r ∧ 0 ≤ r ∧ r < val ys
/-- What the loop over one digit keeps: how often the divisor was taken off. -/
def DivN (d R B : Int) (n : Nat) (r : Int) : Prop := r + n * B = d + 10 * R ∧ 0 ≤ r
theorem divN_le {d R B : Int} {n : Nat} {r : Int} (d9 : d ≤ 9) (hR : R < B) (hB : 0 < B) (h : DivN d R B n r) : n ≤ 9 := by
  have := div_digit (n := (n : Int)) d9 hR h.2 h.1 hB
  omega
theorem divN_next {d R B : Int} {n : Nat} {r r' : Int} (h : DivN d R B n r) (hr : r' = r - B) (h0 : 0 ≤ r') : DivN d R B (n + 1) r' := by
  refine ⟨?_, h0⟩
  have e : ((n + 1 : Nat) : Int) * B = n * B + B := by
    rw [Int.natCast_add, Int.add_mul]
    omega
  rw [e, ← h.1]
  omega
theorem divQ_next {xs ys : List Int} {k : Nat} {R : Int} {q : List Int} {d r : Int} {n : Nat} (hk : k < xs.length) (hq : DivQ xs ys (k + 1) R q) (hd : val (xs.drop k) = d + 10 * val (xs.drop (k + 1))) (hn : DivN d R (val ys) n r) (h9 : n ≤ 9) (hr : r < val ys) : DivQ xs ys k r ((n : Int) :: q) := by
  obtain ⟨h1, h2, h3, h4, h5⟩ := hq
  refine ⟨?_, by simp; omega, div_step hd h3 hn.1, hn.2, hr⟩
  intro x hx
  rcases List.mem_cons.1 hx with rfl | hx
  · omega
  · exact h1 x hx

theorem bigIs_pos {S : Nat → Prop} {w : World} {A : Option Addr} {c : Nat} {xs : List Int} {L : Nat} (h1 : Can xs) (h2 : xs.length ≤ L) (h3 : xs.length ≤ c) (h4 : c ≤ maxLen) (h5 : RowS S w A (ivals xs)) : BigIs S w (.agg #[.bool false, .slice A xs.length c]) (val xs) L := by
  have h0 := val_nonneg h1.1
  refine ⟨A, c, xs, ?_, h1, by omega, h2, h3, h4, h5⟩
  rw [decide_eq_false (by omega : ¬ val xs < 0)]
theorem trim_s {S : Nat → Prop} {w : World} {A : Option Addr} {c : Nat} {o : List Int} (h1 : o.length ≤ c) (h2 : c ≤ maxLen) (hr : RowS S w A (ivals o)) (hd : Dg o) :
    ∃ t, Can t ∧ val t = val o ∧ t.length ≤ o.length ∧ RowS S w A (ivals t) ∧ Calls Try.prog 47 #[.slice A o.length c] w fun e w' => e = .returned (.slice A t.length c) ∧ w = w' := by
  have ht := trimLen_le o o.length
  have hl : (o.take (trimLen o o.length)).length = trimLen o o.length := by rw [List.length_take]; exact Nat.min_eq_left ht
  refine ⟨o.take (trimLen o o.length), trim_can o hd _ (Nat.le_refl _), by rw [trim_val o _ (Nat.le_refl _), List.take_length], by omega, ?_, ?_⟩
  · rw [ivals_take]
    exact hr.take _
  · rw [hl]
    exact trim_any A c o w h1 h2 hr.at
theorem divN_len {d R : Int} {ys rs : List Int} {n : Nat} (d9 : d ≤ 9) (hR : R < val ys) (hy : Dg ys) (hrs : Can rs) (h : DivN d R (val ys) n (val rs)) : rs.length ≤ ys.length + 1 := by
  refine can_len hrs ?_
  have h1 := val_lt hy
  have h2 : 0 ≤ (n : Int) * val ys := Int.mul_nonneg (by omega) (val_nonneg hy)
  have h3 := h.1
  show _ < 10 * ten ys.length
  omega

/-- What Div leaves: two new numbers. -/
def DivOut (x B : Int) (Lq Lr : Nat) (w : World) (e : Ending) (w' : World) : Prop :=
  ∃ (v u : Value) (Q R : Int), e = .returned (.tuple #[v, u]) ∧ BigIs (fun b => w.heap.size ≤ b) w' v Q Lq ∧ BigIs (fun b => w.heap.size ≤ b) w' u R Lr ∧ x = Q * B + R ∧ 0 ≤ R ∧ R < B ∧ Below w.heap.size w w'

theorem digits_b {A A' : Option Addr} {c c' : Nat} {xs ys : List Int} {w : World} {q : Int} (hq : cmpI (val xs) (val ys) = q) (hm : xs.length ≤ 100000) (hm' : ys.length ≤ 100000) (cx : Can xs) (cy : Can ys) (hr : RowAt w A (ivals xs)) (hr' : RowAt w A' (ivals ys)) :
    Calls Try.prog 33 #[.slice A xs.length c, .slice A' ys.length c'] w fun e w' => e = .returned (.int .i64 q) ∧ Below w.heap.size w w' :=
  (digits_any A c xs A' c' ys w hm hm' cx cy hr hr').mono fun _ _ ⟨h, n, hn⟩ => by
    subst hn hq
    exact ⟨h, below_drewN (Below.refl _ _) n⟩
theorem below_undr {w w' : World} {o : Obj} (h : Below (w.alloc o).drew.heap.size (w.alloc o).drew w') : Below w.heap.size w w' := below_up (below_undrew h)
theorem sz_ad (w : World) (o : Obj) : w.heap.size ≤ (w.alloc o).drew.heap.size := by
  show w.heap.size ≤ (w.alloc o).heap.size
  simp
theorem RowAt.litd {w : World} {t : TypeId} (l : List Int) (cs : Array Value) (h : cs = (ivals l).toArray) : RowAt (w.alloc (.cells cs t)) (some ⟨w.heap.size, 0, none⟩) (ivals l) := by
  intro hn
  refine ⟨w.heap.size, 0, rfl, by simp, fun j u hj => ?_⟩
  rw [Nat.zero_add, Box.cells (Box.new w t cs) j, h]
  simpa using hj
theorem own_one {w : World} {x : Int} {g : Nat} (hg : g = w.heap.size) : (w.alloc (.cells #[.int .i64 x] 3)).ownsRow w.heap.size 3 1 (.slice (some ⟨g, 0, none⟩) 1 1) 1 [.int .i64 x] := by
  subst hg
  exact World.ownsRow_lit w #[.int .i64 x] 1 (Nat.le_refl _) (by unfold maxLen; omega) (by simp)

set_option maxRecDepth 100000 in
set_option maxHeartbeats 1600000 in
theorem div_raw (s : Bool) (v v' : Value) (hv : Hid (v = .bool s)) (A : Option Addr) (c : Nat) (xs : List Int) (x : Int) (hx : Hid (x = if s then -val xs else val xs)) (A' : Option Addr) (c' : Nat) (ys : List Int) (w : World) (hm : xs.length + ys.length ≤ 90000) (cx : Can xs) (cy : Can ys) (hy : 0 < val ys) (hr : RowAt w A (ivals xs)) (hr' : RowAt w A' (ivals ys)) :
    Calls Try.prog 78 #[.agg #[v, .slice A xs.length c], .agg #[v', .slice A' ys.length c']] w (DivOut x (val ys) (xs.length + 2) ys.length w) := by
  obtain ⟨i0, hi, hz0, hz1, hz2⟩ := info_parts Try.infoInt
  have R := Lib.hid hr
  have R' := Lib.hid hr'
  clear hr hr'
  go_enter Try.func78, Try.ntmps78
  go_wp2
  have k0 := (((((Box.new w 52 #[v, .slice A xs.length c]).alloc (.cells #[v', .slice A' ys.length c'] 52)).alloc (.cells #[.bool false, .slice none 0 0] 52))).alloc (.cells #[.bool false, .slice none 0 0] 52)).cells
  go_wp2
  clear k0
  go_loopw [6, 7, 8] (fun q r i wr => ∃ (k : Nat) (z : Int), k ≤ xs.length ∧ i = .int .i64 (k - 1) ∧ DigRow (DivQ xs ys k z) (w.heap.size + 4) wr q ∧
      DigRow (fun rs => Can rs ∧ val rs = z) (w.heap.size + 4) wr r ∧ Below w.heap.size w wr ∧
      Box wr w.heap.size 52 #[v, .slice A xs.length c] ∧ Box wr (w.heap.size + 1) 52 #[v', .slice A' ys.length c'] ∧ Box wr (w.heap.size + 2) 52 #[.bool false, .slice none 0 0] ∧ Box wr (w.heap.size + 3) 52 #[.bool false, .slice none 0 0]) (fun _ _ i _ => (intOf i + 1).toNat)
  case atStart =>
    refine ⟨xs.length, 0, Nat.le_refl _, rfl, ⟨none, 0, [], rfl, ⟨Dg.nil, by simp, by rw [val_drop_nil _ _ (Nat.le_refl _)]; simp [val], by omega, hy⟩, by simp, by simp, RowS.nil _ _ _⟩, ⟨none, 0, [], rfl, ⟨can_nil, rfl⟩, by simp, by simp, RowS.nil _ _ _⟩, (((((Below.refl _ _).alloc (Nat.le_refl _) _).alloc (by simp) _).alloc (by simp; omega) _).alloc (by simp; omega) _), (((Box.new _ _ _).alloc _).alloc _).alloc _, ((Box.new' (by simp)).alloc _).alloc _, (Box.new' (by simp)).alloc _, Box.new' (by simp)⟩
  case round =>
    obtain ⟨k, z, hk, rfl, ⟨Aq, cq, q, rfl, hq, hq1, hq2, rq⟩, ⟨Ar, cr, r, rfl, ⟨hrc, rfl⟩, hr1, hr2, rr⟩, hb, b0, b1, b2, b3⟩ := hrel
    obtain ⟨d1, d2, d3, d4, d5⟩ := hq
    have hrl : r.length ≤ ys.length := can_len_le hrc cy (by omega)
    rcases Nat.eq_zero_or_pos k with rfl | hk0
    · obtain ⟨t, ct, vt, lt, rt, T⟩ := trim_s hq1 hq2 rq d1
      have T := Lib.hid T
      rw [List.drop_zero, ← vt] at d3
      have HE := Lib.hid d3
      have q2 : t.length ≤ xs.length := by omega
      have q3 : t.length ≤ cq := by omega
      clear d3 vt d1 lt d2 hq1 rq
      have k0 := b0.cells
      have l0 := b0.lt
      have l1 := b1.lt
      have l2 := b2.lt
      have l3 := b3.lt
      have f2 := b2.free
      have f3 := b3.free
      have k2 := b2.cells
      have k3 := b3.cells
      have hv := hv.out
      subst hv
      cases s
      · go_wp2_with fail
        refine T.out.mono ?_
        rintro e _ ⟨rfl, rfl⟩
        go_wp2
        refine bodyPost_ret (by unfold results; simp only [Try.results78]; go_simp; rfl) rfl ?_
        have hxo := hx.out
        refine ⟨_, _, val t, val r, rfl, bigIs_pos ct (by omega) q3 hq2 (((((rt.setCell (by omega) _).setCell (by omega) _).setCell (by omega) _).setCell (by omega) _).mono (fun b _ h => by omega)), bigIs_pos hrc hrl hr1 hr2 (((((rr.setCell (by omega) _).setCell (by omega) _).setCell (by omega) _).setCell (by omega) _).mono (fun b _ h => by omega)), ?_, val_nonneg hrc.1, d5, (((hb.setCell (by simp; omega) _).setCell (by simp; omega) _).setCell (by simp; omega) _).setCell (by simp; omega) _⟩
        rw [hxo, HE.out]
        rfl
      · by_cases hr0 : 0 < r.length
        · have MO := Lib.hid fun (w : World) (A : Option Addr) (h1 : RowAt w Aq (ivals t)) (h2 : RowAt w A (ivals [1])) => more_any Aq cq t A 1 [1] w (by omega) (by simp) ct.1 (fun d h => by simp at h; omega) h1 h2
          simp only [List.length_cons, List.length_nil, Nat.zero_add] at MO
          have FW := Lib.hid fun (w1 : World) (h0 : Below w.heap.size w w1) (h1 : RowAt w1 Ar (ivals r)) => fewer_any A' c' ys Ar cr r w1 (by omega) cy hrc (by omega) (R'.out.below h0 (Nat.le_refl _)) h1
          have LZ := Lib.hid fun (zs : List Int) (h : zs.length ≤ max t.length 1 + 1) => show zs.length ≤ xs.length + 2 by omega
          have hs4 : w.heap.size + 4 ≤ wr.heap.size := l3
          have k1 := b1.cells
          go_wp2_with fail
          refine T.out.mono ?_
          rintro e _ ⟨rfl, rfl⟩
          clear T
          go_wp2_with fail
          go_region_with (first
            | (go_at_call 32; (with_reducible refine (MO.out _ _ ?_ ?_).mono ?_); (first | exact rt.at.alloc _ | exact (rt.at.alloc _).drew | exact rt.at.drew.alloc _); (first | exact RowAt.litd [1] _ rfl | exact (RowAt.litd [1] _ rfl).drew); rintro e w2 ⟨A2, c2, zs, rfl, cz, vz, lz, lz1, lz2, rz, bz⟩; have b1 : Box w2 (w.heap.size + 1) 52 #[v', .slice A' ys.length c'] := (by first | exact (b1.alloc _).later bz | exact ((b1.alloc _).drew).later bz | exact (b1.drew.alloc _).later bz); have b2 : Box w2 (w.heap.size + 2) 52 #[.bool false, .slice none 0 0] := (by first | exact (b2.alloc _).later bz | exact ((b2.alloc _).drew).later bz | exact (b2.drew.alloc _).later bz); have b3 : Box w2 (w.heap.size + 3) 52 #[.bool false, .slice none 0 0] := (by first | exact (b3.alloc _).later bz | exact ((b3.alloc _).drew).later bz | exact (b3.drew.alloc _).later bz); have rr : RowS (fun b => w.heap.size + 4 ≤ b) w2 Ar (ivals r) := (by first | exact (rr.alloc _).below bz (Nat.le_refl _) | exact ((rr.alloc _).drew).below bz (Nat.le_refl _) | exact (rr.drew.alloc _).below bz (Nat.le_refl _)); have hb2 : Below w.heap.size w w2 := hb.trans ((below_undr bz).mono hb.size); have k1 := b1.cells; have l1 := b1.lt; have k2 := b2.cells; have l2 := b2.lt; have k3 := b3.cells; have l3 := b3.lt; have f2 := b2.free; have f3 := b3.free; have rz := rz.mono (S' := fun b => w.heap.size + 4 ≤ b) (fun b _ h => Nat.le_trans hs4 (Nat.le_trans (sz_ad _ _) h)))
            | (go_at_call 35; (with_reducible refine (flip_any (bigIs_pos (L := xs.length + 2) cz (LZ.out zs lz) lz1 lz2 rz)).mono ?_); rintro e w3 ⟨v3, rfl, m3, b3f⟩; obtain ⟨t3, A3, n3, c3, rfl⟩ := m3.form2; have b1 : Box w3 (w.heap.size + 1) 52 #[v', .slice A' ys.length c'] := b1.later b3f; have b2 : Box w3 (w.heap.size + 2) 52 #[.bool false, .slice none 0 0] := b2.later b3f; have b3 : Box w3 (w.heap.size + 3) 52 #[.bool false, .slice none 0 0] := b3.later b3f; have rr : RowS (fun b => w.heap.size + 4 ≤ b) w3 Ar (ivals r) := rr.below b3f (Nat.le_refl _); have hb3 : Below w.heap.size w w3 := hb2.trans (b3f.mono hb2.size); have k1 := b1.cells; have l1 := b1.lt; have k2 := b2.cells; have l2 := b2.lt; have k3 := b3.cells; have l3 := b3.lt; have f2 := b2.free; have f3 := b3.free)
            | (go_at_call 34; (with_reducible refine (FW.out _ hb3 rr.at).mono ?_); rintro e w4 ⟨A4, c4, us, rfl, cu, vu, lu, lu1, lu2, ru, b4⟩; have b1 : Box w4 (w.heap.size + 1) 52 #[v', .slice A' ys.length c'] := b1.later b4; have b2 : Box w4 (w.heap.size + 2) 52 #[.bool false, .slice none 0 0] := b2.later b4; have b3 : Box w4 (w.heap.size + 3) 52 #[.bool false, .slice none 0 0] := b3.later b4; have rr : RowS (fun b => w.heap.size + 4 ≤ b) w4 Ar (ivals r) := rr.below b4 (Nat.le_refl _); have m3 := m3.below b4 (Nat.le_refl _); have hs3 := hb3.size; have hs34 := b3.lt; have hb4 : Below w.heap.size w w4 := hb3.trans (b4.mono hb3.size); have k1 := b1.cells; have l1 := b1.lt; have k2 := b2.cells; have l2 := b2.lt; have k3 := b3.cells; have l3 := b3.lt; have f2 := b2.free; have f3 := b3.free))
          all_goals
            go_wp2_with fail
            refine bodyPost_ret (by unfold results; simp only [Try.results78]; go_simp; rfl) rfl ?_
            clear MO FW k0 k1 k2 k3 f2 f3
            have hxo : x = -val xs := by simpa using hx.out
            have hrp : val r ≠ 0 := fun h => by
              rw [can_zero hrc h] at hr0
              simp at hr0
            have hrn := val_nonneg hrc.1
            have ru := ru.mono (S' := fun b => w.heap.size + 4 ≤ b) (fun b _ h => by omega)
            have m4 : BigIs (fun b => w.heap.size ≤ b) _ _ _ _ := (((((m3.setCell (g := w.heap.size + 2) (i := 0) (by omega) (.bool t3)).setCell (g := w.heap.size + 2) (i := 1) (by omega) (.slice A3 n3 c3)).setCell (g := w.heap.size + 3) (i := 0) (by omega) (.bool false)).setCell (g := w.heap.size + 3) (i := 1) (by omega) (.slice A4 us.length c4))).mono (fun b _ h => by omega) (Nat.le_refl _)
            refine ⟨_, _, -val zs, val us, rfl, m4, bigIs_pos cu (by omega) lu1 lu2 (((((ru.setCell (by omega) _).setCell (by omega) _).setCell (by omega) _).setCell (by omega) _).mono (fun b _ h => by omega)), ?_, val_nonneg cu.1, by omega, (((hb4.setCell (by simp; omega) _).setCell (by simp; omega) _).setCell (by simp; omega) _).setCell (by simp; omega) _⟩
            have v1 : val [1] = 1 := by simp [val]
            rw [hxo, HE.out, vz, vu, v1, Int.neg_mul, Int.add_mul, Int.one_mul]
            omega
        · obtain rfl : r = [] := List.eq_nil_of_length_eq_zero (by omega)
          have FL := Lib.hid (flip_any (bigIs_pos (L := xs.length + 2) ct (by omega) q3 hq2 rt))
          go_wp2_with fail
          refine T.out.mono ?_
          rintro e _ ⟨rfl, rfl⟩
          clear T
          go_wp2_with fail
          refine FL.out.mono ?_
          rintro e w3 ⟨v3, rfl, m3, bf⟩
          obtain ⟨t3, A3, n3, c3, rfl⟩ := m3.form2
          have hs4 := l3
          replace b2 := b2.later bf
          replace b3 := b3.later bf
          replace hb := hb.trans (bf.mono hb.size)
          clear k0 k2 k3 f2 f3 l0 l1 l2 l3 FL
          have l2 := b2.lt
          have l3 := b3.lt
          have f2 := b2.free
          have f3 := b3.free
          have k2 := b2.cells
          have k3 := b3.cells
          go_wp2
          refine bodyPost_ret (by unfold results; simp only [Try.results78]; go_simp; rfl) rfl ?_
          have hxo := hx.out
          have m4 : BigIs (fun b => w.heap.size ≤ b) _ _ _ _ := (((((m3.setCell (g := w.heap.size + 2) (i := 0) (by omega) (.bool t3)).setCell (g := w.heap.size + 2) (i := 1) (by omega) (.slice A3 n3 c3)).setCell (g := w.heap.size + 3) (i := 0) (by omega) (.bool false)).setCell (g := w.heap.size + 3) (i := 1) (by omega) (.slice none 0 0))).mono (fun b _ h => by omega) (Nat.le_refl _)
          refine ⟨_, _, -val t, 0, rfl, m4, ⟨none, 0, [], rfl, can_nil, rfl, Nat.zero_le _, Nat.le_refl _, Nat.zero_le _, RowS.nil _ _ _⟩, ?_, by omega, hy, (((hb.setCell (by simp; omega) _).setCell (by simp; omega) _).setCell (by simp; omega) _).setCell (by simp; omega) _⟩
          rw [hxo, HE.out]
          simp [val, Int.neg_mul]
    · obtain ⟨k, rfl⟩ : ∃ j, k = j + 1 := ⟨k - 1, by omega⟩
      have hq : DivQ xs ys (k + 1) (val r) q := ⟨d1, d2, d3, d4, d5⟩
      have HQ := Lib.hid hq
      have hql : q.length ≤ xs.length := by omega
      clear hq d1 d3 d2
      have l1 := b1.lt
      have hx1 := hb.size
      have hx4 := b3.lt
      obtain ⟨ba, offa, rfl, halt, hca⟩ := R.out.iget (by omega)
      have h1 : wr.cell? ⟨ba, offa + k, none⟩ = some (.int .i64 xs[k]) := (hb.cell (by exact halt)).trans (hca k (by omega))
      have hda := cx.1.get k (by omega)
      have Hda := Lib.hid (val_drop xs k (by omega))
      clear hca
      generalize xs[k] = d at *
      have k0 := b0.cells
      have hN : 1 + r.length ≤ 1099511627776 := by omega
      go_wp2_with (at_builtin; refine wpList_append_row rfl _ _ 50 rfl wr.heap.size 3 i0 (.int .i64 0) 8 Try.underlying50 hi hz0 hz1 hz2 rfl _ 1 [.int .i64 d] rfl (own_one rfl) Ar _ _ (ivals r) rfl (ivals_len r) (rr.at.alloc _) (ivals_one r) (by unfold maxLen; omega) (by omega) (by simp) ?_)
      intro A2 c2 w2 hown2 hg2 hs2 _
      have bb2 : Below wr.heap.size wr w2 := ((Below.refl _ _).alloc (Nat.le_refl _) _).grown hg2 (by simp) (by simp [Value.ownBlock])
      clear hg2 hs2 k0 h1
      obtain ⟨t, ct, vt, lt, n1, n2, rt, T⟩ := trim_row (o := d :: r) (c := c2) hown2 (by simp; omega) (by
        intro x hx
        rcases List.mem_cons.1 hx with rfl | hx
        · exact hda
        · exact hrc.1 x hx)
      have T := Lib.hid T
      have DN : DivN d (val r) (val ys) 0 (val t) := ⟨by rw [vt]; simp [val], val_nonneg ct.1⟩
      have HN := Lib.hid DN
      replace rq := rq.below bb2 (Nat.le_refl _)
      replace rr := rr.below bb2 (Nat.le_refl _)
      replace b0 := b0.later bb2
      replace b1 := b1.later bb2
      replace b2 := b2.later bb2
      replace b3 := b3.later bb2
      replace hb := hb.trans (bb2.mono hx1)
      have rt := rt.mono (S' := fun b => w.heap.size + 4 ≤ b) (fun b _ h => by have := b3.lt; omega)
      clear bb2 hown2 DN vt
      go_wp2_with fail
      refine T.out.mono ?_
      rintro e _ ⟨rfl, rfl⟩
      obtain ⟨wo, rfl⟩ : ∃ wo : World, wo = w2 := ⟨_, rfl⟩
      have ho4 : w.heap.size + 4 ≤ wo.heap.size := by have := b3.lt; omega
      clear T
      go_wp2_with fail
      go_loopw [7, 9] (fun v i wr => ∃ n : Nat, i = .int .i64 n ∧ DigRow (fun rs => Can rs ∧ DivN d (val r) (val ys) n (val rs)) (w.heap.size + 4) wr v ∧ Below wo.heap.size wo wr) (fun _ i _ => 10 - (intOf i).toNat)
      case atStart => exact ⟨0, rfl, ⟨A2, c2, t, rfl, ⟨ct, HN.out⟩, by omega, n2, rt⟩, Below.refl _ _⟩
      case round =>
        obtain ⟨n, rfl, ⟨Av, cv, rs, rfl, ⟨hrs, hdn⟩, e1, e2, rv⟩, hb1⟩ := hrel
        have h9 := divN_le hda.2 d5 hy hdn
        have hln := divN_len hda.2 d5 cy.1 hrs hdn
        have HD := Lib.hid hdn
        clear hdn rt HN ct
        have c1 := b1.later hb1
        have k1 := c1.cells
        have lc1 := c1.lt
        have hbw := hb.trans (hb1.mono hb.size)
        have ry : RowAt wr A' (ivals ys) := R'.out.below hbw (Nat.le_refl _)
        by_cases hlt : val rs < val ys
        · have hc : cmpI (val rs) (val ys) = -1 := if_pos hlt
          have C := Lib.hid (digits_b (c := cv) (c' := c') hc (by omega) (by omega) hrs cy rv.at ry)
          clear hc
          go_wp2_with fail
          refine C.out.mono ?_
          rintro e w3 ⟨rfl, bd⟩
          clear C k1
          replace rv := rv.below bd (Nat.le_refl _)
          replace hb1 := hb1.trans (bd.mono hb1.size)
          replace hbw := hbw.trans (bd.mono hbw.size)
          replace rq := rq.below hb1 (Nat.le_refl _)
          have x0 := b0.later hb1
          have x1 := b1.later hb1
          have x2 := b2.later hb1
          have x3 := b3.later hb1
          have hN : 1 + q.length ≤ 1099511627776 := by omega
          clear b0 b1 b2 b3 c1 ry bd
          go_wp2_with (at_builtin; refine wpList_append_row rfl _ _ 50 rfl w3.heap.size 3 i0 (.int .i64 0) 8 Try.underlying50 hi hz0 hz1 hz2 rfl _ 1 [.int .i64 n] rfl (own_one rfl) Aq _ _ (ivals q) rfl (ivals_len q) (rq.at.alloc _) (ivals_one q) (by unfold maxLen; omega) (by omega) (by simp) ?_)
          intro A5 c5 w5 hown5 hg5 hs5 _
          have bb5 : Below w3.heap.size w3 w5 := ((Below.refl _ _).alloc (Nat.le_refl _) _).grown hg5 (by simp) (by simp [Value.ownBlock])
          have hcap := own_cap hown5
          have rq5 := RowS.of_own (S := fun b => w.heap.size + 4 ≤ b) hown5 (fun b h _ => by have := x3.lt; omega)
          clear hg5 hs5 hown5
          replace rv := rv.below bb5 (Nat.le_refl _)
          replace x0 := x0.later bb5
          replace x1 := x1.later bb5
          replace x2 := x2.later bb5
          replace x3 := x3.later bb5
          replace hbw := hbw.trans (bb5.mono hbw.size)
          have NQ := Lib.hid (divQ_next (by omega) HQ.out Hda.out HD.out h9 hlt)
          go_wp2
          go_roundw
          case rel => exact ⟨k, val rs, by omega, by go_num, ⟨A5, c5, (n : Int) :: q, by rw [List.length_cons, Nat.add_comm], NQ.out, by rw [List.length_cons]; omega, hcap.2, rq5⟩, ⟨Av, cv, rs, rfl, ⟨hrs, rfl⟩, e1, e2, rv⟩, hbw, x0, x1, x2, x3⟩
          case measure => simp [intOf] <;> omega
        · obtain ⟨qc, hc, hq0⟩ : ∃ qc : Int, cmpI (val rs) (val ys) = qc ∧ 0 ≤ qc := ⟨_, rfl, by unfold cmpI; rw [if_neg hlt]; split <;> omega⟩
          have C := Lib.hid (digits_b (c := cv) (c' := c') hc (by omega) (by omega) hrs cy rv.at ry)
          clear hc
          go_wp2_with fail
          refine C.out.mono ?_
          rintro e w3 ⟨rfl, bd⟩
          clear C k1
          replace rv := rv.below bd (Nat.le_refl _)
          replace ry := ry.below bd (Nat.le_refl _)
          replace hb1 := hb1.trans (bd.mono hb1.size)
          have k1 := (b1.later hb1).cells
          have lc2 := (b1.later hb1).lt
          have FW := Lib.hid (fewer_any Av cv rs A' c' ys w3 (by omega) hrs cy (by omega) rv.at ry)
          clear bd ry c1
          go_wp2_with fail
          refine FW.out.mono ?_
          rintro e w4 ⟨Az, cz, zs, rfl, cz1, vz, lz, lz1, lz2, rz, bz⟩
          have NX := Lib.hid (divN_next HD.out vz (val_nonneg cz1.1))
          have hs3 := hb1.size
          have rz := rz.mono (S' := fun b => w.heap.size + 4 ≤ b) (fun b _ h => by omega)
          replace hb1 := hb1.trans (bz.mono hb1.size)
          clear vz FW bz k1 rv
          go_wp2
          go_roundw
          case rel => exact ⟨n + 1, by go_num, ⟨Az, cz, zs, rfl, ⟨cz1, NX.out⟩, lz1, lz2, rz⟩, hb1⟩
          case measure => simp [intOf] <;> omega

section
variable {S S' : Nat → Prop} {w : World} {va vb : Value} {a b : Int} {L L' : Nat}

theorem div_any (ha : BigIs S w va a L) (hb : BigIs S' w vb b L') (h0 : 0 < b) (hL : L + L' ≤ 90000) :
    Calls Try.prog 78 #[va, vb] w fun e w' => ∃ v u, e = .returned (.tuple #[v, u]) ∧ BigIs (fun x => w.heap.size ≤ x) w' v (a / b) (L + 2) ∧ BigIs (fun x => w.heap.size ≤ x) w' u (a % b) L' ∧ Below w.heap.size w w' := by
  obtain ⟨A, c, xs, rfl, cx, vx, lx, kx, mx, rx⟩ := ha
  obtain ⟨A', c', ys, rfl, cy, vy, ly, ky, my, ry⟩ := hb
  have hvy : val ys = b := by omega
  refine (div_raw (decide (a < 0)) _ _ (Lib.hid rfl) A c xs a (Lib.hid (by by_cases h : a < 0 <;> simp [h] <;> omega)) A' c' ys w (by omega) cx cy (by omega) rx.at ry.at).mono fun e w' ⟨v, u, Q, R, he, g1, g2, g3, g4, g5, g6⟩ => ?_
  rw [hvy] at g3 g5
  have hd := div_pos h0 g3 g4 g5
  rw [hd.1, hd.2]
  exact ⟨v, u, he, g1.mono (fun _ _ h => h) (by omega), g2.mono (fun _ _ h => h) (by omega), g6⟩
end
end Go.Proofs.Ytioecjoddgpjbaa
