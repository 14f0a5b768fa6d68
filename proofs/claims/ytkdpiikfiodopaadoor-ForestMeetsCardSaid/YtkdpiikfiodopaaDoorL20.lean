/-
  forest, plain: what Children, Under, Roots and Meet tell of a tree (for ForestTree and ForestLowest).
-/
import Derived.Test.YtkdpiikfiodopaaDoorJh
import Derived.Test.YtkdpiikfiodopaaDoorTz
import Derived.LaidMore
import Derived.Stop.Joined
import Derived.ProofKit
import Derived.Test.YtkdpiikfiodopaaDoorK2
import Derived.Test.YtkdpiikfiodopaaDoorTie
import Derived.Test.YtkdpiikfiodopaaDoorCards
import Derived.SevenTiedAt
namespace Go.Proofs.YtkdpiikfiodopaaDoor
open Go.RowKit
theorem same_self (zs : List Int) (hm : zs.length ≤ maxLen) (A : Option Addr) (c : Nat) (A' : Option Addr) (c' : Nat) (w : World) (hr : RowAt w A (ivals zs)) (hr' : RowAt w A' (ivals zs)) :
    Calls Tryd.prog 26 #[.slice A zs.length c, .slice A' zs.length c'] w fun e w' => e = .returned (.bool true) ∧ Below w.heap.size w w' := by
  have h := same_below A c zs A' c' zs w hm hm hr hr'
  rw [decide_eq_true rfl] at h
  exact h
theorem chI_len (n : Nat) (f : Int → Int) (x : Int) : (chI n f x).length ≤ n := by
  unfold chI
  split
  · exact flt_len _ _
  · exact Nat.zero_le _
theorem unI_len (n : Nat) (f : Int → Int) (x : Int) : (unI n f x).length ≤ n := by
  unfold unI
  split
  · exact flt_len _ _
  · exact Nat.zero_le _
theorem rtI_len (n : Nat) (f : Int → Int) : (rtI n f).length ≤ n := flt_len _ _
theorem at_ok {l : List Stk} {n q : Int} (h : atE l n q = 0) : ∃ nn qq : Nat, n = nn ∧ q = qq ∧ nn ≤ 40 ∧ qq < 24 ∧ (chkL l nn).2 = 0 := by
  unfold atE at h
  split at h
  · cases h
  · split at h
    · cases h
    · exact ⟨n.toNat, q.toNat, by omega, by omega, by omega, by omega, by rw [show ((n.toNat : Nat) : Int) = n by omega]; exact h⟩

section
variable {n : Nat} {f : Int → Int}

theorem isN_of {x : Int} (h1 : 1 ≤ x) (h2 : x ≤ n) : isN n x = true := isN_iff.2 ⟨h1, h2⟩
theorem mem_chI {a b : Int} (ha : 1 ≤ a) (ha' : a ≤ n) (hb : 1 ≤ b) (hb' : b ≤ n) : decide (b ∈ chI n f a) = (f b == a) := by
  unfold chI
  rw [if_pos (isN_of ha ha')]
  have h : b ∈ (upto n).filter (fun i => (f i == a)) ↔ f b = a := by
    rw [List.mem_filter, mem_upto]
    simp only [beq_iff_eq]
    exact ⟨fun h => h.2, fun h => ⟨⟨hb, hb'⟩, h⟩⟩
  by_cases he : f b = a
  · rw [decide_eq_true (h.2 he), beq_iff_eq.2 he]
  · rw [decide_eq_false (fun hh => he (h.1 hh)), beq_eq_false_iff_ne.2 he]
theorem mem_unI {a b : Int} (ha : 1 ≤ a) (ha' : a ≤ n) (hb : 1 ≤ b) (hb' : b ≤ n) : decide (b ∈ unI n f a) = aeq f a b := by
  unfold unI
  rw [if_pos (isN_of ha ha')]
  have h : b ∈ (upto n).filter (fun i => aeq f a i) ↔ aeq f a b = true := by
    rw [List.mem_filter, mem_upto]
    exact ⟨fun h => h.2, fun h => ⟨⟨hb, hb'⟩, h⟩⟩
  cases he : aeq f a b
  · exact decide_eq_false fun hh => by rw [h, he] at hh; cases hh
  · exact decide_eq_true (h.2 he)
theorem mem_rtI {b : Int} (hb : 1 ≤ b) (hb' : b ≤ n) : decide (b ∈ rtI n f) = (f b == 0) := by
  unfold rtI
  have h : b ∈ (upto n).filter (fun i => (f i == 0)) ↔ f b = 0 := by
    rw [List.mem_filter, mem_upto]
    simp only [beq_iff_eq]
    exact ⟨fun h => h.2, fun h => ⟨⟨hb, hb'⟩, h⟩⟩
  by_cases he : f b = 0
  · rw [decide_eq_true (h.2 he), beq_iff_eq.2 he]
  · rw [decide_eq_false (fun hh => he (h.1 hh)), beq_eq_false_iff_ne.2 he]
/-- The way up, step by step. -/
theorem Tree.up_get (ht : Tree n f) : ∀ (i : Nat) (x : Int) (h : i < (up f x).length), (up f x)[i] = it f (i + 1) x := by
  intro i
  induction i with
  | zero =>
    intro x h
    have e := ht.up_eq x
    by_cases h0 : f x = 0
    · rw [if_pos h0] at e
      rw [e] at h
      simp at h
    · rw [if_neg h0] at e
      simp only [e, List.getElem_cons_zero]
      rfl
  | succ i ih =>
    intro x h
    have e := ht.up_eq x
    by_cases h0 : f x = 0
    · rw [if_pos h0] at e
      rw [e] at h
      simp at h
    · rw [if_neg h0] at e
      have h' : i < (up f (f x)).length := by
        rw [e] at h
        simpa using h
      simp only [e, List.getElem_cons_succ]
      rw [ih (f x) h']
      rfl
theorem Tree.up_end (ht : Tree n f) : ∀ (k : Nat) (x : Int), (up f x).length = k → it f (k + 1) x = 0 := by
  intro k
  induction k with
  | zero =>
    intro x h
    have e := ht.up_eq x
    by_cases h0 : f x = 0
    · exact h0
    · rw [if_neg h0] at e
      rw [e] at h
      simp at h
  | succ k ih =>
    intro x h
    have e := ht.up_eq x
    by_cases h0 : f x = 0
    · rw [if_pos h0] at e
      rw [e] at h
      simp at h
    · rw [if_neg h0] at e
      rw [e] at h
      exact ih (f x) (by simpa using h)
theorem Tree.way_in (ht : Tree n f) {b : Int} (hb : 1 ≤ b) (hb' : b ≤ n) {k : Nat} (hk : k ≤ (up f b).length) : 1 ≤ it f k b ∧ it f k b ≤ n := by
  cases k with
  | zero => exact ⟨hb, hb'⟩
  | succ k =>
    rw [← ht.up_get k b hk]
    exact ht.up_rng (List.getElem_mem _)
theorem meI_in {a b : Int} (ha : 1 ≤ a) (ha' : a ≤ n) (hb : 1 ≤ b) (hb' : b ≤ n) : meI n f a b = meetP f a b := if_pos ⟨isN_of ha ha', isN_of hb hb'⟩
theorem meI_self {a : Int} (ha : 1 ≤ a) (ha' : a ≤ n) : meI n f a a = a := by rw [meI_in ha ha' ha ha', meetP_self]
theorem Tree.meI_comm (ht : Tree n f) {a b : Int} (ha : 1 ≤ a) (ha' : a ≤ n) (hb : 1 ≤ b) (hb' : b ≤ n) : meI n f b a = meI n f a b := by
  rw [meI_in ha ha' hb hb', meI_in hb hb' ha ha', ht.meetP_comm ⟨ha, ha'⟩ ⟨hb, hb'⟩]
theorem Tree.meI_low (ht : Tree n f) {a b : Int} (ha : 1 ≤ a) (ha' : a ≤ n) (hb : 1 ≤ b) (hb' : b ≤ n) : Lowest n f a b (meI n f a b) := by
  rw [meI_in ha ha' hb hb']; exact ht.meetP_lowest ⟨ha, ha'⟩
/-- Is one of the first k at or above both? -/
def bothI (f : Int → Int) (a b : Int) : Nat → Bool
  | 0 => false
  | k + 1 => bothI f a b k || (aeq f ((k : Int) + 1) a && aeq f ((k : Int) + 1) b)
theorem bothI_iff (a b : Int) (k : Nat) : bothI f a b k = true ↔ ∃ t : Int, 1 ≤ t ∧ t ≤ k ∧ aeq f t a = true ∧ aeq f t b = true := by
  induction k with
  | zero => exact ⟨fun h => (by cases h), fun ⟨t, h1, h2, _⟩ => (by omega)⟩
  | succ k ih =>
    rw [bothI, Bool.or_eq_true, ih, Bool.and_eq_true]
    constructor
    · rintro (⟨t, h1, h2, h3⟩ | h)
      · exact ⟨t, h1, by omega, h3⟩
      · exact ⟨(k : Int) + 1, by omega, by omega, h⟩
    · rintro ⟨t, h1, h2, h3⟩
      by_cases h : t = (k : Int) + 1
      · subst h; exact .inr h3
      · exact .inl ⟨t, h1, by omega, h3⟩
theorem Tree.both_meet (ht : Tree n f) {a b : Int} (ha : 1 ≤ a) (ha' : a ≤ n) (hb : 1 ≤ b) (hb' : b ≤ n) : bothI f a b n = (meI n f a b != 0) := by
  have L := ht.meI_low ha ha' hb hb'
  generalize meI n f a b = m at L ⊢
  by_cases hm : m = 0
  · have h1 := L.1 hm
    have h2 : (m != 0) = false := by simp [hm]
    rw [h2]
    cases hB : bothI f a b n
    · rfl
    · obtain ⟨t, t1, t2, t3⟩ := (bothI_iff a b n).1 hB
      exact absurd t3 (h1 t t1 t2)
  · obtain ⟨r1, r2, r3, r4, _⟩ := L.2 hm
    have h2 : (m != 0) = true := by simp [hm]
    rw [h2]
    exact (bothI_iff a b n).2 ⟨m, r1, r2, r3, r4⟩
theorem Tree.meet_below (ht : Tree n f) {a b t : Int} (ha : 1 ≤ a) (ha' : a ≤ n) (hb : 1 ≤ b) (hb' : b ≤ n) (ht1 : 1 ≤ t) (ht2 : t ≤ n) (h1 : aeq f t a = true) (h2 : aeq f t b = true) : decide (meI n f a b ∈ unI n f t) = true := by
  have L := ht.meI_low ha ha' hb hb'
  generalize meI n f a b = m at L ⊢
  by_cases hm : m = 0
  · exact absurd ⟨h1, h2⟩ (L.1 hm t ht1 ht2)
  · obtain ⟨r1, r2, r3, r4, r5⟩ := L.2 hm
    rw [mem_unI ht1 ht2 r1 r2]
    exact r5 t ht1 ht2 h1 h2
theorem Tree.meet_under (ht : Tree n f) {a b : Int} (ha : 1 ≤ a) (ha' : a ≤ n) (hb : 1 ≤ b) (hb' : b ≤ n) (hm : meI n f a b ≠ 0) : decide (a ∈ unI n f (meI n f a b)) = true ∧ decide (b ∈ unI n f (meI n f a b)) = true := by
  have L := ht.meI_low ha ha' hb hb'
  generalize meI n f a b = m at hm L ⊢
  obtain ⟨r1, r2, r3, r4, _⟩ := L.2 hm
  exact ⟨by rw [mem_unI r1 r2 ha ha']; exact r3, by rw [mem_unI r1 r2 hb hb']; exact r4⟩
end
end Go.Proofs.YtkdpiikfiodopaaDoor
/-
  ForestMeets.
-/
namespace Go.Proofs.YtkdpiikfiodopaaDoor
open Go.RowKit
section
variable {A : Option Addr} {c : Nat} {l : List Stk} {w : World}
set_option maxRecDepth 100000 in
set_option maxHeartbeats 2000000 in
theorem meets_big (n q : Int) (w : World) (T : Tb w) (h : (decide (l.length ≤ 20) && decide (n ≤ 10)) = false) : Calls Tryd.prog 6 #[.slice A l.length c, .int .i64 n, .int .i64 q] w fun e w' => e = .returned (.bool true) ∧ Below w.heap.size w w' := by
  have AW := Lib.hid (foawake_any w T)
  have FE := few_any A c l.length n w
  rw [h] at FE
  replace FE := Lib.hid FE
  clear h
  go_enter Tryd.func6, Tryd.ntmps6
  go_wp2_with fail
  refine FE.out.mono ?_
  rintro e _ ⟨rfl, rfl⟩
  go_wp2_with fail
  refine AW.out.mono ?_
  rintro e w1 ⟨rfl, b1⟩
  go_wp2
  go_ret
  exact ⟨rfl, b1⟩
set_option maxRecDepth 100000 in
set_option maxHeartbeats 2000000 in
theorem meets_err (n q : Int) (h : l.length ≤ 20 ∧ n ≤ 10) (hc : l.length ≤ c) (hc2 : c ≤ maxLen) (hr : RowT w A l) (T : Tb w) (he : atE l n q ≠ 0) : Calls Tryd.prog 6 #[.slice A l.length c, .int .i64 n, .int .i64 q] w fun e w' => e = .returned (.bool true) ∧ Below w.heap.size w w' := by
  have AW := Lib.hid fun w T => foawake_any w T
  have FE := fun w => few_any A c l.length n w
  rw [decide_eq_true h.1, decide_eq_true h.2] at FE
  replace FE := Lib.hid FE
  have hm : l.length ≤ 1000000 := by omega
  have P := Lib.hid (fat_err hm hc hc2 hr he)
  have Q := Lib.hid fun (w : World) (hr : RowT w A l) => rfat_any (n := n) (q := q) hm hc hc2 hr
  have hne : (atE l n q != 0) = true := by simpa using he
  have HE := Lib.hid he
  have R := Lib.hid hr
  clear he hr h
  generalize atE l n q = er at *
  go_enter Tryd.func6, Tryd.ntmps6
  go_wp2_with fail
  refine (FE.out _).mono ?_
  rintro e _ ⟨rfl, rfl⟩
  go_wp2_with fail
  refine P.out.mono ?_
  rintro e w1 ⟨rfl, b1⟩
  go_wp2_with fail
  refine (Q.out _ (R.out.later b1)).mono ?_
  rintro e w2 ⟨v, rfl, _, hv, b2⟩
  obtain rfl := hv HE.out
  clear hv
  have B2 := b1.trans (b2.mono b1.size)
  clear b1 b2
  go_wp2_with fail
  refine (AW.out _ ((T.later B2).alloc _)).mono ?_
  rintro e w3 ⟨rfl, b3⟩
  have B3 := B2.trans ((below_up b3).mono B2.size)
  go_wp2
  go_ret
  exact ⟨rfl, B3⟩
set_option maxRecDepth 100000 in
set_option maxHeartbeats 8000000 in
theorem meets_ok (n qq : Nat) (hn : n ≤ 10) (h20 : l.length ≤ 20) (hc : l.length ≤ c) (hc2 : c ≤ maxLen) (hr : RowT w A l) (T : Tb w) (hq : qq < 24) (h0 : (chkL l n).2 = 0) : Calls Tryd.prog 6 #[.slice A l.length c, .int .i64 n, .int .i64 (qq : Int)] w fun e w' => e = .returned (.bool true) ∧ Below w.heap.size w w' := by
  have AW := Lib.hid fun w T => foawake_any w T
  have FE := fun w => few_any A c l.length n w
  rw [decide_eq_true h20, decide_eq_true (show (n : Int) ≤ 10 by omega)] at FE
  replace FE := Lib.hid FE
  have hm : l.length ≤ 1000000 := by omega
  have ht : Tree n (parL l qq) := (chk_tree (by omega) h0 hq).1
  have ho : Out n (parL l qq) := chk_out h0 qq
  have hE : atE l n (qq : Int) = 0 := by unfold atE; rw [if_neg (by omega), if_neg (by omega)]; exact h0
  obtain ⟨q, hqq⟩ : ∃ q : Int, q = qq := ⟨_, rfl⟩
  have P := fat_fill (q := (qq : Int)) (n := n) (by omega) (by omega) (by omega) hm hc hc2 hr h0
  have Q := fun (w : World) (hr : RowT w A l) => rfat_any (n := n) (q := (qq : Int)) hm hc hc2 hr
  rw [hE] at Q
  rw [← hqq] at P Q ht ho ⊢
  replace P := Lib.hid P
  replace Q := Lib.hid Q
  have R := Lib.hid hr
  clear hr h0 hE hqq hq
  have n1 : (n : Int) ≤ 10 := by omega
  go_enter Tryd.func6, Tryd.ntmps6
  go_wp2_with fail
  refine (FE.out _).mono ?_
  rintro e _ ⟨rfl, rfl⟩
  go_wp2_with fail
  refine P.out.mono ?_
  rintro e w1 ⟨g, rfl, hg, H, b1⟩
  go_wp2_with fail
  refine (Q.out _ (R.out.later b1)).mono ?_
  rintro e w2 ⟨v, rfl, hv, _, b2⟩
  obtain rfl := hv (by simp)
  clear hv P Q
  replace H := H.later b2
  have B2 := b1.trans (b2.mono b1.size)
  have hW2 : w.heap.size ≤ w2.heap.size := B2.size
  clear b1 b2
  go_wp2
  go_loopw [11] (fun t wr => ∃ a : Int, 0 ≤ a ∧ a ≤ n + 2 ∧ t = .int .i64 a ∧ Box wr w2.heap.size 46 #[.slice A l.length c, .int .i64 n, .int .i64 q] ∧ ForAt wr g n (parL l q) (shaL l q) ∧ Below w.heap.size w wr) (fun t _ => (n + 2 - intOf t).toNat)
  case atStart => exact ⟨0, by omega, by omega, rfl, Box.new _ _ _, H.alloc _, B2.alloc hW2 _⟩
  case round =>
    clear H B2
    obtain ⟨a, ha1, ha2, rfl, x9, H, hb⟩ := hrel
    by_cases hin : a ≤ n + 1
    · obtain ⟨wo, rfl⟩ : ∃ wo : World, wo = wr := ⟨_, rfl⟩
      go_wp2
      go_loopw [12] (fun t wr => ∃ b : Int, 0 ≤ b ∧ b ≤ n + 2 ∧ t = .int .i64 b ∧ Box wr w2.heap.size 46 #[.slice A l.length c, .int .i64 n, .int .i64 q] ∧ ForAt wr g n (parL l q) (shaL l q) ∧ Below w.heap.size w wr) (fun t _ => (n + 2 - intOf t).toNat)
      case atStart => exact ⟨0, by omega, by omega, rfl, x9, H, hb⟩
      case round =>
        clear x9 H hb
        obtain ⟨b, hb1, hb2, rfl, x9, H, hb⟩ := hrel
        have hsz := hb.size
        by_cases hin2 : b ≤ n + 1
        · have M1 := Lib.hid fun (w : World) (h : ForAt w g n (parL l q) (shaL l q)) => fmeet_any a b ht ho h
          have M2 := Lib.hid fun (w : World) (hr : RowT w A l) => rmeet_any (c := c) (n := n) (q := q) a b hm (by omega) ht ho hr
          have H1 := Lib.hid fun (w : World) (h : ForAt w g n (parL l q) (shaL l q)) (T : Tb w) => fheld_any a b ht ho h T
          have H2 := Lib.hid fun (w : World) (hr : RowT w A l) => rheld_any (c := c) (n := n) (q := q) a b hm (by omega) ht ho hr
          generalize meI n (parL l q) a b = mv at *
          generalize heI n (parL l q) (shaL l q) a b = hv at *
          obtain ⟨⟨hv1, hv2⟩, hv3⟩ := hv
          dsimp only at H1 H2
          go_wp2_with fail
          refine (H1.out _ H (T.later hb)).mono ?_
          rintro e w3 ⟨rfl, b3⟩
          replace x9 := (x9.later b3).alloc (.cells #[.int .i64 hv1, .int .i64 hv2] 23)
          replace H := (H.later b3).alloc (.cells #[.int .i64 hv1, .int .i64 hv2] 23)
          have x13 := Box.new w3 23 #[.int .i64 hv1, .int .i64 hv2]
          replace hb := hb.trans ((b3.alloc b3.size (.cells #[.int .i64 hv1, .int .i64 hv2] 23)).mono hsz)
          clear b3
          have k9 := x9.cells
          go_wp2_with fail
          refine (H2.out _ (R.out.later hb)).mono ?_
          rintro e w4 ⟨rfl, b4⟩
          replace x9 := (x9.later b4).alloc (.cells #[.int .i64 hv1, .int .i64 hv2] 23)
          replace H := (H.later b4).alloc (.cells #[.int .i64 hv1, .int .i64 hv2] 23)
          replace x13 := (x13.later b4).alloc (.cells #[.int .i64 hv1, .int .i64 hv2] 23)
          have x15 := Box.new w4 23 #[.int .i64 hv1, .int .i64 hv2]
          replace hb := hb.trans ((b4.alloc b4.size (.cells #[.int .i64 hv1, .int .i64 hv2] 23)).mono hb.size)
          clear b4 k9
          go_upto_region 17 with fail
          have y9 := x9.drew
          have k9 := y9.cells
          have y13 := x13.drew
          have k13 := y13.cells
          have y15 := x15.drew
          have k15 := y15.cells
          have HF := H.drew
          have cb := below_drewN hb 1
          clear x9 x13 x15 H hb
          refine wp_region_noPanic ?_
          refine wp_region_held_drew (S := (fun w' => w'.cell? ⟨w2.heap.size, 0, none⟩ = some (.slice A l.length c) ∧ w'.cell? ⟨w2.heap.size, 1, none⟩ = some (.int .i64 n) ∧ w'.cell? ⟨w2.heap.size, 2, none⟩ = some (.int .i64 q) ∧ w'.cell? ⟨w3.heap.size, 0, none⟩ = some (.int .i64 hv1) ∧ w'.cell? ⟨w3.heap.size, 1, none⟩ = some (.int .i64 hv2) ∧ w'.cell? ⟨w4.heap.size, 0, none⟩ = some (.int .i64 hv1) ∧ w'.cell? ⟨w4.heap.size, 1, none⟩ = some (.int .i64 hv2))) (by kernel_rfl) ?_ (fun hHeld => ?_)
          · go_keep
          refine wpAnyH_take (i := 0) (v := ?vm0) rfl (by kernel_rfl) (by kernel_rfl) (by kernel_rfl) (fun _ _ _ h => h) (Or.inl ⟨by kernel_rfl, ?hym0⟩) (by assumption) ?restm0
          case hym0 => (intro w hSw; (try dsimp only at hSw); go_simp; (try with_reducible rfl))
          go_simp
          refine wpAnyH_take (i := 1) (v := ?vm1) rfl (by kernel_rfl) (by kernel_rfl) (by kernel_rfl) (fun _ _ _ h => h) (Or.inl ⟨by kernel_rfl, ?hym1⟩) (by assumption) ?restm1
          case hym1 => (intro w hSw; (try dsimp only at hSw); go_simp; (try with_reducible rfl))
          go_simp
          refine wpAnyH_take (i := 2) (v := ?vm2) rfl (by kernel_rfl) (by kernel_rfl) (by kernel_rfl) (fun _ _ _ h => h) (Or.inl ⟨by kernel_rfl, ?hym2⟩) (by assumption) ?restm2
          case hym2 => (intro w hSw; (try dsimp only at hSw); go_simp; (try with_reducible rfl))
          go_simp
          refine wpAnyH_take (i := 4) (v := ?vm4) rfl (by kernel_rfl) (by kernel_rfl) (by kernel_rfl) (fun _ _ _ h => h) (Or.inl ⟨by kernel_rfl, ?hym4⟩) (by assumption) ?restm4
          case hym4 => (intro w hSw; (try dsimp only at hSw); go_simp; (try with_reducible rfl))
          go_simp
          refine wpAnyH_take (i := 5) (v := ?vm5) rfl (by kernel_rfl) (by kernel_rfl) (by kernel_rfl) (fun _ _ _ h => h) (Or.inl ⟨by kernel_rfl, ?hym5⟩) (by assumption) ?restm5
          case hym5 => (intro w hSw; (try dsimp only at hSw); go_simp; (try with_reducible rfl))
          go_simp
          refine wpAnyH_take (i := 6) (v := ?vm6) rfl (by kernel_rfl) (by kernel_rfl) (by kernel_rfl) (fun _ _ _ h => h) (Or.inl ⟨by kernel_rfl, ?hym6⟩) (by assumption) ?restm6
          case hym6 => (intro w hSw; (try dsimp only at hSw); go_simp; (try with_reducible rfl))
          go_simp
          refine wpAnyH_ready (rs := [3]) (by kernel_rfl) (by simp) ?_
          refine AllReadyH.cons rfl (fun K hK => ?_) AllReadyH.nil
          rw [if_pos (by kernel_rfl)]
          go_simp
          refine (M1.out _ HF).mono ?_
          rintro e w81 ⟨rfl, b1⟩
          have y9 := y9.later b1
          have y13 := y13.later b1
          have y15 := y15.later b1
          have HF := HF.later b1
          have cb := cb.trans (b1.mono cb.size)
          clear b1
          have k9 := y9.cells
          have k13 := y13.cells
          have k15 := y15.cells
          go_wp2_with fail
          refine hK.out _ _ (by go_keep) (fun hHeld => ?_)
          clear hK K
          go_simp
          refine wpAnyH_ready (rs := [7]) (by kernel_rfl) (by simp) ?_
          refine AllReadyH.cons rfl (fun K hK => ?_) AllReadyH.nil
          rw [if_pos (by kernel_rfl)]
          go_simp
          refine (M2.out _ (R.out.later cb)).mono ?_
          rintro e w82 ⟨rfl, b1⟩
          have y9 := y9.later b1
          have y13 := y13.later b1
          have y15 := y15.later b1
          have HF := HF.later b1
          have cb := cb.trans (b1.mono cb.size)
          clear b1
          have k9 := y9.cells
          have k13 := y13.cells
          have k15 := y15.cells
          go_wp2_with fail
          refine hK.out _ _ (by go_keep) (fun hHeld => ?_)
          clear hK K
          go_simp
          refine wpAnyH_take (i := 8) (v := ?vm8) rfl (by kernel_rfl) (by kernel_rfl) (by kernel_rfl) (fun _ _ _ h => h) (Or.inl ⟨by kernel_rfl, ?hym8⟩) (by assumption) ?restm8
          case hym8 => (intro w hSw; (try dsimp only at hSw); go_simp; (try with_reducible rfl))
          go_simp
          refine wpAnyH_take (i := 9) (v := ?vm9) rfl (by kernel_rfl) (by kernel_rfl) (by kernel_rfl) (fun _ _ _ h => h) (Or.inl ⟨by kernel_rfl, ?hym9⟩) (by assumption) ?restm9
          case hym9 => (intro w hSw; (try dsimp only at hSw); go_simp; (try with_reducible rfl))
          go_simp
          refine wpAnyH_take (i := 10) (v := ?vm10) rfl (by kernel_rfl) (by kernel_rfl) (by kernel_rfl) (fun _ _ _ h => h) (Or.inl ⟨by kernel_rfl, ?hym10⟩) (by assumption) ?restm10
          case hym10 => (intro w hSw; (try dsimp only at hSw); go_simp; (try with_reducible rfl))
          go_simp
          refine wpAnyH_take (i := 11) (v := ?vm11) rfl (by kernel_rfl) (by kernel_rfl) (by kernel_rfl) (fun _ _ _ h => h) (Or.inl ⟨by kernel_rfl, ?hym11⟩) (by assumption) ?restm11
          case hym11 => (intro w hSw; (try dsimp only at hSw); go_simp; (try with_reducible rfl))
          go_simp
          refine wpAnyH_take (i := 12) (v := ?vm12) rfl (by kernel_rfl) (by kernel_rfl) (by kernel_rfl) (fun _ _ _ h => h) (Or.inl ⟨by kernel_rfl, ?hym12⟩) (by assumption) ?restm12
          case hym12 => (intro w hSw; (try dsimp only at hSw); go_simp; (try with_reducible rfl))
          go_simp
          refine wpAnyH_take (i := 13) (v := ?vm13) rfl (by kernel_rfl) (by kernel_rfl) (by kernel_rfl) (fun _ _ _ h => h) (Or.inl ⟨by kernel_rfl, ?hym13⟩) (by assumption) ?restm13
          case hym13 => (intro w hSw; (try dsimp only at hSw); go_simp; (try with_reducible rfl))
          go_simp
          refine wpAnyH_take (i := 14) (v := ?vm14) rfl (by kernel_rfl) (by kernel_rfl) (by kernel_rfl) (fun _ _ _ h => h) (Or.inl ⟨by kernel_rfl, ?hym14⟩) (by assumption) ?restm14
          case hym14 => (intro w hSw; (try dsimp only at hSw); go_simp; (try with_reducible rfl))
          go_simp
          refine wpAnyH_take (i := 15) (v := ?vm15) rfl (by kernel_rfl) (by kernel_rfl) (by kernel_rfl) (fun _ _ _ h => h) (Or.inl ⟨by kernel_rfl, ?hym15⟩) (by assumption) ?restm15
          case hym15 => (intro w hSw; (try dsimp only at hSw); go_simp; (try with_reducible rfl))
          go_simp
          refine wpAnyH_take (i := 16) (v := ?vm16) rfl (by kernel_rfl) (by kernel_rfl) (by kernel_rfl) (fun _ _ _ h => h) (Or.inl ⟨by kernel_rfl, ?hym16⟩) (by assumption) ?restm16
          case hym16 => (intro w hSw; (try dsimp only at hSw); go_simp; (try with_reducible rfl))
          go_simp
          refine wpAnyH_take (i := 17) (v := ?vm17) rfl (by kernel_rfl) (by kernel_rfl) (by kernel_rfl) (fun _ _ _ h => h) (Or.inl ⟨by kernel_rfl, ?hym17⟩) (by assumption) ?restm17
          case hym17 => (intro w hSw; (try dsimp only at hSw); go_simp; (try with_reducible rfl))
          go_simp
          refine wpAnyH_take (i := 18) (v := ?vm18) rfl (by kernel_rfl) (by kernel_rfl) (by kernel_rfl) (fun _ _ _ h => h) (Or.inl ⟨by kernel_rfl, ?hym18⟩) (by assumption) ?restm18
          case hym18 => (intro w hSw; (try dsimp only at hSw); go_simp; (try with_reducible rfl))
          go_simp
          refine wpAnyH_done (by kernel_rfl) ?_ _
          refine NoPanic.normal ?_
          clear k9 k13 k15
          go_wp2
          go_roundw
          case rel => exact ⟨b + 1, by omega, by omega, by go_num, y9, HF, cb⟩
          case measure => simp [intOf]; omega
        · obtain rfl : b = n + 2 := by omega
          go_wp2
          go_roundw
          case rel => exact ⟨a + 1, by omega, by omega, by go_num, x9, H, hb⟩
          case measure => simp [intOf]; omega
    · obtain rfl : a = n + 2 := by omega
      go_wp2_with fail
      refine (AW.out _ (T.later hb)).mono ?_
      rintro e w5 ⟨rfl, b5⟩
      have B5 := hb.trans (b5.mono hb.size)
      go_wp2
      go_ret
      exact ⟨rfl, B5⟩

theorem meets_law (n q : Int) (hc : l.length ≤ c) (hc2 : c ≤ maxLen) (hr : RowT w A l) (T : Tb w) : Calls Tryd.prog 6 #[.slice A l.length c, .int .i64 n, .int .i64 q] w fun e w' => e = .returned (.bool true) ∧ Below w.heap.size w w' := by
  by_cases h : l.length ≤ 20 ∧ n ≤ 10
  · by_cases he : atE l n q = 0
    · obtain ⟨nn, qq, rfl, rfl, h1, h2, h3⟩ := at_ok he
      exact meets_ok nn qq (by omega) (by omega) hc hc2 hr T h2 h3
    · exact meets_err n q h hc hc2 hr T he
  · exact meets_big n q w T (by rw [Bool.and_eq_false_iff]; rcases Classical.not_and_iff_not_or_not.1 h with h | h <;> simp [h])
end
end Go.Proofs.YtkdpiikfiodopaaDoor
/-
  What the rows' condition on the library's tables gives the walks: the table of 64 numbers lies in its variable.
-/
namespace Go.Proofs.YtkdpiikfiodopaaDoor
open Go.RowKit Go.ChangeShapes Go.WideShapes Go.ChangeAt

theorem two_of {xs : List Int} (h : xs.length = 2) : ∃ a b, xs = [a, b] := by
  match xs, h with
  | [a, b], _ => exact ⟨a, b, rfl⟩

/-- The two tables, as each row of this seat lists them. -/
def laid2 {H : Type} : List (String × DataW H) := [("math/bits.deBruijn32tab", Rows.laid_math_bits_deBruijn32tab), ("math/bits.deBruijn64tab", Rows.laid_math_bits_deBruijn64tab)]
theorem g64 : Tryd.prog.globalNamed "math/bits.deBruijn64tab" = some 1 := by kernel_rfl
theorem t64 : (Tryd.prog.globals[1]?).map (·.type) = some 152 := by kernel_rfl

section
variable {H : Type} {enc : TypeId × Value → H} {P : Program} {w : World} {base : Nat} {spare : Nat → Bool} {held : Bool}
theorem trod_array_bytes {t e : TypeId} {n : Nat} {fuel : Nat} {cs : List Value} {x : DataW H × List MemPlace} (tab : List Nat) (ht : P.underlying t = some (.array n e)) (he : P.underlying e = some (.int .u8)) (hc : P.cellsOf e = 1) (hC : P.cellsOf t = n)
    (h : DataW.trod enc P w base spare held fuel t cs = some x) (hx : x.1 = .agg (tab.map fun k : Nat => .lit (.int .u8 (k : Int)))) (hn : tab.length = n) :
    ∀ j, j < n → cs[j]? = some (.int .u8 ((tab.getD j 0 : Nat) : Int)) := by
  obtain ⟨ys, m, _, he2, hlen, hyl, hf⟩ := DataW.trod_array ht h
  rw [he2] at hx
  simp only [DataW.agg.injEq] at hx
  intro j hj
  have h1 := hf j hj
  rw [hc, Nat.mul_one] at h1
  have hjl : j < cs.length := by omega
  have hone' : (cs.drop j).take 1 = [cs[j]] := by
    rw [List.drop_eq_getElem_cons hjl]
    rfl
  rw [hone', List.getElem?_eq_getElem (by omega)] at h1
  obtain ⟨z, hz, hy, hw⟩ := DataW.trod_int he h1
  injection hz with hz _
  rw [List.getElem?_eq_getElem hjl, hz]
  have h2 : (ys.map (·.1))[j]? = (tab.map fun k : Nat => (.lit (.int .u8 (k : Int)) : DataW H))[j]? := by rw [hx]
  rw [List.getElem?_map, List.getElem?_map, List.getElem?_eq_getElem (by omega), List.getElem?_eq_getElem (by omega), hy] at h2
  simp only [Option.map_some, Option.some.injEq, DataW.lit.injEq, Lit.int.injEq, true_and] at h2
  rw [h2, List.getD_eq_getElem?_getD, List.getElem?_eq_getElem (by omega)]
  rfl
end

theorem tb_of_laid {W : World} (h : laidMetH Tryd.prog laid2 W) : Tb W := by
  rw [MakeChecks.laidMetH_plain _ _ _ (by kernel_rfl)] at h
  obtain ⟨ps, ⟨g0, t0, cs0, f0, p0, q0, hg0, ht0, hv0, hd0, ⟨g1, t1, cs1, f1, p1, q1, hg1, ht1, hv1, hd1, _, _⟩, _⟩, _, _⟩ := h
  obtain rfl := Option.some.inj (g64.symm.trans hg1)
  obtain rfl := Option.some.inj (t64.symm.trans ht1)
  intro j hj
  have hj' : j < 64 := hj
  have hcs := trod_array_bytes Lib.deBruijn64tab Tryd.underlying152 Tryd.underlying5 (by kernel_rfl) (by kernel_rfl) hd1 rfl rfl j hj'
  have := World.var?_cell hg1 hv1 j
  rw [this]
  simpa using hcs

/-- The door's own heap meets the condition. -/
theorem door_met (os : Os) (args : Array Value) : laidMetH Tryd.prog laid2 ((World.doorLaid Tryd.prog 400 os).forCall (fun _ _ => 0) ⟨#[], args, []⟩).memory :=
  laidMetH_of_parts3 (fuel := 8) (laidMet_of_run' 8 (by kernel_rfl) (by kernel_rfl)) (by kernel_rfl) (by kernel_rfl)
end Go.Proofs.YtkdpiikfiodopaaDoor
/-
  'ForestMeets': whatever the arguments are, the Go function returns true and leaves its arguments as they were; no further condition. The row's proof: the arguments are opened, the walk is applied, and the reading of the arguments is carried over.
-/
namespace Go.Proofs.YtkdpiikfiodopaaDoor.forestMeets
open Go.ChangeShapes Go.WideShapes Go.ChangeAt Go.RowKit

theorem own : ownKnob Tryd.prog.godebug = none := by kernel_rfl
theorem laidOut : laidOutB Tryd.prog = true := by kernel_rfl

set_option maxRecDepth 100000 in
theorem lifted (os : Os) (started : os.Started) (H : Type) (enc : TypeId × Value → H) :
    ReturnsInHanded {} Tryd.checked os 6 .any (fun w args => (Rows.forestMeetsSpec.pre enc Tryd.prog Tryd.f6 [] false w args ∧ laidMetH Tryd.prog laid2 w) ∧ sizedMet enc Tryd.prog Tryd.f6 (OpenSpec.ofChange Rows.forestMeetsSpec) false w args) (Rows.forestMeetsSpec.post enc Tryd.prog Tryd.f6 false true false false) := by
  refine returnsInHanded_of_change_and (C := Tryd.checked) (X := fun w _ => laidMetH Tryd.prog laid2 w) (fun _ _ _ hh h => h.of_heap hh) own started (by kernel_rfl) Tryd.func6
    (ChangeSpec.witness_shaped (enc := enc) (C := Tryd.checked) (os := os) (X := fun w _ => laidMetH Tryd.prog laid2 w) false (World.doorLaid Tryd.prog 400 os) #[.slice none 0 0, .int .i64 0, .int .i64 0] 8 rfl (World.shaped_of_RefB (by kernel_rfl) (by kernel_rfl)) (by kernel_rfl) (by kernel_rfl) (by kernel_rfl) (door_met os _)) ?_
  intro W base args ds gs before hval0 hW _ _ hL _
  have T := tb_of_laid hL
  have hval : ∀ (j : Nat) t v, Tryd.f6.params[j]? = some t → args[j]? = some v → Value.okWide Tryd.prog W .any base t v := hval0
  have hW' := hW
  obtain ⟨p, q, hA0, hV, rfl, hfz, hnd⟩ := hW
  have hA : DataW.TrodAll enc Tryd.prog W 0 (fun _ => true) true Tryd.f6.params.toList args.toList ds p := hA0
  rw [Tryd.params6] at hA hval
  obtain ⟨v0, vs0, d0, ds0, p0, q0, hargs, rfl, rfl, h0, r0'⟩ := trodAll_cons hA
  obtain ⟨v1, vs1, d1, ds1, p1, q1, rfl, rfl, rfl, h1, r1'⟩ := trodAll_cons r0'
  obtain ⟨v2, vs2, d2, ds2, p2, q2, rfl, rfl, rfl, h2, r2'⟩ := trodAll_cons r1'
  obtain ⟨rfl, rfl, rfl⟩ := trodAll_nil r2'
  obtain rfl : args = #[v0, v1, v2] := by cases args; simp_all
  obtain ⟨rfl, rfl⟩ := trodVars_none hV
  have k0 := h0
  have lt0 : ∀ x ∈ p0, x.block < W.heap.size := by obtain ⟨m, hm⟩ := k0; exact DataW.trod_lt m _ _ _ hm
  have k1 := h1
  have lt1 : ∀ x ∈ p1, x.block < W.heap.size := by obtain ⟨m, hm⟩ := k1; exact DataW.trod_lt m _ _ _ hm
  have k2 := h2
  have lt2 : ∀ x ∈ p2, x.block < W.heap.size := by obtain ⟨m, hm⟩ := k2; exact DataW.trod_lt m _ _ _ hm
  obtain ⟨A0, n0, c0, x0, rfl, l0, m0, e0, r0, b0⟩ := open_structs_arg Tryd.underlying41 Tryd.underlying124 (by kernel_rfl) (by intro f hf; simp only [List.mem_cons, List.not_mem_nil, or_false] at hf; rcases hf with rfl | rfl | rfl | rfl <;> rfl) (by kernel_rfl) (hval 0 41 v0 rfl rfl) h0
  obtain ⟨k0', rfl, rfl⟩ := stks_of n0 x0 e0
  obtain ⟨a1, rfl, rfl, rfl, w1⟩ := open_int Tryd.underlying3 (hval 1 3 v1 rfl rfl) h1
  obtain ⟨a2, rfl, rfl, rfl, w2⟩ := open_int Tryd.underlying3 (hval 2 3 v2 rfl rfl) h2
  clear hA0 hval0
  refine (meets_law a1 a2 l0 m0 r0 T).mono fun e W' ⟨he, bel⟩ => ?_
  subst he
  exact ⟨_, rfl, _, _, _, [], _, [], hW', trodAll_mk1 (shut_bool Tryd.underlying4 _), (trodAll_cons_mk (Below.trod laidOut (by kernel_rfl) (of_decide_eq_true (by kernel_rfl)) k0 bel lt0) (trodAll_cons_mk (Below.trod laidOut (by kernel_rfl) (of_decide_eq_true (by kernel_rfl)) k1 bel lt1) (trodAll_cons_mk (Below.trod laidOut (by kernel_rfl) (of_decide_eq_true (by kernel_rfl)) k2 bel lt2) trodAll_mk0))), rfl, bel.frame _, fun h => by cases h⟩

theorem proved : Rows.ForestMeetsSaid :=
  OpenClaim.holds_of_wide 6 Tryd.f6 rfl rfl rfl rfl rfl rfl rfl ⟨rfl, rfl, rfl, rfl, rfl⟩ rfl rfl rfl rfl rfl (by kernel_rfl) Tryd.func6 (by kernel_rfl)
    (of_decide_eq_true (by kernel_rfl)) (by unfold Func.isWrapper; first | (rw [if_pos (by decide +kernel)]; kernel_rfl) | (rw [if_neg (by decide +kernel)]; exact ⟨rfl, rfl⟩))
    (fun os started H enc _ => lifted os started H enc)

/-- The tied card. -/
theorem card : Rows.ForestMeetsCardSaid :=
  Claim7.holds_tied_plain_at .later [] [.data, .data] true (true, "a1275ec53222ea3c2d28009894f41a52bcd52506a07abad6be307d560d72f2b7") false
    proved (fun _ h => by cases h) (by kernel_rfl) (fun _ h => by cases h) forestMeets_row_tie rfl ⟨rfl, rfl⟩ (by kernel_rfl) rfl
    (fun f fn hf hfn => by
      obtain rfl : f = 6 := Option.some.inj ((show Tryd.prog.funcNamed "gavelkind/gavelkindlaw19.ForestMeets" = some 6 by kernel_rfl).symm.trans hf) |>.symm
      obtain rfl : fn = Tryd.f6 := (Option.some.inj (Tryd.func6.symm.trans hfn)).symm
      exact ⟨by kernel_rfl, fun j t ht => by
        rw [Tryd.params6] at ht
        have hm : t ∈ [41, 3, 3] := by simpa using Array.mem_of_getElem? ht
        have hall : ([41, 3, 3].all fun u => !Tryd.prog.wantsStandIn u) = true := by kernel_rfl
        exact (show Tryd.prog.wantsStandIn t = false by simpa using List.all_eq_true.1 hall t hm)⟩)
    (by kernel_rfl)
#print axioms card
end Go.Proofs.YtkdpiikfiodopaaDoor.forestMeets
