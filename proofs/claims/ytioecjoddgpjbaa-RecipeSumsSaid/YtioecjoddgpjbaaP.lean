/-
  The program's num: a pair of words: wide, plus, less, int.
-/
import Derived.Test.YtioecjoddgpjbaaN
import Derived.Shelf.Spec.BitsCarry
import Derived.ChangeKeysEq
namespace Go.Proofs.Ytioecjoddgpjbaa
open Go.RowKit

/-! ### math/bits.Add64, Sub64: the model's entries, over Int -/
theorem add64 (x y c : Int) (hx : 0 ≤ x) (hy : 0 ≤ y) (hc0 : 0 ≤ c) (hc : c ≤ 1) (w : World) : (callFunc 62 #[.int .u64 x, .int .u64 y, .int .u64 c]).run Try.prog w =
    .ok (.value (.tuple #[.int .u64 ((x + y + c) % 18446744073709551616), .int .u64 ((x + y + c) / 18446744073709551616)])) w := by
  obtain ⟨x, rfl⟩ := Int.eq_ofNat_of_zero_le hx
  obtain ⟨y, rfl⟩ := Int.eq_ofNat_of_zero_le hy
  obtain ⟨c, rfl⟩ := Int.eq_ofNat_of_zero_le hc0
  rw [run_callFunc_extern Try.func62 (by kernel_rfl) (by kernel_rfl) (by kernel_rfl) (e := add64Entry) (by kernel_rfl), run_add64 x y c (by omega) (by omega) (by omega) (by omega)]
  simp only [Result.andThen]
theorem sub64 (x y b : Int) (hx : 0 ≤ x) (hy : 0 ≤ y) (hy' : y < 18446744073709551616) (hb0 : 0 ≤ b) (hb : b ≤ 1) (w : World) : (callFunc 63 #[.int .u64 x, .int .u64 y, .int .u64 b]).run Try.prog w =
    .ok (.value (.tuple #[.int .u64 ((x - y - b) % 18446744073709551616), .int .u64 (if x < y + b then 1 else 0)])) w := by
  obtain ⟨x, rfl⟩ := Int.eq_ofNat_of_zero_le hx
  obtain ⟨y, rfl⟩ := Int.eq_ofNat_of_zero_le hy
  obtain ⟨b, rfl⟩ := Int.eq_ofNat_of_zero_le hb0
  have e1 : (((x + 18446744073709551616 - y - b) % 18446744073709551616 : Nat) : Int) = ((x : Int) - y - b) % 18446744073709551616 := by omega
  have e2 : ((if x < y + b then 1 else 0 : Nat) : Int) = if (x : Int) < y + b then 1 else 0 := by split <;> split <;> omega
  rw [← e1, ← e2]
  rw [run_callFunc_extern Try.func63 (by kernel_rfl) (by kernel_rfl) (by kernel_rfl) (e := sub64Entry) (by kernel_rfl), run_sub64 x y b (by omega)]
  rfl

/-- The words of a number: the low one; the high one, wrapped round. -/
def lo64 (z : Int) : Int := z % 18446744073709551616
def hi64 (z : Int) : Int := (z / 18446744073709551616) % 18446744073709551616
def PC (z : Int) : Array Value := #[.int .u64 (hi64 z), .int .u64 (lo64 z)]
/-- A pair. -/
def PV (z : Int) : Value := .agg (PC z)
theorem PV_out (z : Int) : PV z = .agg #[.int .u64 (hi64 z), .int .u64 (lo64 z)] := rfl

theorem lo_range (z : Int) : 0 ≤ lo64 z ∧ lo64 z < 18446744073709551616 := by unfold lo64; omega
theorem hi_range (z : Int) : 0 ≤ hi64 z ∧ hi64 z < 18446744073709551616 := by unfold hi64; omega
theorem add_lo (x y : Int) : (lo64 x + lo64 y) % 18446744073709551616 = lo64 (x + y) := by unfold lo64; omega
theorem add_hi (x y : Int) : (hi64 x + hi64 y + (lo64 x + lo64 y) / 18446744073709551616) % 18446744073709551616 = hi64 (x + y) := by unfold lo64 hi64; omega
theorem sub_lo (x y : Int) : (lo64 x - lo64 y) % 18446744073709551616 = lo64 (x - y) := by unfold lo64; omega
theorem sub_hi (x y : Int) : (hi64 x - hi64 y - (if lo64 x < lo64 y then 1 else 0)) % 18446744073709551616 = hi64 (x - y) := by unfold lo64 hi64; split <;> omega


set_option maxRecDepth 100000 in
/-- Two pairs, held against each other. -/
theorem pair_eq (a b c d : Int) (w : World) : (Op.equalIn 10000 88 (.agg #[.int .u64 a, .int .u64 b]) (.agg #[.int .u64 c, .int .u64 d])).run Try.prog w = .ok ((a == c) && (b == d)) w := by
  obtain ⟨i, hi⟩ : ∃ i, Try.prog.info? 86 = some i := ⟨_, rfl⟩
  rw [run_equalIn_array w 9999 _ _ (e := 86) (n := 2) (by kernel_rfl) hi]
  have hp : Try.prog.plainKey 86 = true := by kernel_rfl
  have hc : Try.prog.cellsOf 86 = 1 := by kernel_rfl
  have hu : Try.prog.underlying 86 = some (.int .u64) := by kernel_rfl
  have p0 : ∀ (x y : Int) w, (part 86 #[.int .u64 x, .int .u64 y] 0).run Try.prog w = .ok (.int .u64 x) w := fun x y w => run_part_plain w hp rfl
  have p1 : ∀ (x y : Int) w, (part 86 #[.int .u64 x, .int .u64 y] 1).run Try.prog w = .ok (.int .u64 y) w := fun x y w => run_part_plain w hp rfl
  have q : ∀ (x y : Int) w, (Op.equalIn 9999 86 (.int .u64 x) (.int .u64 y)).run Try.prog w = .ok (x == y) w := fun x y w => run_equalIn_int w 9998 _ _ _ _ _ hu
  rw [hc, show List.range 2 = [0, 1] from rfl]
  simp only [Op.eqItems, Sem.run_bind, Nat.zero_mul, Nat.one_mul, p0, q, Result.andThen_ok]
  cases a == c <;> cases h2 : b == d <;> simp [p1, q, h2]

theorem wide_any {n : Int} {w : World} (h1 : -9223372036854775808 ≤ n) (h2 : n ≤ 9223372036854775807) :
    Calls Try.prog 50 #[.int .i64 n] w fun e w' => e = .returned (PV n) ∧ Below w.heap.size w w' := by
  rw [PV_out]
  by_cases h : n < 0
  · have e1 : hi64 n = 18446744073709551615 := by unfold hi64; omega
    have e2 : IntKind.u64.wrap n = lo64 n := by simp [IntKind.wrap, IntKind.signed, IntKind.bits, lo64]
    rw [e1, ← e2]
    clear e1 e2
    go_enter Try.func50, Try.ntmps50
    go_wp2
    refine bodyPost_ret (by unfold results; simp only [Try.results50]; go_simp; rfl) rfl ?_
    exact ⟨rfl, (Below.refl _ _).alloc (Nat.le_refl _) _⟩
  · have e1 : hi64 n = 0 := by unfold hi64; omega
    have e2 : lo64 n = n := by unfold lo64; omega
    rw [e1, e2]
    clear e1 e2
    go_enter Try.func50, Try.ntmps50
    go_wp2
    refine bodyPost_ret (by unfold results; simp only [Try.results50]; go_simp; rfl) rfl ?_
    exact ⟨rfl, (Below.refl _ _).alloc (Nat.le_refl _) _⟩

theorem pplus_any {x y : Int} {w : World} :
    Calls Try.prog 52 #[PV x, PV y] w fun e w' => e = .returned (PV (x + y)) ∧ Below w.heap.size w w' := by
  rw [PV_out, PV_out, PV_out]
  obtain ⟨a1, a2⟩ := lo_range x; obtain ⟨b1, b2⟩ := lo_range y
  obtain ⟨c1, c2⟩ := hi_range x; obtain ⟨d1, d2⟩ := hi_range y
  have L := Lib.hid (add_lo x y)
  have H := Lib.hid (add_hi x y)
  generalize lo64 x = lx at *
  generalize lo64 y = ly at *
  generalize hi64 x = hx at *
  generalize hi64 y = hy at *
  have k0 : 0 ≤ (lx + ly) / 18446744073709551616 := by omega
  have k1 : (lx + ly) / 18446744073709551616 ≤ 1 := by omega
  obtain ⟨q, hq⟩ : ∃ q, (lx + ly) / 18446744073709551616 = q := ⟨_, rfl⟩
  rw [hq] at k0 k1 H
  have A1 : ∀ w, (callFunc 62 #[.int .u64 lx, .int .u64 ly, .int .u64 0]).run Try.prog w = .ok (.value (.tuple #[.int .u64 (lo64 (x + y)), .int .u64 q])) w := by
    intro w
    have := add64 lx ly 0 a1 b1 (by omega) (by omega) w
    rw [Int.add_zero, L.out, hq] at this
    exact this
  have A2 : ∀ w, (callFunc 62 #[.int .u64 hx, .int .u64 hy, .int .u64 q]).run Try.prog w = .ok (.value (.tuple #[.int .u64 (hi64 (x + y)), .int .u64 ((hx + hy + q) / 18446744073709551616)])) w := by
    intro w
    have := add64 hx hy q c1 d1 k0 k1 w
    rw [H.out] at this
    exact this
  clear hq
  go_enter Try.func52, Try.ntmps52
  go_wp2_with (first | simp only [A1] | simp only [A2])
  refine bodyPost_ret (by unfold results; simp only [Try.results52]; go_simp; rfl) rfl ?_
  refine ⟨rfl, ?_⟩
  exact (((Below.refl _ _).alloc (Nat.le_refl _) _).alloc (by simp) _).alloc (by simp; omega) _

theorem pless_any {x y : Int} {w : World} :
    Calls Try.prog 54 #[PV x, PV y] w fun e w' => e = .returned (PV (x - y)) ∧ Below w.heap.size w w' := by
  rw [PV_out, PV_out, PV_out]
  obtain ⟨a1, a2⟩ := lo_range x; obtain ⟨b1, b2⟩ := lo_range y
  obtain ⟨c1, c2⟩ := hi_range x; obtain ⟨d1, d2⟩ := hi_range y
  have L := Lib.hid (sub_lo x y)
  have H := Lib.hid (sub_hi x y)
  generalize lo64 x = lx at *
  generalize lo64 y = ly at *
  generalize hi64 x = hx at *
  generalize hi64 y = hy at *
  have k0 : 0 ≤ (if lx < ly then (1 : Int) else 0) := by split <;> omega
  have k1 : (if lx < ly then (1 : Int) else 0) ≤ 1 := by split <;> omega
  obtain ⟨q, hq⟩ : ∃ q, (if lx < ly then (1 : Int) else 0) = q := ⟨_, rfl⟩
  rw [hq] at k0 k1 H
  have A1 : ∀ w, (callFunc 63 #[.int .u64 lx, .int .u64 ly, .int .u64 0]).run Try.prog w = .ok (.value (.tuple #[.int .u64 (lo64 (x - y)), .int .u64 q])) w := by
    intro w
    have := sub64 lx ly 0 a1 b1 b2 (by omega) (by omega) w
    rw [Int.sub_zero, Int.add_zero, L.out, hq] at this
    exact this
  obtain ⟨r, hr⟩ : ∃ r : Int, (if hx < hy + q then (1 : Int) else 0) = r := ⟨_, rfl⟩
  have A2 : ∀ w, (callFunc 63 #[.int .u64 hx, .int .u64 hy, .int .u64 q]).run Try.prog w = .ok (.value (.tuple #[.int .u64 (hi64 (x - y)), .int .u64 r])) w := by
    intro w
    have := sub64 hx hy q c1 d1 d2 k0 k1 w
    rw [H.out, hr] at this
    exact this
  clear hq hr
  go_enter Try.func54, Try.ntmps54
  go_wp2_with (first | simp only [A1] | simp only [A2])
  refine bodyPost_ret (by unfold results; simp only [Try.results54]; go_simp; rfl) rfl ?_
  refine ⟨rfl, ?_⟩
  exact (((Below.refl _ _).alloc (Nat.le_refl _) _).alloc (by simp) _).alloc (by simp; omega) _

theorem pint_any {z : Int} {w : World} (h1 : -170141183460469231731687303715884105728 ≤ z) (h2 : z < 170141183460469231731687303715884105728) :
    Calls Try.prog 55 #[PV z] w fun e w' => e = .returned (.tuple #[.int .i64 (toldI z).1, .int .i64 (toldI z).2]) ∧ Below w.heap.size w w' := by
  rw [PV_out]
  have W := Lib.hid (fun n (w : World) h1 h2 => wide_any (n := n) (w := w) h1 h2)
  by_cases h : -9223372036854775808 ≤ z ∧ z ≤ 9223372036854775807
  · have T := Lib.hid (toldI_in h.1 h.2)
    rw [T.out]
    have e := Lib.hid (show wrap64 (lo64 z) = z by unfold wrap64 lo64; omega)
    have Wz := Lib.hid (fun w : World => W.out z w h.1 h.2)
    obtain ⟨a1, a2⟩ := lo_range z
    obtain ⟨c1, c2⟩ := hi_range z
    go_enter Try.func55, Try.ntmps55
    go_wp2_with fail
    rewrite [e.out]
    have hb0 : Below w.heap.size w (w.alloc (Obj.cells #[Value.int IntKind.u64 (hi64 z), Value.int IntKind.u64 (lo64 z)] 88)) := (Below.refl _ _).alloc (Nat.le_refl _) _
    have B := Box.new w 88 #[Value.int IntKind.u64 (hi64 z), Value.int IntKind.u64 (lo64 z)]
    have hg := B.lt
    generalize (w.alloc (Obj.cells #[Value.int IntKind.u64 (hi64 z), Value.int IntKind.u64 (lo64 z)] 88)) = w0 at *
    have HK : ∀ w', Below w0.heap.size w0 w' → w'.cell? ⟨w.heap.size, 0, none⟩ = some (.int .u64 (hi64 z)) ∧ w'.cell? ⟨w.heap.size, 1, none⟩ = some (.int .u64 (lo64 z)) ∧ Below w0.heap.size w0 w' := fun w' hb => ⟨by rw [(B.later hb).cells]; rfl, by rw [(B.later hb).cells]; rfl, hb⟩
    have HK := Lib.hid HK
    have EQ : ∀ w, (Op.equalIn 10000 88 (.agg #[.int .u64 (hi64 z), .int .u64 (lo64 z)]) (.agg #[.int .u64 (hi64 z), .int .u64 (lo64 z)])).run Try.prog w = .ok true w := fun w => by rw [pair_eq]; simp
    go_region_held3 (fun w' => w'.cell? ⟨w.heap.size, 0, none⟩ = some (.int .u64 (hi64 z)) ∧ w'.cell? ⟨w.heap.size, 1, none⟩ = some (.int .u64 (lo64 z)) ∧ Below w0.heap.size w0 w') (first | exact HK.out _ (Below.refl _ _).drew | (go_split_ands; exact HK.out _ (Below.trans (by assumption) (Below.mono hbn (Below.size (by assumption)))))) (first | (go_split_ands; go_at_call 50; refine (Wz.out _).mono ?_; rintro e wn ⟨rfl, hbn⟩; rw [PV_out]))
    go_wp2
    go_ret2
    go_split_ands
    exact ⟨rfl, hb0.trans (Below.mono (by assumption) (Nat.le_of_lt hg))⟩
  · have T := Lib.hid (toldI_out (z := z) (by omega))
    rw [T.out]
    have e := Lib.hid (show lo64 (wrap64 (lo64 z)) = lo64 z by unfold wrap64 lo64; omega)
    have e' := Lib.hid (show (hi64 (wrap64 (lo64 z)) == hi64 z) = false by rw [beq_eq_false_iff_ne]; unfold wrap64 lo64 hi64; omega)
    have Wz := Lib.hid (fun w : World => W.out (wrap64 (lo64 z)) w (by unfold wrap64; omega) (by unfold wrap64; omega))
    obtain ⟨a1, a2⟩ := lo_range z
    obtain ⟨c1, c2⟩ := hi_range z
    go_enter Try.func55, Try.ntmps55
    go_wp2_with fail
    have hb0 : Below w.heap.size w (w.alloc (Obj.cells #[Value.int IntKind.u64 (hi64 z), Value.int IntKind.u64 (lo64 z)] 88)) := (Below.refl _ _).alloc (Nat.le_refl _) _
    have B := Box.new w 88 #[Value.int IntKind.u64 (hi64 z), Value.int IntKind.u64 (lo64 z)]
    have hg := B.lt
    generalize (w.alloc (Obj.cells #[Value.int IntKind.u64 (hi64 z), Value.int IntKind.u64 (lo64 z)] 88)) = w0 at *
    have HK : ∀ w', Below w0.heap.size w0 w' → w'.cell? ⟨w.heap.size, 0, none⟩ = some (.int .u64 (hi64 z)) ∧ w'.cell? ⟨w.heap.size, 1, none⟩ = some (.int .u64 (lo64 z)) ∧ Below w0.heap.size w0 w' := fun w' hb => ⟨by rw [(B.later hb).cells]; rfl, by rw [(B.later hb).cells]; rfl, hb⟩
    have HK := Lib.hid HK
    have EQ : ∀ w, (Op.equalIn 10000 88 (.agg #[.int .u64 (hi64 (wrap64 (lo64 z))), .int .u64 (lo64 z)]) (.agg #[.int .u64 (hi64 z), .int .u64 (lo64 z)])).run Try.prog w = .ok false w := fun w => by rw [pair_eq, e'.out]; rfl
    go_region_held3 (fun w' => w'.cell? ⟨w.heap.size, 0, none⟩ = some (.int .u64 (hi64 z)) ∧ w'.cell? ⟨w.heap.size, 1, none⟩ = some (.int .u64 (lo64 z)) ∧ Below w0.heap.size w0 w') (first | exact HK.out _ (Below.refl _ _).drew | (go_split_ands; exact HK.out _ (Below.trans (by assumption) (Below.mono hbn (Below.size (by assumption)))))) (first | (go_split_ands; go_at_call 50; refine (Wz.out _).mono ?_; rintro e wn ⟨rfl, hbn⟩; rw [PV_out, e.out]))
    go_wp2
    go_ret2
    go_split_ands
    exact ⟨rfl, hb0.trans (Below.mono (by assumption) (Nat.le_of_lt hg))⟩
end Go.Proofs.Ytioecjoddgpjbaa
