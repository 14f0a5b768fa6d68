/-
  The program's num.Net, num.Sum, and the reference's Net: the sum of a list less that of another one, or ErrOver.
-/
import Derived.Test.YtioecjoddgpjbaaQ
namespace Go.Proofs.Ytioecjoddgpjbaa
open Go.RowKit

theorem foldl_add (l : List Int) (s : Int) : l.foldl (· + ·) s = s + sumI l := by
  unfold sumI
  induction l generalizing s with
  | nil => simp
  | cons x l ih => rw [List.foldl_cons, List.foldl_cons, ih, ih (0 + x)]; omega
theorem sumI_nil : sumI [] = 0 := rfl
theorem sumI_cons (x : Int) (l : List Int) : sumI (x :: l) = x + sumI l := by
  unfold sumI
  rw [List.foldl_cons, foldl_add]
  unfold sumI
  omega
theorem PC_zero : PC 0 = #[.int .u64 0, .int .u64 0] := by simp [PC, hi64, lo64]
theorem foldl_sub (l : List Int) (s : Int) : l.foldl (· - ·) s = s - sumI l := by
  induction l generalizing s with
  | nil => simp [sumI]
  | cons x l ih => rw [List.foldl_cons, ih, sumI_cons]; omega
theorem sumI_append (l m : List Int) : sumI (l ++ m) = sumI l + sumI m := by rw [sumI, List.foldl_append, foldl_add]; rfl
theorem sumI_reverse (l : List Int) : sumI l.reverse = sumI l := by
  induction l with
  | nil => rfl
  | cons x l ih => rw [List.reverse_cons, sumI_append, ih, sumI_cons, sumI_cons, sumI_nil]; omega
theorem sumI_bound (l : List Int) (h : I64s l) : -(9223372036854775808 * (l.length : Int)) ≤ sumI l ∧ sumI l ≤ 9223372036854775808 * (l.length : Int) := by
  induction l with
  | nil => simp [sumI]
  | cons x l ih =>
    obtain ⟨h1, h2⟩ := ih fun y hy => h y (List.mem_cons_of_mem _ hy)
    obtain ⟨x1, x2⟩ := h x (by simp)
    rw [sumI_cons, List.length_cons]
    constructor <;> push_cast <;> omega

section
variable {A A' : Option Addr} {c c' : Nat} {l m : List Int} {w : World}

theorem rnet_any (hl : l.length ≤ 10000) (hm : m.length ≤ 10000) (hb : I64s l) (hb' : I64s m) (hr : RowAt w A (ivals l)) (hr' : RowAt w A' (ivals m)) :
    Calls Try.prog 45 #[.slice A l.length c, .slice A' m.length c'] w fun e w' => e = .returned (.tuple #[.int .i64 (toldI (sumI l - sumI m)).1, .int .i64 (toldI (sumI l - sumI m)).2]) ∧ Below w.heap.size w w' := by
  have HB := Lib.hid hb
  have HB' := Lib.hid hb'
  clear hb hb'
  go_enter Try.func45, Try.ntmps45
  go_wp2_with fail
  refine (total_any A c l w hl HB.out hr).mono ?_
  rintro e w1 ⟨v1, rfl, m1, hb1⟩
  go_wp2_with fail
  refine (total_any A' c' m w1 hm HB'.out (hr'.below hb1 (Nat.le_refl _))).mono ?_
  rintro e w2 ⟨v2, rfl, m2, hb2⟩
  go_wp2_with fail
  refine (minus_any (m1.below hb2 (Nat.le_refl _)) m2 (by omega) (by omega)).mono ?_
  rintro e w3 ⟨v3, rfl, m3, hb3⟩
  go_wp2_with fail
  refine (told_any m3 (by omega)).mono ?_
  rintro e w4 ⟨rfl, hb4⟩
  go_wp2
  go_ret2
  have s1 := hb1.size
  have s2 := hb2.size
  have s3 := hb3.size
  exact ⟨rfl, ((hb1.trans (hb2.mono (by omega))).trans (hb3.mono (by omega))).trans (hb4.mono (by omega))⟩

set_option maxHeartbeats 2000000 in
theorem net_any (hl : l.length ≤ 10000) (hm : m.length ≤ 10000) (hb : I64s l) (hb' : I64s m) (hr : RowAt w A (ivals l)) (hr' : RowAt w A' (ivals m)) :
    Calls Try.prog 41 #[.slice A l.length c, .slice A' m.length c'] w fun e w' => e = .returned (.tuple #[.int .i64 (toldI (sumI l - sumI m)).1, .int .i64 (toldI (sumI l - sumI m)).2]) ∧ Below w.heap.size w w' := by
  have hmf : ∀ (fn : Fn) (first cap : Array Value) (w : World), (Instr.makeFunc fn first cap).run Try.prog w = .ok (.func fn first cap) w := fun _ _ _ _ => rfl
  have b1 := sumI_bound l hb
  have b2 := sumI_bound m hb'
  have hp : ∀ w0 : World, Box w0 w.heap.size 88 #[.int .u64 0, .int .u64 0] → Below w.heap.size w w0 → Calls Try.prog 49 #[.slice A l.length c, .func (.func 51) #[] #[.pointer (some ⟨w.heap.size, 0, none⟩)], .pointer (some ⟨w.heap.size, 0, none⟩)] w0 fun e w' => e = .returned (.tuple #[]) ∧ Box w' w.heap.size 88 (PC (sumI l)) ∧ Below w.heap.size w w' := by
    intro w0 B h
    rw [← PC_zero] at B
    refine (net1p_any A c l w0 hl hb B (fun w' hw => hr.below (h.trans hw) (Nat.le_refl _))).mono ?_
    rintro e w' ⟨rfl, hB, hbl⟩
    rw [foldl_add, Int.zero_add] at hB
    exact ⟨rfl, hB, h.trans hbl⟩
  have hq : ∀ w0 : World, Box w0 w.heap.size 88 (PC (sumI l)) → Below w.heap.size w w0 → Calls Try.prog 49 #[.slice A' m.length c', .func (.func 53) #[] #[.pointer (some ⟨w.heap.size, 0, none⟩)], .pointer (some ⟨w.heap.size, 0, none⟩)] w0 fun e w' => e = .returned (.tuple #[]) ∧ Box w' w.heap.size 88 (PC (sumI l - sumI m)) ∧ Below w.heap.size w w' := by
    intro w0 B h
    refine (net1m_any A' c' m w0 hm hb' B (fun w' hw => hr'.below (h.trans hw) (Nat.le_refl _))).mono ?_
    rintro e w' ⟨rfl, hB, hbl⟩
    rw [foldl_sub] at hB
    exact ⟨rfl, hB, h.trans hbl⟩
  have HI := Lib.hid (fun w => pint_any (z := sumI l - sumI m) (w := w) (by omega) (by omega))
  have HP := Lib.hid hp
  have HQ := Lib.hid hq
  clear hp hq hr hr' hb hb' b1 b2
  go_enter Try.func41, Try.ntmps41
  go_wp2_with fail
  refine (HP.out _ (Box.new _ _ _) ((Below.refl _ _).alloc (Nat.le_refl _) _)).mono ?_
  rintro e w1 ⟨rfl, B1, h1⟩
  go_wp2_with fail
  refine (HQ.out _ B1 h1).mono ?_
  rintro e w2 ⟨rfl, B2, h2⟩
  have c2 := B2.cells
  unfold PC at c2
  have hlt := B2.lt
  clear B2 B1 h1
  go_wp2_with fail
  refine (HI.out w2).mono ?_
  rintro e w3 ⟨rfl, h3⟩
  go_wp2
  go_ret2
  exact ⟨rfl, h2.trans (h3.mono h2.size)⟩

end
end Go.Proofs.Ytioecjoddgpjbaa
