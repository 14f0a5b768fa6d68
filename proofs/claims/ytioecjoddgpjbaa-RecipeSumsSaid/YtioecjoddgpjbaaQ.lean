/-
  The program's num: Net and Sum: sums in a pair of words, by closures.
-/
import Derived.Test.YtioecjoddgpjbaaP
namespace Go.Proofs.Ytioecjoddgpjbaa
open Go.RowKit

/-- Net's closure $2. -/
theorem net2_any {g : Nat} {s p : Int} {w : World} (hB : Box w g 88 (PC s)) :
    Calls Try.prog 51 #[PV p, .pointer (some ⟨g, 0, none⟩)] w fun e w' => e = .returned (PV (s + p)) ∧ Below w.heap.size w w' := by
  have P := Lib.hid (fun w => pplus_any (x := s) (y := p) (w := w))
  have c := hB.cells
  have hg := hB.lt
  unfold PC at c
  rw [PV_out, PV_out] at *
  rw [PV_out] at P
  go_enter Try.func51, Try.ntmps51
  go_wp2_with fail
  refine (P.out _).mono ?_
  rintro e w3 ⟨rfl, hb3⟩
  have b2 : Box w3 (w.heap.size + 1) 88 #[Value.int IntKind.u64 0, Value.int IntKind.u64 0] := (Box.new' (by simp)).later hb3
  have hb4 : Below w.heap.size w w3 := (((Below.refl _ _).alloc (Nat.le_refl _) _).alloc (by simp) _).trans (hb3.mono (by simp; omega))
  have c2 := b2.cells
  have f2 := b2.free
  clear hb3
  go_wp2
  refine bodyPost_ret (by unfold results; simp only [Try.results51]; go_simp; rfl) rfl ?_
  exact ⟨rfl, (hb4.setCell (by simp) _).setCell (by simp) _⟩

/-- Net's closure $3. -/
theorem net3_any {g : Nat} {s p : Int} {w : World} (hB : Box w g 88 (PC s)) :
    Calls Try.prog 53 #[PV p, .pointer (some ⟨g, 0, none⟩)] w fun e w' => e = .returned (PV (s - p)) ∧ Below w.heap.size w w' := by
  have P := Lib.hid (fun w => pless_any (x := s) (y := p) (w := w))
  have c := hB.cells
  have hg := hB.lt
  unfold PC at c
  rw [PV_out, PV_out] at *
  rw [PV_out] at P
  go_enter Try.func53, Try.ntmps53
  go_wp2_with fail
  refine (P.out _).mono ?_
  rintro e w3 ⟨rfl, hb3⟩
  have b2 : Box w3 (w.heap.size + 1) 88 #[Value.int IntKind.u64 0, Value.int IntKind.u64 0] := (Box.new' (by simp)).later hb3
  have hb4 : Below w.heap.size w w3 := (((Below.refl _ _).alloc (Nat.le_refl _) _).alloc (by simp) _).trans (hb3.mono (by simp; omega))
  have c2 := b2.cells
  have f2 := b2.free
  clear hb3
  go_wp2
  refine bodyPost_ret (by unfold results; simp only [Try.results53]; go_simp; rfl) rfl ?_
  exact ⟨rfl, (hb4.setCell (by simp) _).setCell (by simp) _⟩


/-- Net's first closure: what a closure makes of each number of a list, in turn. -/
theorem net1p_any {g : Nat} {s : Int} (A : Option Addr) (c : Nat) (l : List Int) (w : World) (hl : l.length ≤ 10000) (hb : I64s l) (hg : Box w g 88 (PC s))
    (hr : ∀ w', Below g w w' → RowAt w' A (ivals l)) :
    Calls Try.prog 49 #[.slice A l.length c, .func (.func 51) #[] #[.pointer (some ⟨g, 0, none⟩)], .pointer (some ⟨g, 0, none⟩)] w fun e w' => e = .returned (.tuple #[]) ∧ Box w' g 88 (PC (l.foldl (· + ·) s)) ∧ Below g w w' := by
  have HB := Lib.hid hb
  have HR := Lib.hid hr
  have HC := Lib.hid (fun s p w hB => net2_any (g := g) (s := s) (p := p) (w := w) hB)
  have W := Lib.hid (fun n (w : World) h1 h2 => wide_any (n := n) (w := w) h1 h2)
  clear hb hr
  go_enter Try.func49, Try.ntmps49
  go_wp2
  go_loopw [9] (fun i wr => ∃ (k : Nat), k ≤ l.length ∧ i = .int .i64 k ∧ Box wr g 88 (PC ((l.take k).foldl (· + ·) s)) ∧ Below g w wr) (fun i _ => l.length - (intOf i).toNat)
  case atStart => exact ⟨0, by omega, rfl, hg, Below.refl _ _⟩
  case round =>
    obtain ⟨k, hk, rfl, hB, hb⟩ := hrel
    by_cases hkl : k < l.length
    · obtain ⟨b, off, rfl, hbl, hcell⟩ := (HR.out wr hb).iget (by omega)
      have hx := hcell k hkl
      have hE := Lib.hid (show (l.take (k + 1)).foldl (· + ·) s = (l.take k).foldl (· + ·) s + l[k] by rw [List.take_succ_eq_append_getElem hkl, List.foldl_append]; rfl)
      obtain ⟨x1, x2⟩ := HB.out.get k hkl
      clear hcell
      generalize l[k] = x at *
      generalize (l.take k).foldl (· + ·) s = z at *
      go_wp2_with fail
      refine (W.out _ _ x1 x2).mono ?_
      rintro e wn ⟨rfl, hbn⟩
      go_wp2_with fail
      go_at_call 51
      refine (HC.out z x wn (hB.later hbn)).mono ?_
      rintro e wm ⟨rfl, hbm⟩
      have bx := (hB.later hbn).later hbm
      have bc := bx.cells
      have bf := bx.free
      have hg' := hB.lt
      have hb7 : Below g w wm := hb.trans ((hbn.mono (by omega)).trans (hbm.mono (by have := hbn.size; omega)))
      unfold PC at bc
      rewrite [PV_out]
      go_wp2
      go_roundw
      case rel => exact ⟨k + 1, by omega, by go_num, by rw [hE.out]; simpa [PC] using (bx.set 0 _).set 1 _, (hb7.setCell (Nat.le_refl _) _).setCell (Nat.le_refl _) _⟩
      case measure => simp [intOf]; omega
    · obtain rfl : k = l.length := by omega
      rw [List.take_length] at hB
      go_wp2
      go_end0
      exact ⟨rfl, hB, hb⟩

/-- Net's first closure: what a closure makes of each number of a list, in turn. -/
theorem net1m_any {g : Nat} {s : Int} (A : Option Addr) (c : Nat) (l : List Int) (w : World) (hl : l.length ≤ 10000) (hb : I64s l) (hg : Box w g 88 (PC s))
    (hr : ∀ w', Below g w w' → RowAt w' A (ivals l)) :
    Calls Try.prog 49 #[.slice A l.length c, .func (.func 53) #[] #[.pointer (some ⟨g, 0, none⟩)], .pointer (some ⟨g, 0, none⟩)] w fun e w' => e = .returned (.tuple #[]) ∧ Box w' g 88 (PC (l.foldl (· - ·) s)) ∧ Below g w w' := by
  have HB := Lib.hid hb
  have HR := Lib.hid hr
  have HC := Lib.hid (fun s p w hB => net3_any (g := g) (s := s) (p := p) (w := w) hB)
  have W := Lib.hid (fun n (w : World) h1 h2 => wide_any (n := n) (w := w) h1 h2)
  clear hb hr
  go_enter Try.func49, Try.ntmps49
  go_wp2
  go_loopw [9] (fun i wr => ∃ (k : Nat), k ≤ l.length ∧ i = .int .i64 k ∧ Box wr g 88 (PC ((l.take k).foldl (· - ·) s)) ∧ Below g w wr) (fun i _ => l.length - (intOf i).toNat)
  case atStart => exact ⟨0, by omega, rfl, hg, Below.refl _ _⟩
  case round =>
    obtain ⟨k, hk, rfl, hB, hb⟩ := hrel
    by_cases hkl : k < l.length
    · obtain ⟨b, off, rfl, hbl, hcell⟩ := (HR.out wr hb).iget (by omega)
      have hx := hcell k hkl
      have hE := Lib.hid (show (l.take (k + 1)).foldl (· - ·) s = (l.take k).foldl (· - ·) s - l[k] by rw [List.take_succ_eq_append_getElem hkl, List.foldl_append]; rfl)
      obtain ⟨x1, x2⟩ := HB.out.get k hkl
      clear hcell
      generalize l[k] = x at *
      generalize (l.take k).foldl (· - ·) s = z at *
      go_wp2_with fail
      refine (W.out _ _ x1 x2).mono ?_
      rintro e wn ⟨rfl, hbn⟩
      go_wp2_with fail
      go_at_call 53
      refine (HC.out z x wn (hB.later hbn)).mono ?_
      rintro e wm ⟨rfl, hbm⟩
      have bx := (hB.later hbn).later hbm
      have bc := bx.cells
      have bf := bx.free
      have hg' := hB.lt
      have hb7 : Below g w wm := hb.trans ((hbn.mono (by omega)).trans (hbm.mono (by have := hbn.size; omega)))
      unfold PC at bc
      rewrite [PV_out]
      go_wp2
      go_roundw
      case rel => exact ⟨k + 1, by omega, by go_num, by rw [hE.out]; simpa [PC] using (bx.set 0 _).set 1 _, (hb7.setCell (Nat.le_refl _) _).setCell (Nat.le_refl _) _⟩
      case measure => simp [intOf]; omega
    · obtain rfl : k = l.length := by omega
      rw [List.take_length] at hB
      go_wp2
      go_end0
      exact ⟨rfl, hB, hb⟩
end Go.Proofs.Ytioecjoddgpjbaa
