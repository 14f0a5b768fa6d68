/-
  account: rows of accounts.
-/
import Derived.Test.YthkaohjgldoipaaAcP
import Derived.Test.YthkaohjgldoipaaK3
import Derived.Test.YthkaohjgldoipaaContains
import Derived.Test.YthkaohjgldoipaaSame
namespace Go.Proofs.Ythkaohjgldoipaa
open Go.RowKit

/-- An account as cells. -/
def av (a : Acc) : List Value := [.int .i64 a.p, .int .i64 a.k, .bool a.s, .bool a.q]
def avs (l : List Acc) : List Value := l.flatMap av
theorem avs_nil : avs [] = [] := rfl
theorem avs_cons (x : Acc) (l : List Acc) : avs (x :: l) = av x ++ avs l := rfl
theorem avs_append (l m : List Acc) : avs (l ++ m) = avs l ++ avs m := by unfold avs; rw [List.flatMap_append]
theorem avs_len (l : List Acc) : (avs l).length = 4 * l.length := by
  induction l with
  | nil => rfl
  | cons x r ih => rw [avs_cons, List.length_append, ih]; simp [av]; omega
theorem avs_one (l : List Acc) : ∀ u ∈ avs l, u.oneCell' = true := by
  intro u hu
  obtain ⟨x, _, hx⟩ := List.mem_flatMap.1 hu
  simp [av] at hx
  rcases hx with rfl | rfl | rfl | rfl <;> rfl
theorem avs_take (l : List Acc) (k : Nat) : avs (l.take k) = (avs l).take (4 * k) := by
  induction l generalizing k with
  | nil => simp [avs_nil]
  | cons x r ih =>
    cases k with
    | zero => simp [avs_nil]
    | succ k => rw [List.take_succ_cons, avs_cons, avs_cons, ih, show 4 * (k + 1) = 4 * k + 1 + 1 + 1 + 1 by omega]; rfl
theorem avs_drop (l : List Acc) (k : Nat) : avs (l.drop k) = (avs l).drop (4 * k) := by
  induction l generalizing k with
  | nil => simp [avs_nil]
  | cons x r ih =>
    cases k with
    | zero => rfl
    | succ k => rw [List.drop_succ_cons, avs_cons, ih, show 4 * (k + 1) = 4 * k + 1 + 1 + 1 + 1 by omega]; rfl
theorem avs_get (l : List Acc) (k : Nat) (hk : k < l.length) : (avs l)[k * 4]? = some (.int .i64 l[k].p) ∧ (avs l)[k * 4 + 1]? = some (.int .i64 l[k].k) ∧ (avs l)[k * 4 + 2]? = some (.bool l[k].s) ∧ (avs l)[k * 4 + 3]? = some (.bool l[k].q) := by
  induction l generalizing k with
  | nil => simp at hk
  | cons x r ih =>
    cases k with
    | zero => exact ⟨rfl, rfl, rfl, rfl⟩
    | succ k =>
      have := ih k (by simpa using hk)
      rw [avs_cons]
      simpa [av, Nat.succ_mul] using this
/-- A row of accounts. -/
def RowC (w : World) (A : Option Addr) (l : List Acc) : Prop := RowAt w A (avs l)
section
variable {w w' : World} {A : Option Addr} {l : List Acc}
theorem RowC.below {B : Nat} (h : RowC w A l) (hb : Below B w w') (hB : w.heap.size ≤ B) : RowC w' A l := RowAt.below h hb hB
theorem RowC.later (h : RowC w A l) (hb : Below w.heap.size w w') : RowC w' A l := h.below hb (Nat.le_refl _)
theorem RowC.alloc (h : RowC w A l) (o : Obj) : RowC (w.alloc o) A l := RowAt.alloc h o
theorem RowC.drew (h : RowC w A l) : RowC w.drew A l := h
theorem RowC.take (h : RowC w A l) (k : Nat) : RowC w A (l.take k) := by
  unfold RowC
  rw [avs_take]
  exact RowAt.take h _
theorem RowC.get (h : RowC w A l) (hn : 0 < l.length) :
    ∃ b off, A = some ⟨b, off, none⟩ ∧ b < w.heap.size ∧ ∀ k (hk : k < l.length), w.cell? ⟨b, off + k * 4, none⟩ = some (.int .i64 l[k].p) ∧ w.cell? ⟨b, off + k * 4 + 1, none⟩ = some (.int .i64 l[k].k) ∧
      w.cell? ⟨b, off + k * 4 + 2, none⟩ = some (.bool l[k].s) ∧ w.cell? ⟨b, off + k * 4 + 3, none⟩ = some (.bool l[k].q) := by
  obtain ⟨b, off, rfl, hb, hc⟩ := h (by rw [avs_len]; omega)
  refine ⟨b, off, rfl, hb, fun k hk => ?_⟩
  obtain ⟨h1, h2, h3, h4⟩ := avs_get l k hk
  exact ⟨hc _ _ h1, by rw [Nat.add_assoc]; exact hc _ _ h2, by rw [Nat.add_assoc]; exact hc _ _ h3, by rw [Nat.add_assoc]; exact hc _ _ h4⟩
end
theorem RowC.of_own {w : World} {base n c : Nat} {A : Option Addr} {l : List Acc} (h : w.ownsRow base 60 4 (.slice A n c) n (avs l)) : RowC w A l := by
  intro hn
  have hl : (avs l).length = n * 4 := by simpa using h.1
  obtain ⟨A', c', hv, hf⟩ := own_form h
  obtain ⟨g, hA, hb, hlt⟩ := hf (by omega)
  injection hv with hv1 hv2 hv3
  subst hv1 hv3 hA
  refine ⟨g, 0, rfl, hlt, fun j u hj => ?_⟩
  have hjl : j < (avs l).length := (List.getElem?_eq_some_iff.1 hj).1
  rw [Nat.zero_add, h.cellAt j (by omega)]
  exact hj
/-- A row of accounts of the call's own. -/
def NewAcs (l : List Acc) (w : World) (e : Ending) (w' : World) : Prop :=
  ∃ A c, e = .returned (.slice A l.length c) ∧ l.length ≤ c ∧ c ≤ maxLen ∧ w'.ownsRow w.heap.size 60 4 (.slice A l.length c) l.length (avs l) ∧ Below w.heap.size w w'
theorem Try.infoAcc : (Try.prog.info? 60).map (fun i => (i.zero, i.size, i.bytes)) = some (some (.agg #[.int .i64 0, .int .i64 0, .bool false, .bool false]), 4, 24) := by kernel_rfl

/-- The way up while it is being gathered. -/
def UpI (l : List Acc) (a : Int) (tot out : List Int) (b : Int) : Prop := out.Nodup ∧ (∀ z ∈ out, isA l z = true) ∧ upAG l a (l.length + 1 - out.length) out b = tot
theorem upI_start {l : List Acc} {a : Int} (h : isA l a = true) : UpI l a (upA l a) [] (fA l a) := ⟨List.nodup_nil, fun z hz => by simp at hz, by unfold upA; rw [if_pos h]; rfl⟩
theorem upI_len {l : List Acc} {a b : Int} {tot out : List Int} (h : UpI l a tot out b) : out.length ≤ l.length := by
  have := nodup_le h.1 (m := upto l.length) fun x hx => mem_upto.2 (isA_iff.1 (h.2.1 x hx))
  rw [upto_len] at this
  exact this
theorem upI_stop {l : List Acc} {a b : Int} {tot out : List Int} (h : UpI l a tot out b) (hs : ¬ (isA l b = true ∧ b ≠ a ∧ b ∉ out)) : tot = out := by
  have h1 := upI_len h
  have h2 := h.2.2
  rw [show l.length + 1 - out.length = (l.length - out.length) + 1 by omega] at h2
  unfold upAG at h2
  rw [if_neg hs] at h2
  exact h2.symm
theorem upI_step {l : List Acc} {a b : Int} {tot out : List Int} (h : UpI l a tot out b) (h1 : isA l b = true) (h2 : b ≠ a) (h3 : b ∉ out) : UpI l a tot (out ++ [b]) (fA l b) := by
  have g1 := upI_len h
  have g2 := h.2.2
  rw [show l.length + 1 - out.length = (l.length - out.length) + 1 by omega] at g2
  unfold upAG at g2
  rw [if_pos ⟨h1, h2, h3⟩] at g2
  refine ⟨List.nodup_append.2 ⟨h.1, by simp, fun x hx y hy => ?_⟩, fun z hz => ?_, ?_⟩
  · rw [List.mem_singleton.1 hy]
    exact fun he => h3 (he ▸ hx)
  · rcases List.mem_append.1 hz with hz | hz
    · exact h.2.1 z hz
    · rw [List.mem_singleton.1 hz]; exact h1
  · rw [show l.length + 1 - (out ++ [b]).length = l.length - out.length by simp]
    exact g2

def lenS : Value → Nat
  | .slice _ n _ => n
  | _ => 0
theorem below_undrew {w w' : World} (h : Below w.drew.heap.size w.drew w') : Below w.heap.size w w' := ⟨h.os, h.tape, h.output, h.size, h.block⟩
theorem below_up {w w' : World} {o : Obj} (h : Below (w.alloc o).heap.size (w.alloc o) w') : Below w.heap.size w w' :=
  ((Below.refl _ _).alloc (Nat.le_refl _) o).trans (h.mono (by simp))
theorem NewRow.up {zs : List Int} {w w' : World} {o : Obj} {e : Ending} (h : NewRow zs (w.alloc o) e w') : NewRow zs w e w' := by
  obtain ⟨A, c, h1, h2, h3, h4, h5⟩ := h
  exact ⟨A, c, h1, h2, h3, own_base h4 (by simp), below_up h5⟩
theorem flt_step (p : Int → Bool) {k : Nat} (hk : 1 ≤ k) : (upto k).filter p = (upto (k - 1)).filter p ++ if p k = true then [(k : Int)] else [] := by
  obtain ⟨j, rfl⟩ : ∃ j, k = j + 1 := ⟨k - 1, by omega⟩
  rw [upto_succ, List.filter_append, show j + 1 - 1 = j by omega]
  congr 1
  rw [List.filter_cons, List.filter_nil, show ((j + 1 : Nat) : Int) = (j : Int) + 1 by omega]
theorem flt_len (p : Int → Bool) (k : Nat) : ((upto k).filter p).length ≤ k := by
  have := List.length_filter_le p (upto k)
  rw [upto_len] at this
  exact this
theorem rowOf {w w' : World} {zs : List Int} {k : Nat} {e : Ending} (hk : zs.length = k) (h : NewRow zs w e w') : ∃ A c, e = .returned (.slice A k c) ∧ RowAt w' A (ivals zs) ∧ Below w.heap.size w w' := by
  subst hk
  obtain ⟨A, c, h1, h2, h3, h4, h5⟩ := h
  exact ⟨A, c, h1, RowAt.of_own h4, h5⟩
end Go.Proofs.Ythkaohjgldoipaa
