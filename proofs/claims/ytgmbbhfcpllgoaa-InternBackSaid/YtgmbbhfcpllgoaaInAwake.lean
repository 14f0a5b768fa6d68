/-
  awake of gavelkindlaw08 answers true.
-/
import Derived.Test.YtgmbbhfcpllgoaaInInt
namespace Go.Proofs.Ytgmbbhfcpllgoaa
open Go.RowKit Go.Maps

set_option maxHeartbeats 400000 in
theorem smade_no (w : World) :
    Calls Try.prog 31 #[.pointer none] w fun e w' => e = .returned (.bool false) ∧ w = w' := by
  go_enter Try.func31, Try.ntmps31
  go_wp2
  go_ret
  exact ⟨rfl, rfl⟩

set_option maxHeartbeats 400000 in
theorem sid_nil (w : World) (s : ByteArray) :
    Calls Try.prog 18 #[.pointer none, .string s] w fun e w' => e = .returned (.tuple #[.int .i64 0, .int .i64 1]) ∧ w = w' := by
  have M := smade_no
  go_enter Try.func18, Try.ntmps18
  go_wp2_with (go_at_call 31; refine (M _).mono ?_; rintro e w' ⟨rfl, rfl⟩)
  go_ret2
  exact ⟨rfl, rfl⟩

/-- The table is as the list says, and all its blocks are new since there were B. -/
structure TN (B : Nat) (w : World) (g m : Nat) (most : Int) (v : Value) (xs : List Int) : Prop where
  t : TI w g m most v xs
  new : ∀ j ∈ foot g m v, B ≤ j

theorem TN.size {B : Nat} {w : World} {g m : Nat} {most : Int} {v : Value} {xs : List Int} (h : TN B w g m most v xs) : B ≤ w.heap.size := by
  have h1 := h.t.lt.1
  have h2 := h.new g (by simp [foot])
  omega

theorem TN.next {B : Nat} {w w0 w' : World} {g m : Nat} {most : Int} {v v' : Value} {xs ys : List Int} (h : TN B w g m most v xs) (h1 : TI w' g m most v' ys) (ho : Only (foot g m v) w w') (hv : ∀ b, v'.ownBlock = some b → v.ownBlock = some b ∨ w.heap.size ≤ b)
    (hb : Below B w0 w) : TN B w' g m most v' ys ∧ Below B w0 w' := by
  refine ⟨⟨h1, fun j hj => ?_⟩, hb.trans (ho.below h.size h.new)⟩
  unfold foot at hj
  rw [List.mem_cons, List.mem_cons, Option.mem_toList] at hj
  rcases hj with rfl | rfl | hj
  · exact h.new j (by simp [foot])
  · exact h.new j (by simp [foot])
  · rcases hv j hj with h2 | h2
    · exact h.new j (by simp [foot, h2])
    · exact Nat.le_trans h.size h2

theorem TN.next_below {B : Nat} {w w0 w' : World} {g m : Nat} {most : Int} {v : Value} {xs : List Int} (h : TN B w g m most v xs) (hb1 : Below w.heap.size w w') (hb : Below B w0 w) : TN B w' g m most v xs ∧ Below B w0 w' :=
  ⟨⟨h.t.below hb1 (Nat.le_refl _), h.new⟩, hb.trans (hb1.mono h.size)⟩

theorem TN.made {w w' : World} {g m : Nat} {most : Int} (h : TI w' g m most (.slice none 0 0) []) (h1 : w.heap.size ≤ g) (h2 : w.heap.size ≤ m) : TN w.heap.size w' g m most (.slice none 0 0) [] := by
  refine ⟨h, fun j hj => ?_⟩
  simp only [foot, Value.ownBlock, Option.toList, List.mem_cons, List.not_mem_nil, or_false] at hj
  rcases hj with rfl | rfl
  · exact h1
  · exact h2

set_option maxRecDepth 100000 in
set_option maxHeartbeats 4000000 in
theorem awake_any (w : World) : Calls Try.prog 6 #[] w fun e w' => e = .returned (.bool true) ∧ Below w.heap.size w w' := by
  go_enter Try.func6, Try.ntmps6
  go_wp2_with fail
  refine (inew_yes w 2 (by omega) (by omega)).mono ?_
  rintro e w1 ⟨g, m, rfl, hT, hb, hg, hm⟩
  have H := TN.made hT hg hm
  clear hT hg hm
  go_wp2_with fail
  refine (iid_new _ g m 2 _ [] H.t 7 (by decide) (by simp) (by simp) (by omega)).mono ?_
  rintro e w2 ⟨rfl, v1, hT, ho, hv⟩
  obtain ⟨H, hb⟩ := H.next hT ho hv hb
  clear hT ho hv
  go_wp2_with fail
  refine (iid_new _ g m 2 _ [7] H.t 9 (by decide) (by simp) (by simp) (by omega)).mono ?_
  rintro e w3 ⟨rfl, v2, hT, ho, hv⟩
  obtain ⟨H, hb⟩ := H.next hT ho hv hb
  clear hT ho hv
  go_wp2_with fail
  refine (iid_there _ g m 2 _ [7, 9] H.t 7 (by decide) 0 rfl).mono ?_
  rintro e w4 ⟨rfl, rfl⟩
  go_wp2_with fail
  refine (iid_full _ g m 2 _ [7, 9] H.t 8 (by decide) (by simp) (by simp)).mono ?_
  rintro e w5 ⟨rfl, hb1⟩
  obtain ⟨H, hb⟩ := H.next_below hb1 hb
  clear hb1
  go_wp2_with fail
  refine (ikey_yes _ g m 2 _ [7, 9] H.t 1 9 rfl).mono ?_
  rintro e w6 ⟨rfl, rfl⟩
  go_wp2_with fail
  refine (ifind_no _ g m 2 _ [7, 9] H.t 8 (by decide) (by simp)).mono ?_
  rintro e w7 ⟨rfl, rfl⟩
  go_wp2_with fail
  refine (icut_yes _ g m 2 _ [7, 9] H.t (by simp; decide) 1 (by simp)).mono ?_
  rintro e w8 ⟨rfl, v3, hT, ho, hv⟩
  obtain ⟨H, hb⟩ := H.next hT ho (fun b hb => .inl (by rw [← hv]; exact hb)) hb
  clear hT ho hv
  go_wp2_with fail
  refine (iid_new _ g m 2 _ [7] H.t 8 (by decide) (by simp) (by simp) (by omega)).mono ?_
  rintro e w9 ⟨rfl, v4, hT, ho, hv⟩
  obtain ⟨H, hb⟩ := H.next hT ho hv hb
  clear hT ho hv
  go_wp2_with fail
  refine (sid_nil _ _).mono ?_
  rintro e w10 ⟨rfl, rfl⟩
  go_wp2_with fail
  refine (inew_no _ 0 (by omega)).mono ?_
  rintro e w11 ⟨rfl, rfl⟩
  go_wp2_with fail
  refine (ilen_yes _ g m 2 _ [7, 8] H.t).mono ?_
  rintro e w12 ⟨rfl, rfl⟩
  go_wp2_with fail
  go_ret
  exact ⟨rfl, hb⟩
end Go.Proofs.Ytgmbbhfcpllgoaa
