/-
  Chapter 6: the document's text of a number.
-/
import Derived.Test.YtmdflhgmlipplaaDoorDeTry
import Derived.Test.YtmdflhgmlipplaaDoorS
import Derived.Laws.IdiomStrings
namespace Go.Proofs.YtmdflhgmlipplaaDoor
open Go.RowKit

theorem pad_more (xs : List Int) (j : Nat) : xs ++ List.replicate (j + 1) (0 : Int) = (xs ++ List.replicate j 0) ++ [0] := by
  rw [List.replicate_succ', List.append_assoc]
abbrev S8 (l : List UInt8) : Value := .string ⟨l.toArray⟩
theorem dg_padD {d : Nat} {xs : List Int} (h : Dg xs) : Dg (padD d xs) := by
  intro x hx
  unfold padD at hx
  rcases List.mem_append.1 hx with hx | hx
  · exact h x hx
  · rw [List.eq_of_mem_replicate hx]; omega
def slen : Value → Nat
  | .slice _ m _ => m
  | _ => 0
theorem rv_len (d : Nat) (l : List Int) : ∀ j, (rv d j l).length ≤ 2 * l.length := by
  induction l with
  | nil => intro j; simp [rv]
  | cons a t ih => intro j; have := ih (j + 1); rw [rv]; split <;> simp <;> omega

theorem str_app (a b : List UInt8) : (⟨a.toArray⟩ : ByteArray) ++ ⟨b.toArray⟩ = ⟨(a ++ b).toArray⟩ := by
  rw [ByteArray.mk_append_mk]; try simp
theorem str_one (x : UInt8) (r : List UInt8) : (⟨#[x]⟩ : ByteArray) ++ ⟨r.reverse.toArray⟩ = ⟨(r ++ ([] ++ [x])).reverse.toArray⟩ := by
  rw [show (⟨#[x]⟩ : ByteArray) = ⟨[x].toArray⟩ from rfl, str_app]; simp
theorem str_two (x : UInt8) (r : List UInt8) : (⟨#[x]⟩ : ByteArray) ++ ((⟨#[46]⟩ : ByteArray) ++ ⟨r.reverse.toArray⟩) = ⟨(r ++ ([46] ++ [x])).reverse.toArray⟩ := by
  rw [show (⟨#[x]⟩ : ByteArray) = ⟨[x].toArray⟩ from rfl, show (⟨#[46]⟩ : ByteArray) = ⟨[46].toArray⟩ from rfl, str_app, str_app]; simp
/-- A digit as a text. -/
theorem dig_text {x : Int} (W : World) (h : 0 ≤ x ∧ x ≤ 9) : (convert 48 9 (.slice (some ⟨W.heap.size, 0, none⟩) 1 1)).run Tryd.prog (W.alloc (.cells #[.int .u8 (48 + x)] 5)) = .ok (.string ⟨#[dgB x]⟩) (W.alloc (.cells #[.int .u8 (48 + x)] 5)) := by
  refine run_convert_bytes_back _ 48 9 5 ⟨W.heap.size, 0, none⟩ 1 [dgB x] Tryd.underlying48 Tryd.underlying5 Tryd.underlying9 fun j hj => ?_
  obtain rfl : j = 0 := by simpa using hj
  rw [addr_add, cell_of_row _ W.heap.size (0 + 0) #[.int .u8 (48 + x)] 5 (0, 0) (heap_alloc_new W _)]
  have := dgB_toNat h
  simp [this]
  try omega
set_option maxRecDepth 100000 in
set_option maxHeartbeats 1000000 in
theorem text_any {S : Nat → Prop} {w : World} {v : Value} {z : Int} {L : Nat} (d : Nat) (hz : BigIs S w v z L) (hL : L ≤ 100000) (hd : d ≤ 6) :
    Calls Tryd.prog 24 #[v, .int .i64 d] w fun e w' => e = .returned (S8 (textZ d z)) ∧ Below w.heap.size w w' := by
  obtain ⟨i0, hi, hz0, hz1, hz2⟩ := info_parts Tryd.infoInt
  obtain ⟨A0, c0, xs, rfl, hcan, hval, hlen, hcap, hcm, hrow⟩ := hz
  have hrow := hrow.at
  have HX := Lib.hid (digs_of hcan hval)
  have hdg := Lib.hid (dg_padD (d := d) hcan.1)
  clear hcan hval
  obtain ⟨n, hn⟩ : ∃ n, n = xs.length := ⟨_, rfl⟩
  rw [← hn] at hlen hcap ⊢
  have HN := Lib.hid hn
  clear hn
  generalize hneg : decide (z < 0) = neg
  have HG := Lib.hid hneg
  clear hneg
  go_enter Tryd.func24, Tryd.ntmps24
  go_wp2
  go_loopw [5] (fun t wr => ∃ (A : Option Addr) (c m j : Nat), t = .slice A m c ∧ m ≤ n + j ∧ n + j ≤ m ∧ (j = 0 ∨ n + j ≤ d + 1) ∧ RowAt wr A (ivals (xs ++ List.replicate j 0)) ∧ m ≤ c ∧ c ≤ maxLen ∧ Below w.heap.size w wr ∧ Box wr w.heap.size 40 #[.bool neg, .slice A0 n c0]) (fun t _ => 7 - slen t)
  case atStart => exact ⟨A0, c0, n, 0, rfl, by omega, by omega, .inl rfl, by simpa using hrow.alloc _, hcap, hcm, (Below.refl _ _).alloc (Nat.le_refl _) _, Box.new _ _ _⟩
  case round =>
    obtain ⟨A1, c1, m, j, rfl, hm1, hm2, hj, hr, hmc, hcm1, hb, b0⟩ := hrel
    clear hrow
    by_cases hmd : m ≤ d
    · have hl : (ivals (xs ++ List.replicate j 0)).length = m := by rw [ivals_len, List.length_append, List.length_replicate, ← HN.out]; omega
      have HL := Lib.hid hl
      clear hl
      have sw := hb.size
      go_wp2_with (at_builtin; refine wpList_append_row rfl _ _ 38 rfl wr.heap.size 3 i0 (.int .i64 0) 8 Tryd.underlying38 hi hz0 hz1 hz2 rfl _ 0 [] rfl (own_empty (Nat.le_refl _) rfl) A1 _ _ _ rfl HL.out (hr.alloc _) (ivals_one _) (by unfold maxLen; omega) (by omega) (by simp) ?_)
      intro A2 c2 w1 hown hr1 hs1 hg1
      have b1 : Below wr.heap.size wr w1 := ((Below.refl _ _).alloc (Nat.le_refl _) _).grown hr1 (by simp) (by simp [Value.ownBlock])
      clear hr1 hg1
      have hN : m + 1 ≤ 1099511627776 := by omega
      go_wp2_with (at_builtin; refine wpList_append_int rfl _ _ 38 rfl wr.heap.size 3 i0 Tryd.underlying38 hi hz0 hz1 hz2 _ _ _ rfl hown 0 rfl hN b1.size ?_)
      intro g3 c3 w4 hown4 hr4 hc3 hm3 hg3 hg3' hsz3
      have hb4 := b1.grown hr4 b1.size (fun k hk => (hown.lt k hk).1)
      clear hown hr4 b1
      go_wp2
      go_roundw
      case rel =>
        have hrow := RowAt.of_own hown4
        refine ⟨some ⟨g3, 0, none⟩, c3, m + 1, j + 1, rfl, by omega, by omega, .inr (by omega), ?_, hc3, hm3, hb.trans (hb4.mono sw), b0.later hb4⟩
        rw [pad_more, ivals_append]
        exact hrow
      case measure => simp [slen]; omega
    · have hpad : xs ++ List.replicate j 0 = padD d xs := by
        unfold padD
        rw [show d + 1 - xs.length = j by rw [← HN.out]; omega]
      rw [hpad] at hr
      have HP := Lib.hid (show (padD d xs).length = m by rw [← hpad, List.length_append, List.length_replicate, ← HN.out]; omega)
      have HT := Lib.hid (show textZ d z = if neg = true then 45 :: (rv d 0 (padD d xs)).reverse else (rv d 0 (padD d xs)).reverse by
        unfold textZ
        rw [← HX.out]
        unfold uT
        rw [rv_all (by rw [HP.out]; omega), ← HG.out]
        by_cases h : z < 0 <;> simp [h])
      have hmL : m ≤ 100010 := by omega
      clear hpad HX HN HG hj hm1 hm2
      generalize padD d xs = l at *
      obtain ⟨w5, rfl⟩ : ∃ w5, w5 = wr := ⟨_, rfl⟩
      go_wp2
      go_loopw [6, 7] (fun t i wr => ∃ (k : Nat) (s : ByteArray), k ≤ m ∧ i = .int .i64 k ∧ t = .string s ∧ Hid (s = ⟨(rv d 0 (l.take k)).reverse.toArray⟩) ∧ s.size ≤ 2 * k ∧ Below w5.heap.size w5 wr) (fun _ i _ => m - (intOf i).toNat)
      case atStart => exact ⟨0, _, by omega, rfl, rfl, rfl, Nat.zero_le _, Below.refl _ _⟩
      case round =>
        obtain ⟨k, s, hk, rfl, rfl, hs, hsz, hb2⟩ := hrel
        by_cases hkm : k < m
        · obtain ⟨bb, off, rfl, hbl, hc⟩ := hr.iget (by rw [HP.out]; omega)
          have hkl : k < l.length := by rw [HP.out]; exact hkm
          have g1 : wr.cell? ⟨bb, off + k, none⟩ = some (.int .i64 l[k]) := (hb2.cell (by exact hbl)).trans (hc k hkl)
          have hdk := hdg.out.get k hkl
          have HR := Lib.hid (rv_take (d := d) hkl)
          clear hc
          generalize l[k] = x at *
          have hcv := dig_text wr hdk
          have hss : s.size ≤ 1000000 := by omega
          by_cases hk1 : k = d
          · subst hk1
            have e1 : ((k : Int) == (k : Int)) = true := by simp
            by_cases h0 : 0 < k
            · rw [if_pos ⟨rfl, h0⟩] at HR
              go_wp2
              go_roundw
              case rel => exact ⟨k + 1, _, by omega, by go_num, rfl, by rw [HR.out, hs.out]; exact str_two _ _, by rw [ByteArray.size_append, ByteArray.size_append]; show 1 + (1 + s.size) ≤ _; omega, hb2.alloc hb2.size _⟩
              case measure => simp [intOf]; omega
            · rw [if_neg (by omega)] at HR
              go_wp2
              go_roundw
              case rel => exact ⟨k + 1, _, by omega, by go_num, rfl, by rw [HR.out, hs.out]; exact str_one _ _, by rw [ByteArray.size_append]; show 1 + s.size ≤ _; omega, hb2.alloc hb2.size _⟩
              case measure => simp [intOf]; omega
          · have e1 : ((k : Int) == (d : Int)) = false := by simpa using (by omega : ¬ (k : Int) = d)
            rw [if_neg (fun h => hk1 h.1)] at HR
            clear hk1
            go_wp2
            go_roundw
            case rel => exact ⟨k + 1, _, by omega, by go_num, rfl, by rw [HR.out, hs.out]; exact str_one _ _, by rw [ByteArray.size_append]; show 1 + s.size ≤ _; omega, hb2.alloc hb2.size _⟩
            case measure => simp [intOf]; omega
        · obtain rfl : k = m := by omega
          have c0 := b0.later hb2
          have k0 := c0.cells
          have l0 := c0.lt
          rw [List.take_of_length_le (by rw [HP.out]; omega)] at hs
          cases neg
          · go_wp2
            go_ret
            exact ⟨by rw [hs.out, HT.out]; rfl, hb.trans (hb2.mono hb.size)⟩
          · have hss : s.size ≤ 1000000 := by omega
            go_wp2
            go_ret
            exact ⟨by rw [hs.out, HT.out]; rfl, hb.trans (hb2.mono hb.size)⟩
end Go.Proofs.YtmdflhgmlipplaaDoor
