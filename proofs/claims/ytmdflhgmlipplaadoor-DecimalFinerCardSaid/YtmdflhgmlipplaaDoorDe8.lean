/-
  Chapter 6: the program's Parse.
-/
import Derived.Test.YtmdflhgmlipplaaDoorDe7
namespace Go.Proofs.YtmdflhgmlipplaaDoor
open Go.RowKit

theorem cut_minus {l : List UInt8} (h : l.head? = some 45) : Lib.hasPrefix l [45] = true ∧ l = 45 :: Lib.trimPrefix l [45] := by
  obtain ⟨r, rfl⟩ : ∃ r, l = 45 :: r := by
    cases l with
    | nil => cases h
    | cons a r => exact ⟨r, by rw [Option.some.inj h]⟩
  have hp : Lib.hasPrefix (45 :: r) [45] = true := by simp [Lib.hasPrefix, List.isPrefixOf]
  refine ⟨hp, ?_⟩
  unfold Lib.trimPrefix
  rw [if_pos hp]
  rfl
theorem cut_plus {l : List UInt8} (h : l.head? ≠ some 45) : Lib.hasPrefix l [45] = false ∧ Lib.trimPrefix l [45] = l := by
  have hp : Lib.hasPrefix l [45] = false := by
    cases l with
    | nil => rfl
    | cons a r =>
      have ha : a ≠ 45 := fun e => h (by rw [e]; rfl)
      simp [Lib.hasPrefix, List.isPrefixOf]
      exact fun e => ha e.symm
  refine ⟨hp, ?_⟩
  unfold Lib.trimPrefix
  rw [if_neg (by rw [hp]; decide)]
theorem dropWhile_nil {p : UInt8 → Bool} : ∀ {l : List UInt8}, l.dropWhile p = [] ↔ ∀ c ∈ l, p c = true := by
  intro l
  induction l with
  | nil => simp
  | cons a t ih =>
    rw [List.dropWhile_cons]
    split
    · rename_i h; rw [ih]; simp [h]
    · rename_i h; simp [h]
theorem trim_nil {o : List UInt8} : Lib.trimB o 48 = [] ↔ ∀ c ∈ o, c = 48 := by
  unfold Lib.trimB Lib.trimLeftB Lib.trimRightB
  rw [dropWhile_nil]
  constructor
  · intro h c hc
    by_cases hall : ∀ x ∈ o, x = 48
    · exact hall c hc
    · exfalso
      have hne : o.reverse.dropWhile (· == 48) ≠ [] := by
        intro e
        rw [dropWhile_nil] at e
        apply hall
        intro x hx
        simpa using e x (List.mem_reverse.2 hx)
      have h1 := h ((o.reverse.dropWhile (· == 48)).head hne) (List.mem_reverse.2 (List.head_mem hne))
      have h2 := List.head_dropWhile_not (p := fun x : UInt8 => x == 48) (l := o.reverse) hne
      rw [h1] at h2
      cases h2
  · intro h c hc
    have := h c (List.mem_reverse.1 ((List.dropWhile_suffix _).mem (List.mem_reverse.1 hc)))
    rw [this]; rfl
/-- What the program reads: the digits, with the sign. -/
def rdP (m : Bool) (o : List UInt8) : Int × Int := toldI (if m = true then -accD o else accD o)
theorem pl_some {d : Nat} {l : List UInt8} (h : (plL d l).2 = true) : ∃ o, cutP d l = some o ∧ okP d o = true ∧ (plL d l).1 = o := by
  unfold plL at h ⊢
  cases hc : cutP d l with
  | none => rw [hc] at h; cases h
  | some o =>
    rw [hc] at h
    simp only at h ⊢
    by_cases ha : o.all isD = true
    · rw [if_pos ha] at h ⊢
      refine ⟨o, rfl, ?_, rfl⟩
      unfold okP
      rw [ha]
      exact h
    · rw [if_neg ha] at h; cases h
theorem pl_of {d : Nat} {l o : List UInt8} (hc : cutP d l = some o) (ho : okP d o = true) : (plL d l).2 = true ∧ (plL d l).1 = o := by
  unfold plL
  rw [hc]
  unfold okP at ho
  rw [Bool.and_eq_true] at ho
  simp only
  rw [if_pos ho.1]
  exact ⟨ho.2, rfl⟩
theorem ok_digits {d : Nat} {o : List UInt8} (h : okP d o = true) : ∀ c ∈ o, isD c = true := by
  unfold okP at h
  rw [Bool.and_eq_true] at h
  exact List.all_eq_true.1 h.1
/-- Where the program takes a text it is that of its digits. -/
theorem rd_plus {d : Nat} {l : List UInt8} (hh : l.head? ≠ some 45) : ((plL d l).2 = true → rdL d l = rdP false (plL d l).1 ∧ ∀ c ∈ (plL d l).1, isD c = true) ∧ ((plL d l).2 = false → rdL d l = (0, 5)) := by
  constructor
  · intro h
    obtain ⟨o, hc, ho, e⟩ := pl_some h
    obtain ⟨h1, h2⟩ := parse_plus hh hc ho
    rw [e]
    refine ⟨?_, ok_digits ho⟩
    unfold rdL rdP
    rw [if_pos h1, h2, if_neg (by decide)]
  · intro h
    unfold rdL
    refine if_neg fun ht => ?_
    obtain ⟨o, hc, ho⟩ := text_plus hh ht
    rw [(pl_of hc ho).1] at h
    cases h
theorem rd_minus {d : Nat} {r : List UInt8} : ((plL d r).2 = true → (∀ c ∈ (plL d r).1, isD c = true) ∧ (accD (plL d r).1 ≠ 0 → rdL d (45 :: r) = rdP true (plL d r).1) ∧ (accD (plL d r).1 = 0 → rdL d (45 :: r) = (0, 5))) ∧ ((plL d r).2 = false → rdL d (45 :: r) = (0, 5)) := by
  constructor
  · intro h
    obtain ⟨o, hc, ho, e⟩ := pl_some h
    rw [e]
    refine ⟨ok_digits ho, fun h0 => ?_, fun h0 => ?_⟩
    · obtain ⟨h1, h2⟩ := parse_minus hc ho h0
      unfold rdL rdP
      rw [if_pos h1, h2, if_pos rfl]
    · unfold rdL
      refine if_neg fun ht => ?_
      obtain ⟨o', hc', ho', h0'⟩ := text_minus ht
      rw [hc] at hc'
      injection hc' with hc'
      subst hc'
      exact h0' h0
  · intro h
    unfold rdL
    refine if_neg fun ht => ?_
    obtain ⟨o, hc, ho, _⟩ := text_minus ht
    rw [(pl_of hc ho).1] at h
    cases h

theorem mono_sym {P : Program} {f : FuncId} {args : Array Value} {w : World} {v : Value} (h : Calls P f args w fun e w' => e = .returned v ∧ w' = w) : Calls P f args w fun e w' => e = .returned v ∧ w = w' := h.mono fun _ _ h => ⟨h.1, h.2.symm⟩
theorem str_list (l : List UInt8) : (⟨l.toArray⟩ : ByteArray).data.toList = l := by simp
set_option maxRecDepth 100000 in
set_option maxHeartbeats 4000000 in
theorem parse_minus_any (s : ByteArray) (d : Nat) (w : World) (hs : s.size ≤ 100) (hd : d ≤ 6) (hm : s.data.toList.head? = some 45) :
    Calls Tryd.prog 12 #[.string s, .int .i64 d] w fun e w' => e = .returned (.tuple #[.int .i64 (rdL d s.data.toList).1, .int .i64 (rdL d s.data.toList).2]) ∧ ∃ n, w.drewN n = w' := by
  have MD := Lib.hid fun w => dmay_any d w
  rw [show mayD (d : Int) = true from mayD_iff.2 (by omega)] at MD
  obtain ⟨h1, h2⟩ := cut_minus hm
  have CP := Lib.hid fun w => sh_strings_CutPrefix s ⟨#[45]⟩ w
  rw [show (⟨#[45]⟩ : ByteArray).data.toList = [45] from rfl, h1] at CP
  have hrl : (Lib.trimPrefix s.data.toList [45]).length ≤ 100 := by
    have := Lib.trimPrefix_le s.data.toList [45]
    rw [Array.length_toList] at this
    exact Nat.le_trans this hs
  obtain ⟨q, hq⟩ : ∃ q, rdL d s.data.toList = q := ⟨_, rfl⟩
  rw [hq]
  rw [h2] at hq
  generalize Lib.trimPrefix s.data.toList [45] = r at *
  have PL := Lib.hid fun w => plain_any ⟨r.toArray⟩ d w (by show r.toArray.size ≤ 100; simpa using hrl) hd
  rw [str_list] at PL
  obtain ⟨ry, rn⟩ := rd_minus (d := d) (r := r)
  clear hm h1 h2
  cases hok : (plL d r).2
  · rw [hok] at PL
    have HR := Lib.hid (hq.symm.trans (rn hok))
    clear ry rn hok hq hs hd
    go_enter Tryd.func12, Tryd.ntmps12
    go_wp2_with fail
    refine (MD.out _).mono ?_
    rintro e _ ⟨rfl, rfl⟩
    go_wp2_with fail
    refine (mono_sym (CP.out _)).mono ?_
    rintro e _ ⟨rfl, rfl⟩
    go_wp2_with fail
    refine (PL.out _).mono ?_
    rintro e _ ⟨rfl, n1, rfl⟩
    go_wp2
    go_ret2
    exact ⟨by rw [HR.out]; rfl, _, rfl⟩
  · rw [hok] at PL
    obtain ⟨hd1, hn0, hz0⟩ := ry hok
    have hol : (plL d r).1.length ≤ 1000000 := by
      obtain ⟨o, ho1, ho2, ho3⟩ := pl_some hok
      rw [ho3]
      unfold cutP at ho1
      split at ho1
      · split at ho1
        · injection ho1 with ho1; rw [← ho1]; simp; omega
        · cases ho1
      · injection ho1 with ho1; rw [← ho1]; omega
    have TR := Lib.hid fun w => sh_strings_Trim_one ⟨(plL d r).1.toArray⟩ 48 (by decide) w (by show (plL d r).1.toArray.size ≤ _; simp; omega)
    rw [str_list] at TR
    have tn := trim_nil (o := (plL d r).1)
    rw [← acc_zero hd1] at tn
    generalize (plL d r).1 = o at *
    clear rn hok ry hs
    by_cases hz : accD o = 0
    · have HR := Lib.hid (hq.symm.trans (hz0 hz))
      rw [tn.2 hz] at TR
      clear hz0 hn0 hz tn hd1 hd hq
      go_enter Tryd.func12, Tryd.ntmps12
      go_wp2_with fail
      refine (MD.out _).mono ?_
      rintro e _ ⟨rfl, rfl⟩
      go_wp2_with fail
      refine (mono_sym (CP.out _)).mono ?_
      rintro e _ ⟨rfl, rfl⟩
      go_wp2_with fail
      refine (PL.out _).mono ?_
      rintro e _ ⟨rfl, n1, rfl⟩
      go_wp2_with fail
      refine (TR.out _).mono ?_
      rintro e w9 ⟨rfl, h9⟩
      obtain ⟨n9, rfl⟩ : ∃ n, w9 = w.drewN n := by
        rcases h9 with rfl | rfl
        · exact ⟨n1, rfl⟩
        · exact ⟨n1 + 1, rfl⟩
      clear h9
      go_wp2
      go_ret2
      exact ⟨by rw [HR.out]; rfl, _, rfl⟩
    · have hq' := hq.symm.trans (hn0 hz)
      have hne : Lib.trimB o 48 ≠ [] := fun e => hz (tn.1 e)
      obtain ⟨os, hos⟩ : ∃ os : ByteArray, os = ⟨o.toArray⟩ := ⟨_, rfl⟩
      have hoo : o = os.data.toList := by rw [hos, str_list]
      have hosz : os.size ≤ 1000000 := by rw [hos]; show o.toArray.size ≤ _; simp; omega
      rw [show S8 o = .string os by rw [hos]] at PL
      rw [← hos] at TR
      rw [hoo] at hq' hd1
      generalize Lib.trimB o 48 = tb at *
      have hie : tb.isEmpty = false := by cases tb with | nil => exact absurd rfl hne | cons _ _ => rfl
      have hie2 : (tb == []) = false := by cases tb with | nil => exact absurd rfl hne | cons _ _ => rfl
      have HR := Lib.hid hq'
      have HD := Lib.hid hd1
      clear hz0 hn0 hz tn hd1 hd hq hq' hne hos hoo hol
      go_enter Tryd.func12, Tryd.ntmps12
      go_wp2_with fail
      refine (MD.out _).mono ?_
      rintro e _ ⟨rfl, rfl⟩
      go_wp2_with fail
      refine (mono_sym (CP.out _)).mono ?_
      rintro e _ ⟨rfl, rfl⟩
      go_wp2_with fail
      refine (PL.out _).mono ?_
      rintro e _ ⟨rfl, n1, rfl⟩
      go_wp2_with fail
      refine (TR.out _).mono ?_
      rintro e w9 ⟨rfl, h9⟩
      obtain ⟨n9, rfl⟩ : ∃ n, w9 = w.drewN n := by
        rcases h9 with rfl | rfl
        · exact ⟨n1, rfl⟩
        · exact ⟨n1 + 1, rfl⟩
      clear h9 PL TR CP MD
      go_wp2_with fail
      go_loopw [10, 11] (fun x i wr => ∃ (k nn : Nat), k ≤ os.size ∧ i = .int .i64 k ∧ x = .int .u64 (accD (os.data.toList.take k)) ∧ wr = w.drewN nn) (fun _ i _ => os.size - (intOf i).toNat)
      case atStart => exact ⟨0, _, by omega, rfl, rfl, rfl⟩
      case round =>
        obtain ⟨k, nn, hk, rfl, rfl, rfl⟩ := hrel
        have hln : os.data.toList.length = os.size := Array.length_toList
        have hx0 : 0 ≤ accD (os.data.toList.take k) := accD_nonneg fun c hc => HD.out c (List.mem_of_mem_take hc)
        by_cases hks : k < os.size
        · have hkl : k < os.data.toList.length := by rw [hln]; exact hks
          have hmo := (acc_mono HD.out k os.data.toList.length (by omega) (Nat.le_refl _)).2 hkl
          rw [List.take_length] at hmo
          have hst := acc_step hkl
          have hdc := isD_int.1 (HD.out _ (List.getElem_mem hkl))
          rw [s_get os k hks] at hst hdc
          have hnb : numB (os[k]'hks) = ((os[k]'hks).toNat : Int) - 48 := rfl
          rw [hnb] at hst
          have HS := Lib.hid hst
          by_cases hbig : 1844674407370955160 < accD (os.data.toList.take k)
          · have hvv : rdP true os.data.toList = (0, 10) := by
              unfold rdP
              rw [if_pos rfl]
              exact toldI_out (.inl (by omega))
            have HV := Lib.hid (HR.out.trans hvv)
            clear hvv HR HS hst hnb hmo hln hkl
            generalize accD (os.data.toList.take k) = x at *
            go_wp2
            go_ret2
            exact ⟨by rw [HV.out]; rfl, _, rfl⟩
          · have hsm : accD (os.data.toList.take k) ≤ 1844674407370955160 := by omega
            clear hst hnb hmo hln hkl hbig
            generalize accD (os.data.toList.take k) = x at *
            obtain ⟨c1, c2⟩ := hdc
            go_wp2
            go_roundw
            case rel => exact ⟨k + 1, nn, by omega, by go_num, by rw [HS.out], rfl⟩
            case measure => simp [intOf] <;> omega
        · obtain rfl : k = os.size := by omega
          have hvx : accD os.data.toList = accD (os.data.toList.take os.size) := by rw [List.take_of_length_le (by rw [hln]; exact Nat.le_refl _)]
          clear hln
          generalize accD (os.data.toList.take os.size) = v at *
          by_cases hv : v ≤ 9223372036854775808
          · have hvv : rdP true os.data.toList = (-v, 0) := by
              unfold rdP
              rw [if_pos rfl, hvx]
              exact toldI_in (by omega) (by omega)
            have HV := Lib.hid (HR.out.trans hvv)
            clear hvv HR hvx
            have cv : IntKind.i64.wrap (IntKind.u64.wrap (-v)) = -v := by
              simp [IntKind.wrap, IntKind.signed, IntKind.bits]; omega
            go_wp2
            go_ret2
            exact ⟨by rw [HV.out]; rfl, _, rfl⟩
          · have hvv : rdP true os.data.toList = (0, 10) := by
              unfold rdP
              rw [if_pos rfl, hvx]
              exact toldI_out (.inl (by omega))
            have HV := Lib.hid (HR.out.trans hvv)
            have hv' : 9223372036854775808 < v := by omega
            clear hvv HR hvx hv
            go_wp2
            go_ret2
            exact ⟨by rw [HV.out]; rfl, _, rfl⟩

set_option maxRecDepth 100000 in
set_option maxHeartbeats 4000000 in
theorem parse_plus_any (s : ByteArray) (d : Nat) (w : World) (hs : s.size ≤ 100) (hd : d ≤ 6) (hm : s.data.toList.head? ≠ some 45) :
    Calls Tryd.prog 12 #[.string s, .int .i64 d] w fun e w' => e = .returned (.tuple #[.int .i64 (rdL d s.data.toList).1, .int .i64 (rdL d s.data.toList).2]) ∧ ∃ n, w.drewN n = w' := by
  have MD := Lib.hid fun w => dmay_any d w
  rw [show mayD (d : Int) = true from mayD_iff.2 (by omega)] at MD
  obtain ⟨h1, h2⟩ := cut_plus hm
  have CP := Lib.hid fun w => sh_strings_CutPrefix s ⟨#[45]⟩ w
  rw [show (⟨#[45]⟩ : ByteArray).data.toList = [45] from rfl, h1, h2, Array.toArray_toList] at CP
  obtain ⟨q, hq⟩ : ∃ q, rdL d s.data.toList = q := ⟨_, rfl⟩
  rw [hq]
  have PL := Lib.hid fun w => plain_any s d w hs hd
  obtain ⟨ry, rn⟩ := rd_plus (d := d) hm
  clear hm h1 h2
  cases hok : (plL d s.data.toList).2
  · rw [hok] at PL
    have HR := Lib.hid (hq.symm.trans (rn hok))
    clear ry rn hok hq hs hd
    go_enter Tryd.func12, Tryd.ntmps12
    go_wp2_with fail
    refine (MD.out _).mono ?_
    rintro e _ ⟨rfl, rfl⟩
    go_wp2_with fail
    refine (mono_sym (CP.out _)).mono ?_
    rintro e _ ⟨rfl, rfl⟩
    go_wp2_with fail
    refine (PL.out _).mono ?_
    rintro e _ ⟨rfl, n1, rfl⟩
    go_wp2
    go_ret2
    exact ⟨by rw [HR.out]; rfl, _, rfl⟩
  · rw [hok] at PL
    obtain ⟨hr1, hd1⟩ := ry hok
    have hol : (plL d s.data.toList).1.length ≤ 1000000 := by
      have hsl : s.data.toList.length ≤ 100 := by rw [Array.length_toList]; exact hs
      obtain ⟨o, ho1, ho2, ho3⟩ := pl_some hok
      rw [ho3]
      unfold cutP at ho1
      split at ho1
      · split at ho1
        · injection ho1 with ho1; rw [← ho1, List.length_append, List.length_take, List.length_drop]; omega
        · cases ho1
      · injection ho1 with ho1; rw [← ho1]; omega
    have hq' := hq.symm.trans hr1
    generalize (plL d s.data.toList).1 = o at *
    clear rn hok ry hs hq hr1
    obtain ⟨os, hos⟩ : ∃ os : ByteArray, os = ⟨o.toArray⟩ := ⟨_, rfl⟩
    have hoo : o = os.data.toList := by rw [hos, str_list]
    have hosz : os.size ≤ 1000000 := by rw [hos]; show o.toArray.size ≤ _; simp; omega
    rw [show S8 o = .string os by rw [hos]] at PL
    rw [hoo] at hq' hd1
    have HR := Lib.hid hq'
    have HD := Lib.hid hd1
    clear hd1 hd hq' hos hoo hol
    go_enter Tryd.func12, Tryd.ntmps12
    go_wp2_with fail
    refine (MD.out _).mono ?_
    rintro e _ ⟨rfl, rfl⟩
    go_wp2_with fail
    refine (mono_sym (CP.out _)).mono ?_
    rintro e _ ⟨rfl, rfl⟩
    go_wp2_with fail
    refine (PL.out _).mono ?_
    rintro e _ ⟨rfl, n1, rfl⟩
    clear PL CP MD
    go_wp2_with fail
    go_loopw [10, 11] (fun x i wr => ∃ (k nn : Nat), k ≤ os.size ∧ i = .int .i64 k ∧ x = .int .u64 (accD (os.data.toList.take k)) ∧ wr = w.drewN nn) (fun _ i _ => os.size - (intOf i).toNat)
    case atStart => exact ⟨0, _, by omega, rfl, rfl, rfl⟩
    case round =>
      obtain ⟨k, nn, hk, rfl, rfl, rfl⟩ := hrel
      have hln : os.data.toList.length = os.size := Array.length_toList
      have hx0 : 0 ≤ accD (os.data.toList.take k) := accD_nonneg fun c hc => HD.out c (List.mem_of_mem_take hc)
      by_cases hks : k < os.size
      · have hkl : k < os.data.toList.length := by rw [hln]; exact hks
        have hmo := (acc_mono HD.out k os.data.toList.length (by omega) (Nat.le_refl _)).2 hkl
        rw [List.take_length] at hmo
        have hst := acc_step hkl
        have hdc := isD_int.1 (HD.out _ (List.getElem_mem hkl))
        rw [s_get os k hks] at hst hdc
        have hnb : numB (os[k]'hks) = ((os[k]'hks).toNat : Int) - 48 := rfl
        rw [hnb] at hst
        have HS := Lib.hid hst
        by_cases hbig : 1844674407370955160 < accD (os.data.toList.take k)
        · have hvv : rdP false os.data.toList = (0, 10) := by
            unfold rdP
            rw [if_neg (by decide)]
            exact toldI_out (.inr (by omega))
          have HV := Lib.hid (HR.out.trans hvv)
          clear hvv HR HS hst hnb hmo hln hkl
          generalize accD (os.data.toList.take k) = x at *
          go_wp2
          go_ret2
          exact ⟨by rw [HV.out]; rfl, _, rfl⟩
        · have hsm : accD (os.data.toList.take k) ≤ 1844674407370955160 := by omega
          clear hst hnb hmo hln hkl hbig
          generalize accD (os.data.toList.take k) = x at *
          obtain ⟨c1, c2⟩ := hdc
          go_wp2
          go_roundw
          case rel => exact ⟨k + 1, nn, by omega, by go_num, by rw [HS.out], rfl⟩
          case measure => simp [intOf] <;> omega
      · obtain rfl : k = os.size := by omega
        have hvx : accD os.data.toList = accD (os.data.toList.take os.size) := by rw [List.take_of_length_le (by rw [hln]; exact Nat.le_refl _)]
        clear hln
        generalize accD (os.data.toList.take os.size) = v at *
        by_cases hv : v ≤ 9223372036854775807
        · have hvv : rdP false os.data.toList = (v, 0) := by
            unfold rdP
            rw [if_neg (by decide), hvx]
            exact toldI_in (by omega) hv
          have HV := Lib.hid (HR.out.trans hvv)
          clear hvv HR hvx
          have cv : IntKind.i64.wrap v = v := IntWalk.i64_in v (by omega)
          go_wp2
          go_ret2
          exact ⟨by rw [HV.out]; rfl, _, rfl⟩
        · have hvv : rdP false os.data.toList = (0, 10) := by
            unfold rdP
            rw [if_neg (by decide), hvx]
            exact toldI_out (.inr (by omega))
          have HV := Lib.hid (HR.out.trans hvv)
          have hv' : 9223372036854775807 < v := by omega
          clear hvv HR hvx hv
          go_wp2
          go_ret2
          exact ⟨by rw [HV.out]; rfl, _, rfl⟩

theorem parse_any (s : ByteArray) (d : Int) (w : World) (hs : s.size ≤ 100) :
    Calls Tryd.prog 12 #[.string s, .int .i64 d] w fun e w' => e = .returned (.tuple #[.int .i64 (rdI s.data.toList d).1, .int .i64 (rdI s.data.toList d).2]) ∧ ∃ n, w.drewN n = w' := by
  unfold rdI
  by_cases hd : mayD d = true
  · rw [if_pos hd]
    have hb := mayD_iff.1 hd
    obtain ⟨n, rfl⟩ : ∃ n : Nat, d = n := ⟨d.toNat, by omega⟩
    rw [Int.toNat_natCast]
    by_cases hm : s.data.toList.head? = some 45
    · exact parse_minus_any s n w hs (by omega) hm
    · exact parse_plus_any s n w hs (by omega) hm
  · rw [if_neg hd]
    have MD := Lib.hid fun w => dmay_any d w
    rw [show mayD d = false by simpa using hd] at MD
    clear hd
    go_enter Tryd.func12, Tryd.ntmps12
    go_wp2_with fail
    refine (MD.out _).mono ?_
    rintro e _ ⟨rfl, rfl⟩
    go_wp2
    go_ret2
    exact ⟨rfl, 0, rfl⟩
end Go.Proofs.YtmdflhgmlipplaaDoor
