/- Whatever the number: FormatInt of the program and of the reference answer alike; no condition beyond the form's own reach. -/
import Derived.Test.YtmifcjkbjjnelaaDoorSayFnExactFormatInt
import Derived.Test.YtmifcjkbjjnelaaDoorPureKit
namespace Go.Proofs.YtmifcjkbjjnelaaDoor.Pure
open Go.RowKit Go.Proofs.YtmifcjkbjjnelaaDoor.MFnExactFormatInt Go.Proofs.YtmifcjkbjjnelaaDoor.PureKit Go.Proofs.YtmifcjkbjjnelaaDoorW.PrintWords Go.Proofs.YtmifcjkbjjnelaaDoorW.PrintLast
set_option linter.unusedSimpArgs false
set_option linter.unusedVariables false
theorem app_data (a b : ByteArray) : (a ++ b).data.toList = a.data.toList ++ b.data.toList := by
  rw [ByteArray.data_append, Array.toList_append]
/-- The decimal text of n. -/
def digits (m : Nat) : ByteArray := ⟨(Lib.decDigits m).toArray⟩
theorem dec_step (m : Nat) (h : ¬ m < 10) : Lib.decDigits m = Lib.decDigits (m / 10) ++ [UInt8.ofNat (48 + m % 10)] := by
  rw [Lib.decDigits, dif_neg h]
theorem dec_len (m d : Nat) (h : m < 10 ^ (d + 1)) : (Lib.decDigits m).length ≤ d + 1 := by
  induction d generalizing m with
  | zero => rw [Lib.decDigits_one (by simpa using h)]; simp
  | succ d ih =>
    by_cases c : m < 10
    · rw [Lib.decDigits_one c]; simp
    · rw [dec_step m c, List.length_append]
      have : m / 10 < 10 ^ (d + 1) := by
        rw [Nat.div_lt_iff_lt_mul (by decide)]
        rw [Nat.pow_succ] at h
        exact h
      have := ih _ this
      simp; omega
theorem one_byte (x : Int) (c : Nat) (h : x = c) (hc : c < 256) : strOfNums [x % 256] = ⟨#[UInt8.ofNat c]⟩ := by
  subst h
  unfold strOfNums
  have : ((c : Int) % 256).toNat = c := by omega
  simp [this]
theorem specFmt_loop (d : Nat) : ∀ (k m : Nat) (acc : ByteArray), m < 10 ^ (d + 1) → m ≤ 9223372036854775808 → d < k → acc.size + d ≤ 1000 → spec_FormatInt.l0 k (m : Int) acc = some (digits m ++ acc) := by
  induction d with
  | zero =>
    intro k m acc hm _ hk ha
    obtain ⟨k, rfl⟩ : ∃ j, k = j + 1 := ⟨k - 1, by omega⟩
    have hm : m < 10 := by simpa using hm
    simp only [spec_FormatInt.l0]
    rw [if_neg (by omega), Option.bind_some, one_byte (wrap64 (48 + (m : Int))) (48 + m) (by rw [wrap_id (by omega) (by omega)]; rfl) (by omega), if_pos (by show 1 + acc.size ≤ _; omega)]
    unfold digits
    rw [Lib.decDigits_one hm]
  | succ d ih =>
    intro k m acc hm hb hk ha
    obtain ⟨k, rfl⟩ : ∃ j, k = j + 1 := ⟨k - 1, by omega⟩
    simp only [spec_FormatInt.l0]
    by_cases c : m < 10
    · rw [if_neg (by omega), Option.bind_some, one_byte (wrap64 (48 + (m : Int))) (48 + m) (by rw [wrap_id (by omega) (by omega)]; rfl) (by omega), if_pos (by show 1 + acc.size ≤ _; omega)]
      unfold digits
      rw [Lib.decDigits_one c]
    · have e1 : Int.tmod (m : Int) 10 = ((m % 10 : Nat) : Int) := by rw [Int.tmod_eq_emod_of_nonneg (by omega)]; rfl
      have e2 : Int.tdiv (m : Int) 10 = ((m / 10 : Nat) : Int) := by rw [Int.tdiv_eq_ediv_of_nonneg (by omega)]; rfl
      have h10 : m / 10 < 10 ^ (d + 1) := by
        rw [Nat.div_lt_iff_lt_mul (by decide)]
        rw [Nat.pow_succ] at hm
        exact hm
      rw [if_pos (by omega), Option.bind_some, e1, e2, one_byte (wrap64 (48 + ((m % 10 : Nat) : Int))) (48 + m % 10) (by rw [wrap_id (by omega) (by omega)]; rfl) (by omega), if_pos (by show 1 + acc.size ≤ _; omega), wrap_id (by omega) (by omega)]
      rw [ih k (m / 10) _ h10 (by omega) (by omega) (by rw [ByteArray.size_append]; show 1 + acc.size + d ≤ _; omega)]
      congr 1
      apply WideShapes.bytes_inj
      rw [app_data, app_data, app_data]
      unfold digits
      rw [dec_step m c]
      simp
theorem specFmt_neg (d : Nat) : ∀ (k m : Nat), 0 < m → m < 10 ^ (d + 1) → m ≤ 9223372036854775808 → d < 100 → d < k → spec_FormatInt.f k (-(m : Int)) = some (⟨(45 :: Lib.decDigits m).toArray⟩ : ByteArray) := by
  induction d with
  | zero =>
    intro k m h0 hm hb hd hk
    obtain ⟨k, rfl⟩ : ∃ j, k = j + 1 := ⟨k - 1, by omega⟩
    have hm : m < 10 := by simpa using hm
    have e2 : Int.tdiv (-(m : Int)) 10 = 0 := by rw [Int.neg_tdiv, Int.tdiv_eq_ediv_of_nonneg (by omega)]; omega
    simp only [spec_FormatInt.f]
    rw [if_pos (by omega), e2, if_pos (by unfold wrap64; omega), Option.bind_some, one_byte (wrap64 (48 - -(m : Int))) (48 + m) (by rw [wrap_id (by omega) (by omega)]; omega) (by omega), if_pos (by show 1 + 1 ≤ _; omega)]
    rw [Lib.decDigits_one hm]
    rfl
  | succ d ih =>
    intro k m h0 hm hb hd hk
    obtain ⟨k, rfl⟩ : ∃ j, k = j + 1 := ⟨k - 1, by omega⟩
    have e2 : Int.tdiv (-(m : Int)) 10 = -((m / 10 : Nat) : Int) := by rw [Int.neg_tdiv, Int.tdiv_eq_ediv_of_nonneg (by omega)]; rfl
    have e1 : Int.tmod (-(m : Int)) 10 = -((m % 10 : Nat) : Int) := by rw [Int.neg_tmod, Int.tmod_eq_emod_of_nonneg (by omega)]; rfl
    have hw : wrap64 (-((m / 10 : Nat) : Int)) = -((m / 10 : Nat) : Int) := wrap_id (by omega) (by omega)
    simp only [spec_FormatInt.f]
    rw [if_pos (by omega), e2, e1, hw]
    by_cases c : m < 10
    · rw [if_pos (by omega), Option.bind_some, one_byte (wrap64 (48 - -(m : Int))) (48 + m) (by rw [wrap_id (by omega) (by omega)]; omega) (by omega), if_pos (by show 1 + 1 ≤ _; omega)]
      rw [Lib.decDigits_one c]
      rfl
    · have h10 : m / 10 < 10 ^ (d + 1) := by
        rw [Nat.div_lt_iff_lt_mul (by decide)]
        rw [Nat.pow_succ] at hm
        exact hm
      have hl := dec_len (m / 10) d h10
      rw [if_neg (by omega), ih k (m / 10) (by omega) h10 (by omega) (by omega) (by omega), Option.bind_some, Option.bind_some, one_byte (wrap64 (48 - -((m % 10 : Nat) : Int))) (48 + m % 10) (by rw [wrap_id (by omega) (by omega)]; omega) (by omega)]
      rw [if_pos (by show (45 :: Lib.decDigits (m / 10)).toArray.size + 1 ≤ _; simp; omega)]
      congr 1
      apply WideShapes.bytes_inj
      rw [app_data, dec_step m c]
      simp
theorem specFmt_eq (n : Int) (h1 : -9223372036854775808 ≤ n) (h2 : n ≤ 9223372036854775807) (k : Nat) (hk : 21 < k) : spec_FormatInt.f k n = some (⟨(Lib.itoa n).toArray⟩ : ByteArray) := by
  unfold Lib.itoa
  by_cases c : n < 0
  · rw [if_pos c]
    obtain ⟨m, rfl⟩ : ∃ m : Nat, n = -(m : Int) := ⟨n.natAbs, by omega⟩
    rw [specFmt_neg 19 k m (by omega) (by omega) (by omega) (by omega) (by omega)]
    simp
  · rw [if_neg c]
    obtain ⟨m, rfl⟩ : ∃ m : Nat, n = (m : Int) := ⟨n.toNat, by omega⟩
    obtain ⟨k, rfl⟩ : ∃ j, k = j + 1 := ⟨k - 1, by omega⟩
    simp only [spec_FormatInt.f]
    rw [if_neg c, specFmt_loop 19 k m _ (by omega) (by omega) (by omega) (by show 0 + 19 ≤ _; omega)]
    congr 1
    apply WideShapes.bytes_inj
    rw [app_data]
    simp [digits]
theorem implFmt_eq (n : Int) (h1 : -9223372036854775808 ≤ n) (h2 : n ≤ 9223372036854775807) : impl_FormatInt.f n = some (⟨(Lib.itoa n).toArray⟩ : ByteArray) := by
  unfold impl_FormatInt.f strconv_Itoa_21.f
  rw [if_pos ⟨h1, h2⟩]
  rfl
theorem FnExactFormatInt : FnExactFormatInt_pure := by
  intro n hw
  have hb := wf_bd hw
  refine ⟨22, ?_⟩
  unfold laws_FnExactFormatInt.f
  rw [specFmt_eq n hb.1 hb.2 22 (by omega), implFmt_eq n hb.1 hb.2]
  simp

end Go.Proofs.YtmifcjkbjjnelaaDoor.Pure
