/- Whatever the text: ParseInt of the program and of the reference answer alike; no condition beyond the form's own reach. -/
import Derived.Test.YtmifcjkbjjnelaaDoorSayFnExactParseInt
import Derived.Test.YtmifcjkbjjnelaaDoorPureKit
namespace Go.Proofs.YtmifcjkbjjnelaaDoor.Pure
open Go.RowKit Go.Proofs.YtmifcjkbjjnelaaDoor.MFnExactParseInt Go.Proofs.YtmifcjkbjjnelaaDoor.PureKit Go.Proofs.YtmifcjkbjjnelaaDoorW.PrintWords Go.Proofs.YtmifcjkbjjnelaaDoorW.PrintLast
set_option linter.unusedSimpArgs false
set_option linter.unusedVariables false
theorem app_data (a b : ByteArray) : (a ++ b).data.toList = a.data.toList ++ b.data.toList := by
  rw [ByteArray.data_append, Array.toList_append]
/-- The decimal text of n. -/
def digits (m : Nat) : ByteArray := ⟨(Lib.decDigits m).toArray⟩
theorem dec_step (m : Nat) (h : ¬ m < 10) : Lib.decDigits m = Lib.decDigits (m / 10) ++ [UInt8.ofNat (48 + m % 10)] := by
  rw [Lib.decDigits, dif_neg h]
theorem dec_len (m d : Nat) (h : m < 10 ^ (d + 1)) : (Lib.decDigits m).length ≤ d + 1 := by
  induction d generalizing m with
  | zero => rw [Lib.decDigits_one (by simpa using h)]; simp
  | succ d ih =>
    by_cases c : m < 10
    · rw [Lib.decDigits_one c]; simp
    · rw [dec_step m c, List.length_append]
      have : m / 10 < 10 ^ (d + 1) := by
        rw [Nat.div_lt_iff_lt_mul (by decide)]
        rw [Nat.pow_succ] at h
        exact h
      have := ih _ this
      simp; omega
theorem one_byte (x : Int) (c : Nat) (h : x = c) (hc : c < 256) : strOfNums [x % 256] = ⟨#[UInt8.ofNat c]⟩ := by
  subst h
  unfold strOfNums
  have : ((c : Int) % 256).toNat = c := by omega
  simp [this]
theorem specFmt_loop (d : Nat) : ∀ (k m : Nat) (acc : ByteArray), m < 10 ^ (d + 1) → m ≤ 9223372036854775808 → d < k → acc.size + d ≤ 1000 → spec_FormatInt.l0 k (m : Int) acc = some (digits m ++ acc) := by
  induction d with
  | zero =>
    intro k m acc hm _ hk ha
    obtain ⟨k, rfl⟩ : ∃ j, k = j + 1 := ⟨k - 1, by omega⟩
    have hm : m < 10 := by simpa using hm
    simp only [spec_FormatInt.l0]
    rw [if_neg (by omega), Option.bind_some, one_byte (wrap64 (48 + (m : Int))) (48 + m) (by rw [wrap_id (by omega) (by omega)]; rfl) (by omega), if_pos (by show 1 + acc.size ≤ _; omega)]
    unfold digits
    rw [Lib.decDigits_one hm]
  | succ d ih =>
    intro k m acc hm hb hk ha
    obtain ⟨k, rfl⟩ : ∃ j, k = j + 1 := ⟨k - 1, by omega⟩
    simp only [spec_FormatInt.l0]
    by_cases c : m < 10
    · rw [if_neg (by omega), Option.bind_some, one_byte (wrap64 (48 + (m : Int))) (48 + m) (by rw [wrap_id (by omega) (by omega)]; rfl) (by omega), if_pos (by show 1 + acc.size ≤ _; omega)]
      unfold digits
      rw [Lib.decDigits_one c]
    · have e1 : Int.tmod (m : Int) 10 = ((m % 10 : Nat) : Int) := by rw [Int.tmod_eq_emod_of_nonneg (by omega)]; rfl
      have e2 : Int.tdiv (m : Int) 10 = ((m / 10 : Nat) : Int) := by rw [Int.tdiv_eq_ediv_of_nonneg (by omega)]; rfl
      have h10 : m / 10 < 10 ^ (d + 1) := by
        rw [Nat.div_lt_iff_lt_mul (by decide)]
        rw [Nat.pow_succ] at hm
        exact hm
      rw [if_pos (by omega), Option.bind_some, e1, e2, one_byte (wrap64 (48 + ((m % 10 : Nat) : Int))) (48 + m % 10) (by rw [wrap_id (by omega) (by omega)]; rfl) (by omega), if_pos (by show 1 + acc.size ≤ _; omega), wrap_id (by omega) (by omega)]
      rw [ih k (m / 10) _ h10 (by omega) (by omega) (by rw [ByteArray.size_append]; show 1 + acc.size + d ≤ _; omega)]
      congr 1
      apply WideShapes.bytes_inj
      rw [app_data, app_data, app_data]
      unfold digits
      rw [dec_step m c]
      simp
theorem specFmt_neg (d : Nat) : ∀ (k m : Nat), 0 < m → m < 10 ^ (d + 1) → m ≤ 9223372036854775808 → d < 100 → d < k → spec_FormatInt.f k (-(m : Int)) = some (⟨(45 :: Lib.decDigits m).toArray⟩ : ByteArray) := by
  induction d with
  | zero =>
    intro k m h0 hm hb hd hk
    obtain ⟨k, rfl⟩ : ∃ j, k = j + 1 := ⟨k - 1, by omega⟩
    have hm : m < 10 := by simpa using hm
    have e2 : Int.tdiv (-(m : Int)) 10 = 0 := by rw [Int.neg_tdiv, Int.tdiv_eq_ediv_of_nonneg (by omega)]; omega
    simp only [spec_FormatInt.f]
    rw [if_pos (by omega), e2, if_pos (by unfold wrap64; omega), Option.bind_some, one_byte (wrap64 (48 - -(m : Int))) (48 + m) (by rw [wrap_id (by omega) (by omega)]; omega) (by omega), if_pos (by show 1 + 1 ≤ _; omega)]
    rw [Lib.decDigits_one hm]
    rfl
  | succ d ih =>
    intro k m h0 hm hb hd hk
    obtain ⟨k, rfl⟩ : ∃ j, k = j + 1 := ⟨k - 1, by omega⟩
    have e2 : Int.tdiv (-(m : Int)) 10 = -((m / 10 : Nat) : Int) := by rw [Int.neg_tdiv, Int.tdiv_eq_ediv_of_nonneg (by omega)]; rfl
    have e1 : Int.tmod (-(m : Int)) 10 = -((m % 10 : Nat) : Int) := by rw [Int.neg_tmod, Int.tmod_eq_emod_of_nonneg (by omega)]; rfl
    have hw : wrap64 (-((m / 10 : Nat) : Int)) = -((m / 10 : Nat) : Int) := wrap_id (by omega) (by omega)
    simp only [spec_FormatInt.f]
    rw [if_pos (by omega), e2, e1, hw]
    by_cases c : m < 10
    · rw [if_pos (by omega), Option.bind_some, one_byte (wrap64 (48 - -(m : Int))) (48 + m) (by rw [wrap_id (by omega) (by omega)]; omega) (by omega), if_pos (by show 1 + 1 ≤ _; omega)]
      rw [Lib.decDigits_one c]
      rfl
    · have h10 : m / 10 < 10 ^ (d + 1) := by
        rw [Nat.div_lt_iff_lt_mul (by decide)]
        rw [Nat.pow_succ] at hm
        exact hm
      have hl := dec_len (m / 10) d h10
      rw [if_neg (by omega), ih k (m / 10) (by omega) h10 (by omega) (by omega) (by omega), Option.bind_some, Option.bind_some, one_byte (wrap64 (48 - -((m % 10 : Nat) : Int))) (48 + m % 10) (by rw [wrap_id (by omega) (by omega)]; omega) (by omega)]
      rw [if_pos (by show (45 :: Lib.decDigits (m / 10)).toArray.size + 1 ≤ _; simp; omega)]
      congr 1
      apply WideShapes.bytes_inj
      rw [app_data, dec_step m c]
      simp
theorem specFmt_eq (n : Int) (h1 : -9223372036854775808 ≤ n) (h2 : n ≤ 9223372036854775807) (k : Nat) (hk : 21 < k) : spec_FormatInt.f k n = some (⟨(Lib.itoa n).toArray⟩ : ByteArray) := by
  unfold Lib.itoa
  by_cases c : n < 0
  · rw [if_pos c]
    obtain ⟨m, rfl⟩ : ∃ m : Nat, n = -(m : Int) := ⟨n.natAbs, by omega⟩
    rw [specFmt_neg 19 k m (by omega) (by omega) (by omega) (by omega) (by omega)]
    simp
  · rw [if_neg c]
    obtain ⟨m, rfl⟩ : ∃ m : Nat, n = (m : Int) := ⟨n.toNat, by omega⟩
    obtain ⟨k, rfl⟩ : ∃ j, k = j + 1 := ⟨k - 1, by omega⟩
    simp only [spec_FormatInt.f]
    rw [if_neg c, specFmt_loop 19 k m _ (by omega) (by omega) (by omega) (by show 0 + 19 ≤ _; omega)]
    congr 1
    apply WideShapes.bytes_inj
    rw [app_data]
    simp [digits]
theorem implFmt_eq (n : Int) (h1 : -9223372036854775808 ≤ n) (h2 : n ≤ 9223372036854775807) : impl_FormatInt.f n = some (⟨(Lib.itoa n).toArray⟩ : ByteArray) := by
  unfold impl_FormatInt.f strconv_Itoa_21.f
  rw [if_pos ⟨h1, h2⟩]
  rfl
theorem bt_list (s : ByteArray) (i : Nat) (h : i < s.data.toList.length) : bt s (i : Int) = ((s.data.toList[i]).toNat : Int) := by
  have h' : (i : Int).toNat < s.size := by rw [Int.toNat_natCast]; simpa using h
  rw [← bt_at s i h']
  rfl
theorem size_list (s : ByteArray) : s.size = s.data.toList.length := by rw [Array.length_toList]; rfl
def isD (b : UInt8) : Bool := decide (48 ≤ b.toNat) && decide (b.toNat ≤ 57)
def digs (l : List UInt8) : Bool := l.all isD
/-- What a row of digits spells, behind a. -/
def valFrom (a : Nat) : List UInt8 → Nat
  | [] => a
  | b :: r => valFrom (a * 10 + (b.toNat - 48)) r
theorem valFrom_ge (l : List UInt8) : ∀ a, a ≤ valFrom a l := by
  induction l with
  | nil => intro a; exact Nat.le_refl _
  | cons b r ih => intro a; exact Nat.le_trans (by omega) (ih _)
theorem valFrom_append (l r : List UInt8) : ∀ a, valFrom a (l ++ r) = valFrom (valFrom a l) r := by
  induction l with
  | nil => intro a; rfl
  | cons b l ih => intro a; exact ih _
/-- The bytes of the decimal text: digits, at least one; they spell the number. -/
theorem dec_facts (m : Nat) : digs (Lib.decDigits m) = true ∧ Lib.decDigits m ≠ [] ∧ valFrom 0 (Lib.decDigits m) = m := by
  induction m using Nat.strongRecOn with
  | _ m ih =>
    have hdig : ∀ d, d < 10 → isD (UInt8.ofNat (48 + d)) = true ∧ (UInt8.ofNat (48 + d)).toNat = 48 + d := by
      intro d hd
      have e : (UInt8.ofNat (48 + d)).toNat = 48 + d := by simp; omega
      refine ⟨?_, e⟩
      unfold isD
      rw [e]
      simp; omega
    by_cases c : m < 10
    · rw [Lib.decDigits_one c]
      have h := hdig m c
      generalize UInt8.ofNat (48 + m) = b at h
      refine ⟨by simp [digs, h.1], by simp, ?_⟩
      show 0 * 10 + (b.toNat - 48) = m
      rw [h.2]; omega
    · rw [dec_step m c]
      obtain ⟨h1, h2, h3⟩ := ih (m / 10) (by omega)
      have h := hdig (m % 10) (by omega)
      generalize UInt8.ofNat (48 + m % 10) = b at h
      refine ⟨?_, by simp, ?_⟩
      · unfold digs at h1 ⊢
        rw [List.all_append, h1]; simp [h.1]
      · rw [valFrom_append, h3]
        show m / 10 * 10 + (b.toNat - 48) = m
        rw [h.2]; omega
theorem parse_val (l : List UInt8) : ∀ a : Nat, digs l = true → valFrom a l ≤ 9223372036854775808 → Lib.parseUint10 a l = .ok (valFrom a l) := by
  induction l with
  | nil => intro a _ _; rfl
  | cons b r ih =>
    intro a hd hv
    unfold digs at hd
    rw [List.all_cons, Bool.and_eq_true] at hd
    have hb := hd.1
    unfold isD at hb
    simp only [Bool.and_eq_true, decide_eq_true_eq] at hb
    have hg := valFrom_ge r (a * 10 + (b.toNat - 48))
    have e1 : valFrom a (b :: r) = valFrom (a * 10 + (b.toNat - 48)) r := rfl
    rw [e1] at hv ⊢
    have k1 : ¬ 1844674407370955162 ≤ a := by omega
    have k2 : ¬ 18446744073709551616 ≤ a * 10 + (b.toNat - 48) := by omega
    rw [← ih _ hd.2 hv]
    rw [Lib.parseUint10, if_pos hb, if_neg k1, if_neg k2]
theorem digit_ne (b : UInt8) (h : isD b = true) : b.toNat ≠ 43 ∧ b.toNat ≠ 45 ∧ b ≠ 45 := by
  unfold isD at h
  simp only [Bool.and_eq_true, decide_eq_true_eq] at h
  refine ⟨by omega, by omega, ?_⟩
  rintro rfl
  have e1 : (45 : UInt8).toNat = 45 := rfl
  omega
theorem atoi_itoa (v : Int) (h1 : -9223372036854775808 ≤ v) (h2 : v ≤ 9223372036854775807) : Lib.atoiAll (Lib.itoa v) = .ok v := by
  unfold Lib.itoa
  by_cases c : v < 0
  · rw [if_pos c, Lib.atoiAll_minus]
    obtain ⟨d1, d2, d3⟩ := dec_facts v.natAbs
    unfold Lib.parseMag
    rw [if_neg d2, parse_val _ 0 d1 (by rw [d3]; omega), d3]
    simp only [Lib.signed]
    rw [if_neg (by omega)]
    congr 1; omega
  · rw [if_neg c]
    obtain ⟨d1, d2, d3⟩ := dec_facts v.toNat
    have hp : Lib.parseMag (Lib.decDigits v.toNat) = .ok v.toNat := by
      unfold Lib.parseMag
      rw [if_neg d2, parse_val _ 0 d1 (by rw [d3]; omega), d3]
    cases hl : Lib.decDigits v.toNat with
    | nil => exact absurd hl d2
    | cons b r =>
      rw [hl] at d1 hp
      unfold digs at d1
      rw [List.all_cons, Bool.and_eq_true] at d1
      have hn := digit_ne b d1.1
      rw [Lib.atoiAll_plain b r hn.1 hn.2.1, hp]
      simp only [Lib.signless]
      rw [if_neg (by omega)]
      congr 1; omega
/-- What stands behind the sign, and whether there is one. -/
def signOf (l : List UInt8) : Bool × List UInt8 := match l with
  | b :: r => if b = 45 then (true, r) else (false, b :: r)
  | [] => (false, [])
/-- The number that a text is, where it is one's own text. -/
def parseP (l : List UInt8) : Int × Bool :=
  if (digs (signOf l).2 && decide ((signOf l).2 ≠ [])) = true ∧ (signOf l).2.length ≤ 19 then
    (if 9223372036854775808 < valFrom 0 (signOf l).2 then (0, false)
     else if (signOf l).1 = true then (if Lib.itoa (-(valFrom 0 (signOf l).2 : Int)) = l then (-(valFrom 0 (signOf l).2 : Int), true) else (0, false))
     else if valFrom 0 (signOf l).2 = 9223372036854775808 then (0, false)
     else if Lib.itoa (valFrom 0 (signOf l).2 : Int) = l then ((valFrom 0 (signOf l).2 : Int), true) else (0, false))
  else (0, false)
theorem parseP_sound (l : List UInt8) : parseP l = (0, false) ∨ ∃ v : Int, -9223372036854775808 ≤ v ∧ v ≤ 9223372036854775807 ∧ parseP l = (v, true) ∧ Lib.itoa v = l := by
  unfold parseP
  split
  · split
    · exact Or.inl rfl
    · split
      · split
        · rename_i h; exact Or.inr ⟨_, by omega, by omega, rfl, h⟩
        · exact Or.inl rfl
      · split
        · exact Or.inl rfl
        · split
          · rename_i h; exact Or.inr ⟨_, by omega, by omega, rfl, h⟩
          · exact Or.inl rfl
  · exact Or.inl rfl
theorem parseP_itoa (v : Int) (h1 : -9223372036854775808 ≤ v) (h2 : v ≤ 9223372036854775807) : parseP (Lib.itoa v) = (v, true) := by
  by_cases c : v < 0
  · have e : Lib.itoa v = 45 :: Lib.decDigits v.natAbs := by unfold Lib.itoa; rw [if_pos c]
    obtain ⟨d1, d2, d3⟩ := dec_facts v.natAbs
    have hs : signOf (Lib.itoa v) = (true, Lib.decDigits v.natAbs) := by rw [e]; rfl
    have hl := dec_len v.natAbs 18 (by omega)
    unfold parseP
    rw [hs]
    simp only
    rw [if_pos ⟨by rw [d1]; simp [d2], by omega⟩, d3, if_neg (by omega), if_pos trivial, show -((v.natAbs : Nat) : Int) = v by omega, if_pos rfl]
  · have e : Lib.itoa v = Lib.decDigits v.toNat := by unfold Lib.itoa; rw [if_neg c]
    obtain ⟨d1, d2, d3⟩ := dec_facts v.toNat
    have hl := dec_len v.toNat 18 (by omega)
    have hs : signOf (Lib.itoa v) = (false, Lib.decDigits v.toNat) := by
      rw [e]
      cases hq : Lib.decDigits v.toNat with
      | nil => exact absurd hq d2
      | cons b r =>
        rw [hq] at d1
        unfold digs at d1
        rw [List.all_cons, Bool.and_eq_true] at d1
        have hn := digit_ne b d1.1
        unfold signOf
        simp only
        rw [if_neg hn.2.2]
    unfold parseP
    rw [hs]
    simp only
    rw [if_pos ⟨by rw [d1]; simp [d2], by omega⟩, d3, if_neg (by omega), if_neg (by simp), if_neg (by omega), show ((v.toNat : Nat) : Int) = v by omega, if_pos rfl]
theorem toList_data (s : ByteArray) : s.toList = s.data.toList := by rw [ByteArray.toList_eq]
theorem implParse_eq (s : ByteArray) (hs : s.size ≤ 1048576) : impl_ParseInt.f s = some (parseP s.data.toList) := by
  unfold impl_ParseInt.f
  rw [if_pos (by omega)]
  have key : ∀ v : Int, -9223372036854775808 ≤ v → v ≤ 9223372036854775807 → (impl_FormatInt.f v).bind (fun t => if t.toList = s.toList then some (v, true) else some (0, false)) = some (if Lib.itoa v = s.data.toList then (v, true) else (0, false)) := by
    intro v h1 h2
    rw [implFmt_eq v h1 h2, Option.bind_some, toList_data, toList_data]
    by_cases c : Lib.itoa v = s.data.toList
    · rw [if_pos (by simpa using c), if_pos c]
    · rw [if_neg (by simpa using c), if_neg c]
  rcases parseP_sound s.data.toList with h | ⟨v, b1, b2, h, e⟩
  · have hno : ∀ v : Int, -9223372036854775808 ≤ v → v ≤ 9223372036854775807 → Lib.itoa v ≠ s.data.toList := by
      intro v b1 b2 e
      have := parseP_itoa v b1 b2
      rw [e, h] at this
      cases this
    rw [h]
    cases hA : Lib.atoiAll s.data.toList with
    | ok v =>
      have hb := Lib.atoiAll_bounds hA
      simp only
      rw [key v hb.1 hb.2, if_neg (hno v hb.1 hb.2)]
    | range => rfl
    | _ => rfl
  · have := atoi_itoa v b1 b2
    rw [e] at this
    rw [this, h]
    simp only
    rw [key v b1 b2, if_pos e]
theorem specDigits_loop (s : ByteArray) (hs : s.size ≤ 1048577) (d : Nat) : ∀ (k i : Nat), i + d = s.data.toList.length → d < k → spec_IsDigits.l0 k s i = some (digs (s.data.toList.drop i) && decide (s.data.toList ≠ [])) := by
  have hz := size_list s
  induction d with
  | zero =>
    intro k i hd hk
    obtain ⟨k, rfl⟩ : ∃ m, k = m + 1 := ⟨k - 1, by omega⟩
    simp only [spec_IsDigits.l0]
    rw [if_neg (by omega), List.drop_of_length_le (by omega)]
    congr 1
    rw [Bool.eq_iff_iff]
    simp only [digs, List.all_nil, Bool.true_and, decide_eq_true_eq, hz]
    cases s.data.toList <;> simp <;> omega
  | succ d ih =>
    intro k i hd hk
    obtain ⟨k, rfl⟩ : ∃ m, k = m + 1 := ⟨k - 1, by omega⟩
    have hi : i < s.data.toList.length := by omega
    have hb := bt_list s i hi
    simp only [spec_IsDigits.l0]
    rw [if_pos (by omega), if_pos (by omega), hb, List.drop_eq_getElem_cons hi, wrap_succ hi (by omega), ih k (i + 1) (by omega) (by omega)]
    generalize s.data.toList[i] = b
    unfold digs
    rw [List.all_cons]
    by_cases c1 : b.toNat < 48
    · rw [if_pos (by omega), show isD b = false from by unfold isD; rw [decide_eq_false (by omega)]; rfl]; rfl
    · by_cases c2 : b.toNat > 57
      · rw [if_neg (by omega), if_pos (by omega), show isD b = false from by unfold isD; rw [decide_eq_false (by omega : ¬ b.toNat ≤ 57), Bool.and_false]]; rfl
      · rw [if_neg (by omega), if_neg (by omega), show isD b = true from by unfold isD; rw [decide_eq_true (by omega : 48 ≤ b.toNat), decide_eq_true (by omega : b.toNat ≤ 57)]; rfl]; rfl
theorem specDigits_eq (s : ByteArray) (hs : s.size ≤ 1048577) (k : Nat) (hk : s.size < k) : spec_IsDigits.f k s = some (digs s.data.toList && decide (s.data.toList ≠ [])) := by
  unfold spec_IsDigits.f
  have hz := size_list s
  exact specDigits_loop s hs s.data.toList.length k 0 (by omega) (by omega)
/-- How the number ends. -/
def tailP (l : List UInt8) (neg : Bool) (u : Nat) : Int × Bool :=
  if 9223372036854775808 < u then (0, false)
  else if neg = true then (if Lib.itoa (-(u : Int)) = l then (-(u : Int), true) else (0, false))
  else if u = 9223372036854775808 then (0, false)
  else if Lib.itoa (u : Int) = l then ((u : Int), true) else (0, false)
theorem fmt_is (s : ByteArray) (v x : Int) (h1 : -9223372036854775808 ≤ v) (h2 : v ≤ 9223372036854775807) (k : Nat) (hk : 21 < k) : ((spec_FormatInt.f k v).bind fun t => if t.toList = s.toList then some (x, true) else some (0, false)) = some (if Lib.itoa v = s.data.toList then (x, true) else (0, false)) := by
  rw [specFmt_eq v h1 h2 k hk, Option.bind_some, toList_data, toList_data]
  by_cases c : Lib.itoa v = s.data.toList
  · rw [if_pos (by simpa using c), if_pos c]
  · rw [if_neg (by simpa using c), if_neg c]
theorem specParse_loop (s t : ByteArray) (neg : Bool) (ht : t.data.toList.length ≤ 19) (hd : digs t.data.toList = true) (d : Nat) : ∀ (k i u : Nat), i + d = t.data.toList.length → d + 22 < k → u ≤ 9223372036854775808 →
    spec_ParseInt.l0 k s neg t (-(u : Int)) i = some (tailP s.data.toList neg (valFrom u (t.data.toList.drop i))) := by
  have hz := size_list t
  induction d with
  | zero =>
    intro k i u he hk hu
    obtain ⟨k, rfl⟩ : ∃ m, k = m + 1 := ⟨k - 1, by omega⟩
    simp only [spec_ParseInt.l0]
    rw [if_neg (by omega), List.drop_of_length_le (by omega)]
    rw [show valFrom u [] = u from rfl]
    have hu' : ¬ 9223372036854775808 < u := by omega
    unfold tailP
    rw [if_neg hu']
    cases neg with
    | true =>
      rw [if_pos (show true = true from rfl), if_pos (show true = true from rfl)]
      exact fmt_is s _ _ (by omega) (by omega) k (by omega)
    | false =>
      rw [if_neg (show ¬ (false = true) by decide), if_neg (show ¬ (false = true) by decide)]
      by_cases c : u = 9223372036854775808
      · have c' : -(u : Int) = -9223372036854775808 := by omega
        rw [if_pos c', if_pos c]
      · have c' : ¬ -(u : Int) = -9223372036854775808 := by omega
        have hw : wrap64 (- -(u : Int)) = (u : Int) := by rw [wrap_id (by omega) (by omega)]; omega
        rw [if_neg c', if_neg c, hw]
        exact fmt_is s _ _ (by omega) (by omega) k (by omega)
  | succ d ih =>
    intro k i u he hk hu
    obtain ⟨k, rfl⟩ : ∃ m, k = m + 1 := ⟨k - 1, by omega⟩
    have hi : i < t.data.toList.length := by omega
    have hb := bt_list t i hi
    have hdi : isD t.data.toList[i] = true := List.all_eq_true.1 hd _ (List.getElem_mem hi)
    simp only [spec_ParseInt.l0]
    rw [if_pos (by omega), if_pos (by omega), hb, List.drop_eq_getElem_cons hi, wrap_succ hi (by omega)]
    generalize t.data.toList[i] = b at hdi
    unfold isD at hdi
    simp only [Bool.and_eq_true, decide_eq_true_eq] at hdi
    have w1 : wrap64 ((b.toNat : Nat) : Int) = (b.toNat : Int) := wrap_id (by omega) (by omega)
    have w2 : wrap64 ((b.toNat : Int) - 48) = ((b.toNat - 48 : Nat) : Int) := by rw [wrap_id (by omega) (by omega)]; omega
    obtain ⟨c, hc⟩ : ∃ c, b.toNat - 48 = c := ⟨_, rfl⟩
    have w3 : wrap64 (-9223372036854775808 + (c : Int)) = -((9223372036854775808 - c : Nat) : Int) := by rw [wrap_id (by omega) (by omega)]; omega
    have w4 : Int.tdiv (-((9223372036854775808 - c : Nat) : Int)) 10 = -(((9223372036854775808 - c) / 10 : Nat) : Int) := by rw [Int.neg_tdiv, Int.tdiv_eq_ediv_of_nonneg (by omega)]; omega
    have w5 : wrap64 (-(((9223372036854775808 - c) / 10 : Nat) : Int)) = -(((9223372036854775808 - c) / 10 : Nat) : Int) := wrap_id (by omega) (by omega)
    rw [w1, w2, hc, w3, w4, w5]
    have ev : valFrom u (b :: t.data.toList.drop (i + 1)) = valFrom (u * 10 + c) (t.data.toList.drop (i + 1)) := by
      show valFrom (u * 10 + (b.toNat - 48)) _ = _
      rw [hc]
    rw [ev]
    by_cases q : 9223372036854775808 < u * 10 + c
    · have k1 : -(u : Int) < -(((9223372036854775808 - c) / 10 : Nat) : Int) := by omega
      rw [if_pos k1]
      have hg := valFrom_ge (t.data.toList.drop (i + 1)) (u * 10 + c)
      have hgt : 9223372036854775808 < valFrom (u * 10 + c) (t.data.toList.drop (i + 1)) := by omega
      unfold tailP
      rw [if_pos hgt]
    · have k1 : ¬ -(u : Int) < -(((9223372036854775808 - c) / 10 : Nat) : Int) := by omega
      rw [if_neg k1, wrap_id (x := -(u : Int) * 10) (by omega) (by omega), wrap_id (by omega) (by omega), show -(u : Int) * 10 - (c : Int) = -((u * 10 + c : Nat) : Int) by omega]
      exact ih k (i + 1) (u * 10 + c) (by omega) (by omega) (by omega)
theorem specParse_eq (s : ByteArray) (hs : s.size ≤ 1048576) (k : Nat) (hk : 1049000 ≤ k) : spec_ParseInt.f k s = some (parseP s.data.toList) := by
  have hz := size_list s
  have main : ∀ (t : ByteArray) (neg : Bool) (k : Nat), signOf s.data.toList = (neg, t.data.toList) → t.size ≤ 1048577 → 1048900 ≤ k → spec_ParseInt.j1 k s neg t = some (parseP s.data.toList) := by
    intro t neg k hsg ht hk
    obtain ⟨k, rfl⟩ : ∃ m, k = m + 2 := ⟨k - 2, by omega⟩
    have htz := size_list t
    simp only [spec_ParseInt.j1]
    rw [specDigits_eq t ht (k + 1) (by omega), Option.bind_some]
    unfold parseP
    rw [hsg]
    simp only
    cases hdg : (digs t.data.toList && decide (t.data.toList ≠ [])) with
    | false =>
      rw [if_neg (by simp), if_neg (fun h => by cases h.1)]
      simp only [spec_ParseInt.j2]
      rw [if_pos trivial]
    | true =>
      rw [if_pos rfl]
      simp only [spec_ParseInt.j2]
      by_cases c : t.data.toList.length ≤ 19
      · rw [if_neg (by simp; omega), if_pos ⟨trivial, c⟩]
        rw [Bool.and_eq_true] at hdg
        have := specParse_loop s t neg c hdg.1 t.data.toList.length k 0 0 (by omega) (by omega) (by omega)
        exact this
      · rw [if_pos (by simp; omega), if_neg (fun h => c h.2)]
  unfold spec_ParseInt.f
  obtain ⟨k, rfl⟩ : ∃ m, k = m + 1 := ⟨k - 1, by omega⟩
  cases hl : s.data.toList with
  | nil =>
    rw [hl, List.length_nil] at hz
    rw [if_neg (by omega)]
    simp only [spec_ParseInt.j0]
    rw [if_neg (by simp), main s false k (by rw [hl]; rfl) (by omega) (by omega), hl]
  | cons b r =>
    have h0 : 0 < s.data.toList.length := by rw [hl]; simp
    have hb := bt_list s 0 h0
    have hb0 : s.data.toList[0] = b := by simp [hl]
    rw [hb0] at hb
    rw [if_pos (by omega), if_pos (by omega)]
    have hb' : bt s 0 = (b.toNat : Int) := hb
    rw [hb']
    simp only [spec_ParseInt.j0]
    by_cases c : b = 45
    · have cb : ((b.toNat : Int) == 45) = true := by rw [c]; rfl
      rw [cb, if_pos rfl, if_pos (by omega)]
      have he : (s.extract 1 s.size).data.toList = r := by
        rw [ByteArray.data_extract, Array.toList_extract]
        simp [hl, hz, List.extract]
      rw [main (s.extract 1 s.size) true k (by rw [hl, he]; unfold signOf; simp only; rw [if_pos c]) (by rw [ByteArray.size_extract]; omega) (by omega), hl]
    · have cb : ((b.toNat : Int) == 45) = false := by
        rw [beq_eq_false_iff_ne]
        intro e
        apply c
        apply UInt8.toNat_inj.1
        have e1 : (45 : UInt8).toNat = 45 := rfl
        rw [e1]; omega
      rw [cb, if_neg (by simp), main s false k (by rw [hl]; unfold signOf; simp only; rw [if_neg c]) (by omega) (by omega), hl]
theorem FnExactParseInt : FnExactParseInt_pure := by
  intro s hs
  refine ⟨1049000, ?_⟩
  unfold laws_FnExactParseInt.f
  by_cases h : (s.size : Int) > 1048576
  · rw [if_pos h]
  · rw [if_neg h, specParse_eq s (by omega) 1049000 (by omega), implParse_eq s (by omega)]
    simp

end Go.Proofs.YtmifcjkbjjnelaaDoor.Pure
