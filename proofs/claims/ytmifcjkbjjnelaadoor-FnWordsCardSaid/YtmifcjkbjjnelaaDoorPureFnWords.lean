/- Whatever the bytes: numbers are recovered from their text and texts from their parts: the law answers true; no condition beyond the form's own reach. -/
import Derived.Test.YtmifcjkbjjnelaaDoorSayFnWords
import Derived.Test.YtmifcjkbjjnelaaDoorPureKit
namespace Go.Proofs.YtmifcjkbjjnelaaDoor.Pure
open Go.RowKit Go.Proofs.YtmifcjkbjjnelaaDoor.MFnWords Go.Proofs.YtmifcjkbjjnelaaDoor.PureKit Go.Proofs.YtmifcjkbjjnelaaDoorW.PrintWords Go.Proofs.YtmifcjkbjjnelaaDoorW.PrintLast
set_option linter.unusedSimpArgs false
set_option linter.unusedVariables false
theorem app_data (a b : ByteArray) : (a ++ b).data.toList = a.data.toList ++ b.data.toList := by
  rw [ByteArray.data_append, Array.toList_append]
/-- The decimal text of n. -/
def digits (m : Nat) : ByteArray := ⟨(Lib.decDigits m).toArray⟩
theorem dec_step (m : Nat) (h : ¬ m < 10) : Lib.decDigits m = Lib.decDigits (m / 10) ++ [UInt8.ofNat (48 + m % 10)] := by
  rw [Lib.decDigits, dif_neg h]
theorem dec_len (m d : Nat) (h : m < 10 ^ (d + 1)) : (Lib.decDigits m).length ≤ d + 1 := by
  induction d generalizing m with
  | zero => rw [Lib.decDigits_one (by simpa using h)]; simp
  | succ d ih =>
    by_cases c : m < 10
    · rw [Lib.decDigits_one c]; simp
    · rw [dec_step m c, List.length_append]
      have : m / 10 < 10 ^ (d + 1) := by
        rw [Nat.div_lt_iff_lt_mul (by decide)]
        rw [Nat.pow_succ] at h
        exact h
      have := ih _ this
      simp; omega
theorem implFmt_eq (n : Int) (h1 : -9223372036854775808 ≤ n) (h2 : n ≤ 9223372036854775807) : impl_FormatInt.f n = some (⟨(Lib.itoa n).toArray⟩ : ByteArray) := by
  unfold impl_FormatInt.f strconv_Itoa_21.f
  rw [if_pos ⟨h1, h2⟩]
  rfl
theorem bt_list (s : ByteArray) (i : Nat) (h : i < s.data.toList.length) : bt s (i : Int) = ((s.data.toList[i]).toNat : Int) := by
  have h' : (i : Int).toNat < s.size := by rw [Int.toNat_natCast]; simpa using h
  rw [← bt_at s i h']
  rfl
theorem size_list (s : ByteArray) : s.size = s.data.toList.length := by rw [Array.length_toList]; rfl
def isD (b : UInt8) : Bool := decide (48 ≤ b.toNat) && decide (b.toNat ≤ 57)
def digs (l : List UInt8) : Bool := l.all isD
/-- What a row of digits spells, behind a. -/
def valFrom (a : Nat) : List UInt8 → Nat
  | [] => a
  | b :: r => valFrom (a * 10 + (b.toNat - 48)) r
theorem valFrom_ge (l : List UInt8) : ∀ a, a ≤ valFrom a l := by
  induction l with
  | nil => intro a; exact Nat.le_refl _
  | cons b r ih => intro a; exact Nat.le_trans (by omega) (ih _)
theorem valFrom_append (l r : List UInt8) : ∀ a, valFrom a (l ++ r) = valFrom (valFrom a l) r := by
  induction l with
  | nil => intro a; rfl
  | cons b l ih => intro a; exact ih _
/-- The bytes of the decimal text: digits, at least one; they spell the number. -/
theorem dec_facts (m : Nat) : digs (Lib.decDigits m) = true ∧ Lib.decDigits m ≠ [] ∧ valFrom 0 (Lib.decDigits m) = m := by
  induction m using Nat.strongRecOn with
  | _ m ih =>
    have hdig : ∀ d, d < 10 → isD (UInt8.ofNat (48 + d)) = true ∧ (UInt8.ofNat (48 + d)).toNat = 48 + d := by
      intro d hd
      have e : (UInt8.ofNat (48 + d)).toNat = 48 + d := by simp; omega
      refine ⟨?_, e⟩
      unfold isD
      rw [e]
      simp; omega
    by_cases c : m < 10
    · rw [Lib.decDigits_one c]
      have h := hdig m c
      generalize UInt8.ofNat (48 + m) = b at h
      refine ⟨by simp [digs, h.1], by simp, ?_⟩
      show 0 * 10 + (b.toNat - 48) = m
      rw [h.2]; omega
    · rw [dec_step m c]
      obtain ⟨h1, h2, h3⟩ := ih (m / 10) (by omega)
      have h := hdig (m % 10) (by omega)
      generalize UInt8.ofNat (48 + m % 10) = b at h
      refine ⟨?_, by simp, ?_⟩
      · unfold digs at h1 ⊢
        rw [List.all_append, h1]; simp [h.1]
      · rw [valFrom_append, h3]
        show m / 10 * 10 + (b.toNat - 48) = m
        rw [h.2]; omega
theorem parse_val (l : List UInt8) : ∀ a : Nat, digs l = true → valFrom a l ≤ 9223372036854775808 → Lib.parseUint10 a l = .ok (valFrom a l) := by
  induction l with
  | nil => intro a _ _; rfl
  | cons b r ih =>
    intro a hd hv
    unfold digs at hd
    rw [List.all_cons, Bool.and_eq_true] at hd
    have hb := hd.1
    unfold isD at hb
    simp only [Bool.and_eq_true, decide_eq_true_eq] at hb
    have hg := valFrom_ge r (a * 10 + (b.toNat - 48))
    have e1 : valFrom a (b :: r) = valFrom (a * 10 + (b.toNat - 48)) r := rfl
    rw [e1] at hv ⊢
    have k1 : ¬ 1844674407370955162 ≤ a := by omega
    have k2 : ¬ 18446744073709551616 ≤ a * 10 + (b.toNat - 48) := by omega
    rw [← ih _ hd.2 hv]
    rw [Lib.parseUint10, if_pos hb, if_neg k1, if_neg k2]
theorem digit_ne (b : UInt8) (h : isD b = true) : b.toNat ≠ 43 ∧ b.toNat ≠ 45 ∧ b ≠ 45 := by
  unfold isD at h
  simp only [Bool.and_eq_true, decide_eq_true_eq] at h
  refine ⟨by omega, by omega, ?_⟩
  rintro rfl
  have e1 : (45 : UInt8).toNat = 45 := rfl
  omega
theorem atoi_itoa (v : Int) (h1 : -9223372036854775808 ≤ v) (h2 : v ≤ 9223372036854775807) : Lib.atoiAll (Lib.itoa v) = .ok v := by
  unfold Lib.itoa
  by_cases c : v < 0
  · rw [if_pos c, Lib.atoiAll_minus]
    obtain ⟨d1, d2, d3⟩ := dec_facts v.natAbs
    unfold Lib.parseMag
    rw [if_neg d2, parse_val _ 0 d1 (by rw [d3]; omega), d3]
    simp only [Lib.signed]
    rw [if_neg (by omega)]
    congr 1; omega
  · rw [if_neg c]
    obtain ⟨d1, d2, d3⟩ := dec_facts v.toNat
    have hp : Lib.parseMag (Lib.decDigits v.toNat) = .ok v.toNat := by
      unfold Lib.parseMag
      rw [if_neg d2, parse_val _ 0 d1 (by rw [d3]; omega), d3]
    cases hl : Lib.decDigits v.toNat with
    | nil => exact absurd hl d2
    | cons b r =>
      rw [hl] at d1 hp
      unfold digs at d1
      rw [List.all_cons, Bool.and_eq_true] at d1
      have hn := digit_ne b d1.1
      rw [Lib.atoiAll_plain b r hn.1 hn.2.1, hp]
      simp only [Lib.signless]
      rw [if_neg (by omega)]
      congr 1; omega
/-- What stands behind the sign, and whether there is one. -/
def signOf (l : List UInt8) : Bool × List UInt8 := match l with
  | b :: r => if b = 45 then (true, r) else (false, b :: r)
  | [] => (false, [])
/-- The number that a text is, where it is one's own text. -/
def parseP (l : List UInt8) : Int × Bool :=
  if (digs (signOf l).2 && decide ((signOf l).2 ≠ [])) = true ∧ (signOf l).2.length ≤ 19 then
    (if 9223372036854775808 < valFrom 0 (signOf l).2 then (0, false)
     else if (signOf l).1 = true then (if Lib.itoa (-(valFrom 0 (signOf l).2 : Int)) = l then (-(valFrom 0 (signOf l).2 : Int), true) else (0, false))
     else if valFrom 0 (signOf l).2 = 9223372036854775808 then (0, false)
     else if Lib.itoa (valFrom 0 (signOf l).2 : Int) = l then ((valFrom 0 (signOf l).2 : Int), true) else (0, false))
  else (0, false)
theorem parseP_sound (l : List UInt8) : parseP l = (0, false) ∨ ∃ v : Int, -9223372036854775808 ≤ v ∧ v ≤ 9223372036854775807 ∧ parseP l = (v, true) ∧ Lib.itoa v = l := by
  unfold parseP
  split
  · split
    · exact Or.inl rfl
    · split
      · split
        · rename_i h; exact Or.inr ⟨_, by omega, by omega, rfl, h⟩
        · exact Or.inl rfl
      · split
        · exact Or.inl rfl
        · split
          · rename_i h; exact Or.inr ⟨_, by omega, by omega, rfl, h⟩
          · exact Or.inl rfl
  · exact Or.inl rfl
theorem parseP_itoa (v : Int) (h1 : -9223372036854775808 ≤ v) (h2 : v ≤ 9223372036854775807) : parseP (Lib.itoa v) = (v, true) := by
  by_cases c : v < 0
  · have e : Lib.itoa v = 45 :: Lib.decDigits v.natAbs := by unfold Lib.itoa; rw [if_pos c]
    obtain ⟨d1, d2, d3⟩ := dec_facts v.natAbs
    have hs : signOf (Lib.itoa v) = (true, Lib.decDigits v.natAbs) := by rw [e]; rfl
    have hl := dec_len v.natAbs 18 (by omega)
    unfold parseP
    rw [hs]
    simp only
    rw [if_pos ⟨by rw [d1]; simp [d2], by omega⟩, d3, if_neg (by omega), if_pos trivial, show -((v.natAbs : Nat) : Int) = v by omega, if_pos rfl]
  · have e : Lib.itoa v = Lib.decDigits v.toNat := by unfold Lib.itoa; rw [if_neg c]
    obtain ⟨d1, d2, d3⟩ := dec_facts v.toNat
    have hl := dec_len v.toNat 18 (by omega)
    have hs : signOf (Lib.itoa v) = (false, Lib.decDigits v.toNat) := by
      rw [e]
      cases hq : Lib.decDigits v.toNat with
      | nil => exact absurd hq d2
      | cons b r =>
        rw [hq] at d1
        unfold digs at d1
        rw [List.all_cons, Bool.and_eq_true] at d1
        have hn := digit_ne b d1.1
        unfold signOf
        simp only
        rw [if_neg hn.2.2]
    unfold parseP
    rw [hs]
    simp only
    rw [if_pos ⟨by rw [d1]; simp [d2], by omega⟩, d3, if_neg (by omega), if_neg (by simp), if_neg (by omega), show ((v.toNat : Nat) : Int) = v by omega, if_pos rfl]
theorem toList_data (s : ByteArray) : s.toList = s.data.toList := by rw [ByteArray.toList_eq]
theorem implParse_eq (s : ByteArray) (hs : s.size ≤ 1048576) : impl_ParseInt.f s = some (parseP s.data.toList) := by
  unfold impl_ParseInt.f
  rw [if_pos (by omega)]
  have key : ∀ v : Int, -9223372036854775808 ≤ v → v ≤ 9223372036854775807 → (impl_FormatInt.f v).bind (fun t => if t.toList = s.toList then some (v, true) else some (0, false)) = some (if Lib.itoa v = s.data.toList then (v, true) else (0, false)) := by
    intro v h1 h2
    rw [implFmt_eq v h1 h2, Option.bind_some, toList_data, toList_data]
    by_cases c : Lib.itoa v = s.data.toList
    · rw [if_pos (by simpa using c), if_pos c]
    · rw [if_neg (by simpa using c), if_neg c]
  rcases parseP_sound s.data.toList with h | ⟨v, b1, b2, h, e⟩
  · have hno : ∀ v : Int, -9223372036854775808 ≤ v → v ≤ 9223372036854775807 → Lib.itoa v ≠ s.data.toList := by
      intro v b1 b2 e
      have := parseP_itoa v b1 b2
      rw [e, h] at this
      cases this
    rw [h]
    cases hA : Lib.atoiAll s.data.toList with
    | ok v =>
      have hb := Lib.atoiAll_bounds hA
      simp only
      rw [key v hb.1 hb.2, if_neg (hno v hb.1 hb.2)]
    | range => rfl
    | _ => rfl
  · have := atoi_itoa v b1 b2
    rw [e] at this
    rw [this, h]
    simp only
    rw [key v b1 b2, if_pos e]
theorem indexByte_mem (l : List UInt8) (c : UInt8) : (0 ≤ Lib.indexByte l c) ↔ c ∈ l := by
  induction l with
  | nil => simp [Lib.indexByte]
  | cons b l ih =>
    have hg := Lib.indexByte_ge l c
    by_cases h : b = c
    · subst h; simp [Lib.indexByte]
    · have h' : ¬ c = b := fun e => h e.symm
      simp only [Lib.indexByte, beq_iff_eq, h, if_false, List.mem_cons, h', false_or, ← ih]
      by_cases h1 : Lib.indexByte l c = -1
      · simp [h1]
      · simp only [h1, if_false]
        omega
/-- The parts of s from byte i on (d bytes): cut at the bytes of which p holds. -/
def splitGo (s : ByteArray) (p : Int → Bool) : Nat → Nat → Nat → List ByteArray → List ByteArray
  | 0, _, from_, acc => acc ++ [s.extract from_ s.size]
  | d + 1, i, from_, acc => if p (bt s i) = true then splitGo s p d (i + 1) (i + 1) (acc ++ [s.extract from_ i]) else splitGo s p d (i + 1) from_ acc
theorem splitGo_len (s : ByteArray) (p : Int → Bool) (d : Nat) : ∀ (i f : Nat) (acc : List ByteArray), (splitGo s p d i f acc).length ≤ acc.length + d + 1 := by
  induction d with
  | zero => intro i f acc; simp [splitGo]
  | succ d ih =>
    intro i f acc
    simp only [splitGo]
    split
    · exact Nat.le_trans (ih _ _ _) (by simp; omega)
    · exact Nat.le_trans (ih _ _ _) (by omega)
def inBy (by_ : ByteArray) (x : Int) : Bool := decide (x ∈ bytesOf by_)
theorem bytes_get (s : ByteArray) (i : Nat) (h : i < s.size) : (bytesOf s)[i]? = some (bt s i) := by
  have hl : i < (bytesOf s).length := by rw [bytesOf_length]; exact h
  rw [List.getElem?_eq_getElem hl]
  congr 1
  have := rd_bytesOf s i
  rw [rd_nat _ i hl] at this
  exact this
theorem index_in (s b : ByteArray) (i : Nat) (h : i < s.size) : (internal_stringslite_IndexByte_v b (bt s i) ≥ 0) ↔ inBy b (bt s i) = true := by
  unfold internal_stringslite_IndexByte_v inBy
  rw [ge_iff_le, indexByte_mem, decide_eq_true_eq]
  have hb : bt s i = ((s[i]'h).toNat : Int) := by rw [← bt_at s i (by simpa using h)]; simp
  rw [hb]
  unfold bytesOf
  rw [List.mem_map]
  constructor
  · intro hm
    refine ⟨_, hm, ?_⟩
    simp
  · rintro ⟨x, hx, e⟩
    have : x = s[i]'h := by
      apply UInt8.toNat_inj.1
      exact Int.ofNat.inj e
    rw [← this]
    simpa using hx
theorem implSplit_loop (s b : ByteArray) (hs : s.size ≤ 1048576) (d : Nat) : ∀ (k i f : Nat) (acc : List ByteArray), i + d = s.size → f ≤ i → acc.length ≤ i → d < k →
    impl_SplitAny.l0 k s b acc f s.size i = some (splitGo s (inBy b) d i f acc) := by
  induction d with
  | zero =>
    intro k i f acc hd hf ha hk
    obtain ⟨k, rfl⟩ : ∃ m, k = m + 1 := ⟨k - 1, by omega⟩
    simp only [impl_SplitAny.l0, splitGo]
    rw [if_neg (by omega), if_pos (by omega), if_pos (by omega), if_pos (by omega), Int.toNat_natCast]
  | succ d ih =>
    intro k i f acc hd hf ha hk
    obtain ⟨k, rfl⟩ : ∃ m, k = m + 1 := ⟨k - 1, by omega⟩
    have hi : i < s.size := by omega
    simp only [impl_SplitAny.l0, splitGo, strings_IndexByte.f, stringslite_IndexByte.f, Option.bind_some]
    rw [if_pos (by omega), if_pos (by omega), if_pos (by omega)]
    by_cases c : inBy b (bt s i) = true
    · rw [if_pos ((index_in s b i hi).2 c), if_pos (by omega), if_pos (by omega), if_pos (by omega), if_pos (by omega), if_pos c, wrap_succ hi (by omega), Int.toNat_natCast, Int.toNat_natCast]
      exact ih k (i + 1) (i + 1) _ (by omega) (by omega) (by simp; omega) (by omega)
    · rw [if_neg (fun h => c ((index_in s b i hi).1 h)), if_neg c, wrap_succ hi (by omega)]
      exact ih k (i + 1) f acc (by omega) (by omega) (by omega) (by omega)
/-- The parts of a row of bytes, cut at each c; cur: what stands before. -/
def splitL (c : UInt8) : List UInt8 → List UInt8 → List (List UInt8)
  | [], cur => [cur]
  | b :: r, cur => if b = c then cur :: splitL c r [] else splitL c r (cur ++ [b])
theorem splitL_cut (c : UInt8) (a r : List UInt8) (h : c ∉ a) : ∀ cur, splitL c (a ++ c :: r) cur = (cur ++ a) :: splitL c r [] := by
  induction a with
  | nil => intro cur; simp [splitL]
  | cons b a ih =>
    intro cur
    rw [List.mem_cons, not_or] at h
    rw [List.cons_append, splitL, if_neg (fun e => h.1 e.symm), ih h.2]
    simp
theorem splitL_none (c : UInt8) (a : List UInt8) (h : c ∉ a) : ∀ cur, splitL c a cur = [cur ++ a] := by
  induction a with
  | nil => intro cur; simp [splitL]
  | cons b a ih =>
    intro cur
    rw [List.mem_cons, not_or] at h
    rw [splitL, if_neg (fun e => h.1 e.symm), ih h.2]
    simp
theorem first_byte (c : UInt8) (l : List UInt8) : (Lib.indexByte l c = -1 ∧ c ∉ l) ∨ ∃ a r, l = a ++ c :: r ∧ c ∉ a ∧ Lib.indexByte l c = (a.length : Int) := by
  induction l with
  | nil => exact Or.inl ⟨rfl, by simp⟩
  | cons b l ih =>
    by_cases h : b = c
    · subst h
      exact Or.inr ⟨[], l, rfl, by simp, by simp [Lib.indexByte]⟩
    · rcases ih with ⟨h1, h2⟩ | ⟨a, r, e, h1, h2⟩
      · refine Or.inl ⟨by simp [Lib.indexByte, h, h1], ?_⟩
        rw [List.mem_cons, not_or]
        exact ⟨fun e => h e.symm, h2⟩
      · refine Or.inr ⟨b :: a, r, by rw [e]; rfl, ?_, ?_⟩
        · rw [List.mem_cons, not_or]
          exact ⟨fun e => h e.symm, h1⟩
        · have : ¬ ((a.length : Int) = -1) := by omega
          simp [Lib.indexByte, h, h2, this]
theorem splitK_is (c : UInt8) (n : Nat) : ∀ l : List UInt8, l.length ≤ n → Lib.splitK [c] 0 (Lib.count l [c]) l = splitL c l [] := by
  induction n with
  | zero =>
    intro l hl
    have : l = [] := List.length_eq_zero_iff.1 (by omega)
    subst this
    rw [Lib.count_one]; rfl
  | succ n ih =>
    intro l hl
    rcases first_byte c l with ⟨h1, h2⟩ | ⟨a, r, e, h1, h2⟩
    · rw [splitL_none c l h2, Lib.count_one, List.count_eq_zero.2 h2]
      simp [Lib.splitK]
    · have hc : Lib.count l [c] = Lib.count r [c] + 1 := by
        rw [Lib.count_one, Lib.count_one, e, List.count_append, List.count_eq_zero.2 h1]
        simp
      have hlen : l.length = a.length + (r.length + 1) := by rw [e, List.length_append, List.length_cons]
      rw [hc, Lib.splitK, Lib.index_one, h2, if_neg (by simp), Int.toNat_natCast]
      have e1 : l.take (a.length + 0) = a := by rw [e]; simp
      have e2 : l.drop (a.length + [c].length) = r := by rw [e]; simp
      rw [e1, e2, ih r (by omega)]
      have := splitL_cut c a r h1 []
      rw [← e] at this
      rw [this, List.nil_append]
theorem extract_list (s : ByteArray) (a b : Nat) : (s.extract a b).data.toList = (s.data.toList.drop a).take (b - a) := by
  rw [ByteArray.data_extract, Array.toList_extract]
theorem splitGo_list (s : ByteArray) (c : UInt8) (d : Nat) : ∀ (i f : Nat) (acc : List ByteArray), i + d = s.size → f ≤ i →
    (splitGo s (inBy ⟨#[c]⟩) d i f acc).map (·.data.toList) = acc.map (·.data.toList) ++ splitL c (s.data.toList.drop i) ((s.data.toList.drop f).take (i - f)) := by
  have hz := size_list s
  induction d with
  | zero =>
    intro i f acc hd hf
    simp only [splitGo]
    rw [List.map_append, List.drop_of_length_le (by omega)]
    simp only [List.map_cons, List.map_nil, splitL]
    rw [extract_list, show s.size = i by omega]
  | succ d ih =>
    intro i f acc hd hf
    have hi : i < s.data.toList.length := by omega
    have hb := bt_list s i hi
    have hin : inBy ⟨#[c]⟩ (bt s i) = true ↔ s.data.toList[i] = c := by
      rw [hb]
      unfold inBy bytesOf
      rw [decide_eq_true_eq]
      simp only [List.map_cons, List.map_nil, List.mem_singleton]
      constructor
      · intro h
        apply UInt8.toNat_inj.1
        exact Int.ofNat.inj h
      · intro h; rw [h]
    simp only [splitGo]
    rw [List.drop_eq_getElem_cons hi]
    by_cases q : s.data.toList[i] = c
    · rw [if_pos (hin.2 q), ih (i + 1) (i + 1) _ (by omega) (by omega), splitL, if_pos q, List.map_append]
      simp [extract_list]
    · rw [if_neg (fun h => q (hin.1 h)), ih (i + 1) f acc (by omega) (by omega), splitL, if_neg q]
      congr 2
      have hj : i - f < (s.data.toList.drop f).length := by rw [List.length_drop]; omega
      rw [show i + 1 - f = (i - f) + 1 by omega, take_step _ _ hj, List.getElem_drop]
      simp only [show f + (i - f) = i by omega]
theorem lines_same (s : ByteArray) : splitGo s (inBy ⟨#[10]⟩) s.size 0 0 [] = Lib.splitB ⟨#[10]⟩ 0 (Lib.countB s ⟨#[10]⟩) s := by
  have h1 := splitGo_list s 10 s.size 0 0 [] (by omega) (by omega)
  have h2 := Lib.splitB_data ⟨#[10]⟩ 0 (Lib.countB s ⟨#[10]⟩) s
  have h3 := splitK_is 10 s.data.toList.length s.data.toList (Nat.le_refl _)
  refine (List.map_inj_right (f := fun x : ByteArray => x.data.toList) (fun x y h => WideShapes.bytes_inj h)).1 ?_
  rw [h1, h2]
  exact h3.symm
/-- The lines, the last one left out where it is empty. -/
def linesOf (q : List ByteArray) : List ByteArray := if (rdOf ByteArray.empty q ((q.length - 1 : Nat) : Int)).toList = [] then q.take (q.length - 1) else q
theorem linesOf_len (q : List ByteArray) : (linesOf q).length ≤ q.length := by
  unfold linesOf
  split
  · rw [List.length_take]; omega
  · exact Nat.le_refl _
theorem lines_tail (q : List ByteArray) (h0 : 0 < q.length) (h1 : q.length ≤ 9223372036854775807) : (if 0 ≤ (wrap64 ((q.length : Int) - 1)) then (if (wrap64 ((q.length : Int) - 1)) < (q.length : Int) then (if (rdOf ByteArray.empty q (wrap64 ((q.length : Int) - 1))).toList = ([] : List UInt8) then (if (wrap64 ((q.length : Int) - 1)) ≤ (q.length : Int) then (some (q.take ((wrap64 ((q.length : Int) - 1)) : Int).toNat)) else (none)) else (some q)) else (none)) else (none)) = some (linesOf q) := by
  have hw : wrap64 ((q.length : Int) - 1) = ((q.length - 1 : Nat) : Int) := by rw [wrap_id (by omega) (by omega)]; omega
  rw [hw, if_pos (by omega), if_pos (by omega), if_pos (show ((q.length - 1 : Nat) : Int) ≤ (q.length : Int) by omega), Int.toNat_natCast]
  unfold linesOf
  split
  · rfl
  · rfl
theorem and255 (n : Int) : Go.bits .and .i64 n 255 = n % 256 := by
  have h255 : (BitVec.ofInt 64 255).toNat = 2 ^ 8 - 1 := by decide
  have key : (BitVec.ofInt 64 n &&& BitVec.ofInt 64 255).toNat = (n % ((2 ^ 64 : Nat) : Int)).toNat % 2 ^ 8 := by
    rw [BitVec.toNat_and, BitVec.toNat_ofInt, h255, Nat.and_two_pow_sub_one_eq_mod]
  show IntKind.i64.wrap ((BitVec.ofInt 64 n &&& BitVec.ofInt 64 255).toNat : Nat) = n % 256
  rw [key, IntKind.wrap_i64]
  omega
/-- A byte that is drawn: from 0 to 255; the place never turns back. -/
theorem byte_ok (c : List Int) (hc : c.length ≤ 9223372036854775807) (p s : Int) (hp : 0 ≤ p) : ∃ x p' s', spec_l01Byte.f c p s = some (x, p', s') ∧ 0 ≤ x ∧ x ≤ 255 ∧ 0 ≤ p' := by
  unfold spec_l01Byte.f
  split
  · try rw [if_pos hp]
    refine ⟨_, _, _, rfl, ?_, ?_, ?_⟩
    · rw [and255]; omega
    · rw [and255]; omega
    · rw [wrap_id (by omega) (by omega)]; omega
  · refine ⟨_, _, _, rfl, ?_, ?_, hp⟩
    · rw [and255]; omega
    · rw [and255]; omega
theorem below_ok (c : List Int) (hc : c.length ≤ 9223372036854775807) (p s n : Int) (hp : 0 ≤ p) (h0 : 0 < n) (h1 : n ≤ 256) : ∃ x p' s', spec_l01Below.f c p s n = some (x, p', s') ∧ 0 ≤ x ∧ x < n ∧ 0 ≤ p' := by
  obtain ⟨x, p', s', e, g0, g1, g2⟩ := byte_ok c hc p s hp
  unfold spec_l01Below.f
  rw [if_neg (by omega), if_pos h1, e]
  simp only [Option.bind_some]
  rw [if_neg (by omega)]
  refine ⟨_, _, _, rfl, Int.tmod_nonneg _ g0, Int.tmod_lt_of_pos _ h0, g2⟩
theorem new_loop (c : List Int) (d : Nat) : ∀ (k i : Nat), i + d = 4000 → d < k → ∀ x : Int, ∃ s, spec_l01New.l0 k c x i = some (c, 0, s) := by
  induction d with
  | zero =>
    intro k i hi hk x
    obtain ⟨k, rfl⟩ : ∃ m, k = m + 1 := ⟨k - 1, by omega⟩
    simp only [spec_l01New.l0]
    rw [if_neg (show ¬ ((i : Int) < 4000) by omega)]
    split <;> exact ⟨_, rfl⟩
  | succ d ih =>
    intro k i hi hk x
    obtain ⟨k, rfl⟩ : ∃ m, k = m + 1 := ⟨k - 1, by omega⟩
    simp only [spec_l01New.l0]
    split
    · rw [if_pos (show (i : Int) < 4000 by omega), if_pos (by omega), show wrap64 ((i : Int) + 1) = ((i + 1 : Nat) : Int) by rw [wrap_id (by omega) (by omega)]; rfl]
      exact ih k (i + 1) (by omega) (by omega) _
    · exact ⟨_, rfl⟩
theorem new_ok (c : List Int) (k : Nat) (hk : 4001 ≤ k) : ∃ s, spec_l01New.f k c = some (c, 0, s) := by
  unfold spec_l01New.f
  exact new_loop c 4000 k 0 (by omega) (by omega) _
theorem new27_ok (c : List Int) (hc : c.length ≤ 9223372036854775807) (k : Nat) (hk : 4001 ≤ k) : ∃ p s, spec_l27New.f k c 1 = some (c, p, s) ∧ 0 ≤ p := by
  obtain ⟨s, e⟩ := new_ok c k hk
  obtain ⟨x, p, s', e1, _, _, hp⟩ := byte_ok c hc 0 s (by omega)
  refine ⟨p, s', ?_, hp⟩
  obtain ⟨k, rfl⟩ : ∃ j, k = j + 2 := ⟨k - 2, by omega⟩
  unfold spec_l27New.f
  rw [e, Option.bind_some]
  simp only [spec_l27New.l0]
  rw [if_pos (by omega), e1, Option.bind_some, show wrap64 (0 + 1) = 1 from wrap_id (by omega) (by omega), if_neg (by omega)]
theorem makeNum_ok (c : List Int) (hc : c.length ≤ 9223372036854775807) (k : Nat) (hk : 4001 ≤ k) : ∃ r, spec_MakeNum.f k c 1 = some r ∧ 0 ≤ r ∧ r ≤ 65535 := by
  obtain ⟨p, s, e, hp⟩ := new27_ok c hc k hk
  obtain ⟨x, p1, s1, e1, x0, x1, hp1⟩ := byte_ok c hc p s hp
  obtain ⟨y, p2, s2, e2, y0, y1, hp2⟩ := byte_ok c hc p1 s1 hp1
  unfold spec_MakeNum.f
  simp only [e, e1, e2, Option.bind_some]
  rw [wrap_id (x := x * 256) (by omega) (by omega), wrap_id (by omega) (by omega)]
  exact ⟨_, rfl, by omega, by omega⟩
def words : List ByteArray := [(⟨#[97]⟩ : ByteArray), (⟨#[98, 99]⟩ : ByteArray), (⟨#[32]⟩ : ByteArray), (⟨#[44]⟩ : ByteArray), (⟨#[120, 49]⟩ : ByteArray)]
theorem words_size (i : Int) (h0 : 0 ≤ i) (h1 : i < 5) : (rdOf ByteArray.empty words i).size ≤ 2 := by
  have : i = 0 ∨ i = 1 ∨ i = 2 ∨ i = 3 ∨ i = 4 := by omega
  rcases this with rfl | rfl | rfl | rfl | rfl <;> decide
theorem str_ok (c : List Int) (hc : c.length ≤ 9223372036854775807) (p s : Int) (hp : 0 ≤ p) : ∃ t p' s', spec_l01Str.f c p s words = some (t, p', s') ∧ t.size ≤ 2 ∧ 0 ≤ p' := by
  obtain ⟨x, p', s', e, x0, x1, hp'⟩ := below_ok c hc p s (words.length : Int) hp (by decide) (by decide)
  have x1 : x < 5 := x1
  unfold spec_l01Str.f
  rw [e, Option.bind_some, if_pos x0, if_pos (show x < (words.length : Int) from x1)]
  exact ⟨_, p', s', rfl, words_size x x0 x1, hp'⟩
theorem text_loop (c : List Int) (hc : c.length ≤ 9223372036854775807) (d : Nat) : ∀ (k : Nat) (t : ByteArray) (p s : Int), d < k → 0 ≤ p → t.size + 2 * d ≤ 1000 → ∃ r, spec_MakeText.l0 k t (d : Int) c p s = some r ∧ r.size ≤ 1000 := by
  induction d with
  | zero =>
    intro k t p s hk hp ht
    obtain ⟨k, rfl⟩ : ∃ j, k = j + 1 := ⟨k - 1, by omega⟩
    simp only [spec_MakeText.l0]
    rw [if_neg (by omega)]
    exact ⟨t, rfl, by omega⟩
  | succ d ih =>
    intro k t p s hk hp ht
    obtain ⟨k, rfl⟩ : ∃ j, k = j + 1 := ⟨k - 1, by omega⟩
    obtain ⟨w, p', s', e, hw, hp'⟩ := str_ok c hc p s hp
    have e' : spec_l01Str.f c p s ([(⟨#[97]⟩ : ByteArray), (⟨#[98, 99]⟩ : ByteArray), (⟨#[32]⟩ : ByteArray), (⟨#[44]⟩ : ByteArray), (⟨#[120, 49]⟩ : ByteArray)] : List ByteArray) = some (w, p', s') := e
    simp only [spec_MakeText.l0]
    rw [if_pos (by omega), e', Option.bind_some]
    simp only
    rw [if_pos (by omega), show wrap64 (((d + 1 : Nat) : Int) - 1) = (d : Int) from by rw [wrap_id (by omega) (by omega)]; omega]
    exact ih k _ p' s' (by omega) hp' (by rw [ByteArray.size_append]; omega)
theorem makeText_ok (c : List Int) (hc : c.length ≤ 9223372036854775807) (k : Nat) (hk : 4001 ≤ k) : ∃ r, spec_MakeText.f k c = some r ∧ r.size ≤ 1000 := by
  obtain ⟨s, e⟩ := new_ok c k hk
  obtain ⟨x, p', s', e1, x0, x1, hp'⟩ := below_ok c hc 0 s 8 (by omega) (by omega) (by omega)
  obtain ⟨d, rfl⟩ : ∃ d : Nat, x = (d : Int) := ⟨x.toNat, by omega⟩
  obtain ⟨r, e2, hr⟩ := text_loop c hc d k (⟨#[]⟩ : ByteArray) p' s' (by omega) hp' (by show 0 + 2 * d ≤ 1000; omega)
  unfold spec_MakeText.f
  simp only [e, e1, Option.bind_some]
  exact ⟨r, e2, hr⟩
theorem join_two (x : List UInt8) (ys : List (List UInt8)) (s : List UInt8) (h : ys ≠ []) : Lib.join (x :: ys) s = x ++ s ++ Lib.join ys s := by
  cases ys with
  | nil => exact absurd rfl h
  | cons y r =>
    rw [Lib.join_cons, Lib.join_cons]
    simp [Lib.joinTail]
theorem splitL_ne (c : UInt8) (l cur : List UInt8) : splitL c l cur ≠ [] := by
  induction l generalizing cur with
  | nil => simp [splitL]
  | cons b r ih =>
    rw [splitL]
    split
    · simp
    · exact ih _
theorem join_split (c : UInt8) (l : List UInt8) : ∀ cur, Lib.join (splitL c l cur) [c] = cur ++ l := by
  induction l with
  | nil => intro cur; simp [splitL, Lib.join_one]
  | cons b r ih =>
    intro cur
    rw [splitL]
    by_cases h : b = c
    · rw [if_pos h, join_two _ _ _ (splitL_ne c r []), ih, h]
      simp
    · rw [if_neg h, ih]
      simp
theorem name_x1 (k : Nat) (hk : 5 ≤ k) : impl_IsName.f k (⟨#[120, 49]⟩ : ByteArray) = some true :=
  at_rounds (g := fun k => impl_IsName.f k (⟨#[120, 49]⟩ : ByteArray)) (fun k => impl_IsName.mono _ k) hk (by decide +kernel)
theorem two_lines : ∃ q, impl_SplitLines.f (⟨#[97, 10, 98, 10]⟩ : ByteArray) = some q ∧ q.length = 2 := by
  have hm : (Lib.splitB ⟨#[10]⟩ 0 (Lib.countB ⟨#[97, 10, 98, 10]⟩ ⟨#[10]⟩) ⟨#[97, 10, 98, 10]⟩).map (·.data.toList) = [[97], [98], []] := by
    rw [Lib.splitB_data]
    exact splitK_is 10 4 [97, 10, 98, 10] (by decide)
  unfold impl_SplitLines.f strings_Split.f
  rw [if_pos (by decide), Option.bind_some]
  generalize Lib.splitB ⟨#[10]⟩ 0 (Lib.countB ⟨#[97, 10, 98, 10]⟩ ⟨#[10]⟩) ⟨#[97, 10, 98, 10]⟩ = q at hm
  have hl : q.length = 3 := by have := congrArg List.length hm; simpa using this
  refine ⟨linesOf q, lines_tail q (by omega) (by omega), ?_⟩
  have h2 : (rdOf ByteArray.empty q ((q.length - 1 : Nat) : Int)).toList = [] := by
    rw [rdOf_nat _ q (q.length - 1) (by omega), ByteArray.toList_eq]
    have := congrArg (fun l => l[2]?) hm
    simp only [List.getElem?_map] at this
    have e : q[2]? = some (q[q.length - 1]'(by omega)) := by
      rw [← List.getElem?_eq_getElem]
      congr 1; omega
    rw [e] at this
    simpa using this
  unfold linesOf
  rw [if_pos h2, List.length_take]
  omega
theorem FnWords : FnWords_pure := by
  intro c hc _
  unfold maxLen at hc
  refine ⟨10000, ?_⟩
  unfold laws_FnWords.f
  by_cases h : (c.length : Int) > 1048576
  · rw [if_pos h]
  · rw [if_neg h]
    obtain ⟨m, e1, m0, m1⟩ := makeNum_ok c (by omega) 10000 (by omega)
    obtain ⟨s, e2, hs⟩ := makeText_ok c (by omega) 10000 (by omega)
    rw [e1, Option.bind_some, wrap_id (x := m - 30000) (by omega) (by omega), implFmt_eq (m - 30000) (by omega) (by omega), Option.bind_some]
    have hlen : (Lib.itoa (m - 30000)).length ≤ 100 := by
      unfold Lib.itoa
      split
      · have := dec_len (m - 30000).natAbs 18 (by omega)
        rw [List.length_cons]; omega
      · have := dec_len (m - 30000).toNat 18 (by omega)
        omega
    have e3 := implParse_eq (⟨(Lib.itoa (m - 30000)).toArray⟩ : ByteArray) (by show (Lib.itoa (m - 30000)).toArray.size ≤ _; rw [List.size_toArray]; omega)
    have e4 := parseP_itoa (m - 30000) (by omega) (by omega)
    rw [e3, Option.bind_some, show (⟨(Lib.itoa (m - 30000)).toArray⟩ : ByteArray).data.toList = Lib.itoa (m - 30000) from rfl, e4, e2, Option.bind_some]
    simp only
    rw [if_pos trivial, if_pos trivial]
    have hq := splitGo_len s (inBy ⟨#[32]⟩) s.size 0 0 []
    have hg := splitGo_list s 32 s.size 0 0 [] (by omega) (by omega)
    have e5 : impl_SplitAny.f 10000 s ⟨#[32]⟩ = some (splitGo s (inBy ⟨#[32]⟩) s.size 0 0 []) := implSplit_loop s ⟨#[32]⟩ (by omega) s.size 10000 0 0 [] (by omega) (by omega) (by simp) (by omega)
    generalize splitGo s (inBy ⟨#[32]⟩) s.size 0 0 [] = q at e5 hq hg
    have hj : Lib.join (q.map (·.data.toList)) [32] = s.data.toList := by
      rw [hg]
      have := join_split 32 s.data.toList []
      simpa using this
    have hz := size_list s
    have e6 : impl_Join.f q ⟨#[32]⟩ = some s := by
      unfold impl_Join.f strings_Join.f
      rw [show (⟨#[32]⟩ : ByteArray).data.toList = [32] from rfl, hj, if_pos ⟨by simp at hq; omega, by omega⟩]
      rfl
    obtain ⟨r, e7, hr⟩ := two_lines
    rw [e5, Option.bind_some, e6, Option.bind_some, if_pos rfl, name_x1 10000 (by omega), Option.bind_some, if_pos rfl, e7, Option.bind_some, hr]
    rfl

end Go.Proofs.YtmifcjkbjjnelaaDoor.Pure
