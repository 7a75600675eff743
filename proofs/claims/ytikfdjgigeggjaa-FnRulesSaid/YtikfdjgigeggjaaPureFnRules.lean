/- Whatever the bytes: rules that are drawn are valid, decisive and without a fault; without the seed they are undecided, with a key twice invalid, with one number of points pointless: the law answers true; no condition beyond the form's own reach. -/
import Derived.Test.YtikfdjgigeggjaaSayFnRules
import Derived.Test.YtikfdjgigeggjaaPureKit
namespace Go.Proofs.Ytikfdjgigeggjaa.Pure
open Go.RowKit Go.Proofs.Ytikfdjgigeggjaa.MFnRules Go.Proofs.Ytikfdjgigeggjaa.PureKit Go.Proofs.YtikfdjgigeggjaaW.PrintWords Go.Proofs.YtikfdjgigeggjaaW.PrintLast
set_option linter.unusedSimpArgs false
set_option linter.unusedVariables false
theorem and255 (n : Int) : Go.bits .and .i64 n 255 = n % 256 := by
  have h255 : (BitVec.ofInt 64 255).toNat = 2 ^ 8 - 1 := by decide
  have key : (BitVec.ofInt 64 n &&& BitVec.ofInt 64 255).toNat = (n % ((2 ^ 64 : Nat) : Int)).toNat % 2 ^ 8 := by
    rw [BitVec.toNat_and, BitVec.toNat_ofInt, h255, Nat.and_two_pow_sub_one_eq_mod]
  show IntKind.i64.wrap ((BitVec.ofInt 64 n &&& BitVec.ofInt 64 255).toNat : Nat) = n % 256
  rw [key, IntKind.wrap_i64]
  omega
/-- A byte that is drawn: from 0 to 255; the place never turns back. -/
theorem byte_ok (c : List Int) (hc : c.length ≤ 9223372036854775807) (p s : Int) (hp : 0 ≤ p) : ∃ x p' s', spec_l01Byte.f c p s = some (x, p', s') ∧ 0 ≤ x ∧ x ≤ 255 ∧ 0 ≤ p' := by
  unfold spec_l01Byte.f
  split
  · try rw [if_pos hp]
    refine ⟨_, _, _, rfl, ?_, ?_, ?_⟩
    · rw [and255]; omega
    · rw [and255]; omega
    · rw [wrap_id (by omega) (by omega)]; omega
  · refine ⟨_, _, _, rfl, ?_, ?_, hp⟩
    · rw [and255]; omega
    · rw [and255]; omega
theorem below_ok (c : List Int) (hc : c.length ≤ 9223372036854775807) (p s n : Int) (hp : 0 ≤ p) (h0 : 0 < n) (h1 : n ≤ 256) : ∃ x p' s', spec_l01Below.f c p s n = some (x, p', s') ∧ 0 ≤ x ∧ x < n ∧ 0 ≤ p' := by
  obtain ⟨x, p', s', e, g0, g1, g2⟩ := byte_ok c hc p s hp
  unfold spec_l01Below.f
  rw [if_neg (by omega), if_pos h1, e]
  simp only [Option.bind_some]
  rw [if_neg (by omega)]
  refine ⟨_, _, _, rfl, Int.tmod_nonneg _ g0, Int.tmod_lt_of_pos _ h0, g2⟩
theorem once_ok (c : List Int) (hc : c.length ≤ 9223372036854775807) (p s n : Int) (hp : 0 ≤ p) (h0 : 0 < n) (h1 : n ≤ 256) : ∃ b p' s', spec_l01Once.f c p s n = some (b, p', s') ∧ 0 ≤ p' := by
  obtain ⟨x, p', s', e, _, _, g2⟩ := below_ok c hc p s n hp h0 h1
  unfold spec_l01Once.f
  rw [e]
  exact ⟨_, _, _, rfl, g2⟩
theorem within_eq (n lo hi : Int) : impl_within.f n lo hi = some (decide (lo ≤ n ∧ n ≤ hi)) := by
  unfold impl_within.f
  by_cases h : lo ≤ n <;> simp [h]
theorem has_loop (t : Int) (x : List Int) (hn : x.length ≤ 9223372036854775807) (d : Nat) : ∀ (k i : Nat), i + d = x.length → d < k →
    spec_l02Has.l0 k t x x.length i = some (decide (t ∈ x.drop i)) := by
  induction d with
  | zero =>
    intro k i hd hk
    obtain ⟨k, rfl⟩ : ∃ m, k = m + 1 := ⟨k - 1, by omega⟩
    simp only [spec_l02Has.l0]
    rw [if_neg (by omega), List.drop_of_length_le (by omega)]
    simp
  | succ d ih =>
    intro k i hd hk
    obtain ⟨k, rfl⟩ : ∃ m, k = m + 1 := ⟨k - 1, by omega⟩
    have hi : i < x.length := by omega
    have hlt : (i : Int) < (x.length : Int) := by omega
    have h0 : (0 : Int) ≤ (i : Int) := by omega
    simp only [spec_l02Has.l0, hlt, h0, if_true, wrap_succ hi hn, ih k (i + 1) (by omega) (by omega), rd_nat x i hi]
    have hm : t ∈ x.drop i ↔ t = x[i] ∨ t ∈ x.drop (i + 1) := by rw [List.drop_eq_getElem_cons hi, List.mem_cons]
    by_cases c : x[i] = t
    · rw [if_pos c, decide_eq_true (hm.2 (Or.inl c.symm))]
    · rw [if_neg c]
      congr 1
      rw [decide_eq_decide, hm]
      exact ⟨Or.inr, fun h => h.resolve_left (fun e => c e.symm)⟩
theorem has_eq (t : Int) (x : List Int) (hn : x.length ≤ 9223372036854775807) (k : Nat) (hk : x.length < k) : spec_l02Has.f k x t = some (decide (t ∈ x)) := by
  unfold spec_l02Has.f
  exact has_loop t x hn x.length k 0 (by omega) hk
theorem index_loop (t : Int) (x : List Int) (hn : x.length ≤ 9223372036854775807) (d : Nat) : ∀ (k i : Nat), i + d = x.length → d < k →
    ∃ r : Int, slices_Index_int_int.l0 k x t x.length i = some r ∧ ((0 ≤ r) ↔ t ∈ x.drop i) := by
  induction d with
  | zero =>
    intro k i hd hk
    obtain ⟨k, rfl⟩ : ∃ m, k = m + 1 := ⟨k - 1, by omega⟩
    simp only [slices_Index_int_int.l0]
    rw [if_neg (by omega), List.drop_of_length_le (by omega)]
    exact ⟨_, rfl, by simp⟩
  | succ d ih =>
    intro k i hd hk
    obtain ⟨k, rfl⟩ : ∃ m, k = m + 1 := ⟨k - 1, by omega⟩
    have hi : i < x.length := by omega
    have hlt : (i : Int) < (x.length : Int) := by omega
    have h0 : (0 : Int) ≤ (i : Int) := by omega
    obtain ⟨r, e, hr⟩ := ih k (i + 1) (by omega) (by omega)
    simp only [slices_Index_int_int.l0, hlt, h0, if_true, wrap_succ hi hn, e, rd_nat x i hi]
    have hm : t ∈ x.drop i ↔ t = x[i] ∨ t ∈ x.drop (i + 1) := by rw [List.drop_eq_getElem_cons hi, List.mem_cons]
    by_cases c : t = x[i]
    · rw [if_pos c]; exact ⟨_, rfl, ⟨fun _ => hm.2 (Or.inl c), fun _ => h0⟩⟩
    · rw [if_neg c]; exact ⟨_, rfl, hr.trans ⟨fun h => hm.2 (Or.inr h), fun h => (hm.1 h).resolve_left c⟩⟩
theorem contains_eq (t : Int) (x : List Int) (hn : x.length ≤ 9223372036854775807) (k : Nat) (hk : x.length < k) : slices_Contains_int_int.f k x t = some (decide (t ∈ x)) := by
  unfold slices_Contains_int_int.f slices_Index_int_int.f
  obtain ⟨r, e, hr⟩ := index_loop t x hn x.length k 0 (by omega) hk
  rw [show ((0 : Nat) : Int) = 0 from rfl] at e
  rw [e, List.drop_zero] at *
  simp only [Option.bind_some]
  congr 1
  rw [decide_eq_decide]
  exact hr
/-- The ladder from step i on (d steps): each a key, none twice. -/
def ladder (l : List Int) : Nat → Nat → Bool
  | _, 0 => true
  | i, d + 1 => decide (1 ≤ l.getD i 0 ∧ l.getD i 0 ≤ 8) && (!decide (l.getD i 0 ∈ l.take i) && ladder l (i + 1) d)
def numsOk (a b c : Int) (n : Nat) : Bool := decide (0 ≤ c ∧ c ≤ b ∧ b ≤ a ∧ a ≤ 10 ∧ 1 ≤ n ∧ n ≤ 8)
def rulesOk (a b c : Int) (l : List Int) : Bool := numsOk a b c l.length && ladder l 0 l.length
theorem implLadder (l : List Int) (a b c : Int) (g : Bool) (hn : l.length ≤ 9223372036854775807) (d : Nat) : ∀ (k i : Nat), i + d = l.length → l.length + d < k →
    impl_RulesOk.l0 k l l.length i a b c l g = some (ladder l i d && numsOk a b c l.length) := by
  induction d with
  | zero =>
    intro k i hd hk
    obtain ⟨k, rfl⟩ : ∃ m, k = m + 1 := ⟨k - 1, by omega⟩
    simp only [impl_RulesOk.l0, ladder, within_eq, Option.bind_some, numsOk]
    rw [if_neg (by omega), Bool.true_and]
    repeat' split
    all_goals first | (congr 1; rw [decide_eq_decide]; omega) | (congr 1; symm; rw [decide_eq_false_iff_not]; omega)
  | succ d ih =>
    intro k i hd hk
    obtain ⟨k, rfl⟩ : ∃ m, k = m + 1 := ⟨k - 1, by omega⟩
    have hi : i < l.length := by omega
    have hlt : (i : Int) < (l.length : Int) := by omega
    have hle : (i : Int) ≤ (l.length : Int) := by omega
    have h0 : (0 : Int) ≤ (i : Int) := by omega
    have ht : (l.take i).length = i := by simp; omega
    simp only [impl_RulesOk.l0, impl_isKey.f, hlt, hle, h0, if_true, within_eq, Option.bind_some, Int.toNat_natCast, contains_eq (rd l i) (l.take i) (by omega) k (by omega), wrap_succ hi hn, ih k (i + 1) (by omega) (by omega), ladder]
    show _ = some ((decide (1 ≤ rd l i ∧ rd l i ≤ 8) && (!decide (rd l i ∈ l.take i) && ladder l (i + 1) d)) && _)
    by_cases c1 : 1 ≤ rd l i ∧ rd l i ≤ 8 <;> by_cases c2 : rd l i ∈ l.take i <;> simp [c1, c2]
theorem implRules_eq (a b c : Int) (l : List Int) (g : Bool) (hn : l.length ≤ 9223372036854775807) (k : Nat) (hk : 2 * l.length < k) : impl_RulesOk.f k a b c l g = some (rulesOk a b c l) := by
  unfold impl_RulesOk.f rulesOk
  rw [show (0 : Int) = ((0 : Nat) : Int) from rfl, implLadder l a b c g hn l.length k 0 (by omega) (by omega), Bool.and_comm]
theorem implDecisive_eq (a b c : Int) (l : List Int) (g : Bool) (hn : l.length ≤ 9223372036854775807) (k : Nat) (hk : 2 * l.length + 1 < k) : impl_IsDecisive.f k a b c l g = some (rulesOk a b c l && decide ((8 : Int) ∈ l)) := by
  unfold impl_IsDecisive.f
  rw [implRules_eq a b c l g hn k (by omega), contains_eq 8 l hn _ (by omega)]
  cases rulesOk a b c l <;> rfl
theorem idxP_cons {α : Type} (p : α → Bool) (x : α) (l : List α) : idxP p (x :: l) = if p x = true then 0 else if idxP p l < 0 then -1 else idxP p l + 1 := by
  unfold idxP
  rw [List.findIdx?_cons]
  cases hx : p x with
  | true => simp
  | false =>
    cases h : l.findIdx? p with
    | none => simp
    | some i => simp; omega
theorem idxP_ge {α : Type} (p : α → Bool) (l : List α) : -1 ≤ idxP p l := by
  unfold idxP
  cases l.findIdx? p with
  | none => simp
  | some i => simp <;> omega
theorem index_exact (t : Int) (x : List Int) (hn : x.length ≤ 9223372036854775807) (d : Nat) : ∀ (k i : Nat), i + d = x.length → d < k → (∀ (j : Nat) (z : Int), j < i → x[j]? = some z → (z == t) = false) →
    slices_Index_int_int.l0 k x t x.length i = some (idxP (fun z => z == t) x) := by
  induction d with
  | zero =>
    intro k i hd hk hf
    obtain ⟨k, rfl⟩ : ∃ m, k = m + 1 := ⟨k - 1, by omega⟩
    simp only [slices_Index_int_int.l0]
    rw [if_neg (by omega), idxP_miss _ x (fun j z hj hz => hf j z (by omega) hz)]
  | succ d ih =>
    intro k i hd hk hf
    obtain ⟨k, rfl⟩ : ∃ m, k = m + 1 := ⟨k - 1, by omega⟩
    have hi : i < x.length := by omega
    have hy : x[i]? = some x[i] := List.getElem?_eq_getElem hi
    simp only [slices_Index_int_int.l0]
    rw [if_pos (by omega), if_pos (by omega), if_pos (by omega), wrap_succ hi hn, rd_nat x i hi]
    by_cases c : t = x[i]
    · rw [if_pos c, idxP_hit _ x i _ hy (by simp [c]) hf]
    · rw [if_neg c]
      exact ih k (i + 1) (by omega) (by omega) (fun j z hj hz => by
        by_cases ej : j = i
        · subst ej; rw [hy] at hz; cases hz; exact beq_eq_false_iff_ne.mpr (fun e => c e.symm)
        · exact hf j z (by omega) hz)
theorem index_eq (t : Int) (x : List Int) (hn : x.length ≤ 9223372036854775807) (k : Nat) (hk : x.length < k) : slices_Index_int_int.f k x t = some (idxP (fun z => z == t) x) := by
  unfold slices_Index_int_int.f
  exact index_exact t x hn x.length k 0 (by omega) hk (fun j z hj => absurd hj (Nat.not_lt_zero _))
/-- A mutual key comes ahead of the points, or no points stand there. -/
def earlyL : List Int → Bool
  | [] => true
  | x :: l => if x = 1 then false else if mutualP x = true then true else earlyL l
theorem earlyL_eq (l : List Int) : earlyL l = decide (idxP (fun z => z == 1) l < 0 ∨ (0 ≤ idxP mutualP l ∧ idxP mutualP l < idxP (fun z => z == 1) l)) := by
  induction l with
  | nil => simp [earlyL, idxP]
  | cons x l ih =>
    have g1 := idxP_ge (fun z : Int => z == 1) l
    have g2 := idxP_ge mutualP l
    rw [idxP_cons, idxP_cons, earlyL]
    by_cases c1 : x = 1
    · subst c1
      rw [if_pos rfl, if_pos (by rfl), if_neg (by decide)]
      symm
      rw [decide_eq_false_iff_not]
      split <;> omega
    · have e1 : (x == 1) = false := by simpa using c1
      rw [if_neg c1]
      simp only [e1, Bool.false_eq_true, if_false]
      by_cases c2 : mutualP x = true
      · simp only [c2, if_true]
        symm
        rw [decide_eq_true_eq]
        split <;> omega
      · simp only [c2, Bool.false_eq_true, if_false]
        rw [ih, decide_eq_decide]
        split <;> split <;> omega
theorem nums_of (a b c : Int) (l : List Int) (h : rulesOk a b c l = true) : 0 ≤ c ∧ c ≤ b ∧ b ≤ a ∧ a ≤ 10 ∧ 1 ≤ l.length ∧ l.length ≤ 8 := by
  unfold rulesOk numsOk at h
  rw [Bool.and_eq_true, decide_eq_true_eq] at h
  exact h.1
def faultOf (a b c : Int) (l : List Int) : ByteArray :=
  if rulesOk a b c l = true then
    (if a = c then (⟨#[112, 111, 105, 110, 116, 108, 101, 115, 115]⟩ : ByteArray)
    else if (8 : Int) ∈ l then (if rd l ((l.length : Int) - 1) = 8 then (if earlyL l = true then (⟨#[101, 97, 114, 108, 121]⟩ : ByteArray) else (⟨#[110, 111, 110, 101]⟩ : ByteArray)) else (⟨#[100, 101, 97, 100]⟩ : ByteArray))
    else (⟨#[117, 110, 100, 101, 99, 105, 100, 101, 100]⟩ : ByteArray))
  else (⟨#[105, 110, 118, 97, 108, 105, 100]⟩ : ByteArray)
theorem implFault_eq (a b c : Int) (l : List Int) (g : Bool) (hn : l.length ≤ 9223372036854775807) (k : Nat) (hk : 2 * l.length + 2 < k) : impl_FaultOf.f k a b c l g = some (faultOf a b c l) := by
  obtain ⟨k, rfl⟩ : ∃ m, k = m + 1 := ⟨k - 1, by omega⟩
  unfold impl_FaultOf.f faultOf slices_IndexFunc_int_int.f
  rw [implRules_eq a b c l g hn (k + 1) (by omega), index_eq 1 l hn (k + 1) (by omega)]
  simp only [Option.bind_some, impl_FaultOf.j0, implDecisive_eq a b c l g hn k (by omega)]
  cases hr : rulesOk a b c l with
  | false => rfl
  | true =>
    obtain ⟨_, h2', h3', _, h5, h6⟩ := nums_of a b c l hr
    have hw : wrap64 ((l.length : Int) - 1) = (l.length : Int) - 1 := wrap_id (by omega) (by omega)
    have he := earlyL_eq l
    rw [hw, if_pos rfl, if_pos rfl]
    by_cases h1 : a = c
    · have hab : a = b := by omega
      have hbc : (b == c) = true := by simp; omega
      rw [if_pos hab, hbc, if_pos rfl, if_pos h1]
    · have hne : ¬ (a = b ∧ (b == c) = true) := by rintro ⟨e1, e2⟩; simp at e2; omega
      rw [if_neg h1]
      have key : (if (true && decide ((8 : Int) ∈ l)) = true then (if 0 ≤ (l.length : Int) - 1 then (if (l.length : Int) - 1 < (l.length : Int) then (if rd l ((l.length : Int) - 1) = 8 then (if idxP (fun z => z == 1) l < 0 then (some (⟨#[101, 97, 114, 108, 121]⟩ : ByteArray)) else (if idxP mutualP l ≥ 0 then (if idxP mutualP l < idxP (fun z => z == 1) l then (some (⟨#[101, 97, 114, 108, 121]⟩ : ByteArray)) else (some (⟨#[110, 111, 110, 101]⟩ : ByteArray))) else (some (⟨#[110, 111, 110, 101]⟩ : ByteArray)))) else (some (⟨#[100, 101, 97, 100]⟩ : ByteArray))) else none) else none) else (some (⟨#[117, 110, 100, 101, 99, 105, 100, 101, 100]⟩ : ByteArray))) = some (if (8 : Int) ∈ l then (if rd l ((l.length : Int) - 1) = 8 then (if earlyL l = true then (⟨#[101, 97, 114, 108, 121]⟩ : ByteArray) else (⟨#[110, 111, 110, 101]⟩ : ByteArray)) else (⟨#[100, 101, 97, 100]⟩ : ByteArray)) else (⟨#[117, 110, 100, 101, 99, 105, 100, 101, 100]⟩ : ByteArray)) := by
        by_cases h2 : (8 : Int) ∈ l
        · rw [if_pos (by simp [h2]), if_pos h2, if_pos (by omega), if_pos (by omega)]
          by_cases h3 : rd l ((l.length : Int) - 1) = 8
          · rw [if_pos h3, if_pos h3, he]
            by_cases p1 : idxP (fun z => z == 1) l < 0
            · rw [if_pos p1, if_pos (decide_eq_true (Or.inl p1))]
            · rw [if_neg p1]
              by_cases p2 : idxP mutualP l ≥ 0
              · rw [if_pos p2]
                by_cases p3 : idxP mutualP l < idxP (fun z => z == 1) l
                · rw [if_pos p3, if_pos (decide_eq_true (Or.inr ⟨p2, p3⟩))]
                · rw [if_neg p3, if_neg (by rw [decide_eq_true_eq]; omega)]
              · rw [if_neg p2, if_neg (by rw [decide_eq_true_eq]; omega)]
          · rw [if_neg h3, if_neg h3]
        · rw [if_neg (by simp [h2]), if_neg h2]
      by_cases hab : a = b
      · have hbc : (b == c) = false := by cases hq : (b == c) with
          | false => rfl
          | true => exact absurd ⟨hab, hq⟩ hne
        rw [if_pos hab, hbc, if_neg (by simp)]
        exact key
      · rw [if_neg hab, if_neg (by simp)]
        exact key
/-- The rules that are drawn: two or three for a win, one for a draw, none for a loss; a ladder of different keys, from points to the seed. -/
def Keys (l : List Int) : Prop := l.Nodup ∧ (∀ x ∈ l, 1 ≤ x ∧ x ≤ 7) ∧ ∃ r, l = 1 :: r
def Ladder8 (L : List Int) : Prop := ∃ l, L = l ++ [8] ∧ Keys l ∧ l.length ≤ 7
theorem keys_add {l : List Int} (h : Keys l) (v : Int) (h0 : 2 ≤ v) (h1 : v ≤ 7) (hn : v ∉ l) : Keys (l ++ [v]) := by
  obtain ⟨a, b, r, rfl⟩ := h
  refine ⟨?_, fun x hx => ?_, r ++ [v], rfl⟩
  · rw [List.nodup_append]
    refine ⟨a, by simp, fun x hx y hy => ?_⟩
    rw [List.mem_singleton] at hy
    subst hy
    exact fun e => hn (e ▸ hx)
  · rcases List.mem_append.1 hx with hx | hx
    · exact b x hx
    · rw [List.mem_singleton] at hx
      omega
theorem draw_loop (c : List Int) (hc : c.length ≤ 9223372036854775807) (w dr lo : Int) (b : Bool) (d : Nat) : ∀ k ≥ d + 10, ∀ l : List Int, Keys l → l.length + d ≤ 7 → ∀ p s, 0 ≤ p →
    ∃ L p' s', spec_l03Draw.l0 k d c p s w dr lo l b = some (w, dr, lo, L, b, p', s') ∧ 0 ≤ p' ∧ Ladder8 L := by
  induction d with
  | zero =>
    intro k hk l hK hl p s hp
    obtain ⟨k, rfl⟩ : ∃ m, k = m + 1 := ⟨k - 1, by omega⟩
    simp only [spec_l03Draw.l0]
    rw [if_neg (by omega), if_pos (by omega)]
    exact ⟨_, _, _, rfl, hp, l, rfl, hK, by omega⟩
  | succ d ih =>
    intro k hk l hK hl p s hp
    obtain ⟨k, rfl⟩ : ∃ m, k = m + 1 := ⟨k - 1, by omega⟩
    obtain ⟨v, p1, s1, e1, v0, v1, hp1⟩ := below_ok c hc p s 6 hp (by omega) (by omega)
    have hw : wrap64 ((d + 1 : Nat) - 1 : Int) = (d : Int) := by rw [wrap_id (by omega) (by omega)]; omega
    have hv : wrap64 (2 + v) = 2 + v := wrap_id (by omega) (by omega)
    simp only [spec_l03Draw.l0, e1, Option.bind_some, hv]
    rw [if_pos (by omega), has_eq _ l (by omega) k (by omega), hw]
    simp only [Option.bind_some]
    by_cases hm : 2 + v ∈ l
    · rw [if_pos (by simpa using hm)]
      exact ih k (by omega) l hK (by omega) p1 s1 hp1
    · rw [if_neg (by simpa using hm), if_pos (by omega)]
      exact ih k (by omega) _ (keys_add hK _ (by omega) (by omega) hm) (by rw [List.length_append]; simp; omega) p1 s1 hp1
theorem draw_ok (c : List Int) (hc : c.length ≤ 9223372036854775807) (p s : Int) (hp : 0 ≤ p) (k : Nat) (hk : 20 ≤ k) :
    ∃ w L b p' s', spec_l03Draw.f k c p s = some (w, 1, 0, L, b, p', s') ∧ 0 ≤ p' ∧ (w = 2 ∨ w = 3) ∧ Ladder8 L := by
  obtain ⟨v1, p1, s1, e1, g0, g1, hp1⟩ := below_ok c hc p s 2 hp (by omega) (by omega)
  obtain ⟨v2, p2, s2, e2, hp2⟩ := once_ok c hc p1 s1 2 hp1 (by omega) (by omega)
  obtain ⟨v3, p3, s3, e3, g2, g3, hp3⟩ := below_ok c hc p2 s2 4 hp2 (by omega) (by omega)
  unfold spec_l03Draw.f
  simp only [e1, e2, e3, Option.bind_some]
  obtain ⟨d, rfl⟩ : ∃ d : Nat, v3 = d := ⟨v3.toNat, by omega⟩
  obtain ⟨L, p', s', e, hp', hL⟩ := draw_loop c hc (wrap64 (2 + v1)) 1 0 v2 d k (by omega) [1] ⟨by simp, by simp, [], rfl⟩ (by simp; omega) p3 s3 hp3
  exact ⟨_, _, _, _, _, e, hp', by rw [wrap_id (by omega) (by omega)]; omega, hL⟩
theorem new_loop (c : List Int) (d : Nat) : ∀ (k i : Nat), i + d = 4000 → d < k → ∀ x : Int, ∃ s, spec_l01New.l0 k c x i = some (c, 0, s) := by
  induction d with
  | zero =>
    intro k i hi hk x
    obtain ⟨k, rfl⟩ : ∃ m, k = m + 1 := ⟨k - 1, by omega⟩
    simp only [spec_l01New.l0]
    rw [if_neg (show ¬ ((i : Int) < 4000) by omega)]
    split <;> exact ⟨_, rfl⟩
  | succ d ih =>
    intro k i hi hk x
    obtain ⟨k, rfl⟩ : ∃ m, k = m + 1 := ⟨k - 1, by omega⟩
    simp only [spec_l01New.l0]
    split
    · rw [if_pos (show (i : Int) < 4000 by omega), if_pos (by omega), show wrap64 ((i : Int) + 1) = ((i + 1 : Nat) : Int) by rw [wrap_id (by omega) (by omega)]; rfl]
      exact ih k (i + 1) (by omega) (by omega) _
    · exact ⟨_, rfl⟩
theorem new_ok (c : List Int) (k : Nat) (hk : 4001 ≤ k) : ∃ s, spec_l01New.f k c = some (c, 0, s) := by
  unfold spec_l01New.f
  exact new_loop c 4000 k 0 (by omega) (by omega) _
theorem ladder_of (l : List Int) (hN : l.Nodup) (hR : ∀ x ∈ l, 1 ≤ x ∧ x ≤ 8) (d : Nat) : ∀ i, i + d = l.length → ladder l i d = true := by
  induction d with
  | zero => intro i _; rfl
  | succ d ih =>
    intro i hi
    have hl : i < l.length := by omega
    have hg : l.getD i 0 = l[i] := by simp [List.getD_eq_getElem?_getD, hl]
    have h1 := hR l[i] (List.getElem_mem hl)
    have h2 : l[i] ∉ l.take i := by
      intro hm
      obtain ⟨j, hj, e⟩ := List.mem_iff_getElem.1 hm
      rw [List.length_take] at hj
      rw [List.getElem_take] at e
      exact (List.pairwise_iff_getElem.1 hN j i (by omega) hl (by omega)) e
    rw [ladder, hg, ih (i + 1) (by omega), decide_eq_true h1, decide_eq_false h2]
    rfl
theorem ladder8_ok {L : List Int} (h : Ladder8 L) (a : Int) (ha : a = 2 ∨ a = 3) : rulesOk a 1 0 L = true ∧ L.length ≤ 8 ∧ 2 ≤ L.length := by
  obtain ⟨l, rfl, ⟨hN, hR, r, hr⟩, hl⟩ := h
  have h1 : 1 ≤ l.length := by rw [hr]; simp
  have hN2 : (l ++ [8]).Nodup := by
    rw [List.nodup_append]
    refine ⟨hN, by simp, fun x hx y hy => ?_⟩
    rw [List.mem_singleton] at hy
    have := hR x hx
    omega
  have hR2 : ∀ x ∈ l ++ [8], 1 ≤ x ∧ x ≤ 8 := by
    intro x hx
    rcases List.mem_append.1 hx with hx | hx
    · have := hR x hx; omega
    · rw [List.mem_singleton] at hx; omega
  have hle : (l ++ [8]).length = l.length + 1 := by simp
  refine ⟨?_, by omega, by omega⟩
  unfold rulesOk numsOk
  rw [ladder_of _ hN2 hR2 _ 0 (by omega), Bool.and_true, decide_eq_true_eq]
  omega
theorem ladder_all (l : List Int) (h : ladder l 0 l.length = true) : l.Nodup := by
  have go : ∀ d i, i + d = l.length → ladder l i d = true → ∀ a b, i ≤ b → (h2 : a < b) → (hb : b < l.length) → l[a]'(Nat.lt_trans h2 hb) ≠ l[b] := by
    intro d
    induction d with
    | zero => intro i hi _ a b h1 h2 hb; omega
    | succ d ih =>
      intro i hi h a b h1 h2 hb
      unfold ladder at h
      rw [Bool.and_eq_true, Bool.and_eq_true, Bool.not_eq_true', decide_eq_false_iff_not] at h
      rcases Nat.lt_or_ge i b with c | c
      · exact ih (i + 1) (by omega) h.2.2 a b (by omega) h2 hb
      · have hib : b = i := by omega
        subst hib
        have hg : l.getD b 0 = l[b] := by simp [List.getD_eq_getElem?_getD, hb]
        rw [hg] at h
        intro e
        refine h.2.1 (List.mem_iff_getElem.2 ⟨a, by rw [List.length_take]; omega, ?_⟩)
        rw [List.getElem_take]
        exact e
  exact List.pairwise_iff_getElem.2 (fun a b ha hb hab => go l.length 0 (by omega) h a b (Nat.zero_le _) hab hb)
theorem rd_last (l : List Int) (x : Int) : rd (l ++ [x]) (((l ++ [x]).length : Int) - 1) = x := by
  have h : ((l ++ [x]).length : Int) - 1 = ((l.length : Nat) : Int) := by simp
  rw [h, rd_nat _ _ (by simp)]
  simp
theorem FnRules : FnRules_pure := by
  intro c hl _
  unfold maxLen at hl
  refine ⟨4100, ?_⟩
  unfold laws_FnRules.f
  by_cases hb : (c.length : Int) > 1048576
  · rw [if_pos hb]
  · rw [if_neg hb]
    have hc : c.length ≤ 9223372036854775807 := by omega
    obtain ⟨s, e0⟩ := new_ok c 4100 (by omega)
    obtain ⟨w, L, b, p', s', e1, _, hw, hL⟩ := draw_ok c hc 0 s (by omega) 4100 (by omega)
    have eM : spec_MakeRules.f 4100 c = some (w, 1, 0, L, b) := by
      unfold spec_MakeRules.f
      simp only [e0, e1, Option.bind_some]
    obtain ⟨r1, hL8, hL2⟩ := ladder8_ok hL w hw
    have r1' := r1
    obtain ⟨l, rfl, ⟨hN, hR, r, hr⟩, hl7⟩ := hL
    have h8 : (8 : Int) ∉ l := fun h => by have := hR 8 h; omega
    have hlen : (l ++ [8]).length = l.length + 1 := by simp
    have hl1 : 1 ≤ l.length := by rw [hr]; simp
    have hji : wrap64 (((l ++ [8]).length : Int) - 1) = (l.length : Int) := by rw [wrap_id (by omega) (by omega)]; omega
    have htk : (l ++ [(8 : Int)]).take l.length = l := by simp
    have hr0 : rd (l ++ [8]) 0 = 1 := by rw [hr]; rfl
    have hm8 : (8 : Int) ∈ l ++ [8] := by simp
    have hwn : ¬ w = 0 := by omega
    -- the rules themselves
    have q1 := implRules_eq w 1 0 (l ++ [8]) b (by omega) 4100 (by omega)
    have q2 := implDecisive_eq w 1 0 (l ++ [8]) b (by omega) 4100 (by omega)
    rw [r1] at q1 q2
    rw [decide_eq_true hm8] at q2
    have q3 := implFault_eq w 1 0 (l ++ [8]) b (by omega) 4100 (by omega)
    have f3 : faultOf w 1 0 (l ++ [8]) = (⟨#[110, 111, 110, 101]⟩ : ByteArray) := by
      have he : earlyL (l ++ [8]) = false := by rw [hr]; rfl
      unfold faultOf
      rw [if_pos r1, if_neg hwn, if_pos hm8, if_pos (rd_last l 8), if_neg (by rw [he]; simp)]
    rw [f3] at q3
    -- without the seed
    have r2 : rulesOk w 1 0 l = true := by
      unfold rulesOk numsOk
      rw [ladder_of l hN (fun x hx => by have := hR x hx; omega) _ 0 (by omega), Bool.and_true, decide_eq_true_eq]
      omega
    have q4 := implFault_eq w 1 0 l b (by omega) 4100 (by omega)
    have f4 : faultOf w 1 0 l = (⟨#[117, 110, 100, 101, 99, 105, 100, 101, 100]⟩ : ByteArray) := by
      unfold faultOf
      rw [if_pos r2, if_neg hwn, if_neg h8]
    rw [f4] at q4
    -- a key twice
    have r3 : ¬ rulesOk w 1 0 (l ++ [8] ++ [1]) = true := by
      intro h
      unfold rulesOk at h
      rw [Bool.and_eq_true] at h
      have hn := ladder_all _ h.2
      rw [List.nodup_append] at hn
      exact hn.2.2 1 (by rw [hr]; simp) 1 (by simp) rfl
    have q5 := implFault_eq w 1 0 (l ++ [8] ++ [1]) b (by simp; omega) 4100 (by simp; omega)
    have f5 : faultOf w 1 0 (l ++ [8] ++ [1]) = (⟨#[105, 110, 118, 97, 108, 105, 100]⟩ : ByteArray) := by
      unfold faultOf
      rw [if_neg r3]
    rw [f5] at q5
    -- one number of points
    have r4 : rulesOk 0 0 0 (l ++ [8]) = true := by
      unfold rulesOk numsOk at r1' ⊢
      rw [Bool.and_eq_true] at r1'
      rw [r1'.2, Bool.and_true, decide_eq_true_eq]
      omega
    have q6 := implFault_eq 0 0 0 (l ++ [8]) b (by omega) 4100 (by omega)
    have f6 : faultOf 0 0 0 (l ++ [8]) = (⟨#[112, 111, 105, 110, 116, 108, 101, 115, 115]⟩ : ByteArray) := by
      unfold faultOf
      rw [if_pos r4, if_pos rfl]
    rw [f6] at q6
    -- the usual rules
    have q7 := implFault_eq 3 1 0 [1, 5, 6, 2, 3, 8] true (by simp) 4100 (by simp)
    have f7 : faultOf 3 1 0 [1, 5, 6, 2, 3, 8] = (⟨#[110, 111, 110, 101]⟩ : ByteArray) := by
      have : rulesOk 3 1 0 [1, 5, 6, 2, 3, 8] = true := by decide
      unfold faultOf
      rw [if_pos this]
      rfl
    rw [f7] at q7
    have q8 : impl_KeyName.f 1 = some (⟨#[112, 111, 105, 110, 116, 115]⟩ : ByteArray) := by
      unfold impl_KeyName.f impl_isKey.f impl_keyNames.f
      rw [within_eq]
      simp only [Option.bind_some]
      rw [show wrap64 (1 - 1) = 0 by rw [wrap_id (by omega) (by omega)]; rfl, if_pos (by decide), if_pos (by decide), if_pos (by decide)]
      rfl
    have q9 : impl_KeyNamed.f 4100 (⟨#[112, 111, 105, 110, 116, 115]⟩ : ByteArray) = some 1 := by
      unfold impl_KeyNamed.f impl_keyNames.f slices_Index_string_string.f
      rw [Option.bind_some, show (4100 : Nat) = 4099 + 1 from rfl]
      unfold slices_Index_string_string.l0
      rw [if_pos (by decide), if_pos (by decide), if_pos (by decide), if_pos (by rfl), Option.bind_some, wrap_id (by omega) (by omega)]
      rfl
    have q10 : impl_SameRules.f 4100 w 1 0 (l ++ [8]) b w 1 0 l b = some false := by
      unfold impl_SameRules.f slices_Equal_int_int.f
      rw [if_pos rfl, if_pos rfl, if_pos rfl, if_pos (by simp), if_neg (by omega)]
      rfl
    simp only [eM, Option.bind_some, hji, Int.toNat_natCast, htk, List.nil_append]
    have tl : ∀ (a : Array UInt8) (m : List UInt8), a.toList = m → (⟨a⟩ : ByteArray).toList = m := fun a m h => by rw [ByteArray.toList_eq]; exact h
    rw [if_pos (by omega), if_pos (by omega), if_pos (by first | (simp; done) | (simp; omega) | omega), if_pos (by first | (simp; done) | (simp; omega) | omega), if_pos (by omega), if_pos (by first | (simp; done) | (simp; omega) | omega), hr0, q1]
    simp only [Option.bind_some, if_true, q2, q3, q4, q5, q6, q7, q8, q9, q10, impl_UsualRules.f, Bool.and_self, Bool.not_false]
    rw [if_pos (tl _ _ rfl), if_pos (tl _ _ rfl), if_pos (tl _ _ rfl), if_pos (tl _ _ rfl), if_pos (tl _ _ rfl)]

end Go.Proofs.Ytikfdjgigeggjaa.Pure
