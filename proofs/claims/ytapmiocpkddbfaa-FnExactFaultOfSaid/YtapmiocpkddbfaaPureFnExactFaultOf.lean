/- Whatever the rules: FaultOf of the program and of the reference answer alike, and the rules stay as they were; no condition beyond the form's own reach. -/
import Derived.Test.YtapmiocpkddbfaaSayFnExactFaultOf
import Derived.Test.YtapmiocpkddbfaaPureKit
namespace Go.Proofs.Ytapmiocpkddbfaa.Pure
open Go.RowKit Go.Proofs.Ytapmiocpkddbfaa.MFnExactFaultOf Go.Proofs.Ytapmiocpkddbfaa.PureKit Go.Proofs.YtapmiocpkddbfaaW.PrintWords Go.Proofs.YtapmiocpkddbfaaW.PrintLast
set_option linter.unusedSimpArgs false
set_option linter.unusedVariables false
theorem sz_big {n : Nat} (h : n ≤ 9223372036854775807) (hb : 1048576 < n) : wrap64 (1048576 - (n : Int)) < 0 := by rw [wrap_id (by omega) (by omega)]; omega
theorem sz_small {n : Nat} (hb : n ≤ 1048576) : ¬ wrap64 (1048576 - (n : Int)) < 0 ∧ wrap64 (1048576 - (n : Int)) = 1048576 - (n : Int) := by
  have h := wrap_id (x := 1048576 - (n : Int)) (by omega) (by omega)
  rw [h]; exact ⟨by omega, rfl⟩
theorem toIntS_loop (x0 : List Int) (hn : x0.length ≤ 9223372036854775807) (d : Nat) : ∀ (k i : Nat) (acc : List Int), acc.length = x0.length → acc.take i = x0.take i → i + d = x0.length → d < k →
    laws_toIntS.l0 k x0 acc i = some x0 := by
  induction d with
  | zero =>
    intro k i acc hl ht hd hk
    obtain ⟨k, rfl⟩ : ∃ m, k = m + 1 := ⟨k - 1, by omega⟩
    simp only [laws_toIntS.l0]
    rw [if_neg (by omega)]
    rw [List.take_of_length_le (by omega), List.take_of_length_le (by omega)] at ht
    rw [ht]
  | succ d ih =>
    intro k i acc hl ht hd hk
    obtain ⟨k, rfl⟩ : ∃ m, k = m + 1 := ⟨k - 1, by omega⟩
    have hi : i < x0.length := by omega
    simp only [laws_toIntS.l0]
    rw [if_pos (by omega), if_pos (by omega), if_pos (by omega), wrap_succ hi hn, rd_nat x0 i hi, Int.toNat_natCast]
    refine ih k (i + 1) _ (by simp [hl]) ?_ (by omega) (by omega)
    have := set_copy (fun x => x) x0 acc i hi hl (by simpa using ht)
    simpa using this
theorem toIntS_eq (x0 : List Int) (hn : x0.length ≤ 35184372088832) (k : Nat) (hk : x0.length < k) : laws_toIntS.f k x0 = some x0 := by
  unfold laws_toIntS.f
  rw [if_pos (by omega), if_pos (by omega)]
  exact toIntS_loop x0 (by omega) x0.length k 0 _ (by simp) (by simp) (by omega) hk
theorem eqIntS_loop (x : List Int) (hn : x.length ≤ 9223372036854775807) (d : Nat) : ∀ (k i : Nat), i + d = x.length → d < k → laws_eqIntS.l0 k x x i = some true := by
  induction d with
  | zero =>
    intro k i hd hk
    obtain ⟨k, rfl⟩ : ∃ m, k = m + 1 := ⟨k - 1, by omega⟩
    simp only [laws_eqIntS.l0]
    rw [if_neg (by omega)]
  | succ d ih =>
    intro k i hd hk
    obtain ⟨k, rfl⟩ : ∃ m, k = m + 1 := ⟨k - 1, by omega⟩
    simp only [laws_eqIntS.l0]
    rw [if_pos (by omega), if_pos (by omega), if_pos (by omega), if_pos trivial, wrap_succ (show i < x.length by omega) hn]
    exact ih k (i + 1) (by omega) (by omega)
theorem eqIntS_eq (x : List Int) (hn : x.length ≤ 9223372036854775807) (k : Nat) (hk : x.length < k) : laws_eqIntS.f k x x = some true := by
  unfold laws_eqIntS.f
  rw [if_pos rfl]
  exact eqIntS_loop x hn x.length k 0 (by omega) hk
theorem toRules_eq (a b c : Int) (l : List Int) (g : Bool) (hn : l.length ≤ 35184372088832) (k : Nat) (hk : l.length < k) : laws_toRules.f k a b c l g = some (a, b, c, l, g) := by
  unfold laws_toRules.f
  rw [toIntS_eq l hn k hk]; rfl
theorem eqRules_eq (a b c : Int) (l : List Int) (g : Bool) (hn : l.length ≤ 35184372088832) (k : Nat) (hk : l.length < k) : laws_eqRules.f k a b c l g a b c l g = some true := by
  unfold laws_eqRules.f
  rw [eqIntS_eq l (by omega) k hk]; simp
theorem in_within (n lo hi : Int) : spec_l01In.f n lo hi = some (decide (lo ≤ n ∧ n ≤ hi)) ∧ impl_within.f n lo hi = some (decide (lo ≤ n ∧ n ≤ hi)) := by
  unfold spec_l01In.f impl_within.f
  by_cases h : lo ≤ n <;> simp [h]
theorem has_loop (t : Int) (x : List Int) (hn : x.length ≤ 9223372036854775807) (d : Nat) : ∀ (k i : Nat), i + d = x.length → d < k →
    spec_l02Has.l0 k t x x.length i = some (decide (t ∈ x.drop i)) := by
  induction d with
  | zero =>
    intro k i hd hk
    obtain ⟨k, rfl⟩ : ∃ m, k = m + 1 := ⟨k - 1, by omega⟩
    simp only [spec_l02Has.l0]
    rw [if_neg (by omega), List.drop_of_length_le (by omega)]
    simp
  | succ d ih =>
    intro k i hd hk
    obtain ⟨k, rfl⟩ : ∃ m, k = m + 1 := ⟨k - 1, by omega⟩
    have hi : i < x.length := by omega
    have hlt : (i : Int) < (x.length : Int) := by omega
    have h0 : (0 : Int) ≤ (i : Int) := by omega
    simp only [spec_l02Has.l0, hlt, h0, if_true, wrap_succ hi hn, ih k (i + 1) (by omega) (by omega), rd_nat x i hi]
    have hm : t ∈ x.drop i ↔ t = x[i] ∨ t ∈ x.drop (i + 1) := by rw [List.drop_eq_getElem_cons hi, List.mem_cons]
    by_cases c : x[i] = t
    · rw [if_pos c, decide_eq_true (hm.2 (Or.inl c.symm))]
    · rw [if_neg c]
      congr 1
      rw [decide_eq_decide, hm]
      exact ⟨Or.inr, fun h => h.resolve_left (fun e => c e.symm)⟩
theorem has_eq (t : Int) (x : List Int) (hn : x.length ≤ 9223372036854775807) (k : Nat) (hk : x.length < k) : spec_l02Has.f k x t = some (decide (t ∈ x)) := by
  unfold spec_l02Has.f
  exact has_loop t x hn x.length k 0 (by omega) hk
theorem index_loop (t : Int) (x : List Int) (hn : x.length ≤ 9223372036854775807) (d : Nat) : ∀ (k i : Nat), i + d = x.length → d < k →
    ∃ r : Int, slices_Index_int_int.l0 k x t x.length i = some r ∧ ((0 ≤ r) ↔ t ∈ x.drop i) := by
  induction d with
  | zero =>
    intro k i hd hk
    obtain ⟨k, rfl⟩ : ∃ m, k = m + 1 := ⟨k - 1, by omega⟩
    simp only [slices_Index_int_int.l0]
    rw [if_neg (by omega), List.drop_of_length_le (by omega)]
    exact ⟨_, rfl, by simp⟩
  | succ d ih =>
    intro k i hd hk
    obtain ⟨k, rfl⟩ : ∃ m, k = m + 1 := ⟨k - 1, by omega⟩
    have hi : i < x.length := by omega
    have hlt : (i : Int) < (x.length : Int) := by omega
    have h0 : (0 : Int) ≤ (i : Int) := by omega
    obtain ⟨r, e, hr⟩ := ih k (i + 1) (by omega) (by omega)
    simp only [slices_Index_int_int.l0, hlt, h0, if_true, wrap_succ hi hn, e, rd_nat x i hi]
    have hm : t ∈ x.drop i ↔ t = x[i] ∨ t ∈ x.drop (i + 1) := by rw [List.drop_eq_getElem_cons hi, List.mem_cons]
    by_cases c : t = x[i]
    · rw [if_pos c]; exact ⟨_, rfl, ⟨fun _ => hm.2 (Or.inl c), fun _ => h0⟩⟩
    · rw [if_neg c]; exact ⟨_, rfl, hr.trans ⟨fun h => hm.2 (Or.inr h), fun h => (hm.1 h).resolve_left c⟩⟩
theorem contains_eq (t : Int) (x : List Int) (hn : x.length ≤ 9223372036854775807) (k : Nat) (hk : x.length < k) : slices_Contains_int_int.f k x t = some (decide (t ∈ x)) := by
  unfold slices_Contains_int_int.f slices_Index_int_int.f
  obtain ⟨r, e, hr⟩ := index_loop t x hn x.length k 0 (by omega) hk
  rw [show ((0 : Nat) : Int) = 0 from rfl] at e
  rw [e, List.drop_zero] at *
  simp only [Option.bind_some]
  congr 1
  rw [decide_eq_decide]
  exact hr
/-- The ladder from step i on (d steps): each a key, none twice. -/
def ladder (l : List Int) : Nat → Nat → Bool
  | _, 0 => true
  | i, d + 1 => decide (1 ≤ l.getD i 0 ∧ l.getD i 0 ≤ 8) && (!decide (l.getD i 0 ∈ l.take i) && ladder l (i + 1) d)
def numsOk (a b c : Int) (n : Nat) : Bool := decide (0 ≤ c ∧ c ≤ b ∧ b ≤ a ∧ a ≤ 10 ∧ 1 ≤ n ∧ n ≤ 8)
def rulesOk (a b c : Int) (l : List Int) : Bool := numsOk a b c l.length && ladder l 0 l.length
theorem specLadder (l : List Int) (a b c : Int) (g : Bool) (hn : l.length ≤ 9223372036854775807) (d : Nat) : ∀ (k i : Nat), i + d = l.length → l.length + d < k →
    spec_RulesOk.l0 k l l.length i a b c l g = some (ladder l i d) := by
  induction d with
  | zero =>
    intro k i hd hk
    obtain ⟨k, rfl⟩ : ∃ m, k = m + 1 := ⟨k - 1, by omega⟩
    simp only [spec_RulesOk.l0, ladder]
    rw [if_neg (by omega)]
  | succ d ih =>
    intro k i hd hk
    obtain ⟨k, rfl⟩ : ∃ m, k = m + 1 := ⟨k - 1, by omega⟩
    have hi : i < l.length := by omega
    have hlt : (i : Int) < (l.length : Int) := by omega
    have hle : (i : Int) ≤ (l.length : Int) := by omega
    have h0 : (0 : Int) ≤ (i : Int) := by omega
    have ht : (l.take i).length = i := by simp; omega
    simp only [spec_RulesOk.l0, hlt, hle, h0, if_true, (in_within _ _ _).1, Option.bind_some, Int.toNat_natCast, has_eq (rd l i) (l.take i) (by omega) k (by omega), wrap_succ hi hn, ih k (i + 1) (by omega) (by omega), ladder]
    show _ = some (decide (1 ≤ rd l i ∧ rd l i ≤ 8) && (!decide (rd l i ∈ l.take i) && ladder l (i + 1) d))
    by_cases c1 : 1 ≤ rd l i ∧ rd l i ≤ 8 <;> by_cases c2 : rd l i ∈ l.take i <;> simp [c1, c2]
theorem implLadder (l : List Int) (a b c : Int) (g : Bool) (hn : l.length ≤ 9223372036854775807) (d : Nat) : ∀ (k i : Nat), i + d = l.length → l.length + d < k →
    impl_RulesOk.l0 k l l.length i a b c l g = some (ladder l i d && numsOk a b c l.length) := by
  induction d with
  | zero =>
    intro k i hd hk
    obtain ⟨k, rfl⟩ : ∃ m, k = m + 1 := ⟨k - 1, by omega⟩
    simp only [impl_RulesOk.l0, ladder, (in_within _ _ _).2, Option.bind_some, numsOk]
    rw [if_neg (by omega), Bool.true_and]
    repeat' split
    all_goals first | (congr 1; rw [decide_eq_decide]; omega) | (congr 1; symm; rw [decide_eq_false_iff_not]; omega)
  | succ d ih =>
    intro k i hd hk
    obtain ⟨k, rfl⟩ : ∃ m, k = m + 1 := ⟨k - 1, by omega⟩
    have hi : i < l.length := by omega
    have hlt : (i : Int) < (l.length : Int) := by omega
    have hle : (i : Int) ≤ (l.length : Int) := by omega
    have h0 : (0 : Int) ≤ (i : Int) := by omega
    have ht : (l.take i).length = i := by simp; omega
    simp only [impl_RulesOk.l0, impl_isKey.f, hlt, hle, h0, if_true, (in_within _ _ _).2, Option.bind_some, Int.toNat_natCast, contains_eq (rd l i) (l.take i) (by omega) k (by omega), wrap_succ hi hn, ih k (i + 1) (by omega) (by omega), ladder]
    show _ = some ((decide (1 ≤ rd l i ∧ rd l i ≤ 8) && (!decide (rd l i ∈ l.take i) && ladder l (i + 1) d)) && _)
    by_cases c1 : 1 ≤ rd l i ∧ rd l i ≤ 8 <;> by_cases c2 : rd l i ∈ l.take i <;> simp [c1, c2]
theorem implRules_eq (a b c : Int) (l : List Int) (g : Bool) (hn : l.length ≤ 9223372036854775807) (k : Nat) (hk : 2 * l.length < k) : impl_RulesOk.f k a b c l g = some (rulesOk a b c l) := by
  unfold impl_RulesOk.f rulesOk
  rw [show (0 : Int) = ((0 : Nat) : Int) from rfl, implLadder l a b c g hn l.length k 0 (by omega) (by omega), Bool.and_comm]
theorem specRules_eq (a b c : Int) (l : List Int) (g : Bool) (hn : l.length ≤ 9223372036854775807) (k : Nat) (hk : 2 * l.length + 1 < k) : spec_RulesOk.f k a b c l g = some (rulesOk a b c l) := by
  obtain ⟨k, rfl⟩ : ∃ m, k = m + 1 := ⟨k - 1, by omega⟩
  have e := specLadder l a b c g hn l.length k 0 (by omega) (by omega)
  rw [show ((0 : Nat) : Int) = 0 from rfl] at e
  unfold spec_RulesOk.f rulesOk numsOk
  simp only [(in_within _ _ _).1, Option.bind_some, spec_RulesOk.j0, e]
  repeat' split
  all_goals simp_all
  all_goals omega
theorem specDecisive_eq (a b c : Int) (l : List Int) (g : Bool) (hn : l.length ≤ 9223372036854775807) (k : Nat) (hk : 2 * l.length + 1 < k) : spec_IsDecisive.f k a b c l g = some (rulesOk a b c l && decide ((8 : Int) ∈ l)) := by
  unfold spec_IsDecisive.f
  rw [specRules_eq a b c l g hn k hk, has_eq 8 l hn _ (by omega)]
  cases rulesOk a b c l <;> rfl
theorem implDecisive_eq (a b c : Int) (l : List Int) (g : Bool) (hn : l.length ≤ 9223372036854775807) (k : Nat) (hk : 2 * l.length + 1 < k) : impl_IsDecisive.f k a b c l g = some (rulesOk a b c l && decide ((8 : Int) ∈ l)) := by
  unfold impl_IsDecisive.f
  rw [implRules_eq a b c l g hn k (by omega), contains_eq 8 l hn _ (by omega)]
  cases rulesOk a b c l <;> rfl
theorem idxP_cons {α : Type} (p : α → Bool) (x : α) (l : List α) : idxP p (x :: l) = if p x = true then 0 else if idxP p l < 0 then -1 else idxP p l + 1 := by
  unfold idxP
  rw [List.findIdx?_cons]
  cases hx : p x with
  | true => simp
  | false =>
    cases h : l.findIdx? p with
    | none => simp
    | some i => simp; omega
theorem idxP_ge {α : Type} (p : α → Bool) (l : List α) : -1 ≤ idxP p l := by
  unfold idxP
  cases l.findIdx? p with
  | none => simp
  | some i => simp <;> omega
theorem index_exact (t : Int) (x : List Int) (hn : x.length ≤ 9223372036854775807) (d : Nat) : ∀ (k i : Nat), i + d = x.length → d < k → (∀ (j : Nat) (z : Int), j < i → x[j]? = some z → (z == t) = false) →
    slices_Index_int_int.l0 k x t x.length i = some (idxP (fun z => z == t) x) := by
  induction d with
  | zero =>
    intro k i hd hk hf
    obtain ⟨k, rfl⟩ : ∃ m, k = m + 1 := ⟨k - 1, by omega⟩
    simp only [slices_Index_int_int.l0]
    rw [if_neg (by omega), idxP_miss _ x (fun j z hj hz => hf j z (by omega) hz)]
  | succ d ih =>
    intro k i hd hk hf
    obtain ⟨k, rfl⟩ : ∃ m, k = m + 1 := ⟨k - 1, by omega⟩
    have hi : i < x.length := by omega
    have hy : x[i]? = some x[i] := List.getElem?_eq_getElem hi
    simp only [slices_Index_int_int.l0]
    rw [if_pos (by omega), if_pos (by omega), if_pos (by omega), wrap_succ hi hn, rd_nat x i hi]
    by_cases c : t = x[i]
    · rw [if_pos c, idxP_hit _ x i _ hy (by simp [c]) hf]
    · rw [if_neg c]
      exact ih k (i + 1) (by omega) (by omega) (fun j z hj hz => by
        by_cases ej : j = i
        · subst ej; rw [hy] at hz; cases hz; exact beq_eq_false_iff_ne.mpr (fun e => c e.symm)
        · exact hf j z (by omega) hz)
theorem index_eq (t : Int) (x : List Int) (hn : x.length ≤ 9223372036854775807) (k : Nat) (hk : x.length < k) : slices_Index_int_int.f k x t = some (idxP (fun z => z == t) x) := by
  unfold slices_Index_int_int.f
  exact index_exact t x hn x.length k 0 (by omega) hk (fun j z hj => absurd hj (Nat.not_lt_zero _))
theorem specMutual_eq (x : Int) : spec_IsMutual.f x = some (mutualP x) := by
  unfold spec_IsMutual.f mutualP
  by_cases h : x = 5 <;> simp [h]
/-- A mutual key comes ahead of the points, or no points stand there. -/
def earlyL : List Int → Bool
  | [] => true
  | x :: l => if x = 1 then false else if mutualP x = true then true else earlyL l
theorem earlyL_eq (l : List Int) : earlyL l = decide (idxP (fun z => z == 1) l < 0 ∨ (0 ≤ idxP mutualP l ∧ idxP mutualP l < idxP (fun z => z == 1) l)) := by
  induction l with
  | nil => simp [earlyL, idxP]
  | cons x l ih =>
    have g1 := idxP_ge (fun z : Int => z == 1) l
    have g2 := idxP_ge mutualP l
    rw [idxP_cons, idxP_cons, earlyL]
    by_cases c1 : x = 1
    · subst c1
      rw [if_pos rfl, if_pos (by rfl), if_neg (by decide)]
      symm
      rw [decide_eq_false_iff_not]
      split <;> omega
    · have e1 : (x == 1) = false := by simpa using c1
      rw [if_neg c1]
      simp only [e1, Bool.false_eq_true, if_false]
      by_cases c2 : mutualP x = true
      · simp only [c2, if_true]
        symm
        rw [decide_eq_true_eq]
        split <;> omega
      · simp only [c2, Bool.false_eq_true, if_false]
        rw [ih, decide_eq_decide]
        split <;> split <;> omega
theorem specEarly_loop (l : List Int) (hn : l.length ≤ 9223372036854775807) (d : Nat) : ∀ (k i : Nat), i + d = l.length → d < k → spec_l03Early.l0 k l l.length i = some (earlyL (l.drop i)) := by
  induction d with
  | zero =>
    intro k i hd hk
    obtain ⟨k, rfl⟩ : ∃ m, k = m + 1 := ⟨k - 1, by omega⟩
    simp only [spec_l03Early.l0]
    rw [if_neg (by omega), List.drop_of_length_le (by omega)]; rfl
  | succ d ih =>
    intro k i hd hk
    obtain ⟨k, rfl⟩ : ∃ m, k = m + 1 := ⟨k - 1, by omega⟩
    have hi : i < l.length := by omega
    have hdr : l.drop i = l[i] :: l.drop (i + 1) := List.drop_eq_getElem_cons hi
    simp only [spec_l03Early.l0, specMutual_eq, Option.bind_some]
    rw [if_pos (by omega), if_pos (by omega), if_pos (by omega), wrap_succ hi hn, rd_nat l i hi, ih k (i + 1) (by omega) (by omega), hdr, earlyL]
    split
    · rfl
    · split <;> rfl
theorem nums_of (a b c : Int) (l : List Int) (h : rulesOk a b c l = true) : 0 ≤ c ∧ c ≤ b ∧ b ≤ a ∧ a ≤ 10 ∧ 1 ≤ l.length ∧ l.length ≤ 8 := by
  unfold rulesOk numsOk at h
  rw [Bool.and_eq_true, decide_eq_true_eq] at h
  exact h.1
def faultOf (a b c : Int) (l : List Int) : ByteArray :=
  if rulesOk a b c l = true then
    (if a = c then (⟨#[112, 111, 105, 110, 116, 108, 101, 115, 115]⟩ : ByteArray)
    else if (8 : Int) ∈ l then (if rd l ((l.length : Int) - 1) = 8 then (if earlyL l = true then (⟨#[101, 97, 114, 108, 121]⟩ : ByteArray) else (⟨#[110, 111, 110, 101]⟩ : ByteArray)) else (⟨#[100, 101, 97, 100]⟩ : ByteArray))
    else (⟨#[117, 110, 100, 101, 99, 105, 100, 101, 100]⟩ : ByteArray))
  else (⟨#[105, 110, 118, 97, 108, 105, 100]⟩ : ByteArray)
theorem specFault_eq (a b c : Int) (l : List Int) (g : Bool) (hn : l.length ≤ 9223372036854775807) (k : Nat) (hk : 2 * l.length + 2 < k) : spec_FaultOf.f k a b c l g = some (faultOf a b c l) := by
  unfold spec_FaultOf.f faultOf
  rw [specRules_eq a b c l g hn k (by omega), specDecisive_eq a b c l g hn k (by omega)]
  simp only [Option.bind_some]
  cases hr : rulesOk a b c l with
  | false => rfl
  | true =>
    obtain ⟨_, _, _, _, h5, h6⟩ := nums_of a b c l hr
    have hw : wrap64 ((l.length : Int) - 1) = (l.length : Int) - 1 := wrap_id (by omega) (by omega)
    have he : spec_l03Early.f k a b c l g = some (earlyL l) := specEarly_loop l hn l.length k 0 (by omega) (by omega)
    rw [hw, he, if_pos rfl, if_pos rfl]
    by_cases h1 : a = c
    · rw [if_pos h1, if_pos h1]
    · rw [if_neg h1, if_neg h1]
      by_cases h2 : (8 : Int) ∈ l
      · rw [if_pos (by simp [h2]), if_pos h2, if_pos (by omega), if_pos (by omega)]
        by_cases h3 : rd l ((l.length : Int) - 1) = 8
        · rw [if_pos h3, if_pos h3]
          cases earlyL l <;> rfl
        · rw [if_neg h3, if_neg h3]
      · rw [if_neg (by simp [h2]), if_neg h2]
theorem implFault_eq (a b c : Int) (l : List Int) (g : Bool) (hn : l.length ≤ 9223372036854775807) (k : Nat) (hk : 2 * l.length + 2 < k) : impl_FaultOf.f k a b c l g = some (faultOf a b c l) := by
  obtain ⟨k, rfl⟩ : ∃ m, k = m + 1 := ⟨k - 1, by omega⟩
  unfold impl_FaultOf.f faultOf slices_IndexFunc_int_int.f
  rw [implRules_eq a b c l g hn (k + 1) (by omega), index_eq 1 l hn (k + 1) (by omega)]
  simp only [Option.bind_some, impl_FaultOf.j0, implDecisive_eq a b c l g hn k (by omega)]
  cases hr : rulesOk a b c l with
  | false => rfl
  | true =>
    obtain ⟨_, h2', h3', _, h5, h6⟩ := nums_of a b c l hr
    have hw : wrap64 ((l.length : Int) - 1) = (l.length : Int) - 1 := wrap_id (by omega) (by omega)
    have he := earlyL_eq l
    rw [hw, if_pos rfl, if_pos rfl]
    by_cases h1 : a = c
    · have hab : a = b := by omega
      have hbc : (b == c) = true := by simp; omega
      rw [if_pos hab, hbc, if_pos rfl, if_pos h1]
    · have hne : ¬ (a = b ∧ (b == c) = true) := by rintro ⟨e1, e2⟩; simp at e2; omega
      rw [if_neg h1]
      have key : (if (true && decide ((8 : Int) ∈ l)) = true then (if 0 ≤ (l.length : Int) - 1 then (if (l.length : Int) - 1 < (l.length : Int) then (if rd l ((l.length : Int) - 1) = 8 then (if idxP (fun z => z == 1) l < 0 then (some (⟨#[101, 97, 114, 108, 121]⟩ : ByteArray)) else (if idxP mutualP l ≥ 0 then (if idxP mutualP l < idxP (fun z => z == 1) l then (some (⟨#[101, 97, 114, 108, 121]⟩ : ByteArray)) else (some (⟨#[110, 111, 110, 101]⟩ : ByteArray))) else (some (⟨#[110, 111, 110, 101]⟩ : ByteArray)))) else (some (⟨#[100, 101, 97, 100]⟩ : ByteArray))) else none) else none) else (some (⟨#[117, 110, 100, 101, 99, 105, 100, 101, 100]⟩ : ByteArray))) = some (if (8 : Int) ∈ l then (if rd l ((l.length : Int) - 1) = 8 then (if earlyL l = true then (⟨#[101, 97, 114, 108, 121]⟩ : ByteArray) else (⟨#[110, 111, 110, 101]⟩ : ByteArray)) else (⟨#[100, 101, 97, 100]⟩ : ByteArray)) else (⟨#[117, 110, 100, 101, 99, 105, 100, 101, 100]⟩ : ByteArray)) := by
        by_cases h2 : (8 : Int) ∈ l
        · rw [if_pos (by simp [h2]), if_pos h2, if_pos (by omega), if_pos (by omega)]
          by_cases h3 : rd l ((l.length : Int) - 1) = 8
          · rw [if_pos h3, if_pos h3, he]
            by_cases p1 : idxP (fun z => z == 1) l < 0
            · rw [if_pos p1, if_pos (decide_eq_true (Or.inl p1))]
            · rw [if_neg p1]
              by_cases p2 : idxP mutualP l ≥ 0
              · rw [if_pos p2]
                by_cases p3 : idxP mutualP l < idxP (fun z => z == 1) l
                · rw [if_pos p3, if_pos (decide_eq_true (Or.inr ⟨p2, p3⟩))]
                · rw [if_neg p3, if_neg (by rw [decide_eq_true_eq]; omega)]
              · rw [if_neg p2, if_neg (by rw [decide_eq_true_eq]; omega)]
          · rw [if_neg h3, if_neg h3]
        · rw [if_neg (by simp [h2]), if_neg h2]
      by_cases hab : a = b
      · have hbc : (b == c) = false := by cases hq : (b == c) with
          | false => rfl
          | true => exact absurd ⟨hab, hq⟩ hne
        rw [if_pos hab, hbc, if_neg (by simp)]
        exact key
      · rw [if_neg hab, if_neg (by simp)]
        exact key
theorem FnExactFaultOf : FnExactFaultOf_pure := by
  intro a b c l g _ _ _ hl _
  unfold maxLen at hl
  refine ⟨2 * l.length + 3, ?_⟩
  unfold laws_FnExactFaultOf.f laws_szRules.f laws_szIntS.f
  by_cases hb : 1048576 < l.length
  · rw [if_pos (sz_big (by omega) hb)]; rfl
  · obtain ⟨h1, h2⟩ := sz_small (show l.length ≤ 1048576 by omega)
    have e := toRules_eq a b c l g (by omega) (2 * l.length + 3) (by omega)
    have e1 := specFault_eq a b c l g (by omega) (2 * l.length + 3) (by omega)
    have e2 := implFault_eq a b c l g (by omega) (2 * l.length + 3) (by omega)
    have eq := eqRules_eq a b c l g (by omega) (2 * l.length + 3) (by omega)
    rw [if_neg h1]
    simp only [Option.bind_some, h1, if_false, e, e1, e2, eq, if_true]

end Go.Proofs.Ytapmiocpkddbfaa.Pure
