/- Whatever the rules: IsDecisive of the program and of the reference answer alike, and the rules stay as they were; no condition beyond the form's own reach. -/
import Derived.Test.YtkaaajbnkbnefaaSayFnExactIsDecisive
import Derived.Test.YtkaaajbnkbnefaaPureKit
namespace Go.Proofs.Ytkaaajbnkbnefaa.Pure
open Go.RowKit Go.Proofs.Ytkaaajbnkbnefaa.MFnExactIsDecisive Go.Proofs.Ytkaaajbnkbnefaa.PureKit Go.Proofs.YtkaaajbnkbnefaaW.PrintWords Go.Proofs.YtkaaajbnkbnefaaW.PrintLast
set_option linter.unusedSimpArgs false
set_option linter.unusedVariables false
theorem sz_big {n : Nat} (h : n ≤ 9223372036854775807) (hb : 1048576 < n) : wrap64 (1048576 - (n : Int)) < 0 := by rw [wrap_id (by omega) (by omega)]; omega
theorem sz_small {n : Nat} (hb : n ≤ 1048576) : ¬ wrap64 (1048576 - (n : Int)) < 0 ∧ wrap64 (1048576 - (n : Int)) = 1048576 - (n : Int) := by
  have h := wrap_id (x := 1048576 - (n : Int)) (by omega) (by omega)
  rw [h]; exact ⟨by omega, rfl⟩
theorem toIntS_loop (x0 : List Int) (hn : x0.length ≤ 9223372036854775807) (d : Nat) : ∀ (k i : Nat) (acc : List Int), acc.length = x0.length → acc.take i = x0.take i → i + d = x0.length → d < k →
    laws_toIntS.l0 k x0 acc i = some x0 := by
  induction d with
  | zero =>
    intro k i acc hl ht hd hk
    obtain ⟨k, rfl⟩ : ∃ m, k = m + 1 := ⟨k - 1, by omega⟩
    simp only [laws_toIntS.l0]
    rw [if_neg (by omega)]
    rw [List.take_of_length_le (by omega), List.take_of_length_le (by omega)] at ht
    rw [ht]
  | succ d ih =>
    intro k i acc hl ht hd hk
    obtain ⟨k, rfl⟩ : ∃ m, k = m + 1 := ⟨k - 1, by omega⟩
    have hi : i < x0.length := by omega
    simp only [laws_toIntS.l0]
    rw [if_pos (by omega), if_pos (by omega), if_pos (by omega), wrap_succ hi hn, rd_nat x0 i hi, Int.toNat_natCast]
    refine ih k (i + 1) _ (by simp [hl]) ?_ (by omega) (by omega)
    have := set_copy (fun x => x) x0 acc i hi hl (by simpa using ht)
    simpa using this
theorem toIntS_eq (x0 : List Int) (hn : x0.length ≤ 35184372088832) (k : Nat) (hk : x0.length < k) : laws_toIntS.f k x0 = some x0 := by
  unfold laws_toIntS.f
  rw [if_pos (by omega), if_pos (by omega)]
  exact toIntS_loop x0 (by omega) x0.length k 0 _ (by simp) (by simp) (by omega) hk
theorem eqIntS_loop (x : List Int) (hn : x.length ≤ 9223372036854775807) (d : Nat) : ∀ (k i : Nat), i + d = x.length → d < k → laws_eqIntS.l0 k x x i = some true := by
  induction d with
  | zero =>
    intro k i hd hk
    obtain ⟨k, rfl⟩ : ∃ m, k = m + 1 := ⟨k - 1, by omega⟩
    simp only [laws_eqIntS.l0]
    rw [if_neg (by omega)]
  | succ d ih =>
    intro k i hd hk
    obtain ⟨k, rfl⟩ : ∃ m, k = m + 1 := ⟨k - 1, by omega⟩
    simp only [laws_eqIntS.l0]
    rw [if_pos (by omega), if_pos (by omega), if_pos (by omega), if_pos trivial, wrap_succ (show i < x.length by omega) hn]
    exact ih k (i + 1) (by omega) (by omega)
theorem eqIntS_eq (x : List Int) (hn : x.length ≤ 9223372036854775807) (k : Nat) (hk : x.length < k) : laws_eqIntS.f k x x = some true := by
  unfold laws_eqIntS.f
  rw [if_pos rfl]
  exact eqIntS_loop x hn x.length k 0 (by omega) hk
theorem toRules_eq (a b c : Int) (l : List Int) (g : Bool) (hn : l.length ≤ 35184372088832) (k : Nat) (hk : l.length < k) : laws_toRules.f k a b c l g = some (a, b, c, l, g) := by
  unfold laws_toRules.f
  rw [toIntS_eq l hn k hk]; rfl
theorem eqRules_eq (a b c : Int) (l : List Int) (g : Bool) (hn : l.length ≤ 35184372088832) (k : Nat) (hk : l.length < k) : laws_eqRules.f k a b c l g a b c l g = some true := by
  unfold laws_eqRules.f
  rw [eqIntS_eq l (by omega) k hk]; simp
theorem in_within (n lo hi : Int) : spec_l01In.f n lo hi = some (decide (lo ≤ n ∧ n ≤ hi)) ∧ impl_within.f n lo hi = some (decide (lo ≤ n ∧ n ≤ hi)) := by
  unfold spec_l01In.f impl_within.f
  by_cases h : lo ≤ n <;> simp [h]
theorem has_loop (t : Int) (x : List Int) (hn : x.length ≤ 9223372036854775807) (d : Nat) : ∀ (k i : Nat), i + d = x.length → d < k →
    spec_l02Has.l0 k t x x.length i = some (decide (t ∈ x.drop i)) := by
  induction d with
  | zero =>
    intro k i hd hk
    obtain ⟨k, rfl⟩ : ∃ m, k = m + 1 := ⟨k - 1, by omega⟩
    simp only [spec_l02Has.l0]
    rw [if_neg (by omega), List.drop_of_length_le (by omega)]
    simp
  | succ d ih =>
    intro k i hd hk
    obtain ⟨k, rfl⟩ : ∃ m, k = m + 1 := ⟨k - 1, by omega⟩
    have hi : i < x.length := by omega
    have hlt : (i : Int) < (x.length : Int) := by omega
    have h0 : (0 : Int) ≤ (i : Int) := by omega
    simp only [spec_l02Has.l0, hlt, h0, if_true, wrap_succ hi hn, ih k (i + 1) (by omega) (by omega), rd_nat x i hi]
    have hm : t ∈ x.drop i ↔ t = x[i] ∨ t ∈ x.drop (i + 1) := by rw [List.drop_eq_getElem_cons hi, List.mem_cons]
    by_cases c : x[i] = t
    · rw [if_pos c, decide_eq_true (hm.2 (Or.inl c.symm))]
    · rw [if_neg c]
      congr 1
      rw [decide_eq_decide, hm]
      exact ⟨Or.inr, fun h => h.resolve_left (fun e => c e.symm)⟩
theorem has_eq (t : Int) (x : List Int) (hn : x.length ≤ 9223372036854775807) (k : Nat) (hk : x.length < k) : spec_l02Has.f k x t = some (decide (t ∈ x)) := by
  unfold spec_l02Has.f
  exact has_loop t x hn x.length k 0 (by omega) hk
theorem index_loop (t : Int) (x : List Int) (hn : x.length ≤ 9223372036854775807) (d : Nat) : ∀ (k i : Nat), i + d = x.length → d < k →
    ∃ r : Int, slices_Index_int_int.l0 k x t x.length i = some r ∧ ((0 ≤ r) ↔ t ∈ x.drop i) := by
  induction d with
  | zero =>
    intro k i hd hk
    obtain ⟨k, rfl⟩ : ∃ m, k = m + 1 := ⟨k - 1, by omega⟩
    simp only [slices_Index_int_int.l0]
    rw [if_neg (by omega), List.drop_of_length_le (by omega)]
    exact ⟨_, rfl, by simp⟩
  | succ d ih =>
    intro k i hd hk
    obtain ⟨k, rfl⟩ : ∃ m, k = m + 1 := ⟨k - 1, by omega⟩
    have hi : i < x.length := by omega
    have hlt : (i : Int) < (x.length : Int) := by omega
    have h0 : (0 : Int) ≤ (i : Int) := by omega
    obtain ⟨r, e, hr⟩ := ih k (i + 1) (by omega) (by omega)
    simp only [slices_Index_int_int.l0, hlt, h0, if_true, wrap_succ hi hn, e, rd_nat x i hi]
    have hm : t ∈ x.drop i ↔ t = x[i] ∨ t ∈ x.drop (i + 1) := by rw [List.drop_eq_getElem_cons hi, List.mem_cons]
    by_cases c : t = x[i]
    · rw [if_pos c]; exact ⟨_, rfl, ⟨fun _ => hm.2 (Or.inl c), fun _ => h0⟩⟩
    · rw [if_neg c]; exact ⟨_, rfl, hr.trans ⟨fun h => hm.2 (Or.inr h), fun h => (hm.1 h).resolve_left c⟩⟩
theorem contains_eq (t : Int) (x : List Int) (hn : x.length ≤ 9223372036854775807) (k : Nat) (hk : x.length < k) : slices_Contains_int_int.f k x t = some (decide (t ∈ x)) := by
  unfold slices_Contains_int_int.f slices_Index_int_int.f
  obtain ⟨r, e, hr⟩ := index_loop t x hn x.length k 0 (by omega) hk
  rw [show ((0 : Nat) : Int) = 0 from rfl] at e
  rw [e, List.drop_zero] at *
  simp only [Option.bind_some]
  congr 1
  rw [decide_eq_decide]
  exact hr
/-- The ladder from step i on (d steps): each a key, none twice. -/
def ladder (l : List Int) : Nat → Nat → Bool
  | _, 0 => true
  | i, d + 1 => decide (1 ≤ l.getD i 0 ∧ l.getD i 0 ≤ 8) && (!decide (l.getD i 0 ∈ l.take i) && ladder l (i + 1) d)
def numsOk (a b c : Int) (n : Nat) : Bool := decide (0 ≤ c ∧ c ≤ b ∧ b ≤ a ∧ a ≤ 10 ∧ 1 ≤ n ∧ n ≤ 8)
def rulesOk (a b c : Int) (l : List Int) : Bool := numsOk a b c l.length && ladder l 0 l.length
theorem specLadder (l : List Int) (a b c : Int) (g : Bool) (hn : l.length ≤ 9223372036854775807) (d : Nat) : ∀ (k i : Nat), i + d = l.length → l.length + d < k →
    spec_RulesOk.l0 k l l.length i a b c l g = some (ladder l i d) := by
  induction d with
  | zero =>
    intro k i hd hk
    obtain ⟨k, rfl⟩ : ∃ m, k = m + 1 := ⟨k - 1, by omega⟩
    simp only [spec_RulesOk.l0, ladder]
    rw [if_neg (by omega)]
  | succ d ih =>
    intro k i hd hk
    obtain ⟨k, rfl⟩ : ∃ m, k = m + 1 := ⟨k - 1, by omega⟩
    have hi : i < l.length := by omega
    have hlt : (i : Int) < (l.length : Int) := by omega
    have hle : (i : Int) ≤ (l.length : Int) := by omega
    have h0 : (0 : Int) ≤ (i : Int) := by omega
    have ht : (l.take i).length = i := by simp; omega
    simp only [spec_RulesOk.l0, hlt, hle, h0, if_true, (in_within _ _ _).1, Option.bind_some, Int.toNat_natCast, has_eq (rd l i) (l.take i) (by omega) k (by omega), wrap_succ hi hn, ih k (i + 1) (by omega) (by omega), ladder]
    show _ = some (decide (1 ≤ rd l i ∧ rd l i ≤ 8) && (!decide (rd l i ∈ l.take i) && ladder l (i + 1) d))
    by_cases c1 : 1 ≤ rd l i ∧ rd l i ≤ 8 <;> by_cases c2 : rd l i ∈ l.take i <;> simp [c1, c2]
theorem implLadder (l : List Int) (a b c : Int) (g : Bool) (hn : l.length ≤ 9223372036854775807) (d : Nat) : ∀ (k i : Nat), i + d = l.length → l.length + d < k →
    impl_RulesOk.l0 k l l.length i a b c l g = some (ladder l i d && numsOk a b c l.length) := by
  induction d with
  | zero =>
    intro k i hd hk
    obtain ⟨k, rfl⟩ : ∃ m, k = m + 1 := ⟨k - 1, by omega⟩
    simp only [impl_RulesOk.l0, ladder, (in_within _ _ _).2, Option.bind_some, numsOk]
    rw [if_neg (by omega), Bool.true_and]
    repeat' split
    all_goals first | (congr 1; rw [decide_eq_decide]; omega) | (congr 1; symm; rw [decide_eq_false_iff_not]; omega)
  | succ d ih =>
    intro k i hd hk
    obtain ⟨k, rfl⟩ : ∃ m, k = m + 1 := ⟨k - 1, by omega⟩
    have hi : i < l.length := by omega
    have hlt : (i : Int) < (l.length : Int) := by omega
    have hle : (i : Int) ≤ (l.length : Int) := by omega
    have h0 : (0 : Int) ≤ (i : Int) := by omega
    have ht : (l.take i).length = i := by simp; omega
    simp only [impl_RulesOk.l0, impl_isKey.f, hlt, hle, h0, if_true, (in_within _ _ _).2, Option.bind_some, Int.toNat_natCast, contains_eq (rd l i) (l.take i) (by omega) k (by omega), wrap_succ hi hn, ih k (i + 1) (by omega) (by omega), ladder]
    show _ = some ((decide (1 ≤ rd l i ∧ rd l i ≤ 8) && (!decide (rd l i ∈ l.take i) && ladder l (i + 1) d)) && _)
    by_cases c1 : 1 ≤ rd l i ∧ rd l i ≤ 8 <;> by_cases c2 : rd l i ∈ l.take i <;> simp [c1, c2]
theorem implRules_eq (a b c : Int) (l : List Int) (g : Bool) (hn : l.length ≤ 9223372036854775807) (k : Nat) (hk : 2 * l.length < k) : impl_RulesOk.f k a b c l g = some (rulesOk a b c l) := by
  unfold impl_RulesOk.f rulesOk
  rw [show (0 : Int) = ((0 : Nat) : Int) from rfl, implLadder l a b c g hn l.length k 0 (by omega) (by omega), Bool.and_comm]
theorem specRules_eq (a b c : Int) (l : List Int) (g : Bool) (hn : l.length ≤ 9223372036854775807) (k : Nat) (hk : 2 * l.length + 1 < k) : spec_RulesOk.f k a b c l g = some (rulesOk a b c l) := by
  obtain ⟨k, rfl⟩ : ∃ m, k = m + 1 := ⟨k - 1, by omega⟩
  have e := specLadder l a b c g hn l.length k 0 (by omega) (by omega)
  rw [show ((0 : Nat) : Int) = 0 from rfl] at e
  unfold spec_RulesOk.f rulesOk numsOk
  simp only [(in_within _ _ _).1, Option.bind_some, spec_RulesOk.j0, e]
  repeat' split
  all_goals simp_all
  all_goals omega
theorem FnExactIsDecisive : FnExactIsDecisive_pure := by
  intro a b c l g _ _ _ hl _
  unfold maxLen at hl
  refine ⟨2 * l.length + 2, ?_⟩
  unfold laws_FnExactIsDecisive.f laws_szRules.f laws_szIntS.f
  by_cases hb : 1048576 < l.length
  · rw [if_pos (sz_big (by omega) hb)]; rfl
  · obtain ⟨h1, h2⟩ := sz_small (show l.length ≤ 1048576 by omega)
    have e := toRules_eq a b c l g (by omega) (2 * l.length + 2) (by omega)
    have e1 := specRules_eq a b c l g (by omega) (2 * l.length + 2) (by omega)
    have e2 := implRules_eq a b c l g (by omega) (2 * l.length + 2) (by omega)
    have eq := eqRules_eq a b c l g (by omega) (2 * l.length + 2) (by omega)
    have f1 : spec_IsDecisive.f (2 * l.length + 2) a b c l g = some (rulesOk a b c l && decide ((8 : Int) ∈ l)) := by
      unfold spec_IsDecisive.f
      rw [e1, has_eq 8 l (by omega) _ (by omega)]
      cases rulesOk a b c l <;> rfl
    have f2 : impl_IsDecisive.f (2 * l.length + 2) a b c l g = some (rulesOk a b c l && decide ((8 : Int) ∈ l)) := by
      unfold impl_IsDecisive.f
      rw [e2, contains_eq 8 l (by omega) _ (by omega)]
      cases rulesOk a b c l <;> rfl
    rw [if_neg h1]
    simp only [Option.bind_some, h1, if_false, e, f1, f2, eq, if_true, bne_self_eq_false, Bool.false_eq_true]

end Go.Proofs.Ytkaaajbnkbnefaa.Pure
