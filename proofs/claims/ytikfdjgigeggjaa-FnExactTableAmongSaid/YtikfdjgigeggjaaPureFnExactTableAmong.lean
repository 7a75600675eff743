/- Whatever the rules, the number of teams, the games and the group: TableAmong of the program and of the reference answer alike, in memory of its own at each call, and the arguments stay as they were; no condition beyond the form's own reach. -/
import Derived.Test.YtikfdjgigeggjaaSayFnExactTableAmong
import Derived.Test.YtikfdjgigeggjaaVFnExactTableAmongKit
namespace Go.Proofs.Ytikfdjgigeggjaa.Pure
open Go.RowKit Go.Proofs.Ytikfdjgigeggjaa.MFnExactTableAmong Go.Proofs.Ytikfdjgigeggjaa.PureKit Go.Proofs.YtikfdjgigeggjaaW.PrintWords Go.Proofs.YtikfdjgigeggjaaW.PrintLast
set_option linter.unusedSimpArgs false
set_option linter.unusedVariables false
theorem sz_big {n : Nat} (h : n ≤ 9223372036854775807) (hb : 1048576 < n) : wrap64 (1048576 - (n : Int)) < 0 := by rw [wrap_id (by omega) (by omega)]; omega
theorem sz_small {n : Nat} (hb : n ≤ 1048576) : ¬ wrap64 (1048576 - (n : Int)) < 0 ∧ wrap64 (1048576 - (n : Int)) = 1048576 - (n : Int) := by
  have h := wrap_id (x := 1048576 - (n : Int)) (by omega) (by omega)
  rw [h]; exact ⟨by omega, rfl⟩
theorem in_within (n lo hi : Int) : spec_l01In.f n lo hi = some (decide (lo ≤ n ∧ n ≤ hi)) ∧ impl_within.f n lo hi = some (decide (lo ≤ n ∧ n ≤ hi)) := by
  unfold spec_l01In.f impl_within.f
  by_cases h : lo ≤ n <;> simp [h]
def laws_toGameS_c (x : S99) : S71 := ⟨x.f0, x.f1, x.f2, x.f3, x.f4⟩
theorem laws_toGameS_loop (x0 : List S99) (hn : x0.length ≤ 9223372036854775807) (d : Nat) : ∀ (k i : Nat) (acc : List S71), acc.length = x0.length → acc.take i = (x0.take i).map laws_toGameS_c → i + d = x0.length → d < k →
    laws_toGameS.l0 k x0 acc i = some (x0.map laws_toGameS_c) := by
  induction d with
  | zero =>
    intro k i acc hl ht hd hk
    obtain ⟨k, rfl⟩ : ∃ m, k = m + 1 := ⟨k - 1, by omega⟩
    simp only [laws_toGameS.l0]
    rw [if_neg (by omega)]
    rw [List.take_of_length_le (by omega), List.take_of_length_le (by omega)] at ht
    rw [ht]
  | succ d ih =>
    intro k i acc hl ht hd hk
    obtain ⟨k, rfl⟩ : ∃ m, k = m + 1 := ⟨k - 1, by omega⟩
    have hi : i < x0.length := by omega
    simp only [laws_toGameS.l0, laws_toGame.f, Option.bind_some]
    rw [if_pos (by omega), if_pos (by omega), if_pos (by omega), wrap_succ hi hn, show rd_T99 x0 (i : Int) = x0[i] from getD_nat _ x0 i hi, Int.toNat_natCast]
    exact ih k (i + 1) _ (by simp [hl]) (set_copy laws_toGameS_c x0 acc i hi hl ht) (by omega) (by omega)
theorem laws_toGameS_eq (x0 : List S99) (hn : x0.length ≤ 7036874417766) (k : Nat) (hk : x0.length < k) : laws_toGameS.f k x0 = some (x0.map laws_toGameS_c) := by
  unfold laws_toGameS.f
  rw [if_pos (by omega), if_pos (by omega)]
  exact laws_toGameS_loop x0 (by omega) x0.length k 0 _ (by simp) (by simp) (by omega) hk
theorem laws_eqGameS_loop (x : List S71) (hn : x.length ≤ 9223372036854775807) (d : Nat) : ∀ (k i : Nat), i + d = x.length → d < k → laws_eqGameS.l0 k x x i = some true := by
  induction d with
  | zero =>
    intro k i hd hk
    obtain ⟨k, rfl⟩ : ∃ m, k = m + 1 := ⟨k - 1, by omega⟩
    simp only [laws_eqGameS.l0]
    rw [if_neg (by omega)]
  | succ d ih =>
    intro k i hd hk
    obtain ⟨k, rfl⟩ : ∃ m, k = m + 1 := ⟨k - 1, by omega⟩
    simp only [laws_eqGameS.l0, laws_eqGame.f]
    rw [if_pos (by omega), if_pos (by omega), if_pos (by omega), wrap_succ (show i < x.length by omega) hn]
    simp only [if_true, Option.bind_some]
    exact ih k (i + 1) (by omega) (by omega)
theorem laws_eqGameS_eq (x : List S71) (hn : x.length ≤ 9223372036854775807) (k : Nat) (hk : x.length < k) : laws_eqGameS.f k x x = some true := by
  unfold laws_eqGameS.f
  rw [if_pos rfl]
  exact laws_eqGameS_loop x hn x.length k 0 (by omega) hk
theorem laws_eqRowS_loop (x : List S74) (hn : x.length ≤ 9223372036854775807) (d : Nat) : ∀ (k i : Nat), i + d = x.length → d < k → laws_eqRowS.l0 k x x i = some true := by
  induction d with
  | zero =>
    intro k i hd hk
    obtain ⟨k, rfl⟩ : ∃ m, k = m + 1 := ⟨k - 1, by omega⟩
    simp only [laws_eqRowS.l0]
    rw [if_neg (by omega)]
  | succ d ih =>
    intro k i hd hk
    obtain ⟨k, rfl⟩ : ∃ m, k = m + 1 := ⟨k - 1, by omega⟩
    simp only [laws_eqRowS.l0, laws_eqRow.f]
    rw [if_pos (by omega), if_pos (by omega), if_pos (by omega), wrap_succ (show i < x.length by omega) hn]
    simp only [if_true, Option.bind_some]
    exact ih k (i + 1) (by omega) (by omega)
theorem laws_eqRowS_eq (x : List S74) (hn : x.length ≤ 9223372036854775807) (k : Nat) (hk : x.length < k) : laws_eqRowS.f k x x = some true := by
  unfold laws_eqRowS.f
  rw [if_pos rfl]
  exact laws_eqRowS_loop x hn x.length k 0 (by omega) hk
theorem toIntS_loop (x0 : List Int) (hn : x0.length ≤ 9223372036854775807) (d : Nat) : ∀ (k i : Nat) (acc : List Int), acc.length = x0.length → acc.take i = x0.take i → i + d = x0.length → d < k →
    laws_toIntS.l0 k x0 acc i = some x0 := by
  induction d with
  | zero =>
    intro k i acc hl ht hd hk
    obtain ⟨k, rfl⟩ : ∃ m, k = m + 1 := ⟨k - 1, by omega⟩
    simp only [laws_toIntS.l0]
    rw [if_neg (by omega)]
    rw [List.take_of_length_le (by omega), List.take_of_length_le (by omega)] at ht
    rw [ht]
  | succ d ih =>
    intro k i acc hl ht hd hk
    obtain ⟨k, rfl⟩ : ∃ m, k = m + 1 := ⟨k - 1, by omega⟩
    have hi : i < x0.length := by omega
    simp only [laws_toIntS.l0]
    rw [if_pos (by omega), if_pos (by omega), if_pos (by omega), wrap_succ hi hn, rd_nat x0 i hi, Int.toNat_natCast]
    refine ih k (i + 1) _ (by simp [hl]) ?_ (by omega) (by omega)
    have := set_copy (fun x => x) x0 acc i hi hl (by simpa using ht)
    simpa using this
theorem toIntS_eq (x0 : List Int) (hn : x0.length ≤ 35184372088832) (k : Nat) (hk : x0.length < k) : laws_toIntS.f k x0 = some x0 := by
  unfold laws_toIntS.f
  rw [if_pos (by omega), if_pos (by omega)]
  exact toIntS_loop x0 (by omega) x0.length k 0 _ (by simp) (by simp) (by omega) hk
theorem eqIntS_loop (x : List Int) (hn : x.length ≤ 9223372036854775807) (d : Nat) : ∀ (k i : Nat), i + d = x.length → d < k → laws_eqIntS.l0 k x x i = some true := by
  induction d with
  | zero =>
    intro k i hd hk
    obtain ⟨k, rfl⟩ : ∃ m, k = m + 1 := ⟨k - 1, by omega⟩
    simp only [laws_eqIntS.l0]
    rw [if_neg (by omega)]
  | succ d ih =>
    intro k i hd hk
    obtain ⟨k, rfl⟩ : ∃ m, k = m + 1 := ⟨k - 1, by omega⟩
    simp only [laws_eqIntS.l0]
    rw [if_pos (by omega), if_pos (by omega), if_pos (by omega), if_pos trivial, wrap_succ (show i < x.length by omega) hn]
    exact ih k (i + 1) (by omega) (by omega)
theorem eqIntS_eq (x : List Int) (hn : x.length ≤ 9223372036854775807) (k : Nat) (hk : x.length < k) : laws_eqIntS.f k x x = some true := by
  unfold laws_eqIntS.f
  rw [if_pos rfl]
  exact eqIntS_loop x hn x.length k 0 (by omega) hk
theorem has_loop (t : Int) (x : List Int) (hn : x.length ≤ 9223372036854775807) (d : Nat) : ∀ (k i : Nat), i + d = x.length → d < k →
    spec_l02Has.l0 k t x x.length i = some (decide (t ∈ x.drop i)) := by
  induction d with
  | zero =>
    intro k i hd hk
    obtain ⟨k, rfl⟩ : ∃ m, k = m + 1 := ⟨k - 1, by omega⟩
    simp only [spec_l02Has.l0]
    rw [if_neg (by omega), List.drop_of_length_le (by omega)]
    simp
  | succ d ih =>
    intro k i hd hk
    obtain ⟨k, rfl⟩ : ∃ m, k = m + 1 := ⟨k - 1, by omega⟩
    have hi : i < x.length := by omega
    have hlt : (i : Int) < (x.length : Int) := by omega
    have h0 : (0 : Int) ≤ (i : Int) := by omega
    simp only [spec_l02Has.l0, hlt, h0, if_true, wrap_succ hi hn, ih k (i + 1) (by omega) (by omega), rd_nat x i hi]
    have hm : t ∈ x.drop i ↔ t = x[i] ∨ t ∈ x.drop (i + 1) := by rw [List.drop_eq_getElem_cons hi, List.mem_cons]
    by_cases c : x[i] = t
    · rw [if_pos c, decide_eq_true (hm.2 (Or.inl c.symm))]
    · rw [if_neg c]
      congr 1
      rw [decide_eq_decide, hm]
      exact ⟨Or.inr, fun h => h.resolve_left (fun e => c e.symm)⟩
theorem has_eq (t : Int) (x : List Int) (hn : x.length ≤ 9223372036854775807) (k : Nat) (hk : x.length < k) : spec_l02Has.f k x t = some (decide (t ∈ x)) := by
  unfold spec_l02Has.f
  exact has_loop t x hn x.length k 0 (by omega) hk
theorem index_loop (t : Int) (x : List Int) (hn : x.length ≤ 9223372036854775807) (d : Nat) : ∀ (k i : Nat), i + d = x.length → d < k →
    ∃ r : Int, slices_Index_int_int.l0 k x t x.length i = some r ∧ ((0 ≤ r) ↔ t ∈ x.drop i) := by
  induction d with
  | zero =>
    intro k i hd hk
    obtain ⟨k, rfl⟩ : ∃ m, k = m + 1 := ⟨k - 1, by omega⟩
    simp only [slices_Index_int_int.l0]
    rw [if_neg (by omega), List.drop_of_length_le (by omega)]
    exact ⟨_, rfl, by simp⟩
  | succ d ih =>
    intro k i hd hk
    obtain ⟨k, rfl⟩ : ∃ m, k = m + 1 := ⟨k - 1, by omega⟩
    have hi : i < x.length := by omega
    have hlt : (i : Int) < (x.length : Int) := by omega
    have h0 : (0 : Int) ≤ (i : Int) := by omega
    obtain ⟨r, e, hr⟩ := ih k (i + 1) (by omega) (by omega)
    simp only [slices_Index_int_int.l0, hlt, h0, if_true, wrap_succ hi hn, e, rd_nat x i hi]
    have hm : t ∈ x.drop i ↔ t = x[i] ∨ t ∈ x.drop (i + 1) := by rw [List.drop_eq_getElem_cons hi, List.mem_cons]
    by_cases c : t = x[i]
    · rw [if_pos c]; exact ⟨_, rfl, ⟨fun _ => hm.2 (Or.inl c), fun _ => h0⟩⟩
    · rw [if_neg c]; exact ⟨_, rfl, hr.trans ⟨fun h => hm.2 (Or.inr h), fun h => (hm.1 h).resolve_left c⟩⟩
theorem contains_eq (t : Int) (x : List Int) (hn : x.length ≤ 9223372036854775807) (k : Nat) (hk : x.length < k) : slices_Contains_int_int.f k x t = some (decide (t ∈ x)) := by
  unfold slices_Contains_int_int.f slices_Index_int_int.f
  obtain ⟨r, e, hr⟩ := index_loop t x hn x.length k 0 (by omega) hk
  rw [show ((0 : Nat) : Int) = 0 from rfl] at e
  rw [e, List.drop_zero] at *
  simp only [Option.bind_some]
  congr 1
  rw [decide_eq_decide]
  exact hr
/-- The ladder from step i on (d steps): each a key, none twice. -/
def ladder (l : List Int) : Nat → Nat → Bool
  | _, 0 => true
  | i, d + 1 => decide (1 ≤ l.getD i 0 ∧ l.getD i 0 ≤ 8) && (!decide (l.getD i 0 ∈ l.take i) && ladder l (i + 1) d)
def numsOk (a b c : Int) (n : Nat) : Bool := decide (0 ≤ c ∧ c ≤ b ∧ b ≤ a ∧ a ≤ 10 ∧ 1 ≤ n ∧ n ≤ 8)
def rulesOk (a b c : Int) (l : List Int) : Bool := numsOk a b c l.length && ladder l 0 l.length
theorem specLadder (l : List Int) (a b c : Int) (g : Bool) (hn : l.length ≤ 9223372036854775807) (d : Nat) : ∀ (k i : Nat), i + d = l.length → l.length + d < k →
    spec_RulesOk.l0 k l l.length i a b c l g = some (ladder l i d) := by
  induction d with
  | zero =>
    intro k i hd hk
    obtain ⟨k, rfl⟩ : ∃ m, k = m + 1 := ⟨k - 1, by omega⟩
    simp only [spec_RulesOk.l0, ladder]
    rw [if_neg (by omega)]
  | succ d ih =>
    intro k i hd hk
    obtain ⟨k, rfl⟩ : ∃ m, k = m + 1 := ⟨k - 1, by omega⟩
    have hi : i < l.length := by omega
    have hlt : (i : Int) < (l.length : Int) := by omega
    have hle : (i : Int) ≤ (l.length : Int) := by omega
    have h0 : (0 : Int) ≤ (i : Int) := by omega
    have ht : (l.take i).length = i := by simp; omega
    simp only [spec_RulesOk.l0, hlt, hle, h0, if_true, (in_within _ _ _).1, Option.bind_some, Int.toNat_natCast, has_eq (rd l i) (l.take i) (by omega) k (by omega), wrap_succ hi hn, ih k (i + 1) (by omega) (by omega), ladder]
    show _ = some (decide (1 ≤ rd l i ∧ rd l i ≤ 8) && (!decide (rd l i ∈ l.take i) && ladder l (i + 1) d))
    by_cases c1 : 1 ≤ rd l i ∧ rd l i ≤ 8 <;> by_cases c2 : rd l i ∈ l.take i <;> simp [c1, c2]
theorem implLadder (l : List Int) (a b c : Int) (g : Bool) (hn : l.length ≤ 9223372036854775807) (d : Nat) : ∀ (k i : Nat), i + d = l.length → l.length + d < k →
    impl_RulesOk.l0 k l l.length i a b c l g = some (ladder l i d && numsOk a b c l.length) := by
  induction d with
  | zero =>
    intro k i hd hk
    obtain ⟨k, rfl⟩ : ∃ m, k = m + 1 := ⟨k - 1, by omega⟩
    simp only [impl_RulesOk.l0, ladder, (in_within _ _ _).2, Option.bind_some, numsOk]
    rw [if_neg (by omega), Bool.true_and]
    repeat' split
    all_goals first | (congr 1; rw [decide_eq_decide]; omega) | (congr 1; symm; rw [decide_eq_false_iff_not]; omega)
  | succ d ih =>
    intro k i hd hk
    obtain ⟨k, rfl⟩ : ∃ m, k = m + 1 := ⟨k - 1, by omega⟩
    have hi : i < l.length := by omega
    have hlt : (i : Int) < (l.length : Int) := by omega
    have hle : (i : Int) ≤ (l.length : Int) := by omega
    have h0 : (0 : Int) ≤ (i : Int) := by omega
    have ht : (l.take i).length = i := by simp; omega
    simp only [impl_RulesOk.l0, impl_isKey.f, hlt, hle, h0, if_true, (in_within _ _ _).2, Option.bind_some, Int.toNat_natCast, contains_eq (rd l i) (l.take i) (by omega) k (by omega), wrap_succ hi hn, ih k (i + 1) (by omega) (by omega), ladder]
    show _ = some ((decide (1 ≤ rd l i ∧ rd l i ≤ 8) && (!decide (rd l i ∈ l.take i) && ladder l (i + 1) d)) && _)
    by_cases c1 : 1 ≤ rd l i ∧ rd l i ≤ 8 <;> by_cases c2 : rd l i ∈ l.take i <;> simp [c1, c2]
theorem implRules_eq (a b c : Int) (l : List Int) (g : Bool) (hn : l.length ≤ 9223372036854775807) (k : Nat) (hk : 2 * l.length < k) : impl_RulesOk.f k a b c l g = some (rulesOk a b c l) := by
  unfold impl_RulesOk.f rulesOk
  rw [show (0 : Int) = ((0 : Nat) : Int) from rfl, implLadder l a b c g hn l.length k 0 (by omega) (by omega), Bool.and_comm]
theorem specRules_eq (a b c : Int) (l : List Int) (g : Bool) (hn : l.length ≤ 9223372036854775807) (k : Nat) (hk : 2 * l.length + 1 < k) : spec_RulesOk.f k a b c l g = some (rulesOk a b c l) := by
  obtain ⟨k, rfl⟩ : ∃ m, k = m + 1 := ⟨k - 1, by omega⟩
  have e := specLadder l a b c g hn l.length k 0 (by omega) (by omega)
  rw [show ((0 : Nat) : Int) = 0 from rfl] at e
  unfold spec_RulesOk.f rulesOk numsOk
  simp only [(in_within _ _ _).1, Option.bind_some, spec_RulesOk.j0, e]
  repeat' split
  all_goals simp_all
  all_goals omega
def gameOk (n a b c d e : Int) : Bool := decide (2 ≤ n ∧ n ≤ 8 ∧ 0 ≤ a ∧ a ≤ n - 1 ∧ 0 ≤ b ∧ b ≤ n - 1 ∧ a ≠ b ∧ 0 ≤ e ∧ e ≤ 4 ∧ ((e = 1 ∧ 0 ≤ c ∧ c ≤ 99 ∧ 0 ≤ d ∧ d ≤ 99) ∨ (e ≠ 1 ∧ c = 0 ∧ d = 0)))
theorem specGameOk_j (k : Nat) (x : Bool) (a b c d e : Int) : spec_GameOk.j0 (k + 1) x a b c d e = some (!x && decide ((e = 1 ∧ 0 ≤ c ∧ c ≤ 99 ∧ 0 ≤ d ∧ d ≤ 99) ∨ (e ≠ 1 ∧ c = 0 ∧ d = 0))) := by
  simp only [spec_GameOk.j0, (in_within _ _ _).1, Option.bind_some]
  cases x
  · by_cases he : e = 1
    · by_cases hc : 0 ≤ c ∧ c ≤ 99 <;> simp [he, hc]
      omega
    · by_cases hc : c = 0 <;> simp [he, hc]
      rw [Bool.eq_iff_iff]; simp
  · simp
theorem specGameOk_eq (n a b c d e : Int) (k : Nat) (hn : -9223372036854775808 ≤ n) (hk : 0 < k) : spec_GameOk.f k n a b c d e = some (gameOk n a b c d e) := by
  obtain ⟨k, rfl⟩ : ∃ m, k = m + 1 := ⟨k - 1, by omega⟩
  unfold spec_GameOk.f gameOk
  simp only [(in_within _ _ _).1, Option.bind_some, specGameOk_j]
  by_cases h1 : 2 ≤ n ∧ n ≤ 8
  · have hw : wrap64 (n - 1) = n - 1 := wrap_id (by omega) (by omega)
    rw [hw]
    by_cases h2 : 0 ≤ a ∧ a ≤ n - 1 <;> by_cases h3 : 0 ≤ b ∧ b ≤ n - 1 <;> by_cases h4 : a = b <;> by_cases h5 : 0 ≤ e ∧ e ≤ 4 <;> simp [h1, h2, h3, h4, h5]
    all_goals (try omega)
  · simp [h1]
    omega
theorem implGameOk_j (n m a b c d e : Int) (k : Nat) (hn : -9223372036854775808 ≤ n) (hk : 0 < k) : impl_GameOk.j0 k n m a b c d e = some (decide (2 ≤ n ∧ n ≤ 8 ∧ a ≠ b ∧ 0 ≤ a ∧ a ≤ n - 1 ∧ 0 ≤ b ∧ b ≤ n - 1 ∧ 0 ≤ e ∧ e ≤ 4 ∧ 0 ≤ c ∧ c ≤ m ∧ 0 ≤ d ∧ d ≤ m)) := by
  obtain ⟨k, rfl⟩ : ∃ m, k = m + 1 := ⟨k - 1, by omega⟩
  simp only [impl_GameOk.j0, (in_within _ _ _).2, Option.bind_some]
  by_cases h1 : 2 ≤ n ∧ n ≤ 8
  · have hw : wrap64 (n - 1) = n - 1 := wrap_id (by omega) (by omega)
    rw [hw]
    by_cases h4 : a = b
    · simp [h1, h4]
    · by_cases h2 : 0 ≤ a ∧ a ≤ n - 1
      · by_cases h3 : 0 ≤ b ∧ b ≤ n - 1
        · by_cases h5 : 0 ≤ e ∧ e ≤ 4
          · by_cases h6 : 0 ≤ c ∧ c ≤ m <;> simp [h1, h2, h3, h4, h5, h6]
            omega
          · simp [h1, h2, h3, h4, h5]; omega
        · simp [h1, h2, h3, h4]; omega
      · simp [h1, h2, h4]; omega
  · simp [h1]; omega
theorem implGameOk_eq (n a b c d e : Int) (k : Nat) (hn : -9223372036854775808 ≤ n) (hk : 0 < k) : impl_GameOk.f k n a b c d e = some (gameOk n a b c d e) := by
  unfold impl_GameOk.f gameOk
  by_cases he : e = 1
  · rw [if_pos he, implGameOk_j n 99 a b c d e k hn hk]
    congr 1
    rw [decide_eq_decide]
    omega
  · rw [if_neg he, implGameOk_j n 0 a b c d e k hn hk]
    congr 1
    rw [decide_eq_decide]
    omega
theorem specGameOf_loop (a b : Int) (l : List S71) (hn : l.length ≤ 9223372036854775807) (d : Nat) : ∀ (k i : Nat), i + d = l.length → d < k → (∀ j z, j < i → l[j]? = some z → ((z.f0 == a) && (z.f1 == b)) = false) →
    spec_GameOf.l0 k a b l l.length i = some (idxP (fun x => (x.f0 == a) && (x.f1 == b)) l) := by
  induction d with
  | zero =>
    intro k i hd hk hf
    obtain ⟨k, rfl⟩ : ∃ m, k = m + 1 := ⟨k - 1, by omega⟩
    simp only [spec_GameOf.l0]
    rw [if_neg (by omega), idxP_miss _ l (fun j z hj hz => hf j z (by omega) hz)]
  | succ d ih =>
    intro k i hd hk hf
    obtain ⟨k, rfl⟩ : ∃ m, k = m + 1 := ⟨k - 1, by omega⟩
    have hi : i < l.length := by omega
    have hlt : (i : Int) < (l.length : Int) := by omega
    have h0 : (0 : Int) ≤ (i : Int) := by omega
    have hy : l[i]? = some l[i] := List.getElem?_eq_getElem hi
    have hr : rd_T71 l (i : Int) = l[i] := getD_nat _ l i hi
    simp only [spec_GameOf.l0, hlt, h0, if_true, wrap_succ hi hn, hr]
    by_cases c : (l[i].f0 == a && l[i].f1 == b) = true
    · rw [idxP_hit _ l i _ hy c hf]
      simp only [Bool.and_eq_true, beq_iff_eq] at c
      simp [c]
    · have c' : (l[i].f0 == a && l[i].f1 == b) = false := by simpa using c
      have e := ih k (i + 1) (by omega) (by omega) (fun j z hj hz => by
        by_cases ej : j = i
        · subst ej; rw [hy] at hz; cases hz; exact c'
        · exact hf j z (by omega) hz)
      rw [e]
      repeat' split
      all_goals first | rfl | (exfalso; simp_all)
theorem specGameOf_eq (a b : Int) (l : List S71) (hn : l.length ≤ 9223372036854775807) (k : Nat) (hk : l.length < k) : spec_GameOf.f k l a b = some (idxP (fun x => (x.f0 == a) && (x.f1 == b)) l) := by
  unfold spec_GameOf.f
  exact specGameOf_loop a b l hn l.length k 0 (by omega) hk (fun j z hj => absurd hj (Nat.not_lt_zero _))
theorem idxP_neg {α : Type} (p : α → Bool) (l : List α) : idxP p l < 0 ↔ ∀ (j : Nat) (z : α), l[j]? = some z → p z = false := by
  unfold idxP
  cases h : l.findIdx? p with
  | none =>
    rw [List.findIdx?_eq_none_iff] at h
    exact ⟨fun _ j z hz => h z (List.mem_of_getElem? hz), fun _ => by simp⟩
  | some i =>
    rw [List.findIdx?_eq_some_iff_getElem] at h
    obtain ⟨hi, hp, _⟩ := h
    constructor
    · intro hneg; simp at hneg; omega
    · intro hall
      have := hall i _ (List.getElem?_eq_getElem hi)
      rw [hp] at this; cases this
theorem idxP_at {α : Type} (p : α → Bool) (l : List α) (i : Nat) (y : α) (hy : l[i]? = some y) (hp : p y = true) : (idxP p l = i) ↔ idxP p (l.take i) < 0 := by
  have hi : i < l.length := (List.getElem?_eq_some_iff.1 hy).1
  rw [idxP_neg]
  constructor
  · intro h j z hz
    by_cases hj : j < i
    · rw [List.getElem?_take_of_lt hj] at hz
      unfold idxP at h
      cases hf : l.findIdx? p with
      | none => rw [hf] at h; simp at h
      | some m =>
        rw [hf] at h
        have hm : m = i := by have h2 : (m : Int) = (i : Int) := h; omega
        subst hm
        rw [List.findIdx?_eq_some_iff_getElem] at hf
        obtain ⟨_, _, hb⟩ := hf
        have hjl : j < l.length := by omega
        rw [List.getElem?_eq_getElem hjl] at hz
        cases hz
        exact Bool.eq_false_iff.mpr (hb j hj)
    · rw [List.getElem?_take_eq_none (by omega)] at hz; cases hz
  · intro h
    exact idxP_hit p l i y hy hp (fun j z hj hz => h j z (by rw [List.getElem?_take_of_lt hj]; exact hz))
def pairP (a b : Int) (x : S71) : Bool := (x.f0 == a) && (x.f1 == b)
/-- The games from i on (d of them): each valid, none of them played before. -/
def seasonFrom (n : Int) (l : List S71) : Nat → Nat → Bool
  | _, 0 => true
  | i, d + 1 => gameOk n (rd_T71 l i).f0 (rd_T71 l i).f1 (rd_T71 l i).f2 (rd_T71 l i).f3 (rd_T71 l i).f4 && (decide (idxP (pairP (rd_T71 l i).f0 (rd_T71 l i).f1) (l.take i) < 0) && seasonFrom n l (i + 1) d)
def seasonOk (n : Int) (l : List S71) : Bool := decide (l.length ≤ 60) && seasonFrom n l 0 l.length
theorem specSeason_loop (n : Int) (hw : -9223372036854775808 ≤ n) (l : List S71) (hn : l.length ≤ 9223372036854775807) (d : Nat) : ∀ (k i : Nat), i + d = l.length → l.length + d < k →
    spec_SeasonOk.l0 k n l l l.length i = some (seasonFrom n l i d) := by
  induction d with
  | zero =>
    intro k i hd hk
    obtain ⟨k, rfl⟩ : ∃ m, k = m + 1 := ⟨k - 1, by omega⟩
    simp only [spec_SeasonOk.l0, seasonFrom]
    rw [if_neg (by omega)]
  | succ d ih =>
    intro k i hd hk
    obtain ⟨k, rfl⟩ : ∃ m, k = m + 1 := ⟨k - 1, by omega⟩
    have hi : i < l.length := by omega
    have hlt : (i : Int) < (l.length : Int) := by omega
    have h0 : (0 : Int) ≤ (i : Int) := by omega
    have hy : l[i]? = some (rd_T71 l i) := by rw [List.getElem?_eq_getElem hi]; congr 1; exact (getD_nat _ l i hi).symm
    simp only [spec_SeasonOk.l0, hlt, h0, if_true, wrap_succ hi hn, specGameOk_eq n _ _ _ _ _ k hw (by omega), specGameOf_eq _ _ l hn k (by omega), Option.bind_some, ih k (i + 1) (by omega) (by omega), seasonFrom]
    have ha := idxP_at (pairP (rd_T71 l i).f0 (rd_T71 l i).f1) l i _ hy (by simp [pairP])
    generalize gameOk n (rd_T71 l i).f0 (rd_T71 l i).f1 (rd_T71 l i).f2 (rd_T71 l i).f3 (rd_T71 l i).f4 = g
    change (if g = true then (if idxP (pairP _ _) l = (i : Int) then _ else _) else _) = _
    cases g with
    | false => rfl
    | true =>
      rw [if_pos rfl]
      by_cases c : idxP (pairP (rd_T71 l i).f0 (rd_T71 l i).f1) l = (i : Int)
      · rw [if_pos c, decide_eq_true (ha.1 c)]; rfl
      · rw [if_neg c, decide_eq_false (fun h => c (ha.2 h))]; rfl
theorem implSeason_loop (n : Int) (hw : -9223372036854775808 ≤ n) (l : List S71) (hn : l.length ≤ 9223372036854775807) (d : Nat) : ∀ (k i : Nat), i + d = l.length → d + 1 < k →
    impl_SeasonOk.l0 k n l l l.length i = some (seasonFrom n l i d && decide (l.length ≤ 60)) := by
  induction d with
  | zero =>
    intro k i hd hk
    obtain ⟨k, rfl⟩ : ∃ m, k = m + 1 := ⟨k - 1, by omega⟩
    simp only [impl_SeasonOk.l0, seasonFrom]
    rw [if_neg (by omega), Bool.true_and]
    congr 1
    rw [decide_eq_decide]; omega
  | succ d ih =>
    intro k i hd hk
    obtain ⟨k, rfl⟩ : ∃ m, k = m + 1 := ⟨k - 1, by omega⟩
    have hi : i < l.length := by omega
    have hlt : (i : Int) < (l.length : Int) := by omega
    have hle : (i : Int) ≤ (l.length : Int) := by omega
    have h0 : (0 : Int) ≤ (i : Int) := by omega
    simp only [impl_SeasonOk.l0, hlt, hle, h0, if_true, wrap_succ hi hn, implGameOk_eq n _ _ _ _ _ k hw (by omega), impl_GameOf.f, Option.bind_some, ih k (i + 1) (by omega) (by omega), seasonFrom, Int.toNat_natCast]
    generalize gameOk n (rd_T71 l i).f0 (rd_T71 l i).f1 (rd_T71 l i).f2 (rd_T71 l i).f3 (rd_T71 l i).f4 = g
    change (if g = true then (if idxP (pairP _ _) (l.take i) ≥ 0 then _ else _) else _) = _
    cases g with
    | false => rfl
    | true =>
      rw [if_pos rfl]
      by_cases c : idxP (pairP (rd_T71 l i).f0 (rd_T71 l i).f1) (l.take i) < 0
      · rw [if_neg (by omega), decide_eq_true c]; rfl
      · rw [if_pos (by omega), decide_eq_false c]; rfl
theorem specSeason_eq (n : Int) (hw : -9223372036854775808 ≤ n) (l : List S71) (hn : l.length ≤ 9223372036854775807) (k : Nat) (hk : 2 * l.length < k) : spec_SeasonOk.f k n l = some (seasonOk n l) := by
  unfold spec_SeasonOk.f seasonOk
  by_cases h : (l.length : Int) > 60
  · rw [if_pos h, decide_eq_false (by omega)]; rfl
  · rw [if_neg h, decide_eq_true (by omega)]
    exact specSeason_loop n hw l hn l.length k 0 (by omega) (by omega)
theorem implSeason_eq (n : Int) (hw : -9223372036854775808 ≤ n) (l : List S71) (hn : l.length ≤ 9223372036854775807) (k : Nat) (hk : l.length + 1 < k) : impl_SeasonOk.f k n l = some (seasonOk n l) := by
  unfold impl_SeasonOk.f seasonOk
  rw [Bool.and_comm]
  exact implSeason_loop n hw l hn l.length k 0 (by omega) (by omega)
theorem markI_loop (n : Nat) (hn : n ≤ 1000000000) (d : Nat) : ∀ (k i : Nat) (l : List Int) (m : Int), l.length = n → i + d = n → d < k → 0 ≤ m → m + d ≤ 4000000000 →
    ∃ L, laws_markIntS.l0 k l m i = some (m + d, L) := by
  induction d with
  | zero =>
    intro k i l m hl hd hk _ _
    obtain ⟨k, rfl⟩ : ∃ m, k = m + 1 := ⟨k - 1, by omega⟩
    simp only [laws_markIntS.l0]
    rw [if_neg (by omega)]
    exact ⟨l, by simp⟩
  | succ d ih =>
    intro k i l m hl hd hk h0 hm
    obtain ⟨k, rfl⟩ : ∃ m, k = m + 1 := ⟨k - 1, by omega⟩
    obtain ⟨L, hL⟩ := ih k (i + 1) (l.set i m) (m + 1) (by simp [hl]) (by omega) (by omega) (by omega) (by omega)
    simp only [laws_markIntS.l0]
    rw [if_pos (by omega), if_pos (by omega), wrap_succ (show i < n by omega) (by omega), wrap_id (x := m + 1) (by omega) (by omega), Int.toNat_natCast, hL]
    exact ⟨L, by congr 2; omega⟩
theorem markI_eq (l : List Int) (hn : l.length ≤ 1000000000) (k : Nat) (hk : l.length < k) (m : Int) (h0 : 0 ≤ m) (hm : m ≤ 1000000000) : ∃ L, laws_markIntS.f k l m = some (m + l.length, L) := by
  unfold laws_markIntS.f
  exact markI_loop l.length hn l.length k 0 l m rfl (by omega) hk h0 (by omega)
theorem markGameS_loop (n : Nat) (hn : n ≤ 100000000) (d : Nat) : ∀ (k i : Nat) (l : List S71) (m : Int), l.length = n → i + d = n → d < k → 0 ≤ m → m + 5 * d ≤ 4000000000 →
    ∃ L, laws_markGameS.l0 k l m i = some (m + 5 * d, L) := by
  induction d with
  | zero =>
    intro k i l m hl hd hk _ _
    obtain ⟨k, rfl⟩ : ∃ m, k = m + 1 := ⟨k - 1, by omega⟩
    simp only [laws_markGameS.l0]
    rw [if_neg (by omega)]
    exact ⟨l, by simp⟩
  | succ d ih =>
    intro k i l m hl hd hk h0 hm
    obtain ⟨k, rfl⟩ : ∃ m, k = m + 1 := ⟨k - 1, by omega⟩
    have w1 : wrap64 (m + 1) = m + 1 := wrap_id (by omega) (by omega)
    have w2 : wrap64 (m + 1 + 1) = m + 1 + 1 := wrap_id (by omega) (by omega)
    have w3 : wrap64 (m + 1 + 1 + 1) = m + 1 + 1 + 1 := wrap_id (by omega) (by omega)
    have w4 : wrap64 (m + 1 + 1 + 1 + 1) = m + 1 + 1 + 1 + 1 := wrap_id (by omega) (by omega)
    have w5 : wrap64 (m + 1 + 1 + 1 + 1 + 1) = m + 1 + 1 + 1 + 1 + 1 := wrap_id (by omega) (by omega)
    have hlt : (i : Int) < (l.length : Int) := by omega
    have hi0 : (0 : Int) ≤ (i : Int) := by omega
    simp only [laws_markGameS.l0, Option.bind_some, hlt, hi0, if_true, w1, w2, w3, w4, w5, wrap_succ (show i < n by omega) (by omega), Int.toNat_natCast]
    have key : ∀ B : List S71, B.length = n → ∃ L, laws_markGameS.l0 k B (m + 1 + 1 + 1 + 1 + 1) ((i + 1 : Nat) : Int) = some (m + 5 * ((d + 1 : Nat) : Int), L) := fun B hB => by
      obtain ⟨L, hL⟩ := ih k (i + 1) B (m + 1 + 1 + 1 + 1 + 1) hB (by omega) (by omega) (by omega) (by omega)
      exact ⟨L, by rw [hL]; congr 2; omega⟩
    exact key _ (by simp [hl])
theorem markGameS_eq (l : List S71) (hn : l.length ≤ 100000000) (k : Nat) (hk : l.length < k) : ∃ L, laws_markGameS.f k l 1 = some (1 + 5 * (l.length : Int), L) := by
  unfold laws_markGameS.f
  exact markGameS_loop l.length hn l.length k 0 l 1 rfl (by omega) hk (by omega) (by omega)
def laws_markRowS_rec (m : Int) : S74 := ⟨m, m + 1, m + 2, m + 3, m + 4, m + 5, m + 6⟩
theorem laws_markRowS_loop (n : Nat) (hn : n ≤ 100000000) (d : Nat) : ∀ (k i : Nat) (l : List S74) (m : Int), l.length = n → i + d = n → d < k → 0 ≤ m → m + 7 * d ≤ 4000000000 →
    ∃ L, laws_markRowS.l0 k l m i = some (m + 7 * d, L) ∧ L.length = n ∧ (∀ j, j < i → L[j]? = l[j]?) ∧ ∀ j : Nat, j < d → L[i + j]? = some (laws_markRowS_rec (m + 7 * j)) := by
  induction d with
  | zero =>
    intro k i l m hl hd hk _ _
    obtain ⟨k, rfl⟩ : ∃ m, k = m + 1 := ⟨k - 1, by omega⟩
    simp only [laws_markRowS.l0]
    rw [if_neg (by omega)]
    exact ⟨l, by simp, hl, fun _ _ => rfl, fun j hj => absurd hj (Nat.not_lt_zero _)⟩
  | succ d ih =>
    intro k i l m hl hd hk h0 hm
    obtain ⟨k, rfl⟩ : ∃ m, k = m + 1 := ⟨k - 1, by omega⟩
    have w1 : wrap64 (m + 1) = m + 1 := wrap_id (by omega) (by omega)
    have w2 : wrap64 (m + 1 + 1) = m + 1 + 1 := wrap_id (by omega) (by omega)
    have w3 : wrap64 (m + 1 + 1 + 1) = m + 1 + 1 + 1 := wrap_id (by omega) (by omega)
    have w4 : wrap64 (m + 1 + 1 + 1 + 1) = m + 1 + 1 + 1 + 1 := wrap_id (by omega) (by omega)
    have w5 : wrap64 (m + 1 + 1 + 1 + 1 + 1) = m + 1 + 1 + 1 + 1 + 1 := wrap_id (by omega) (by omega)
    have w6 : wrap64 (m + 1 + 1 + 1 + 1 + 1 + 1) = m + 1 + 1 + 1 + 1 + 1 + 1 := wrap_id (by omega) (by omega)
    have w7 : wrap64 (m + 1 + 1 + 1 + 1 + 1 + 1 + 1) = m + 1 + 1 + 1 + 1 + 1 + 1 + 1 := wrap_id (by omega) (by omega)
    have hlt : (i : Int) < (l.length : Int) := by omega
    have hi0 : (0 : Int) ≤ (i : Int) := by omega
    have hr : ∀ r, rd_T74 (l.set i r) (i : Int) = r := fun r => by rw [show rd_T74 (l.set i r) (i : Int) = (l.set i r)[i]'(by rw [List.length_set]; omega) from getD_nat _ _ i (by rw [List.length_set]; omega)]; simp
    simp only [laws_markRowS.l0, Option.bind_some, hlt, hi0, if_true, w1, w2, w3, w4, w5, w6, w7, wrap_succ (show i < n by omega) (by omega), Int.toNat_natCast, hr, List.set_set]
    obtain ⟨L, hL, h1, h2, h3⟩ := ih k (i + 1) (l.set i (laws_markRowS_rec m)) (m + 1 + 1 + 1 + 1 + 1 + 1 + 1) (by simp [hl]) (by omega) (by omega) (by omega) (by omega)
    refine ⟨L, by rw [show m + 7 * ((d + 1 : Nat) : Int) = m + 1 + 1 + 1 + 1 + 1 + 1 + 1 + 7 * d by omega, ← hL]; simp only [laws_markRowS_rec, show m + 2 = m + 1 + 1 by omega, show m + 3 = m + 1 + 1 + 1 by omega, show m + 4 = m + 1 + 1 + 1 + 1 by omega, show m + 5 = m + 1 + 1 + 1 + 1 + 1 by omega, show m + 6 = m + 1 + 1 + 1 + 1 + 1 + 1 by omega], h1, fun j hj => ?_, fun j hj => ?_⟩
    · rw [h2 j (by omega), List.getElem?_set_ne (by omega)]
    · cases j with
      | zero =>
        rw [Nat.add_zero, h2 i (by omega), List.getElem?_set_self (by omega)]
        simp
      | succ j =>
        rw [show i + (j + 1) = i + 1 + j by omega, h3 j (by omega), show m + 7 * ((j + 1 : Nat) : Int) = m + 1 + 1 + 1 + 1 + 1 + 1 + 1 + 7 * j by omega]
theorem laws_markRowS_eq (l : List S74) (hn : l.length ≤ 100000000) (k : Nat) (hk : l.length < k) : ∃ L, laws_markRowS.f k l 1 = some (1 + 7 * (l.length : Int), L) ∧ L.length = l.length ∧ ∀ j : Nat, j < l.length → L[j]? = some (laws_markRowS_rec (1 + 7 * j)) := by
  obtain ⟨L, h1, h2, _, h3⟩ := laws_markRowS_loop l.length hn l.length k 0 l 1 rfl (by omega) hk (by omega) (by omega)
  exact ⟨L, h1, h2, fun j hj => by have := h3 j hj; rwa [Nat.zero_add] at this⟩
theorem laws_heldRowS_loop (L : List S74) (n : Nat) (hL : L.length = n) (hn : n ≤ 100000000) (d : Nat) : ∀ (k i : Nat) (m : Int), i + d = n → d < k → 0 ≤ m → m + 7 * d ≤ 4000000000 → (∀ j : Nat, j < d → L[i + j]? = some (laws_markRowS_rec (m + 7 * j))) →
    laws_heldRowS.l0 k L m i = some (m + 7 * d) := by
  induction d with
  | zero =>
    intro k i m hd hk _ _ _
    obtain ⟨k, rfl⟩ : ∃ m, k = m + 1 := ⟨k - 1, by omega⟩
    simp only [laws_heldRowS.l0]
    rw [if_neg (by omega)]
    simp
  | succ d ih =>
    intro k i m hd hk h0 hm hdr
    obtain ⟨k, rfl⟩ : ∃ m, k = m + 1 := ⟨k - 1, by omega⟩
    have w1 : wrap64 (m + 1) = m + 1 := wrap_id (by omega) (by omega)
    have w2 : wrap64 (m + 1 + 1) = m + 1 + 1 := wrap_id (by omega) (by omega)
    have w3 : wrap64 (m + 1 + 1 + 1) = m + 1 + 1 + 1 := wrap_id (by omega) (by omega)
    have w4 : wrap64 (m + 1 + 1 + 1 + 1) = m + 1 + 1 + 1 + 1 := wrap_id (by omega) (by omega)
    have w5 : wrap64 (m + 1 + 1 + 1 + 1 + 1) = m + 1 + 1 + 1 + 1 + 1 := wrap_id (by omega) (by omega)
    have w6 : wrap64 (m + 1 + 1 + 1 + 1 + 1 + 1) = m + 1 + 1 + 1 + 1 + 1 + 1 := wrap_id (by omega) (by omega)
    have w7 : wrap64 (m + 1 + 1 + 1 + 1 + 1 + 1 + 1) = m + 1 + 1 + 1 + 1 + 1 + 1 + 1 := wrap_id (by omega) (by omega)
    have hi : i < L.length := by omega
    have hlt : (i : Int) < (L.length : Int) := by omega
    have hi0 : (0 : Int) ≤ (i : Int) := by omega
    have hr : rd_T74 L (i : Int) = laws_markRowS_rec m := by
      rw [show rd_T74 L (i : Int) = L[i] from getD_nat _ L i hi]
      have := hdr 0 (by omega)
      rw [Nat.add_zero, List.getElem?_eq_getElem hi] at this
      simpa using this
    simp only [laws_heldRowS.l0, hlt, hi0, if_true, hr, laws_markRowS_rec, w1, w2, w3, w4, w5, w6, w7, wrap_succ (show i < n by omega) (by omega), show m + 2 = m + 1 + 1 by omega, show m + 3 = m + 1 + 1 + 1 by omega, show m + 4 = m + 1 + 1 + 1 + 1 by omega, show m + 5 = m + 1 + 1 + 1 + 1 + 1 by omega, show m + 6 = m + 1 + 1 + 1 + 1 + 1 + 1 by omega]
    rw [ih k (i + 1) (m + 1 + 1 + 1 + 1 + 1 + 1 + 1) (by omega) (by omega) (by omega) (by omega) (fun j hj => by
      have := hdr (j + 1) (by omega)
      rw [show i + (j + 1) = i + 1 + j by omega, show m + 7 * ((j + 1 : Nat) : Int) = m + 1 + 1 + 1 + 1 + 1 + 1 + 1 + 7 * j by omega] at this
      exact this)]
    congr 1
    omega
theorem laws_heldRowS_eq (L : List S74) (n : Nat) (hL : L.length = n) (hn : n ≤ 100000000) (h : ∀ j : Nat, j < n → L[j]? = some (laws_markRowS_rec (1 + 7 * j))) (k : Nat) (hk : n < k) : laws_heldRowS.f k L 1 = some (1 + 7 * (n : Int)) := by
  unfold laws_heldRowS.f
  exact laws_heldRowS_loop L n hL hn n k 0 1 (by omega) hk (by omega) (by omega) (fun j hj => by rw [Nat.zero_add]; exact h j hj)
/-! Tables: what the reference's counting and the program's make of valid games. -/
def RowW (x : S74) : Prop := (-9223372036854775808 ≤ x.f0 ∧ x.f0 ≤ 9223372036854775807) ∧ (-9223372036854775808 ≤ x.f1 ∧ x.f1 ≤ 9223372036854775807) ∧ (-9223372036854775808 ≤ x.f2 ∧ x.f2 ≤ 9223372036854775807) ∧ (-9223372036854775808 ≤ x.f3 ∧ x.f3 ≤ 9223372036854775807) ∧ (-9223372036854775808 ≤ x.f4 ∧ x.f4 ≤ 9223372036854775807) ∧ (-9223372036854775808 ≤ x.f5 ∧ x.f5 ≤ 9223372036854775807) ∧ (-9223372036854775808 ≤ x.f6 ∧ x.f6 ≤ 9223372036854775807)
theorem wrap_bd (x : Int) : -9223372036854775808 ≤ wrap64 x ∧ wrap64 x ≤ 9223372036854775807 := by unfold wrap64; omega
theorem sum_w (X x : S74) : RowW (spSum X x) := ⟨wrap_bd _, wrap_bd _, wrap_bd _, wrap_bd _, wrap_bd _, wrap_bd _, wrap_bd _⟩
theorem wrap_zero {x : Int} (h : -9223372036854775808 ≤ x ∧ x ≤ 9223372036854775807) : wrap64 (x + 0) = x := by rw [Int.add_zero]; exact wrap_id h.1 h.2
theorem play_eq (u0 u1 u2 r1 r2 : Int) (X Y : S74) (hX : RowW X) (hY : RowW Y) : tbPlay u0 u1 u2 r1 r2 X Y = (spSum X (spRow u0 u1 u2 r1 r2), spSum Y (spRow u0 u1 u2 r2 r1)) := by
  obtain ⟨a0, a1, a2, a3, a4, a5, a6⟩ := hX
  obtain ⟨b0, b1, b2, b3, b4, b5, b6⟩ := hY
  have z1 := wrap_zero a1; have z2 := wrap_zero a2; have z3 := wrap_zero a3
  have y1 := wrap_zero b1; have y2 := wrap_zero b2; have y3 := wrap_zero b3
  unfold tbPlay spRow
  rcases Int.lt_trichotomy r1 r2 with c | c | c
  · rw [if_neg (show ¬ r1 > r2 by omega), if_pos c, if_neg (show ¬ r1 > r2 by omega), if_neg (show ¬ r1 = r2 by omega), if_pos (show r2 > r1 by omega)]
    simp only [tbIn, tbAdd, tbSet, tbGet, spSum, z1, z2, z3, y1, y2, y3]
  · rw [if_neg (show ¬ r1 > r2 by omega), if_neg (show ¬ r1 < r2 by omega), if_neg (show ¬ r1 > r2 by omega), if_pos c, if_neg (show ¬ r2 > r1 by omega), if_pos c.symm]
    simp only [tbIn, tbAdd, tbSet, tbGet, spSum, z1, z2, z3, y1, y2, y3]
  · rw [if_pos (show r1 > r2 by omega), if_pos (show r1 > r2 by omega), if_neg (show ¬ r2 > r1 by omega), if_neg (show ¬ r2 = r1 by omega)]
    simp only [tbIn, tbAdd, tbSet, tbGet, spSum, z1, z2, z3, y1, y2, y3]
theorem goals_same (g : S71) : tbGoals g = spG g.f2 g.f3 g.f4 := rfl
/-- One game, as the reference counts it. -/
theorem step_eq (u0 u1 u2 : Int) (p : S71 → Bool) (ll : List Int) (b : Bool) (n : Nat) (rows : List S74) (g : S71) (hl : rows.length = n) (hw : ∀ x ∈ rows, RowW x) (hg : tbOk (n : Int) g = true) (hp : p g = true) :
    spec_l06Add.f u0 u1 u2 ll b rows g.f0 g.f1 g.f2 g.f3 g.f4 = some (tbStep u0 u1 u2 p rows g) ∧ (tbStep u0 u1 u2 p rows g).length = n ∧ ∀ x ∈ tbStep u0 u1 u2 p rows g, RowW x := by
  obtain ⟨q0, q1, q2, q3, q4⟩ := tbOk_iff hg
  have i0 : g.f0.toNat < rows.length := by omega
  have i1 : g.f1.toNat < rows.length := by omega
  have ine : g.f0.toNat ≠ g.f1.toNat := by omega
  unfold spec_l06Add.f tbStep
  rw [← goals_same, hp, Bool.and_true]
  cases hc : (tbGoals g).2.2 with
  | false => exact ⟨rfl, hl, hw⟩
  | true =>
    rw [if_pos rfl, if_pos rfl, if_pos (by simp only [Bool.and_eq_true, decide_eq_true_eq]; omega)]
    have hX : rows.getD g.f0.toNat z74 = rows[g.f0.toNat] := by simp [List.getD_eq_getElem?_getD, i0]
    have hY : rows.getD g.f1.toNat z74 = rows[g.f1.toNat] := by simp [List.getD_eq_getElem?_getD, i1]
    have wX : RowW (rows.getD g.f0.toNat z74) := by rw [hX]; exact hw _ (List.getElem_mem i0)
    have wY : RowW (rows.getD g.f1.toNat z74) := by rw [hY]; exact hw _ (List.getElem_mem i1)
    rw [play_eq u0 u1 u2 _ _ _ _ wX wY]
    refine ⟨?_, by rw [List.length_set, List.length_set]; exact hl, ?_⟩
    · congr 1
      unfold spAdd
      have e1 : rd_T74 rows g.f0 = rows.getD g.f0.toNat z74 := rfl
      have e2 : ∀ x, rd_T74 (rows.set g.f0.toNat x) g.f1 = rows.getD g.f1.toNat z74 := fun x => by
        unfold rd_T74
        rw [List.getD_eq_getElem?_getD, List.getD_eq_getElem?_getD, List.getElem?_set_ne ine]
      rw [e2, e1]
    · intro x hx
      rcases List.mem_or_eq_of_mem_set hx with hx | rfl
      · rcases List.mem_or_eq_of_mem_set hx with hx | rfl
        · exact hw x hx
        · exact sum_w _ _
      · exact sum_w _ _
theorem step_skip (u0 u1 u2 : Int) (p : S71 → Bool) (rows : List S74) (g : S71) (hp : p g = false) : tbStep u0 u1 u2 p rows g = rows := by
  unfold tbStep; rw [hp, Bool.and_false]; rfl
theorem zero_w (n : Nat) : ∀ x ∈ List.replicate n z74, RowW x := by
  intro x hx
  rw [List.eq_of_mem_replicate hx]
  unfold RowW z74
  dsimp only
  omega
theorem season_games (n : Int) (l : List S71) (d : Nat) : ∀ i, i + d = l.length → seasonFrom n l i d = true → ∀ g ∈ l.drop i, tbOk n g = true := by
  induction d with
  | zero => intro i hi _ g hg; rw [List.drop_of_length_le (by omega)] at hg; cases hg
  | succ d ih =>
    intro i hi h g hg
    have hlt : i < l.length := by omega
    rw [seasonFrom, Bool.and_eq_true, Bool.and_eq_true] at h
    rw [List.drop_eq_getElem_cons hlt, List.mem_cons] at hg
    rcases hg with rfl | hg
    · have h1 := h.1
      rw [show rd_T71 l (i : Int) = l[i] from getD_nat _ l i hlt] at h1
      unfold gameOk at h1
      rw [decide_eq_true_eq] at h1
      unfold tbOk
      simp only [Bool.and_eq_true, decide_eq_true_eq]
      omega
    · exact ih (i + 1) (by omega) h.2.2 g hg
theorem season_ok_games (n : Int) (l : List S71) (h : seasonOk n l = true) : ∀ g ∈ l, tbOk n g = true := by
  unfold seasonOk at h
  rw [Bool.and_eq_true] at h
  have := season_games n l l.length 0 (by omega) h.2
  rwa [List.drop_zero] at this
/-- What the reference counts: all, or those among a group. -/
def amongP (group : List Int) (all : Bool) (g : S71) : Bool := all || (decide (g.f0 ∈ group) && decide (g.f1 ∈ group))
theorem among_loop (u0 u1 u2 : Int) (ll : List Int) (b : Bool) (group : List Int) (all : Bool) (hgr : group.length ≤ 9223372036854775807) (n : Nat) (l : List S71) (hn : l.length ≤ 9223372036854775807) (hok : ∀ g ∈ l, tbOk (n : Int) g = true) (d : Nat) : ∀ (k i : Nat) (rows : List S74), i + d = l.length → d + group.length < k → rows.length = n → (∀ x ∈ rows, RowW x) →
    spec_l06Among.l0 k group all rows l l.length i u0 u1 u2 ll b = some ((l.drop i).foldl (tbStep u0 u1 u2 (amongP group all)) rows) := by
  induction d with
  | zero =>
    intro k i rows hi hk _ _
    obtain ⟨k, rfl⟩ : ∃ m, k = m + 1 := ⟨k - 1, by omega⟩
    simp only [spec_l06Among.l0]
    rw [if_neg (by omega), List.drop_of_length_le (by omega)]; rfl
  | succ d ih =>
    intro k i rows hi hk hl hw
    obtain ⟨k, rfl⟩ : ∃ m, k = m + 1 := ⟨k - 1, by omega⟩
    have hlt : i < l.length := by omega
    have h1 : (i : Int) < (l.length : Int) := by omega
    have h0 : (0 : Int) ≤ (i : Int) := by omega
    have hy : rd_T71 l (i : Int) = l[i] := getD_nat _ l i hlt
    have hg := hok l[i] (List.getElem_mem hlt)
    rw [List.drop_eq_getElem_cons hlt, List.foldl_cons]
    simp only [spec_l06Among.l0, h1, h0, if_true, hy, wrap_succ hlt hn, has_eq _ group hgr k (by omega), Option.bind_some]
    rcases Bool.eq_false_or_eq_true (amongP group all l[i]) with hp | hp
    · obtain ⟨e, hl', hw'⟩ := step_eq u0 u1 u2 (amongP group all) ll b n rows l[i] hl hw hg hp
      have e2 := ih k (i + 1) _ (by omega) (by omega) hl' hw'
      simp only [e, Option.bind_some, e2]
      unfold amongP at hp
      cases all with
      | true => rfl
      | false =>
        simp only [Bool.false_or, Bool.and_eq_true, decide_eq_true_eq] at hp
        simp [hp.1, hp.2]
    · rw [step_skip _ _ _ _ _ _ hp]
      have e2 := ih k (i + 1) rows (by omega) (by omega) hl hw
      simp only [e2]
      unfold amongP at hp
      cases all with
      | true => simp at hp
      | false =>
        by_cases c1 : l[i].f0 ∈ group <;> by_cases c2 : l[i].f1 ∈ group <;> simp_all
theorem specAmong_eq (u0 u1 u2 : Int) (ll : List Int) (b : Bool) (n : Int) (h0 : 0 ≤ n) (h1 : n ≤ 100000) (l : List S71) (hn : l.length ≤ 9223372036854775807) (hok : ∀ g ∈ l, tbOk n g = true) (group : List Int) (hgr : group.length ≤ 9223372036854775807) (all : Bool) (k : Nat) (hk : l.length + group.length < k) :
    spec_l06Among.f k u0 u1 u2 ll b n l group all = some (tbTable u0 u1 u2 (amongP group all) n l) := by
  obtain ⟨N, rfl⟩ := Int.eq_ofNat_of_zero_le h0
  unfold spec_l06Among.f tbTable
  rw [if_pos h0, if_pos (by rw [Int.toNat_natCast]; omega), Int.toNat_natCast]
  have := among_loop u0 u1 u2 ll b group all hgr N l hn hok l.length k 0 (List.replicate N z74) (by omega) (by omega) (List.length_replicate ..) (zero_w N)
  rwa [List.drop_zero] at this
/-- The table among a group, if the season and the rules are valid. -/
noncomputable def tableGrp (a b c : Int) (ll : List Int) (n : Int) (l : List S71) (q : List Int) : List S74 := if (rulesOk a b c ll && (decide (2 ≤ n ∧ n ≤ 8) && seasonOk n l)) = true then tbTable a b c (amongIn q) n l else []
theorem tableGrp_len (a b c : Int) (ll : List Int) (n : Int) (l : List S71) (q : List Int) : (tableGrp a b c ll n l q).length ≤ 8 := by
  unfold tableGrp
  split
  · rename_i h
    rw [Bool.and_eq_true, Bool.and_eq_true, decide_eq_true_eq] at h
    rw [tbTable_len]
    omega
  · simp
theorem among_same (q : List Int) : amongP q false = amongIn q := by funext g; unfold amongP amongIn; rw [Bool.false_or]
theorem specGrp_eq (a b c : Int) (ll : List Int) (g : Bool) (n : Int) (hb : -9223372036854775808 ≤ n) (l : List S71) (q : List Int) (h1 : ll.length ≤ 1048576) (h2 : l.length ≤ 1048576) (h3 : q.length ≤ 1048576) (k : Nat) (hk : 3900000 < k) : spec_TableAmong.f k a b c ll g n l q = some (tableGrp a b c ll n l q) := by
  unfold spec_TableAmong.f tableGrp
  rw [specRules_eq a b c ll g (by omega) k (by omega), (in_within _ _ _).1, specSeason_eq n hb l (by omega) k (by omega)]
  simp only [Option.bind_some]
  cases hr : rulesOk a b c ll with
  | false => rfl
  | true =>
    by_cases hn : 2 ≤ n ∧ n ≤ 8
    · rw [decide_eq_true hn]
      cases hs : seasonOk n l with
      | false => rfl
      | true =>
        rw [specAmong_eq a b c ll g n (by omega) (by omega) l (by omega) (season_ok_games n l hs) q (by omega) false k (by omega), among_same]
        simp only [Option.bind_some, if_true, Bool.and_self]
    · rw [decide_eq_false hn]; rfl
theorem implGrp_eq (a b c : Int) (ll : List Int) (g : Bool) (n : Int) (hb : -9223372036854775808 ≤ n) (l : List S71) (q : List Int) (h1 : ll.length ≤ 1048576) (h2 : l.length ≤ 1048576) (k : Nat) (hk : 2900000 < k) : impl_TableAmong.f k a b c ll g n l q = some (tableGrp a b c ll n l q) := by
  unfold impl_TableAmong.f impl_areTables.f tableGrp impl_TableAmong.g
  rw [implRules_eq a b c ll g (by omega) k (by omega), (in_within _ _ _).2, implSeason_eq n hb l (by omega) k (by omega)]
  simp only [Option.bind_some]
  cases hr : rulesOk a b c ll with
  | false => rfl
  | true =>
    by_cases hn : 2 ≤ n ∧ n ≤ 8
    · rw [decide_eq_true hn]
      cases hs : seasonOk n l with
      | false => rfl
      | true =>
        have hg := season_ok_games n l hs
        simp only [if_true, Option.bind_some, Bool.and_self]
        rw [if_pos (by simp only [Bool.and_eq_true, decide_eq_true_eq, List.all_eq_true]; exact ⟨by omega, hg⟩)]
    · rw [decide_eq_false hn]
      cases seasonOk n l <;> rfl
theorem FnExactTableAmong : FnExactTableAmong_pure := by
  intro a b c ll g n l q0 _ _ _ hll _ hw hl _ hq _
  have hb := (wf_bd hw).1
  unfold maxLen at hll hl hq
  refine ⟨4000000, ?_⟩
  unfold laws_FnExactTableAmong.f laws_szRules.f laws_szIntS.f laws_szGameS.f
  by_cases hb0 : (q0.length : Int) > 1048576
  · rw [if_pos hb0]
  rw [if_neg hb0]
  by_cases hb1 : 1048576 < ll.length
  · rw [if_pos (sz_big (by omega) hb1)]; rfl
  · obtain ⟨h1, h2⟩ := sz_small (show ll.length ≤ 1048576 by omega)
    rw [if_neg h1, h2, Option.bind_some, if_neg (by omega), Option.bind_some, if_neg (by omega)]
    by_cases hb2 : 1048576 - (ll.length : Int) - (l.length : Int) < 0
    · have hw2 : wrap64 (1048576 - (ll.length : Int) - (l.length : Int)) < 0 := by rw [wrap_id (by omega) (by omega)]; exact hb2
      rw [if_pos hw2]; rfl
    · have hw2 : wrap64 (1048576 - (ll.length : Int) - (l.length : Int)) = 1048576 - (ll.length : Int) - (l.length : Int) := wrap_id (by omega) (by omega)
      rw [hw2, if_neg hb2, Option.bind_some, if_neg hb2]
      have e := laws_toGameS_eq l (by omega) 4000000 (by omega)
      have e' := laws_toGameS_eq l (by omega) 3999999 (by omega)
      generalize hm : l.map laws_toGameS_c = m at e e'
      have hml : m.length = l.length := by rw [← hm]; simp
      have er : laws_toRules.f 4000000 a b c ll g = some (a, b, c, ll, g) := by unfold laws_toRules.f; rw [toIntS_eq ll (by omega) _ (by omega)]; rfl
      have er' : laws_toRules.f 3999999 a b c ll g = some (a, b, c, ll, g) := by unfold laws_toRules.f; rw [toIntS_eq ll (by omega) _ (by omega)]; rfl
      have ei := toIntS_eq q0 (by omega) 4000000 (by omega)
      have ei' := toIntS_eq q0 (by omega) 3999999 (by omega)
      have e1 := specGrp_eq a b c ll g n hb m q0 (by omega) (by omega) (by omega) 4000000 (by omega)
      have e2 := implGrp_eq a b c ll g n hb m q0 (by omega) (by omega) 4000000 (by omega)
      have e2' := implGrp_eq a b c ll g n hb m q0 (by omega) (by omega) 3999999 (by omega)
      have hT := tableGrp_len a b c ll n m q0
      generalize tableGrp a b c ll n m q0 = q at e1 e2 e2' hT
      have q1 := laws_eqRowS_eq q (by omega) 4000000 (by omega)
      have q1' := laws_eqRowS_eq q (by omega) 3999999 (by omega)
      have q2 : laws_eqRules.f 4000000 a b c ll g a b c ll g = some true := by unfold laws_eqRules.f; rw [eqIntS_eq ll (by omega) _ (by omega)]; simp
      have q3 := laws_eqGameS_eq m (by omega) 4000000 (by omega)
      have q4 := eqIntS_eq q0 (by omega) 4000000 (by omega)
      obtain ⟨L1, m1⟩ := markI_eq ll (by omega) 4000000 (by omega) 1 (by omega) (by omega)
      have m1' : laws_markRules.f 4000000 a b c ll g 1 = some (1 + (ll.length : Int), L1) := by unfold laws_markRules.f; rw [m1]; rfl
      obtain ⟨L2, m2⟩ := markGameS_loop m.length (by omega) m.length 4000000 0 m (1 + (ll.length : Int)) rfl (by omega) (by omega) (by omega) (by omega)
      have m2' : laws_markGameS.f 4000000 m (1 + (ll.length : Int)) = some (1 + (ll.length : Int) + 5 * (m.length : Int), L2) := by unfold laws_markGameS.f; exact m2
      obtain ⟨L4, m4⟩ := markI_eq q0 (by omega) 4000000 (by omega) (1 + (ll.length : Int) + 5 * (m.length : Int)) (by omega) (by omega)
      obtain ⟨L3, mk, hL3, hm3⟩ := laws_markRowS_eq q (by omega) 3999999 (by omega)
      have hd := laws_heldRowS_eq L3 q.length hL3 (by omega) hm3 3999999 (by omega)
      have n1 : ¬ (1 + (ll.length : Int) + 5 * (m.length : Int) + (q0.length : Int) < 0) := by omega
      have n2 : ¬ (1 + 7 * (q.length : Int) < 0) := by omega
      simp only [Option.bind_some, if_false, e, e', er, er', ei, ei', q4, m4, e1, e2, e2', q1, q1', q2, q3, m1', m2', if_true, laws_FnExactTableAmong.j0, mk, hd, n1, n2, Bool.not_true, Bool.false_eq_true]

end Go.Proofs.Ytikfdjgigeggjaa.Pure
