/- Whatever the two rule books: SameRules of the program and of the reference answer alike, and both stay as they were; no condition beyond the form's own reach. -/
import Derived.Test.YtkaaajbnkbnefaaSayFnExactSameRules
import Derived.Test.YtkaaajbnkbnefaaPureKit
namespace Go.Proofs.Ytkaaajbnkbnefaa.Pure
open Go.RowKit Go.Proofs.Ytkaaajbnkbnefaa.MFnExactSameRules Go.Proofs.Ytkaaajbnkbnefaa.PureKit Go.Proofs.YtkaaajbnkbnefaaW.PrintWords Go.Proofs.YtkaaajbnkbnefaaW.PrintLast
set_option linter.unusedSimpArgs false
set_option linter.unusedVariables false
theorem sz_big {n : Nat} (h : n ≤ 9223372036854775807) (hb : 1048576 < n) : wrap64 (1048576 - (n : Int)) < 0 := by rw [wrap_id (by omega) (by omega)]; omega
theorem sz_small {n : Nat} (hb : n ≤ 1048576) : ¬ wrap64 (1048576 - (n : Int)) < 0 ∧ wrap64 (1048576 - (n : Int)) = 1048576 - (n : Int) := by
  have h := wrap_id (x := 1048576 - (n : Int)) (by omega) (by omega)
  rw [h]; exact ⟨by omega, rfl⟩
theorem toIntS_loop (x0 : List Int) (hn : x0.length ≤ 9223372036854775807) (d : Nat) : ∀ (k i : Nat) (acc : List Int), acc.length = x0.length → acc.take i = x0.take i → i + d = x0.length → d < k →
    laws_toIntS.l0 k x0 acc i = some x0 := by
  induction d with
  | zero =>
    intro k i acc hl ht hd hk
    obtain ⟨k, rfl⟩ : ∃ m, k = m + 1 := ⟨k - 1, by omega⟩
    simp only [laws_toIntS.l0]
    rw [if_neg (by omega)]
    rw [List.take_of_length_le (by omega), List.take_of_length_le (by omega)] at ht
    rw [ht]
  | succ d ih =>
    intro k i acc hl ht hd hk
    obtain ⟨k, rfl⟩ : ∃ m, k = m + 1 := ⟨k - 1, by omega⟩
    have hi : i < x0.length := by omega
    simp only [laws_toIntS.l0]
    rw [if_pos (by omega), if_pos (by omega), if_pos (by omega), wrap_succ hi hn, rd_nat x0 i hi, Int.toNat_natCast]
    refine ih k (i + 1) _ (by simp [hl]) ?_ (by omega) (by omega)
    have := set_copy (fun x => x) x0 acc i hi hl (by simpa using ht)
    simpa using this
theorem toIntS_eq (x0 : List Int) (hn : x0.length ≤ 35184372088832) (k : Nat) (hk : x0.length < k) : laws_toIntS.f k x0 = some x0 := by
  unfold laws_toIntS.f
  rw [if_pos (by omega), if_pos (by omega)]
  exact toIntS_loop x0 (by omega) x0.length k 0 _ (by simp) (by simp) (by omega) hk
theorem eqIntS_loop (x : List Int) (hn : x.length ≤ 9223372036854775807) (d : Nat) : ∀ (k i : Nat), i + d = x.length → d < k → laws_eqIntS.l0 k x x i = some true := by
  induction d with
  | zero =>
    intro k i hd hk
    obtain ⟨k, rfl⟩ : ∃ m, k = m + 1 := ⟨k - 1, by omega⟩
    simp only [laws_eqIntS.l0]
    rw [if_neg (by omega)]
  | succ d ih =>
    intro k i hd hk
    obtain ⟨k, rfl⟩ : ∃ m, k = m + 1 := ⟨k - 1, by omega⟩
    simp only [laws_eqIntS.l0]
    rw [if_pos (by omega), if_pos (by omega), if_pos (by omega), if_pos trivial, wrap_succ (show i < x.length by omega) hn]
    exact ih k (i + 1) (by omega) (by omega)
theorem eqIntS_eq (x : List Int) (hn : x.length ≤ 9223372036854775807) (k : Nat) (hk : x.length < k) : laws_eqIntS.f k x x = some true := by
  unfold laws_eqIntS.f
  rw [if_pos rfl]
  exact eqIntS_loop x hn x.length k 0 (by omega) hk
theorem toRules_eq (a b c : Int) (l : List Int) (g : Bool) (hn : l.length ≤ 35184372088832) (k : Nat) (hk : l.length < k) : laws_toRules.f k a b c l g = some (a, b, c, l, g) := by
  unfold laws_toRules.f
  rw [toIntS_eq l hn k hk]; rfl
theorem eqRules_eq (a b c : Int) (l : List Int) (g : Bool) (hn : l.length ≤ 35184372088832) (k : Nat) (hk : l.length < k) : laws_eqRules.f k a b c l g a b c l g = some true := by
  unfold laws_eqRules.f
  rw [eqIntS_eq l (by omega) k hk]; simp
theorem ladders (x y : List Int) (hn : x.length ≤ 9223372036854775807) (hy : y.length = x.length) (b0 b1 b2 : Int) (g : Bool) (d : Nat) : ∀ (k i : Nat), i + d = x.length → d < k →
    ∃ r, spec_SameRules.l0 k x x.length i b0 b1 b2 y g = some r ∧ slices_Equal_int_int.l0 k x y x.length i = some r := by
  induction d with
  | zero =>
    intro k i hd hk
    obtain ⟨k, rfl⟩ : ∃ m, k = m + 1 := ⟨k - 1, by omega⟩
    simp only [spec_SameRules.l0, slices_Equal_int_int.l0]
    rw [if_neg (by omega), if_neg (by omega)]
    exact ⟨_, rfl, rfl⟩
  | succ d ih =>
    intro k i hd hk
    obtain ⟨k, rfl⟩ : ∃ m, k = m + 1 := ⟨k - 1, by omega⟩
    have hlt : (i : Int) < (x.length : Int) := by omega
    have hlt' : (i : Int) < (y.length : Int) := by omega
    have h0 : (0 : Int) ≤ (i : Int) := by omega
    obtain ⟨r, e1, e2⟩ := ih k (i + 1) (by omega) (by omega)
    simp only [spec_SameRules.l0, slices_Equal_int_int.l0, hlt, hlt', h0, if_true, wrap_succ (show i < x.length by omega) hn, e1, e2]
    split
    · exact ⟨_, rfl, rfl⟩
    · exact ⟨_, rfl, rfl⟩
theorem rules_alike (a b c : Int) (x : List Int) (g : Bool) (a' b' c' : Int) (y : List Int) (g' : Bool) (hn : x.length ≤ 9223372036854775807) (k : Nat) (hk : x.length + 1 < k) :
    ∃ r, spec_SameRules.f k a b c x g a' b' c' y g' = some r ∧ impl_SameRules.f k a b c x g a' b' c' y g' = some r := by
  obtain ⟨k, rfl⟩ : ∃ m, k = m + 1 := ⟨k - 1, by omega⟩
  unfold spec_SameRules.f impl_SameRules.f slices_Equal_int_int.f
  simp only [spec_SameRules.j0]
  by_cases h1 : a = a'
  · by_cases h2 : b = b'
    · by_cases h3 : c = c'
      · cases hg : (g != g') with
        | true =>
          have : (g == g') = false := by revert hg; cases g <;> cases g' <;> simp
          exact ⟨false, by simp [h1, h2, h3], by simp [h1, h2, h3, this]⟩
        | false =>
          have hgg : (g == g') = true := by revert hg; cases g <;> cases g' <;> simp
          by_cases hl : (x.length : Int) = (y.length : Int)
          · obtain ⟨r, e1, _⟩ := ladders x y hn (by omega) a' b' c' g' x.length k 0 (by omega) (by omega)
            obtain ⟨r', e1', e2'⟩ := ladders x y hn (by omega) a' b' c' g' x.length (k + 1) 0 (by omega) (by omega)
            have hr : r = r' := by
              have := (spec_SameRules.mono_l k).2 x x.length 0 a' b' c' y g' r e1
              rw [show ((0 : Nat) : Int) = 0 from rfl] at e1'
              exact Option.some.inj (this.symm.trans e1')
            subst hr
            rw [show ((0 : Nat) : Int) = 0 from rfl] at e1 e2'
            have hne : ((x.length : Int) != (y.length : Int)) = false := by simp [hl]
            refine ⟨r, ?_, ?_⟩
            · simp only [h1, h2, h3, if_true, hne, Bool.false_eq_true, if_false, e1]
            · simp only [h1, h2, h3, if_true, hgg, if_pos hl, e2', Option.bind_some]
          · have hne : ((x.length : Int) != (y.length : Int)) = true := by simpa using hl
            refine ⟨false, ?_, ?_⟩
            · simp only [h1, h2, h3, if_true, hne, Bool.false_eq_true, if_false]
            · simp only [h1, h2, h3, if_true, hgg, if_neg hl, Option.bind_some]
      · exact ⟨false, by simp [h1, h2, h3], by simp [h1, h2, h3]⟩
    · exact ⟨false, by simp [h1, h2], by simp [h1, h2]⟩
  · exact ⟨false, by simp [h1], by simp [h1]⟩
theorem FnExactSameRules : FnExactSameRules_pure := by
  intro a b c l g a' b' c' l' g' _ _ _ hl _ _ _ _ hl' _
  unfold maxLen at hl hl'
  refine ⟨l.length + l'.length + 2, ?_⟩
  unfold laws_FnExactSameRules.f laws_szRules.f laws_szIntS.f
  by_cases hb : 1048576 < l.length
  · rw [if_pos (sz_big (by omega) hb)]; rfl
  · obtain ⟨h1, h2⟩ := sz_small (show l.length ≤ 1048576 by omega)
    rw [if_neg h1]
    simp only [Option.bind_some, h1, if_false]
    rw [h2]
    have g1 : wrap64 (1048576 - (l.length : Int) - (l'.length : Int)) = 1048576 - (l.length : Int) - (l'.length : Int) := wrap_id (by omega) (by omega)
    by_cases hb' : l.length + l'.length ≤ 1048576
    · have e := toRules_eq a b c l g (by omega) (l.length + l'.length + 2) (by omega)
      have e' := toRules_eq a' b' c' l' g' (by omega) (l.length + l'.length + 2) (by omega)
      obtain ⟨r, e1, e2⟩ := rules_alike a b c l g a' b' c' l' g' (by omega) (l.length + l'.length + 2) (by omega)
      have eq := eqRules_eq a b c l g (by omega) (l.length + l'.length + 2) (by omega)
      have eq' := eqRules_eq a' b' c' l' g' (by omega) (l.length + l'.length + 2) (by omega)
      rw [g1, if_neg (by omega)]
      have g2 : ¬ (1048576 - (l.length : Int) - (l'.length : Int) < 0) := by omega
      simp only [Option.bind_some, g2, if_false, e, e', e1, e2, eq, eq', if_true, bne_self_eq_false, Bool.false_eq_true]
    · rw [g1, if_pos (by omega)]; rfl

end Go.Proofs.Ytkaaajbnkbnefaa.Pure
