/- Whatever the rows: LeaderOf of the program and of the reference answer alike, and the rows stay as they were; no condition beyond the form's own reach. -/
import Derived.Test.YtkaaajbnkbnefaaSayFnExactLeaderOf
import Derived.Test.YtkaaajbnkbnefaaPureKit
namespace Go.Proofs.Ytkaaajbnkbnefaa.Pure
open Go.RowKit Go.Proofs.Ytkaaajbnkbnefaa.MFnExactLeaderOf Go.Proofs.Ytkaaajbnkbnefaa.PureKit Go.Proofs.YtkaaajbnkbnefaaW.PrintWords Go.Proofs.YtkaaajbnkbnefaaW.PrintLast
set_option linter.unusedSimpArgs false
set_option linter.unusedVariables false
theorem sz_big {n : Nat} (h : n ≤ 9223372036854775807) (hb : 1048576 < n) : wrap64 (1048576 - (n : Int)) < 0 := by rw [wrap_id (by omega) (by omega)]; omega
theorem sz_small {n : Nat} (hb : n ≤ 1048576) : ¬ wrap64 (1048576 - (n : Int)) < 0 ∧ wrap64 (1048576 - (n : Int)) = 1048576 - (n : Int) := by
  have h := wrap_id (x := 1048576 - (n : Int)) (by omega) (by omega)
  rw [h]; exact ⟨by omega, rfl⟩
def laws_toRowS_c (x : S84) : S82 := ⟨x.f0, x.f1, x.f2, x.f3, x.f4, x.f5, x.f6⟩
theorem laws_toRowS_loop (x0 : List S84) (hn : x0.length ≤ 9223372036854775807) (d : Nat) : ∀ (k i : Nat) (acc : List S82), acc.length = x0.length → acc.take i = (x0.take i).map laws_toRowS_c → i + d = x0.length → d < k →
    laws_toRowS.l0 k x0 acc i = some (x0.map laws_toRowS_c) := by
  induction d with
  | zero =>
    intro k i acc hl ht hd hk
    obtain ⟨k, rfl⟩ : ∃ m, k = m + 1 := ⟨k - 1, by omega⟩
    simp only [laws_toRowS.l0]
    rw [if_neg (by omega)]
    rw [List.take_of_length_le (by omega), List.take_of_length_le (by omega)] at ht
    rw [ht]
  | succ d ih =>
    intro k i acc hl ht hd hk
    obtain ⟨k, rfl⟩ : ∃ m, k = m + 1 := ⟨k - 1, by omega⟩
    have hi : i < x0.length := by omega
    simp only [laws_toRowS.l0, laws_toRow.f, Option.bind_some]
    rw [if_pos (by omega), if_pos (by omega), if_pos (by omega), wrap_succ hi hn, show rd_T84 x0 (i : Int) = x0[i] from getD_nat _ x0 i hi, Int.toNat_natCast]
    exact ih k (i + 1) _ (by simp [hl]) (set_copy laws_toRowS_c x0 acc i hi hl ht) (by omega) (by omega)
theorem laws_toRowS_eq (x0 : List S84) (hn : x0.length ≤ 5026338869833) (k : Nat) (hk : x0.length < k) : laws_toRowS.f k x0 = some (x0.map laws_toRowS_c) := by
  unfold laws_toRowS.f
  rw [if_pos (by omega), if_pos (by omega)]
  exact laws_toRowS_loop x0 (by omega) x0.length k 0 _ (by simp) (by simp) (by omega) hk
theorem laws_eqRowS_loop (x : List S82) (hn : x.length ≤ 9223372036854775807) (d : Nat) : ∀ (k i : Nat), i + d = x.length → d < k → laws_eqRowS.l0 k x x i = some true := by
  induction d with
  | zero =>
    intro k i hd hk
    obtain ⟨k, rfl⟩ : ∃ m, k = m + 1 := ⟨k - 1, by omega⟩
    simp only [laws_eqRowS.l0]
    rw [if_neg (by omega)]
  | succ d ih =>
    intro k i hd hk
    obtain ⟨k, rfl⟩ : ∃ m, k = m + 1 := ⟨k - 1, by omega⟩
    simp only [laws_eqRowS.l0, laws_eqRow.f]
    rw [if_pos (by omega), if_pos (by omega), if_pos (by omega), wrap_succ (show i < x.length by omega) hn]
    simp only [if_true, Option.bind_some]
    exact ih k (i + 1) (by omega) (by omega)
theorem laws_eqRowS_eq (x : List S82) (hn : x.length ≤ 9223372036854775807) (k : Nat) (hk : x.length < k) : laws_eqRowS.f k x x = some true := by
  unfold laws_eqRowS.f
  rw [if_pos rfl]
  exact laws_eqRowS_loop x hn x.length k 0 (by omega) hk
theorem leader_loop (x : List S82) (hn : x.length ≤ 9223372036854775807) (d : Nat) : ∀ (k i : Nat) (b : Int), b < x.length → i + d = x.length → d < k →
    ∃ r, spec_LeaderOf.l0 k x b x x.length i = some r ∧ impl_LeaderOf.l0 k x b x x.length i = some r := by
  induction d with
  | zero =>
    intro k i b hb hd hk
    obtain ⟨k, rfl⟩ : ∃ m, k = m + 1 := ⟨k - 1, by omega⟩
    simp only [spec_LeaderOf.l0, impl_LeaderOf.l0]
    rw [if_neg (by omega), if_neg (by omega)]
    exact ⟨_, rfl, rfl⟩
  | succ d ih =>
    intro k i b hb hd hk
    obtain ⟨k, rfl⟩ : ∃ m, k = m + 1 := ⟨k - 1, by omega⟩
    have hlt : (i : Int) < (x.length : Int) := by omega
    have h0 : (0 : Int) ≤ (i : Int) := by omega
    obtain ⟨r1, e1, e1'⟩ := ih k (i + 1) b hb (by omega) (by omega)
    obtain ⟨r2, e2, e2'⟩ := ih k (i + 1) i (by omega) (by omega) (by omega)
    simp only [spec_LeaderOf.l0, impl_LeaderOf.l0, hlt, h0, if_true, wrap_succ (show i < x.length by omega) hn, e1, e1', e2, e2']
    by_cases c : b < 0
    · simp only [c, if_true]; exact ⟨_, rfl, rfl⟩
    · have c0 : 0 ≤ b := by omega
      simp only [c, c0, hb, if_true, if_false]
      split
      · exact ⟨_, rfl, rfl⟩
      · exact ⟨_, rfl, rfl⟩
theorem FnExactLeaderOf : FnExactLeaderOf_pure := by
  intro l hl _
  unfold maxLen at hl
  refine ⟨l.length + 1, ?_⟩
  unfold laws_FnExactLeaderOf.f laws_szRowS.f
  by_cases hb : 1048576 < l.length
  · rw [if_pos (sz_big (by omega) hb)]; rfl
  · obtain ⟨h1, h2⟩ := sz_small (show l.length ≤ 1048576 by omega)
    have e := laws_toRowS_eq l (by omega) (l.length + 1) (by omega)
    generalize hm : l.map laws_toRowS_c = m at e
    have hml : m.length = l.length := by rw [← hm]; simp
    obtain ⟨r, e1, e2⟩ := leader_loop m (by omega) m.length (l.length + 1) 0 (-1) (by omega) (by omega) (by omega)
    have e1' : spec_LeaderOf.f (l.length + 1) m = some r := e1
    have e2' : impl_LeaderOf.f (l.length + 1) m = some r := e2
    have eq := laws_eqRowS_eq m (by omega) (l.length + 1) (by omega)
    rw [if_neg h1]
    simp only [Option.bind_some, h1, if_false, e, e1', e2', eq, if_true]

end Go.Proofs.Ytkaaajbnkbnefaa.Pure
