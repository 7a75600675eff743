/- Whatever the teams and the name: TeamNamed of the program and of the reference answer alike, and the teams stay as they were; no condition beyond the form's own reach. -/
import Derived.Test.YtkaaajbnkbnefaaSayFnExactTeamNamed
import Derived.Test.YtkaaajbnkbnefaaPureKit
namespace Go.Proofs.Ytkaaajbnkbnefaa.Pure
open Go.RowKit Go.Proofs.Ytkaaajbnkbnefaa.MFnExactTeamNamed Go.Proofs.Ytkaaajbnkbnefaa.PureKit Go.Proofs.YtkaaajbnkbnefaaW.PrintWords Go.Proofs.YtkaaajbnkbnefaaW.PrintLast
set_option linter.unusedSimpArgs false
set_option linter.unusedVariables false
theorem sz_big {n : Nat} (h : n ≤ 9223372036854775807) (hb : 1048576 < n) : wrap64 (1048576 - (n : Int)) < 0 := by rw [wrap_id (by omega) (by omega)]; omega
theorem sz_small {n : Nat} (hb : n ≤ 1048576) : ¬ wrap64 (1048576 - (n : Int)) < 0 ∧ wrap64 (1048576 - (n : Int)) = 1048576 - (n : Int) := by
  have h := wrap_id (x := 1048576 - (n : Int)) (by omega) (by omega)
  rw [h]; exact ⟨by omega, rfl⟩
theorem szTeamS_loop (l : List S75) (hn : l.length ≤ 1048576) (hs : ∀ x ∈ l, x.f0.size ≤ 9223372036854775807) (d : Nat) : ∀ (k i : Nat) (a : Int), i + d = l.length → d < k → 0 ≤ a → a ≤ 1048576 →
    ∃ r, laws_szTeamS.l0 k l a i = some r ∧ (r < 0 ∨ (0 ≤ r ∧ r ≤ 1048576 ∧ ∀ (j : Nat) (z : S75), i ≤ j → l[j]? = some z → z.f0.size ≤ 1048576)) := by
  induction d with
  | zero =>
    intro k i a hd hk h0 ha
    obtain ⟨k, rfl⟩ : ∃ m, k = m + 1 := ⟨k - 1, by omega⟩
    simp only [laws_szTeamS.l0]
    rw [if_neg (by omega)]
    refine ⟨a, rfl, Or.inr ⟨h0, ha, fun j z hj hz => ?_⟩⟩
    have := (List.getElem?_eq_some_iff.1 hz).1
    omega
  | succ d ih =>
    intro k i a hd hk h0 ha
    obtain ⟨k, rfl⟩ : ∃ m, k = m + 1 := ⟨k - 1, by omega⟩
    have hi : i < l.length := by omega
    have hlt : (i : Int) < (l.length : Int) := by omega
    have hi0 : (0 : Int) ≤ (i : Int) := by omega
    have hr : rd_T75 l (i : Int) = l[i] := getD_nat _ l i hi
    have hb := hs l[i] (List.getElem_mem hi)
    have hw : wrap64 (a - ((l[i]).f0.size : Int)) = a - ((l[i]).f0.size : Int) := wrap_id (by omega) (by omega)
    simp only [laws_szTeamS.l0, laws_szTeam.f, hlt, hi0, if_true, hr, hw, wrap_succ hi (show l.length ≤ 9223372036854775807 by omega)]
    by_cases hneg : a - ((l[i]).f0.size : Int) < 0
    · simp only [hneg, if_true, Option.bind_some]
      exact ⟨-1, rfl, Or.inl (by omega)⟩
    · simp only [hneg, if_false, Option.bind_some]
      obtain ⟨r, e, h⟩ := ih k (i + 1) (a - ((l[i]).f0.size : Int)) (by omega) (by omega) (by omega) (by omega)
      refine ⟨r, e, ?_⟩
      rcases h with h | ⟨h3, h4, h5⟩
      · exact Or.inl h
      · refine Or.inr ⟨h3, h4, fun j z hj hz => ?_⟩
        by_cases ej : j = i
        · subst ej
          rw [List.getElem?_eq_getElem hi] at hz
          cases hz
          omega
        · exact h5 j z (by omega) hz
theorem szTeamS_eq (l : List S75) (hn : l.length ≤ 9223372036854775807) (hs : ∀ x ∈ l, x.f0.size ≤ 9223372036854775807) (k : Nat) (hk : l.length < k) :
    ∃ r, laws_szTeamS.f k l 1048576 = some r ∧ (r < 0 ∨ (0 ≤ r ∧ l.length ≤ 1048576 ∧ ∀ (j : Nat) (z : S75), l[j]? = some z → z.f0.size ≤ 1048576)) := by
  unfold laws_szTeamS.f
  by_cases hb : 1048576 < l.length
  · rw [if_pos (sz_big hn hb)]; exact ⟨-1, rfl, Or.inl (by omega)⟩
  · obtain ⟨h1, h2⟩ := sz_small (show l.length ≤ 1048576 by omega)
    rw [if_neg h1, h2]
    obtain ⟨r, e, h⟩ := szTeamS_loop l (by omega) hs l.length k 0 (1048576 - (l.length : Int)) (by omega) hk (by omega) (by omega)
    refine ⟨r, e, ?_⟩
    rcases h with h | ⟨h3, h4, h5⟩
    · exact Or.inl h
    · exact Or.inr ⟨h3, by omega, fun j z hz => h5 j z (by omega) hz⟩
def laws_toTeamS_c (x : S75) : S76 := ⟨x.f0, x.f1, x.f2⟩
theorem laws_toTeamS_loop (x0 : List S75) (hn : x0.length ≤ 9223372036854775807) (d : Nat) : ∀ (k i : Nat) (acc : List S76), acc.length = x0.length → acc.take i = (x0.take i).map laws_toTeamS_c → i + d = x0.length → d < k →
    laws_toTeamS.l0 k x0 acc i = some (x0.map laws_toTeamS_c) := by
  induction d with
  | zero =>
    intro k i acc hl ht hd hk
    obtain ⟨k, rfl⟩ : ∃ m, k = m + 1 := ⟨k - 1, by omega⟩
    simp only [laws_toTeamS.l0]
    rw [if_neg (by omega)]
    rw [List.take_of_length_le (by omega), List.take_of_length_le (by omega)] at ht
    rw [ht]
  | succ d ih =>
    intro k i acc hl ht hd hk
    obtain ⟨k, rfl⟩ : ∃ m, k = m + 1 := ⟨k - 1, by omega⟩
    have hi : i < x0.length := by omega
    simp only [laws_toTeamS.l0, laws_toTeam.f, Option.bind_some]
    rw [if_pos (by omega), if_pos (by omega), if_pos (by omega), wrap_succ hi hn, show rd_T75 x0 (i : Int) = x0[i] from getD_nat _ x0 i hi, Int.toNat_natCast]
    exact ih k (i + 1) _ (by simp [hl]) (set_copy laws_toTeamS_c x0 acc i hi hl ht) (by omega) (by omega)
theorem laws_toTeamS_eq (x0 : List S75) (hn : x0.length ≤ 8796093022208) (k : Nat) (hk : x0.length < k) : laws_toTeamS.f k x0 = some (x0.map laws_toTeamS_c) := by
  unfold laws_toTeamS.f
  rw [if_pos (by omega), if_pos (by omega)]
  exact laws_toTeamS_loop x0 (by omega) x0.length k 0 _ (by simp) (by simp) (by omega) hk
theorem laws_eqTeamS_loop (x : List S76) (hn : x.length ≤ 9223372036854775807) (d : Nat) : ∀ (k i : Nat), i + d = x.length → d < k → laws_eqTeamS.l0 k x x i = some true := by
  induction d with
  | zero =>
    intro k i hd hk
    obtain ⟨k, rfl⟩ : ∃ m, k = m + 1 := ⟨k - 1, by omega⟩
    simp only [laws_eqTeamS.l0]
    rw [if_neg (by omega)]
  | succ d ih =>
    intro k i hd hk
    obtain ⟨k, rfl⟩ : ∃ m, k = m + 1 := ⟨k - 1, by omega⟩
    simp only [laws_eqTeamS.l0, laws_eqTeam.f]
    rw [if_pos (by omega), if_pos (by omega), if_pos (by omega), wrap_succ (show i < x.length by omega) hn]
    simp only [if_true, Option.bind_some]
    exact ih k (i + 1) (by omega) (by omega)
theorem laws_eqTeamS_eq (x : List S76) (hn : x.length ≤ 9223372036854775807) (k : Nat) (hk : x.length < k) : laws_eqTeamS.f k x x = some true := by
  unfold laws_eqTeamS.f
  rw [if_pos rfl]
  exact laws_eqTeamS_loop x hn x.length k 0 (by omega) hk
theorem named_loop (a : ByteArray) (l : List S76) (hn : l.length ≤ 9223372036854775807) (d : Nat) : ∀ (k i : Nat), i + d = l.length → d < k → (∀ (j : Nat) (z : S76), j < i → l[j]? = some z → namedP a z = false) →
    spec_TeamNamed.l0 k a l l.length i = some (idxP (namedP a) l) := by
  induction d with
  | zero =>
    intro k i hd hk hf
    obtain ⟨k, rfl⟩ : ∃ m, k = m + 1 := ⟨k - 1, by omega⟩
    simp only [spec_TeamNamed.l0]
    rw [if_neg (by omega), idxP_miss _ l (fun j z hj hz => hf j z (by omega) hz)]
  | succ d ih =>
    intro k i hd hk hf
    obtain ⟨k, rfl⟩ : ∃ m, k = m + 1 := ⟨k - 1, by omega⟩
    have hi : i < l.length := by omega
    have hlt : (i : Int) < (l.length : Int) := by omega
    have h0 : (0 : Int) ≤ (i : Int) := by omega
    have hy : l[i]? = some (rd_T76 l i) := by rw [List.getElem?_eq_getElem hi]; congr 1; exact (getD_nat _ l i hi).symm
    simp only [spec_TeamNamed.l0, hlt, h0, if_true, wrap_succ hi hn]
    by_cases c : ((rd_T76 l i).f0).toList = a.toList
    · rw [if_pos c, idxP_hit _ l i _ hy (by unfold namedP; exact beq_iff_eq.mpr c) hf]
    · rw [if_neg c]
      exact ih k (i + 1) (by omega) (by omega) (fun j z hj hz => by
        by_cases ej : j = i
        · subst ej; rw [hy] at hz; cases hz; unfold namedP; exact beq_eq_false_iff_ne.mpr c
        · exact hf j z (by omega) hz)
theorem FnExactTeamNamed : FnExactTeamNamed_pure := by
  intro l a hl hs ha
  unfold maxLen at hl
  refine ⟨l.length + 1, ?_⟩
  unfold laws_FnExactTeamNamed.f
  by_cases hb : (a.size : Int) > 1048576
  · rw [if_pos hb]
  · rw [if_neg hb]
    obtain ⟨r, e0, h⟩ := szTeamS_eq l (by omega) (fun x hx => (hs x hx).1) (l.length + 1) (by omega)
    rw [e0]
    simp only [Option.bind_some]
    rcases h with h | ⟨h3, h4, _⟩
    · rw [if_pos h]
    · rw [if_neg (by omega)]
      have e := laws_toTeamS_eq l (by omega) (l.length + 1) (by omega)
      generalize hm : l.map laws_toTeamS_c = m at e
      have hml : m.length = l.length := by rw [← hm]; simp
      have e1 : spec_TeamNamed.f (l.length + 1) m a = some (idxP (namedP a) m) := named_loop a m (by omega) m.length (l.length + 1) 0 (by omega) (by omega) (fun j z hj => absurd hj (Nat.not_lt_zero _))
      have eq := laws_eqTeamS_eq m (by omega) (l.length + 1) (by omega)
      simp only [Option.bind_some, e, e1, impl_TeamNamed.f, eq, if_true]

end Go.Proofs.Ytkaaajbnkbnefaa.Pure
