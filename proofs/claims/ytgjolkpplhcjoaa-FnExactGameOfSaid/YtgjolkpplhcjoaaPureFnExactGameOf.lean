/- Whatever the games and the two teams: GameOf of the program and of the reference answer alike, and the games stay as they were; no condition beyond the form's own reach. -/
import Derived.Test.YtgjolkpplhcjoaaSayFnExactGameOf
import Derived.Test.YtgjolkpplhcjoaaPureKit
namespace Go.Proofs.Ytgjolkpplhcjoaa.Pure
open Go.RowKit Go.Proofs.Ytgjolkpplhcjoaa.MFnExactGameOf Go.Proofs.Ytgjolkpplhcjoaa.PureKit Go.Proofs.YtgjolkpplhcjoaaW.PrintWords Go.Proofs.YtgjolkpplhcjoaaW.PrintLast
set_option linter.unusedSimpArgs false
set_option linter.unusedVariables false
theorem sz_big {n : Nat} (h : n ≤ 9223372036854775807) (hb : 1048576 < n) : wrap64 (1048576 - (n : Int)) < 0 := by rw [wrap_id (by omega) (by omega)]; omega
theorem sz_small {n : Nat} (hb : n ≤ 1048576) : ¬ wrap64 (1048576 - (n : Int)) < 0 ∧ wrap64 (1048576 - (n : Int)) = 1048576 - (n : Int) := by
  have h := wrap_id (x := 1048576 - (n : Int)) (by omega) (by omega)
  rw [h]; exact ⟨by omega, rfl⟩
def laws_toGameS_c (x : S27) : S29 := ⟨x.f0, x.f1, x.f2, x.f3, x.f4⟩
theorem laws_toGameS_loop (x0 : List S27) (hn : x0.length ≤ 9223372036854775807) (d : Nat) : ∀ (k i : Nat) (acc : List S29), acc.length = x0.length → acc.take i = (x0.take i).map laws_toGameS_c → i + d = x0.length → d < k →
    laws_toGameS.l0 k x0 acc i = some (x0.map laws_toGameS_c) := by
  induction d with
  | zero =>
    intro k i acc hl ht hd hk
    obtain ⟨k, rfl⟩ : ∃ m, k = m + 1 := ⟨k - 1, by omega⟩
    simp only [laws_toGameS.l0]
    rw [if_neg (by omega)]
    rw [List.take_of_length_le (by omega), List.take_of_length_le (by omega)] at ht
    rw [ht]
  | succ d ih =>
    intro k i acc hl ht hd hk
    obtain ⟨k, rfl⟩ : ∃ m, k = m + 1 := ⟨k - 1, by omega⟩
    have hi : i < x0.length := by omega
    simp only [laws_toGameS.l0, laws_toGame.f, Option.bind_some]
    rw [if_pos (by omega), if_pos (by omega), if_pos (by omega), wrap_succ hi hn, show rd_T27 x0 (i : Int) = x0[i] from getD_nat _ x0 i hi, Int.toNat_natCast]
    exact ih k (i + 1) _ (by simp [hl]) (set_copy laws_toGameS_c x0 acc i hi hl ht) (by omega) (by omega)
theorem laws_toGameS_eq (x0 : List S27) (hn : x0.length ≤ 7036874417766) (k : Nat) (hk : x0.length < k) : laws_toGameS.f k x0 = some (x0.map laws_toGameS_c) := by
  unfold laws_toGameS.f
  rw [if_pos (by omega), if_pos (by omega)]
  exact laws_toGameS_loop x0 (by omega) x0.length k 0 _ (by simp) (by simp) (by omega) hk
theorem laws_eqGameS_loop (x : List S29) (hn : x.length ≤ 9223372036854775807) (d : Nat) : ∀ (k i : Nat), i + d = x.length → d < k → laws_eqGameS.l0 k x x i = some true := by
  induction d with
  | zero =>
    intro k i hd hk
    obtain ⟨k, rfl⟩ : ∃ m, k = m + 1 := ⟨k - 1, by omega⟩
    simp only [laws_eqGameS.l0]
    rw [if_neg (by omega)]
  | succ d ih =>
    intro k i hd hk
    obtain ⟨k, rfl⟩ : ∃ m, k = m + 1 := ⟨k - 1, by omega⟩
    simp only [laws_eqGameS.l0, laws_eqGame.f]
    rw [if_pos (by omega), if_pos (by omega), if_pos (by omega), wrap_succ (show i < x.length by omega) hn]
    simp only [if_true, Option.bind_some]
    exact ih k (i + 1) (by omega) (by omega)
theorem laws_eqGameS_eq (x : List S29) (hn : x.length ≤ 9223372036854775807) (k : Nat) (hk : x.length < k) : laws_eqGameS.f k x x = some true := by
  unfold laws_eqGameS.f
  rw [if_pos rfl]
  exact laws_eqGameS_loop x hn x.length k 0 (by omega) hk
theorem specGameOf_loop (a b : Int) (l : List S29) (hn : l.length ≤ 9223372036854775807) (d : Nat) : ∀ (k i : Nat), i + d = l.length → d < k → (∀ j z, j < i → l[j]? = some z → ((z.f0 == a) && (z.f1 == b)) = false) →
    spec_GameOf.l0 k a b l l.length i = some (idxP (fun x => (x.f0 == a) && (x.f1 == b)) l) := by
  induction d with
  | zero =>
    intro k i hd hk hf
    obtain ⟨k, rfl⟩ : ∃ m, k = m + 1 := ⟨k - 1, by omega⟩
    simp only [spec_GameOf.l0]
    rw [if_neg (by omega), idxP_miss _ l (fun j z hj hz => hf j z (by omega) hz)]
  | succ d ih =>
    intro k i hd hk hf
    obtain ⟨k, rfl⟩ : ∃ m, k = m + 1 := ⟨k - 1, by omega⟩
    have hi : i < l.length := by omega
    have hlt : (i : Int) < (l.length : Int) := by omega
    have h0 : (0 : Int) ≤ (i : Int) := by omega
    have hy : l[i]? = some l[i] := List.getElem?_eq_getElem hi
    have hr : rd_T29 l (i : Int) = l[i] := getD_nat _ l i hi
    simp only [spec_GameOf.l0, hlt, h0, if_true, wrap_succ hi hn, hr]
    by_cases c : (l[i].f0 == a && l[i].f1 == b) = true
    · rw [idxP_hit _ l i _ hy c hf]
      simp only [Bool.and_eq_true, beq_iff_eq] at c
      simp [c]
    · have c' : (l[i].f0 == a && l[i].f1 == b) = false := by simpa using c
      have e := ih k (i + 1) (by omega) (by omega) (fun j z hj hz => by
        by_cases ej : j = i
        · subst ej; rw [hy] at hz; cases hz; exact c'
        · exact hf j z (by omega) hz)
      rw [e]
      repeat' split
      all_goals first | rfl | (exfalso; simp_all)
theorem specGameOf_eq (a b : Int) (l : List S29) (hn : l.length ≤ 9223372036854775807) (k : Nat) (hk : l.length < k) : spec_GameOf.f k l a b = some (idxP (fun x => (x.f0 == a) && (x.f1 == b)) l) := by
  unfold spec_GameOf.f
  exact specGameOf_loop a b l hn l.length k 0 (by omega) hk (fun j z hj => absurd hj (Nat.not_lt_zero _))
theorem FnExactGameOf : FnExactGameOf_pure := by
  intro l a b hl _ _ _
  unfold maxLen at hl
  refine ⟨l.length + 1, ?_⟩
  unfold laws_FnExactGameOf.f laws_szGameS.f
  by_cases hb : 1048576 < l.length
  · rw [if_pos (sz_big (by omega) hb)]; rfl
  · obtain ⟨h1, h2⟩ := sz_small (show l.length ≤ 1048576 by omega)
    have e := laws_toGameS_eq l (by omega) (l.length + 1) (by omega)
    generalize hm : l.map laws_toGameS_c = m at e
    have hml : m.length = l.length := by rw [← hm]; simp
    have e1 := specGameOf_eq a b m (by omega) (l.length + 1) (by omega)
    have eq := laws_eqGameS_eq m (by omega) (l.length + 1) (by omega)
    rw [if_neg h1]
    simp only [Option.bind_some, h1, if_false, e, e1, impl_GameOf.f, eq, if_true]

end Go.Proofs.Ytgjolkpplhcjoaa.Pure
