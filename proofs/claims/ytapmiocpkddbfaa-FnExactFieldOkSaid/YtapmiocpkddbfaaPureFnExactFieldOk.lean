/- Whatever the teams: FieldOk of the program and of the reference answer alike, and the teams stay as they were; no condition beyond the form's own reach. -/
import Derived.Test.YtapmiocpkddbfaaSayFnExactFieldOk
import Derived.Test.YtapmiocpkddbfaaPureKit
namespace Go.Proofs.Ytapmiocpkddbfaa.Pure
open Go.RowKit Go.Proofs.Ytapmiocpkddbfaa.MFnExactFieldOk Go.Proofs.Ytapmiocpkddbfaa.PureKit Go.Proofs.YtapmiocpkddbfaaW.PrintWords Go.Proofs.YtapmiocpkddbfaaW.PrintLast
set_option linter.unusedSimpArgs false
set_option linter.unusedVariables false
theorem in_within (n lo hi : Int) : spec_l01In.f n lo hi = some (decide (lo ≤ n ∧ n ≤ hi)) ∧ impl_within.f n lo hi = some (decide (lo ≤ n ∧ n ≤ hi)) := by
  unfold spec_l01In.f impl_within.f
  by_cases h : lo ≤ n <;> simp [h]
theorem sz_big {n : Nat} (h : n ≤ 9223372036854775807) (hb : 1048576 < n) : wrap64 (1048576 - (n : Int)) < 0 := by rw [wrap_id (by omega) (by omega)]; omega
theorem sz_small {n : Nat} (hb : n ≤ 1048576) : ¬ wrap64 (1048576 - (n : Int)) < 0 ∧ wrap64 (1048576 - (n : Int)) = 1048576 - (n : Int) := by
  have h := wrap_id (x := 1048576 - (n : Int)) (by omega) (by omega)
  rw [h]; exact ⟨by omega, rfl⟩
theorem szTeamS_loop (l : List S100) (hn : l.length ≤ 1048576) (hs : ∀ x ∈ l, x.f0.size ≤ 9223372036854775807) (d : Nat) : ∀ (k i : Nat) (a : Int), i + d = l.length → d < k → 0 ≤ a → a ≤ 1048576 →
    ∃ r, laws_szTeamS.l0 k l a i = some r ∧ (r < 0 ∨ (0 ≤ r ∧ r ≤ 1048576 ∧ ∀ (j : Nat) (z : S100), i ≤ j → l[j]? = some z → z.f0.size ≤ 1048576)) := by
  induction d with
  | zero =>
    intro k i a hd hk h0 ha
    obtain ⟨k, rfl⟩ : ∃ m, k = m + 1 := ⟨k - 1, by omega⟩
    simp only [laws_szTeamS.l0]
    rw [if_neg (by omega)]
    refine ⟨a, rfl, Or.inr ⟨h0, ha, fun j z hj hz => ?_⟩⟩
    have := (List.getElem?_eq_some_iff.1 hz).1
    omega
  | succ d ih =>
    intro k i a hd hk h0 ha
    obtain ⟨k, rfl⟩ : ∃ m, k = m + 1 := ⟨k - 1, by omega⟩
    have hi : i < l.length := by omega
    have hlt : (i : Int) < (l.length : Int) := by omega
    have hi0 : (0 : Int) ≤ (i : Int) := by omega
    have hr : rd_T100 l (i : Int) = l[i] := getD_nat _ l i hi
    have hb := hs l[i] (List.getElem_mem hi)
    have hw : wrap64 (a - ((l[i]).f0.size : Int)) = a - ((l[i]).f0.size : Int) := wrap_id (by omega) (by omega)
    simp only [laws_szTeamS.l0, laws_szTeam.f, hlt, hi0, if_true, hr, hw, wrap_succ hi (show l.length ≤ 9223372036854775807 by omega)]
    by_cases hneg : a - ((l[i]).f0.size : Int) < 0
    · simp only [hneg, if_true, Option.bind_some]
      exact ⟨-1, rfl, Or.inl (by omega)⟩
    · simp only [hneg, if_false, Option.bind_some]
      obtain ⟨r, e, h⟩ := ih k (i + 1) (a - ((l[i]).f0.size : Int)) (by omega) (by omega) (by omega) (by omega)
      refine ⟨r, e, ?_⟩
      rcases h with h | ⟨h3, h4, h5⟩
      · exact Or.inl h
      · refine Or.inr ⟨h3, h4, fun j z hj hz => ?_⟩
        by_cases ej : j = i
        · subst ej
          rw [List.getElem?_eq_getElem hi] at hz
          cases hz
          omega
        · exact h5 j z (by omega) hz
theorem szTeamS_eq (l : List S100) (hn : l.length ≤ 9223372036854775807) (hs : ∀ x ∈ l, x.f0.size ≤ 9223372036854775807) (k : Nat) (hk : l.length < k) :
    ∃ r, laws_szTeamS.f k l 1048576 = some r ∧ (r < 0 ∨ (0 ≤ r ∧ l.length ≤ 1048576 ∧ ∀ (j : Nat) (z : S100), l[j]? = some z → z.f0.size ≤ 1048576)) := by
  unfold laws_szTeamS.f
  by_cases hb : 1048576 < l.length
  · rw [if_pos (sz_big hn hb)]; exact ⟨-1, rfl, Or.inl (by omega)⟩
  · obtain ⟨h1, h2⟩ := sz_small (show l.length ≤ 1048576 by omega)
    rw [if_neg h1, h2]
    obtain ⟨r, e, h⟩ := szTeamS_loop l (by omega) hs l.length k 0 (1048576 - (l.length : Int)) (by omega) hk (by omega) (by omega)
    refine ⟨r, e, ?_⟩
    rcases h with h | ⟨h3, h4, h5⟩
    · exact Or.inl h
    · exact Or.inr ⟨h3, by omega, fun j z hz => h5 j z (by omega) hz⟩
def laws_toTeamS_c (x : S100) : S102 := ⟨x.f0, x.f1, x.f2⟩
theorem laws_toTeamS_loop (x0 : List S100) (hn : x0.length ≤ 9223372036854775807) (d : Nat) : ∀ (k i : Nat) (acc : List S102), acc.length = x0.length → acc.take i = (x0.take i).map laws_toTeamS_c → i + d = x0.length → d < k →
    laws_toTeamS.l0 k x0 acc i = some (x0.map laws_toTeamS_c) := by
  induction d with
  | zero =>
    intro k i acc hl ht hd hk
    obtain ⟨k, rfl⟩ : ∃ m, k = m + 1 := ⟨k - 1, by omega⟩
    simp only [laws_toTeamS.l0]
    rw [if_neg (by omega)]
    rw [List.take_of_length_le (by omega), List.take_of_length_le (by omega)] at ht
    rw [ht]
  | succ d ih =>
    intro k i acc hl ht hd hk
    obtain ⟨k, rfl⟩ : ∃ m, k = m + 1 := ⟨k - 1, by omega⟩
    have hi : i < x0.length := by omega
    simp only [laws_toTeamS.l0, laws_toTeam.f, Option.bind_some]
    rw [if_pos (by omega), if_pos (by omega), if_pos (by omega), wrap_succ hi hn, show rd_T100 x0 (i : Int) = x0[i] from getD_nat _ x0 i hi, Int.toNat_natCast]
    exact ih k (i + 1) _ (by simp [hl]) (set_copy laws_toTeamS_c x0 acc i hi hl ht) (by omega) (by omega)
theorem laws_toTeamS_eq (x0 : List S100) (hn : x0.length ≤ 8796093022208) (k : Nat) (hk : x0.length < k) : laws_toTeamS.f k x0 = some (x0.map laws_toTeamS_c) := by
  unfold laws_toTeamS.f
  rw [if_pos (by omega), if_pos (by omega)]
  exact laws_toTeamS_loop x0 (by omega) x0.length k 0 _ (by simp) (by simp) (by omega) hk
theorem laws_eqTeamS_loop (x : List S102) (hn : x.length ≤ 9223372036854775807) (d : Nat) : ∀ (k i : Nat), i + d = x.length → d < k → laws_eqTeamS.l0 k x x i = some true := by
  induction d with
  | zero =>
    intro k i hd hk
    obtain ⟨k, rfl⟩ : ∃ m, k = m + 1 := ⟨k - 1, by omega⟩
    simp only [laws_eqTeamS.l0]
    rw [if_neg (by omega)]
  | succ d ih =>
    intro k i hd hk
    obtain ⟨k, rfl⟩ : ∃ m, k = m + 1 := ⟨k - 1, by omega⟩
    simp only [laws_eqTeamS.l0, laws_eqTeam.f]
    rw [if_pos (by omega), if_pos (by omega), if_pos (by omega), wrap_succ (show i < x.length by omega) hn]
    simp only [if_true, Option.bind_some]
    exact ih k (i + 1) (by omega) (by omega)
theorem laws_eqTeamS_eq (x : List S102) (hn : x.length ≤ 9223372036854775807) (k : Nat) (hk : x.length < k) : laws_eqTeamS.f k x x = some true := by
  unfold laws_eqTeamS.f
  rw [if_pos rfl]
  exact laws_eqTeamS_loop x hn x.length k 0 (by omega) hk
theorem name_loop (s : ByteArray) (hs : s.size ≤ 9223372036854775807) (d : Nat) : ∀ (k : Nat) (i : Int), 0 ≤ i → i ≤ s.size → (s.size : Int) - i = d → d < k →
    ∃ r, spec_IsName.l0 k s i = some r ∧ impl_IsName.l0 k s s.size i = some r := by
  induction d with
  | zero =>
    intro k i h0 h1 hd hk
    obtain ⟨k, rfl⟩ : ∃ m, k = m + 1 := ⟨k - 1, by omega⟩
    simp only [spec_IsName.l0, impl_IsName.l0]
    rw [if_neg (by omega), if_neg (by omega), (in_within _ _ _).1, (in_within _ _ _).2]
    exact ⟨_, rfl, rfl⟩
  | succ d ih =>
    intro k i h0 h1 hd hk
    obtain ⟨k, rfl⟩ : ∃ m, k = m + 1 := ⟨k - 1, by omega⟩
    have hw : wrap64 (i + 1) = i + 1 := wrap_id (by omega) (by omega)
    obtain ⟨r, e1, e2⟩ := ih k (i + 1) (by omega) (by omega) (by omega) (by omega)
    have hlt : i < (s.size : Int) := by omega
    simp only [spec_IsName.l0, impl_IsName.l0, hw, e1, e2, hlt, h0, if_true]
    generalize bt s i = b
    repeat' split
    all_goals first | exact ⟨_, rfl, rfl⟩ | (exfalso; omega)
theorem names_alike (s : ByteArray) (hs : s.size ≤ 9223372036854775807) (k : Nat) (hk : s.size < k) : ∃ r, spec_IsName.f k s = some r ∧ impl_IsName.f k s = some r :=
  name_loop s hs s.size k 0 (by omega) (by omega) (by omega) (by omega)
noncomputable def nameOk (s : ByteArray) : Bool := (impl_IsName.f (s.size + 1) s).getD false
theorem names_eq (s : ByteArray) (hs : s.size ≤ 9223372036854775807) (k : Nat) (hk : s.size < k) : spec_IsName.f k s = some (nameOk s) ∧ impl_IsName.f k s = some (nameOk s) := by
  obtain ⟨r, e1, e2⟩ := names_alike s hs (s.size + 1) (by omega)
  have hr : nameOk s = r := by unfold nameOk; rw [e2]; rfl
  rw [hr]
  exact ⟨at_rounds (g := fun k => spec_IsName.f k s) (fun k => spec_IsName.mono s k) (show s.size + 1 ≤ k by omega) e1, at_rounds (g := fun k => impl_IsName.f k s) (fun k => impl_IsName.mono s k) (show s.size + 1 ≤ k by omega) e2⟩
noncomputable def teamOk (s : ByteArray) (c d : Int) : Bool := nameOk s && (decide (0 ≤ c ∧ c ≤ 5) && decide (1 ≤ d ∧ d ≤ 8))
theorem specTeam_eq (s : ByteArray) (c d : Int) (hs : s.size ≤ 9223372036854775807) (k : Nat) (hk : s.size < k) : spec_TeamOk.f k s c d = some (teamOk s c d) := by
  unfold spec_TeamOk.f teamOk
  rw [(names_eq s hs k hk).1]
  simp only [(in_within _ _ _).1, Option.bind_some]
  generalize decide (0 ≤ c ∧ c ≤ 5) = x
  cases nameOk s <;> cases x <;> rfl
theorem implTeam_eq (s : ByteArray) (c d : Int) (hs : s.size ≤ 9223372036854775807) (k : Nat) (hk : s.size < k) : impl_TeamOk.f k s c d = some (teamOk s c d) := by
  unfold impl_TeamOk.f teamOk
  rw [(names_eq s hs k hk).2]
  simp only [(in_within _ _ _).2, Option.bind_some]
  generalize decide (0 ≤ c ∧ c ≤ 5) = x
  cases nameOk s <;> cases x <;> rfl
theorem idxP_any {α : Type} (p : α → Bool) (l : List α) : (0 ≤ idxP p l) ↔ l.any p = true := by
  unfold idxP
  cases h : l.findIdx? p with
  | none =>
    rw [List.findIdx?_eq_none_iff] at h
    constructor
    · intro h0; simp at h0
    · intro ha
      obtain ⟨x, hx, hp⟩ := List.any_eq_true.1 ha
      rw [h x hx] at hp; cases hp
  | some i =>
    rw [List.findIdx?_eq_some_iff_getElem] at h
    obtain ⟨hi, hp, _⟩ := h
    exact ⟨fun _ => List.any_eq_true.2 ⟨_, List.getElem_mem hi, hp⟩, fun _ => by simp⟩
/-- The teams from i on (d of them): each valid, none with a name or a seed that stood before. -/
noncomputable def fieldFrom (l : List S102) : Nat → Nat → Bool
  | _, 0 => true
  | i, d + 1 => teamOk (rd_T102 l i).f0 (rd_T102 l i).f1 (rd_T102 l i).f2 && (!((l.take i).any (clashP (rd_T102 l i))) && fieldFrom l (i + 1) d)
noncomputable def fieldOk (l : List S102) : Bool := decide (2 ≤ l.length ∧ l.length ≤ 8) && fieldFrom l 0 l.length
theorem implField_loop (l : List S102) (hs : ∀ (j : Nat) (z : S102), l[j]? = some z → z.f0.size ≤ 1048576) (k : Nat) (hk : 1048576 < k) (d : Nat) : ∀ i : Nat, i + d = l.length →
    impl_FieldOk.l0 k l d i = some (fieldFrom l i d && decide (2 ≤ l.length ∧ l.length ≤ 8)) := by
  induction d with
  | zero =>
    intro i hd
    simp only [impl_FieldOk.l0, fieldFrom, (in_within _ _ _).2, Bool.true_and]
    congr 1
    rw [decide_eq_decide]; omega
  | succ d ih =>
    intro i hd
    have hi : i < l.length := by omega
    have hy : l[i]? = some (rd_T102 l i) := by rw [List.getElem?_eq_getElem hi]; congr 1; exact (getD_nat _ l i hi).symm
    have hb := hs i _ hy
    simp only [impl_FieldOk.l0, fieldFrom, implTeam_eq _ _ _ (show (rd_T102 l i).f0.size ≤ 9223372036854775807 by omega) k (by omega), Option.bind_some, ih (i + 1) (by omega)]
    generalize teamOk (rd_T102 l i).f0 (rd_T102 l i).f1 (rd_T102 l i).f2 = q
    cases q with
    | false => rfl
    | true =>
      rw [if_pos rfl]
      by_cases c : (l.take i).any (clashP (rd_T102 l i)) = true
      · rw [if_pos ((idxP_any _ _).2 c), c]; rfl
      · rw [if_neg (fun h => c ((idxP_any _ _).1 h)), Bool.eq_false_iff.mpr c]; rfl
theorem specField_inner (l : List S102) (hn : l.length ≤ 8) (i : Nat) (hi : i < l.length) (t : S102) (B : Nat) (R : Bool) (hN : ∀ k, B ≤ k → spec_FieldOk.l0 k l l l.length (i + 1 : Nat) = some R) (e : Nat) :
    ∀ (k j : Nat), j + e = (l.take i).length → B + e < k → spec_FieldOk.l1 k l l l.length i (l.take i) ((l.take i).length : Int) j t.f0 t.f1 t.f2 = some (!(((l.take i).drop j).any (clashP t)) && R) := by
  induction e with
  | zero =>
    intro k j he hk
    obtain ⟨k, rfl⟩ : ∃ m, k = m + 1 := ⟨k - 1, by omega⟩
    simp only [spec_FieldOk.l1]
    rw [if_neg (by omega), wrap_succ hi (by omega), hN k (by omega), List.drop_of_length_le (by omega)]
    simp
  | succ e ih =>
    intro k j he hk
    obtain ⟨k, rfl⟩ : ∃ m, k = m + 1 := ⟨k - 1, by omega⟩
    have hj : j < (l.take i).length := by omega
    have hr : rd_T102 (l.take i) (j : Int) = (l.take i)[j] := getD_nat _ _ j hj
    have hle : (l.take i).length ≤ 8 := by rw [List.length_take]; omega
    simp only [spec_FieldOk.l1]
    rw [if_pos (by omega), if_pos (by omega), if_pos (by omega), wrap_succ hj (by omega), ih k (j + 1) (by omega) (by omega), hr, List.drop_eq_getElem_cons hj, List.any_cons]
    unfold clashP
    by_cases c1 : ((l.take i)[j]).f0.toList = t.f0.toList
    · rw [if_pos c1, beq_iff_eq.mpr c1]; rfl
    · rw [if_neg c1, beq_eq_false_iff_ne.mpr c1]
      by_cases c2 : ((l.take i)[j]).f2 = t.f2
      · rw [if_pos c2, beq_iff_eq.mpr c2]; rfl
      · rw [if_neg c2, beq_eq_false_iff_ne.mpr c2]; rfl
theorem specField_loop (l : List S102) (hs : ∀ (j : Nat) (z : S102), l[j]? = some z → z.f0.size ≤ 1048576) (hn : l.length ≤ 8) (d : Nat) : ∀ (k i : Nat), i + d = l.length → 12 * d + 1048600 ≤ k →
    spec_FieldOk.l0 k l l l.length i = some (fieldFrom l i d) := by
  induction d with
  | zero =>
    intro k i hd hk
    obtain ⟨k, rfl⟩ : ∃ m, k = m + 1 := ⟨k - 1, by omega⟩
    simp only [spec_FieldOk.l0, fieldFrom]
    rw [if_neg (by omega)]
  | succ d ih =>
    intro k i hd hk
    obtain ⟨k, rfl⟩ : ∃ m, k = m + 1 := ⟨k - 1, by omega⟩
    have hi : i < l.length := by omega
    have hy : l[i]? = some (rd_T102 l i) := by rw [List.getElem?_eq_getElem hi]; congr 1; exact (getD_nat _ l i hi).symm
    have hb := hs i _ hy
    have htl : (l.take i).length = i := by rw [List.length_take]; omega
    simp only [spec_FieldOk.l0, fieldFrom, specTeam_eq _ _ _ (show (rd_T102 l i).f0.size ≤ 9223372036854775807 by omega) k (by omega), Option.bind_some, Int.toNat_natCast]
    rw [if_pos (by omega), if_pos (by omega), if_pos (by omega)]
    generalize teamOk (rd_T102 l i).f0 (rd_T102 l i).f1 (rd_T102 l i).f2 = q
    cases q with
    | false => rfl
    | true =>
      rw [if_pos rfl, if_pos (by omega)]
      have h := specField_inner l hn i hi (rd_T102 l i) (12 * d + 1048600) _ (fun k hk => ih k (i + 1) (by omega) hk) (l.take i).length k 0 (by omega) (by omega)
      rw [show ((0 : Nat) : Int) = 0 from rfl, List.drop_zero] at h
      rw [h]; rfl
theorem specField_eq (l : List S102) (hs : ∀ (j : Nat) (z : S102), l[j]? = some z → z.f0.size ≤ 1048576) (k : Nat) (hk : 1049000 ≤ k) : spec_FieldOk.f k l = some (fieldOk l) := by
  unfold spec_FieldOk.f fieldOk
  simp only [(in_within _ _ _).1, Option.bind_some, decide_eq_true_eq]
  by_cases h : 2 ≤ (l.length : Int) ∧ (l.length : Int) ≤ 8
  · rw [if_pos h, decide_eq_true (show 2 ≤ l.length ∧ l.length ≤ 8 by omega)]
    exact specField_loop l hs (by omega) l.length k 0 (by omega) (by omega)
  · rw [if_neg h, decide_eq_false (show ¬ (2 ≤ l.length ∧ l.length ≤ 8) by omega)]; rfl
theorem implField_eq (l : List S102) (hs : ∀ (j : Nat) (z : S102), l[j]? = some z → z.f0.size ≤ 1048576) (k : Nat) (hk : 1049000 ≤ k) : impl_FieldOk.f k l = some (fieldOk l) := by
  unfold impl_FieldOk.f fieldOk
  rw [Bool.and_comm]
  exact implField_loop l hs k (by omega) l.length 0 (by omega)
theorem FnExactFieldOk : FnExactFieldOk_pure := by
  intro l hl hs
  unfold maxLen at hl
  refine ⟨l.length + 1049000, ?_⟩
  unfold laws_FnExactFieldOk.f
  obtain ⟨r, e0, h⟩ := szTeamS_eq l (by omega) (fun x hx => (hs x hx).1) (l.length + 1049000) (by omega)
  rw [e0]
  simp only [Option.bind_some]
  rcases h with h | ⟨h3, h4, h5⟩
  · rw [if_pos h]
  · rw [if_neg (by omega)]
    have e := laws_toTeamS_eq l (by omega) (l.length + 1049000) (by omega)
    have hz : ∀ (j : Nat) (z : S102), (l.map laws_toTeamS_c)[j]? = some z → z.f0.size ≤ 1048576 := by
      intro j z hz
      rw [List.getElem?_map] at hz
      obtain ⟨y, hy, rfl⟩ := Option.map_eq_some_iff.1 hz
      exact h5 j y hy
    generalize hm : l.map laws_toTeamS_c = m at e hz
    have hml : m.length = l.length := by rw [← hm]; simp
    have e1 := specField_eq m hz (l.length + 1049000) (by omega)
    have e2 := implField_eq m hz (l.length + 1049000) (by omega)
    have eq := laws_eqTeamS_eq m (by omega) (l.length + 1049000) (by omega)
    simp only [Option.bind_some, e, e1, e2, eq, if_true, bne_self_eq_false, Bool.false_eq_true, if_false]

end Go.Proofs.Ytapmiocpkddbfaa.Pure
