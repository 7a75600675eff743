/- Whatever the teams: SeedOrder of the program and of the reference answer alike, in memory of its own at each call, and the teams stay as they were; no condition beyond the form's own reach. -/
import Derived.Test.YtapmiocpkddbfaaSayFnExactSeedOrder
import Derived.Test.YtapmiocpkddbfaaPureKit
namespace Go.Proofs.Ytapmiocpkddbfaa.Pure
open Go.RowKit Go.Proofs.Ytapmiocpkddbfaa.MFnExactSeedOrder Go.Proofs.Ytapmiocpkddbfaa.PureKit Go.Proofs.YtapmiocpkddbfaaW.PrintWords Go.Proofs.YtapmiocpkddbfaaW.PrintLast
set_option linter.unusedSimpArgs false
set_option linter.unusedVariables false
theorem in_within (n lo hi : Int) : spec_l01In.f n lo hi = some (decide (lo ≤ n ∧ n ≤ hi)) ∧ impl_within.f n lo hi = some (decide (lo ≤ n ∧ n ≤ hi)) := by
  unfold spec_l01In.f impl_within.f
  by_cases h : lo ≤ n <;> simp [h]
theorem sz_big {n : Nat} (h : n ≤ 9223372036854775807) (hb : 1048576 < n) : wrap64 (1048576 - (n : Int)) < 0 := by rw [wrap_id (by omega) (by omega)]; omega
theorem sz_small {n : Nat} (hb : n ≤ 1048576) : ¬ wrap64 (1048576 - (n : Int)) < 0 ∧ wrap64 (1048576 - (n : Int)) = 1048576 - (n : Int) := by
  have h := wrap_id (x := 1048576 - (n : Int)) (by omega) (by omega)
  rw [h]; exact ⟨by omega, rfl⟩
theorem szTeamS_loop (l : List S100) (hn : l.length ≤ 1048576) (hs : ∀ x ∈ l, x.f0.size ≤ 9223372036854775807) (d : Nat) : ∀ (k i : Nat) (a : Int), i + d = l.length → d < k → 0 ≤ a → a ≤ 1048576 →
    ∃ r, laws_szTeamS.l0 k l a i = some r ∧ (r < 0 ∨ (0 ≤ r ∧ r ≤ 1048576 ∧ ∀ (j : Nat) (z : S100), i ≤ j → l[j]? = some z → z.f0.size ≤ 1048576)) := by
  induction d with
  | zero =>
    intro k i a hd hk h0 ha
    obtain ⟨k, rfl⟩ : ∃ m, k = m + 1 := ⟨k - 1, by omega⟩
    simp only [laws_szTeamS.l0]
    rw [if_neg (by omega)]
    refine ⟨a, rfl, Or.inr ⟨h0, ha, fun j z hj hz => ?_⟩⟩
    have := (List.getElem?_eq_some_iff.1 hz).1
    omega
  | succ d ih =>
    intro k i a hd hk h0 ha
    obtain ⟨k, rfl⟩ : ∃ m, k = m + 1 := ⟨k - 1, by omega⟩
    have hi : i < l.length := by omega
    have hlt : (i : Int) < (l.length : Int) := by omega
    have hi0 : (0 : Int) ≤ (i : Int) := by omega
    have hr : rd_T100 l (i : Int) = l[i] := getD_nat _ l i hi
    have hb := hs l[i] (List.getElem_mem hi)
    have hw : wrap64 (a - ((l[i]).f0.size : Int)) = a - ((l[i]).f0.size : Int) := wrap_id (by omega) (by omega)
    simp only [laws_szTeamS.l0, laws_szTeam.f, hlt, hi0, if_true, hr, hw, wrap_succ hi (show l.length ≤ 9223372036854775807 by omega)]
    by_cases hneg : a - ((l[i]).f0.size : Int) < 0
    · simp only [hneg, if_true, Option.bind_some]
      exact ⟨-1, rfl, Or.inl (by omega)⟩
    · simp only [hneg, if_false, Option.bind_some]
      obtain ⟨r, e, h⟩ := ih k (i + 1) (a - ((l[i]).f0.size : Int)) (by omega) (by omega) (by omega) (by omega)
      refine ⟨r, e, ?_⟩
      rcases h with h | ⟨h3, h4, h5⟩
      · exact Or.inl h
      · refine Or.inr ⟨h3, h4, fun j z hj hz => ?_⟩
        by_cases ej : j = i
        · subst ej
          rw [List.getElem?_eq_getElem hi] at hz
          cases hz
          omega
        · exact h5 j z (by omega) hz
theorem szTeamS_eq (l : List S100) (hn : l.length ≤ 9223372036854775807) (hs : ∀ x ∈ l, x.f0.size ≤ 9223372036854775807) (k : Nat) (hk : l.length < k) :
    ∃ r, laws_szTeamS.f k l 1048576 = some r ∧ (r < 0 ∨ (0 ≤ r ∧ l.length ≤ 1048576 ∧ ∀ (j : Nat) (z : S100), l[j]? = some z → z.f0.size ≤ 1048576)) := by
  unfold laws_szTeamS.f
  by_cases hb : 1048576 < l.length
  · rw [if_pos (sz_big hn hb)]; exact ⟨-1, rfl, Or.inl (by omega)⟩
  · obtain ⟨h1, h2⟩ := sz_small (show l.length ≤ 1048576 by omega)
    rw [if_neg h1, h2]
    obtain ⟨r, e, h⟩ := szTeamS_loop l (by omega) hs l.length k 0 (1048576 - (l.length : Int)) (by omega) hk (by omega) (by omega)
    refine ⟨r, e, ?_⟩
    rcases h with h | ⟨h3, h4, h5⟩
    · exact Or.inl h
    · exact Or.inr ⟨h3, by omega, fun j z hz => h5 j z (by omega) hz⟩
theorem szTeamS_le (l : List S100) (hn : l.length ≤ 9223372036854775807) (hs : ∀ x ∈ l, x.f0.size ≤ 9223372036854775807) (k : Nat) (hk : l.length < k) (r : Int) (hr : laws_szTeamS.f k l 1048576 = some r) : r ≤ 1048576 := by
  unfold laws_szTeamS.f at hr
  by_cases hb : 1048576 < l.length
  · rw [if_pos (sz_big hn hb)] at hr; cases hr; decide
  · obtain ⟨h1, h2⟩ := sz_small (show l.length ≤ 1048576 by omega)
    rw [if_neg h1, h2] at hr
    obtain ⟨r', e, h⟩ := szTeamS_loop l (by omega) hs l.length k 0 (1048576 - (l.length : Int)) (by omega) hk (by omega) (by omega)
    rw [show ((0 : Nat) : Int) = 0 from rfl] at e
    rw [e] at hr
    cases hr
    omega
def laws_toTeamS_c (x : S100) : S102 := ⟨x.f0, x.f1, x.f2⟩
theorem laws_toTeamS_loop (x0 : List S100) (hn : x0.length ≤ 9223372036854775807) (d : Nat) : ∀ (k i : Nat) (acc : List S102), acc.length = x0.length → acc.take i = (x0.take i).map laws_toTeamS_c → i + d = x0.length → d < k →
    laws_toTeamS.l0 k x0 acc i = some (x0.map laws_toTeamS_c) := by
  induction d with
  | zero =>
    intro k i acc hl ht hd hk
    obtain ⟨k, rfl⟩ : ∃ m, k = m + 1 := ⟨k - 1, by omega⟩
    simp only [laws_toTeamS.l0]
    rw [if_neg (by omega)]
    rw [List.take_of_length_le (by omega), List.take_of_length_le (by omega)] at ht
    rw [ht]
  | succ d ih =>
    intro k i acc hl ht hd hk
    obtain ⟨k, rfl⟩ : ∃ m, k = m + 1 := ⟨k - 1, by omega⟩
    have hi : i < x0.length := by omega
    simp only [laws_toTeamS.l0, laws_toTeam.f, Option.bind_some]
    rw [if_pos (by omega), if_pos (by omega), if_pos (by omega), wrap_succ hi hn, show rd_T100 x0 (i : Int) = x0[i] from getD_nat _ x0 i hi, Int.toNat_natCast]
    exact ih k (i + 1) _ (by simp [hl]) (set_copy laws_toTeamS_c x0 acc i hi hl ht) (by omega) (by omega)
theorem laws_toTeamS_eq (x0 : List S100) (hn : x0.length ≤ 8796093022208) (k : Nat) (hk : x0.length < k) : laws_toTeamS.f k x0 = some (x0.map laws_toTeamS_c) := by
  unfold laws_toTeamS.f
  rw [if_pos (by omega), if_pos (by omega)]
  exact laws_toTeamS_loop x0 (by omega) x0.length k 0 _ (by simp) (by simp) (by omega) hk
theorem laws_eqTeamS_loop (x : List S102) (hn : x.length ≤ 9223372036854775807) (d : Nat) : ∀ (k i : Nat), i + d = x.length → d < k → laws_eqTeamS.l0 k x x i = some true := by
  induction d with
  | zero =>
    intro k i hd hk
    obtain ⟨k, rfl⟩ : ∃ m, k = m + 1 := ⟨k - 1, by omega⟩
    simp only [laws_eqTeamS.l0]
    rw [if_neg (by omega)]
  | succ d ih =>
    intro k i hd hk
    obtain ⟨k, rfl⟩ : ∃ m, k = m + 1 := ⟨k - 1, by omega⟩
    simp only [laws_eqTeamS.l0, laws_eqTeam.f]
    rw [if_pos (by omega), if_pos (by omega), if_pos (by omega), wrap_succ (show i < x.length by omega) hn]
    simp only [if_true, Option.bind_some]
    exact ih k (i + 1) (by omega) (by omega)
theorem laws_eqTeamS_eq (x : List S102) (hn : x.length ≤ 9223372036854775807) (k : Nat) (hk : x.length < k) : laws_eqTeamS.f k x x = some true := by
  unfold laws_eqTeamS.f
  rw [if_pos rfl]
  exact laws_eqTeamS_loop x hn x.length k 0 (by omega) hk
theorem name_loop (s : ByteArray) (hs : s.size ≤ 9223372036854775807) (d : Nat) : ∀ (k : Nat) (i : Int), 0 ≤ i → i ≤ s.size → (s.size : Int) - i = d → d < k →
    ∃ r, spec_IsName.l0 k s i = some r ∧ impl_IsName.l0 k s s.size i = some r := by
  induction d with
  | zero =>
    intro k i h0 h1 hd hk
    obtain ⟨k, rfl⟩ : ∃ m, k = m + 1 := ⟨k - 1, by omega⟩
    simp only [spec_IsName.l0, impl_IsName.l0]
    rw [if_neg (by omega), if_neg (by omega), (in_within _ _ _).1, (in_within _ _ _).2]
    exact ⟨_, rfl, rfl⟩
  | succ d ih =>
    intro k i h0 h1 hd hk
    obtain ⟨k, rfl⟩ : ∃ m, k = m + 1 := ⟨k - 1, by omega⟩
    have hw : wrap64 (i + 1) = i + 1 := wrap_id (by omega) (by omega)
    obtain ⟨r, e1, e2⟩ := ih k (i + 1) (by omega) (by omega) (by omega) (by omega)
    have hlt : i < (s.size : Int) := by omega
    simp only [spec_IsName.l0, impl_IsName.l0, hw, e1, e2, hlt, h0, if_true]
    generalize bt s i = b
    repeat' split
    all_goals first | exact ⟨_, rfl, rfl⟩ | (exfalso; omega)
theorem names_alike (s : ByteArray) (hs : s.size ≤ 9223372036854775807) (k : Nat) (hk : s.size < k) : ∃ r, spec_IsName.f k s = some r ∧ impl_IsName.f k s = some r :=
  name_loop s hs s.size k 0 (by omega) (by omega) (by omega) (by omega)
noncomputable def nameOk (s : ByteArray) : Bool := (impl_IsName.f (s.size + 1) s).getD false
theorem names_eq (s : ByteArray) (hs : s.size ≤ 9223372036854775807) (k : Nat) (hk : s.size < k) : spec_IsName.f k s = some (nameOk s) ∧ impl_IsName.f k s = some (nameOk s) := by
  obtain ⟨r, e1, e2⟩ := names_alike s hs (s.size + 1) (by omega)
  have hr : nameOk s = r := by unfold nameOk; rw [e2]; rfl
  rw [hr]
  exact ⟨at_rounds (g := fun k => spec_IsName.f k s) (fun k => spec_IsName.mono s k) (show s.size + 1 ≤ k by omega) e1, at_rounds (g := fun k => impl_IsName.f k s) (fun k => impl_IsName.mono s k) (show s.size + 1 ≤ k by omega) e2⟩
noncomputable def teamOk (s : ByteArray) (c d : Int) : Bool := nameOk s && (decide (0 ≤ c ∧ c ≤ 5) && decide (1 ≤ d ∧ d ≤ 8))
theorem specTeam_eq (s : ByteArray) (c d : Int) (hs : s.size ≤ 9223372036854775807) (k : Nat) (hk : s.size < k) : spec_TeamOk.f k s c d = some (teamOk s c d) := by
  unfold spec_TeamOk.f teamOk
  rw [(names_eq s hs k hk).1]
  simp only [(in_within _ _ _).1, Option.bind_some]
  generalize decide (0 ≤ c ∧ c ≤ 5) = x
  cases nameOk s <;> cases x <;> rfl
theorem implTeam_eq (s : ByteArray) (c d : Int) (hs : s.size ≤ 9223372036854775807) (k : Nat) (hk : s.size < k) : impl_TeamOk.f k s c d = some (teamOk s c d) := by
  unfold impl_TeamOk.f teamOk
  rw [(names_eq s hs k hk).2]
  simp only [(in_within _ _ _).2, Option.bind_some]
  generalize decide (0 ≤ c ∧ c ≤ 5) = x
  cases nameOk s <;> cases x <;> rfl
theorem idxP_any {α : Type} (p : α → Bool) (l : List α) : (0 ≤ idxP p l) ↔ l.any p = true := by
  unfold idxP
  cases h : l.findIdx? p with
  | none =>
    rw [List.findIdx?_eq_none_iff] at h
    constructor
    · intro h0; simp at h0
    · intro ha
      obtain ⟨x, hx, hp⟩ := List.any_eq_true.1 ha
      rw [h x hx] at hp; cases hp
  | some i =>
    rw [List.findIdx?_eq_some_iff_getElem] at h
    obtain ⟨hi, hp, _⟩ := h
    exact ⟨fun _ => List.any_eq_true.2 ⟨_, List.getElem_mem hi, hp⟩, fun _ => by simp⟩
/-- The teams from i on (d of them): each valid, none with a name or a seed that stood before. -/
noncomputable def fieldFrom (l : List S102) : Nat → Nat → Bool
  | _, 0 => true
  | i, d + 1 => teamOk (rd_T102 l i).f0 (rd_T102 l i).f1 (rd_T102 l i).f2 && (!((l.take i).any (clashP (rd_T102 l i))) && fieldFrom l (i + 1) d)
noncomputable def fieldOk (l : List S102) : Bool := decide (2 ≤ l.length ∧ l.length ≤ 8) && fieldFrom l 0 l.length
theorem implField_loop (l : List S102) (hs : ∀ (j : Nat) (z : S102), l[j]? = some z → z.f0.size ≤ 1048576) (k : Nat) (hk : 1048576 < k) (d : Nat) : ∀ i : Nat, i + d = l.length →
    impl_FieldOk.l0 k l d i = some (fieldFrom l i d && decide (2 ≤ l.length ∧ l.length ≤ 8)) := by
  induction d with
  | zero =>
    intro i hd
    simp only [impl_FieldOk.l0, fieldFrom, (in_within _ _ _).2, Bool.true_and]
    congr 1
    rw [decide_eq_decide]; omega
  | succ d ih =>
    intro i hd
    have hi : i < l.length := by omega
    have hy : l[i]? = some (rd_T102 l i) := by rw [List.getElem?_eq_getElem hi]; congr 1; exact (getD_nat _ l i hi).symm
    have hb := hs i _ hy
    simp only [impl_FieldOk.l0, fieldFrom, implTeam_eq _ _ _ (show (rd_T102 l i).f0.size ≤ 9223372036854775807 by omega) k (by omega), Option.bind_some, ih (i + 1) (by omega)]
    generalize teamOk (rd_T102 l i).f0 (rd_T102 l i).f1 (rd_T102 l i).f2 = q
    cases q with
    | false => rfl
    | true =>
      rw [if_pos rfl]
      by_cases c : (l.take i).any (clashP (rd_T102 l i)) = true
      · rw [if_pos ((idxP_any _ _).2 c), c]; rfl
      · rw [if_neg (fun h => c ((idxP_any _ _).1 h)), Bool.eq_false_iff.mpr c]; rfl
theorem specField_inner (l : List S102) (hn : l.length ≤ 8) (i : Nat) (hi : i < l.length) (t : S102) (B : Nat) (R : Bool) (hN : ∀ k, B ≤ k → spec_FieldOk.l0 k l l l.length (i + 1 : Nat) = some R) (e : Nat) :
    ∀ (k j : Nat), j + e = (l.take i).length → B + e < k → spec_FieldOk.l1 k l l l.length i (l.take i) ((l.take i).length : Int) j t.f0 t.f1 t.f2 = some (!(((l.take i).drop j).any (clashP t)) && R) := by
  induction e with
  | zero =>
    intro k j he hk
    obtain ⟨k, rfl⟩ : ∃ m, k = m + 1 := ⟨k - 1, by omega⟩
    simp only [spec_FieldOk.l1]
    rw [if_neg (by omega), wrap_succ hi (by omega), hN k (by omega), List.drop_of_length_le (by omega)]
    simp
  | succ e ih =>
    intro k j he hk
    obtain ⟨k, rfl⟩ : ∃ m, k = m + 1 := ⟨k - 1, by omega⟩
    have hj : j < (l.take i).length := by omega
    have hr : rd_T102 (l.take i) (j : Int) = (l.take i)[j] := getD_nat _ _ j hj
    have hle : (l.take i).length ≤ 8 := by rw [List.length_take]; omega
    simp only [spec_FieldOk.l1]
    rw [if_pos (by omega), if_pos (by omega), if_pos (by omega), wrap_succ hj (by omega), ih k (j + 1) (by omega) (by omega), hr, List.drop_eq_getElem_cons hj, List.any_cons]
    unfold clashP
    by_cases c1 : ((l.take i)[j]).f0.toList = t.f0.toList
    · rw [if_pos c1, beq_iff_eq.mpr c1]; rfl
    · rw [if_neg c1, beq_eq_false_iff_ne.mpr c1]
      by_cases c2 : ((l.take i)[j]).f2 = t.f2
      · rw [if_pos c2, beq_iff_eq.mpr c2]; rfl
      · rw [if_neg c2, beq_eq_false_iff_ne.mpr c2]; rfl
theorem specField_loop (l : List S102) (hs : ∀ (j : Nat) (z : S102), l[j]? = some z → z.f0.size ≤ 1048576) (hn : l.length ≤ 8) (d : Nat) : ∀ (k i : Nat), i + d = l.length → 12 * d + 1048600 ≤ k →
    spec_FieldOk.l0 k l l l.length i = some (fieldFrom l i d) := by
  induction d with
  | zero =>
    intro k i hd hk
    obtain ⟨k, rfl⟩ : ∃ m, k = m + 1 := ⟨k - 1, by omega⟩
    simp only [spec_FieldOk.l0, fieldFrom]
    rw [if_neg (by omega)]
  | succ d ih =>
    intro k i hd hk
    obtain ⟨k, rfl⟩ : ∃ m, k = m + 1 := ⟨k - 1, by omega⟩
    have hi : i < l.length := by omega
    have hy : l[i]? = some (rd_T102 l i) := by rw [List.getElem?_eq_getElem hi]; congr 1; exact (getD_nat _ l i hi).symm
    have hb := hs i _ hy
    have htl : (l.take i).length = i := by rw [List.length_take]; omega
    simp only [spec_FieldOk.l0, fieldFrom, specTeam_eq _ _ _ (show (rd_T102 l i).f0.size ≤ 9223372036854775807 by omega) k (by omega), Option.bind_some, Int.toNat_natCast]
    rw [if_pos (by omega), if_pos (by omega), if_pos (by omega)]
    generalize teamOk (rd_T102 l i).f0 (rd_T102 l i).f1 (rd_T102 l i).f2 = q
    cases q with
    | false => rfl
    | true =>
      rw [if_pos rfl, if_pos (by omega)]
      have h := specField_inner l hn i hi (rd_T102 l i) (12 * d + 1048600) _ (fun k hk => ih k (i + 1) (by omega) hk) (l.take i).length k 0 (by omega) (by omega)
      rw [show ((0 : Nat) : Int) = 0 from rfl, List.drop_zero] at h
      rw [h]; rfl
theorem specField_eq (l : List S102) (hs : ∀ (j : Nat) (z : S102), l[j]? = some z → z.f0.size ≤ 1048576) (k : Nat) (hk : 1049000 ≤ k) : spec_FieldOk.f k l = some (fieldOk l) := by
  unfold spec_FieldOk.f fieldOk
  simp only [(in_within _ _ _).1, Option.bind_some, decide_eq_true_eq]
  by_cases h : 2 ≤ (l.length : Int) ∧ (l.length : Int) ≤ 8
  · rw [if_pos h, decide_eq_true (show 2 ≤ l.length ∧ l.length ≤ 8 by omega)]
    exact specField_loop l hs (by omega) l.length k 0 (by omega) (by omega)
  · rw [if_neg h, decide_eq_false (show ¬ (2 ≤ l.length ∧ l.length ≤ 8) by omega)]; rfl
theorem implField_eq (l : List S102) (hs : ∀ (j : Nat) (z : S102), l[j]? = some z → z.f0.size ≤ 1048576) (k : Nat) (hk : 1049000 ≤ k) : impl_FieldOk.f k l = some (fieldOk l) := by
  unfold impl_FieldOk.f fieldOk
  rw [Bool.and_comm]
  exact implField_loop l hs k (by omega) l.length 0 (by omega)
def upL (n : Nat) : List Int := (List.range n).map (fun j : Nat => (j : Int))
theorem upL_len (n : Nat) : (upL n).length = n := by simp [upL]
theorem upL_succ (n : Nat) : upL (n + 1) = upL n ++ [(n : Int)] := by simp [upL, List.range_succ]
theorem mem_upL {n : Nat} {x : Int} (h : x ∈ upL n) : 0 ≤ x ∧ x < n := by
  unfold upL at h
  obtain ⟨j, hj, rfl⟩ := List.mem_map.1 h
  have := List.mem_range.1 hj
  omega
theorem upTo_loop (n : Nat) (hn : n ≤ 1000000000) (d : Nat) : ∀ (k i : Nat), i + d = n → d < k → impl_upTo.l0 k (upL i) n i = some (upL n) := by
  induction d with
  | zero =>
    intro k i hd hk
    obtain ⟨k, rfl⟩ : ∃ m, k = m + 1 := ⟨k - 1, by omega⟩
    simp only [impl_upTo.l0]
    rw [if_neg (by omega), show i = n by omega]
  | succ d ih =>
    intro k i hd hk
    obtain ⟨k, rfl⟩ : ∃ m, k = m + 1 := ⟨k - 1, by omega⟩
    simp only [impl_upTo.l0]
    rw [if_pos (by omega), if_pos (by rw [upL_len]; omega), wrap_succ (show i < n by omega) (by omega), ← upL_succ]
    exact ih k (i + 1) (by omega) (by omega)
theorem upTo_eq (n : Nat) (hn : n ≤ 1000000000) (k : Nat) (hk : n < k) : impl_upTo.f k (n : Int) = some (upL n) := by
  unfold impl_upTo.f
  rw [show mx (n : Int) 0 = (n : Int) by unfold mx; omega]
  exact upTo_loop n hn n k 0 (by omega) hk
theorem fieldFrom_all (l : List S102) (d : Nat) : ∀ i : Nat, i + d = l.length → fieldFrom l i d = true → ∀ j, i ≤ j → j < l.length → teamOk (rd_T102 l j).f0 (rd_T102 l j).f1 (rd_T102 l j).f2 = true := by
  induction d with
  | zero => intro i hd _ j h1 h2; omega
  | succ d ih =>
    intro i hd h j h1 h2
    simp only [fieldFrom, Bool.and_eq_true] at h
    by_cases e : j = i
    · rw [e]; exact h.1
    · exact ih (i + 1) (by omega) h.2.2 j (by omega) h2
theorem fieldOk_team (l : List S102) (h : fieldOk l = true) : ∀ t ∈ l, teamOk t.f0 t.f1 t.f2 = true := by
  intro t ht
  obtain ⟨j, hj, rfl⟩ := List.mem_iff_getElem.1 ht
  unfold fieldOk at h
  rw [Bool.and_eq_true] at h
  have := fieldFrom_all l l.length 0 (by omega) h.2 j (by omega) hj
  rwa [show rd_T102 l (j : Int) = l[j] from getD_nat _ l j hj] at this
theorem fieldOk_len (l : List S102) (h : fieldOk l = true) : 2 ≤ l.length ∧ l.length ≤ 8 := by
  unfold fieldOk at h
  rw [Bool.and_eq_true] at h
  exact of_decide_eq_true h.1
theorem fieldFrom_clash (l : List S102) (d : Nat) : ∀ i : Nat, i + d = l.length → fieldFrom l i d = true → ∀ j, i ≤ j → j < l.length → (l.take j).any (clashP (rd_T102 l j)) = false := by
  induction d with
  | zero => intro i hd _ j h1 h2; omega
  | succ d ih =>
    intro i hd h j h1 h2
    simp only [fieldFrom, Bool.and_eq_true] at h
    by_cases e : j = i
    · rw [e]
      have := h.2.1
      simpa using this
    · exact ih (i + 1) (by omega) h.2.2 j (by omega) h2
theorem fieldOk_seeds (l : List S102) (h : fieldOk l = true) : (l.map fun t => t.f2).Nodup := by
  unfold fieldOk at h
  rw [Bool.and_eq_true] at h
  rw [List.Nodup, List.pairwise_iff_getElem]
  intro i j hi hj hij e
  have hi' : i < l.length := by simpa using hi
  have hj' : j < l.length := by simpa using hj
  have := fieldFrom_clash l l.length 0 (by omega) h.2 j (by omega) hj'
  rw [List.any_eq_false] at this
  have hm : l[i] ∈ l.take j := by
    rw [List.mem_take_iff_getElem]
    exact ⟨i, by omega, rfl⟩
  refine this _ hm ?_
  simp only [List.getElem_map] at e
  unfold clashP
  rw [show rd_T102 l (j : Int) = l[j] from getD_nat _ l j hj', e]
  simp
def sdv (l : List S102) (i : Int) : Int := (rd_T102 l i).f2
/-- The places of the teams with seeds 1 to m, seed by seed. -/
def seedL (l : List S102) : Nat → List Int
  | 0 => []
  | m + 1 => seedL l m ++ (upL l.length).filter fun i => sdv l i == (m + 1 : Nat)
theorem seedL_perm (l : List S102) (hb : ∀ i ∈ upL l.length, 1 ≤ sdv l i) : ∀ m : Nat, (seedL l m ++ (upL l.length).filter fun i => decide ((m : Int) < sdv l i)).Perm (upL l.length) := by
  intro m
  induction m with
  | zero =>
    have : ((upL l.length).filter fun i => decide (((0 : Nat) : Int) < sdv l i)) = upL l.length := by
      rw [List.filter_eq_self]
      intro a ha
      have := hb a ha
      exact decide_eq_true (by omega)
    rw [this]
    exact List.Perm.refl _
  | succ m ih =>
    refine List.Perm.trans ?_ ih
    change ((seedL l m ++ ((upL l.length).filter fun i => sdv l i == (m + 1 : Nat))) ++ _).Perm _
    rw [List.append_assoc]
    refine List.Perm.append_left _ ?_
    have h := List.filter_append_perm (fun i => sdv l i == (m + 1 : Nat)) ((upL l.length).filter fun i => decide ((m : Int) < sdv l i))
    rw [List.filter_filter, List.filter_filter] at h
    refine List.Perm.trans ?_ h
    rw [show ((upL l.length).filter fun i => sdv l i == (m + 1 : Nat)) = (upL l.length).filter fun a => (sdv l a == (m + 1 : Nat)) && decide ((m : Int) < sdv l a) from List.filter_congr (fun x _ => by
        rw [Bool.eq_iff_iff]; simp only [beq_iff_eq, Bool.and_eq_true, decide_eq_true_eq]; omega),
      show ((upL l.length).filter fun i => decide (((m + 1 : Nat) : Int) < sdv l i)) = (upL l.length).filter fun a => (!(sdv l a == (m + 1 : Nat))) && decide ((m : Int) < sdv l a) from List.filter_congr (fun x _ => by
        rw [Bool.eq_iff_iff]; simp only [Bool.not_eq_true', beq_eq_false_iff_ne, Bool.and_eq_true, decide_eq_true_eq]; omega)]
theorem seedL_le (l : List S102) : ∀ m : Nat, ∀ x ∈ seedL l m, sdv l x ≤ m := by
  intro m
  induction m with
  | zero => intro x hx; cases hx
  | succ m ih =>
    intro x hx
    rcases List.mem_append.1 hx with h | h
    · have := ih x h; omega
    · have := (List.mem_filter.1 h).2
      simp at this; omega
theorem seedL_sorted (l : List S102) : ∀ m : Nat, (seedL l m).Pairwise fun i j => sdv l i ≤ sdv l j := by
  intro m
  induction m with
  | zero => exact List.Pairwise.nil
  | succ m ih =>
    unfold seedL
    rw [List.pairwise_append]
    refine ⟨ih, ?_, ?_⟩
    · rw [List.pairwise_iff_forall_sublist]
      intro a b hab
      have ha := (List.mem_filter.1 (hab.subset (List.mem_cons_self))).2
      have hb := (List.mem_filter.1 (hab.subset (List.mem_cons_of_mem _ List.mem_cons_self))).2
      simp at ha hb; omega
    · intro a ha b hb
      have h1 := seedL_le l m a ha
      have h2 := (List.mem_filter.1 hb).2
      simp at h2; omega
theorem upL_ix (l : List S102) (i : Int) (hi : i ∈ upL l.length) : 0 ≤ i ∧ i < (l.length : Int) := mem_upL hi
theorem seeds_sorted (l : List S102) (h : fieldOk l = true) : ((upL l.length).mergeSort fun i j => decide (sdv l i ≤ sdv l j)) = seedL l 8 := by
  have ht := fieldOk_team l h
  have hin : ∀ i ∈ upL l.length, 1 ≤ sdv l i ∧ sdv l i ≤ 8 := by
    intro i hi
    have hx := upL_ix l i hi
    have hm : rd_T102 l i ∈ l := by
      have hi' : i.toNat < l.length := by omega
      have e : rd_T102 l i = l[i.toNat] := by simp [rd_T102, List.getD_eq_getElem?_getD, hi']
      rw [e]; exact List.getElem_mem hi'
    have := ht _ hm
    unfold teamOk at this
    simp only [Bool.and_eq_true, decide_eq_true_eq] at this
    exact this.2.2
  have hp8 : (seedL l 8).Perm (upL l.length) := by
    have := seedL_perm l (fun i hi => (hin i hi).1) 8
    rw [show ((upL l.length).filter fun i => decide (((8 : Nat) : Int) < sdv l i)) = [] from by
      rw [List.filter_eq_nil_iff]
      intro a ha
      have := (hin a ha).2
      simp; omega, List.append_nil] at this
    exact this
  have hms : ((upL l.length).mergeSort fun i j => decide (sdv l i ≤ sdv l j)).Pairwise fun i j => sdv l i ≤ sdv l j := by
    refine (List.pairwise_mergeSort (le := fun i j => decide (sdv l i ≤ sdv l j)) (fun a b c x y => ?_) (fun a b => ?_) _).imp (fun x => of_decide_eq_true x)
    · have x := of_decide_eq_true x
      have y := of_decide_eq_true y
      exact decide_eq_true (by omega)
    · rw [Bool.or_eq_true, decide_eq_true_eq, decide_eq_true_eq]; omega
  refine List.Perm.eq_of_pairwise (le := fun i j => sdv l i ≤ sdv l j) ?_ hms (seedL_sorted l 8) ((List.mergeSort_perm _ _).trans hp8.symm)
  intro a b ha hb h1 h2
  have ha' := upL_ix l a ((List.mergeSort_perm _ _).subset ha)
  have hb' := upL_ix l b (hp8.subset hb)
  exact congrArg Subtype.val (impl_SeedOrder.inj (fieldOk_seeds l h) ⟨a, ha'⟩ ⟨b, hb'⟩ (show sdv l a = sdv l b by omega))
theorem seedL_len (l : List S102) (m : Nat) : (seedL l m).length ≤ m * l.length := by
  induction m with
  | zero => simp [seedL]
  | succ m ih =>
    unfold seedL
    have := List.length_filter_le (fun i => sdv l i == (m + 1 : Nat)) (upL l.length)
    rw [upL_len] at this
    rw [List.length_append, Nat.add_mul, Nat.one_mul]
    omega
theorem specSeed_in (l : List S102) (hn : l.length ≤ 8) (A : List Int) (hA : A.length ≤ 1000) (s : Int) (B : Nat) (R : List Int) (H : ∀ k, B ≤ k → spec_SeedOrder.l0 k l (A ++ (upL l.length).filter fun i => sdv l i == s) (wrap64 (s + 1)) = some R) (d : Nat) :
    ∀ (k i : Nat), i + d = l.length → B + d < k → spec_SeedOrder.l1 k l (A ++ (upL i).filter fun i => sdv l i == s) s l l.length i = some R := by
  induction d with
  | zero =>
    intro k i hd hk
    obtain ⟨k, rfl⟩ : ∃ m, k = m + 1 := ⟨k - 1, by omega⟩
    simp only [spec_SeedOrder.l1]
    rw [if_neg (by omega), show i = l.length by omega]
    exact H k (by omega)
  | succ d ih =>
    intro k i hd hk
    obtain ⟨k, rfl⟩ : ∃ m, k = m + 1 := ⟨k - 1, by omega⟩
    have hi : i < l.length := by omega
    have hw := List.length_filter_le (fun i => sdv l i == s) (upL i)
    rw [upL_len] at hw
    have e := ih k (i + 1) (by omega) (by omega)
    have es : ((upL (i + 1)).filter fun i => sdv l i == s) = ((upL i).filter fun i => sdv l i == s) ++ if (rd_T102 l (i : Int)).f2 = s then [(i : Int)] else [] := by
      rw [upL_succ, List.filter_append]
      congr 1
      by_cases c : (rd_T102 l (i : Int)).f2 = s
      · rw [if_pos c]; simp [sdv, c]
      · rw [if_neg c]; simp [sdv, c]
    simp only [spec_SeedOrder.l1]
    rw [if_pos (by omega), if_pos (by omega), if_pos (by omega), wrap_succ hi (by omega)]
    by_cases c : (rd_T102 l (i : Int)).f2 = s
    · rw [if_pos c] at es
      rw [if_pos c, if_pos (by rw [List.length_append]; omega), List.append_assoc, ← es]
      exact e
    · rw [if_neg c, List.append_nil] at es
      rw [if_neg c, ← es]
      exact e
theorem specSeed_loop (l : List S102) (hn : l.length ≤ 8) (d : Nat) : ∀ (k m : Nat), m + d = 8 → 12 * d < k →
    spec_SeedOrder.l0 k l (seedL l m) ((m + 1 : Nat) : Int) = some (seedL l 8) := by
  induction d with
  | zero =>
    intro k m hd hk
    obtain ⟨k, rfl⟩ : ∃ j, k = j + 1 := ⟨k - 1, by omega⟩
    simp only [spec_SeedOrder.l0]
    rw [if_neg (by omega), show m = 8 by omega]
  | succ d ih =>
    intro k m hd hk
    obtain ⟨k, rfl⟩ : ∃ j, k = j + 1 := ⟨k - 1, by omega⟩
    simp only [spec_SeedOrder.l0]
    rw [if_pos (by omega)]
    have hA := seedL_len l m
    have hA' : m * l.length ≤ 8 * 8 := Nat.mul_le_mul (by omega) hn
    have h := specSeed_in l hn (seedL l m) (by omega) ((m + 1 : Nat) : Int) (12 * d + 1) (seedL l 8) (fun k hk => by
      rw [wrap_id (by omega) (by omega)]
      have := ih k (m + 1) (by omega) (by omega)
      exact this) l.length k 0 (by omega) (by omega)
    rw [show upL 0 = [] from rfl, List.filter_nil, List.append_nil] at h
    exact h
noncomputable def seedOrder (l : List S102) : List Int := if fieldOk l = true then seedL l 8 else []
theorem seedOrder_len (l : List S102) : (seedOrder l).length ≤ 64 := by
  unfold seedOrder
  split
  · rename_i h
    have := fieldOk_len l h
    have h1 := seedL_len l 8
    omega
  · simp
theorem specSeed_eq (l : List S102) (hs : ∀ (j : Nat) (z : S102), l[j]? = some z → z.f0.size ≤ 1048576) (k : Nat) (hk : 1049000 ≤ k) : spec_SeedOrder.f k l = some (seedOrder l) := by
  unfold spec_SeedOrder.f seedOrder
  rw [specField_eq l hs k hk]
  simp only [Option.bind_some]
  split
  · rename_i h
    have := fieldOk_len l h
    exact specSeed_loop l this.2 8 k 0 (by omega) (by omega)
  · rfl
theorem implSeed_eq (l : List S102) (hs : ∀ (j : Nat) (z : S102), l[j]? = some z → z.f0.size ≤ 1048576) (k : Nat) (hk : 1049000 ≤ k) : impl_SeedOrder.f k l = some (seedOrder l) := by
  unfold impl_SeedOrder.f seedOrder
  rw [implField_eq l hs k hk]
  simp only [Option.bind_some]
  split
  · rename_i h
    have hl := fieldOk_len l h
    have ht := fieldOk_team l h
    rw [upTo_eq l.length (by omega) k (by omega)]
    simp only [Option.bind_some, impl_SeedOrder.g]
    rw [if_pos (by
      unfold impl_SeedOrder.ok
      simp only [Bool.and_eq_true, decide_eq_true_eq]
      refine ⟨?_, ?_, fieldOk_seeds l h, by rw [upL_len]; omega⟩
      · rw [List.all_eq_true]
        intro x hx
        have := mem_upL hx
        simp [this.1, this.2]
      · rw [List.all_eq_true]
        intro x hx
        have := ht x hx
        unfold teamOk at this
        simp only [Bool.and_eq_true, decide_eq_true_eq] at this ⊢
        omega)]
    congr 1
    exact seeds_sorted l h
  · rfl
theorem eqIntS_loop (x : List Int) (hn : x.length ≤ 9223372036854775807) (d : Nat) : ∀ (k i : Nat), i + d = x.length → d < k → laws_eqIntS.l0 k x x i = some true := by
  induction d with
  | zero =>
    intro k i hd hk
    obtain ⟨k, rfl⟩ : ∃ m, k = m + 1 := ⟨k - 1, by omega⟩
    simp only [laws_eqIntS.l0]
    rw [if_neg (by omega)]
  | succ d ih =>
    intro k i hd hk
    obtain ⟨k, rfl⟩ : ∃ m, k = m + 1 := ⟨k - 1, by omega⟩
    simp only [laws_eqIntS.l0]
    rw [if_pos (by omega), if_pos (by omega), if_pos (by omega), if_pos trivial, wrap_succ (show i < x.length by omega) hn]
    exact ih k (i + 1) (by omega) (by omega)
theorem eqIntS_eq (x : List Int) (hn : x.length ≤ 9223372036854775807) (k : Nat) (hk : x.length < k) : laws_eqIntS.f k x x = some true := by
  unfold laws_eqIntS.f
  rw [if_pos rfl]
  exact eqIntS_loop x hn x.length k 0 (by omega) hk
def marks (m : Int) (n : Nat) : List Int := (List.range n).map (fun j : Nat => m + (j : Int))
theorem marks_succ (m : Int) (n : Nat) : marks m (n + 1) = m :: marks (m + 1) n := by
  unfold marks
  rw [List.range_succ_eq_map, List.map_cons, List.map_map]
  congr 1
  · simp
  · apply List.map_congr_left; intro j _; simp only [Function.comp]; omega
theorem marks_len (m : Int) (n : Nat) : (marks m n).length = n := by simp [marks]
theorem markIntS_loop (n : Nat) (hn : n ≤ 1000000000) (d : Nat) : ∀ (k i : Nat) (l : List Int) (m : Int), l.length = n → i + d = n → d < k → 0 ≤ m → m + d ≤ 4000000000 →
    laws_markIntS.l0 k l m i = some (m + d, l.take i ++ marks m d) := by
  induction d with
  | zero =>
    intro k i l m hl hd hk _ _
    obtain ⟨k, rfl⟩ : ∃ m, k = m + 1 := ⟨k - 1, by omega⟩
    simp only [laws_markIntS.l0]
    rw [if_neg (by omega), List.take_of_length_le (by omega)]
    simp [marks]
  | succ d ih =>
    intro k i l m hl hd hk h0 hm
    obtain ⟨k, rfl⟩ : ∃ m, k = m + 1 := ⟨k - 1, by omega⟩
    simp only [laws_markIntS.l0]
    rw [if_pos (by omega), if_pos (by omega), wrap_succ (show i < n by omega) (by omega), wrap_id (x := m + 1) (by omega) (by omega), Int.toNat_natCast, ih k (i + 1) _ (m + 1) (by simp [hl]) (by omega) (by omega) (by omega) (by omega)]
    rw [marks_succ]
    have e : (l.set i m).take (i + 1) = l.take i ++ [m] := by
      rw [take_step _ i (by simp; omega)]
      congr 1
      · apply List.ext_getElem?
        intro j
        by_cases hj : j < i
        · rw [List.getElem?_take_of_lt hj, List.getElem?_take_of_lt hj, List.getElem?_set_ne (by omega)]
        · rw [List.getElem?_eq_none (by simp; omega), List.getElem?_eq_none (by simp; omega)]
      · simp
    rw [e, List.append_assoc]
    congr 2
    omega
theorem markIntS_eq (l : List Int) (hn : l.length ≤ 1000000000) (k : Nat) (hk : l.length < k) : laws_markIntS.f k l 1 = some (1 + (l.length : Int), marks 1 l.length) := by
  unfold laws_markIntS.f
  have := markIntS_loop l.length hn l.length k 0 l 1 rfl (by omega) hk (by omega) (by omega)
  simpa using this
theorem heldIntS_loop (L : List Int) (n : Nat) (hL : L.length = n) (hn : n ≤ 1000000000) (d : Nat) : ∀ (k i : Nat) (m : Int), i + d = n → d < k → 0 ≤ m → m + d ≤ 4000000000 → L.drop i = marks m d →
    laws_heldIntS.l0 k L m i = some (m + d) := by
  induction d with
  | zero =>
    intro k i m hd hk _ _ _
    obtain ⟨k, rfl⟩ : ∃ m, k = m + 1 := ⟨k - 1, by omega⟩
    simp only [laws_heldIntS.l0]
    rw [if_neg (by omega)]
    simp
  | succ d ih =>
    intro k i m hd hk h0 hm hdr
    obtain ⟨k, rfl⟩ : ∃ m, k = m + 1 := ⟨k - 1, by omega⟩
    have hi : i < L.length := by omega
    rw [List.drop_eq_getElem_cons hi, marks_succ, List.cons.injEq] at hdr
    simp only [laws_heldIntS.l0]
    rw [if_pos (by omega), if_pos (by omega), rd_nat L i hi, if_pos hdr.1, wrap_succ (show i < n by omega) (by omega), wrap_id (x := m + 1) (by omega) (by omega), ih k (i + 1) (m + 1) (by omega) (by omega) (by omega) (by omega) hdr.2]
    congr 1
    omega
theorem heldIntS_eq (n : Nat) (hn : n ≤ 1000000000) (k : Nat) (hk : n < k) : laws_heldIntS.f k (marks 1 n) 1 = some (1 + (n : Int)) := by
  unfold laws_heldIntS.f
  exact heldIntS_loop (marks 1 n) n (marks_len 1 n) hn n k 0 1 (by omega) hk (by omega) (by omega) rfl
theorem markText_loop (j : Nat) : ∀ (k : Nat) (x : Int) (acc : ByteArray), 0 ≤ x → x ≤ 4000000000 → x < 10 ^ j → j < k → acc.size + j ≤ 1000 → ∃ t, laws_markText.l0 k x acc = some t := by
  induction j with
  | zero =>
    intro k x acc h0 h9 h1 hk ha
    obtain ⟨k, rfl⟩ : ∃ m, k = m + 1 := ⟨k - 1, by omega⟩
    simp only [laws_markText.l0]
    rw [if_neg (by simp at h1; omega), if_pos (by omega)]
    exact ⟨_, rfl⟩
  | succ j ih =>
    intro k x acc h0 h9 h1 hk ha
    obtain ⟨k, rfl⟩ : ∃ m, k = m + 1 := ⟨k - 1, by omega⟩
    simp only [laws_markText.l0, Option.bind_some]
    by_cases hx : x > 0
    · rw [if_pos hx]
      have hs : ∀ z : Int, (strOfNums [z]).size = 1 := fun z => by rfl
      rw [hs, if_pos (by omega)]
      have hp : x < 10 * 10 ^ j := by rw [Int.pow_succ] at h1; omega
      have hq : Int.tdiv x 10 = x / 10 := Int.tdiv_eq_ediv_of_nonneg h0
      have hlt : x / 10 < 10 ^ j := by omega
      rw [hq, wrap_id (x := x / 10) (by omega) (by omega)]
      exact ih k (x / 10) _ (by omega) (by omega) hlt (by omega) (by rw [ByteArray.size_append, hs]; omega)
    · rw [if_neg hx, if_pos (by omega)]
      exact ⟨_, rfl⟩
noncomputable def markT (m : Int) : ByteArray := (laws_markText.f 60 m).getD ByteArray.empty
theorem markT_eq (m : Int) (h0 : 0 ≤ m) (h1 : m ≤ 4000000000) (k : Nat) (hk : 60 ≤ k) : laws_markText.f k m = some (markT m) := by
  have h60 : ∃ t, laws_markText.f 60 m = some t := by
    unfold laws_markText.f
    by_cases hm : m ≤ 0
    · rw [if_pos hm]; exact ⟨_, rfl⟩
    · rw [if_neg hm]
      exact markText_loop 20 60 m _ h0 h1 (by omega) (by omega) (by decide)
  obtain ⟨t, ht⟩ := h60
  have : markT m = t := by unfold markT; rw [ht]; rfl
  rw [this]
  exact at_rounds (g := fun k => laws_markText.f k m) (fun k => laws_markText.mono m k) hk ht
theorem markTeamS_loop (n : Nat) (hn : n ≤ 100000000) (d : Nat) : ∀ (k i : Nat) (l : List S102) (m : Int), l.length = n → i + d = n → d + 60 < k → 0 ≤ m → m + 3 * d ≤ 4000000000 →
    ∃ L, laws_markTeamS.l0 k l m i = some (m + 3 * d, L) := by
  induction d with
  | zero =>
    intro k i l m hl hd hk _ _
    obtain ⟨k, rfl⟩ : ∃ m, k = m + 1 := ⟨k - 1, by omega⟩
    simp only [laws_markTeamS.l0]
    rw [if_neg (by omega)]
    exact ⟨l, by simp⟩
  | succ d ih =>
    intro k i l m hl hd hk h0 hm
    obtain ⟨k, rfl⟩ : ∃ m, k = m + 1 := ⟨k - 1, by omega⟩
    have w1 : wrap64 (m + 1) = m + 1 := wrap_id (by omega) (by omega)
    have w2 : wrap64 (m + 1 + 1) = m + 1 + 1 := wrap_id (by omega) (by omega)
    have w3 : wrap64 (m + 1 + 1 + 1) = m + 1 + 1 + 1 := wrap_id (by omega) (by omega)
    have hlt : (i : Int) < (l.length : Int) := by omega
    have hi0 : (0 : Int) ≤ (i : Int) := by omega
    simp only [laws_markTeamS.l0, markT_eq m h0 (by omega) k (by omega), Option.bind_some, hlt, hi0, if_true, w1, w2, w3, wrap_succ (show i < n by omega) (by omega), Int.toNat_natCast]
    have key : ∀ B : List S102, B.length = n → ∃ L, laws_markTeamS.l0 k B (m + 1 + 1 + 1) ((i + 1 : Nat) : Int) = some (m + 3 * ((d + 1 : Nat) : Int), L) := fun B hB => by
      obtain ⟨L, hL⟩ := ih k (i + 1) B (m + 1 + 1 + 1) hB (by omega) (by omega) (by omega) (by omega)
      exact ⟨L, by rw [hL]; congr 2; omega⟩
    exact key _ (by simp [hl])
theorem markTeamS_eq (l : List S102) (hn : l.length ≤ 100000000) (k : Nat) (hk : l.length + 60 < k) : ∃ L, laws_markTeamS.f k l 1 = some (1 + 3 * (l.length : Int), L) := by
  unfold laws_markTeamS.f
  exact markTeamS_loop l.length hn l.length k 0 l 1 rfl (by omega) hk (by omega) (by omega)
theorem FnExactSeedOrder : FnExactSeedOrder_pure := by
  intro l hl hs
  unfold maxLen at hl
  refine ⟨l.length + 1049001, ?_⟩
  unfold laws_FnExactSeedOrder.f
  obtain ⟨r, e0, h⟩ := szTeamS_eq l (by omega) (fun x hx => (hs x hx).1) (l.length + 1049001) (by omega)
  rw [e0]
  simp only [Option.bind_some]
  rcases h with h | ⟨h3, h4, h5⟩
  · rw [if_pos h]
  · rw [if_neg (by omega)]
    have e := laws_toTeamS_eq l (by omega) (l.length + 1049001) (by omega)
    have e' := laws_toTeamS_eq l (by omega) (l.length + 1049000) (by omega)
    have hz : ∀ (j : Nat) (z : S102), (l.map laws_toTeamS_c)[j]? = some z → z.f0.size ≤ 1048576 := by
      intro j z hz
      rw [List.getElem?_map] at hz
      obtain ⟨y, hy, rfl⟩ := Option.map_eq_some_iff.1 hz
      exact h5 j y hy
    generalize hm : l.map laws_toTeamS_c = m at e e' hz
    have hml : m.length = l.length := by rw [← hm]; simp
    have e1 := specSeed_eq m hz (l.length + 1049001) (by omega)
    have e2 := implSeed_eq m hz (l.length + 1049001) (by omega)
    have e2' := implSeed_eq m hz (l.length + 1049000) (by omega)
    have hw := seedOrder_len m
    generalize seedOrder m = q at e1 e2 e2' hw
    have eq := laws_eqTeamS_eq m (by omega) (l.length + 1049001) (by omega)
    have eqi := eqIntS_eq q (by omega) (l.length + 1049001) (by omega)
    have eqi' := eqIntS_eq q (by omega) (l.length + 1049000) (by omega)
    obtain ⟨L, eM⟩ := markTeamS_eq m (by omega) (l.length + 1049001) (by omega)
    have mk := markIntS_eq q (by omega) (l.length + 1049000) (by omega)
    have hd := heldIntS_eq q.length (by omega) (l.length + 1049000) (by omega)
    have n1 : ¬ (1 + 3 * (m.length : Int) < 0) := by omega
    have n2 : ¬ (1 + (q.length : Int) < 0) := by omega
    simp only [Option.bind_some, if_false, e, e', e1, e2, e2', eq, eqi, eqi', eM, if_true, laws_FnExactSeedOrder.j0, mk, hd, n1, n2, Bool.not_true, Bool.false_eq_true]

end Go.Proofs.Ytapmiocpkddbfaa.Pure
