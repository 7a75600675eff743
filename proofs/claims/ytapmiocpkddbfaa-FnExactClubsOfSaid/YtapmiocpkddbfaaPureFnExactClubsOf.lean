/- Whatever the teams: ClubsOf of the program and of the reference answer alike, and the teams stay as they were; no condition beyond the form's own reach. -/
import Derived.Test.YtapmiocpkddbfaaSayFnExactClubsOf
import Derived.Test.YtapmiocpkddbfaaPureKit
namespace Go.Proofs.Ytapmiocpkddbfaa.Pure
open Go.RowKit Go.Proofs.Ytapmiocpkddbfaa.MFnExactClubsOf Go.Proofs.Ytapmiocpkddbfaa.PureKit Go.Proofs.YtapmiocpkddbfaaW.PrintWords Go.Proofs.YtapmiocpkddbfaaW.PrintLast
set_option linter.unusedSimpArgs false
set_option linter.unusedVariables false
theorem in_within (n lo hi : Int) : spec_l01In.f n lo hi = some (decide (lo ≤ n ∧ n ≤ hi)) ∧ impl_within.f n lo hi = some (decide (lo ≤ n ∧ n ≤ hi)) := by
  unfold spec_l01In.f impl_within.f
  by_cases h : lo ≤ n <;> simp [h]
theorem sz_big {n : Nat} (h : n ≤ 9223372036854775807) (hb : 1048576 < n) : wrap64 (1048576 - (n : Int)) < 0 := by rw [wrap_id (by omega) (by omega)]; omega
theorem sz_small {n : Nat} (hb : n ≤ 1048576) : ¬ wrap64 (1048576 - (n : Int)) < 0 ∧ wrap64 (1048576 - (n : Int)) = 1048576 - (n : Int) := by
  have h := wrap_id (x := 1048576 - (n : Int)) (by omega) (by omega)
  rw [h]; exact ⟨by omega, rfl⟩
theorem szTeamS_loop (l : List S100) (hn : l.length ≤ 1048576) (hs : ∀ x ∈ l, x.f0.size ≤ 9223372036854775807) (d : Nat) : ∀ (k i : Nat) (a : Int), i + d = l.length → d < k → 0 ≤ a → a ≤ 1048576 →
    ∃ r, laws_szTeamS.l0 k l a i = some r ∧ (r < 0 ∨ (0 ≤ r ∧ r ≤ 1048576 ∧ ∀ (j : Nat) (z : S100), i ≤ j → l[j]? = some z → z.f0.size ≤ 1048576)) := by
  induction d with
  | zero =>
    intro k i a hd hk h0 ha
    obtain ⟨k, rfl⟩ : ∃ m, k = m + 1 := ⟨k - 1, by omega⟩
    simp only [laws_szTeamS.l0]
    rw [if_neg (by omega)]
    refine ⟨a, rfl, Or.inr ⟨h0, ha, fun j z hj hz => ?_⟩⟩
    have := (List.getElem?_eq_some_iff.1 hz).1
    omega
  | succ d ih =>
    intro k i a hd hk h0 ha
    obtain ⟨k, rfl⟩ : ∃ m, k = m + 1 := ⟨k - 1, by omega⟩
    have hi : i < l.length := by omega
    have hlt : (i : Int) < (l.length : Int) := by omega
    have hi0 : (0 : Int) ≤ (i : Int) := by omega
    have hr : rd_T100 l (i : Int) = l[i] := getD_nat _ l i hi
    have hb := hs l[i] (List.getElem_mem hi)
    have hw : wrap64 (a - ((l[i]).f0.size : Int)) = a - ((l[i]).f0.size : Int) := wrap_id (by omega) (by omega)
    simp only [laws_szTeamS.l0, laws_szTeam.f, hlt, hi0, if_true, hr, hw, wrap_succ hi (show l.length ≤ 9223372036854775807 by omega)]
    by_cases hneg : a - ((l[i]).f0.size : Int) < 0
    · simp only [hneg, if_true, Option.bind_some]
      exact ⟨-1, rfl, Or.inl (by omega)⟩
    · simp only [hneg, if_false, Option.bind_some]
      obtain ⟨r, e, h⟩ := ih k (i + 1) (a - ((l[i]).f0.size : Int)) (by omega) (by omega) (by omega) (by omega)
      refine ⟨r, e, ?_⟩
      rcases h with h | ⟨h3, h4, h5⟩
      · exact Or.inl h
      · refine Or.inr ⟨h3, h4, fun j z hj hz => ?_⟩
        by_cases ej : j = i
        · subst ej
          rw [List.getElem?_eq_getElem hi] at hz
          cases hz
          omega
        · exact h5 j z (by omega) hz
theorem szTeamS_eq (l : List S100) (hn : l.length ≤ 9223372036854775807) (hs : ∀ x ∈ l, x.f0.size ≤ 9223372036854775807) (k : Nat) (hk : l.length < k) :
    ∃ r, laws_szTeamS.f k l 1048576 = some r ∧ (r < 0 ∨ (0 ≤ r ∧ l.length ≤ 1048576 ∧ ∀ (j : Nat) (z : S100), l[j]? = some z → z.f0.size ≤ 1048576)) := by
  unfold laws_szTeamS.f
  by_cases hb : 1048576 < l.length
  · rw [if_pos (sz_big hn hb)]; exact ⟨-1, rfl, Or.inl (by omega)⟩
  · obtain ⟨h1, h2⟩ := sz_small (show l.length ≤ 1048576 by omega)
    rw [if_neg h1, h2]
    obtain ⟨r, e, h⟩ := szTeamS_loop l (by omega) hs l.length k 0 (1048576 - (l.length : Int)) (by omega) hk (by omega) (by omega)
    refine ⟨r, e, ?_⟩
    rcases h with h | ⟨h3, h4, h5⟩
    · exact Or.inl h
    · exact Or.inr ⟨h3, by omega, fun j z hz => h5 j z (by omega) hz⟩
theorem szTeamS_le (l : List S100) (hn : l.length ≤ 9223372036854775807) (hs : ∀ x ∈ l, x.f0.size ≤ 9223372036854775807) (k : Nat) (hk : l.length < k) (r : Int) (hr : laws_szTeamS.f k l 1048576 = some r) : r ≤ 1048576 := by
  unfold laws_szTeamS.f at hr
  by_cases hb : 1048576 < l.length
  · rw [if_pos (sz_big hn hb)] at hr; cases hr; decide
  · obtain ⟨h1, h2⟩ := sz_small (show l.length ≤ 1048576 by omega)
    rw [if_neg h1, h2] at hr
    obtain ⟨r', e, h⟩ := szTeamS_loop l (by omega) hs l.length k 0 (1048576 - (l.length : Int)) (by omega) hk (by omega) (by omega)
    rw [show ((0 : Nat) : Int) = 0 from rfl] at e
    rw [e] at hr
    cases hr
    omega
def laws_toTeamS_c (x : S100) : S102 := ⟨x.f0, x.f1, x.f2⟩
theorem laws_toTeamS_loop (x0 : List S100) (hn : x0.length ≤ 9223372036854775807) (d : Nat) : ∀ (k i : Nat) (acc : List S102), acc.length = x0.length → acc.take i = (x0.take i).map laws_toTeamS_c → i + d = x0.length → d < k →
    laws_toTeamS.l0 k x0 acc i = some (x0.map laws_toTeamS_c) := by
  induction d with
  | zero =>
    intro k i acc hl ht hd hk
    obtain ⟨k, rfl⟩ : ∃ m, k = m + 1 := ⟨k - 1, by omega⟩
    simp only [laws_toTeamS.l0]
    rw [if_neg (by omega)]
    rw [List.take_of_length_le (by omega), List.take_of_length_le (by omega)] at ht
    rw [ht]
  | succ d ih =>
    intro k i acc hl ht hd hk
    obtain ⟨k, rfl⟩ : ∃ m, k = m + 1 := ⟨k - 1, by omega⟩
    have hi : i < x0.length := by omega
    simp only [laws_toTeamS.l0, laws_toTeam.f, Option.bind_some]
    rw [if_pos (by omega), if_pos (by omega), if_pos (by omega), wrap_succ hi hn, show rd_T100 x0 (i : Int) = x0[i] from getD_nat _ x0 i hi, Int.toNat_natCast]
    exact ih k (i + 1) _ (by simp [hl]) (set_copy laws_toTeamS_c x0 acc i hi hl ht) (by omega) (by omega)
theorem laws_toTeamS_eq (x0 : List S100) (hn : x0.length ≤ 8796093022208) (k : Nat) (hk : x0.length < k) : laws_toTeamS.f k x0 = some (x0.map laws_toTeamS_c) := by
  unfold laws_toTeamS.f
  rw [if_pos (by omega), if_pos (by omega)]
  exact laws_toTeamS_loop x0 (by omega) x0.length k 0 _ (by simp) (by simp) (by omega) hk
theorem laws_eqTeamS_loop (x : List S102) (hn : x.length ≤ 9223372036854775807) (d : Nat) : ∀ (k i : Nat), i + d = x.length → d < k → laws_eqTeamS.l0 k x x i = some true := by
  induction d with
  | zero =>
    intro k i hd hk
    obtain ⟨k, rfl⟩ : ∃ m, k = m + 1 := ⟨k - 1, by omega⟩
    simp only [laws_eqTeamS.l0]
    rw [if_neg (by omega)]
  | succ d ih =>
    intro k i hd hk
    obtain ⟨k, rfl⟩ : ∃ m, k = m + 1 := ⟨k - 1, by omega⟩
    simp only [laws_eqTeamS.l0, laws_eqTeam.f]
    rw [if_pos (by omega), if_pos (by omega), if_pos (by omega), wrap_succ (show i < x.length by omega) hn]
    simp only [if_true, Option.bind_some]
    exact ih k (i + 1) (by omega) (by omega)
theorem laws_eqTeamS_eq (x : List S102) (hn : x.length ≤ 9223372036854775807) (k : Nat) (hk : x.length < k) : laws_eqTeamS.f k x x = some true := by
  unfold laws_eqTeamS.f
  rw [if_pos rfl]
  exact laws_eqTeamS_loop x hn x.length k 0 (by omega) hk
theorem name_loop (s : ByteArray) (hs : s.size ≤ 9223372036854775807) (d : Nat) : ∀ (k : Nat) (i : Int), 0 ≤ i → i ≤ s.size → (s.size : Int) - i = d → d < k →
    ∃ r, spec_IsName.l0 k s i = some r ∧ impl_IsName.l0 k s s.size i = some r := by
  induction d with
  | zero =>
    intro k i h0 h1 hd hk
    obtain ⟨k, rfl⟩ : ∃ m, k = m + 1 := ⟨k - 1, by omega⟩
    simp only [spec_IsName.l0, impl_IsName.l0]
    rw [if_neg (by omega), if_neg (by omega), (in_within _ _ _).1, (in_within _ _ _).2]
    exact ⟨_, rfl, rfl⟩
  | succ d ih =>
    intro k i h0 h1 hd hk
    obtain ⟨k, rfl⟩ : ∃ m, k = m + 1 := ⟨k - 1, by omega⟩
    have hw : wrap64 (i + 1) = i + 1 := wrap_id (by omega) (by omega)
    obtain ⟨r, e1, e2⟩ := ih k (i + 1) (by omega) (by omega) (by omega) (by omega)
    have hlt : i < (s.size : Int) := by omega
    simp only [spec_IsName.l0, impl_IsName.l0, hw, e1, e2, hlt, h0, if_true]
    generalize bt s i = b
    repeat' split
    all_goals first | exact ⟨_, rfl, rfl⟩ | (exfalso; omega)
theorem names_alike (s : ByteArray) (hs : s.size ≤ 9223372036854775807) (k : Nat) (hk : s.size < k) : ∃ r, spec_IsName.f k s = some r ∧ impl_IsName.f k s = some r :=
  name_loop s hs s.size k 0 (by omega) (by omega) (by omega) (by omega)
noncomputable def nameOk (s : ByteArray) : Bool := (impl_IsName.f (s.size + 1) s).getD false
theorem names_eq (s : ByteArray) (hs : s.size ≤ 9223372036854775807) (k : Nat) (hk : s.size < k) : spec_IsName.f k s = some (nameOk s) ∧ impl_IsName.f k s = some (nameOk s) := by
  obtain ⟨r, e1, e2⟩ := names_alike s hs (s.size + 1) (by omega)
  have hr : nameOk s = r := by unfold nameOk; rw [e2]; rfl
  rw [hr]
  exact ⟨at_rounds (g := fun k => spec_IsName.f k s) (fun k => spec_IsName.mono s k) (show s.size + 1 ≤ k by omega) e1, at_rounds (g := fun k => impl_IsName.f k s) (fun k => impl_IsName.mono s k) (show s.size + 1 ≤ k by omega) e2⟩
noncomputable def teamOk (s : ByteArray) (c d : Int) : Bool := nameOk s && (decide (0 ≤ c ∧ c ≤ 5) && decide (1 ≤ d ∧ d ≤ 8))
theorem specTeam_eq (s : ByteArray) (c d : Int) (hs : s.size ≤ 9223372036854775807) (k : Nat) (hk : s.size < k) : spec_TeamOk.f k s c d = some (teamOk s c d) := by
  unfold spec_TeamOk.f teamOk
  rw [(names_eq s hs k hk).1]
  simp only [(in_within _ _ _).1, Option.bind_some]
  generalize decide (0 ≤ c ∧ c ≤ 5) = x
  cases nameOk s <;> cases x <;> rfl
theorem implTeam_eq (s : ByteArray) (c d : Int) (hs : s.size ≤ 9223372036854775807) (k : Nat) (hk : s.size < k) : impl_TeamOk.f k s c d = some (teamOk s c d) := by
  unfold impl_TeamOk.f teamOk
  rw [(names_eq s hs k hk).2]
  simp only [(in_within _ _ _).2, Option.bind_some]
  generalize decide (0 ≤ c ∧ c ≤ 5) = x
  cases nameOk s <;> cases x <;> rfl
theorem idxP_any {α : Type} (p : α → Bool) (l : List α) : (0 ≤ idxP p l) ↔ l.any p = true := by
  unfold idxP
  cases h : l.findIdx? p with
  | none =>
    rw [List.findIdx?_eq_none_iff] at h
    constructor
    · intro h0; simp at h0
    · intro ha
      obtain ⟨x, hx, hp⟩ := List.any_eq_true.1 ha
      rw [h x hx] at hp; cases hp
  | some i =>
    rw [List.findIdx?_eq_some_iff_getElem] at h
    obtain ⟨hi, hp, _⟩ := h
    exact ⟨fun _ => List.any_eq_true.2 ⟨_, List.getElem_mem hi, hp⟩, fun _ => by simp⟩
/-- The teams from i on (d of them): each valid, none with a name or a seed that stood before. -/
noncomputable def fieldFrom (l : List S102) : Nat → Nat → Bool
  | _, 0 => true
  | i, d + 1 => teamOk (rd_T102 l i).f0 (rd_T102 l i).f1 (rd_T102 l i).f2 && (!((l.take i).any (clashP (rd_T102 l i))) && fieldFrom l (i + 1) d)
noncomputable def fieldOk (l : List S102) : Bool := decide (2 ≤ l.length ∧ l.length ≤ 8) && fieldFrom l 0 l.length
theorem implField_loop (l : List S102) (hs : ∀ (j : Nat) (z : S102), l[j]? = some z → z.f0.size ≤ 1048576) (k : Nat) (hk : 1048576 < k) (d : Nat) : ∀ i : Nat, i + d = l.length →
    impl_FieldOk.l0 k l d i = some (fieldFrom l i d && decide (2 ≤ l.length ∧ l.length ≤ 8)) := by
  induction d with
  | zero =>
    intro i hd
    simp only [impl_FieldOk.l0, fieldFrom, (in_within _ _ _).2, Bool.true_and]
    congr 1
    rw [decide_eq_decide]; omega
  | succ d ih =>
    intro i hd
    have hi : i < l.length := by omega
    have hy : l[i]? = some (rd_T102 l i) := by rw [List.getElem?_eq_getElem hi]; congr 1; exact (getD_nat _ l i hi).symm
    have hb := hs i _ hy
    simp only [impl_FieldOk.l0, fieldFrom, implTeam_eq _ _ _ (show (rd_T102 l i).f0.size ≤ 9223372036854775807 by omega) k (by omega), Option.bind_some, ih (i + 1) (by omega)]
    generalize teamOk (rd_T102 l i).f0 (rd_T102 l i).f1 (rd_T102 l i).f2 = q
    cases q with
    | false => rfl
    | true =>
      rw [if_pos rfl]
      by_cases c : (l.take i).any (clashP (rd_T102 l i)) = true
      · rw [if_pos ((idxP_any _ _).2 c), c]; rfl
      · rw [if_neg (fun h => c ((idxP_any _ _).1 h)), Bool.eq_false_iff.mpr c]; rfl
theorem specField_inner (l : List S102) (hn : l.length ≤ 8) (i : Nat) (hi : i < l.length) (t : S102) (B : Nat) (R : Bool) (hN : ∀ k, B ≤ k → spec_FieldOk.l0 k l l l.length (i + 1 : Nat) = some R) (e : Nat) :
    ∀ (k j : Nat), j + e = (l.take i).length → B + e < k → spec_FieldOk.l1 k l l l.length i (l.take i) ((l.take i).length : Int) j t.f0 t.f1 t.f2 = some (!(((l.take i).drop j).any (clashP t)) && R) := by
  induction e with
  | zero =>
    intro k j he hk
    obtain ⟨k, rfl⟩ : ∃ m, k = m + 1 := ⟨k - 1, by omega⟩
    simp only [spec_FieldOk.l1]
    rw [if_neg (by omega), wrap_succ hi (by omega), hN k (by omega), List.drop_of_length_le (by omega)]
    simp
  | succ e ih =>
    intro k j he hk
    obtain ⟨k, rfl⟩ : ∃ m, k = m + 1 := ⟨k - 1, by omega⟩
    have hj : j < (l.take i).length := by omega
    have hr : rd_T102 (l.take i) (j : Int) = (l.take i)[j] := getD_nat _ _ j hj
    have hle : (l.take i).length ≤ 8 := by rw [List.length_take]; omega
    simp only [spec_FieldOk.l1]
    rw [if_pos (by omega), if_pos (by omega), if_pos (by omega), wrap_succ hj (by omega), ih k (j + 1) (by omega) (by omega), hr, List.drop_eq_getElem_cons hj, List.any_cons]
    unfold clashP
    by_cases c1 : ((l.take i)[j]).f0.toList = t.f0.toList
    · rw [if_pos c1, beq_iff_eq.mpr c1]; rfl
    · rw [if_neg c1, beq_eq_false_iff_ne.mpr c1]
      by_cases c2 : ((l.take i)[j]).f2 = t.f2
      · rw [if_pos c2, beq_iff_eq.mpr c2]; rfl
      · rw [if_neg c2, beq_eq_false_iff_ne.mpr c2]; rfl
theorem specField_loop (l : List S102) (hs : ∀ (j : Nat) (z : S102), l[j]? = some z → z.f0.size ≤ 1048576) (hn : l.length ≤ 8) (d : Nat) : ∀ (k i : Nat), i + d = l.length → 12 * d + 1048600 ≤ k →
    spec_FieldOk.l0 k l l l.length i = some (fieldFrom l i d) := by
  induction d with
  | zero =>
    intro k i hd hk
    obtain ⟨k, rfl⟩ : ∃ m, k = m + 1 := ⟨k - 1, by omega⟩
    simp only [spec_FieldOk.l0, fieldFrom]
    rw [if_neg (by omega)]
  | succ d ih =>
    intro k i hd hk
    obtain ⟨k, rfl⟩ : ∃ m, k = m + 1 := ⟨k - 1, by omega⟩
    have hi : i < l.length := by omega
    have hy : l[i]? = some (rd_T102 l i) := by rw [List.getElem?_eq_getElem hi]; congr 1; exact (getD_nat _ l i hi).symm
    have hb := hs i _ hy
    have htl : (l.take i).length = i := by rw [List.length_take]; omega
    simp only [spec_FieldOk.l0, fieldFrom, specTeam_eq _ _ _ (show (rd_T102 l i).f0.size ≤ 9223372036854775807 by omega) k (by omega), Option.bind_some, Int.toNat_natCast]
    rw [if_pos (by omega), if_pos (by omega), if_pos (by omega)]
    generalize teamOk (rd_T102 l i).f0 (rd_T102 l i).f1 (rd_T102 l i).f2 = q
    cases q with
    | false => rfl
    | true =>
      rw [if_pos rfl, if_pos (by omega)]
      have h := specField_inner l hn i hi (rd_T102 l i) (12 * d + 1048600) _ (fun k hk => ih k (i + 1) (by omega) hk) (l.take i).length k 0 (by omega) (by omega)
      rw [show ((0 : Nat) : Int) = 0 from rfl, List.drop_zero] at h
      rw [h]; rfl
theorem specField_eq (l : List S102) (hs : ∀ (j : Nat) (z : S102), l[j]? = some z → z.f0.size ≤ 1048576) (k : Nat) (hk : 1049000 ≤ k) : spec_FieldOk.f k l = some (fieldOk l) := by
  unfold spec_FieldOk.f fieldOk
  simp only [(in_within _ _ _).1, Option.bind_some, decide_eq_true_eq]
  by_cases h : 2 ≤ (l.length : Int) ∧ (l.length : Int) ≤ 8
  · rw [if_pos h, decide_eq_true (show 2 ≤ l.length ∧ l.length ≤ 8 by omega)]
    exact specField_loop l hs (by omega) l.length k 0 (by omega) (by omega)
  · rw [if_neg h, decide_eq_false (show ¬ (2 ≤ l.length ∧ l.length ≤ 8) by omega)]; rfl
theorem implField_eq (l : List S102) (hs : ∀ (j : Nat) (z : S102), l[j]? = some z → z.f0.size ≤ 1048576) (k : Nat) (hk : 1049000 ≤ k) : impl_FieldOk.f k l = some (fieldOk l) := by
  unfold impl_FieldOk.f fieldOk
  rw [Bool.and_comm]
  exact implField_loop l hs k (by omega) l.length 0 (by omega)
def upL (n : Nat) : List Int := (List.range n).map (fun j : Nat => (j : Int))
theorem upL_len (n : Nat) : (upL n).length = n := by simp [upL]
theorem upL_succ (n : Nat) : upL (n + 1) = upL n ++ [(n : Int)] := by simp [upL, List.range_succ]
theorem mem_upL {n : Nat} {x : Int} (h : x ∈ upL n) : 0 ≤ x ∧ x < n := by
  unfold upL at h
  obtain ⟨j, hj, rfl⟩ := List.mem_map.1 h
  have := List.mem_range.1 hj
  omega
def clubP (l : List S102) (club : Int) (i : Int) : Bool := (rd_T102 l i).f1 != club
/-- The places below i of the teams of the association. -/
def clubL (l : List S102) (club : Int) (i : Nat) : List Int := (upL i).filter fun j => !clubP l club j
theorem clubL_len (l : List S102) (club : Int) (i : Nat) : (clubL l club i).length ≤ i := by
  have := List.length_filter_le (fun j => !clubP l club j) (upL i)
  rwa [upL_len] at this
theorem specClub_loop (l : List S102) (club : Int) (hn : l.length ≤ 1000000000) (d : Nat) : ∀ (k i : Nat), i + d = l.length → d < k →
    spec_OfClub.l0 k club (clubL l club i) l l.length i = some (clubL l club l.length) := by
  induction d with
  | zero =>
    intro k i hd hk
    obtain ⟨k, rfl⟩ : ∃ m, k = m + 1 := ⟨k - 1, by omega⟩
    simp only [spec_OfClub.l0]
    rw [if_neg (by omega), show i = l.length by omega]
  | succ d ih =>
    intro k i hd hk
    obtain ⟨k, rfl⟩ : ∃ m, k = m + 1 := ⟨k - 1, by omega⟩
    have hi : i < l.length := by omega
    have hw := clubL_len l club i
    have e := ih k (i + 1) (by omega) (by omega)
    have es : clubL l club (i + 1) = clubL l club i ++ if (rd_T102 l (i : Int)).f1 = club then [(i : Int)] else [] := by
      unfold clubL
      rw [upL_succ, List.filter_append]
      congr 1
      by_cases c : (rd_T102 l (i : Int)).f1 = club
      · rw [if_pos c]; simp [clubP, c]
      · rw [if_neg c]; simp [clubP, c]
    simp only [spec_OfClub.l0]
    rw [if_pos (by omega), if_pos (by omega), if_pos (by omega), wrap_succ hi (by omega)]
    by_cases c : (rd_T102 l (i : Int)).f1 = club
    · rw [if_pos c] at es
      rw [if_pos c, if_pos (by omega), ← es]
      exact e
    · rw [if_neg c, List.append_nil] at es
      rw [if_neg c, ← es]
      exact e
noncomputable def ofClub (l : List S102) (club : Int) : List Int := if fieldOk l = true then clubL l club l.length else []
theorem ofClub_len (l : List S102) (club : Int) : (ofClub l club).length ≤ l.length := by
  unfold ofClub
  split
  · exact clubL_len l club l.length
  · simp
theorem specClub_eq (l : List S102) (club : Int) (hn : l.length ≤ 1048576) (hs : ∀ (j : Nat) (z : S102), l[j]? = some z → z.f0.size ≤ 1048576) (k : Nat) (hk : 1049000 ≤ k) : spec_OfClub.f k l club = some (ofClub l club) := by
  unfold spec_OfClub.f ofClub
  rw [specField_eq l hs k hk]
  simp only [Option.bind_some]
  split
  · exact specClub_loop l club (by omega) l.length k 0 (by omega) (by omega)
  · rfl
theorem fieldFrom_all (l : List S102) (d : Nat) : ∀ i : Nat, i + d = l.length → fieldFrom l i d = true → ∀ j, i ≤ j → j < l.length → teamOk (rd_T102 l j).f0 (rd_T102 l j).f1 (rd_T102 l j).f2 = true := by
  induction d with
  | zero => intro i hd _ j h1 h2; omega
  | succ d ih =>
    intro i hd h j h1 h2
    simp only [fieldFrom, Bool.and_eq_true] at h
    by_cases e : j = i
    · rw [e]; exact h.1
    · exact ih (i + 1) (by omega) h.2.2 j (by omega) h2
theorem fieldOk_team (l : List S102) (h : fieldOk l = true) : ∀ t ∈ l, teamOk t.f0 t.f1 t.f2 = true := by
  intro t ht
  obtain ⟨j, hj, rfl⟩ := List.mem_iff_getElem.1 ht
  unfold fieldOk at h
  rw [Bool.and_eq_true] at h
  have := fieldFrom_all l l.length 0 (by omega) h.2 j (by omega) hj
  rwa [show rd_T102 l (j : Int) = l[j] from getD_nat _ l j hj] at this
theorem fieldOk_len (l : List S102) (h : fieldOk l = true) : 2 ≤ l.length ∧ l.length ≤ 8 := by
  unfold fieldOk at h
  rw [Bool.and_eq_true] at h
  exact of_decide_eq_true h.1
def hasClub (l : List S102) (c : Int) : Bool := l.any (fun t => t.f1 == c)
theorem clubL_pos (l : List S102) (c : Int) : (((clubL l c l.length).length : Int) > 0) ↔ hasClub l c = true := by
  unfold hasClub
  rw [List.any_eq_true]
  constructor
  · intro h
    obtain ⟨j, hj⟩ : ∃ j, j ∈ clubL l c l.length := by
      cases e : clubL l c l.length with
      | nil => rw [e] at h; simp at h
      | cons a r => exact ⟨a, by simp⟩
    unfold clubL at hj
    obtain ⟨h1, h2⟩ := List.mem_filter.1 hj
    unfold upL at h1
    obtain ⟨i, hi, rfl⟩ := List.mem_map.1 h1
    have hi := List.mem_range.1 hi
    refine ⟨l[i], List.getElem_mem hi, ?_⟩
    simp only [clubP, show rd_T102 l (i : Int) = l[i] from getD_nat _ l i hi] at h2
    simpa using h2
  · rintro ⟨t, ht, hc⟩
    obtain ⟨i, hi, rfl⟩ := List.mem_iff_getElem.1 ht
    have : (i : Int) ∈ clubL l c l.length := by
      unfold clubL
      refine List.mem_filter.2 ⟨?_, ?_⟩
      · exact List.mem_map.2 ⟨i, List.mem_range.2 hi, rfl⟩
      · simp only [clubP, show rd_T102 l (i : Int) = l[i] from getD_nat _ l i hi]
        simpa using hc
    have := List.length_pos_of_mem this
    omega
def one (b : Bool) : Int := if b = true then 1 else 0
def cnt6 (p : Int → Bool) : Int := one (p 0) + one (p 1) + one (p 2) + one (p 3) + one (p 4) + one (p 5)
theorem specClubs_step (l : List S102) (hl : l.length ≤ 1048576) (hs : ∀ (j : Nat) (z : S102), l[j]? = some z → z.f0.size ≤ 1048576) (hf : fieldOk l = true) (k : Nat) (hk : 1049000 ≤ k) (n c : Int) (h0 : 0 ≤ n) (h1 : n ≤ 100) (hc0 : 0 ≤ c) (hc : c < 6) :
    spec_ClubsOf.l0 (k + 1) l n c = spec_ClubsOf.l0 k l (n + one (hasClub l c)) (c + 1) := by
  simp only [spec_ClubsOf.l0]
  rw [if_pos hc, specClub_eq l c hl hs k hk]
  simp only [Option.bind_some, ofClub, hf, if_true]
  rw [wrap_id (x := c + 1) (by omega) (by omega), wrap_id (x := n + 1) (by omega) (by omega)]
  by_cases h : hasClub l c = true
  · rw [if_pos ((clubL_pos l c).2 h), h]; rfl
  · rw [if_neg (fun h' => h ((clubL_pos l c).1 h')), Bool.eq_false_iff.mpr h]
    simp [one]
theorem one_le (b : Bool) : 0 ≤ one b ∧ one b ≤ 1 := by cases b <;> simp [one]
theorem specClubs_eq (l : List S102) (hl : l.length ≤ 1048576) (hs : ∀ (j : Nat) (z : S102), l[j]? = some z → z.f0.size ≤ 1048576) (k : Nat) (hk : 1049100 ≤ k) :
    spec_ClubsOf.f k l = some (if fieldOk l = true then cnt6 (hasClub l) else 0) := by
  unfold spec_ClubsOf.f
  rw [specField_eq l hs k (by omega)]
  simp only [Option.bind_some]
  by_cases hf : fieldOk l = true
  · rw [if_pos hf, if_pos hf]
    obtain ⟨k, rfl⟩ : ∃ m, k = m + 7 := ⟨k - 7, by omega⟩
    have b0 := one_le (hasClub l 0); have b1 := one_le (hasClub l (0 + 1)); have b2 := one_le (hasClub l (0 + 1 + 1)); have b3 := one_le (hasClub l (0 + 1 + 1 + 1)); have b4 := one_le (hasClub l (0 + 1 + 1 + 1 + 1))
    refine (specClubs_step l hl hs hf (k + 6) (by omega) _ _ ?_ ?_ ?_ ?_).trans ?_
    iterate 4 omega
    refine (specClubs_step l hl hs hf (k + 5) (by omega) _ _ ?_ ?_ ?_ ?_).trans ?_
    iterate 4 omega
    refine (specClubs_step l hl hs hf (k + 4) (by omega) _ _ ?_ ?_ ?_ ?_).trans ?_
    iterate 4 omega
    refine (specClubs_step l hl hs hf (k + 3) (by omega) _ _ ?_ ?_ ?_ ?_).trans ?_
    iterate 4 omega
    refine (specClubs_step l hl hs hf (k + 2) (by omega) _ _ ?_ ?_ ?_ ?_).trans ?_
    iterate 4 omega
    refine (specClubs_step l hl hs hf (k + 1) (by omega) _ _ ?_ ?_ ?_ ?_).trans ?_
    iterate 4 omega
    simp only [spec_ClubsOf.l0]
    rw [if_neg (by omega)]
    simp only [cnt6]
    congr 1
    simp only [Int.zero_add]
    rfl
  · rw [if_neg hf, if_neg hf]
def inB (L : List Lit) (c : Int) : Bool := L.any (fun y => y.sameKey (.int .i64 c))
theorem sameKey_i (a b : Int) : (Lit.int .i64 a).sameKey (.int .i64 b) = (a == b) := by
  simp [Lit.sameKey]
  rw [Bool.eq_iff_iff]; simp
theorem inB_add (L : List Lit) (x c : Int) : inB (Go.Maps.addKey L (.int .i64 x)) c = (inB L c || (x == c)) := by
  unfold Go.Maps.addKey
  by_cases h : (L.any fun y => y.sameKey (.int .i64 x)) = true
  · rw [if_pos h]
    by_cases e : x = c
    · subst e
      have : inB L x = true := h
      rw [this]; rfl
    · simp [e]
  · rw [if_neg h]
    simp [inB, sameKey_i]
theorem len_add (L : List Lit) (x : Int) (h0 : 0 ≤ x) (h1 : x ≤ 5) (h : (L.length : Int) = cnt6 (inB L)) : ((Go.Maps.addKey L (.int .i64 x)).length : Int) = cnt6 (inB (Go.Maps.addKey L (.int .i64 x))) := by
  have hi := inB_add L x
  by_cases hx : inB L x = true
  · have e : Go.Maps.addKey L (.int .i64 x) = L := by unfold Go.Maps.addKey; exact if_pos hx
    rw [e]; exact h
  · have e : Go.Maps.addKey L (.int .i64 x) = L ++ [.int .i64 x] := by unfold Go.Maps.addKey; exact if_neg hx
    have hx := Bool.eq_false_iff.mpr hx
    simp only [cnt6, hi]
    rw [e, List.length_append]
    have h' : ((L.length + 1 : Nat) : Int) = cnt6 (inB L) + 1 := by omega
    show ((L.length + 1 : Nat) : Int) = _
    rw [h']
    have hc : x = 0 ∨ x = 1 ∨ x = 2 ∨ x = 3 ∨ x = 4 ∨ x = 5 := by omega
    rcases hc with rfl | rfl | rfl | rfl | rfl | rfl <;> simp [cnt6, hx, one] <;> omega
theorem fold_add (ms : List S102) (hm : ∀ t ∈ ms, 0 ≤ t.f1 ∧ t.f1 ≤ 5) : ∀ L : List Lit, (L.length : Int) = cnt6 (inB L) →
    ((((ms.map fun t => Lit.int .i64 t.f1).foldl Go.Maps.addKey L).length : Nat) : Int) = cnt6 (fun c => inB L c || hasClub ms c) := by
  induction ms with
  | nil => intro L h; simpa [hasClub] using h
  | cons t r ih =>
    intro L h
    have ht := hm t (by simp)
    rw [List.map_cons, List.foldl_cons, ih (fun t h => hm t (by simp [h])) _ (len_add L t.f1 ht.1 ht.2 h)]
    congr 1
    funext c
    rw [inB_add]
    simp [hasClub, Bool.or_assoc]
theorem implClubs_eq (l : List S102) (hs : ∀ (j : Nat) (z : S102), l[j]? = some z → z.f0.size ≤ 1048576) (k : Nat) (hk : 1049000 ≤ k) :
    impl_ClubsOf.f k l = some (if fieldOk l = true then cnt6 (hasClub l) else 0) := by
  unfold impl_ClubsOf.f
  rw [implField_eq l hs k hk]
  simp only [Option.bind_some]
  by_cases hf : fieldOk l = true
  · rw [if_pos hf, if_pos hf]
    have hm : ∀ t ∈ l, 0 ≤ t.f1 ∧ t.f1 ≤ 5 := by
      intro t ht
      have := fieldOk_team l hf t ht
      unfold teamOk at this
      simp only [Bool.and_eq_true, decide_eq_true_eq] at this
      omega
    rw [if_pos (by
      rw [List.all_eq_true]
      intro t ht
      have := hm t ht
      have hw : wrap64 t.f1 = t.f1 := wrap_id (by omega) (by omega)
      rw [← hw]
      exact wrap64_wf t.f1)]
    congr 1
    unfold impl_ClubsOf.count impl_ClubsOf.keys
    rw [List.take_length, fold_add l hm [] (by simp [cnt6, inB, one])]
    congr 1
  · rw [if_neg hf, if_neg hf]
theorem FnExactClubsOf : FnExactClubsOf_pure := by
  intro l hl hs
  unfold maxLen at hl
  refine ⟨l.length + 1049200, ?_⟩
  unfold laws_FnExactClubsOf.f
  obtain ⟨r, e0, h⟩ := szTeamS_eq l (by omega) (fun x hx => (hs x hx).1) (l.length + 1049200) (by omega)
  rw [e0]
  simp only [Option.bind_some]
  rcases h with h | ⟨h3, h4, h5⟩
  · rw [if_pos h]
  · rw [if_neg (by omega)]
    have e := laws_toTeamS_eq l (by omega) (l.length + 1049200) (by omega)
    have hz : ∀ (j : Nat) (z : S102), (l.map laws_toTeamS_c)[j]? = some z → z.f0.size ≤ 1048576 := by
      intro j z hz
      rw [List.getElem?_map] at hz
      obtain ⟨y, hy, rfl⟩ := Option.map_eq_some_iff.1 hz
      exact h5 j y hy
    generalize hm : l.map laws_toTeamS_c = m at e hz
    have hml : m.length = l.length := by rw [← hm]; simp
    have e1 := specClubs_eq m (by omega) hz (l.length + 1049200) (by omega)
    have e2 := implClubs_eq m hz (l.length + 1049200) (by omega)
    have eq := laws_eqTeamS_eq m (by omega) (l.length + 1049200) (by omega)
    simp only [Option.bind_some, e, e1, e2, eq, if_true]

end Go.Proofs.Ytapmiocpkddbfaa.Pure
