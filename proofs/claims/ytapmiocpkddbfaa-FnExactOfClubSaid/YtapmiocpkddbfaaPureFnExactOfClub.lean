/- Whatever the teams and the association: OfClub of the program and of the reference answer alike, in memory of its own at each call, and the teams stay as they were; no condition beyond the form's own reach. -/
import Derived.Test.YtapmiocpkddbfaaSayFnExactOfClub
import Derived.Test.YtapmiocpkddbfaaPureKit
namespace Go.Proofs.Ytapmiocpkddbfaa.Pure
open Go.RowKit Go.Proofs.Ytapmiocpkddbfaa.MFnExactOfClub Go.Proofs.Ytapmiocpkddbfaa.PureKit Go.Proofs.YtapmiocpkddbfaaW.PrintWords Go.Proofs.YtapmiocpkddbfaaW.PrintLast
set_option linter.unusedSimpArgs false
set_option linter.unusedVariables false
theorem in_within (n lo hi : Int) : spec_l01In.f n lo hi = some (decide (lo ≤ n ∧ n ≤ hi)) ∧ impl_within.f n lo hi = some (decide (lo ≤ n ∧ n ≤ hi)) := by
  unfold spec_l01In.f impl_within.f
  by_cases h : lo ≤ n <;> simp [h]
theorem sz_big {n : Nat} (h : n ≤ 9223372036854775807) (hb : 1048576 < n) : wrap64 (1048576 - (n : Int)) < 0 := by rw [wrap_id (by omega) (by omega)]; omega
theorem sz_small {n : Nat} (hb : n ≤ 1048576) : ¬ wrap64 (1048576 - (n : Int)) < 0 ∧ wrap64 (1048576 - (n : Int)) = 1048576 - (n : Int) := by
  have h := wrap_id (x := 1048576 - (n : Int)) (by omega) (by omega)
  rw [h]; exact ⟨by omega, rfl⟩
theorem szTeamS_loop (l : List S100) (hn : l.length ≤ 1048576) (hs : ∀ x ∈ l, x.f0.size ≤ 9223372036854775807) (d : Nat) : ∀ (k i : Nat) (a : Int), i + d = l.length → d < k → 0 ≤ a → a ≤ 1048576 →
    ∃ r, laws_szTeamS.l0 k l a i = some r ∧ (r < 0 ∨ (0 ≤ r ∧ r ≤ 1048576 ∧ ∀ (j : Nat) (z : S100), i ≤ j → l[j]? = some z → z.f0.size ≤ 1048576)) := by
  induction d with
  | zero =>
    intro k i a hd hk h0 ha
    obtain ⟨k, rfl⟩ : ∃ m, k = m + 1 := ⟨k - 1, by omega⟩
    simp only [laws_szTeamS.l0]
    rw [if_neg (by omega)]
    refine ⟨a, rfl, Or.inr ⟨h0, ha, fun j z hj hz => ?_⟩⟩
    have := (List.getElem?_eq_some_iff.1 hz).1
    omega
  | succ d ih =>
    intro k i a hd hk h0 ha
    obtain ⟨k, rfl⟩ : ∃ m, k = m + 1 := ⟨k - 1, by omega⟩
    have hi : i < l.length := by omega
    have hlt : (i : Int) < (l.length : Int) := by omega
    have hi0 : (0 : Int) ≤ (i : Int) := by omega
    have hr : rd_T100 l (i : Int) = l[i] := getD_nat _ l i hi
    have hb := hs l[i] (List.getElem_mem hi)
    have hw : wrap64 (a - ((l[i]).f0.size : Int)) = a - ((l[i]).f0.size : Int) := wrap_id (by omega) (by omega)
    simp only [laws_szTeamS.l0, laws_szTeam.f, hlt, hi0, if_true, hr, hw, wrap_succ hi (show l.length ≤ 9223372036854775807 by omega)]
    by_cases hneg : a - ((l[i]).f0.size : Int) < 0
    · simp only [hneg, if_true, Option.bind_some]
      exact ⟨-1, rfl, Or.inl (by omega)⟩
    · simp only [hneg, if_false, Option.bind_some]
      obtain ⟨r, e, h⟩ := ih k (i + 1) (a - ((l[i]).f0.size : Int)) (by omega) (by omega) (by omega) (by omega)
      refine ⟨r, e, ?_⟩
      rcases h with h | ⟨h3, h4, h5⟩
      · exact Or.inl h
      · refine Or.inr ⟨h3, h4, fun j z hj hz => ?_⟩
        by_cases ej : j = i
        · subst ej
          rw [List.getElem?_eq_getElem hi] at hz
          cases hz
          omega
        · exact h5 j z (by omega) hz
theorem szTeamS_eq (l : List S100) (hn : l.length ≤ 9223372036854775807) (hs : ∀ x ∈ l, x.f0.size ≤ 9223372036854775807) (k : Nat) (hk : l.length < k) :
    ∃ r, laws_szTeamS.f k l 1048576 = some r ∧ (r < 0 ∨ (0 ≤ r ∧ l.length ≤ 1048576 ∧ ∀ (j : Nat) (z : S100), l[j]? = some z → z.f0.size ≤ 1048576)) := by
  unfold laws_szTeamS.f
  by_cases hb : 1048576 < l.length
  · rw [if_pos (sz_big hn hb)]; exact ⟨-1, rfl, Or.inl (by omega)⟩
  · obtain ⟨h1, h2⟩ := sz_small (show l.length ≤ 1048576 by omega)
    rw [if_neg h1, h2]
    obtain ⟨r, e, h⟩ := szTeamS_loop l (by omega) hs l.length k 0 (1048576 - (l.length : Int)) (by omega) hk (by omega) (by omega)
    refine ⟨r, e, ?_⟩
    rcases h with h | ⟨h3, h4, h5⟩
    · exact Or.inl h
    · exact Or.inr ⟨h3, by omega, fun j z hz => h5 j z (by omega) hz⟩
theorem szTeamS_le (l : List S100) (hn : l.length ≤ 9223372036854775807) (hs : ∀ x ∈ l, x.f0.size ≤ 9223372036854775807) (k : Nat) (hk : l.length < k) (r : Int) (hr : laws_szTeamS.f k l 1048576 = some r) : r ≤ 1048576 := by
  unfold laws_szTeamS.f at hr
  by_cases hb : 1048576 < l.length
  · rw [if_pos (sz_big hn hb)] at hr; cases hr; decide
  · obtain ⟨h1, h2⟩ := sz_small (show l.length ≤ 1048576 by omega)
    rw [if_neg h1, h2] at hr
    obtain ⟨r', e, h⟩ := szTeamS_loop l (by omega) hs l.length k 0 (1048576 - (l.length : Int)) (by omega) hk (by omega) (by omega)
    rw [show ((0 : Nat) : Int) = 0 from rfl] at e
    rw [e] at hr
    cases hr
    omega
def laws_toTeamS_c (x : S100) : S102 := ⟨x.f0, x.f1, x.f2⟩
theorem laws_toTeamS_loop (x0 : List S100) (hn : x0.length ≤ 9223372036854775807) (d : Nat) : ∀ (k i : Nat) (acc : List S102), acc.length = x0.length → acc.take i = (x0.take i).map laws_toTeamS_c → i + d = x0.length → d < k →
    laws_toTeamS.l0 k x0 acc i = some (x0.map laws_toTeamS_c) := by
  induction d with
  | zero =>
    intro k i acc hl ht hd hk
    obtain ⟨k, rfl⟩ : ∃ m, k = m + 1 := ⟨k - 1, by omega⟩
    simp only [laws_toTeamS.l0]
    rw [if_neg (by omega)]
    rw [List.take_of_length_le (by omega), List.take_of_length_le (by omega)] at ht
    rw [ht]
  | succ d ih =>
    intro k i acc hl ht hd hk
    obtain ⟨k, rfl⟩ : ∃ m, k = m + 1 := ⟨k - 1, by omega⟩
    have hi : i < x0.length := by omega
    simp only [laws_toTeamS.l0, laws_toTeam.f, Option.bind_some]
    rw [if_pos (by omega), if_pos (by omega), if_pos (by omega), wrap_succ hi hn, show rd_T100 x0 (i : Int) = x0[i] from getD_nat _ x0 i hi, Int.toNat_natCast]
    exact ih k (i + 1) _ (by simp [hl]) (set_copy laws_toTeamS_c x0 acc i hi hl ht) (by omega) (by omega)
theorem laws_toTeamS_eq (x0 : List S100) (hn : x0.length ≤ 8796093022208) (k : Nat) (hk : x0.length < k) : laws_toTeamS.f k x0 = some (x0.map laws_toTeamS_c) := by
  unfold laws_toTeamS.f
  rw [if_pos (by omega), if_pos (by omega)]
  exact laws_toTeamS_loop x0 (by omega) x0.length k 0 _ (by simp) (by simp) (by omega) hk
theorem laws_eqTeamS_loop (x : List S102) (hn : x.length ≤ 9223372036854775807) (d : Nat) : ∀ (k i : Nat), i + d = x.length → d < k → laws_eqTeamS.l0 k x x i = some true := by
  induction d with
  | zero =>
    intro k i hd hk
    obtain ⟨k, rfl⟩ : ∃ m, k = m + 1 := ⟨k - 1, by omega⟩
    simp only [laws_eqTeamS.l0]
    rw [if_neg (by omega)]
  | succ d ih =>
    intro k i hd hk
    obtain ⟨k, rfl⟩ : ∃ m, k = m + 1 := ⟨k - 1, by omega⟩
    simp only [laws_eqTeamS.l0, laws_eqTeam.f]
    rw [if_pos (by omega), if_pos (by omega), if_pos (by omega), wrap_succ (show i < x.length by omega) hn]
    simp only [if_true, Option.bind_some]
    exact ih k (i + 1) (by omega) (by omega)
theorem laws_eqTeamS_eq (x : List S102) (hn : x.length ≤ 9223372036854775807) (k : Nat) (hk : x.length < k) : laws_eqTeamS.f k x x = some true := by
  unfold laws_eqTeamS.f
  rw [if_pos rfl]
  exact laws_eqTeamS_loop x hn x.length k 0 (by omega) hk
theorem name_loop (s : ByteArray) (hs : s.size ≤ 9223372036854775807) (d : Nat) : ∀ (k : Nat) (i : Int), 0 ≤ i → i ≤ s.size → (s.size : Int) - i = d → d < k →
    ∃ r, spec_IsName.l0 k s i = some r ∧ impl_IsName.l0 k s s.size i = some r := by
  induction d with
  | zero =>
    intro k i h0 h1 hd hk
    obtain ⟨k, rfl⟩ : ∃ m, k = m + 1 := ⟨k - 1, by omega⟩
    simp only [spec_IsName.l0, impl_IsName.l0]
    rw [if_neg (by omega), if_neg (by omega), (in_within _ _ _).1, (in_within _ _ _).2]
    exact ⟨_, rfl, rfl⟩
  | succ d ih =>
    intro k i h0 h1 hd hk
    obtain ⟨k, rfl⟩ : ∃ m, k = m + 1 := ⟨k - 1, by omega⟩
    have hw : wrap64 (i + 1) = i + 1 := wrap_id (by omega) (by omega)
    obtain ⟨r, e1, e2⟩ := ih k (i + 1) (by omega) (by omega) (by omega) (by omega)
    have hlt : i < (s.size : Int) := by omega
    simp only [spec_IsName.l0, impl_IsName.l0, hw, e1, e2, hlt, h0, if_true]
    generalize bt s i = b
    repeat' split
    all_goals first | exact ⟨_, rfl, rfl⟩ | (exfalso; omega)
theorem names_alike (s : ByteArray) (hs : s.size ≤ 9223372036854775807) (k : Nat) (hk : s.size < k) : ∃ r, spec_IsName.f k s = some r ∧ impl_IsName.f k s = some r :=
  name_loop s hs s.size k 0 (by omega) (by omega) (by omega) (by omega)
noncomputable def nameOk (s : ByteArray) : Bool := (impl_IsName.f (s.size + 1) s).getD false
theorem names_eq (s : ByteArray) (hs : s.size ≤ 9223372036854775807) (k : Nat) (hk : s.size < k) : spec_IsName.f k s = some (nameOk s) ∧ impl_IsName.f k s = some (nameOk s) := by
  obtain ⟨r, e1, e2⟩ := names_alike s hs (s.size + 1) (by omega)
  have hr : nameOk s = r := by unfold nameOk; rw [e2]; rfl
  rw [hr]
  exact ⟨at_rounds (g := fun k => spec_IsName.f k s) (fun k => spec_IsName.mono s k) (show s.size + 1 ≤ k by omega) e1, at_rounds (g := fun k => impl_IsName.f k s) (fun k => impl_IsName.mono s k) (show s.size + 1 ≤ k by omega) e2⟩
noncomputable def teamOk (s : ByteArray) (c d : Int) : Bool := nameOk s && (decide (0 ≤ c ∧ c ≤ 5) && decide (1 ≤ d ∧ d ≤ 8))
theorem specTeam_eq (s : ByteArray) (c d : Int) (hs : s.size ≤ 9223372036854775807) (k : Nat) (hk : s.size < k) : spec_TeamOk.f k s c d = some (teamOk s c d) := by
  unfold spec_TeamOk.f teamOk
  rw [(names_eq s hs k hk).1]
  simp only [(in_within _ _ _).1, Option.bind_some]
  generalize decide (0 ≤ c ∧ c ≤ 5) = x
  cases nameOk s <;> cases x <;> rfl
theorem implTeam_eq (s : ByteArray) (c d : Int) (hs : s.size ≤ 9223372036854775807) (k : Nat) (hk : s.size < k) : impl_TeamOk.f k s c d = some (teamOk s c d) := by
  unfold impl_TeamOk.f teamOk
  rw [(names_eq s hs k hk).2]
  simp only [(in_within _ _ _).2, Option.bind_some]
  generalize decide (0 ≤ c ∧ c ≤ 5) = x
  cases nameOk s <;> cases x <;> rfl
theorem idxP_any {α : Type} (p : α → Bool) (l : List α) : (0 ≤ idxP p l) ↔ l.any p = true := by
  unfold idxP
  cases h : l.findIdx? p with
  | none =>
    rw [List.findIdx?_eq_none_iff] at h
    constructor
    · intro h0; simp at h0
    · intro ha
      obtain ⟨x, hx, hp⟩ := List.any_eq_true.1 ha
      rw [h x hx] at hp; cases hp
  | some i =>
    rw [List.findIdx?_eq_some_iff_getElem] at h
    obtain ⟨hi, hp, _⟩ := h
    exact ⟨fun _ => List.any_eq_true.2 ⟨_, List.getElem_mem hi, hp⟩, fun _ => by simp⟩
/-- The teams from i on (d of them): each valid, none with a name or a seed that stood before. -/
noncomputable def fieldFrom (l : List S102) : Nat → Nat → Bool
  | _, 0 => true
  | i, d + 1 => teamOk (rd_T102 l i).f0 (rd_T102 l i).f1 (rd_T102 l i).f2 && (!((l.take i).any (clashP (rd_T102 l i))) && fieldFrom l (i + 1) d)
noncomputable def fieldOk (l : List S102) : Bool := decide (2 ≤ l.length ∧ l.length ≤ 8) && fieldFrom l 0 l.length
theorem implField_loop (l : List S102) (hs : ∀ (j : Nat) (z : S102), l[j]? = some z → z.f0.size ≤ 1048576) (k : Nat) (hk : 1048576 < k) (d : Nat) : ∀ i : Nat, i + d = l.length →
    impl_FieldOk.l0 k l d i = some (fieldFrom l i d && decide (2 ≤ l.length ∧ l.length ≤ 8)) := by
  induction d with
  | zero =>
    intro i hd
    simp only [impl_FieldOk.l0, fieldFrom, (in_within _ _ _).2, Bool.true_and]
    congr 1
    rw [decide_eq_decide]; omega
  | succ d ih =>
    intro i hd
    have hi : i < l.length := by omega
    have hy : l[i]? = some (rd_T102 l i) := by rw [List.getElem?_eq_getElem hi]; congr 1; exact (getD_nat _ l i hi).symm
    have hb := hs i _ hy
    simp only [impl_FieldOk.l0, fieldFrom, implTeam_eq _ _ _ (show (rd_T102 l i).f0.size ≤ 9223372036854775807 by omega) k (by omega), Option.bind_some, ih (i + 1) (by omega)]
    generalize teamOk (rd_T102 l i).f0 (rd_T102 l i).f1 (rd_T102 l i).f2 = q
    cases q with
    | false => rfl
    | true =>
      rw [if_pos rfl]
      by_cases c : (l.take i).any (clashP (rd_T102 l i)) = true
      · rw [if_pos ((idxP_any _ _).2 c), c]; rfl
      · rw [if_neg (fun h => c ((idxP_any _ _).1 h)), Bool.eq_false_iff.mpr c]; rfl
theorem specField_inner (l : List S102) (hn : l.length ≤ 8) (i : Nat) (hi : i < l.length) (t : S102) (B : Nat) (R : Bool) (hN : ∀ k, B ≤ k → spec_FieldOk.l0 k l l l.length (i + 1 : Nat) = some R) (e : Nat) :
    ∀ (k j : Nat), j + e = (l.take i).length → B + e < k → spec_FieldOk.l1 k l l l.length i (l.take i) ((l.take i).length : Int) j t.f0 t.f1 t.f2 = some (!(((l.take i).drop j).any (clashP t)) && R) := by
  induction e with
  | zero =>
    intro k j he hk
    obtain ⟨k, rfl⟩ : ∃ m, k = m + 1 := ⟨k - 1, by omega⟩
    simp only [spec_FieldOk.l1]
    rw [if_neg (by omega), wrap_succ hi (by omega), hN k (by omega), List.drop_of_length_le (by omega)]
    simp
  | succ e ih =>
    intro k j he hk
    obtain ⟨k, rfl⟩ : ∃ m, k = m + 1 := ⟨k - 1, by omega⟩
    have hj : j < (l.take i).length := by omega
    have hr : rd_T102 (l.take i) (j : Int) = (l.take i)[j] := getD_nat _ _ j hj
    have hle : (l.take i).length ≤ 8 := by rw [List.length_take]; omega
    simp only [spec_FieldOk.l1]
    rw [if_pos (by omega), if_pos (by omega), if_pos (by omega), wrap_succ hj (by omega), ih k (j + 1) (by omega) (by omega), hr, List.drop_eq_getElem_cons hj, List.any_cons]
    unfold clashP
    by_cases c1 : ((l.take i)[j]).f0.toList = t.f0.toList
    · rw [if_pos c1, beq_iff_eq.mpr c1]; rfl
    · rw [if_neg c1, beq_eq_false_iff_ne.mpr c1]
      by_cases c2 : ((l.take i)[j]).f2 = t.f2
      · rw [if_pos c2, beq_iff_eq.mpr c2]; rfl
      · rw [if_neg c2, beq_eq_false_iff_ne.mpr c2]; rfl
theorem specField_loop (l : List S102) (hs : ∀ (j : Nat) (z : S102), l[j]? = some z → z.f0.size ≤ 1048576) (hn : l.length ≤ 8) (d : Nat) : ∀ (k i : Nat), i + d = l.length → 12 * d + 1048600 ≤ k →
    spec_FieldOk.l0 k l l l.length i = some (fieldFrom l i d) := by
  induction d with
  | zero =>
    intro k i hd hk
    obtain ⟨k, rfl⟩ : ∃ m, k = m + 1 := ⟨k - 1, by omega⟩
    simp only [spec_FieldOk.l0, fieldFrom]
    rw [if_neg (by omega)]
  | succ d ih =>
    intro k i hd hk
    obtain ⟨k, rfl⟩ : ∃ m, k = m + 1 := ⟨k - 1, by omega⟩
    have hi : i < l.length := by omega
    have hy : l[i]? = some (rd_T102 l i) := by rw [List.getElem?_eq_getElem hi]; congr 1; exact (getD_nat _ l i hi).symm
    have hb := hs i _ hy
    have htl : (l.take i).length = i := by rw [List.length_take]; omega
    simp only [spec_FieldOk.l0, fieldFrom, specTeam_eq _ _ _ (show (rd_T102 l i).f0.size ≤ 9223372036854775807 by omega) k (by omega), Option.bind_some, Int.toNat_natCast]
    rw [if_pos (by omega), if_pos (by omega), if_pos (by omega)]
    generalize teamOk (rd_T102 l i).f0 (rd_T102 l i).f1 (rd_T102 l i).f2 = q
    cases q with
    | false => rfl
    | true =>
      rw [if_pos rfl, if_pos (by omega)]
      have h := specField_inner l hn i hi (rd_T102 l i) (12 * d + 1048600) _ (fun k hk => ih k (i + 1) (by omega) hk) (l.take i).length k 0 (by omega) (by omega)
      rw [show ((0 : Nat) : Int) = 0 from rfl, List.drop_zero] at h
      rw [h]; rfl
theorem specField_eq (l : List S102) (hs : ∀ (j : Nat) (z : S102), l[j]? = some z → z.f0.size ≤ 1048576) (k : Nat) (hk : 1049000 ≤ k) : spec_FieldOk.f k l = some (fieldOk l) := by
  unfold spec_FieldOk.f fieldOk
  simp only [(in_within _ _ _).1, Option.bind_some, decide_eq_true_eq]
  by_cases h : 2 ≤ (l.length : Int) ∧ (l.length : Int) ≤ 8
  · rw [if_pos h, decide_eq_true (show 2 ≤ l.length ∧ l.length ≤ 8 by omega)]
    exact specField_loop l hs (by omega) l.length k 0 (by omega) (by omega)
  · rw [if_neg h, decide_eq_false (show ¬ (2 ≤ l.length ∧ l.length ≤ 8) by omega)]; rfl
theorem implField_eq (l : List S102) (hs : ∀ (j : Nat) (z : S102), l[j]? = some z → z.f0.size ≤ 1048576) (k : Nat) (hk : 1049000 ≤ k) : impl_FieldOk.f k l = some (fieldOk l) := by
  unfold impl_FieldOk.f fieldOk
  rw [Bool.and_comm]
  exact implField_loop l hs k (by omega) l.length 0 (by omega)
def upL (n : Nat) : List Int := (List.range n).map (fun j : Nat => (j : Int))
theorem upL_len (n : Nat) : (upL n).length = n := by simp [upL]
theorem upL_succ (n : Nat) : upL (n + 1) = upL n ++ [(n : Int)] := by simp [upL, List.range_succ]
theorem mem_upL {n : Nat} {x : Int} (h : x ∈ upL n) : 0 ≤ x ∧ x < n := by
  unfold upL at h
  obtain ⟨j, hj, rfl⟩ := List.mem_map.1 h
  have := List.mem_range.1 hj
  omega
theorem upTo_loop (n : Nat) (hn : n ≤ 1000000000) (d : Nat) : ∀ (k i : Nat), i + d = n → d < k → impl_upTo.l0 k (upL i) n i = some (upL n) := by
  induction d with
  | zero =>
    intro k i hd hk
    obtain ⟨k, rfl⟩ : ∃ m, k = m + 1 := ⟨k - 1, by omega⟩
    simp only [impl_upTo.l0]
    rw [if_neg (by omega), show i = n by omega]
  | succ d ih =>
    intro k i hd hk
    obtain ⟨k, rfl⟩ : ∃ m, k = m + 1 := ⟨k - 1, by omega⟩
    simp only [impl_upTo.l0]
    rw [if_pos (by omega), if_pos (by rw [upL_len]; omega), wrap_succ (show i < n by omega) (by omega), ← upL_succ]
    exact ih k (i + 1) (by omega) (by omega)
theorem upTo_eq (n : Nat) (hn : n ≤ 1000000000) (k : Nat) (hk : n < k) : impl_upTo.f k (n : Int) = some (upL n) := by
  unfold impl_upTo.f
  rw [show mx (n : Int) 0 = (n : Int) by unfold mx; omega]
  exact upTo_loop n hn n k 0 (by omega) hk
/-- The places below i of the teams of the association. -/
def clubL (l : List S102) (club : Int) (i : Nat) : List Int := (upL i).filter fun j => !impl_OfClub.p l club j
theorem clubL_len (l : List S102) (club : Int) (i : Nat) : (clubL l club i).length ≤ i := by
  have := List.length_filter_le (fun j => !impl_OfClub.p l club j) (upL i)
  rwa [upL_len] at this
theorem specClub_loop (l : List S102) (club : Int) (hn : l.length ≤ 1000000000) (d : Nat) : ∀ (k i : Nat), i + d = l.length → d < k →
    spec_OfClub.l0 k club (clubL l club i) l l.length i = some (clubL l club l.length) := by
  induction d with
  | zero =>
    intro k i hd hk
    obtain ⟨k, rfl⟩ : ∃ m, k = m + 1 := ⟨k - 1, by omega⟩
    simp only [spec_OfClub.l0]
    rw [if_neg (by omega), show i = l.length by omega]
  | succ d ih =>
    intro k i hd hk
    obtain ⟨k, rfl⟩ : ∃ m, k = m + 1 := ⟨k - 1, by omega⟩
    have hi : i < l.length := by omega
    have hw := clubL_len l club i
    have e := ih k (i + 1) (by omega) (by omega)
    have es : clubL l club (i + 1) = clubL l club i ++ if (rd_T102 l (i : Int)).f1 = club then [(i : Int)] else [] := by
      unfold clubL
      rw [upL_succ, List.filter_append]
      congr 1
      by_cases c : (rd_T102 l (i : Int)).f1 = club
      · rw [if_pos c]; simp [impl_OfClub.p, c]
      · rw [if_neg c]; simp [impl_OfClub.p, c]
    simp only [spec_OfClub.l0]
    rw [if_pos (by omega), if_pos (by omega), if_pos (by omega), wrap_succ hi (by omega)]
    by_cases c : (rd_T102 l (i : Int)).f1 = club
    · rw [if_pos c] at es
      rw [if_pos c, if_pos (by omega), ← es]
      exact e
    · rw [if_neg c, List.append_nil] at es
      rw [if_neg c, ← es]
      exact e
noncomputable def ofClub (l : List S102) (club : Int) : List Int := if fieldOk l = true then clubL l club l.length else []
theorem ofClub_len (l : List S102) (club : Int) : (ofClub l club).length ≤ l.length := by
  unfold ofClub
  split
  · exact clubL_len l club l.length
  · simp
theorem specClub_eq (l : List S102) (club : Int) (hn : l.length ≤ 1048576) (hs : ∀ (j : Nat) (z : S102), l[j]? = some z → z.f0.size ≤ 1048576) (k : Nat) (hk : 1049000 ≤ k) : spec_OfClub.f k l club = some (ofClub l club) := by
  unfold spec_OfClub.f ofClub
  rw [specField_eq l hs k hk]
  simp only [Option.bind_some]
  split
  · exact specClub_loop l club (by omega) l.length k 0 (by omega) (by omega)
  · rfl
theorem implClub_eq (l : List S102) (club : Int) (hn : l.length ≤ 1048576) (hs : ∀ (j : Nat) (z : S102), l[j]? = some z → z.f0.size ≤ 1048576) (k : Nat) (hk : 1049000 ≤ k) : impl_OfClub.f k l club = some (ofClub l club) := by
  unfold impl_OfClub.f ofClub
  rw [implField_eq l hs k hk]
  simp only [Option.bind_some]
  split
  · rw [upTo_eq l.length (by omega) k (by omega)]
    simp only [Option.bind_some, impl_OfClub.g]
    rw [if_pos (by
      rw [List.all_eq_true]
      intro x hx
      have := mem_upL hx
      simp [this.1, this.2])]
    rfl
  · rfl
theorem eqIntS_loop (x : List Int) (hn : x.length ≤ 9223372036854775807) (d : Nat) : ∀ (k i : Nat), i + d = x.length → d < k → laws_eqIntS.l0 k x x i = some true := by
  induction d with
  | zero =>
    intro k i hd hk
    obtain ⟨k, rfl⟩ : ∃ m, k = m + 1 := ⟨k - 1, by omega⟩
    simp only [laws_eqIntS.l0]
    rw [if_neg (by omega)]
  | succ d ih =>
    intro k i hd hk
    obtain ⟨k, rfl⟩ : ∃ m, k = m + 1 := ⟨k - 1, by omega⟩
    simp only [laws_eqIntS.l0]
    rw [if_pos (by omega), if_pos (by omega), if_pos (by omega), if_pos trivial, wrap_succ (show i < x.length by omega) hn]
    exact ih k (i + 1) (by omega) (by omega)
theorem eqIntS_eq (x : List Int) (hn : x.length ≤ 9223372036854775807) (k : Nat) (hk : x.length < k) : laws_eqIntS.f k x x = some true := by
  unfold laws_eqIntS.f
  rw [if_pos rfl]
  exact eqIntS_loop x hn x.length k 0 (by omega) hk
def marks (m : Int) (n : Nat) : List Int := (List.range n).map (fun j : Nat => m + (j : Int))
theorem marks_succ (m : Int) (n : Nat) : marks m (n + 1) = m :: marks (m + 1) n := by
  unfold marks
  rw [List.range_succ_eq_map, List.map_cons, List.map_map]
  congr 1
  · simp
  · apply List.map_congr_left; intro j _; simp only [Function.comp]; omega
theorem marks_len (m : Int) (n : Nat) : (marks m n).length = n := by simp [marks]
theorem markIntS_loop (n : Nat) (hn : n ≤ 1000000000) (d : Nat) : ∀ (k i : Nat) (l : List Int) (m : Int), l.length = n → i + d = n → d < k → 0 ≤ m → m + d ≤ 4000000000 →
    laws_markIntS.l0 k l m i = some (m + d, l.take i ++ marks m d) := by
  induction d with
  | zero =>
    intro k i l m hl hd hk _ _
    obtain ⟨k, rfl⟩ : ∃ m, k = m + 1 := ⟨k - 1, by omega⟩
    simp only [laws_markIntS.l0]
    rw [if_neg (by omega), List.take_of_length_le (by omega)]
    simp [marks]
  | succ d ih =>
    intro k i l m hl hd hk h0 hm
    obtain ⟨k, rfl⟩ : ∃ m, k = m + 1 := ⟨k - 1, by omega⟩
    simp only [laws_markIntS.l0]
    rw [if_pos (by omega), if_pos (by omega), wrap_succ (show i < n by omega) (by omega), wrap_id (x := m + 1) (by omega) (by omega), Int.toNat_natCast, ih k (i + 1) _ (m + 1) (by simp [hl]) (by omega) (by omega) (by omega) (by omega)]
    rw [marks_succ]
    have e : (l.set i m).take (i + 1) = l.take i ++ [m] := by
      rw [take_step _ i (by simp; omega)]
      congr 1
      · apply List.ext_getElem?
        intro j
        by_cases hj : j < i
        · rw [List.getElem?_take_of_lt hj, List.getElem?_take_of_lt hj, List.getElem?_set_ne (by omega)]
        · rw [List.getElem?_eq_none (by simp; omega), List.getElem?_eq_none (by simp; omega)]
      · simp
    rw [e, List.append_assoc]
    congr 2
    omega
theorem markIntS_eq (l : List Int) (hn : l.length ≤ 1000000000) (k : Nat) (hk : l.length < k) : laws_markIntS.f k l 1 = some (1 + (l.length : Int), marks 1 l.length) := by
  unfold laws_markIntS.f
  have := markIntS_loop l.length hn l.length k 0 l 1 rfl (by omega) hk (by omega) (by omega)
  simpa using this
theorem heldIntS_loop (L : List Int) (n : Nat) (hL : L.length = n) (hn : n ≤ 1000000000) (d : Nat) : ∀ (k i : Nat) (m : Int), i + d = n → d < k → 0 ≤ m → m + d ≤ 4000000000 → L.drop i = marks m d →
    laws_heldIntS.l0 k L m i = some (m + d) := by
  induction d with
  | zero =>
    intro k i m hd hk _ _ _
    obtain ⟨k, rfl⟩ : ∃ m, k = m + 1 := ⟨k - 1, by omega⟩
    simp only [laws_heldIntS.l0]
    rw [if_neg (by omega)]
    simp
  | succ d ih =>
    intro k i m hd hk h0 hm hdr
    obtain ⟨k, rfl⟩ : ∃ m, k = m + 1 := ⟨k - 1, by omega⟩
    have hi : i < L.length := by omega
    rw [List.drop_eq_getElem_cons hi, marks_succ, List.cons.injEq] at hdr
    simp only [laws_heldIntS.l0]
    rw [if_pos (by omega), if_pos (by omega), rd_nat L i hi, if_pos hdr.1, wrap_succ (show i < n by omega) (by omega), wrap_id (x := m + 1) (by omega) (by omega), ih k (i + 1) (m + 1) (by omega) (by omega) (by omega) (by omega) hdr.2]
    congr 1
    omega
theorem heldIntS_eq (n : Nat) (hn : n ≤ 1000000000) (k : Nat) (hk : n < k) : laws_heldIntS.f k (marks 1 n) 1 = some (1 + (n : Int)) := by
  unfold laws_heldIntS.f
  exact heldIntS_loop (marks 1 n) n (marks_len 1 n) hn n k 0 1 (by omega) hk (by omega) (by omega) rfl
theorem markText_loop (j : Nat) : ∀ (k : Nat) (x : Int) (acc : ByteArray), 0 ≤ x → x ≤ 4000000000 → x < 10 ^ j → j < k → acc.size + j ≤ 1000 → ∃ t, laws_markText.l0 k x acc = some t := by
  induction j with
  | zero =>
    intro k x acc h0 h9 h1 hk ha
    obtain ⟨k, rfl⟩ : ∃ m, k = m + 1 := ⟨k - 1, by omega⟩
    simp only [laws_markText.l0]
    rw [if_neg (by simp at h1; omega), if_pos (by omega)]
    exact ⟨_, rfl⟩
  | succ j ih =>
    intro k x acc h0 h9 h1 hk ha
    obtain ⟨k, rfl⟩ : ∃ m, k = m + 1 := ⟨k - 1, by omega⟩
    simp only [laws_markText.l0, Option.bind_some]
    by_cases hx : x > 0
    · rw [if_pos hx]
      have hs : ∀ z : Int, (strOfNums [z]).size = 1 := fun z => by rfl
      rw [hs, if_pos (by omega)]
      have hp : x < 10 * 10 ^ j := by rw [Int.pow_succ] at h1; omega
      have hq : Int.tdiv x 10 = x / 10 := Int.tdiv_eq_ediv_of_nonneg h0
      have hlt : x / 10 < 10 ^ j := by omega
      rw [hq, wrap_id (x := x / 10) (by omega) (by omega)]
      exact ih k (x / 10) _ (by omega) (by omega) hlt (by omega) (by rw [ByteArray.size_append, hs]; omega)
    · rw [if_neg hx, if_pos (by omega)]
      exact ⟨_, rfl⟩
noncomputable def markT (m : Int) : ByteArray := (laws_markText.f 60 m).getD ByteArray.empty
theorem markT_eq (m : Int) (h0 : 0 ≤ m) (h1 : m ≤ 4000000000) (k : Nat) (hk : 60 ≤ k) : laws_markText.f k m = some (markT m) := by
  have h60 : ∃ t, laws_markText.f 60 m = some t := by
    unfold laws_markText.f
    by_cases hm : m ≤ 0
    · rw [if_pos hm]; exact ⟨_, rfl⟩
    · rw [if_neg hm]
      exact markText_loop 20 60 m _ h0 h1 (by omega) (by omega) (by decide)
  obtain ⟨t, ht⟩ := h60
  have : markT m = t := by unfold markT; rw [ht]; rfl
  rw [this]
  exact at_rounds (g := fun k => laws_markText.f k m) (fun k => laws_markText.mono m k) hk ht
theorem markTeamS_loop (n : Nat) (hn : n ≤ 100000000) (d : Nat) : ∀ (k i : Nat) (l : List S102) (m : Int), l.length = n → i + d = n → d + 60 < k → 0 ≤ m → m + 3 * d ≤ 4000000000 →
    ∃ L, laws_markTeamS.l0 k l m i = some (m + 3 * d, L) := by
  induction d with
  | zero =>
    intro k i l m hl hd hk _ _
    obtain ⟨k, rfl⟩ : ∃ m, k = m + 1 := ⟨k - 1, by omega⟩
    simp only [laws_markTeamS.l0]
    rw [if_neg (by omega)]
    exact ⟨l, by simp⟩
  | succ d ih =>
    intro k i l m hl hd hk h0 hm
    obtain ⟨k, rfl⟩ : ∃ m, k = m + 1 := ⟨k - 1, by omega⟩
    have w1 : wrap64 (m + 1) = m + 1 := wrap_id (by omega) (by omega)
    have w2 : wrap64 (m + 1 + 1) = m + 1 + 1 := wrap_id (by omega) (by omega)
    have w3 : wrap64 (m + 1 + 1 + 1) = m + 1 + 1 + 1 := wrap_id (by omega) (by omega)
    have hlt : (i : Int) < (l.length : Int) := by omega
    have hi0 : (0 : Int) ≤ (i : Int) := by omega
    simp only [laws_markTeamS.l0, markT_eq m h0 (by omega) k (by omega), Option.bind_some, hlt, hi0, if_true, w1, w2, w3, wrap_succ (show i < n by omega) (by omega), Int.toNat_natCast]
    have key : ∀ B : List S102, B.length = n → ∃ L, laws_markTeamS.l0 k B (m + 1 + 1 + 1) ((i + 1 : Nat) : Int) = some (m + 3 * ((d + 1 : Nat) : Int), L) := fun B hB => by
      obtain ⟨L, hL⟩ := ih k (i + 1) B (m + 1 + 1 + 1) hB (by omega) (by omega) (by omega) (by omega)
      exact ⟨L, by rw [hL]; congr 2; omega⟩
    exact key _ (by simp [hl])
theorem markTeamS_eq (l : List S102) (hn : l.length ≤ 100000000) (k : Nat) (hk : l.length + 60 < k) : ∃ L, laws_markTeamS.f k l 1 = some (1 + 3 * (l.length : Int), L) := by
  unfold laws_markTeamS.f
  exact markTeamS_loop l.length hn l.length k 0 l 1 rfl (by omega) hk (by omega) (by omega)
theorem FnExactOfClub : FnExactOfClub_pure := by
  intro l club hl hs _
  unfold maxLen at hl
  refine ⟨l.length + 1049001, ?_⟩
  unfold laws_FnExactOfClub.f
  obtain ⟨r, e0, h⟩ := szTeamS_eq l (by omega) (fun x hx => (hs x hx).1) (l.length + 1049001) (by omega)
  rw [e0]
  simp only [Option.bind_some]
  rcases h with h | ⟨h3, h4, h5⟩
  · rw [if_pos h]
  · rw [if_neg (by omega)]
    have e := laws_toTeamS_eq l (by omega) (l.length + 1049001) (by omega)
    have e' := laws_toTeamS_eq l (by omega) (l.length + 1049000) (by omega)
    have hz : ∀ (j : Nat) (z : S102), (l.map laws_toTeamS_c)[j]? = some z → z.f0.size ≤ 1048576 := by
      intro j z hz
      rw [List.getElem?_map] at hz
      obtain ⟨y, hy, rfl⟩ := Option.map_eq_some_iff.1 hz
      exact h5 j y hy
    generalize hm : l.map laws_toTeamS_c = m at e e' hz
    have hml : m.length = l.length := by rw [← hm]; simp
    have e1 := specClub_eq m club (by omega) hz (l.length + 1049001) (by omega)
    have e2 := implClub_eq m club (by omega) hz (l.length + 1049001) (by omega)
    have e2' := implClub_eq m club (by omega) hz (l.length + 1049000) (by omega)
    have hw := ofClub_len m club
    generalize ofClub m club = q at e1 e2 e2' hw
    have eq := laws_eqTeamS_eq m (by omega) (l.length + 1049001) (by omega)
    have eqi := eqIntS_eq q (by omega) (l.length + 1049001) (by omega)
    have eqi' := eqIntS_eq q (by omega) (l.length + 1049000) (by omega)
    obtain ⟨L, eM⟩ := markTeamS_eq m (by omega) (l.length + 1049001) (by omega)
    have mk := markIntS_eq q (by omega) (l.length + 1049000) (by omega)
    have hd := heldIntS_eq q.length (by omega) (l.length + 1049000) (by omega)
    have n1 : ¬ (1 + 3 * (m.length : Int) < 0) := by omega
    have n2 : ¬ (1 + (q.length : Int) < 0) := by omega
    simp only [Option.bind_some, if_false, e, e', e1, e2, e2', eq, eqi, eqi', eM, if_true, laws_FnExactOfClub.j0, mk, hd, n1, n2, Bool.not_true, Bool.false_eq_true]

end Go.Proofs.Ytapmiocpkddbfaa.Pure
