/- Whatever the book, the key, the team and the group: KeyValue of the program and of the reference answer alike, and book and group stay as they were; no condition beyond the form's own reach. -/
import Derived.Test.YtikfdjgigeggjaaSayFnExactKeyValue
import Derived.Test.YtikfdjgigeggjaaVFnExactKeyValueKit
namespace Go.Proofs.Ytikfdjgigeggjaa.Pure
open Go.RowKit Go.Proofs.Ytikfdjgigeggjaa.MFnExactKeyValue Go.Proofs.Ytikfdjgigeggjaa.PureKit Go.Proofs.YtikfdjgigeggjaaW.PrintWords Go.Proofs.YtikfdjgigeggjaaW.PrintLast
set_option linter.unusedSimpArgs false
set_option linter.unusedVariables false
theorem in_within (n lo hi : Int) : spec_l01In.f n lo hi = some (decide (lo ≤ n ∧ n ≤ hi)) ∧ impl_within.f n lo hi = some (decide (lo ≤ n ∧ n ≤ hi)) := by
  unfold spec_l01In.f impl_within.f
  by_cases h : lo ≤ n <;> simp [h]
theorem sz_big {n : Nat} (h : n ≤ 9223372036854775807) (hb : 1048576 < n) : wrap64 (1048576 - (n : Int)) < 0 := by rw [wrap_id (by omega) (by omega)]; omega
theorem sz_small {n : Nat} (hb : n ≤ 1048576) : ¬ wrap64 (1048576 - (n : Int)) < 0 ∧ wrap64 (1048576 - (n : Int)) = 1048576 - (n : Int) := by
  have h := wrap_id (x := 1048576 - (n : Int)) (by omega) (by omega)
  rw [h]; exact ⟨by omega, rfl⟩
theorem szTeamS_loop (l : List S149) (hn : l.length ≤ 1048576) (hs : ∀ x ∈ l, x.f0.size ≤ 9223372036854775807) (d : Nat) : ∀ (k i : Nat) (a : Int), i + d = l.length → d < k → 0 ≤ a → a ≤ 1048576 →
    ∃ r, laws_szTeamS.l0 k l a i = some r ∧ (r < 0 ∨ (0 ≤ r ∧ r ≤ 1048576 ∧ ∀ (j : Nat) (z : S149), i ≤ j → l[j]? = some z → z.f0.size ≤ 1048576)) := by
  induction d with
  | zero =>
    intro k i a hd hk h0 ha
    obtain ⟨k, rfl⟩ : ∃ m, k = m + 1 := ⟨k - 1, by omega⟩
    simp only [laws_szTeamS.l0]
    rw [if_neg (by omega)]
    refine ⟨a, rfl, Or.inr ⟨h0, ha, fun j z hj hz => ?_⟩⟩
    have := (List.getElem?_eq_some_iff.1 hz).1
    omega
  | succ d ih =>
    intro k i a hd hk h0 ha
    obtain ⟨k, rfl⟩ : ∃ m, k = m + 1 := ⟨k - 1, by omega⟩
    have hi : i < l.length := by omega
    have hlt : (i : Int) < (l.length : Int) := by omega
    have hi0 : (0 : Int) ≤ (i : Int) := by omega
    have hr : rd_T149 l (i : Int) = l[i] := getD_nat _ l i hi
    have hb := hs l[i] (List.getElem_mem hi)
    have hw : wrap64 (a - ((l[i]).f0.size : Int)) = a - ((l[i]).f0.size : Int) := wrap_id (by omega) (by omega)
    simp only [laws_szTeamS.l0, laws_szTeam.f, hlt, hi0, if_true, hr, hw, wrap_succ hi (show l.length ≤ 9223372036854775807 by omega)]
    by_cases hneg : a - ((l[i]).f0.size : Int) < 0
    · simp only [hneg, if_true, Option.bind_some]
      exact ⟨-1, rfl, Or.inl (by omega)⟩
    · simp only [hneg, if_false, Option.bind_some]
      obtain ⟨r, e, h⟩ := ih k (i + 1) (a - ((l[i]).f0.size : Int)) (by omega) (by omega) (by omega) (by omega)
      refine ⟨r, e, ?_⟩
      rcases h with h | ⟨h3, h4, h5⟩
      · exact Or.inl h
      · refine Or.inr ⟨h3, h4, fun j z hj hz => ?_⟩
        by_cases ej : j = i
        · subst ej
          rw [List.getElem?_eq_getElem hi] at hz
          cases hz
          omega
        · exact h5 j z (by omega) hz
theorem szTeamS_eq (l : List S149) (hn : l.length ≤ 9223372036854775807) (hs : ∀ x ∈ l, x.f0.size ≤ 9223372036854775807) (k : Nat) (hk : l.length < k) :
    ∃ r, laws_szTeamS.f k l 1048576 = some r ∧ (r < 0 ∨ (0 ≤ r ∧ l.length ≤ 1048576 ∧ ∀ (j : Nat) (z : S149), l[j]? = some z → z.f0.size ≤ 1048576)) := by
  unfold laws_szTeamS.f
  by_cases hb : 1048576 < l.length
  · rw [if_pos (sz_big hn hb)]; exact ⟨-1, rfl, Or.inl (by omega)⟩
  · obtain ⟨h1, h2⟩ := sz_small (show l.length ≤ 1048576 by omega)
    rw [if_neg h1, h2]
    obtain ⟨r, e, h⟩ := szTeamS_loop l (by omega) hs l.length k 0 (1048576 - (l.length : Int)) (by omega) hk (by omega) (by omega)
    refine ⟨r, e, ?_⟩
    rcases h with h | ⟨h3, h4, h5⟩
    · exact Or.inl h
    · exact Or.inr ⟨h3, by omega, fun j z hz => h5 j z (by omega) hz⟩
theorem szTeamS_le (l : List S149) (hn : l.length ≤ 9223372036854775807) (hs : ∀ x ∈ l, x.f0.size ≤ 9223372036854775807) (k : Nat) (hk : l.length < k) (r : Int) (hr : laws_szTeamS.f k l 1048576 = some r) : r ≤ 1048576 := by
  unfold laws_szTeamS.f at hr
  by_cases hb : 1048576 < l.length
  · rw [if_pos (sz_big hn hb)] at hr; cases hr; decide
  · obtain ⟨h1, h2⟩ := sz_small (show l.length ≤ 1048576 by omega)
    rw [if_neg h1, h2] at hr
    obtain ⟨r', e, h⟩ := szTeamS_loop l (by omega) hs l.length k 0 (1048576 - (l.length : Int)) (by omega) hk (by omega) (by omega)
    rw [show ((0 : Nat) : Int) = 0 from rfl] at e
    rw [e] at hr
    cases hr
    omega
def laws_toTeamS_c (x : S149) : S151 := ⟨x.f0, x.f1, x.f2⟩
theorem laws_toTeamS_loop (x0 : List S149) (hn : x0.length ≤ 9223372036854775807) (d : Nat) : ∀ (k i : Nat) (acc : List S151), acc.length = x0.length → acc.take i = (x0.take i).map laws_toTeamS_c → i + d = x0.length → d < k →
    laws_toTeamS.l0 k x0 acc i = some (x0.map laws_toTeamS_c) := by
  induction d with
  | zero =>
    intro k i acc hl ht hd hk
    obtain ⟨k, rfl⟩ : ∃ m, k = m + 1 := ⟨k - 1, by omega⟩
    simp only [laws_toTeamS.l0]
    rw [if_neg (by omega)]
    rw [List.take_of_length_le (by omega), List.take_of_length_le (by omega)] at ht
    rw [ht]
  | succ d ih =>
    intro k i acc hl ht hd hk
    obtain ⟨k, rfl⟩ : ∃ m, k = m + 1 := ⟨k - 1, by omega⟩
    have hi : i < x0.length := by omega
    simp only [laws_toTeamS.l0, laws_toTeam.f, Option.bind_some]
    rw [if_pos (by omega), if_pos (by omega), if_pos (by omega), wrap_succ hi hn, show rd_T149 x0 (i : Int) = x0[i] from getD_nat _ x0 i hi, Int.toNat_natCast]
    exact ih k (i + 1) _ (by simp [hl]) (set_copy laws_toTeamS_c x0 acc i hi hl ht) (by omega) (by omega)
theorem laws_toTeamS_eq (x0 : List S149) (hn : x0.length ≤ 8796093022208) (k : Nat) (hk : x0.length < k) : laws_toTeamS.f k x0 = some (x0.map laws_toTeamS_c) := by
  unfold laws_toTeamS.f
  rw [if_pos (by omega), if_pos (by omega)]
  exact laws_toTeamS_loop x0 (by omega) x0.length k 0 _ (by simp) (by simp) (by omega) hk
theorem laws_eqTeamS_loop (x : List S151) (hn : x.length ≤ 9223372036854775807) (d : Nat) : ∀ (k i : Nat), i + d = x.length → d < k → laws_eqTeamS.l0 k x x i = some true := by
  induction d with
  | zero =>
    intro k i hd hk
    obtain ⟨k, rfl⟩ : ∃ m, k = m + 1 := ⟨k - 1, by omega⟩
    simp only [laws_eqTeamS.l0]
    rw [if_neg (by omega)]
  | succ d ih =>
    intro k i hd hk
    obtain ⟨k, rfl⟩ : ∃ m, k = m + 1 := ⟨k - 1, by omega⟩
    simp only [laws_eqTeamS.l0, laws_eqTeam.f]
    rw [if_pos (by omega), if_pos (by omega), if_pos (by omega), wrap_succ (show i < x.length by omega) hn]
    simp only [if_true, Option.bind_some]
    exact ih k (i + 1) (by omega) (by omega)
theorem laws_eqTeamS_eq (x : List S151) (hn : x.length ≤ 9223372036854775807) (k : Nat) (hk : x.length < k) : laws_eqTeamS.f k x x = some true := by
  unfold laws_eqTeamS.f
  rw [if_pos rfl]
  exact laws_eqTeamS_loop x hn x.length k 0 (by omega) hk
theorem name_loop (s : ByteArray) (hs : s.size ≤ 9223372036854775807) (d : Nat) : ∀ (k : Nat) (i : Int), 0 ≤ i → i ≤ s.size → (s.size : Int) - i = d → d < k →
    ∃ r, spec_IsName.l0 k s i = some r ∧ impl_IsName.l0 k s s.size i = some r := by
  induction d with
  | zero =>
    intro k i h0 h1 hd hk
    obtain ⟨k, rfl⟩ : ∃ m, k = m + 1 := ⟨k - 1, by omega⟩
    simp only [spec_IsName.l0, impl_IsName.l0]
    rw [if_neg (by omega), if_neg (by omega), (in_within _ _ _).1, (in_within _ _ _).2]
    exact ⟨_, rfl, rfl⟩
  | succ d ih =>
    intro k i h0 h1 hd hk
    obtain ⟨k, rfl⟩ : ∃ m, k = m + 1 := ⟨k - 1, by omega⟩
    have hw : wrap64 (i + 1) = i + 1 := wrap_id (by omega) (by omega)
    obtain ⟨r, e1, e2⟩ := ih k (i + 1) (by omega) (by omega) (by omega) (by omega)
    have hlt : i < (s.size : Int) := by omega
    simp only [spec_IsName.l0, impl_IsName.l0, hw, e1, e2, hlt, h0, if_true]
    generalize bt s i = b
    repeat' split
    all_goals first | exact ⟨_, rfl, rfl⟩ | (exfalso; omega)
theorem names_alike (s : ByteArray) (hs : s.size ≤ 9223372036854775807) (k : Nat) (hk : s.size < k) : ∃ r, spec_IsName.f k s = some r ∧ impl_IsName.f k s = some r :=
  name_loop s hs s.size k 0 (by omega) (by omega) (by omega) (by omega)
noncomputable def nameOk (s : ByteArray) : Bool := (impl_IsName.f (s.size + 1) s).getD false
theorem names_eq (s : ByteArray) (hs : s.size ≤ 9223372036854775807) (k : Nat) (hk : s.size < k) : spec_IsName.f k s = some (nameOk s) ∧ impl_IsName.f k s = some (nameOk s) := by
  obtain ⟨r, e1, e2⟩ := names_alike s hs (s.size + 1) (by omega)
  have hr : nameOk s = r := by unfold nameOk; rw [e2]; rfl
  rw [hr]
  exact ⟨at_rounds (g := fun k => spec_IsName.f k s) (fun k => spec_IsName.mono s k) (show s.size + 1 ≤ k by omega) e1, at_rounds (g := fun k => impl_IsName.f k s) (fun k => impl_IsName.mono s k) (show s.size + 1 ≤ k by omega) e2⟩
noncomputable def teamOk (s : ByteArray) (c d : Int) : Bool := nameOk s && (decide (0 ≤ c ∧ c ≤ 5) && decide (1 ≤ d ∧ d ≤ 8))
theorem specTeam_eq (s : ByteArray) (c d : Int) (hs : s.size ≤ 9223372036854775807) (k : Nat) (hk : s.size < k) : spec_TeamOk.f k s c d = some (teamOk s c d) := by
  unfold spec_TeamOk.f teamOk
  rw [(names_eq s hs k hk).1]
  simp only [(in_within _ _ _).1, Option.bind_some]
  generalize decide (0 ≤ c ∧ c ≤ 5) = x
  cases nameOk s <;> cases x <;> rfl
theorem implTeam_eq (s : ByteArray) (c d : Int) (hs : s.size ≤ 9223372036854775807) (k : Nat) (hk : s.size < k) : impl_TeamOk.f k s c d = some (teamOk s c d) := by
  unfold impl_TeamOk.f teamOk
  rw [(names_eq s hs k hk).2]
  simp only [(in_within _ _ _).2, Option.bind_some]
  generalize decide (0 ≤ c ∧ c ≤ 5) = x
  cases nameOk s <;> cases x <;> rfl
theorem idxP_any {α : Type} (p : α → Bool) (l : List α) : (0 ≤ idxP p l) ↔ l.any p = true := by
  unfold idxP
  cases h : l.findIdx? p with
  | none =>
    rw [List.findIdx?_eq_none_iff] at h
    constructor
    · intro h0; simp at h0
    · intro ha
      obtain ⟨x, hx, hp⟩ := List.any_eq_true.1 ha
      rw [h x hx] at hp; cases hp
  | some i =>
    rw [List.findIdx?_eq_some_iff_getElem] at h
    obtain ⟨hi, hp, _⟩ := h
    exact ⟨fun _ => List.any_eq_true.2 ⟨_, List.getElem_mem hi, hp⟩, fun _ => by simp⟩
/-- The teams from i on (d of them): each valid, none with a name or a seed that stood before. -/
noncomputable def fieldFrom (l : List S151) : Nat → Nat → Bool
  | _, 0 => true
  | i, d + 1 => teamOk (rd_T151 l i).f0 (rd_T151 l i).f1 (rd_T151 l i).f2 && (!((l.take i).any (clashP (rd_T151 l i))) && fieldFrom l (i + 1) d)
noncomputable def fieldOk (l : List S151) : Bool := decide (2 ≤ l.length ∧ l.length ≤ 8) && fieldFrom l 0 l.length
theorem implField_loop (l : List S151) (hs : ∀ (j : Nat) (z : S151), l[j]? = some z → z.f0.size ≤ 1048576) (k : Nat) (hk : 1048576 < k) (d : Nat) : ∀ i : Nat, i + d = l.length →
    impl_FieldOk.l0 k l d i = some (fieldFrom l i d && decide (2 ≤ l.length ∧ l.length ≤ 8)) := by
  induction d with
  | zero =>
    intro i hd
    simp only [impl_FieldOk.l0, fieldFrom, (in_within _ _ _).2, Bool.true_and]
    congr 1
    rw [decide_eq_decide]; omega
  | succ d ih =>
    intro i hd
    have hi : i < l.length := by omega
    have hy : l[i]? = some (rd_T151 l i) := by rw [List.getElem?_eq_getElem hi]; congr 1; exact (getD_nat _ l i hi).symm
    have hb := hs i _ hy
    simp only [impl_FieldOk.l0, fieldFrom, implTeam_eq _ _ _ (show (rd_T151 l i).f0.size ≤ 9223372036854775807 by omega) k (by omega), Option.bind_some, ih (i + 1) (by omega)]
    generalize teamOk (rd_T151 l i).f0 (rd_T151 l i).f1 (rd_T151 l i).f2 = q
    cases q with
    | false => rfl
    | true =>
      rw [if_pos rfl]
      by_cases c : (l.take i).any (clashP (rd_T151 l i)) = true
      · rw [if_pos ((idxP_any _ _).2 c), c]; rfl
      · rw [if_neg (fun h => c ((idxP_any _ _).1 h)), Bool.eq_false_iff.mpr c]; rfl
theorem specField_inner (l : List S151) (hn : l.length ≤ 8) (i : Nat) (hi : i < l.length) (t : S151) (B : Nat) (R : Bool) (hN : ∀ k, B ≤ k → spec_FieldOk.l0 k l l l.length (i + 1 : Nat) = some R) (e : Nat) :
    ∀ (k j : Nat), j + e = (l.take i).length → B + e < k → spec_FieldOk.l1 k l l l.length i (l.take i) ((l.take i).length : Int) j t.f0 t.f1 t.f2 = some (!(((l.take i).drop j).any (clashP t)) && R) := by
  induction e with
  | zero =>
    intro k j he hk
    obtain ⟨k, rfl⟩ : ∃ m, k = m + 1 := ⟨k - 1, by omega⟩
    simp only [spec_FieldOk.l1]
    rw [if_neg (by omega), wrap_succ hi (by omega), hN k (by omega), List.drop_of_length_le (by omega)]
    simp
  | succ e ih =>
    intro k j he hk
    obtain ⟨k, rfl⟩ : ∃ m, k = m + 1 := ⟨k - 1, by omega⟩
    have hj : j < (l.take i).length := by omega
    have hr : rd_T151 (l.take i) (j : Int) = (l.take i)[j] := getD_nat _ _ j hj
    have hle : (l.take i).length ≤ 8 := by rw [List.length_take]; omega
    simp only [spec_FieldOk.l1]
    rw [if_pos (by omega), if_pos (by omega), if_pos (by omega), wrap_succ hj (by omega), ih k (j + 1) (by omega) (by omega), hr, List.drop_eq_getElem_cons hj, List.any_cons]
    unfold clashP
    by_cases c1 : ((l.take i)[j]).f0.toList = t.f0.toList
    · rw [if_pos c1, beq_iff_eq.mpr c1]; rfl
    · rw [if_neg c1, beq_eq_false_iff_ne.mpr c1]
      by_cases c2 : ((l.take i)[j]).f2 = t.f2
      · rw [if_pos c2, beq_iff_eq.mpr c2]; rfl
      · rw [if_neg c2, beq_eq_false_iff_ne.mpr c2]; rfl
theorem specField_loop (l : List S151) (hs : ∀ (j : Nat) (z : S151), l[j]? = some z → z.f0.size ≤ 1048576) (hn : l.length ≤ 8) (d : Nat) : ∀ (k i : Nat), i + d = l.length → 12 * d + 1048600 ≤ k →
    spec_FieldOk.l0 k l l l.length i = some (fieldFrom l i d) := by
  induction d with
  | zero =>
    intro k i hd hk
    obtain ⟨k, rfl⟩ : ∃ m, k = m + 1 := ⟨k - 1, by omega⟩
    simp only [spec_FieldOk.l0, fieldFrom]
    rw [if_neg (by omega)]
  | succ d ih =>
    intro k i hd hk
    obtain ⟨k, rfl⟩ : ∃ m, k = m + 1 := ⟨k - 1, by omega⟩
    have hi : i < l.length := by omega
    have hy : l[i]? = some (rd_T151 l i) := by rw [List.getElem?_eq_getElem hi]; congr 1; exact (getD_nat _ l i hi).symm
    have hb := hs i _ hy
    have htl : (l.take i).length = i := by rw [List.length_take]; omega
    simp only [spec_FieldOk.l0, fieldFrom, specTeam_eq _ _ _ (show (rd_T151 l i).f0.size ≤ 9223372036854775807 by omega) k (by omega), Option.bind_some, Int.toNat_natCast]
    rw [if_pos (by omega), if_pos (by omega), if_pos (by omega)]
    generalize teamOk (rd_T151 l i).f0 (rd_T151 l i).f1 (rd_T151 l i).f2 = q
    cases q with
    | false => rfl
    | true =>
      rw [if_pos rfl, if_pos (by omega)]
      have h := specField_inner l hn i hi (rd_T151 l i) (12 * d + 1048600) _ (fun k hk => ih k (i + 1) (by omega) hk) (l.take i).length k 0 (by omega) (by omega)
      rw [show ((0 : Nat) : Int) = 0 from rfl, List.drop_zero] at h
      rw [h]; rfl
theorem specField_eq (l : List S151) (hs : ∀ (j : Nat) (z : S151), l[j]? = some z → z.f0.size ≤ 1048576) (k : Nat) (hk : 1049000 ≤ k) : spec_FieldOk.f k l = some (fieldOk l) := by
  unfold spec_FieldOk.f fieldOk
  simp only [(in_within _ _ _).1, Option.bind_some, decide_eq_true_eq]
  by_cases h : 2 ≤ (l.length : Int) ∧ (l.length : Int) ≤ 8
  · rw [if_pos h, decide_eq_true (show 2 ≤ l.length ∧ l.length ≤ 8 by omega)]
    exact specField_loop l hs (by omega) l.length k 0 (by omega) (by omega)
  · rw [if_neg h, decide_eq_false (show ¬ (2 ≤ l.length ∧ l.length ≤ 8) by omega)]; rfl
theorem implField_eq (l : List S151) (hs : ∀ (j : Nat) (z : S151), l[j]? = some z → z.f0.size ≤ 1048576) (k : Nat) (hk : 1049000 ≤ k) : impl_FieldOk.f k l = some (fieldOk l) := by
  unfold impl_FieldOk.f fieldOk
  rw [Bool.and_comm]
  exact implField_loop l hs k (by omega) l.length 0 (by omega)
def laws_toGameS_c (x : S99) : S71 := ⟨x.f0, x.f1, x.f2, x.f3, x.f4⟩
theorem laws_toGameS_loop (x0 : List S99) (hn : x0.length ≤ 9223372036854775807) (d : Nat) : ∀ (k i : Nat) (acc : List S71), acc.length = x0.length → acc.take i = (x0.take i).map laws_toGameS_c → i + d = x0.length → d < k →
    laws_toGameS.l0 k x0 acc i = some (x0.map laws_toGameS_c) := by
  induction d with
  | zero =>
    intro k i acc hl ht hd hk
    obtain ⟨k, rfl⟩ : ∃ m, k = m + 1 := ⟨k - 1, by omega⟩
    simp only [laws_toGameS.l0]
    rw [if_neg (by omega)]
    rw [List.take_of_length_le (by omega), List.take_of_length_le (by omega)] at ht
    rw [ht]
  | succ d ih =>
    intro k i acc hl ht hd hk
    obtain ⟨k, rfl⟩ : ∃ m, k = m + 1 := ⟨k - 1, by omega⟩
    have hi : i < x0.length := by omega
    simp only [laws_toGameS.l0, laws_toGame.f, Option.bind_some]
    rw [if_pos (by omega), if_pos (by omega), if_pos (by omega), wrap_succ hi hn, show rd_T99 x0 (i : Int) = x0[i] from getD_nat _ x0 i hi, Int.toNat_natCast]
    exact ih k (i + 1) _ (by simp [hl]) (set_copy laws_toGameS_c x0 acc i hi hl ht) (by omega) (by omega)
theorem laws_toGameS_eq (x0 : List S99) (hn : x0.length ≤ 7036874417766) (k : Nat) (hk : x0.length < k) : laws_toGameS.f k x0 = some (x0.map laws_toGameS_c) := by
  unfold laws_toGameS.f
  rw [if_pos (by omega), if_pos (by omega)]
  exact laws_toGameS_loop x0 (by omega) x0.length k 0 _ (by simp) (by simp) (by omega) hk
theorem laws_eqGameS_loop (x : List S71) (hn : x.length ≤ 9223372036854775807) (d : Nat) : ∀ (k i : Nat), i + d = x.length → d < k → laws_eqGameS.l0 k x x i = some true := by
  induction d with
  | zero =>
    intro k i hd hk
    obtain ⟨k, rfl⟩ : ∃ m, k = m + 1 := ⟨k - 1, by omega⟩
    simp only [laws_eqGameS.l0]
    rw [if_neg (by omega)]
  | succ d ih =>
    intro k i hd hk
    obtain ⟨k, rfl⟩ : ∃ m, k = m + 1 := ⟨k - 1, by omega⟩
    simp only [laws_eqGameS.l0, laws_eqGame.f]
    rw [if_pos (by omega), if_pos (by omega), if_pos (by omega), wrap_succ (show i < x.length by omega) hn]
    simp only [if_true, Option.bind_some]
    exact ih k (i + 1) (by omega) (by omega)
theorem laws_eqGameS_eq (x : List S71) (hn : x.length ≤ 9223372036854775807) (k : Nat) (hk : x.length < k) : laws_eqGameS.f k x x = some true := by
  unfold laws_eqGameS.f
  rw [if_pos rfl]
  exact laws_eqGameS_loop x hn x.length k 0 (by omega) hk
theorem toIntS_loop (x0 : List Int) (hn : x0.length ≤ 9223372036854775807) (d : Nat) : ∀ (k i : Nat) (acc : List Int), acc.length = x0.length → acc.take i = x0.take i → i + d = x0.length → d < k →
    laws_toIntS.l0 k x0 acc i = some x0 := by
  induction d with
  | zero =>
    intro k i acc hl ht hd hk
    obtain ⟨k, rfl⟩ : ∃ m, k = m + 1 := ⟨k - 1, by omega⟩
    simp only [laws_toIntS.l0]
    rw [if_neg (by omega)]
    rw [List.take_of_length_le (by omega), List.take_of_length_le (by omega)] at ht
    rw [ht]
  | succ d ih =>
    intro k i acc hl ht hd hk
    obtain ⟨k, rfl⟩ : ∃ m, k = m + 1 := ⟨k - 1, by omega⟩
    have hi : i < x0.length := by omega
    simp only [laws_toIntS.l0]
    rw [if_pos (by omega), if_pos (by omega), if_pos (by omega), wrap_succ hi hn, rd_nat x0 i hi, Int.toNat_natCast]
    refine ih k (i + 1) _ (by simp [hl]) ?_ (by omega) (by omega)
    have := set_copy (fun x => x) x0 acc i hi hl (by simpa using ht)
    simpa using this
theorem toIntS_eq (x0 : List Int) (hn : x0.length ≤ 35184372088832) (k : Nat) (hk : x0.length < k) : laws_toIntS.f k x0 = some x0 := by
  unfold laws_toIntS.f
  rw [if_pos (by omega), if_pos (by omega)]
  exact toIntS_loop x0 (by omega) x0.length k 0 _ (by simp) (by simp) (by omega) hk
theorem eqIntS_loop (x : List Int) (hn : x.length ≤ 9223372036854775807) (d : Nat) : ∀ (k i : Nat), i + d = x.length → d < k → laws_eqIntS.l0 k x x i = some true := by
  induction d with
  | zero =>
    intro k i hd hk
    obtain ⟨k, rfl⟩ : ∃ m, k = m + 1 := ⟨k - 1, by omega⟩
    simp only [laws_eqIntS.l0]
    rw [if_neg (by omega)]
  | succ d ih =>
    intro k i hd hk
    obtain ⟨k, rfl⟩ : ∃ m, k = m + 1 := ⟨k - 1, by omega⟩
    simp only [laws_eqIntS.l0]
    rw [if_pos (by omega), if_pos (by omega), if_pos (by omega), if_pos trivial, wrap_succ (show i < x.length by omega) hn]
    exact ih k (i + 1) (by omega) (by omega)
theorem eqIntS_eq (x : List Int) (hn : x.length ≤ 9223372036854775807) (k : Nat) (hk : x.length < k) : laws_eqIntS.f k x x = some true := by
  unfold laws_eqIntS.f
  rw [if_pos rfl]
  exact eqIntS_loop x hn x.length k 0 (by omega) hk
theorem has_loop (t : Int) (x : List Int) (hn : x.length ≤ 9223372036854775807) (d : Nat) : ∀ (k i : Nat), i + d = x.length → d < k →
    spec_l02Has.l0 k t x x.length i = some (decide (t ∈ x.drop i)) := by
  induction d with
  | zero =>
    intro k i hd hk
    obtain ⟨k, rfl⟩ : ∃ m, k = m + 1 := ⟨k - 1, by omega⟩
    simp only [spec_l02Has.l0]
    rw [if_neg (by omega), List.drop_of_length_le (by omega)]
    simp
  | succ d ih =>
    intro k i hd hk
    obtain ⟨k, rfl⟩ : ∃ m, k = m + 1 := ⟨k - 1, by omega⟩
    have hi : i < x.length := by omega
    have hlt : (i : Int) < (x.length : Int) := by omega
    have h0 : (0 : Int) ≤ (i : Int) := by omega
    simp only [spec_l02Has.l0, hlt, h0, if_true, wrap_succ hi hn, ih k (i + 1) (by omega) (by omega), rd_nat x i hi]
    have hm : t ∈ x.drop i ↔ t = x[i] ∨ t ∈ x.drop (i + 1) := by rw [List.drop_eq_getElem_cons hi, List.mem_cons]
    by_cases c : x[i] = t
    · rw [if_pos c, decide_eq_true (hm.2 (Or.inl c.symm))]
    · rw [if_neg c]
      congr 1
      rw [decide_eq_decide, hm]
      exact ⟨Or.inr, fun h => h.resolve_left (fun e => c e.symm)⟩
theorem has_eq (t : Int) (x : List Int) (hn : x.length ≤ 9223372036854775807) (k : Nat) (hk : x.length < k) : spec_l02Has.f k x t = some (decide (t ∈ x)) := by
  unfold spec_l02Has.f
  exact has_loop t x hn x.length k 0 (by omega) hk
theorem index_loop (t : Int) (x : List Int) (hn : x.length ≤ 9223372036854775807) (d : Nat) : ∀ (k i : Nat), i + d = x.length → d < k →
    ∃ r : Int, slices_Index_int_int.l0 k x t x.length i = some r ∧ ((0 ≤ r) ↔ t ∈ x.drop i) := by
  induction d with
  | zero =>
    intro k i hd hk
    obtain ⟨k, rfl⟩ : ∃ m, k = m + 1 := ⟨k - 1, by omega⟩
    simp only [slices_Index_int_int.l0]
    rw [if_neg (by omega), List.drop_of_length_le (by omega)]
    exact ⟨_, rfl, by simp⟩
  | succ d ih =>
    intro k i hd hk
    obtain ⟨k, rfl⟩ : ∃ m, k = m + 1 := ⟨k - 1, by omega⟩
    have hi : i < x.length := by omega
    have hlt : (i : Int) < (x.length : Int) := by omega
    have h0 : (0 : Int) ≤ (i : Int) := by omega
    obtain ⟨r, e, hr⟩ := ih k (i + 1) (by omega) (by omega)
    simp only [slices_Index_int_int.l0, hlt, h0, if_true, wrap_succ hi hn, e, rd_nat x i hi]
    have hm : t ∈ x.drop i ↔ t = x[i] ∨ t ∈ x.drop (i + 1) := by rw [List.drop_eq_getElem_cons hi, List.mem_cons]
    by_cases c : t = x[i]
    · rw [if_pos c]; exact ⟨_, rfl, ⟨fun _ => hm.2 (Or.inl c), fun _ => h0⟩⟩
    · rw [if_neg c]; exact ⟨_, rfl, hr.trans ⟨fun h => hm.2 (Or.inr h), fun h => (hm.1 h).resolve_left c⟩⟩
theorem contains_eq (t : Int) (x : List Int) (hn : x.length ≤ 9223372036854775807) (k : Nat) (hk : x.length < k) : slices_Contains_int_int.f k x t = some (decide (t ∈ x)) := by
  unfold slices_Contains_int_int.f slices_Index_int_int.f
  obtain ⟨r, e, hr⟩ := index_loop t x hn x.length k 0 (by omega) hk
  rw [show ((0 : Nat) : Int) = 0 from rfl] at e
  rw [e, List.drop_zero] at *
  simp only [Option.bind_some]
  congr 1
  rw [decide_eq_decide]
  exact hr
/-- The ladder from step i on (d steps): each a key, none twice. -/
def ladder (l : List Int) : Nat → Nat → Bool
  | _, 0 => true
  | i, d + 1 => decide (1 ≤ l.getD i 0 ∧ l.getD i 0 ≤ 8) && (!decide (l.getD i 0 ∈ l.take i) && ladder l (i + 1) d)
def numsOk (a b c : Int) (n : Nat) : Bool := decide (0 ≤ c ∧ c ≤ b ∧ b ≤ a ∧ a ≤ 10 ∧ 1 ≤ n ∧ n ≤ 8)
def rulesOk (a b c : Int) (l : List Int) : Bool := numsOk a b c l.length && ladder l 0 l.length
theorem specLadder (l : List Int) (a b c : Int) (g : Bool) (hn : l.length ≤ 9223372036854775807) (d : Nat) : ∀ (k i : Nat), i + d = l.length → l.length + d < k →
    spec_RulesOk.l0 k l l.length i a b c l g = some (ladder l i d) := by
  induction d with
  | zero =>
    intro k i hd hk
    obtain ⟨k, rfl⟩ : ∃ m, k = m + 1 := ⟨k - 1, by omega⟩
    simp only [spec_RulesOk.l0, ladder]
    rw [if_neg (by omega)]
  | succ d ih =>
    intro k i hd hk
    obtain ⟨k, rfl⟩ : ∃ m, k = m + 1 := ⟨k - 1, by omega⟩
    have hi : i < l.length := by omega
    have hlt : (i : Int) < (l.length : Int) := by omega
    have hle : (i : Int) ≤ (l.length : Int) := by omega
    have h0 : (0 : Int) ≤ (i : Int) := by omega
    have ht : (l.take i).length = i := by simp; omega
    simp only [spec_RulesOk.l0, hlt, hle, h0, if_true, (in_within _ _ _).1, Option.bind_some, Int.toNat_natCast, has_eq (rd l i) (l.take i) (by omega) k (by omega), wrap_succ hi hn, ih k (i + 1) (by omega) (by omega), ladder]
    show _ = some (decide (1 ≤ rd l i ∧ rd l i ≤ 8) && (!decide (rd l i ∈ l.take i) && ladder l (i + 1) d))
    by_cases c1 : 1 ≤ rd l i ∧ rd l i ≤ 8 <;> by_cases c2 : rd l i ∈ l.take i <;> simp [c1, c2]
theorem implLadder (l : List Int) (a b c : Int) (g : Bool) (hn : l.length ≤ 9223372036854775807) (d : Nat) : ∀ (k i : Nat), i + d = l.length → l.length + d < k →
    impl_RulesOk.l0 k l l.length i a b c l g = some (ladder l i d && numsOk a b c l.length) := by
  induction d with
  | zero =>
    intro k i hd hk
    obtain ⟨k, rfl⟩ : ∃ m, k = m + 1 := ⟨k - 1, by omega⟩
    simp only [impl_RulesOk.l0, ladder, (in_within _ _ _).2, Option.bind_some, numsOk]
    rw [if_neg (by omega), Bool.true_and]
    repeat' split
    all_goals first | (congr 1; rw [decide_eq_decide]; omega) | (congr 1; symm; rw [decide_eq_false_iff_not]; omega)
  | succ d ih =>
    intro k i hd hk
    obtain ⟨k, rfl⟩ : ∃ m, k = m + 1 := ⟨k - 1, by omega⟩
    have hi : i < l.length := by omega
    have hlt : (i : Int) < (l.length : Int) := by omega
    have hle : (i : Int) ≤ (l.length : Int) := by omega
    have h0 : (0 : Int) ≤ (i : Int) := by omega
    have ht : (l.take i).length = i := by simp; omega
    simp only [impl_RulesOk.l0, impl_isKey.f, hlt, hle, h0, if_true, (in_within _ _ _).2, Option.bind_some, Int.toNat_natCast, contains_eq (rd l i) (l.take i) (by omega) k (by omega), wrap_succ hi hn, ih k (i + 1) (by omega) (by omega), ladder]
    show _ = some ((decide (1 ≤ rd l i ∧ rd l i ≤ 8) && (!decide (rd l i ∈ l.take i) && ladder l (i + 1) d)) && _)
    by_cases c1 : 1 ≤ rd l i ∧ rd l i ≤ 8 <;> by_cases c2 : rd l i ∈ l.take i <;> simp [c1, c2]
theorem implRules_eq (a b c : Int) (l : List Int) (g : Bool) (hn : l.length ≤ 9223372036854775807) (k : Nat) (hk : 2 * l.length < k) : impl_RulesOk.f k a b c l g = some (rulesOk a b c l) := by
  unfold impl_RulesOk.f rulesOk
  rw [show (0 : Int) = ((0 : Nat) : Int) from rfl, implLadder l a b c g hn l.length k 0 (by omega) (by omega), Bool.and_comm]
theorem specRules_eq (a b c : Int) (l : List Int) (g : Bool) (hn : l.length ≤ 9223372036854775807) (k : Nat) (hk : 2 * l.length + 1 < k) : spec_RulesOk.f k a b c l g = some (rulesOk a b c l) := by
  obtain ⟨k, rfl⟩ : ∃ m, k = m + 1 := ⟨k - 1, by omega⟩
  have e := specLadder l a b c g hn l.length k 0 (by omega) (by omega)
  rw [show ((0 : Nat) : Int) = 0 from rfl] at e
  unfold spec_RulesOk.f rulesOk numsOk
  simp only [(in_within _ _ _).1, Option.bind_some, spec_RulesOk.j0, e]
  repeat' split
  all_goals simp_all
  all_goals omega
def gameOk (n a b c d e : Int) : Bool := decide (2 ≤ n ∧ n ≤ 8 ∧ 0 ≤ a ∧ a ≤ n - 1 ∧ 0 ≤ b ∧ b ≤ n - 1 ∧ a ≠ b ∧ 0 ≤ e ∧ e ≤ 4 ∧ ((e = 1 ∧ 0 ≤ c ∧ c ≤ 99 ∧ 0 ≤ d ∧ d ≤ 99) ∨ (e ≠ 1 ∧ c = 0 ∧ d = 0)))
theorem specGameOk_j (k : Nat) (x : Bool) (a b c d e : Int) : spec_GameOk.j0 (k + 1) x a b c d e = some (!x && decide ((e = 1 ∧ 0 ≤ c ∧ c ≤ 99 ∧ 0 ≤ d ∧ d ≤ 99) ∨ (e ≠ 1 ∧ c = 0 ∧ d = 0))) := by
  simp only [spec_GameOk.j0, (in_within _ _ _).1, Option.bind_some]
  cases x
  · by_cases he : e = 1
    · by_cases hc : 0 ≤ c ∧ c ≤ 99 <;> simp [he, hc]
      omega
    · by_cases hc : c = 0 <;> simp [he, hc]
      rw [Bool.eq_iff_iff]; simp
  · simp
theorem specGameOk_eq (n a b c d e : Int) (k : Nat) (hn : -9223372036854775808 ≤ n) (hk : 0 < k) : spec_GameOk.f k n a b c d e = some (gameOk n a b c d e) := by
  obtain ⟨k, rfl⟩ : ∃ m, k = m + 1 := ⟨k - 1, by omega⟩
  unfold spec_GameOk.f gameOk
  simp only [(in_within _ _ _).1, Option.bind_some, specGameOk_j]
  by_cases h1 : 2 ≤ n ∧ n ≤ 8
  · have hw : wrap64 (n - 1) = n - 1 := wrap_id (by omega) (by omega)
    rw [hw]
    by_cases h2 : 0 ≤ a ∧ a ≤ n - 1 <;> by_cases h3 : 0 ≤ b ∧ b ≤ n - 1 <;> by_cases h4 : a = b <;> by_cases h5 : 0 ≤ e ∧ e ≤ 4 <;> simp [h1, h2, h3, h4, h5]
    all_goals (try omega)
  · simp [h1]
    omega
theorem implGameOk_j (n m a b c d e : Int) (k : Nat) (hn : -9223372036854775808 ≤ n) (hk : 0 < k) : impl_GameOk.j0 k n m a b c d e = some (decide (2 ≤ n ∧ n ≤ 8 ∧ a ≠ b ∧ 0 ≤ a ∧ a ≤ n - 1 ∧ 0 ≤ b ∧ b ≤ n - 1 ∧ 0 ≤ e ∧ e ≤ 4 ∧ 0 ≤ c ∧ c ≤ m ∧ 0 ≤ d ∧ d ≤ m)) := by
  obtain ⟨k, rfl⟩ : ∃ m, k = m + 1 := ⟨k - 1, by omega⟩
  simp only [impl_GameOk.j0, (in_within _ _ _).2, Option.bind_some]
  by_cases h1 : 2 ≤ n ∧ n ≤ 8
  · have hw : wrap64 (n - 1) = n - 1 := wrap_id (by omega) (by omega)
    rw [hw]
    by_cases h4 : a = b
    · simp [h1, h4]
    · by_cases h2 : 0 ≤ a ∧ a ≤ n - 1
      · by_cases h3 : 0 ≤ b ∧ b ≤ n - 1
        · by_cases h5 : 0 ≤ e ∧ e ≤ 4
          · by_cases h6 : 0 ≤ c ∧ c ≤ m <;> simp [h1, h2, h3, h4, h5, h6]
            omega
          · simp [h1, h2, h3, h4, h5]; omega
        · simp [h1, h2, h3, h4]; omega
      · simp [h1, h2, h4]; omega
  · simp [h1]; omega
theorem implGameOk_eq (n a b c d e : Int) (k : Nat) (hn : -9223372036854775808 ≤ n) (hk : 0 < k) : impl_GameOk.f k n a b c d e = some (gameOk n a b c d e) := by
  unfold impl_GameOk.f gameOk
  by_cases he : e = 1
  · rw [if_pos he, implGameOk_j n 99 a b c d e k hn hk]
    congr 1
    rw [decide_eq_decide]
    omega
  · rw [if_neg he, implGameOk_j n 0 a b c d e k hn hk]
    congr 1
    rw [decide_eq_decide]
    omega
theorem specGameOf_loop (a b : Int) (l : List S71) (hn : l.length ≤ 9223372036854775807) (d : Nat) : ∀ (k i : Nat), i + d = l.length → d < k → (∀ j z, j < i → l[j]? = some z → ((z.f0 == a) && (z.f1 == b)) = false) →
    spec_GameOf.l0 k a b l l.length i = some (idxP (fun x => (x.f0 == a) && (x.f1 == b)) l) := by
  induction d with
  | zero =>
    intro k i hd hk hf
    obtain ⟨k, rfl⟩ : ∃ m, k = m + 1 := ⟨k - 1, by omega⟩
    simp only [spec_GameOf.l0]
    rw [if_neg (by omega), idxP_miss _ l (fun j z hj hz => hf j z (by omega) hz)]
  | succ d ih =>
    intro k i hd hk hf
    obtain ⟨k, rfl⟩ : ∃ m, k = m + 1 := ⟨k - 1, by omega⟩
    have hi : i < l.length := by omega
    have hlt : (i : Int) < (l.length : Int) := by omega
    have h0 : (0 : Int) ≤ (i : Int) := by omega
    have hy : l[i]? = some l[i] := List.getElem?_eq_getElem hi
    have hr : rd_T71 l (i : Int) = l[i] := getD_nat _ l i hi
    simp only [spec_GameOf.l0, hlt, h0, if_true, wrap_succ hi hn, hr]
    by_cases c : (l[i].f0 == a && l[i].f1 == b) = true
    · rw [idxP_hit _ l i _ hy c hf]
      simp only [Bool.and_eq_true, beq_iff_eq] at c
      simp [c]
    · have c' : (l[i].f0 == a && l[i].f1 == b) = false := by simpa using c
      have e := ih k (i + 1) (by omega) (by omega) (fun j z hj hz => by
        by_cases ej : j = i
        · subst ej; rw [hy] at hz; cases hz; exact c'
        · exact hf j z (by omega) hz)
      rw [e]
      repeat' split
      all_goals first | rfl | (exfalso; simp_all)
theorem specGameOf_eq (a b : Int) (l : List S71) (hn : l.length ≤ 9223372036854775807) (k : Nat) (hk : l.length < k) : spec_GameOf.f k l a b = some (idxP (fun x => (x.f0 == a) && (x.f1 == b)) l) := by
  unfold spec_GameOf.f
  exact specGameOf_loop a b l hn l.length k 0 (by omega) hk (fun j z hj => absurd hj (Nat.not_lt_zero _))
theorem idxP_neg {α : Type} (p : α → Bool) (l : List α) : idxP p l < 0 ↔ ∀ (j : Nat) (z : α), l[j]? = some z → p z = false := by
  unfold idxP
  cases h : l.findIdx? p with
  | none =>
    rw [List.findIdx?_eq_none_iff] at h
    exact ⟨fun _ j z hz => h z (List.mem_of_getElem? hz), fun _ => by simp⟩
  | some i =>
    rw [List.findIdx?_eq_some_iff_getElem] at h
    obtain ⟨hi, hp, _⟩ := h
    constructor
    · intro hneg; simp at hneg; omega
    · intro hall
      have := hall i _ (List.getElem?_eq_getElem hi)
      rw [hp] at this; cases this
theorem idxP_at {α : Type} (p : α → Bool) (l : List α) (i : Nat) (y : α) (hy : l[i]? = some y) (hp : p y = true) : (idxP p l = i) ↔ idxP p (l.take i) < 0 := by
  have hi : i < l.length := (List.getElem?_eq_some_iff.1 hy).1
  rw [idxP_neg]
  constructor
  · intro h j z hz
    by_cases hj : j < i
    · rw [List.getElem?_take_of_lt hj] at hz
      unfold idxP at h
      cases hf : l.findIdx? p with
      | none => rw [hf] at h; simp at h
      | some m =>
        rw [hf] at h
        have hm : m = i := by have h2 : (m : Int) = (i : Int) := h; omega
        subst hm
        rw [List.findIdx?_eq_some_iff_getElem] at hf
        obtain ⟨_, _, hb⟩ := hf
        have hjl : j < l.length := by omega
        rw [List.getElem?_eq_getElem hjl] at hz
        cases hz
        exact Bool.eq_false_iff.mpr (hb j hj)
    · rw [List.getElem?_take_eq_none (by omega)] at hz; cases hz
  · intro h
    exact idxP_hit p l i y hy hp (fun j z hj hz => h j z (by rw [List.getElem?_take_of_lt hj]; exact hz))
def pairP (a b : Int) (x : S71) : Bool := (x.f0 == a) && (x.f1 == b)
/-- The games from i on (d of them): each valid, none of them played before. -/
def seasonFrom (n : Int) (l : List S71) : Nat → Nat → Bool
  | _, 0 => true
  | i, d + 1 => gameOk n (rd_T71 l i).f0 (rd_T71 l i).f1 (rd_T71 l i).f2 (rd_T71 l i).f3 (rd_T71 l i).f4 && (decide (idxP (pairP (rd_T71 l i).f0 (rd_T71 l i).f1) (l.take i) < 0) && seasonFrom n l (i + 1) d)
def seasonOk (n : Int) (l : List S71) : Bool := decide (l.length ≤ 60) && seasonFrom n l 0 l.length
theorem specSeason_loop (n : Int) (hw : -9223372036854775808 ≤ n) (l : List S71) (hn : l.length ≤ 9223372036854775807) (d : Nat) : ∀ (k i : Nat), i + d = l.length → l.length + d < k →
    spec_SeasonOk.l0 k n l l l.length i = some (seasonFrom n l i d) := by
  induction d with
  | zero =>
    intro k i hd hk
    obtain ⟨k, rfl⟩ : ∃ m, k = m + 1 := ⟨k - 1, by omega⟩
    simp only [spec_SeasonOk.l0, seasonFrom]
    rw [if_neg (by omega)]
  | succ d ih =>
    intro k i hd hk
    obtain ⟨k, rfl⟩ : ∃ m, k = m + 1 := ⟨k - 1, by omega⟩
    have hi : i < l.length := by omega
    have hlt : (i : Int) < (l.length : Int) := by omega
    have h0 : (0 : Int) ≤ (i : Int) := by omega
    have hy : l[i]? = some (rd_T71 l i) := by rw [List.getElem?_eq_getElem hi]; congr 1; exact (getD_nat _ l i hi).symm
    simp only [spec_SeasonOk.l0, hlt, h0, if_true, wrap_succ hi hn, specGameOk_eq n _ _ _ _ _ k hw (by omega), specGameOf_eq _ _ l hn k (by omega), Option.bind_some, ih k (i + 1) (by omega) (by omega), seasonFrom]
    have ha := idxP_at (pairP (rd_T71 l i).f0 (rd_T71 l i).f1) l i _ hy (by simp [pairP])
    generalize gameOk n (rd_T71 l i).f0 (rd_T71 l i).f1 (rd_T71 l i).f2 (rd_T71 l i).f3 (rd_T71 l i).f4 = g
    change (if g = true then (if idxP (pairP _ _) l = (i : Int) then _ else _) else _) = _
    cases g with
    | false => rfl
    | true =>
      rw [if_pos rfl]
      by_cases c : idxP (pairP (rd_T71 l i).f0 (rd_T71 l i).f1) l = (i : Int)
      · rw [if_pos c, decide_eq_true (ha.1 c)]; rfl
      · rw [if_neg c, decide_eq_false (fun h => c (ha.2 h))]; rfl
theorem implSeason_loop (n : Int) (hw : -9223372036854775808 ≤ n) (l : List S71) (hn : l.length ≤ 9223372036854775807) (d : Nat) : ∀ (k i : Nat), i + d = l.length → d + 1 < k →
    impl_SeasonOk.l0 k n l l l.length i = some (seasonFrom n l i d && decide (l.length ≤ 60)) := by
  induction d with
  | zero =>
    intro k i hd hk
    obtain ⟨k, rfl⟩ : ∃ m, k = m + 1 := ⟨k - 1, by omega⟩
    simp only [impl_SeasonOk.l0, seasonFrom]
    rw [if_neg (by omega), Bool.true_and]
    congr 1
    rw [decide_eq_decide]; omega
  | succ d ih =>
    intro k i hd hk
    obtain ⟨k, rfl⟩ : ∃ m, k = m + 1 := ⟨k - 1, by omega⟩
    have hi : i < l.length := by omega
    have hlt : (i : Int) < (l.length : Int) := by omega
    have hle : (i : Int) ≤ (l.length : Int) := by omega
    have h0 : (0 : Int) ≤ (i : Int) := by omega
    simp only [impl_SeasonOk.l0, hlt, hle, h0, if_true, wrap_succ hi hn, implGameOk_eq n _ _ _ _ _ k hw (by omega), impl_GameOf.f, Option.bind_some, ih k (i + 1) (by omega) (by omega), seasonFrom, Int.toNat_natCast]
    generalize gameOk n (rd_T71 l i).f0 (rd_T71 l i).f1 (rd_T71 l i).f2 (rd_T71 l i).f3 (rd_T71 l i).f4 = g
    change (if g = true then (if idxP (pairP _ _) (l.take i) ≥ 0 then _ else _) else _) = _
    cases g with
    | false => rfl
    | true =>
      rw [if_pos rfl]
      by_cases c : idxP (pairP (rd_T71 l i).f0 (rd_T71 l i).f1) (l.take i) < 0
      · rw [if_neg (by omega), decide_eq_true c]; rfl
      · rw [if_pos (by omega), decide_eq_false c]; rfl
theorem specSeason_eq (n : Int) (hw : -9223372036854775808 ≤ n) (l : List S71) (hn : l.length ≤ 9223372036854775807) (k : Nat) (hk : 2 * l.length < k) : spec_SeasonOk.f k n l = some (seasonOk n l) := by
  unfold spec_SeasonOk.f seasonOk
  by_cases h : (l.length : Int) > 60
  · rw [if_pos h, decide_eq_false (by omega)]; rfl
  · rw [if_neg h, decide_eq_true (by omega)]
    exact specSeason_loop n hw l hn l.length k 0 (by omega) (by omega)
theorem implSeason_eq (n : Int) (hw : -9223372036854775808 ≤ n) (l : List S71) (hn : l.length ≤ 9223372036854775807) (k : Nat) (hk : l.length + 1 < k) : impl_SeasonOk.f k n l = some (seasonOk n l) := by
  unfold impl_SeasonOk.f seasonOk
  rw [Bool.and_comm]
  exact implSeason_loop n hw l hn l.length k 0 (by omega) (by omega)
theorem sz_gen {n : Nat} {a : Int} (h0 : 0 ≤ a) (h1 : a ≤ 1048576) (hn : n ≤ 9223372036854775807) : wrap64 (a - (n : Int)) = a - (n : Int) := wrap_id (by omega) (by omega)
theorem szIntS_gen (l : List Int) (a : Int) (h0 : 0 ≤ a) (h1 : a ≤ 1048576) (hn : l.length ≤ 9223372036854775807) : ∃ r, laws_szIntS.f l a = some r ∧ (r < 0 ∨ (0 ≤ r ∧ r ≤ 1048576 ∧ l.length ≤ 1048576)) := by
  unfold laws_szIntS.f
  rw [sz_gen h0 h1 hn]
  by_cases h : a - (l.length : Int) < 0
  · rw [if_pos h]; exact ⟨-1, rfl, Or.inl (by omega)⟩
  · rw [if_neg h]; exact ⟨_, rfl, Or.inr ⟨by omega, by omega, by omega⟩⟩
theorem szGameS_gen (l : List S99) (a : Int) (h0 : 0 ≤ a) (h1 : a ≤ 1048576) (hn : l.length ≤ 9223372036854775807) : ∃ r, laws_szGameS.f l a = some r ∧ (r < 0 ∨ (0 ≤ r ∧ r ≤ 1048576 ∧ l.length ≤ 1048576)) := by
  unfold laws_szGameS.f
  rw [sz_gen h0 h1 hn]
  by_cases h : a - (l.length : Int) < 0
  · rw [if_pos h]; exact ⟨-1, rfl, Or.inl (by omega)⟩
  · rw [if_neg h]; exact ⟨_, rfl, Or.inr ⟨by omega, by omega, by omega⟩⟩
theorem szBook_eq (lf : List S149) (a b c : Int) (ll : List Int) (g : Bool) (lg : List S99) (f t : List Int) (h1 : lf.length ≤ 9223372036854775807) (hs : ∀ x ∈ lf, x.f0.size ≤ 9223372036854775807) (h2 : ll.length ≤ 9223372036854775807) (h3 : lg.length ≤ 9223372036854775807) (h4 : f.length ≤ 9223372036854775807) (h5 : t.length ≤ 9223372036854775807) (k : Nat) (hk : lf.length < k) :
    ∃ r, laws_szBook.f k lf a b c ll g lg f t 1048576 = some r ∧ (r < 0 ∨ (0 ≤ r ∧ (∀ (j : Nat) (z : S149), lf[j]? = some z → z.f0.size ≤ 1048576) ∧ lf.length ≤ 1048576 ∧ ll.length ≤ 1048576 ∧ lg.length ≤ 1048576 ∧ f.length ≤ 1048576 ∧ t.length ≤ 1048576)) := by
  unfold laws_szBook.f laws_szRules.f
  obtain ⟨r1, e1, c1⟩ := szTeamS_eq lf h1 hs k hk
  rw [e1]
  simp only [Option.bind_some]
  rcases c1 with c1 | ⟨c1, d1, z1⟩
  · rw [if_pos c1]; exact ⟨-1, rfl, Or.inl (by omega)⟩
  · have u1 : r1 ≤ 1048576 := szTeamS_le lf h1 hs k hk r1 e1
    rw [if_neg (by omega)]
    obtain ⟨r2, e2, c2⟩ := szIntS_gen ll r1 c1 u1 h2
    rw [e2]
    simp only [Option.bind_some]
    rcases c2 with c2 | ⟨c2, u2, d2⟩
    · rw [if_pos c2]; simp only [Option.bind_some]; rw [if_pos (by omega)]; exact ⟨-1, rfl, Or.inl (by omega)⟩
    · rw [if_neg (by omega)]; simp only [Option.bind_some]; rw [if_neg (by omega)]
      obtain ⟨r3, e3, c3⟩ := szGameS_gen lg r2 c2 u2 h3
      rw [e3]
      simp only [Option.bind_some]
      rcases c3 with c3 | ⟨c3, u3, d3⟩
      · rw [if_pos c3]; exact ⟨-1, rfl, Or.inl (by omega)⟩
      · rw [if_neg (by omega)]
        obtain ⟨r4, e4, c4⟩ := szIntS_gen f r3 c3 u3 h4
        rw [e4]
        simp only [Option.bind_some]
        rcases c4 with c4 | ⟨c4, u4, d4⟩
        · rw [if_pos c4]; exact ⟨-1, rfl, Or.inl (by omega)⟩
        · rw [if_neg (by omega)]
          obtain ⟨r5, e5, c5⟩ := szIntS_gen t r4 c4 u4 h5
          rw [e5]
          simp only [Option.bind_some]
          rcases c5 with c5 | ⟨c5, u5, d5⟩
          · rw [if_pos c5]; exact ⟨-1, rfl, Or.inl (by omega)⟩
          · rw [if_neg (by omega)]; exact ⟨r5, rfl, Or.inr ⟨c5, z1, d1, d2, d3, d4, d5⟩⟩
def penFrom (f t : List Int) : Nat → Nat → Bool
  | _, 0 => true
  | i, d + 1 => decide (0 ≤ rd f i ∧ rd f i ≤ 1000) && (decide (0 ≤ rd t i ∧ rd t i ≤ 1000) && penFrom f t (i + 1) d)
theorem penFrom_eq (f t : List Int) (n : Nat) (hf : f.length = n) (ht : t.length = n) (d : Nat) : ∀ i, i + d = n → penFrom f t i d = (!((f.drop i).any penaltyP) && !((t.drop i).any penaltyP)) := by
  induction d with
  | zero =>
    intro i hi
    rw [penFrom, List.drop_of_length_le (by omega), List.drop_of_length_le (by omega)]; rfl
  | succ d ih =>
    intro i hi
    have h1 : i < f.length := by omega
    have h2 : i < t.length := by omega
    rw [penFrom, ih (i + 1) (by omega), List.drop_eq_getElem_cons h1, List.drop_eq_getElem_cons h2, List.any_cons, List.any_cons, rd_nat f i h1, rd_nat t i h2]
    unfold penaltyP
    generalize decide (0 ≤ f[i] ∧ f[i] ≤ 1000) = x
    generalize decide (0 ≤ t[i] ∧ t[i] ≤ 1000) = y
    generalize List.any (List.drop (i + 1) f) _ = u
    generalize List.any (List.drop (i + 1) t) _ = v
    cases x <;> cases y <;> cases u <;> cases v <;> rfl
noncomputable def bookOk (lf : List S151) (a b c : Int) (ll : List Int) (lg : List S71) (f t : List Int) : Bool :=
  fieldOk lf && (rulesOk a b c ll && (seasonOk lf.length lg && (decide (f.length = lf.length) && (decide (t.length = lf.length) && (!(f.any penaltyP) && !(t.any penaltyP))))))
theorem implPen_eq (l : List Int) (n : Nat) : impl_arePenalties.f l (n : Int) = some (decide (l.length = n) && !(l.any penaltyP)) := by
  unfold impl_arePenalties.f slices_ContainsFunc_int_int.f
  have e : decide (0 ≤ idxP penaltyP l) = l.any penaltyP := by
    rw [Bool.eq_iff_iff, decide_eq_true_eq]; exact idxP_any _ _
  rw [e]
  by_cases h : l.length = n
  · rw [if_pos (by omega), decide_eq_true h]; rfl
  · rw [if_neg (by omega), decide_eq_false h]; rfl
theorem implBook_eq (lf : List S151) (a b c : Int) (ll : List Int) (g : Bool) (lg : List S71) (f t : List Int) (hs : ∀ (j : Nat) (z : S151), lf[j]? = some z → z.f0.size ≤ 1048576) (h2 : ll.length ≤ 1048576) (h3 : lg.length ≤ 1048576) (k : Nat) (hk : 4000000 ≤ k) :
    impl_BookOk.f k lf a b c ll g lg f t = some (bookOk lf a b c ll lg f t) := by
  unfold impl_BookOk.f bookOk
  rw [implField_eq lf hs k (by omega), implRules_eq a b c ll g (by omega) k (by omega), implSeason_eq (lf.length : Int) (by omega) lg (by omega) k (by omega), implPen_eq, implPen_eq]
  simp only [Option.bind_some]
  generalize decide (f.length = lf.length) = x
  generalize f.any penaltyP = y
  cases fieldOk lf <;> cases rulesOk a b c ll <;> cases seasonOk (lf.length : Int) lg <;> cases x <;> cases y <;> simp
theorem specPen_loop (n : Nat) (hn : n ≤ 8) (lf : List S151) (a b c : Int) (ll : List Int) (g : Bool) (lg : List S71) (f t : List Int) (hf : f.length = n) (ht : t.length = n) (d : Nat) : ∀ (k i : Nat), i + d = n → d < k →
    spec_BookOk.l0 k n i lf a b c ll g lg f t = some (penFrom f t i d) := by
  induction d with
  | zero =>
    intro k i hd hk
    obtain ⟨k, rfl⟩ : ∃ m, k = m + 1 := ⟨k - 1, by omega⟩
    simp only [spec_BookOk.l0, penFrom]
    rw [if_neg (by omega)]
  | succ d ih =>
    intro k i hd hk
    obtain ⟨k, rfl⟩ : ∃ m, k = m + 1 := ⟨k - 1, by omega⟩
    simp only [spec_BookOk.l0, penFrom, (in_within _ _ _).1, Option.bind_some]
    rw [if_pos (by omega), if_pos (by omega), if_pos (by omega), if_pos (show (i : Int) < (t.length : Int) by omega), wrap_succ (show i < n by omega) (by omega), ih k (i + 1) (by omega) (by omega)]
    generalize decide (0 ≤ rd f i ∧ rd f i ≤ 1000) = x
    generalize decide (0 ≤ rd t i ∧ rd t i ≤ 1000) = y
    cases x <;> cases y <;> rfl
theorem fieldOk_len (lf : List S151) (h : fieldOk lf = true) : 2 ≤ lf.length ∧ lf.length ≤ 8 := by
  unfold fieldOk at h
  rw [Bool.and_eq_true, decide_eq_true_eq] at h
  exact h.1
theorem specBook_eq (lf : List S151) (a b c : Int) (ll : List Int) (g : Bool) (lg : List S71) (f t : List Int) (hs : ∀ (j : Nat) (z : S151), lf[j]? = some z → z.f0.size ≤ 1048576) (h2 : ll.length ≤ 1048576) (h3 : lg.length ≤ 1048576) (k : Nat) (hk : 4000000 ≤ k) :
    spec_BookOk.f k lf a b c ll g lg f t = some (bookOk lf a b c ll lg f t) := by
  obtain ⟨k, rfl⟩ : ∃ m, k = m + 1 := ⟨k - 1, by omega⟩
  unfold spec_BookOk.f bookOk
  rw [specField_eq lf hs (k + 1) (by omega), specRules_eq a b c ll g (by omega) (k + 1) (by omega), specSeason_eq (lf.length : Int) (by omega) lg (by omega) (k + 1) (by omega)]
  simp only [Option.bind_some, spec_BookOk.j0]
  cases hF : fieldOk lf with
  | false => rfl
  | true =>
    obtain ⟨g1, g2⟩ := fieldOk_len lf hF
    cases rulesOk a b c ll with
    | false => rfl
    | true =>
      cases seasonOk (lf.length : Int) lg with
      | false => rfl
      | true =>
        by_cases e1 : f.length = lf.length
        · rw [decide_eq_true e1]
          by_cases e2 : t.length = lf.length
          · have hne : ((t.length : Int) != (lf.length : Int)) = false := by simp [e2]
            have hp := penFrom_eq f t lf.length e1 e2 lf.length 0 (by omega)
            rw [List.drop_zero, List.drop_zero] at hp
            have hl := specPen_loop lf.length g2 lf a b c ll g lg f t e1 e2 lf.length k 0 (by omega) (by omega)
            rw [show ((0 : Nat) : Int) = 0 from rfl] at hl
            rw [decide_eq_true e2, hne, ← hp]
            simp only [if_true, hl]
            rw [if_pos (by omega)]
            simp
          · have hne : ((t.length : Int) != (lf.length : Int)) = true := by simp; omega
            rw [decide_eq_false e2, hne]
            simp
        · rw [decide_eq_false e1]
          simp only [if_true]
          rw [if_neg (by omega)]
          simp
/-! Tables: what the reference's counting and the program's make of valid games. -/
def RowW (x : S74) : Prop := (-9223372036854775808 ≤ x.f0 ∧ x.f0 ≤ 9223372036854775807) ∧ (-9223372036854775808 ≤ x.f1 ∧ x.f1 ≤ 9223372036854775807) ∧ (-9223372036854775808 ≤ x.f2 ∧ x.f2 ≤ 9223372036854775807) ∧ (-9223372036854775808 ≤ x.f3 ∧ x.f3 ≤ 9223372036854775807) ∧ (-9223372036854775808 ≤ x.f4 ∧ x.f4 ≤ 9223372036854775807) ∧ (-9223372036854775808 ≤ x.f5 ∧ x.f5 ≤ 9223372036854775807) ∧ (-9223372036854775808 ≤ x.f6 ∧ x.f6 ≤ 9223372036854775807)
theorem wrap_bd (x : Int) : -9223372036854775808 ≤ wrap64 x ∧ wrap64 x ≤ 9223372036854775807 := by unfold wrap64; omega
theorem sum_w (X x : S74) : RowW (spSum X x) := ⟨wrap_bd _, wrap_bd _, wrap_bd _, wrap_bd _, wrap_bd _, wrap_bd _, wrap_bd _⟩
theorem wrap_zero {x : Int} (h : -9223372036854775808 ≤ x ∧ x ≤ 9223372036854775807) : wrap64 (x + 0) = x := by rw [Int.add_zero]; exact wrap_id h.1 h.2
theorem play_eq (u0 u1 u2 r1 r2 : Int) (X Y : S74) (hX : RowW X) (hY : RowW Y) : tbPlay u0 u1 u2 r1 r2 X Y = (spSum X (spRow u0 u1 u2 r1 r2), spSum Y (spRow u0 u1 u2 r2 r1)) := by
  obtain ⟨a0, a1, a2, a3, a4, a5, a6⟩ := hX
  obtain ⟨b0, b1, b2, b3, b4, b5, b6⟩ := hY
  have z1 := wrap_zero a1; have z2 := wrap_zero a2; have z3 := wrap_zero a3
  have y1 := wrap_zero b1; have y2 := wrap_zero b2; have y3 := wrap_zero b3
  unfold tbPlay spRow
  rcases Int.lt_trichotomy r1 r2 with c | c | c
  · rw [if_neg (show ¬ r1 > r2 by omega), if_pos c, if_neg (show ¬ r1 > r2 by omega), if_neg (show ¬ r1 = r2 by omega), if_pos (show r2 > r1 by omega)]
    simp only [tbIn, tbAdd, tbSet, tbGet, spSum, z1, z2, z3, y1, y2, y3]
  · rw [if_neg (show ¬ r1 > r2 by omega), if_neg (show ¬ r1 < r2 by omega), if_neg (show ¬ r1 > r2 by omega), if_pos c, if_neg (show ¬ r2 > r1 by omega), if_pos c.symm]
    simp only [tbIn, tbAdd, tbSet, tbGet, spSum, z1, z2, z3, y1, y2, y3]
  · rw [if_pos (show r1 > r2 by omega), if_pos (show r1 > r2 by omega), if_neg (show ¬ r2 > r1 by omega), if_neg (show ¬ r2 = r1 by omega)]
    simp only [tbIn, tbAdd, tbSet, tbGet, spSum, z1, z2, z3, y1, y2, y3]
theorem goals_same (g : S71) : tbGoals g = spG g.f2 g.f3 g.f4 := rfl
/-- One game, as the reference counts it. -/
theorem step_eq (u0 u1 u2 : Int) (p : S71 → Bool) (ll : List Int) (b : Bool) (n : Nat) (rows : List S74) (g : S71) (hl : rows.length = n) (hw : ∀ x ∈ rows, RowW x) (hg : tbOk (n : Int) g = true) (hp : p g = true) :
    spec_l06Add.f u0 u1 u2 ll b rows g.f0 g.f1 g.f2 g.f3 g.f4 = some (tbStep u0 u1 u2 p rows g) ∧ (tbStep u0 u1 u2 p rows g).length = n ∧ ∀ x ∈ tbStep u0 u1 u2 p rows g, RowW x := by
  obtain ⟨q0, q1, q2, q3, q4⟩ := tbOk_iff hg
  have i0 : g.f0.toNat < rows.length := by omega
  have i1 : g.f1.toNat < rows.length := by omega
  have ine : g.f0.toNat ≠ g.f1.toNat := by omega
  unfold spec_l06Add.f tbStep
  rw [← goals_same, hp, Bool.and_true]
  cases hc : (tbGoals g).2.2 with
  | false => exact ⟨rfl, hl, hw⟩
  | true =>
    rw [if_pos rfl, if_pos rfl, if_pos (by simp only [Bool.and_eq_true, decide_eq_true_eq]; omega)]
    have hX : rows.getD g.f0.toNat z74 = rows[g.f0.toNat] := by simp [List.getD_eq_getElem?_getD, i0]
    have hY : rows.getD g.f1.toNat z74 = rows[g.f1.toNat] := by simp [List.getD_eq_getElem?_getD, i1]
    have wX : RowW (rows.getD g.f0.toNat z74) := by rw [hX]; exact hw _ (List.getElem_mem i0)
    have wY : RowW (rows.getD g.f1.toNat z74) := by rw [hY]; exact hw _ (List.getElem_mem i1)
    rw [play_eq u0 u1 u2 _ _ _ _ wX wY]
    refine ⟨?_, by rw [List.length_set, List.length_set]; exact hl, ?_⟩
    · congr 1
      unfold spAdd
      have e1 : rd_T74 rows g.f0 = rows.getD g.f0.toNat z74 := rfl
      have e2 : ∀ x, rd_T74 (rows.set g.f0.toNat x) g.f1 = rows.getD g.f1.toNat z74 := fun x => by
        unfold rd_T74
        rw [List.getD_eq_getElem?_getD, List.getD_eq_getElem?_getD, List.getElem?_set_ne ine]
      rw [e2, e1]
    · intro x hx
      rcases List.mem_or_eq_of_mem_set hx with hx | rfl
      · rcases List.mem_or_eq_of_mem_set hx with hx | rfl
        · exact hw x hx
        · exact sum_w _ _
      · exact sum_w _ _
theorem step_skip (u0 u1 u2 : Int) (p : S71 → Bool) (rows : List S74) (g : S71) (hp : p g = false) : tbStep u0 u1 u2 p rows g = rows := by
  unfold tbStep; rw [hp, Bool.and_false]; rfl
theorem zero_w (n : Nat) : ∀ x ∈ List.replicate n z74, RowW x := by
  intro x hx
  rw [List.eq_of_mem_replicate hx]
  unfold RowW z74
  dsimp only
  omega
theorem season_games (n : Int) (l : List S71) (d : Nat) : ∀ i, i + d = l.length → seasonFrom n l i d = true → ∀ g ∈ l.drop i, tbOk n g = true := by
  induction d with
  | zero => intro i hi _ g hg; rw [List.drop_of_length_le (by omega)] at hg; cases hg
  | succ d ih =>
    intro i hi h g hg
    have hlt : i < l.length := by omega
    rw [seasonFrom, Bool.and_eq_true, Bool.and_eq_true] at h
    rw [List.drop_eq_getElem_cons hlt, List.mem_cons] at hg
    rcases hg with rfl | hg
    · have h1 := h.1
      rw [show rd_T71 l (i : Int) = l[i] from getD_nat _ l i hlt] at h1
      unfold gameOk at h1
      rw [decide_eq_true_eq] at h1
      unfold tbOk
      simp only [Bool.and_eq_true, decide_eq_true_eq]
      omega
    · exact ih (i + 1) (by omega) h.2.2 g hg
theorem season_ok_games (n : Int) (l : List S71) (h : seasonOk n l = true) : ∀ g ∈ l, tbOk n g = true := by
  unfold seasonOk at h
  rw [Bool.and_eq_true] at h
  have := season_games n l l.length 0 (by omega) h.2
  rwa [List.drop_zero] at this
/-- What the reference counts: all, or those among a group. -/
def amongP (group : List Int) (all : Bool) (g : S71) : Bool := all || (decide (g.f0 ∈ group) && decide (g.f1 ∈ group))
theorem among_loop (u0 u1 u2 : Int) (ll : List Int) (b : Bool) (group : List Int) (all : Bool) (hgr : group.length ≤ 9223372036854775807) (n : Nat) (l : List S71) (hn : l.length ≤ 9223372036854775807) (hok : ∀ g ∈ l, tbOk (n : Int) g = true) (d : Nat) : ∀ (k i : Nat) (rows : List S74), i + d = l.length → d + group.length < k → rows.length = n → (∀ x ∈ rows, RowW x) →
    spec_l06Among.l0 k group all rows l l.length i u0 u1 u2 ll b = some ((l.drop i).foldl (tbStep u0 u1 u2 (amongP group all)) rows) := by
  induction d with
  | zero =>
    intro k i rows hi hk _ _
    obtain ⟨k, rfl⟩ : ∃ m, k = m + 1 := ⟨k - 1, by omega⟩
    simp only [spec_l06Among.l0]
    rw [if_neg (by omega), List.drop_of_length_le (by omega)]; rfl
  | succ d ih =>
    intro k i rows hi hk hl hw
    obtain ⟨k, rfl⟩ : ∃ m, k = m + 1 := ⟨k - 1, by omega⟩
    have hlt : i < l.length := by omega
    have h1 : (i : Int) < (l.length : Int) := by omega
    have h0 : (0 : Int) ≤ (i : Int) := by omega
    have hy : rd_T71 l (i : Int) = l[i] := getD_nat _ l i hlt
    have hg := hok l[i] (List.getElem_mem hlt)
    rw [List.drop_eq_getElem_cons hlt, List.foldl_cons]
    simp only [spec_l06Among.l0, h1, h0, if_true, hy, wrap_succ hlt hn, has_eq _ group hgr k (by omega), Option.bind_some]
    rcases Bool.eq_false_or_eq_true (amongP group all l[i]) with hp | hp
    · obtain ⟨e, hl', hw'⟩ := step_eq u0 u1 u2 (amongP group all) ll b n rows l[i] hl hw hg hp
      have e2 := ih k (i + 1) _ (by omega) (by omega) hl' hw'
      simp only [e, Option.bind_some, e2]
      unfold amongP at hp
      cases all with
      | true => rfl
      | false =>
        simp only [Bool.false_or, Bool.and_eq_true, decide_eq_true_eq] at hp
        simp [hp.1, hp.2]
    · rw [step_skip _ _ _ _ _ _ hp]
      have e2 := ih k (i + 1) rows (by omega) (by omega) hl hw
      simp only [e2]
      unfold amongP at hp
      cases all with
      | true => simp at hp
      | false =>
        by_cases c1 : l[i].f0 ∈ group <;> by_cases c2 : l[i].f1 ∈ group <;> simp_all
theorem specAmong_eq (u0 u1 u2 : Int) (ll : List Int) (b : Bool) (n : Int) (h0 : 0 ≤ n) (h1 : n ≤ 100000) (l : List S71) (hn : l.length ≤ 9223372036854775807) (hok : ∀ g ∈ l, tbOk n g = true) (group : List Int) (hgr : group.length ≤ 9223372036854775807) (all : Bool) (k : Nat) (hk : l.length + group.length < k) :
    spec_l06Among.f k u0 u1 u2 ll b n l group all = some (tbTable u0 u1 u2 (amongP group all) n l) := by
  obtain ⟨N, rfl⟩ := Int.eq_ofNat_of_zero_le h0
  unfold spec_l06Among.f tbTable
  rw [if_pos h0, if_pos (by rw [Int.toNat_natCast]; omega), Int.toNat_natCast]
  have := among_loop u0 u1 u2 ll b group all hgr N l hn hok l.length k 0 (List.replicate N z74) (by omega) (by omega) (List.length_replicate ..) (zero_w N)
  rwa [List.drop_zero] at this
/-- The value of a team: nothing for what is no key. -/
def kvV (a1 : Int) (R : List S74) (f t : List Int) (lf : List S151) (i : Nat) : Int := if 1 ≤ a1 ∧ a1 ≤ 8 then impl_ranker_values.val a1 R f t lf (i : Int) else 0
theorem specVals_loop (a1 : Int) (R : List S74) (n : Nat) (hn : n ≤ 8) (lf : List S151) (a b c : Int) (ll : List Int) (g : Bool) (lg : List S71) (f t : List Int) (hR : R.length = n) (hlf : lf.length = n) (hf : f.length = n) (ht : t.length = n) (d : Nat) : ∀ (k i : Nat), i + d = n → 2 * d + 1 ≤ k →
    spec_l07Values.l0 k a1 ((List.range i).map (kvV a1 R f t lf)) R n i lf a b c ll g lg f t = some ((List.range n).map (kvV a1 R f t lf)) := by
  induction d with
  | zero =>
    intro k i hd hk
    obtain ⟨k, rfl⟩ : ∃ m, k = m + 1 := ⟨k - 1, by omega⟩
    simp only [spec_l07Values.l0]
    rw [if_neg (by omega), show i = n by omega]
  | succ d ih =>
    intro k i hd hk
    obtain ⟨k, rfl⟩ : ∃ m, k = m + 1 := ⟨k - 1, by omega⟩
    have step : ∀ (v : Int) (k' : Nat), 2 * d + 1 ≤ k' → v = kvV a1 R f t lf i → spec_l07Values.l0 k' a1 ((List.range i).map (kvV a1 R f t lf) ++ [v]) R n (wrap64 ((i : Int) + 1)) lf a b c ll g lg f t = some ((List.range n).map (kvV a1 R f t lf)) := by
      intro v k' hk' hv
      have := ih k' (i + 1) (by omega) hk'
      rw [List.range_succ, List.map_append, List.map_cons, List.map_nil, ← hv] at this
      rw [wrap_succ (show i < n by omega) (by omega)]
      exact this
    have hl : ((List.range i).map (kvV a1 R f t lf)).length < 17592186044416 := by simp; omega
    simp only [spec_l07Values.l0]
    generalize (List.range i).map (kvV a1 R f t lf) = out at step hl
    rw [if_pos (show (i : Int) < (n : Int) by omega), if_pos (show (0 : Int) ≤ (i : Int) by omega), if_pos (show (i : Int) < (R.length : Int) by omega)]
    by_cases e1 : a1 = 1
    · rw [if_pos e1, if_pos (by omega), if_pos hl]
      exact step _ k (by omega) (by unfold kvV impl_ranker_values.val; rw [if_pos (by omega), if_pos e1])
    rw [if_neg e1]
    by_cases e5 : a1 = 5
    · rw [if_pos e5, if_pos hl]
      exact step _ k (by omega) (by unfold kvV impl_ranker_values.val; rw [if_pos (by omega), if_neg e1, if_neg (by omega), if_neg (by omega), if_neg (by omega), if_pos e5])
    rw [if_neg e5]
    obtain ⟨k, rfl⟩ : ∃ m, k = m + 1 := ⟨k - 1, by omega⟩
    have hj : (if a1 = 2 then (spec_l07Values.j1 (k + 1) a1 out i 0 R n i a1 (a1 == 2) lf a b c ll g lg f t ((rd_T74 R i).f0) ((rd_T74 R i).f1) ((rd_T74 R i).f2) ((rd_T74 R i).f3) ((rd_T74 R i).f4) ((rd_T74 R i).f5) ((rd_T74 R i).f6)) else (spec_l07Values.j1 (k + 1) a1 out i 0 R n i a1 (a1 == 6) lf a b c ll g lg f t ((rd_T74 R i).f0) ((rd_T74 R i).f1) ((rd_T74 R i).f2) ((rd_T74 R i).f3) ((rd_T74 R i).f4) ((rd_T74 R i).f5) ((rd_T74 R i).f6))) = spec_l07Values.j1 (k + 1) a1 out i 0 R n i a1 (decide (a1 = 2 ∨ a1 = 6)) lf a b c ll g lg f t ((rd_T74 R i).f0) ((rd_T74 R i).f1) ((rd_T74 R i).f2) ((rd_T74 R i).f3) ((rd_T74 R i).f4) ((rd_T74 R i).f5) ((rd_T74 R i).f6) := by
      by_cases e2 : a1 = 2
      · rw [if_pos e2, show (a1 == 2) = true by simpa using e2, decide_eq_true (Or.inl e2)]
      · rw [if_neg e2]
        by_cases e6 : a1 = 6
        · rw [show (a1 == 6) = true by simpa using e6, decide_eq_true (Or.inr e6)]
        · rw [show (a1 == 6) = false by simpa using e6, decide_eq_false (by omega)]
    rw [hj]
    simp only [spec_l07Values.j1]
    by_cases e2 : a1 = 2 ∨ a1 = 6
    · rw [if_pos (decide_eq_true e2), show spec_DifferenceOf.f _ _ _ _ _ _ _ = some (wrap64 ((rd_T74 R i).f4 - (rd_T74 R i).f5)) from rfl, Option.bind_some, if_pos hl]
      exact step _ k (by omega) (by unfold kvV impl_ranker_values.val; rw [if_pos (by omega), if_neg e1, if_pos e2])
    rw [if_neg (by simpa using e2)]
    by_cases e3 : a1 = 3
    · rw [if_pos e3, if_pos hl]
      exact step _ k (by omega) (by unfold kvV impl_ranker_values.val; rw [if_pos (by omega), if_neg e1, if_neg e2, if_pos e3])
    rw [if_neg e3]
    by_cases e4 : a1 = 4
    · rw [if_pos e4, if_pos hl]
      exact step _ k (by omega) (by unfold kvV impl_ranker_values.val; rw [if_pos (by omega), if_neg e1, if_neg e2, if_neg e3, if_pos e4])
    rw [if_neg e4]
    by_cases e7 : a1 = 7
    · rw [if_pos e7, if_pos (by omega), if_pos (by omega), if_pos hl]
      exact step _ k (by omega) (by unfold kvV impl_ranker_values.val; rw [if_pos (by omega), if_neg e1, if_neg e2, if_neg e3, if_neg e4, if_neg e5, if_pos e7])
    rw [if_neg e7]
    by_cases e8 : a1 = 8
    · rw [if_pos e8, if_pos (by omega), if_pos (by omega), if_pos hl]
      exact step _ k (by omega) (by unfold kvV impl_ranker_values.val; rw [if_pos (by omega), if_neg e1, if_neg e2, if_neg e3, if_neg e4, if_neg e5, if_neg e7])
    rw [if_neg e8, if_pos hl]
    exact step _ k (by omega) (by unfold kvV; rw [if_neg (by omega)])
/-- The rows that a key looks at. -/
def kvR (a b c : Int) (n : Nat) (lg : List S71) (a1 : Int) (q : List Int) : List S74 := impl_ranker_values.rows a b c (n : Int) lg (tbTable a b c (fun _ => true) (n : Int) lg) a1 q
theorem kvR_len (a b c : Int) (n : Nat) (lg : List S71) (a1 : Int) (q : List Int) : (kvR a b c n lg a1 q).length = n := by
  unfold kvR impl_ranker_values.rows
  split <;> rw [tbTable_len] <;> omega
theorem kv_all (q : List Int) : amongP q true = fun _ => true := by funext g; rfl
theorem kv_grp (q : List Int) : amongP q false = amongIn q := by funext g; unfold amongP amongIn; rw [Bool.false_or]
theorem specVals_eq (a1 : Int) (lf : List S151) (a b c : Int) (ll : List Int) (g : Bool) (lg : List S71) (f t q : List Int) (hn : lf.length ≤ 8) (hf : f.length = lf.length) (ht : t.length = lf.length) (hlg : lg.length ≤ 1048576) (hq : q.length ≤ 1048576) (hok : ∀ x ∈ lg, tbOk (lf.length : Int) x = true) (k : Nat) (hk : 3000000 < k) :
    spec_l07Values.f k lf a b c ll g lg f t a1 q = some ((List.range lf.length).map (kvV a1 (kvR a b c lf.length lg a1 q) f t lf)) := by
  have hm : spec_IsMutual.f a1 = some (decide (a1 = 5 ∨ a1 = 6)) := by
    unfold spec_IsMutual.f
    by_cases e : a1 = 5
    · rw [if_pos e, decide_eq_true (Or.inl e)]
    · rw [if_neg e]
      congr 1
      rw [Bool.eq_iff_iff]
      simp [e]
  unfold spec_l07Values.f
  rw [hm, Option.bind_some, specAmong_eq a b c ll g (lf.length : Int) (by omega) (by omega) lg (by omega) hok q (by omega) _ k (by omega), Option.bind_some]
  have hr : tbTable a b c (amongP q (!decide (a1 = 5 ∨ a1 = 6))) (lf.length : Int) lg = kvR a b c lf.length lg a1 q := by
    unfold kvR impl_ranker_values.rows
    by_cases e : a1 = 5 ∨ a1 = 6
    · rw [if_pos e, decide_eq_true e, Bool.not_true, kv_grp]
    · rw [if_neg e, decide_eq_false e, Bool.not_false, kv_all]
  rw [hr]
  have hl := kvR_len a b c lf.length lg a1 q
  generalize kvR a b c lf.length lg a1 q = R at hl
  have := specVals_loop a1 R lf.length hn lf a b c ll g lg f t hl rfl hf ht lf.length k 0 (by omega) (by omega)
  rw [hl]
  exact this
theorem implVals_eq (a1 : Int) (h1 : 1 ≤ a1 ∧ a1 ≤ 8) (lf : List S151) (a b c : Int) (ll : List Int) (g : Bool) (lg : List S71) (f t q : List Int) (hn : 1 ≤ lf.length ∧ lf.length ≤ 8) (hf : f.length = lf.length) (ht : t.length = lf.length) (hok : ∀ x ∈ lg, tbOk (lf.length : Int) x = true) :
    impl_ranker_values.f lf a b c ll g lg f t a1 q = some ((List.range lf.length).map (kvV a1 (kvR a b c lf.length lg a1 q) f t lf)) := by
  unfold impl_ranker_values.f impl_ranker_values.f10
  rw [if_pos (by simp only [Bool.and_eq_true, decide_eq_true_eq, List.all_eq_true]; exact ⟨by omega, hok⟩), if_pos ⟨⟨h1, by omega, hf, ht, by rw [tbTable_len]; omega⟩, hok⟩]
  congr 1
  refine List.map_congr_left fun j _ => ?_
  unfold kvV kvR
  rw [if_pos h1]
theorem book_parts (lf : List S151) (a b c : Int) (ll : List Int) (lg : List S71) (f t : List Int) (h : bookOk lf a b c ll lg f t = true) : 2 ≤ lf.length ∧ lf.length ≤ 8 ∧ f.length = lf.length ∧ t.length = lf.length ∧ ∀ x ∈ lg, tbOk (lf.length : Int) x = true := by
  unfold bookOk at h
  simp only [Bool.and_eq_true, decide_eq_true_eq] at h
  have h1 := fieldOk_len lf h.1
  exact ⟨h1.1, h1.2, h.2.2.2.1, h.2.2.2.2.1, season_ok_games _ lg h.2.2.1⟩
theorem rd_map (V : Nat → Int) (n : Nat) (x : Int) (h0 : 0 ≤ x) (h1 : x < (n : Int)) : rd ((List.range n).map V) x = V x.toNat := by
  obtain ⟨i, rfl⟩ : ∃ i : Nat, x = i := ⟨x.toNat, by omega⟩
  rw [rd_nat _ i (by simp; omega)]
  simp
noncomputable def kvOut (lf : List S151) (a b c : Int) (ll : List Int) (lg : List S71) (f t : List Int) (a1 a2 : Int) (q : List Int) : Int :=
  if (bookOk lf a b c ll lg f t && decide (0 ≤ a2 ∧ a2 ≤ (lf.length : Int) - 1)) = true then kvV a1 (kvR a b c lf.length lg a1 q) f t lf a2.toNat else 0
theorem specKV_eq (lf : List S151) (a b c : Int) (ll : List Int) (g : Bool) (lg : List S71) (f t : List Int) (a1 a2 : Int) (q : List Int) (hs : ∀ (j : Nat) (z : S151), lf[j]? = some z → z.f0.size ≤ 1048576) (h0 : lf.length ≤ 1048576) (h2 : ll.length ≤ 1048576) (h3 : lg.length ≤ 1048576) (hq : q.length ≤ 1048576) (k : Nat) (hk : lf.length + 4000000 ≤ k) :
    spec_KeyValue.f k lf a b c ll g lg f t a1 a2 q = some (kvOut lf a b c ll lg f t a1 a2 q) := by
  unfold spec_KeyValue.f kvOut
  rw [specBook_eq lf a b c ll g lg f t hs (by omega) (by omega) k (by omega), Option.bind_some]
  cases hB : bookOk lf a b c ll lg f t with
  | false => rfl
  | true =>
    obtain ⟨n1, n2, hf, ht, hok⟩ := book_parts lf a b c ll lg f t hB
    rw [if_pos rfl, wrap_id (by omega) (by omega), (in_within _ _ _).1, Option.bind_some]
    by_cases h : 0 ≤ a2 ∧ a2 ≤ (lf.length : Int) - 1
    · rw [if_pos (decide_eq_true h), specVals_eq a1 lf a b c ll g lg f t q n2 hf ht h3 hq hok k (by omega), Option.bind_some, if_pos h.1, if_pos (by simp; omega), rd_map _ _ _ h.1 (by omega), if_pos (by rw [decide_eq_true h]; rfl)]
    · rw [if_neg (by simpa using h), if_neg (by rw [decide_eq_false h]; simp)]
theorem implKV_eq (lf : List S151) (a b c : Int) (ll : List Int) (g : Bool) (lg : List S71) (f t : List Int) (a1 a2 : Int) (q : List Int) (hs : ∀ (j : Nat) (z : S151), lf[j]? = some z → z.f0.size ≤ 1048576) (h0 : lf.length ≤ 1048576) (h2 : ll.length ≤ 1048576) (h3 : lg.length ≤ 1048576) (k : Nat) (hk : lf.length + 4000000 ≤ k) :
    impl_KeyValue.f k lf a b c ll g lg f t a1 a2 q = some (kvOut lf a b c ll lg f t a1 a2 q) := by
  unfold impl_KeyValue.f kvOut impl_isKey.f impl_isTeam.f
  rw [implBook_eq lf a b c ll g lg f t hs (by omega) (by omega) k (by omega), Option.bind_some]
  cases hB : bookOk lf a b c ll lg f t with
  | false => rfl
  | true =>
    obtain ⟨n1, n2, hf, ht, hok⟩ := book_parts lf a b c ll lg f t hB
    simp only [(in_within _ _ _).2, Option.bind_some, if_true]
    rw [wrap_id (by omega) (by omega)]
    by_cases hk1 : 1 ≤ a1 ∧ a1 ≤ 8
    · rw [if_pos (decide_eq_true hk1)]
      by_cases h : 0 ≤ a2 ∧ a2 ≤ (lf.length : Int) - 1
      · rw [decide_eq_true h, if_pos rfl, implVals_eq a1 hk1 lf a b c ll g lg f t q (by omega) hf ht hok, Option.bind_some, if_pos h.1, if_pos (by simp; omega), rd_map _ _ _ h.1 (by omega), if_pos (by rfl)]
      · rw [decide_eq_false h, if_neg (by simp), if_neg (by simp)]
    · rw [if_neg (by simpa using hk1)]
      by_cases h : 0 ≤ a2 ∧ a2 ≤ (lf.length : Int) - 1
      · rw [if_pos (by rw [decide_eq_true h]; rfl)]
        unfold kvV
        rw [if_neg hk1]
      · rw [if_neg (by rw [decide_eq_false h]; simp)]
theorem FnExactKeyValue : FnExactKeyValue_pure := by
  intro lf a b c ll g lg f t a1 a2 q0 h1 hs _ _ _ h2 _ h3 _ h4 _ h5 _ _ _ h6 _
  unfold maxLen at h1 h2 h3 h4 h5 h6
  refine ⟨lf.length + 4000000, ?_⟩
  unfold laws_FnExactKeyValue.f
  by_cases hb0 : (q0.length : Int) > 1048576
  · rw [if_pos hb0]
  rw [if_neg hb0]
  obtain ⟨r, e0, h⟩ := szBook_eq lf a b c ll g lg f t (by omega) (fun x hx => (hs x hx).1) (by omega) (by omega) (by omega) (by omega) (lf.length + 4000000) (by omega)
  rw [e0]
  simp only [Option.bind_some]
  rcases h with h | ⟨c0, z1, d1, d2, d3, d4, d5⟩
  · rw [if_pos h]
  · rw [if_neg (by omega)]
    have e := laws_toTeamS_eq lf (by omega) (lf.length + 4000000) (by omega)
    have hz : ∀ (j : Nat) (z : S151), (lf.map laws_toTeamS_c)[j]? = some z → z.f0.size ≤ 1048576 := by
      intro j z hz
      rw [List.getElem?_map] at hz
      obtain ⟨y, hy, rfl⟩ := Option.map_eq_some_iff.1 hz
      exact z1 j y hy
    generalize hm : lf.map laws_toTeamS_c = m at e hz
    have hml : m.length = lf.length := by rw [← hm]; simp
    have eg := laws_toGameS_eq lg (by omega) (lf.length + 4000000) (by omega)
    generalize hm2 : lg.map laws_toGameS_c = q at eg
    have hql : q.length = lg.length := by rw [← hm2]; simp
    have er : laws_toRules.f (lf.length + 4000000) a b c ll g = some (a, b, c, ll, g) := by unfold laws_toRules.f; rw [toIntS_eq ll (by omega) _ (by omega)]; rfl
    have ef := toIntS_eq f (by omega) (lf.length + 4000000) (by omega)
    have et := toIntS_eq t (by omega) (lf.length + 4000000) (by omega)
    have ei := toIntS_eq q0 (by omega) (lf.length + 4000000) (by omega)
    have eb : laws_toBook.f (lf.length + 4000000) lf a b c ll g lg f t = some (m, a, b, c, ll, g, q, f, t) := by
      unfold laws_toBook.f
      simp only [e, er, eg, ef, et, Option.bind_some]
    have e1 := specKV_eq m a b c ll g q f t a1 a2 q0 hz (by omega) (by omega) (by omega) (by omega) (lf.length + 4000000) (by omega)
    have e2 := implKV_eq m a b c ll g q f t a1 a2 q0 hz (by omega) (by omega) (by omega) (lf.length + 4000000) (by omega)
    have q1 := laws_eqTeamS_eq m (by omega) (lf.length + 4000000) (by omega)
    have q2 : laws_eqRules.f (lf.length + 4000000) a b c ll g a b c ll g = some true := by unfold laws_eqRules.f; rw [eqIntS_eq ll (by omega) _ (by omega)]; simp
    have q3 := laws_eqGameS_eq q (by omega) (lf.length + 4000000) (by omega)
    have q4 := eqIntS_eq f (by omega) (lf.length + 4000000) (by omega)
    have q5 := eqIntS_eq t (by omega) (lf.length + 4000000) (by omega)
    have q7 := eqIntS_eq q0 (by omega) (lf.length + 4000000) (by omega)
    have q6 : laws_eqBook.f (lf.length + 4000000) m a b c ll g q f t m a b c ll g q f t = some true := by
      unfold laws_eqBook.f
      simp only [q1, q2, q3, q4, q5, Option.bind_some, if_true]
    simp only [Option.bind_some, eb, e1, e2, ei, q6, q7, if_true]

end Go.Proofs.Ytikfdjgigeggjaa.Pure
