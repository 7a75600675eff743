/- Whatever the texts and what stands between them: Join of the program and of the reference answer alike, and the texts stay as they were; no condition beyond the form's own reach. -/
import Derived.Test.YtlakdahlhfnolaaSayFnExactJoin
import Derived.Test.YtlakdahlhfnolaaPureKit
namespace Go.Proofs.Ytlakdahlhfnolaa.Pure
open Go.RowKit Go.Proofs.Ytlakdahlhfnolaa.MFnExactJoin Go.Proofs.Ytlakdahlhfnolaa.PureKit Go.Proofs.YtlakdahlhfnolaaW.PrintWords Go.Proofs.YtlakdahlhfnolaaW.PrintLast
set_option linter.unusedSimpArgs false
set_option linter.unusedVariables false
theorem sz_big {n : Nat} (h : n ≤ 9223372036854775807) (hb : 1048576 < n) : wrap64 (1048576 - (n : Int)) < 0 := by rw [wrap_id (by omega) (by omega)]; omega
theorem sz_small {n : Nat} (hb : n ≤ 1048576) : ¬ wrap64 (1048576 - (n : Int)) < 0 ∧ wrap64 (1048576 - (n : Int)) = 1048576 - (n : Int) := by
  have h := wrap_id (x := 1048576 - (n : Int)) (by omega) (by omega)
  rw [h]; exact ⟨by omega, rfl⟩
theorem toStringS_loop (x0 : List ByteArray) (hn : x0.length ≤ 9223372036854775807) (d : Nat) : ∀ (k i : Nat) (acc : List ByteArray), acc.length = x0.length → acc.take i = (x0.take i).map id → i + d = x0.length → d < k →
    laws_toStringS.l0 k x0 acc i = some x0 := by
  induction d with
  | zero =>
    intro k i acc hl ht hd hk
    obtain ⟨k, rfl⟩ : ∃ m, k = m + 1 := ⟨k - 1, by omega⟩
    simp only [laws_toStringS.l0]
    rw [if_neg (by omega)]
    rw [List.take_of_length_le (by omega), List.take_of_length_le (by omega), List.map_id] at ht
    rw [ht]
  | succ d ih =>
    intro k i acc hl ht hd hk
    obtain ⟨k, rfl⟩ : ∃ m, k = m + 1 := ⟨k - 1, by omega⟩
    have hi : i < x0.length := by omega
    simp only [laws_toStringS.l0]
    rw [if_pos (by omega), if_pos (by omega), if_pos (by omega), wrap_succ hi hn, rdOf_nat _ x0 i hi, Int.toNat_natCast]
    exact ih k (i + 1) _ (by simp [hl]) (set_copy id x0 acc i hi hl ht) (by omega) (by omega)
theorem toStringS_eq (x0 : List ByteArray) (hn : x0.length ≤ 17592186044416) (k : Nat) (hk : x0.length < k) : laws_toStringS.f k x0 = some x0 := by
  unfold laws_toStringS.f
  rw [if_pos (by omega), if_pos (by omega)]
  exact toStringS_loop x0 (by omega) x0.length k 0 _ (by simp) (by simp) (by omega) hk
theorem eqStringS_loop (x : List ByteArray) (hn : x.length ≤ 9223372036854775807) (d : Nat) : ∀ (k i : Nat), i + d = x.length → d < k → laws_eqStringS.l0 k x x i = some true := by
  induction d with
  | zero =>
    intro k i hd hk
    obtain ⟨k, rfl⟩ : ∃ m, k = m + 1 := ⟨k - 1, by omega⟩
    simp only [laws_eqStringS.l0]
    rw [if_neg (by omega)]
  | succ d ih =>
    intro k i hd hk
    obtain ⟨k, rfl⟩ : ∃ m, k = m + 1 := ⟨k - 1, by omega⟩
    simp only [laws_eqStringS.l0]
    rw [if_pos (by omega), if_pos (by omega), if_pos (by omega), if_pos trivial, wrap_succ (show i < x.length by omega) hn]
    exact ih k (i + 1) (by omega) (by omega)
theorem eqStringS_eq (x : List ByteArray) (hn : x.length ≤ 9223372036854775807) (k : Nat) (hk : x.length < k) : laws_eqStringS.f k x x = some true := by
  unfold laws_eqStringS.f
  rw [if_pos rfl]
  exact eqStringS_loop x hn x.length k 0 (by omega) hk
/-- The bytes of the texts. -/
def sizes (l : List ByteArray) : Nat := (l.map ByteArray.size).sum
theorem szStringS_loop (l : List ByteArray) (hn : l.length ≤ 1048576) (hs : ∀ x ∈ l, x.size ≤ 9223372036854775807) (d : Nat) : ∀ (k i : Nat) (a : Int), i + d = l.length → d < k → 0 ≤ a → a ≤ 1048576 →
    ∃ r, laws_szStringS.l0 k l a i = some r ∧ (r < 0 ∨ (0 ≤ r ∧ r ≤ 1048576 ∧ r + (sizes (l.drop i) : Int) = a)) := by
  induction d with
  | zero =>
    intro k i a hd hk h0 ha
    obtain ⟨k, rfl⟩ : ∃ m, k = m + 1 := ⟨k - 1, by omega⟩
    simp only [laws_szStringS.l0]
    rw [if_neg (by omega)]
    refine ⟨a, rfl, Or.inr ⟨h0, ha, ?_⟩⟩
    rw [List.drop_of_length_le (by omega)]; simp [sizes]
  | succ d ih =>
    intro k i a hd hk h0 ha
    obtain ⟨k, rfl⟩ : ∃ m, k = m + 1 := ⟨k - 1, by omega⟩
    have hi : i < l.length := by omega
    have hr : rdOf ByteArray.empty l (i : Int) = l[i] := rdOf_nat _ l i hi
    have hb := hs l[i] (List.getElem_mem hi)
    have hw : wrap64 (a - ((l[i]).size : Int)) = a - ((l[i]).size : Int) := wrap_id (by omega) (by omega)
    simp only [laws_szStringS.l0]
    rw [if_pos (by omega), if_pos (by omega), hr, hw, wrap_succ hi (show l.length ≤ 9223372036854775807 by omega)]
    by_cases hneg : a - ((l[i]).size : Int) < 0
    · rw [if_pos hneg]
      exact ⟨-1, rfl, Or.inl (by omega)⟩
    · rw [if_neg hneg]
      obtain ⟨r, e, h⟩ := ih k (i + 1) (a - ((l[i]).size : Int)) (by omega) (by omega) (by omega) (by omega)
      refine ⟨r, e, ?_⟩
      rcases h with h | ⟨h3, h4, h5⟩
      · exact Or.inl h
      · refine Or.inr ⟨h3, h4, ?_⟩
        rw [List.drop_eq_getElem_cons hi]
        simp only [sizes, List.map_cons, List.sum_cons] at h5 ⊢
        omega
theorem szStringS_eq (l : List ByteArray) (hn : l.length ≤ 9223372036854775807) (hs : ∀ x ∈ l, x.size ≤ 9223372036854775807) (k : Nat) (hk : l.length < k) :
    ∃ r, laws_szStringS.f k l 1048576 = some r ∧ (r < 0 ∨ (0 ≤ r ∧ l.length ≤ 1048576 ∧ sizes l ≤ 1048576)) := by
  unfold laws_szStringS.f
  by_cases hb : 1048576 < l.length
  · rw [if_pos (sz_big hn hb)]; exact ⟨-1, rfl, Or.inl (by omega)⟩
  · obtain ⟨h1, h2⟩ := sz_small (show l.length ≤ 1048576 by omega)
    rw [if_neg h1, h2]
    obtain ⟨r, e, h⟩ := szStringS_loop l (by omega) hs l.length k 0 (1048576 - (l.length : Int)) (by omega) hk (by omega) (by omega)
    refine ⟨r, e, ?_⟩
    rcases h with h | ⟨h3, h4, h5⟩
    · exact Or.inl h
    · refine Or.inr ⟨h3, by omega, ?_⟩
      rw [List.drop_zero] at h5
      omega
/-- The first i texts, joined. -/
def joinTo (l : List ByteArray) (s : ByteArray) (i : Nat) : ByteArray := ⟨(Lib.join ((l.take i).map (·.data.toList)) s.data.toList).toArray⟩
theorem app_data (a b : ByteArray) : (a ++ b).data.toList = a.data.toList ++ b.data.toList := by
  rw [ByteArray.data_append, Array.toList_append]
theorem join_snoc (xs : List (List UInt8)) (x s : List UInt8) (h : xs ≠ []) : Lib.join (xs ++ [x]) s = Lib.join xs s ++ s ++ x := by
  cases xs with
  | nil => exact absurd rfl h
  | cons y r =>
    rw [List.cons_append, Lib.join_cons, Lib.join_cons]
    simp [Lib.joinTail]
theorem joinTo_one (l : List ByteArray) (s : ByteArray) (h : 0 < l.length) : joinTo l s 1 = l[0] := by
  apply WideShapes.bytes_inj
  unfold joinTo
  rw [show l.take 1 = [l[0]] from by rw [List.take_one]; cases l with | nil => simp at h | cons a l => rfl]
  simp [Lib.join_one]
theorem joinTo_succ (l : List ByteArray) (s : ByteArray) (i : Nat) (hi : i < l.length) (h0 : 0 < i) : joinTo l s (i + 1) = (joinTo l s i ++ s) ++ l[i] := by
  apply WideShapes.bytes_inj
  rw [app_data, app_data]
  unfold joinTo
  rw [take_step l i hi, List.map_append, List.map_cons, List.map_nil, join_snoc _ _ _ (by
    intro e
    have := congrArg List.length e
    rw [List.length_map, List.length_take, List.length_nil] at this
    omega)]
theorem sizes_take (l : List ByteArray) (i : Nat) (hi : i < l.length) : sizes (l.take (i + 1)) = sizes (l.take i) + (l[i]).size := by
  rw [take_step l i hi]
  unfold sizes
  rw [List.map_append, List.sum_append]
  simp
theorem sizes_le (l : List ByteArray) (i : Nat) : sizes (l.take i) ≤ sizes l := by
  have : sizes l = sizes (l.take i) + sizes (l.drop i) := by
    unfold sizes
    rw [← List.sum_append, ← List.map_append, List.take_append_drop]
  omega
theorem joinTo_size (l : List ByteArray) (s : ByteArray) (i : Nat) (hi : i ≤ l.length) : (joinTo l s i).size ≤ sizes (l.take i) + i * s.size := by
  induction i with
  | zero =>
    have : (joinTo l s 0) = ⟨#[]⟩ := rfl
    rw [this]; exact Nat.zero_le _
  | succ i ih =>
    have h := ih (by omega)
    rw [sizes_take l i (by omega), Nat.add_mul, Nat.one_mul]
    rcases Nat.eq_zero_or_pos i with rfl | h0
    · rw [joinTo_one l s (by omega)]; omega
    · rw [joinTo_succ l s i (by omega) h0, ByteArray.size_append, ByteArray.size_append]
      omega
theorem joinTo_bd (l : List ByteArray) (s : ByteArray) (hl : l.length ≤ 1048576) (hz : sizes l ≤ 1048576) (hs : s.size ≤ 1048576) (i : Nat) (hi : i ≤ l.length) : (joinTo l s i).size ≤ 1099512676352 := by
  have h1 := joinTo_size l s i hi
  have h2 := sizes_le l i
  have h3 : i * s.size ≤ 1048576 * 1048576 := Nat.mul_le_mul (by omega) hs
  omega
theorem specJoin_loop (l : List ByteArray) (s : ByteArray) (hl : l.length ≤ 1048576) (hz : sizes l ≤ 1048576) (hs : s.size ≤ 1048576) (d : Nat) : ∀ (k i : Nat), i + d = l.length → d < k →
    spec_Join.l0 k s (joinTo l s i) l l.length i = some (joinTo l s l.length) := by
  induction d with
  | zero =>
    intro k i hd hk
    obtain ⟨k, rfl⟩ : ∃ m, k = m + 1 := ⟨k - 1, by omega⟩
    simp only [spec_Join.l0]
    rw [if_neg (by omega), show i = l.length by omega]
  | succ d ih =>
    intro k i hd hk
    obtain ⟨k, rfl⟩ : ∃ m, k = m + 1 := ⟨k - 1, by omega⟩
    have hi : i < l.length := by omega
    have e := ih k (i + 1) (by omega) (by omega)
    have b0 := joinTo_bd l s hl hz hs i (by omega)
    have b1 := joinTo_bd l s hl hz hs (i + 1) (by omega)
    have hr : rdOf ByteArray.empty l (i : Int) = l[i] := rdOf_nat _ l i hi
    simp only [spec_Join.l0]
    rw [if_pos (by omega), if_pos (by omega), if_pos (by omega), hr, wrap_succ hi (by omega)]
    rcases Nat.eq_zero_or_pos i with rfl | h0
    · rw [if_neg (by omega)]
      have e1 : joinTo l s 0 ++ l[0] = joinTo l s 1 := by
        rw [joinTo_one l s hi]
        apply WideShapes.bytes_inj
        rw [app_data]
        simp [joinTo, Lib.join_nil]
      rw [Nat.zero_add, ← e1, ByteArray.size_append] at b1
      rw [if_pos (by omega), e1]
      exact e
    · rw [joinTo_succ l s i hi h0] at b1 e
      rw [ByteArray.size_append] at b1
      have b2 := b1
      rw [ByteArray.size_append] at b2
      rw [if_pos (by omega), if_pos (by omega), if_pos (by omega)]
      exact e
theorem FnExactJoin : FnExactJoin_pure := by
  intro l s hl hs hs1
  unfold maxLen at hl hs1
  refine ⟨l.length + 1, ?_⟩
  unfold laws_FnExactJoin.f
  by_cases hb : (s.size : Int) > 1048576
  · rw [if_pos hb]
  · rw [if_neg hb]
    obtain ⟨r, e0, h⟩ := szStringS_eq l (by omega) (fun x hx => hs x hx) (l.length + 1) (by omega)
    rw [e0]
    simp only [Option.bind_some]
    rcases h with h | ⟨h3, h4, h5⟩
    · rw [if_pos h]
    · rw [if_neg (by omega)]
      have e := toStringS_eq l (by omega) (l.length + 1) (by omega)
      have e1 := specJoin_loop l s h4 h5 (by omega) l.length (l.length + 1) 0 (by omega) (by omega)
      have b1 := joinTo_bd l s h4 h5 (by omega) l.length (by omega)
      have e2 : impl_Join.f l s = some (joinTo l s l.length) := by
        unfold impl_Join.f strings_Join.f
        unfold joinTo at b1 ⊢
        rw [List.take_of_length_le (by omega)] at b1 ⊢
        have b2 : (Lib.join (l.map (·.data.toList)) s.data.toList).length ≤ 1099512676352 := by
          have : (Lib.join (l.map (·.data.toList)) s.data.toList).toArray.size ≤ 1099512676352 := b1
          simpa using this
        rw [if_pos ⟨by omega, by omega⟩]
        rfl
      have eq := eqStringS_eq l (by omega) (l.length + 1) (by omega)
      have e1' : spec_Join.f (l.length + 1) l s = some (joinTo l s l.length) := e1
      simp only [Option.bind_some, e, e1', e2, eq, if_true]

end Go.Proofs.Ytlakdahlhfnolaa.Pure
