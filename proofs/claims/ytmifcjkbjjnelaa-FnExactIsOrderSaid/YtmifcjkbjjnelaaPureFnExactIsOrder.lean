/- Whatever the number and the list: IsOrder of the program and of the reference answer alike, and the list stays as it was; no condition beyond the form's own reach. -/
import Derived.Test.YtmifcjkbjjnelaaSayFnExactIsOrder
import Derived.Test.YtmifcjkbjjnelaaPureKit
namespace Go.Proofs.Ytmifcjkbjjnelaa.Pure
open Go.RowKit Go.Proofs.Ytmifcjkbjjnelaa.MFnExactIsOrder Go.Proofs.Ytmifcjkbjjnelaa.PureKit Go.Proofs.YtmifcjkbjjnelaaW.PrintWords Go.Proofs.YtmifcjkbjjnelaaW.PrintLast
set_option linter.unusedSimpArgs false
set_option linter.unusedVariables false
theorem in_within (n lo hi : Int) : spec_l01In.f n lo hi = some (decide (lo ≤ n ∧ n ≤ hi)) ∧ impl_within.f n lo hi = some (decide (lo ≤ n ∧ n ≤ hi)) := by
  unfold spec_l01In.f impl_within.f
  by_cases h : lo ≤ n <;> simp [h]
theorem toIntS_loop (x0 : List Int) (hn : x0.length ≤ 9223372036854775807) (d : Nat) : ∀ (k i : Nat) (acc : List Int), acc.length = x0.length → acc.take i = x0.take i → i + d = x0.length → d < k →
    laws_toIntS.l0 k x0 acc i = some x0 := by
  induction d with
  | zero =>
    intro k i acc hl ht hd hk
    obtain ⟨k, rfl⟩ : ∃ m, k = m + 1 := ⟨k - 1, by omega⟩
    simp only [laws_toIntS.l0]
    rw [if_neg (by omega)]
    rw [List.take_of_length_le (by omega), List.take_of_length_le (by omega)] at ht
    rw [ht]
  | succ d ih =>
    intro k i acc hl ht hd hk
    obtain ⟨k, rfl⟩ : ∃ m, k = m + 1 := ⟨k - 1, by omega⟩
    have hi : i < x0.length := by omega
    simp only [laws_toIntS.l0]
    rw [if_pos (by omega), if_pos (by omega), if_pos (by omega), wrap_succ hi hn, rd_nat x0 i hi, Int.toNat_natCast]
    refine ih k (i + 1) _ (by simp [hl]) ?_ (by omega) (by omega)
    have := set_copy (fun x => x) x0 acc i hi hl (by simpa using ht)
    simpa using this
theorem toIntS_eq (x0 : List Int) (hn : x0.length ≤ 35184372088832) (k : Nat) (hk : x0.length < k) : laws_toIntS.f k x0 = some x0 := by
  unfold laws_toIntS.f
  rw [if_pos (by omega), if_pos (by omega)]
  exact toIntS_loop x0 (by omega) x0.length k 0 _ (by simp) (by simp) (by omega) hk
theorem eqIntS_loop (x : List Int) (hn : x.length ≤ 9223372036854775807) (d : Nat) : ∀ (k i : Nat), i + d = x.length → d < k → laws_eqIntS.l0 k x x i = some true := by
  induction d with
  | zero =>
    intro k i hd hk
    obtain ⟨k, rfl⟩ : ∃ m, k = m + 1 := ⟨k - 1, by omega⟩
    simp only [laws_eqIntS.l0]
    rw [if_neg (by omega)]
  | succ d ih =>
    intro k i hd hk
    obtain ⟨k, rfl⟩ : ∃ m, k = m + 1 := ⟨k - 1, by omega⟩
    simp only [laws_eqIntS.l0]
    rw [if_pos (by omega), if_pos (by omega), if_pos (by omega), if_pos trivial, wrap_succ (show i < x.length by omega) hn]
    exact ih k (i + 1) (by omega) (by omega)
theorem eqIntS_eq (x : List Int) (hn : x.length ≤ 9223372036854775807) (k : Nat) (hk : x.length < k) : laws_eqIntS.f k x x = some true := by
  unfold laws_eqIntS.f
  rw [if_pos rfl]
  exact eqIntS_loop x hn x.length k 0 (by omega) hk
theorem has_loop (t : Int) (x : List Int) (hn : x.length ≤ 9223372036854775807) (d : Nat) : ∀ (k i : Nat), i + d = x.length → d < k →
    spec_l02Has.l0 k t x x.length i = some (decide (t ∈ x.drop i)) := by
  induction d with
  | zero =>
    intro k i hd hk
    obtain ⟨k, rfl⟩ : ∃ m, k = m + 1 := ⟨k - 1, by omega⟩
    simp only [spec_l02Has.l0]
    rw [if_neg (by omega), List.drop_of_length_le (by omega)]
    simp
  | succ d ih =>
    intro k i hd hk
    obtain ⟨k, rfl⟩ : ∃ m, k = m + 1 := ⟨k - 1, by omega⟩
    have hi : i < x.length := by omega
    have hlt : (i : Int) < (x.length : Int) := by omega
    have h0 : (0 : Int) ≤ (i : Int) := by omega
    simp only [spec_l02Has.l0, hlt, h0, if_true, wrap_succ hi hn, ih k (i + 1) (by omega) (by omega), rd_nat x i hi]
    have hm : t ∈ x.drop i ↔ t = x[i] ∨ t ∈ x.drop (i + 1) := by rw [List.drop_eq_getElem_cons hi, List.mem_cons]
    by_cases c : x[i] = t
    · rw [if_pos c, decide_eq_true (hm.2 (Or.inl c.symm))]
    · rw [if_neg c]
      congr 1
      rw [decide_eq_decide, hm]
      exact ⟨Or.inr, fun h => h.resolve_left (fun e => c e.symm)⟩
theorem has_eq (t : Int) (x : List Int) (hn : x.length ≤ 9223372036854775807) (k : Nat) (hk : x.length < k) : spec_l02Has.f k x t = some (decide (t ∈ x)) := by
  unfold spec_l02Has.f
  exact has_loop t x hn x.length k 0 (by omega) hk
def upL (n : Nat) : List Int := (List.range n).map (fun j : Nat => (j : Int))
theorem upL_len (n : Nat) : (upL n).length = n := by simp [upL]
theorem upL_succ (n : Nat) : upL (n + 1) = upL n ++ [(n : Int)] := by simp [upL, List.range_succ]
theorem mem_upL {n : Nat} {x : Int} (h : x ∈ upL n) : 0 ≤ x ∧ x < n := by
  unfold upL at h
  obtain ⟨j, hj, rfl⟩ := List.mem_map.1 h
  have := List.mem_range.1 hj
  omega
theorem upTo_loop (n : Nat) (hn : n ≤ 1000000000) (d : Nat) : ∀ (k i : Nat), i + d = n → d < k → impl_upTo.l0 k (upL i) n i = some (upL n) := by
  induction d with
  | zero =>
    intro k i hd hk
    obtain ⟨k, rfl⟩ : ∃ m, k = m + 1 := ⟨k - 1, by omega⟩
    simp only [impl_upTo.l0]
    rw [if_neg (by omega), show i = n by omega]
  | succ d ih =>
    intro k i hd hk
    obtain ⟨k, rfl⟩ : ∃ m, k = m + 1 := ⟨k - 1, by omega⟩
    simp only [impl_upTo.l0]
    rw [if_pos (by omega), if_pos (by rw [upL_len]; omega), wrap_succ (show i < n by omega) (by omega), ← upL_succ]
    exact ih k (i + 1) (by omega) (by omega)
theorem upTo_eq (n : Nat) (hn : n ≤ 1000000000) (k : Nat) (hk : n < k) : impl_upTo.f k (n : Int) = some (upL n) := by
  unfold impl_upTo.f
  rw [show mx (n : Int) 0 = (n : Int) by unfold mx; omega]
  exact upTo_loop n hn n k 0 (by omega) hk
theorem rising_ext : ∀ (a b : List Int), a.Pairwise (· < ·) → b.Pairwise (· < ·) → (∀ x, x ∈ a ↔ x ∈ b) → a = b := by
  intro a
  induction a with
  | nil =>
    intro b _ _ h
    cases b with
    | nil => rfl
    | cons y b => exact absurd ((h y).2 List.mem_cons_self) (by simp)
  | cons x a ih =>
    intro b ha hb h
    cases b with
    | nil => exact absurd ((h x).1 List.mem_cons_self) (by simp)
    | cons y b =>
      rw [List.pairwise_cons] at ha hb
      have hxy : x = y := by
        rcases List.mem_cons.1 ((h x).1 List.mem_cons_self) with e | e
        · exact e
        · rcases List.mem_cons.1 ((h y).2 List.mem_cons_self) with e' | e'
          · exact e'.symm
          · have h1 := hb.1 x e
            have h2 := ha.1 y e'
            omega
      subst hxy
      congr 1
      refine ih b ha.2 hb.2 (fun z => ?_)
      have hz := h z
      rw [List.mem_cons, List.mem_cons] at hz
      constructor
      · intro hm
        rcases hz.1 (Or.inr hm) with e | e
        · have := ha.1 z hm; omega
        · exact e
      · intro hm
        rcases hz.2 (Or.inr hm) with e | e
        · have := hb.1 z hm; omega
        · exact e
theorem sort_facts (L : List Int) : (L.mergeSort fun x y => decide (x ≤ y)).Pairwise (· ≤ ·) ∧ (∀ x, x ∈ (L.mergeSort fun x y => decide (x ≤ y)) ↔ x ∈ L) ∧ (L.mergeSort fun x y => decide (x ≤ y)).Perm L := by
  refine ⟨?_, fun x => List.mem_mergeSort, List.mergeSort_perm _ _⟩
  refine (List.pairwise_mergeSort (le := fun x y => decide (x ≤ y)) (fun a b c x y => ?_) (fun a b => ?_) _).imp (fun x => of_decide_eq_true x)
  · have x := of_decide_eq_true x
    have y := of_decide_eq_true y
    exact decide_eq_true (by omega)
  · rw [Bool.or_eq_true, decide_eq_true_eq, decide_eq_true_eq]; omega
theorem nodup_le (a : List Int) : ∀ b : List Int, a.Nodup → (∀ x ∈ a, x ∈ b) → a.length ≤ b.length := by
  induction a with
  | nil => intro b _ _; exact Nat.zero_le _
  | cons x a ih =>
    intro b hn hs
    rw [List.nodup_cons] at hn
    have hx := hs x List.mem_cons_self
    have := ih (b.erase x) hn.2 (fun y hy => by
      have hne : y ≠ x := fun e => hn.1 (e ▸ hy)
      exact (List.mem_erase_of_ne hne).2 (hs y (List.mem_cons_of_mem _ hy)))
    have hl := List.length_erase_of_mem hx
    have hp : 0 < b.length := List.length_pos_of_mem hx
    rw [List.length_cons]
    omega
theorem upL_rising (n : Nat) : (upL n).Pairwise (· < ·) := by
  induction n with
  | zero => exact List.Pairwise.nil
  | succ n ih =>
    rw [upL_succ, List.pairwise_append]
    refine ⟨ih, by simp, ?_⟩
    intro a ha b hb
    rw [List.mem_singleton.1 hb]
    exact (mem_upL ha).2
theorem upL_mem (n : Nat) (x : Int) (h0 : 0 ≤ x) (h1 : x < n) : x ∈ upL n := by
  unfold upL
  rw [List.mem_map]
  exact ⟨x.toNat, List.mem_range.2 (by omega), by omega⟩
theorem order_iff (n : Nat) (l : List Int) : (l.mergeSort fun x y => decide (x ≤ y)) = upL n ↔ l.length = n ∧ (∀ x ∈ l, 0 ≤ x ∧ x < n) ∧ l.Nodup := by
  obtain ⟨s1, s2, s3⟩ := sort_facts l
  constructor
  · intro h
    rw [h] at s2 s3
    refine ⟨?_, fun x hx => mem_upL ((s2 x).2 hx), ?_⟩
    · rw [← s3.length_eq, upL_len]
    · exact (s3.nodup_iff).1 ((upL_rising n).imp (fun {a b} (hab : a < b) => by omega))
  · rintro ⟨h1, h2, h3⟩
    have hnd : (l.mergeSort fun x y => decide (x ≤ y)).Nodup := s3.nodup_iff.2 h3
    have hr : (l.mergeSort fun x y => decide (x ≤ y)).Pairwise (· < ·) := by
      refine (List.pairwise_and_iff.2 ⟨s1, hnd⟩).imp (fun {a b} hab => ?_)
      have h1 := hab.1
      have h2 := hab.2
      omega
    refine rising_ext _ _ hr (upL_rising n) (fun x => ?_)
    rw [s2]
    constructor
    · intro hx
      have := h2 x hx
      exact upL_mem n x this.1 this.2
    · intro hx
      rcases Classical.em (x ∈ l) with c | c
      · exact c
      · exfalso
        have hle := nodup_le l ((upL n).erase x) h3 (fun y hy => by
          have hne : y ≠ x := fun e => c (e ▸ hy)
          have := h2 y hy
          exact (List.mem_erase_of_ne hne).2 (upL_mem n y this.1 this.2))
        rw [List.length_erase_of_mem hx, upL_len] at hle
        have := List.length_pos_of_mem hx
        rw [upL_len] at this
        omega
theorem equal_loop (a b : List Int) (hl : a.length = b.length) (hn : a.length ≤ 9223372036854775807) (d : Nat) : ∀ (k i : Nat), i + d = a.length → d < k →
    slices_Equal_int_int.l0 k a b a.length i = some (decide (a.drop i = b.drop i)) := by
  induction d with
  | zero =>
    intro k i hd hk
    obtain ⟨k, rfl⟩ : ∃ m, k = m + 1 := ⟨k - 1, by omega⟩
    simp only [slices_Equal_int_int.l0]
    rw [if_neg (by omega), List.drop_of_length_le (by omega), List.drop_of_length_le (by omega)]
    simp
  | succ d ih =>
    intro k i hd hk
    obtain ⟨k, rfl⟩ : ∃ m, k = m + 1 := ⟨k - 1, by omega⟩
    have hi : i < a.length := by omega
    have hj : i < b.length := by omega
    simp only [slices_Equal_int_int.l0]
    rw [if_pos (by omega), if_pos (by omega), if_pos (by omega), if_pos (by omega), rd_nat a i hi, rd_nat b i hj, wrap_succ hi hn, ih k (i + 1) (by omega) (by omega)]
    have ea : a.drop i = a[i] :: a.drop (i + 1) := List.drop_eq_getElem_cons hi
    have eb : b.drop i = b[i] :: b.drop (i + 1) := List.drop_eq_getElem_cons hj
    rw [ea, eb]
    by_cases c : a[i] = b[i]
    · rw [if_pos c]
      congr 1
      rw [decide_eq_decide]
      exact ⟨fun h => by rw [c, h], fun h => (List.cons.inj h).2⟩
    · rw [if_neg c, decide_eq_false (fun h => c (List.cons.inj h).1)]
theorem equal_eq (a b : List Int) (hn : a.length ≤ 9223372036854775807) (hm : b.length ≤ 9223372036854775807) (k : Nat) (hk : a.length < k) : slices_Equal_int_int.f k a b = some (decide (a = b)) := by
  unfold slices_Equal_int_int.f
  by_cases c : a.length = b.length
  · rw [if_pos (by omega)]
    exact equal_loop a b c hn a.length k 0 (by omega) hk
  · rw [if_neg (by omega), decide_eq_false (fun h => c (by rw [h]))]
/-- The places from i on (d of them): each below n, none that stood before. -/
def ordFrom (n : Int) (l : List Int) : Nat → Nat → Bool
  | _, 0 => true
  | i, d + 1 => decide (0 ≤ rd l i ∧ rd l i ≤ n - 1) && (!decide (rd l i ∈ l.take i) && ordFrom n l (i + 1) d)
theorem ordFrom_iff (n : Int) (l : List Int) (d : Nat) : ∀ i, i + d = l.length → (ordFrom n l i d = true ↔ ∀ j (h : j < l.length), i ≤ j → (0 ≤ l[j] ∧ l[j] ≤ n - 1) ∧ l[j] ∉ l.take j) := by
  induction d with
  | zero => intro i hd; exact ⟨fun _ j h hij => by omega, fun _ => rfl⟩
  | succ d ih =>
    intro i hd
    have hi : i < l.length := by omega
    simp only [ordFrom, Bool.and_eq_true, decide_eq_true_eq, Bool.not_eq_true', decide_eq_false_iff_not]
    rw [ih (i + 1) (by omega), rd_nat l i hi]
    constructor
    · rintro ⟨h1, h2, h3⟩ j hj hij
      by_cases e : j = i
      · subst e; exact ⟨h1, h2⟩
      · exact h3 j hj (by omega)
    · intro h
      exact ⟨(h i hi (Nat.le_refl _)).1, (h i hi (Nat.le_refl _)).2, fun j hj hij => h j hj (by omega)⟩
theorem ordFrom_all (n : Int) (l : List Int) : ordFrom n l 0 l.length = true ↔ (∀ x ∈ l, 0 ≤ x ∧ x < n) ∧ l.Nodup := by
  rw [ordFrom_iff n l l.length 0 (by omega)]
  constructor
  · intro h
    constructor
    · intro x hx
      obtain ⟨j, hj, rfl⟩ := List.mem_iff_getElem.1 hx
      have := (h j hj (Nat.zero_le _)).1
      omega
    · rw [List.Nodup, List.pairwise_iff_getElem]
      intro i j hi hj hij e
      refine (h j hj (Nat.zero_le _)).2 ?_
      rw [List.mem_take_iff_getElem]
      exact ⟨i, by omega, e⟩
  · rintro ⟨h1, h2⟩ j hj _
    have := h1 _ (List.getElem_mem hj)
    refine ⟨by omega, fun hm => ?_⟩
    obtain ⟨i, hi, e⟩ := List.mem_take_iff_getElem.1 hm
    exact (List.pairwise_iff_getElem.1 h2) i j (by omega) hj (by omega) e
def isOrd (n : Int) (l : List Int) : Bool := decide (0 ≤ n ∧ n ≤ 8) && (decide ((l.length : Int) = n) && ordFrom n l 0 l.length)
theorem specOrd_loop (n : Int) (h0 : 0 ≤ n ∧ n ≤ 8) (l : List Int) (hn : l.length ≤ 1048576) (d : Nat) : ∀ (k i : Nat), i + d = l.length → l.length + d < k →
    spec_IsOrder.l0 k n l l l.length i = some (ordFrom n l i d) := by
  induction d with
  | zero =>
    intro k i hd hk
    obtain ⟨k, rfl⟩ : ∃ m, k = m + 1 := ⟨k - 1, by omega⟩
    simp only [spec_IsOrder.l0, ordFrom]
    rw [if_neg (by omega)]
  | succ d ih =>
    intro k i hd hk
    obtain ⟨k, rfl⟩ : ∃ m, k = m + 1 := ⟨k - 1, by omega⟩
    have hi : i < l.length := by omega
    have hw : wrap64 (n - 1) = n - 1 := wrap_id (by omega) (by omega)
    have ht : (l.take i).length ≤ 9223372036854775807 := by rw [List.length_take]; omega
    simp only [spec_IsOrder.l0, ordFrom]
    rw [if_pos (by omega), if_pos (by omega), if_pos (by omega), hw, (in_within _ _ _).1, Option.bind_some, wrap_succ hi (by omega), ih k (i + 1) (by omega) (by omega), Int.toNat_natCast, has_eq _ _ ht k (by rw [List.length_take]; omega), Option.bind_some]
    by_cases c : 0 ≤ rd l i ∧ rd l i ≤ n - 1
    · rw [decide_eq_true c, if_pos rfl, if_pos (by omega)]
      by_cases q : rd l i ∈ l.take i
      · rw [decide_eq_true q, if_pos rfl]; rfl
      · rw [decide_eq_false q, if_neg (by simp)]; rfl
    · rw [decide_eq_false c, if_neg (by simp)]; rfl
theorem specOrd_eq (n : Int) (l : List Int) (hn : l.length ≤ 1048576) (k : Nat) (hk : 2 * l.length + 2 < k) : spec_IsOrder.f k n l = some (isOrd n l) := by
  unfold spec_IsOrder.f isOrd
  obtain ⟨k, rfl⟩ : ∃ m, k = m + 1 := ⟨k - 1, by omega⟩
  rw [(in_within _ _ _).1, Option.bind_some]
  by_cases c : 0 ≤ n ∧ n ≤ 8
  · rw [decide_eq_true c, if_pos rfl]
    simp only [spec_IsOrder.j0]
    by_cases q : (l.length : Int) = n
    · rw [if_neg (by simp [q]), decide_eq_true q]
      exact specOrd_loop n c l hn l.length k 0 (by omega) (by omega)
    · rw [if_pos (by simp [q]), decide_eq_false q]; rfl
  · rw [decide_eq_false c, if_neg (by simp)]
    simp only [spec_IsOrder.j0]
    rw [if_pos trivial]; rfl
theorem implOrd_eq (n : Int) (l : List Int) (hn : l.length ≤ 1048576) (k : Nat) (hk : 2 * l.length + 20 < k) : impl_IsOrder.f k n l = some (isOrd n l) := by
  unfold impl_IsOrder.f isOrd
  rw [(in_within _ _ _).2, Option.bind_some]
  by_cases c : 0 ≤ n ∧ n ≤ 8
  · obtain ⟨m, rfl⟩ : ∃ m : Nat, n = (m : Int) := ⟨n.toNat, by omega⟩
    rw [decide_eq_true c, if_pos rfl, if_pos (by omega), upTo_eq m (by omega) k (by omega), Option.bind_some, equal_eq _ _ (by rw [List.length_mergeSort]; omega) (by rw [upL_len]; omega) k (by rw [List.length_mergeSort]; omega)]
    congr 1
    rw [Bool.true_and, Bool.eq_iff_iff, decide_eq_true_eq, order_iff, Bool.and_eq_true, decide_eq_true_eq, ordFrom_all]
    constructor
    · rintro ⟨a, b, e⟩; exact ⟨by omega, b, e⟩
    · rintro ⟨a, b, e⟩; exact ⟨by omega, b, e⟩
  · rw [decide_eq_false c, if_neg (by simp)]; rfl
theorem FnExactIsOrder : FnExactIsOrder_pure := by
  intro n l hw hl _
  unfold maxLen at hl
  refine ⟨2 * l.length + 21, ?_⟩
  unfold laws_FnExactIsOrder.f
  by_cases h : (l.length : Int) > 1048576
  · rw [if_pos h]
  · have e := toIntS_eq l (by omega) (2 * l.length + 21) (by omega)
    have q1 := specOrd_eq n l (by omega) (2 * l.length + 21) (by omega)
    have q2 := implOrd_eq n l (by omega) (2 * l.length + 21) (by omega)
    have q3 := eqIntS_eq l (by omega) (2 * l.length + 21) (by omega)
    rw [if_neg h]
    simp only [Option.bind_some, e, q1, q2, q3, bne_self_eq_false, Bool.false_eq_true, if_false, if_true]

end Go.Proofs.Ytmifcjkbjjnelaa.Pure
