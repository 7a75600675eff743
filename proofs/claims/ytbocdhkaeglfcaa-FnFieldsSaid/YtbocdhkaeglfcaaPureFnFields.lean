/- Whatever the bytes: a drawn field is valid, its order by seeds and its associations are what they should be: the law answers true; no condition beyond the form's own reach. -/
import Derived.Test.YtbocdhkaeglfcaaSayFnFields
import Derived.Test.YtbocdhkaeglfcaaPureKit
namespace Go.Proofs.Ytbocdhkaeglfcaa.Pure
open Go.RowKit Go.Proofs.Ytbocdhkaeglfcaa.MFnFields Go.Proofs.Ytbocdhkaeglfcaa.PureKit Go.Proofs.YtbocdhkaeglfcaaW.PrintWords Go.Proofs.YtbocdhkaeglfcaaW.PrintLast
set_option linter.unusedSimpArgs false
set_option linter.unusedVariables false
theorem within_eq (n lo hi : Int) : impl_within.f n lo hi = some (decide (lo ≤ n ∧ n ≤ hi)) := by
  unfold impl_within.f
  by_cases h : lo ≤ n <;> simp [h]
theorem and255 (n : Int) : Go.bits .and .i64 n 255 = n % 256 := by
  have h255 : (BitVec.ofInt 64 255).toNat = 2 ^ 8 - 1 := by decide
  have key : (BitVec.ofInt 64 n &&& BitVec.ofInt 64 255).toNat = (n % ((2 ^ 64 : Nat) : Int)).toNat % 2 ^ 8 := by
    rw [BitVec.toNat_and, BitVec.toNat_ofInt, h255, Nat.and_two_pow_sub_one_eq_mod]
  show IntKind.i64.wrap ((BitVec.ofInt 64 n &&& BitVec.ofInt 64 255).toNat : Nat) = n % 256
  rw [key, IntKind.wrap_i64]
  omega
/-- A byte that is drawn: from 0 to 255; the place never turns back. -/
theorem byte_ok (c : List Int) (hc : c.length ≤ 9223372036854775807) (p s : Int) (hp : 0 ≤ p) : ∃ x p' s', spec_l01Byte.f c p s = some (x, p', s') ∧ 0 ≤ x ∧ x ≤ 255 ∧ 0 ≤ p' := by
  unfold spec_l01Byte.f
  split
  · try rw [if_pos hp]
    refine ⟨_, _, _, rfl, ?_, ?_, ?_⟩
    · rw [and255]; omega
    · rw [and255]; omega
    · rw [wrap_id (by omega) (by omega)]; omega
  · refine ⟨_, _, _, rfl, ?_, ?_, hp⟩
    · rw [and255]; omega
    · rw [and255]; omega
theorem below_ok (c : List Int) (hc : c.length ≤ 9223372036854775807) (p s n : Int) (hp : 0 ≤ p) (h0 : 0 < n) (h1 : n ≤ 256) : ∃ x p' s', spec_l01Below.f c p s n = some (x, p', s') ∧ 0 ≤ x ∧ x < n ∧ 0 ≤ p' := by
  obtain ⟨x, p', s', e, g0, g1, g2⟩ := byte_ok c hc p s hp
  unfold spec_l01Below.f
  rw [if_neg (by omega), if_pos h1, e]
  simp only [Option.bind_some]
  rw [if_neg (by omega)]
  refine ⟨_, _, _, rfl, Int.tmod_nonneg _ g0, Int.tmod_lt_of_pos _ h0, g2⟩
theorem new_loop (c : List Int) (d : Nat) : ∀ (k i : Nat), i + d = 4000 → d < k → ∀ x : Int, ∃ s, spec_l01New.l0 k c x i = some (c, 0, s) := by
  induction d with
  | zero =>
    intro k i hi hk x
    obtain ⟨k, rfl⟩ : ∃ m, k = m + 1 := ⟨k - 1, by omega⟩
    simp only [spec_l01New.l0]
    rw [if_neg (show ¬ ((i : Int) < 4000) by omega)]
    split <;> exact ⟨_, rfl⟩
  | succ d ih =>
    intro k i hi hk x
    obtain ⟨k, rfl⟩ : ∃ m, k = m + 1 := ⟨k - 1, by omega⟩
    simp only [spec_l01New.l0]
    split
    · rw [if_pos (show (i : Int) < 4000 by omega), if_pos (by omega), show wrap64 ((i : Int) + 1) = ((i + 1 : Nat) : Int) by rw [wrap_id (by omega) (by omega)]; rfl]
      exact ih k (i + 1) (by omega) (by omega) _
    · exact ⟨_, rfl⟩
theorem new_ok (c : List Int) (k : Nat) (hk : 4001 ≤ k) : ∃ s, spec_l01New.f k c = some (c, 0, s) := by
  unfold spec_l01New.f
  exact new_loop c 4000 k 0 (by omega) (by omega) _
/-- The i-th team's name. -/
def tname (i : Nat) : ByteArray := ⟨#[116, UInt8.ofNat (48 + i)]⟩
theorem app_data (a b : ByteArray) : (a ++ b).data.toList = a.data.toList ++ b.data.toList := by
  rw [ByteArray.data_append, Array.toList_append]
theorem format_one (k : Nat) (hk : 2 ≤ k) (i : Nat) (h1 : i ≤ 9) : ∃ t, spec_FormatInt.f k (i : Int) = some t ∧ (⟨#[116]⟩ : ByteArray) ++ t = tname i ∧ t.size = 1 := by
  obtain ⟨k, rfl⟩ : ∃ m, k = m + 2 := ⟨k - 2, by omega⟩
  have e : strOfNums [wrap64 (48 + (i : Int)) % 256] = ⟨#[UInt8.ofNat (48 + i)]⟩ := by
    rw [wrap_id (by omega) (by omega)]
    unfold strOfNums
    have : ((48 + (i : Int)) % 256).toNat = 48 + i := by omega
    simp only [List.map_cons, List.map_nil, this]
  simp only [spec_FormatInt.f, spec_FormatInt.l0, Option.bind_some]
  rw [if_neg (by omega), if_neg (by omega), e, if_pos (by show 1 + 0 ≤ _; omega)]
  refine ⟨_, rfl, ?_, ?_⟩
  · apply WideShapes.bytes_inj
    rw [app_data, app_data]
    simp [tname]
  · rw [ByteArray.size_append]; rfl
/-- A team of a drawn field: its name, its association, its seed. -/
def TeamAt (n tn : Int) (i : Nat) (t : S48) : Prop := t.f0 = tname i ∧ 0 ≤ t.f1 ∧ t.f1 ≤ 3 ∧ t.f2 = Int.tmod ((i : Int) + tn) n + 1
theorem aField_loop (c : List Int) (hc : c.length ≤ 9223372036854775807) (n tn : Int) (h1 : 1 ≤ n) (hn : n ≤ 9) (ht : 0 ≤ tn) (htn : tn < n) (d : Nat) : ∀ (i : Nat), (i : Int) + d = n → ∀ k ≥ d + 3, ∀ l p s, l.length = i → (∀ j (h : j < l.length), TeamAt n tn j l[j]) → 0 ≤ p →
    ∃ r p' s', spec_l02Field.l0 k n l tn i c p s = some (r, p', s') ∧ (r.length : Int) = n ∧ (∀ j (h : j < r.length), TeamAt n tn j r[j]) := by
  induction d with
  | zero =>
    intro i hi k hk l p s hl hT hp
    obtain ⟨k, rfl⟩ : ∃ m, k = m + 1 := ⟨k - 1, by omega⟩
    simp only [spec_l02Field.l0]
    rw [if_neg (by omega)]
    exact ⟨_, _, _, rfl, by omega, hT⟩
  | succ d ih =>
    intro i hi k hk l p s hl hT hp
    obtain ⟨k, rfl⟩ : ∃ m, k = m + 1 := ⟨k - 1, by omega⟩
    obtain ⟨t, et, hn1, hts⟩ := format_one k (by omega) i (by omega)
    obtain ⟨v, p1, s1, e1, v0, v1, hp1⟩ := below_ok c hc p s 4 hp (by omega) (by omega)
    have hm0 : 0 ≤ Int.tmod ((i : Int) + tn) n := Int.tmod_nonneg _ (by omega)
    have hm1 : Int.tmod ((i : Int) + tn) n < n := Int.tmod_lt_of_pos _ (by omega)
    simp only [spec_l02Field.l0, et, e1, Option.bind_some]
    rw [if_pos (by omega), if_pos (by omega), if_neg (by omega), if_pos (by omega), show wrap64 ((i : Int) + 1) = ((i + 1 : Nat) : Int) by rw [wrap_id (by omega) (by omega)]; rfl, wrap_id (x := (i : Int) + tn) (by omega) (by omega), wrap_id (by omega) (by omega)]
    refine ih (i + 1) (by omega) k (by omega) _ _ _ (by rw [List.length_append, hl]; rfl) (fun j hj => ?_) hp1
    by_cases c : j < l.length
    · rw [List.getElem_append_left c]; exact hT j c
    · have ej : j = i := by rw [List.length_append] at hj; simp at hj; omega
      subst ej
      rw [List.getElem_append_right (by omega)]
      simp only [hl, Nat.sub_self, List.getElem_cons_zero]
      exact ⟨hn1, v0, (show v ≤ 3 by omega), rfl⟩
theorem aField_ok (c : List Int) (hc : c.length ≤ 9223372036854775807) (k : Nat) (hk : 4001 ≤ k) :
    ∃ f n tn, spec_MakeField.f k c = some f ∧ 2 ≤ n ∧ n ≤ 6 ∧ 0 ≤ tn ∧ tn < n ∧ (f.length : Int) = n ∧ (∀ j (h : j < f.length), TeamAt n tn j f[j]) := by
  obtain ⟨s, e0⟩ := new_ok c k hk
  obtain ⟨v, p1, s1, e1, v0, v1, hp1⟩ := below_ok c hc 0 s 5 (by omega) (by omega) (by omega)
  obtain ⟨u, p2, s2, e2, u0, u1, hp2⟩ := below_ok c hc p1 s1 (2 + v) hp1 (by omega) (by omega)
  obtain ⟨f, p3, s3, e3, h1, h2⟩ := aField_loop c hc (2 + v) u (by omega) (by omega) u0 u1 (2 + v).toNat 0 (by omega) k (by omega) [] p2 s2 rfl (fun j h => by simp at h) hp2
  refine ⟨f, 2 + v, u, ?_, by omega, by omega, u0, u1, h1, h2⟩
  unfold spec_MakeField.f spec_l02Draw.f spec_l02Field.f
  have e3' : spec_l02Field.l0 k (2 + v) [] u 0 c p2 s2 = some (f, p3, s3) := e3
  simp only [e0, e1, Option.bind_some, wrap_id (x := 2 + v) (by omega) (by omega), e2, e3']
theorem tname_ok (k : Nat) (hk : 5 ≤ k) (i : Nat) (hi : i < 6) : impl_IsName.f k (tname i) = some true := by
  refine at_rounds (g := fun k => impl_IsName.f k (tname i)) (fun k => impl_IsName.mono _ k) hk ?_
  have : i = 0 ∨ i = 1 ∨ i = 2 ∨ i = 3 ∨ i = 4 ∨ i = 5 := by omega
  rcases this with rfl | rfl | rfl | rfl | rfl | rfl <;> decide +kernel
theorem tname_inj (i j : Nat) (hi : i < 6) (hj : j < 6) (h : (tname i).toList = (tname j).toList) : i = j := by
  rw [ByteArray.toList_eq, ByteArray.toList_eq] at h
  have a : i = 0 ∨ i = 1 ∨ i = 2 ∨ i = 3 ∨ i = 4 ∨ i = 5 := by omega
  have b : j = 0 ∨ j = 1 ∨ j = 2 ∨ j = 3 ∨ j = 4 ∨ j = 5 := by omega
  rcases a with rfl | rfl | rfl | rfl | rfl | rfl <;> rcases b with rfl | rfl | rfl | rfl | rfl | rfl <;> first | rfl | exact absurd h (by decide)
theorem seed_inj (n tn : Int) (h1 : 2 ≤ n) (h0 : 0 ≤ tn) (htn : tn < n) (i j : Nat) (hi : (i : Int) < n) (hj : (j : Int) < n) (h : Int.tmod ((i : Int) + tn) n = Int.tmod ((j : Int) + tn) n) : i = j := by
  rw [Int.tmod_eq_emod_of_nonneg (by omega), Int.tmod_eq_emod_of_nonneg (by omega)] at h
  have e : ∀ x : Int, 0 ≤ x → x < n + n → x % n = if x < n then x else x - n := by
    intro x x0 x1
    split
    · exact Int.emod_eq_of_lt x0 (by omega)
    · have : x % n = (x - n) % n := by rw [Int.sub_emod_right]
      rw [this]; exact Int.emod_eq_of_lt (by omega) (by omega)
  rw [e _ (by omega) (by omega), e _ (by omega) (by omega)] at h
  split at h <;> split at h <;> omega
theorem idxP_none {α : Type} (p : α → Bool) (l : List α) (h : ∀ x ∈ l, p x = false) : idxP p l = -1 := by
  unfold idxP
  rw [List.findIdx?_eq_none_iff.2 h]
theorem aField_valid_loop (f : List S48) (n tn : Int) (h1 : 2 ≤ n) (h2 : n ≤ 6) (h0 : 0 ≤ tn) (htn : tn < n) (hl : (f.length : Int) = n) (hT : ∀ j (h : j < f.length), TeamAt n tn j f[j]) (k : Nat) (hk : 5 ≤ k) (d : Nat) : ∀ i : Nat, i + d = f.length → impl_FieldOk.l0 k f d i = some true := by
  induction d with
  | zero =>
    intro i hd
    simp only [impl_FieldOk.l0, within_eq]
    rw [decide_eq_true (by omega)]
  | succ d ih =>
    intro i hd
    have hi : i < f.length := by omega
    have hr : rd_T48 f (i : Int) = f[i] := getD_nat _ f i hi
    obtain ⟨t0, t1, t2, t3⟩ := hT i hi
    have m0 : 0 ≤ Int.tmod ((i : Int) + tn) n := Int.tmod_nonneg _ (by omega)
    have m1 : Int.tmod ((i : Int) + tn) n < n := Int.tmod_lt_of_pos _ (by omega)
    have hok : impl_TeamOk.f k f[i].f0 f[i].f1 f[i].f2 = some true := by
      unfold impl_TeamOk.f
      rw [t0, tname_ok k hk i (by omega), Option.bind_some, if_pos rfl, within_eq, decide_eq_true (by omega), Option.bind_some, if_pos rfl, within_eq, decide_eq_true (by omega), Option.bind_some]
    have hno : idxP (clashP f[i]) (f.take i) = -1 := by
      refine idxP_none _ _ (fun x hx => ?_)
      obtain ⟨j, hj, rfl⟩ := List.mem_take_iff_getElem.1 hx
      have hjl : j < f.length := by omega
      obtain ⟨u0, _, _, u3⟩ := hT j hjl
      unfold clashP
      rw [u0, t0, u3, t3, Bool.or_eq_false_iff]
      constructor
      · rw [beq_eq_false_iff_ne]
        intro e
        have := tname_inj j i (by omega) (by omega) e
        omega
      · rw [beq_eq_false_iff_ne]
        intro e
        have := seed_inj n tn h1 h0 htn j i (by omega) (by omega) (by omega)
        omega
    simp only [impl_FieldOk.l0]
    rw [hr, hok, Option.bind_some, if_pos rfl, hno, if_neg (by omega)]
    exact ih (i + 1) (by omega)
def upL (n : Nat) : List Int := (List.range n).map (fun j : Nat => (j : Int))
theorem upL_len (n : Nat) : (upL n).length = n := by simp [upL]
theorem upL_succ (n : Nat) : upL (n + 1) = upL n ++ [(n : Int)] := by simp [upL, List.range_succ]
theorem mem_upL {n : Nat} {x : Int} (h : x ∈ upL n) : 0 ≤ x ∧ x < n := by
  unfold upL at h
  obtain ⟨j, hj, rfl⟩ := List.mem_map.1 h
  have := List.mem_range.1 hj
  omega
theorem upTo_loop (n : Nat) (hn : n ≤ 1000000000) (d : Nat) : ∀ (k i : Nat), i + d = n → d < k → impl_upTo.l0 k (upL i) n i = some (upL n) := by
  induction d with
  | zero =>
    intro k i hd hk
    obtain ⟨k, rfl⟩ : ∃ m, k = m + 1 := ⟨k - 1, by omega⟩
    simp only [impl_upTo.l0]
    rw [if_neg (by omega), show i = n by omega]
  | succ d ih =>
    intro k i hd hk
    obtain ⟨k, rfl⟩ : ∃ m, k = m + 1 := ⟨k - 1, by omega⟩
    simp only [impl_upTo.l0]
    rw [if_pos (by omega), if_pos (by rw [upL_len]; omega), wrap_succ (show i < n by omega) (by omega), ← upL_succ]
    exact ih k (i + 1) (by omega) (by omega)
theorem upTo_eq (n : Nat) (hn : n ≤ 1000000000) (k : Nat) (hk : n < k) : impl_upTo.f k (n : Int) = some (upL n) := by
  unfold impl_upTo.f
  rw [show mx (n : Int) 0 = (n : Int) by unfold mx; omega]
  exact upTo_loop n hn n k 0 (by omega) hk
theorem rising_ext : ∀ (a b : List Int), a.Pairwise (· < ·) → b.Pairwise (· < ·) → (∀ x, x ∈ a ↔ x ∈ b) → a = b := by
  intro a
  induction a with
  | nil =>
    intro b _ _ h
    cases b with
    | nil => rfl
    | cons y b => exact absurd ((h y).2 List.mem_cons_self) (by simp)
  | cons x a ih =>
    intro b ha hb h
    cases b with
    | nil => exact absurd ((h x).1 List.mem_cons_self) (by simp)
    | cons y b =>
      rw [List.pairwise_cons] at ha hb
      have hxy : x = y := by
        rcases List.mem_cons.1 ((h x).1 List.mem_cons_self) with e | e
        · exact e
        · rcases List.mem_cons.1 ((h y).2 List.mem_cons_self) with e' | e'
          · exact e'.symm
          · have h1 := hb.1 x e
            have h2 := ha.1 y e'
            omega
      subst hxy
      congr 1
      refine ih b ha.2 hb.2 (fun z => ?_)
      have hz := h z
      rw [List.mem_cons, List.mem_cons] at hz
      constructor
      · intro hm
        rcases hz.1 (Or.inr hm) with e | e
        · have := ha.1 z hm; omega
        · exact e
      · intro hm
        rcases hz.2 (Or.inr hm) with e | e
        · have := hb.1 z hm; omega
        · exact e
theorem sort_facts (L : List Int) : (L.mergeSort fun x y => decide (x ≤ y)).Pairwise (· ≤ ·) ∧ (∀ x, x ∈ (L.mergeSort fun x y => decide (x ≤ y)) ↔ x ∈ L) ∧ (L.mergeSort fun x y => decide (x ≤ y)).Perm L := by
  refine ⟨?_, fun x => List.mem_mergeSort, List.mergeSort_perm _ _⟩
  refine (List.pairwise_mergeSort (le := fun x y => decide (x ≤ y)) (fun a b c x y => ?_) (fun a b => ?_) _).imp (fun x => of_decide_eq_true x)
  · have x := of_decide_eq_true x
    have y := of_decide_eq_true y
    exact decide_eq_true (by omega)
  · rw [Bool.or_eq_true, decide_eq_true_eq, decide_eq_true_eq]; omega
theorem nodup_le (a : List Int) : ∀ b : List Int, a.Nodup → (∀ x ∈ a, x ∈ b) → a.length ≤ b.length := by
  induction a with
  | nil => intro b _ _; exact Nat.zero_le _
  | cons x a ih =>
    intro b hn hs
    rw [List.nodup_cons] at hn
    have hx := hs x List.mem_cons_self
    have := ih (b.erase x) hn.2 (fun y hy => by
      have hne : y ≠ x := fun e => hn.1 (e ▸ hy)
      exact (List.mem_erase_of_ne hne).2 (hs y (List.mem_cons_of_mem _ hy)))
    have hl := List.length_erase_of_mem hx
    have hp : 0 < b.length := List.length_pos_of_mem hx
    rw [List.length_cons]
    omega
theorem upL_rising (n : Nat) : (upL n).Pairwise (· < ·) := by
  induction n with
  | zero => exact List.Pairwise.nil
  | succ n ih =>
    rw [upL_succ, List.pairwise_append]
    refine ⟨ih, by simp, ?_⟩
    intro a ha b hb
    rw [List.mem_singleton.1 hb]
    exact (mem_upL ha).2
theorem upL_mem (n : Nat) (x : Int) (h0 : 0 ≤ x) (h1 : x < n) : x ∈ upL n := by
  unfold upL
  rw [List.mem_map]
  exact ⟨x.toNat, List.mem_range.2 (by omega), by omega⟩
theorem order_iff (n : Nat) (l : List Int) : (l.mergeSort fun x y => decide (x ≤ y)) = upL n ↔ l.length = n ∧ (∀ x ∈ l, 0 ≤ x ∧ x < n) ∧ l.Nodup := by
  obtain ⟨s1, s2, s3⟩ := sort_facts l
  constructor
  · intro h
    rw [h] at s2 s3
    refine ⟨?_, fun x hx => mem_upL ((s2 x).2 hx), ?_⟩
    · rw [← s3.length_eq, upL_len]
    · exact (s3.nodup_iff).1 ((upL_rising n).imp (fun {a b} (hab : a < b) => by omega))
  · rintro ⟨h1, h2, h3⟩
    have hnd : (l.mergeSort fun x y => decide (x ≤ y)).Nodup := s3.nodup_iff.2 h3
    have hr : (l.mergeSort fun x y => decide (x ≤ y)).Pairwise (· < ·) := by
      refine (List.pairwise_and_iff.2 ⟨s1, hnd⟩).imp (fun {a b} hab => ?_)
      have h1 := hab.1
      have h2 := hab.2
      omega
    refine rising_ext _ _ hr (upL_rising n) (fun x => ?_)
    rw [s2]
    constructor
    · intro hx
      have := h2 x hx
      exact upL_mem n x this.1 this.2
    · intro hx
      rcases Classical.em (x ∈ l) with c | c
      · exact c
      · exfalso
        have hle := nodup_le l ((upL n).erase x) h3 (fun y hy => by
          have hne : y ≠ x := fun e => c (e ▸ hy)
          have := h2 y hy
          exact (List.mem_erase_of_ne hne).2 (upL_mem n y this.1 this.2))
        rw [List.length_erase_of_mem hx, upL_len] at hle
        have := List.length_pos_of_mem hx
        rw [upL_len] at this
        omega
theorem equal_loop (a b : List Int) (hl : a.length = b.length) (hn : a.length ≤ 9223372036854775807) (d : Nat) : ∀ (k i : Nat), i + d = a.length → d < k →
    slices_Equal_int_int.l0 k a b a.length i = some (decide (a.drop i = b.drop i)) := by
  induction d with
  | zero =>
    intro k i hd hk
    obtain ⟨k, rfl⟩ : ∃ m, k = m + 1 := ⟨k - 1, by omega⟩
    simp only [slices_Equal_int_int.l0]
    rw [if_neg (by omega), List.drop_of_length_le (by omega), List.drop_of_length_le (by omega)]
    simp
  | succ d ih =>
    intro k i hd hk
    obtain ⟨k, rfl⟩ : ∃ m, k = m + 1 := ⟨k - 1, by omega⟩
    have hi : i < a.length := by omega
    have hj : i < b.length := by omega
    simp only [slices_Equal_int_int.l0]
    rw [if_pos (by omega), if_pos (by omega), if_pos (by omega), if_pos (by omega), rd_nat a i hi, rd_nat b i hj, wrap_succ hi hn, ih k (i + 1) (by omega) (by omega)]
    have ea : a.drop i = a[i] :: a.drop (i + 1) := List.drop_eq_getElem_cons hi
    have eb : b.drop i = b[i] :: b.drop (i + 1) := List.drop_eq_getElem_cons hj
    rw [ea, eb]
    by_cases c : a[i] = b[i]
    · rw [if_pos c]
      congr 1
      rw [decide_eq_decide]
      exact ⟨fun h => by rw [c, h], fun h => (List.cons.inj h).2⟩
    · rw [if_neg c, decide_eq_false (fun h => c (List.cons.inj h).1)]
theorem equal_eq (a b : List Int) (hn : a.length ≤ 9223372036854775807) (hm : b.length ≤ 9223372036854775807) (k : Nat) (hk : a.length < k) : slices_Equal_int_int.f k a b = some (decide (a = b)) := by
  unfold slices_Equal_int_int.f
  by_cases c : a.length = b.length
  · rw [if_pos (by omega)]
    exact equal_loop a b c hn a.length k 0 (by omega) hk
  · rw [if_neg (by omega), decide_eq_false (fun h => c (by rw [h]))]
theorem sd_at (f : List S48) (i : Nat) (hi : i < f.length) : impl_SeedOrder.sd f (i : Int) = f[i].f2 := by
  unfold impl_SeedOrder.sd
  rw [show rd_T48 f (i : Int) = f[i] from getD_nat _ f i hi]
/-- The places in the order of the seeds. -/
def byS (f : List S48) : List Int := (upL f.length).mergeSort fun i j => decide (impl_SeedOrder.sd f i ≤ impl_SeedOrder.sd f j)
theorem byS_facts (f : List S48) : (byS f).Perm (upL f.length) ∧ (byS f).Pairwise (fun i j => impl_SeedOrder.sd f i ≤ impl_SeedOrder.sd f j) ∧ (byS f).Nodup ∧ (byS f).length = f.length ∧ ∀ x ∈ byS f, 0 ≤ x ∧ x < (f.length : Int) := by
  have hp : (byS f).Perm (upL f.length) := List.mergeSort_perm _ _
  refine ⟨hp, ?_, hp.nodup_iff.2 ((upL_rising f.length).imp (fun {a b} (hab : a < b) => by omega)), by rw [hp.length_eq, upL_len], fun x hx => mem_upL (hp.subset hx)⟩
  refine (List.pairwise_mergeSort (le := fun i j => decide (impl_SeedOrder.sd f i ≤ impl_SeedOrder.sd f j)) (fun a b c x y => ?_) (fun a b => ?_) _).imp (fun x => of_decide_eq_true x)
  · have x := of_decide_eq_true x
    have y := of_decide_eq_true y
    exact decide_eq_true (by omega)
  · rw [Bool.or_eq_true, decide_eq_true_eq, decide_eq_true_eq]; omega
theorem index_loop (l : List Int) (hn : l.Nodup) (hl : l.length ≤ 1000) (p : Nat) (hp : p < l.length) (d : Nat) : ∀ (k i : Nat), i + d = p → d < k → slices_Index_int_int.l0 k l l[p] l.length i = some (p : Int) := by
  induction d with
  | zero =>
    intro k i hd hk
    obtain ⟨k, rfl⟩ : ∃ m, k = m + 1 := ⟨k - 1, by omega⟩
    have e : i = p := by omega
    subst e
    simp only [slices_Index_int_int.l0]
    rw [if_pos (by omega), if_pos (by omega), if_pos (by omega), rd_nat l i hp, if_pos rfl]
  | succ d ih =>
    intro k i hd hk
    obtain ⟨k, rfl⟩ : ∃ m, k = m + 1 := ⟨k - 1, by omega⟩
    have hi : i < l.length := by omega
    have hne : ¬ l[p] = l[i] := fun e => (List.pairwise_iff_getElem.1 hn) i p hi hp (by omega) e.symm
    simp only [slices_Index_int_int.l0]
    rw [if_pos (by omega), if_pos (by omega), if_pos (by omega), rd_nat l i hi, if_neg hne, wrap_succ hi (by omega)]
    exact ih k (i + 1) (by omega) (by omega)
/-- The places of the teams of association c. -/
def clubI (f : List S48) (L : List Int) (c : Int) : List Int := L.filter fun i => !impl_OfClub.p f c i
theorem club_sum (f : List S48) (L : List Int) (h : ∀ x ∈ L, 0 ≤ (rd_T48 f x).f1 ∧ (rd_T48 f x).f1 ≤ 5) :
    (clubI f L 0).length + (clubI f L 1).length + (clubI f L 2).length + (clubI f L 3).length + (clubI f L 4).length + (clubI f L 5).length = L.length := by
  induction L with
  | nil => rfl
  | cons x L ih =>
    have hx := h x List.mem_cons_self
    have hr := ih (fun y hy => h y (List.mem_cons_of_mem _ hy))
    have step : ∀ c, (clubI f (x :: L) c).length = (clubI f L c).length + if (rd_T48 f x).f1 = c then 1 else 0 := by
      intro c
      unfold clubI
      rw [List.filter_cons]
      by_cases e : (rd_T48 f x).f1 = c
      · rw [if_pos e, if_pos (by unfold impl_OfClub.p; simp [e])]; rfl
      · rw [if_neg e, if_neg (by unfold impl_OfClub.p; simp [e])]; rfl
    simp only [step, List.length_cons]
    have hc : (rd_T48 f x).f1 = 0 ∨ (rd_T48 f x).f1 = 1 ∨ (rd_T48 f x).f1 = 2 ∨ (rd_T48 f x).f1 = 3 ∨ (rd_T48 f x).f1 = 4 ∨ (rd_T48 f x).f1 = 5 := by omega
    rcases hc with e | e | e | e | e | e <;> rw [e] <;> simp <;> omega
theorem keys_pos (L : List Lit) : ∀ A : List Lit, A.length ≤ (L.foldl Go.Maps.addKey A).length := by
  induction L with
  | nil => intro A; exact Nat.le_refl _
  | cons x L ih =>
    intro A
    rw [List.foldl_cons]
    refine Nat.le_trans ?_ (ih _)
    unfold Go.Maps.addKey
    split
    · exact Nat.le_refl _
    · simp
theorem l1_loop (f : List S48) (o : List Int) (s c : Int) (B : Nat) (R : Bool) (H : ∀ k, B ≤ k → laws_FnFields.l0 k f o s (wrap64 (c + 1)) = some R) (q : List Int) (hq : ∀ x ∈ q, 0 ≤ x ∧ x < (f.length : Int) ∧ (rd_T48 f x).f1 = c) (hl : q.length ≤ 1000) (d : Nat) :
    ∀ (k i : Nat), i + d = q.length → B + d < k → laws_FnFields.l1 k f o s c q q.length i = some R := by
  induction d with
  | zero =>
    intro k i hd hk
    obtain ⟨k, rfl⟩ : ∃ m, k = m + 1 := ⟨k - 1, by omega⟩
    simp only [laws_FnFields.l1]
    rw [if_neg (by omega)]
    exact H k (by omega)
  | succ d ih =>
    intro k i hd hk
    obtain ⟨k, rfl⟩ : ∃ m, k = m + 1 := ⟨k - 1, by omega⟩
    have hi : i < q.length := by omega
    obtain ⟨x0, x1, x2⟩ := hq q[i] (List.getElem_mem hi)
    simp only [laws_FnFields.l1]
    rw [if_pos (by omega), if_pos (by omega), if_pos (by omega), rd_nat q i hi, if_neg (by omega), if_neg (by omega), if_pos x0, if_pos x1, if_pos x2, wrap_succ hi (by omega)]
    exact ih k (i + 1) (by omega) (by omega)
theorem aField_valid (f : List S48) (n tn : Int) (h1 : 2 ≤ n) (h2 : n ≤ 6) (h0 : 0 ≤ tn) (htn : tn < n) (hl : (f.length : Int) = n) (hT : ∀ j (h : j < f.length), TeamAt n tn j f[j]) (k : Nat) (hk : 5 ≤ k) : impl_FieldOk.f k f = some true :=
  aField_valid_loop f n tn h1 h2 h0 htn hl hT k hk f.length 0 (by omega)
theorem seeds_differ (f : List S48) (n tn : Int) (h1 : 2 ≤ n) (h0 : 0 ≤ tn) (htn : tn < n) (hl : (f.length : Int) = n) (hT : ∀ j (h : j < f.length), TeamAt n tn j f[j]) (x y : Int) (hx : 0 ≤ x ∧ x < (f.length : Int)) (hy : 0 ≤ y ∧ y < (f.length : Int)) (e : impl_SeedOrder.sd f x = impl_SeedOrder.sd f y) : x = y := by
  obtain ⟨i, rfl⟩ : ∃ i : Nat, x = (i : Int) := ⟨x.toNat, by omega⟩
  obtain ⟨j, rfl⟩ : ∃ j : Nat, y = (j : Int) := ⟨y.toNat, by omega⟩
  have hi : i < f.length := by omega
  have hj : j < f.length := by omega
  rw [sd_at f i hi, sd_at f j hj, (hT i hi).2.2.2, (hT j hj).2.2.2] at e
  rw [seed_inj n tn h1 h0 htn i j (by omega) (by omega) (by omega)]
theorem seedOrder_is (f : List S48) (n tn : Int) (h1 : 2 ≤ n) (h2 : n ≤ 6) (h0 : 0 ≤ tn) (htn : tn < n) (hl : (f.length : Int) = n) (hT : ∀ j (h : j < f.length), TeamAt n tn j f[j]) (k : Nat) (hk : 100 ≤ k) : impl_SeedOrder.f k f = some (byS f) := by
  unfold impl_SeedOrder.f
  rw [aField_valid f n tn h1 h2 h0 htn hl hT k (by omega), Option.bind_some, if_pos rfl, upTo_eq f.length (by omega) k (by omega), Option.bind_some]
  unfold impl_SeedOrder.g
  rw [if_pos]
  · rfl
  · unfold impl_SeedOrder.ok
    simp only [Bool.and_eq_true, decide_eq_true_eq, List.all_eq_true]
    refine ⟨fun x hx => mem_upL hx, fun t ht => ?_, ?_, by rw [upL_len]; omega⟩
    · obtain ⟨j, hj, rfl⟩ := List.mem_iff_getElem.1 ht
      have m0 : 0 ≤ Int.tmod ((j : Int) + tn) n := Int.tmod_nonneg _ (by omega)
      have m1 : Int.tmod ((j : Int) + tn) n < n := Int.tmod_lt_of_pos _ (by omega)
      rw [(hT j hj).2.2.2]; omega
    · rw [List.Nodup, List.pairwise_iff_getElem]
      intro i j hi hj hij e
      have hi' : i < f.length := by simpa using hi
      have hj' : j < f.length := by simpa using hj
      simp only [List.getElem_map] at e
      have := seeds_differ f n tn h1 h0 htn hl hT (i : Int) (j : Int) (by omega) (by omega) (by rw [sd_at f i hi', sd_at f j hj']; exact e)
      omega
theorem isOrder_is (f : List S48) (hl : f.length ≤ 6) (k : Nat) (hk : 100 ≤ k) : impl_IsOrder.f k (f.length : Int) (byS f) = some true := by
  obtain ⟨b1, b2, b3, b4, b5⟩ := byS_facts f
  unfold impl_IsOrder.f
  rw [within_eq, decide_eq_true (by omega), Option.bind_some, if_pos rfl, if_pos (by omega), upTo_eq f.length (by omega) k (by omega), Option.bind_some, equal_eq _ _ (by rw [List.length_mergeSort]; omega) (by rw [upL_len]; omega) k (by rw [List.length_mergeSort]; omega)]
  congr 1
  rw [decide_eq_true_eq, order_iff]
  exact ⟨b4, b5, b3⟩
theorem clubsOf_is (f : List S48) (n tn : Int) (h1 : 2 ≤ n) (h2 : n ≤ 6) (h0 : 0 ≤ tn) (htn : tn < n) (hl : (f.length : Int) = n) (hT : ∀ j (h : j < f.length), TeamAt n tn j f[j]) (k : Nat) (hk : 5 ≤ k) : ∃ q, impl_ClubsOf.f k f = some q ∧ q > 0 := by
  unfold impl_ClubsOf.f
  rw [aField_valid f n tn h1 h2 h0 htn hl hT k hk, Option.bind_some, if_pos rfl, if_pos]
  · refine ⟨_, rfl, ?_⟩
    unfold impl_ClubsOf.count impl_ClubsOf.keys
    cases f with
    | nil => simp at hl; omega
    | cons t r =>
      rw [List.take_of_length_le (Nat.le_refl _), List.map_cons, List.foldl_cons]
      have := keys_pos (r.map fun t => Lit.int .i64 t.f1) (Go.Maps.addKey [] (Lit.int .i64 t.f1))
      have e : (Go.Maps.addKey [] (Lit.int .i64 t.f1)).length = 1 := rfl
      omega
  · rw [List.all_eq_true]
    intro t ht
    obtain ⟨j, hj, rfl⟩ := List.mem_iff_getElem.1 ht
    obtain ⟨_, a, b, _⟩ := hT j hj
    have : f[j].f1 = 0 ∨ f[j].f1 = 1 ∨ f[j].f1 = 2 ∨ f[j].f1 = 3 := by omega
    rcases this with e | e | e | e <;> rw [e] <;> rfl
theorem l2_loop (f : List S48) (n tn : Int) (h1 : 2 ≤ n) (h2 : n ≤ 6) (h0 : 0 ≤ tn) (htn : tn < n) (hl : (f.length : Int) = n) (hT : ∀ j (h : j < f.length), TeamAt n tn j f[j]) (d : Nat) :
    ∀ (k p : Nat), p + d = (byS f).length → 2 * d + 100 < k → laws_FnFields.l2 k f (byS f) f.length (byS f) (byS f).length p = some true := by
  obtain ⟨b1, b2, b3, b4, b5⟩ := byS_facts f
  induction d with
  | zero =>
    intro k p hd hk
    obtain ⟨k, rfl⟩ : ∃ m, k = m + 1 := ⟨k - 1, by omega⟩
    obtain ⟨q, e, hq⟩ := clubsOf_is f n tn h1 h2 h0 htn hl hT k (by omega)
    simp only [laws_FnFields.l2]
    rw [if_neg (by omega), if_pos trivial, e, Option.bind_some, decide_eq_true hq]
  | succ d ih =>
    intro k p hd hk
    obtain ⟨k, rfl⟩ : ∃ m, k = m + 2 := ⟨k - 2, by omega⟩
    have hp : p < (byS f).length := by omega
    obtain ⟨x0, x1⟩ := b5 _ (List.getElem_mem hp)
    have hix := index_loop (byS f) b3 (by omega) p hp p k 0 (by omega) (by omega)
    have hpl : impl_PlaceOf.f k (byS f) (byS f)[p] = some (p : Int) := by
      unfold impl_PlaceOf.f slices_Index_int_int.f
      rw [show slices_Index_int_int.l0 k (byS f) (byS f)[p] ((byS f).length : Int) 0 = some (p : Int) from hix]
      rfl
    have hnm : impl_TeamNamed.f f (rd_T48 f (byS f)[p]).f0 = some (byS f)[p] := by
      generalize (byS f)[p] = x at x0 x1
      obtain ⟨i, rfl⟩ : ∃ i : Nat, x = (i : Int) := ⟨x.toNat, by omega⟩
      have hi : i < f.length := by omega
      unfold impl_TeamNamed.f
      rw [show rd_T48 f (i : Int) = f[i] from getD_nat _ f i hi]
      rw [idxP_hit _ f i f[i] (List.getElem?_eq_getElem hi) (by unfold namedP; exact beq_self_eq_true _) (fun j z hj hz => by
        have hjl : j < f.length := by omega
        rw [List.getElem?_eq_getElem hjl] at hz
        cases hz
        unfold namedP
        rw [(hT j hjl).1, (hT i hi).1, beq_eq_false_iff_ne]
        intro e
        have := tname_inj j i (by omega) (by omega) e
        omega)]
    have next := ih (k + 1) (p + 1) (by omega) (by omega)
    have next' := ih k (p + 1) (by omega) (by omega)
    simp only [laws_FnFields.l2]
    rw [if_pos (by omega), if_pos (by omega), if_pos (by omega), rd_nat _ p hp, if_neg (by omega)]
    simp only [laws_FnFields.j4]
    rw [if_neg (by simp; omega), hpl, Option.bind_some, if_pos rfl, if_pos x0, if_pos x1, hnm, Option.bind_some, if_pos rfl, wrap_succ hp (by omega)]
    by_cases c : (p : Int) > 0
    · have hw : wrap64 ((p : Int) - 1) = ((p - 1 : Nat) : Int) := by rw [wrap_id (by omega) (by omega)]; omega
      have hp1 : p - 1 < (byS f).length := by omega
      obtain ⟨y0, y1⟩ := b5 _ (List.getElem_mem hp1)
      have hle := (List.pairwise_iff_getElem.1 b2) (p - 1) p hp1 hp (by omega)
      have hne : impl_SeedOrder.sd f (byS f)[p - 1] ≠ impl_SeedOrder.sd f (byS f)[p] := by
        intro e
        have := seeds_differ f n tn h1 h0 htn hl hT _ _ ⟨y0, y1⟩ ⟨x0, x1⟩ e
        exact (List.pairwise_iff_getElem.1 b3) (p - 1) p hp1 hp (by omega) this
      have hlt : ¬ (rd_T48 f (byS f)[p - 1]).f2 ≥ (rd_T48 f (byS f)[p]).f2 := by
        unfold impl_SeedOrder.sd at hle hne
        omega
      rw [if_pos c, hw, if_pos (by omega), if_pos (by omega), rd_nat _ (p - 1) hp1, if_pos y0, if_pos y1, if_neg hlt]
      exact next'
    · rw [if_neg c]
      exact next'
theorem ofClub_is (f : List S48) (n tn : Int) (h1 : 2 ≤ n) (h2 : n ≤ 6) (h0 : 0 ≤ tn) (htn : tn < n) (hl : (f.length : Int) = n) (hT : ∀ j (h : j < f.length), TeamAt n tn j f[j]) (c : Int) (k : Nat) (hk : 100 ≤ k) : impl_OfClub.f k f c = some (clubI f (upL f.length) c) := by
  unfold impl_OfClub.f
  rw [aField_valid f n tn h1 h2 h0 htn hl hT k (by omega), Option.bind_some, if_pos rfl, upTo_eq f.length (by omega) k (by omega), Option.bind_some]
  unfold impl_OfClub.g
  rw [if_pos]
  · rfl
  · rw [List.all_eq_true]
    intro x hx
    have := mem_upL hx
    simp [this.1, this.2]
theorem l0_step (f : List S48) (n tn : Int) (h1 : 2 ≤ n) (h2 : n ≤ 6) (h0 : 0 ≤ tn) (htn : tn < n) (hl : (f.length : Int) = n) (hT : ∀ j (h : j < f.length), TeamAt n tn j f[j]) (o : List Int) (s : Nat) (hs : s ≤ 100) (c : Int) (c0 : 0 ≤ c) (c1 : c < 6) (B : Nat) (hB : 100 ≤ B) (R : Bool)
    (H : ∀ k, B ≤ k → laws_FnFields.l0 k f o ((s + (clubI f (upL f.length) c).length : Nat) : Int) (c + 1) = some R) (k : Nat) (hk : B + 20 ≤ k) : laws_FnFields.l0 k f o (s : Int) c = some R := by
  obtain ⟨k, rfl⟩ : ∃ m, k = m + 1 := ⟨k - 1, by omega⟩
  have hlen : (clubI f (upL f.length) c).length ≤ f.length := by
    have := List.length_filter_le (fun i => !impl_OfClub.p f c i) (upL f.length)
    rwa [upL_len] at this
  have hq : ∀ x ∈ clubI f (upL f.length) c, 0 ≤ x ∧ x < (f.length : Int) ∧ (rd_T48 f x).f1 = c := by
    intro x hx
    obtain ⟨a, b⟩ := List.mem_filter.1 hx
    have := mem_upL a
    refine ⟨this.1, this.2, ?_⟩
    unfold impl_OfClub.p at b
    simpa using b
  simp only [laws_FnFields.l0]
  rw [if_pos c1, ofClub_is f n tn h1 h2 h0 htn hl hT c k (by omega), Option.bind_some, wrap_id (x := (s : Int) + ((clubI f (upL f.length) c).length : Int)) (by omega) (by omega)]
  have hw : wrap64 (c + 1) = c + 1 := wrap_id (by omega) (by omega)
  have := l1_loop f o ((s + (clubI f (upL f.length) c).length : Nat) : Int) c B R (fun k hk => by rw [hw]; exact H k hk) (clubI f (upL f.length) c) hq (by omega) (clubI f (upL f.length) c).length k 0 (by omega) (by omega)
  rw [Int.natCast_add] at this
  exact this
theorem FnFields : FnFields_pure := by
  intro c hc _
  unfold maxLen at hc
  refine ⟨10000, ?_⟩
  unfold laws_FnFields.f
  by_cases h : (c.length : Int) > 1048576
  · rw [if_pos h]
  · rw [if_neg h]
    obtain ⟨f, n, tn, e, h1, h2, h0, htn, hl, hT⟩ := aField_ok c (by omega) 10000 (by omega)
    rw [e, Option.bind_some, seedOrder_is f n tn h1 h2 h0 htn hl hT 10000 (by omega), Option.bind_some, aField_valid f n tn h1 h2 h0 htn hl hT 10000 (by omega), Option.bind_some, if_pos rfl, isOrder_is f (by omega) 10000 (by omega), Option.bind_some]
    obtain ⟨b1, b2, b3, b4, b5⟩ := byS_facts f
    have hsum := club_sum f (upL f.length) (fun x hx => by
      obtain ⟨x0, x1⟩ := mem_upL hx
      obtain ⟨i, rfl⟩ : ∃ i : Nat, x = (i : Int) := ⟨x.toNat, by omega⟩
      have hi : i < f.length := by omega
      rw [show rd_T48 f (i : Int) = f[i] from getD_nat _ f i hi]
      have := hT i hi
      exact ⟨this.2.1, by have := this.2.2.1; omega⟩)
    rw [upL_len] at hsum
    have hle : ∀ c, (clubI f (upL f.length) c).length ≤ 6 := by
      intro c
      have := List.length_filter_le (fun i => !impl_OfClub.p f c i) (upL f.length)
      rw [upL_len] at this
      unfold clubI
      omega
    have a0 := hle 0; have a1 := hle 1; have a2 := hle 2; have a3 := hle 3; have a4 := hle 4; have a5 := hle 5
    have main : ∀ k, 600 ≤ k → laws_FnFields.l0 k f (byS f) ((0 : Nat) : Int) 0 = some true := by
      refine fun k hk => l0_step f n tn h1 h2 h0 htn hl hT (byS f) 0 (by omega) 0 (by omega) (by omega) 580 (by omega) true (fun k hk => ?_) k (by omega)
      refine l0_step f n tn h1 h2 h0 htn hl hT (byS f) _ (by omega) 1 (by omega) (by omega) 560 (by omega) true (fun k hk => ?_) k (by omega)
      refine l0_step f n tn h1 h2 h0 htn hl hT (byS f) _ (by omega) 2 (by omega) (by omega) 540 (by omega) true (fun k hk => ?_) k (by omega)
      refine l0_step f n tn h1 h2 h0 htn hl hT (byS f) _ (by omega) 3 (by omega) (by omega) 520 (by omega) true (fun k hk => ?_) k (by omega)
      refine l0_step f n tn h1 h2 h0 htn hl hT (byS f) _ (by omega) 4 (by omega) (by omega) 500 (by omega) true (fun k hk => ?_) k (by omega)
      refine l0_step f n tn h1 h2 h0 htn hl hT (byS f) _ (by omega) 5 (by omega) (by omega) 480 (by omega) true (fun k hk => ?_) k (by omega)
      obtain ⟨k, rfl⟩ : ∃ m, k = m + 1 := ⟨k - 1, by omega⟩
      simp only [laws_FnFields.l0]
      rw [if_neg (by omega), show (0 + (clubI f (upL f.length) 0).length + (clubI f (upL f.length) 1).length + (clubI f (upL f.length) 2).length + (clubI f (upL f.length) 3).length + (clubI f (upL f.length) 4).length + (clubI f (upL f.length) 5).length : Nat) = f.length by omega]
      exact l2_loop f n tn h1 h2 h0 htn hl hT (byS f).length k 0 (by omega) (by omega)
    simp only [laws_FnFields.j0]
    rw [if_neg (by simp)]
    exact main 9999 (by omega)

end Go.Proofs.Ytbocdhkaeglfcaa.Pure
