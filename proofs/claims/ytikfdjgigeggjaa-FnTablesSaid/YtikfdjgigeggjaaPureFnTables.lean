/- Whatever the bytes: the tables of a drawn book are balanced, and the table among all teams is the table: the law answers true; no condition beyond the form's own reach. -/
import Derived.Test.YtikfdjgigeggjaaSayFnTables
import Derived.Test.YtikfdjgigeggjaaVFnTablesKit
namespace Go.Proofs.Ytikfdjgigeggjaa.Pure
open Go.RowKit Go.Proofs.Ytikfdjgigeggjaa.MFnTables Go.Proofs.Ytikfdjgigeggjaa.PureKit Go.Proofs.YtikfdjgigeggjaaW.PrintWords Go.Proofs.YtikfdjgigeggjaaW.PrintLast
set_option linter.unusedSimpArgs false
set_option linter.unusedVariables false
theorem and255 (n : Int) : Go.bits .and .i64 n 255 = n % 256 := by
  have h255 : (BitVec.ofInt 64 255).toNat = 2 ^ 8 - 1 := by decide
  have key : (BitVec.ofInt 64 n &&& BitVec.ofInt 64 255).toNat = (n % ((2 ^ 64 : Nat) : Int)).toNat % 2 ^ 8 := by
    rw [BitVec.toNat_and, BitVec.toNat_ofInt, h255, Nat.and_two_pow_sub_one_eq_mod]
  show IntKind.i64.wrap ((BitVec.ofInt 64 n &&& BitVec.ofInt 64 255).toNat : Nat) = n % 256
  rw [key, IntKind.wrap_i64]
  omega
/-- A byte that is drawn: from 0 to 255; the place never turns back. -/
theorem byte_ok (c : List Int) (hc : c.length ≤ 9223372036854775807) (p s : Int) (hp : 0 ≤ p) : ∃ x p' s', spec_l01Byte.f c p s = some (x, p', s') ∧ 0 ≤ x ∧ x ≤ 255 ∧ 0 ≤ p' := by
  unfold spec_l01Byte.f
  split
  · try rw [if_pos hp]
    refine ⟨_, _, _, rfl, ?_, ?_, ?_⟩
    · rw [and255]; omega
    · rw [and255]; omega
    · rw [wrap_id (by omega) (by omega)]; omega
  · refine ⟨_, _, _, rfl, ?_, ?_, hp⟩
    · rw [and255]; omega
    · rw [and255]; omega
theorem below_ok (c : List Int) (hc : c.length ≤ 9223372036854775807) (p s n : Int) (hp : 0 ≤ p) (h0 : 0 < n) (h1 : n ≤ 256) : ∃ x p' s', spec_l01Below.f c p s n = some (x, p', s') ∧ 0 ≤ x ∧ x < n ∧ 0 ≤ p' := by
  obtain ⟨x, p', s', e, g0, g1, g2⟩ := byte_ok c hc p s hp
  unfold spec_l01Below.f
  rw [if_neg (by omega), if_pos h1, e]
  simp only [Option.bind_some]
  rw [if_neg (by omega)]
  refine ⟨_, _, _, rfl, Int.tmod_nonneg _ g0, Int.tmod_lt_of_pos _ h0, g2⟩
theorem once_ok (c : List Int) (hc : c.length ≤ 9223372036854775807) (p s n : Int) (hp : 0 ≤ p) (h0 : 0 < n) (h1 : n ≤ 256) : ∃ b p' s', spec_l01Once.f c p s n = some (b, p', s') ∧ 0 ≤ p' := by
  obtain ⟨x, p', s', e, _, _, g2⟩ := below_ok c hc p s n hp h0 h1
  unfold spec_l01Once.f
  rw [e]
  exact ⟨_, _, _, rfl, g2⟩
theorem pick_ok (c : List Int) (hc : c.length ≤ 9223372036854775807) (p s : Int) (l : List Int) (hp : 0 ≤ p) (h0 : 0 < l.length) (h1 : l.length ≤ 256) : ∃ x p' s', spec_l01Pick.f c p s l = some (x, p', s') ∧ x ∈ l ∧ 0 ≤ p' := by
  obtain ⟨i, p', s', e, g0, g1, g2⟩ := below_ok c hc p s (l.length : Int) hp (by omega) (by omega)
  unfold spec_l01Pick.f
  rw [e]
  simp only [Option.bind_some]
  rw [if_pos g0, if_pos g1]
  obtain ⟨j, rfl⟩ : ∃ j : Nat, i = j := ⟨i.toNat, by omega⟩
  have hj : j < l.length := by omega
  refine ⟨_, _, _, rfl, ?_, g2⟩
  rw [rd_nat l j hj]
  exact List.getElem_mem hj
theorem has_loop (t : Int) (x : List Int) (hn : x.length ≤ 9223372036854775807) (d : Nat) : ∀ (k i : Nat), i + d = x.length → d < k →
    spec_l02Has.l0 k t x x.length i = some (decide (t ∈ x.drop i)) := by
  induction d with
  | zero =>
    intro k i hd hk
    obtain ⟨k, rfl⟩ : ∃ m, k = m + 1 := ⟨k - 1, by omega⟩
    simp only [spec_l02Has.l0]
    rw [if_neg (by omega), List.drop_of_length_le (by omega)]
    simp
  | succ d ih =>
    intro k i hd hk
    obtain ⟨k, rfl⟩ : ∃ m, k = m + 1 := ⟨k - 1, by omega⟩
    have hi : i < x.length := by omega
    have hlt : (i : Int) < (x.length : Int) := by omega
    have h0 : (0 : Int) ≤ (i : Int) := by omega
    simp only [spec_l02Has.l0, hlt, h0, if_true, wrap_succ hi hn, ih k (i + 1) (by omega) (by omega), rd_nat x i hi]
    have hm : t ∈ x.drop i ↔ t = x[i] ∨ t ∈ x.drop (i + 1) := by rw [List.drop_eq_getElem_cons hi, List.mem_cons]
    by_cases c : x[i] = t
    · rw [if_pos c, decide_eq_true (hm.2 (Or.inl c.symm))]
    · rw [if_neg c]
      congr 1
      rw [decide_eq_decide, hm]
      exact ⟨Or.inr, fun h => h.resolve_left (fun e => c e.symm)⟩
theorem has_eq (t : Int) (x : List Int) (hn : x.length ≤ 9223372036854775807) (k : Nat) (hk : x.length < k) : spec_l02Has.f k x t = some (decide (t ∈ x)) := by
  unfold spec_l02Has.f
  exact has_loop t x hn x.length k 0 (by omega) hk
/-- A game of a season of n teams as it is drawn. -/
def Sg (n : Int) (g : S71) : Prop := 0 ≤ g.f0 ∧ g.f0 < n ∧ 0 ≤ g.f1 ∧ g.f1 < n ∧ g.f0 ≠ g.f1 ∧ 0 ≤ g.f4 ∧ g.f4 ≤ 4 ∧ 0 ≤ g.f2 ∧ g.f2 ≤ (if g.f4 = 1 then 99 else 0) ∧ 0 ≤ g.f3 ∧ g.f3 ≤ (if g.f4 = 1 then 99 else 0)
/-- The pair of its teams comes ahead of (b, a). -/
def Ahead (b a : Int) (g : S71) : Prop := (g.f0 < b ∧ g.f1 < b) ∨ (g.f0 = b ∧ g.f1 < a) ∨ (g.f1 = b ∧ g.f0 < a)
def Apart (x y : S71) : Prop := ¬ (x.f0 = y.f0 ∧ x.f1 = y.f1)
def Season (n b a : Int) (l : List S71) : Prop := (∀ g ∈ l, Sg n g ∧ Ahead b a g) ∧ l.Pairwise Apart ∧ (l.length : Int) ≤ (b - 1) * 4 + a
def Final (n : Int) (l : List S71) : Prop := (∀ g ∈ l, Sg n g) ∧ l.Pairwise Apart ∧ l.length ≤ 60
theorem Season.add {n b a : Int} {l : List S71} (h : Season n b a l) (h0 : 0 ≤ a) (h1 : a < b) (g : S71) (hg : Sg n g) (hp : (g.f0 = a ∧ g.f1 = b) ∨ (g.f0 = b ∧ g.f1 = a)) : Season n b (a + 1) (l ++ [g]) := by
  obtain ⟨h2, h3, h4⟩ := h
  refine ⟨fun x hx => ?_, ?_, ?_⟩
  · rcases List.mem_append.mp hx with hx | hx
    · refine ⟨(h2 x hx).1, ?_⟩
      have := (h2 x hx).2
      unfold Ahead at this ⊢
      omega
    · rw [List.mem_singleton] at hx
      subst hx
      refine ⟨hg, ?_⟩
      unfold Ahead
      omega
  · rw [List.pairwise_append]
    refine ⟨h3, List.pairwise_singleton _ _, fun x hx y hy => ?_⟩
    rw [List.mem_singleton] at hy
    subst hy
    have := (h2 x hx).2
    unfold Ahead at this
    unfold Apart
    omega
  · rw [List.length_append, List.length_singleton]
    omega
theorem Season.next {n b : Int} {l : List S71} (h : Season n b b l) (h0 : 0 ≤ b) (h1 : b ≤ 4) : Season n (b + 1) 0 l := by
  obtain ⟨h2, h3, h4⟩ := h
  refine ⟨fun x hx => ⟨(h2 x hx).1, ?_⟩, h3, by omega⟩
  have hs := (h2 x hx).1
  have := (h2 x hx).2
  unfold Sg at hs
  unfold Ahead at this ⊢
  omega
/-- What is drawn: a value, the place, the seed. -/
def Drew {α : Type} (o : Option (α × Int × Int)) (P : α → Prop) : Prop := ∃ x p s, o = some (x, p, s) ∧ P x ∧ 0 ≤ p
theorem j4_ok (c : List Int) (hc : c.length ≤ 9223372036854775807) (n b a : Int) (hb : b < n) (hn : n ≤ 5) (h0 : 0 ≤ a) (h1 : a < b) (K : Nat)
    (next : ∀ k ≥ K, ∀ op l p s, Season n b (a + 1) l → 0 ≤ p → Drew (spec_l04Season.l1 k n op l b (a + 1) c p s) (Final n))
    (k : Nat) (hk : k ≥ K + 1) (op : Int) (l : List S71) (p s x y st : Int) (hs : Season n b a l) (hp : 0 ≤ p) (hxy : (x = a ∧ y = b) ∨ (x = b ∧ y = a)) (hst : 0 ≤ st ∧ st ≤ 4) :
    Drew (spec_l04Season.j4 k n op l b a c p s x y 0 0 st) (Final n) := by
  obtain ⟨k, rfl⟩ : ∃ m, k = m + 1 := ⟨k - 1, by omega⟩
  simp only [spec_l04Season.j4]
  have hl : l.length < 3518437208883 := by have := hs.2.2; omega
  have hw : wrap64 (a + 1) = a + 1 := wrap_id (by omega) (by omega)
  by_cases c1 : st = 1
  · rw [if_pos c1]
    obtain ⟨v, p1, s1, e1, v0, v1, hp1⟩ := below_ok c hc p s 4 hp (by omega) (by omega)
    obtain ⟨v', p2, s2, e2, v0', v1', hp2⟩ := below_ok c hc p1 s1 4 hp1 (by omega) (by omega)
    simp only [e1, e2, Option.bind_some]
    rw [if_pos hl, hw]
    refine next k (by omega) _ _ _ _ (hs.add h0 h1 _ ?_ ?_) hp2
    · unfold Sg
      simp only [if_pos c1]
      omega
    · exact hxy
  · rw [if_neg c1, if_pos hl, hw]
    refine next k (by omega) _ _ _ _ (hs.add h0 h1 _ ?_ ?_) hp
    · unfold Sg
      simp only [if_neg c1]
      omega
    · exact hxy
theorem j3_ok (c : List Int) (hc : c.length ≤ 9223372036854775807) (n b a : Int) (hb : b < n) (hn : n ≤ 5) (h0 : 0 ≤ a) (h1 : a < b) (K : Nat)
    (next : ∀ k ≥ K, ∀ op l p s, Season n b (a + 1) l → 0 ≤ p → Drew (spec_l04Season.l1 k n op l b (a + 1) c p s) (Final n))
    (k : Nat) (hk : k ≥ K + 2) (op : Int) (l : List S71) (o : Bool) (p s x y : Int) (hs : Season n b a l) (hp : 0 ≤ p) (hxy : (x = a ∧ y = b) ∨ (x = b ∧ y = a)) :
    Drew (spec_l04Season.j3 k n op l b a o c p s x y 0 0 0) (Final n) := by
  obtain ⟨k, rfl⟩ : ∃ m, k = m + 1 := ⟨k - 1, by omega⟩
  simp only [spec_l04Season.j3]
  cases o with
  | true =>
    rw [if_pos rfl]
    exact j4_ok c hc n b a hb hn h0 h1 K next k (by omega) _ l p s x y 0 hs hp hxy ⟨by omega, by omega⟩
  | false =>
    rw [if_neg (by decide)]
    obtain ⟨v, p1, s1, e1, hv, hp1⟩ := pick_ok c hc p s [1, 1, 1, 1, 1, 1, 2, 3, 4] hp (by decide) (by decide)
    simp only [e1, Option.bind_some]
    refine j4_ok c hc n b a hb hn h0 h1 K next k (by omega) _ l p1 s1 x y v hs hp1 hxy ?_
    simp only [List.mem_cons, List.not_mem_nil, or_false] at hv
    omega
theorem j2_ok (c : List Int) (hc : c.length ≤ 9223372036854775807) (n b a : Int) (hb : b < n) (hn : n ≤ 5) (h0 : 0 ≤ a) (h1 : a < b) (K : Nat)
    (next : ∀ k ≥ K, ∀ op l p s, Season n b (a + 1) l → 0 ≤ p → Drew (spec_l04Season.l1 k n op l b (a + 1) c p s) (Final n))
    (k : Nat) (hk : k ≥ K + 3) (op : Int) (l : List S71) (p s x y : Int) (hs : Season n b a l) (hp : 0 ≤ p) (hxy : (x = a ∧ y = b) ∨ (x = b ∧ y = a)) :
    Drew (spec_l04Season.j2 k n op l b a c p s x y 0 0 0) (Final n) := by
  obtain ⟨k, rfl⟩ : ∃ m, k = m + 1 := ⟨k - 1, by omega⟩
  simp only [spec_l04Season.j2]
  split
  · obtain ⟨o, p1, s1, e1, hp1⟩ := once_ok c hc p s 3 hp (by omega) (by omega)
    simp only [e1, Option.bind_some]
    exact j3_ok c hc n b a hb hn h0 h1 K next k (by omega) _ l o p1 s1 x y hs hp1 hxy
  · exact j3_ok c hc n b a hb hn h0 h1 K next k (by omega) _ l false p s x y hs hp hxy
theorem l1_ok (c : List Int) (hc : c.length ≤ 9223372036854775807) (n b : Int) (hb : b < n) (hn : n ≤ 5) (hb0 : 1 ≤ b) (K : Nat)
    (next : ∀ k ≥ K, ∀ op l p s, Season n (b + 1) 0 l → 0 ≤ p → Drew (spec_l04Season.l0 k n op l (b + 1) c p s) (Final n)) (d : Nat) :
    ∀ a : Int, a + d = b → 0 ≤ a → ∀ k ≥ K + 4 * d + 1, ∀ op l p s, Season n b a l → 0 ≤ p → Drew (spec_l04Season.l1 k n op l b a c p s) (Final n) := by
  induction d with
  | zero =>
    intro a hd h0 k hk op l p s hs hp
    obtain ⟨k, rfl⟩ : ∃ m, k = m + 1 := ⟨k - 1, by omega⟩
    obtain rfl : a = b := by omega
    simp only [spec_l04Season.l1]
    rw [if_neg (by omega), wrap_id (by omega) (by omega)]
    exact next k (by omega) _ _ _ _ (hs.next (by omega) (by omega)) hp
  | succ d ih =>
    intro a hd h0 k hk op l p s hs hp
    obtain ⟨k, rfl⟩ : ∃ m, k = m + 1 := ⟨k - 1, by omega⟩
    simp only [spec_l04Season.l1]
    rw [if_pos (by omega)]
    obtain ⟨o, p1, s1, e1, hp1⟩ := once_ok c hc p s 2 hp (by omega) (by omega)
    simp only [e1, Option.bind_some]
    have nx := ih (a + 1) (by omega) (by omega)
    split
    · exact j2_ok c hc n b a hb hn h0 (by omega) _ nx k (by omega) _ l p1 s1 b a hs hp1 (.inr ⟨rfl, rfl⟩)
    · exact j2_ok c hc n b a hb hn h0 (by omega) _ nx k (by omega) _ l p1 s1 a b hs hp1 (.inl ⟨rfl, rfl⟩)
theorem l0_ok (c : List Int) (hc : c.length ≤ 9223372036854775807) (n : Int) (hn : n ≤ 5) (e : Nat) :
    ∀ b : Int, b + e = n → 1 ≤ b → ∀ k ≥ 30 * e + 1, ∀ op l p s, Season n b 0 l → 0 ≤ p → Drew (spec_l04Season.l0 k n op l b c p s) (Final n) := by
  induction e with
  | zero =>
    intro b he hb k hk op l p s hs hp
    obtain ⟨k, rfl⟩ : ∃ m, k = m + 1 := ⟨k - 1, by omega⟩
    simp only [spec_l04Season.l0]
    rw [if_neg (by omega)]
    exact ⟨_, _, _, rfl, ⟨fun g hg => (hs.1 g hg).1, hs.2.1, by have := hs.2.2; omega⟩, hp⟩
  | succ e ih =>
    intro b he hb k hk op l p s hs hp
    obtain ⟨k, rfl⟩ : ∃ m, k = m + 1 := ⟨k - 1, by omega⟩
    simp only [spec_l04Season.l0]
    rw [if_pos (by omega)]
    exact l1_ok c hc n b (by omega) hn hb _ (ih (b + 1) (by omega) (by omega)) b.toNat 0 (by omega) (by omega) k (by omega) op l p s hs hp
theorem season_ok (c : List Int) (hc : c.length ≤ 9223372036854775807) (n op p s : Int) (h1 : 1 ≤ n) (hn : n ≤ 5) (hp : 0 ≤ p) (k : Nat) (hk : 200 ≤ k) : Drew (spec_l04Season.f k c p s n op) (Final n) := by
  unfold spec_l04Season.f
  refine l0_ok c hc n hn (n - 1).toNat 1 (by omega) (by omega) k (by omega) op [] p s ⟨by simp, List.Pairwise.nil, by simp⟩ hp
theorem strOfNums_size (l : List Int) : (strOfNums l).size = l.length := by
  unfold strOfNums ByteArray.size
  simp
theorem format_small (k : Nat) (hk : 2 ≤ k) (x : Int) (h0 : 0 ≤ x) (h1 : x ≤ 9) : ∃ t, spec_FormatInt.f k x = some t ∧ t.size = 1 := by
  obtain ⟨k, rfl⟩ : ∃ m, k = m + 2 := ⟨k - 2, by omega⟩
  have e : ByteArray.size (⟨#[]⟩ : ByteArray) = 0 := rfl
  simp only [spec_FormatInt.f, spec_FormatInt.l0, Option.bind_some]
  rw [if_neg (by omega), if_neg (by omega), if_pos (by rw [strOfNums_size, e]; simp)]
  refine ⟨_, rfl, ?_⟩
  rw [ByteArray.size_append, strOfNums_size, e]
  rfl
theorem field_loop (c : List Int) (hc : c.length ≤ 9223372036854775807) (n tn : Int) (h1 : 1 ≤ n) (hn : n ≤ 9) (d : Nat) : ∀ (i : Nat), (i : Int) + d = n → ∀ k ≥ d + 3, ∀ l p s, l.length = i → 0 ≤ p →
    Drew (spec_l02Field.l0 k n l tn i c p s) (fun r => (r.length : Int) = n) := by
  induction d with
  | zero =>
    intro i hi k hk l p s hl hp
    obtain ⟨k, rfl⟩ : ∃ m, k = m + 1 := ⟨k - 1, by omega⟩
    simp only [spec_l02Field.l0]
    rw [if_neg (by omega)]
    exact ⟨_, _, _, rfl, by omega, hp⟩
  | succ d ih =>
    intro i hi k hk l p s hl hp
    obtain ⟨k, rfl⟩ : ∃ m, k = m + 1 := ⟨k - 1, by omega⟩
    obtain ⟨t, et, hts⟩ := format_small k (by omega) i (by omega) (by omega)
    obtain ⟨v, p1, s1, e1, _, _, hp1⟩ := below_ok c hc p s 4 hp (by omega) (by omega)
    simp only [spec_l02Field.l0, et, e1, Option.bind_some]
    rw [if_pos (by omega), if_pos (by omega), if_neg (by omega), if_pos (by omega), show wrap64 ((i : Int) + 1) = ((i + 1 : Nat) : Int) by rw [wrap_id (by omega) (by omega)]; rfl]
    exact ih (i + 1) (by omega) k (by omega) _ _ _ (by rw [List.length_append, hl]; rfl) hp1
theorem field_ok (c : List Int) (hc : c.length ≤ 9223372036854775807) (n p s : Int) (h1 : 1 ≤ n) (hn : n ≤ 9) (hp : 0 ≤ p) (k : Nat) (hk : 20 ≤ k) : Drew (spec_l02Field.f k c p s n) (fun r => (r.length : Int) = n) := by
  obtain ⟨v, p1, s1, e1, _, _, hp1⟩ := below_ok c hc p s n hp (by omega) (by omega)
  unfold spec_l02Field.f
  rw [e1]
  exact field_loop c hc n v h1 hn n.toNat 0 (by omega) k (by omega) [] p1 s1 rfl hp1
/-- The rules that are drawn: two or three for a win, one for a draw, none for a loss; a ladder of different keys, from points to the seed. -/
def Keys (l : List Int) : Prop := l.Nodup ∧ (∀ x ∈ l, 1 ≤ x ∧ x ≤ 7) ∧ ∃ r, l = 1 :: r
def Ladder8 (L : List Int) : Prop := ∃ l, L = l ++ [8] ∧ Keys l ∧ l.length ≤ 7
theorem keys_add {l : List Int} (h : Keys l) (v : Int) (h0 : 2 ≤ v) (h1 : v ≤ 7) (hn : v ∉ l) : Keys (l ++ [v]) := by
  obtain ⟨a, b, r, rfl⟩ := h
  refine ⟨?_, fun x hx => ?_, r ++ [v], rfl⟩
  · rw [List.nodup_append]
    refine ⟨a, by simp, fun x hx y hy => ?_⟩
    rw [List.mem_singleton] at hy
    subst hy
    exact fun e => hn (e ▸ hx)
  · rcases List.mem_append.1 hx with hx | hx
    · exact b x hx
    · rw [List.mem_singleton] at hx
      omega
theorem draw_loop (c : List Int) (hc : c.length ≤ 9223372036854775807) (w dr lo : Int) (b : Bool) (d : Nat) : ∀ k ≥ d + 10, ∀ l : List Int, Keys l → l.length + d ≤ 7 → ∀ p s, 0 ≤ p →
    ∃ L p' s', spec_l03Draw.l0 k d c p s w dr lo l b = some (w, dr, lo, L, b, p', s') ∧ 0 ≤ p' ∧ Ladder8 L := by
  induction d with
  | zero =>
    intro k hk l hK hl p s hp
    obtain ⟨k, rfl⟩ : ∃ m, k = m + 1 := ⟨k - 1, by omega⟩
    simp only [spec_l03Draw.l0]
    rw [if_neg (by omega), if_pos (by omega)]
    exact ⟨_, _, _, rfl, hp, l, rfl, hK, by omega⟩
  | succ d ih =>
    intro k hk l hK hl p s hp
    obtain ⟨k, rfl⟩ : ∃ m, k = m + 1 := ⟨k - 1, by omega⟩
    obtain ⟨v, p1, s1, e1, v0, v1, hp1⟩ := below_ok c hc p s 6 hp (by omega) (by omega)
    have hw : wrap64 ((d + 1 : Nat) - 1 : Int) = (d : Int) := by rw [wrap_id (by omega) (by omega)]; omega
    have hv : wrap64 (2 + v) = 2 + v := wrap_id (by omega) (by omega)
    simp only [spec_l03Draw.l0, e1, Option.bind_some, hv]
    rw [if_pos (by omega), has_eq _ l (by omega) k (by omega), hw]
    simp only [Option.bind_some]
    by_cases hm : 2 + v ∈ l
    · rw [if_pos (by simpa using hm)]
      exact ih k (by omega) l hK (by omega) p1 s1 hp1
    · rw [if_neg (by simpa using hm), if_pos (by omega)]
      exact ih k (by omega) _ (keys_add hK _ (by omega) (by omega) hm) (by rw [List.length_append]; simp; omega) p1 s1 hp1
theorem draw_ok (c : List Int) (hc : c.length ≤ 9223372036854775807) (p s : Int) (hp : 0 ≤ p) (k : Nat) (hk : 20 ≤ k) :
    ∃ w L b p' s', spec_l03Draw.f k c p s = some (w, 1, 0, L, b, p', s') ∧ 0 ≤ p' ∧ (w = 2 ∨ w = 3) ∧ Ladder8 L := by
  obtain ⟨v1, p1, s1, e1, g0, g1, hp1⟩ := below_ok c hc p s 2 hp (by omega) (by omega)
  obtain ⟨v2, p2, s2, e2, hp2⟩ := once_ok c hc p1 s1 2 hp1 (by omega) (by omega)
  obtain ⟨v3, p3, s3, e3, g2, g3, hp3⟩ := below_ok c hc p2 s2 4 hp2 (by omega) (by omega)
  unfold spec_l03Draw.f
  simp only [e1, e2, e3, Option.bind_some]
  obtain ⟨d, rfl⟩ : ∃ d : Nat, v3 = d := ⟨v3.toNat, by omega⟩
  obtain ⟨L, p', s', e, hp', hL⟩ := draw_loop c hc (wrap64 (2 + v1)) 1 0 v2 d k (by omega) [1] ⟨by simp, by simp, [], rfl⟩ (by simp; omega) p3 s3 hp3
  exact ⟨_, _, _, _, _, e, hp', by rw [wrap_id (by omega) (by omega)]; omega, hL⟩
theorem book_loop (c : List Int) (hc : c.length ≤ 9223372036854775807) (n : Int) (hn : n ≤ 9) (f : List S151) (a b e : Int) (L : List Int) (q : Bool) (G : List S71) (d : Nat) : ∀ (i : Nat), (i : Int) + d = n → ∀ k ≥ d + 3, ∀ (F T : List Int) (p s : Int), F.length = i → T.length = i → 0 ≤ p →
    ∃ F' T' p' s', spec_l07Book.l0 k n i c p s f a b e L q G F T = some (f, a, b, e, L, q, G, F', T', p', s') ∧ (F'.length : Int) = n ∧ (T'.length : Int) = n ∧ 0 ≤ p' := by
  induction d with
  | zero =>
    intro i hi k hk F T p s hF hT hp
    obtain ⟨k, rfl⟩ : ∃ m, k = m + 1 := ⟨k - 1, by omega⟩
    simp only [spec_l07Book.l0]
    rw [if_neg (by omega)]
    exact ⟨_, _, _, _, rfl, by omega, by omega, hp⟩
  | succ d ih =>
    intro i hi k hk F T p s hF hT hp
    obtain ⟨k, rfl⟩ : ∃ m, k = m + 1 := ⟨k - 1, by omega⟩
    obtain ⟨v1, p1, s1, e1, _, _, hp1⟩ := below_ok c hc p s 4 hp (by omega) (by omega)
    obtain ⟨v2, p2, s2, e2, _, hp2⟩ := pick_ok c hc p1 s1 [0, 0, 0, 1] hp1 (by decide) (by decide)
    simp only [spec_l07Book.l0, e1, e2, Option.bind_some]
    rw [if_pos (by omega), if_pos (by omega), if_pos (by omega), wrap_id (by omega) (by omega)]
    exact ih (i + 1) (by omega) k (by omega) _ _ _ _ (by rw [List.length_append, hF]; rfl) (by rw [List.length_append, hT]; rfl) hp2
theorem book_ok (c : List Int) (hc : c.length ≤ 9223372036854775807) (p s n op : Int) (h1 : 1 ≤ n) (hn : n ≤ 5) (hp : 0 ≤ p) (k : Nat) (hk : 200 ≤ k) :
    ∃ f a L q G F T p' s', spec_l07Book.f k c p s n op = some (f, a, 1, 0, L, q, G, F, T, p', s') ∧ (f.length : Int) = n ∧ Final n G ∧ (F.length : Int) = n ∧ (T.length : Int) = n ∧ (a = 2 ∨ a = 3) ∧ Ladder8 L := by
  obtain ⟨f, p1, s1, e1, hf, hp1⟩ := field_ok c hc n p s h1 (by omega) hp k (by omega)
  obtain ⟨w, L, b, p2, s2, e2, hp2, hw, hL⟩ := draw_ok c hc p1 s1 hp1 k (by omega)
  obtain ⟨G, p3, s3, e3, hG, hp3⟩ := season_ok c hc n op p2 s2 h1 hn hp2 k hk
  unfold spec_l07Book.f
  simp only [e1, e2, e3, Option.bind_some]
  obtain ⟨F, T, p', s', e, hF, hT, _⟩ := book_loop c hc n (by omega) f w 1 0 L b G n.toNat 0 (by omega) k (by omega) [] [] p3 s3 rfl rfl hp3
  exact ⟨_, _, _, _, _, _, _, _, _, e, hf, hG, hF, hT, hw, hL⟩
theorem new_loop (c : List Int) (d : Nat) : ∀ (k i : Nat), i + d = 4000 → d < k → ∀ x : Int, ∃ s, spec_l01New.l0 k c x i = some (c, 0, s) := by
  induction d with
  | zero =>
    intro k i hi hk x
    obtain ⟨k, rfl⟩ : ∃ m, k = m + 1 := ⟨k - 1, by omega⟩
    simp only [spec_l01New.l0]
    rw [if_neg (show ¬ ((i : Int) < 4000) by omega)]
    split <;> exact ⟨_, rfl⟩
  | succ d ih =>
    intro k i hi hk x
    obtain ⟨k, rfl⟩ : ∃ m, k = m + 1 := ⟨k - 1, by omega⟩
    simp only [spec_l01New.l0]
    split
    · rw [if_pos (show (i : Int) < 4000 by omega), if_pos (by omega), show wrap64 ((i : Int) + 1) = ((i + 1 : Nat) : Int) by rw [wrap_id (by omega) (by omega)]; rfl]
      exact ih k (i + 1) (by omega) (by omega) _
    · exact ⟨_, rfl⟩
theorem new_ok (c : List Int) (k : Nat) (hk : 4001 ≤ k) : ∃ s, spec_l01New.f k c = some (c, 0, s) := by
  unfold spec_l01New.f
  exact new_loop c 4000 k 0 (by omega) (by omega) _
theorem makeBook_ok (c : List Int) (hc : c.length ≤ 9223372036854775807) (k : Nat) (hk : 4001 ≤ k) :
    ∃ n f a L q G F T, spec_MakeBook.f k c = some (f, a, 1, 0, L, q, G, F, T) ∧ 3 ≤ n ∧ n ≤ 5 ∧ (f.length : Int) = n ∧ Final n G ∧ (F.length : Int) = n ∧ (T.length : Int) = n ∧ (a = 2 ∨ a = 3) ∧ Ladder8 L := by
  obtain ⟨s, e0⟩ := new_ok c k hk
  obtain ⟨v, p1, s1, e1, g0, g1, hp1⟩ := below_ok c hc 0 s 3 (by omega) (by omega) (by omega)
  obtain ⟨f, a, L, q, G, F, T, p', s', e2, h1, h2, h3, h4, h5, h6⟩ := book_ok c hc p1 s1 (wrap64 (3 + v)) 3 (by rw [wrap_id (by omega) (by omega)]; omega) (by rw [wrap_id (by omega) (by omega)]; omega) hp1 k (by omega)
  unfold spec_MakeBook.f
  simp only [e0, e1, e2, Option.bind_some]
  exact ⟨wrap64 (3 + v), _, _, _, _, _, _, _, rfl, by rw [wrap_id (by omega) (by omega)]; omega, by rw [wrap_id (by omega) (by omega)]; omega, h1, h2, h3, h4, h5, h6⟩
theorem within_eq (n lo hi : Int) : impl_within.f n lo hi = some (decide (lo ≤ n ∧ n ≤ hi)) := by
  unfold impl_within.f
  by_cases h : lo ≤ n <;> simp [h]
theorem index_loop (t : Int) (x : List Int) (hn : x.length ≤ 9223372036854775807) (d : Nat) : ∀ (k i : Nat), i + d = x.length → d < k →
    ∃ r : Int, slices_Index_int_int.l0 k x t x.length i = some r ∧ ((0 ≤ r) ↔ t ∈ x.drop i) := by
  induction d with
  | zero =>
    intro k i hd hk
    obtain ⟨k, rfl⟩ : ∃ m, k = m + 1 := ⟨k - 1, by omega⟩
    simp only [slices_Index_int_int.l0]
    rw [if_neg (by omega), List.drop_of_length_le (by omega)]
    exact ⟨_, rfl, by simp⟩
  | succ d ih =>
    intro k i hd hk
    obtain ⟨k, rfl⟩ : ∃ m, k = m + 1 := ⟨k - 1, by omega⟩
    have hi : i < x.length := by omega
    have hlt : (i : Int) < (x.length : Int) := by omega
    have h0 : (0 : Int) ≤ (i : Int) := by omega
    obtain ⟨r, e, hr⟩ := ih k (i + 1) (by omega) (by omega)
    simp only [slices_Index_int_int.l0, hlt, h0, if_true, wrap_succ hi hn, e, rd_nat x i hi]
    have hm : t ∈ x.drop i ↔ t = x[i] ∨ t ∈ x.drop (i + 1) := by rw [List.drop_eq_getElem_cons hi, List.mem_cons]
    by_cases c : t = x[i]
    · rw [if_pos c]; exact ⟨_, rfl, ⟨fun _ => hm.2 (Or.inl c), fun _ => h0⟩⟩
    · rw [if_neg c]; exact ⟨_, rfl, hr.trans ⟨fun h => hm.2 (Or.inr h), fun h => (hm.1 h).resolve_left c⟩⟩
theorem contains_eq (t : Int) (x : List Int) (hn : x.length ≤ 9223372036854775807) (k : Nat) (hk : x.length < k) : slices_Contains_int_int.f k x t = some (decide (t ∈ x)) := by
  unfold slices_Contains_int_int.f slices_Index_int_int.f
  obtain ⟨r, e, hr⟩ := index_loop t x hn x.length k 0 (by omega) hk
  rw [show ((0 : Nat) : Int) = 0 from rfl] at e
  rw [e, List.drop_zero] at *
  simp only [Option.bind_some]
  congr 1
  rw [decide_eq_decide]
  exact hr
/-- The ladder from step i on (d steps): each a key, none twice. -/
def ladder (l : List Int) : Nat → Nat → Bool
  | _, 0 => true
  | i, d + 1 => decide (1 ≤ l.getD i 0 ∧ l.getD i 0 ≤ 8) && (!decide (l.getD i 0 ∈ l.take i) && ladder l (i + 1) d)
def numsOk (a b c : Int) (n : Nat) : Bool := decide (0 ≤ c ∧ c ≤ b ∧ b ≤ a ∧ a ≤ 10 ∧ 1 ≤ n ∧ n ≤ 8)
def rulesOk (a b c : Int) (l : List Int) : Bool := numsOk a b c l.length && ladder l 0 l.length
theorem implLadder (l : List Int) (a b c : Int) (g : Bool) (hn : l.length ≤ 9223372036854775807) (d : Nat) : ∀ (k i : Nat), i + d = l.length → l.length + d < k →
    impl_RulesOk.l0 k l l.length i a b c l g = some (ladder l i d && numsOk a b c l.length) := by
  induction d with
  | zero =>
    intro k i hd hk
    obtain ⟨k, rfl⟩ : ∃ m, k = m + 1 := ⟨k - 1, by omega⟩
    simp only [impl_RulesOk.l0, ladder, within_eq, Option.bind_some, numsOk]
    rw [if_neg (by omega), Bool.true_and]
    repeat' split
    all_goals first | (congr 1; rw [decide_eq_decide]; omega) | (congr 1; symm; rw [decide_eq_false_iff_not]; omega)
  | succ d ih =>
    intro k i hd hk
    obtain ⟨k, rfl⟩ : ∃ m, k = m + 1 := ⟨k - 1, by omega⟩
    have hi : i < l.length := by omega
    have hlt : (i : Int) < (l.length : Int) := by omega
    have hle : (i : Int) ≤ (l.length : Int) := by omega
    have h0 : (0 : Int) ≤ (i : Int) := by omega
    have ht : (l.take i).length = i := by simp; omega
    simp only [impl_RulesOk.l0, impl_isKey.f, hlt, hle, h0, if_true, within_eq, Option.bind_some, Int.toNat_natCast, contains_eq (rd l i) (l.take i) (by omega) k (by omega), wrap_succ hi hn, ih k (i + 1) (by omega) (by omega), ladder]
    show _ = some ((decide (1 ≤ rd l i ∧ rd l i ≤ 8) && (!decide (rd l i ∈ l.take i) && ladder l (i + 1) d)) && _)
    by_cases c1 : 1 ≤ rd l i ∧ rd l i ≤ 8 <;> by_cases c2 : rd l i ∈ l.take i <;> simp [c1, c2]
theorem implRules_eq (a b c : Int) (l : List Int) (g : Bool) (hn : l.length ≤ 9223372036854775807) (k : Nat) (hk : 2 * l.length < k) : impl_RulesOk.f k a b c l g = some (rulesOk a b c l) := by
  unfold impl_RulesOk.f rulesOk
  rw [show (0 : Int) = ((0 : Nat) : Int) from rfl, implLadder l a b c g hn l.length k 0 (by omega) (by omega), Bool.and_comm]
def gameOk (n a b c d e : Int) : Bool := decide (2 ≤ n ∧ n ≤ 8 ∧ 0 ≤ a ∧ a ≤ n - 1 ∧ 0 ≤ b ∧ b ≤ n - 1 ∧ a ≠ b ∧ 0 ≤ e ∧ e ≤ 4 ∧ ((e = 1 ∧ 0 ≤ c ∧ c ≤ 99 ∧ 0 ≤ d ∧ d ≤ 99) ∨ (e ≠ 1 ∧ c = 0 ∧ d = 0)))
theorem implGameOk_j (n m a b c d e : Int) (k : Nat) (hn : -9223372036854775808 ≤ n) (hk : 0 < k) : impl_GameOk.j0 k n m a b c d e = some (decide (2 ≤ n ∧ n ≤ 8 ∧ a ≠ b ∧ 0 ≤ a ∧ a ≤ n - 1 ∧ 0 ≤ b ∧ b ≤ n - 1 ∧ 0 ≤ e ∧ e ≤ 4 ∧ 0 ≤ c ∧ c ≤ m ∧ 0 ≤ d ∧ d ≤ m)) := by
  obtain ⟨k, rfl⟩ : ∃ m, k = m + 1 := ⟨k - 1, by omega⟩
  simp only [impl_GameOk.j0, within_eq, Option.bind_some]
  by_cases h1 : 2 ≤ n ∧ n ≤ 8
  · have hw : wrap64 (n - 1) = n - 1 := wrap_id (by omega) (by omega)
    rw [hw]
    by_cases h4 : a = b
    · simp [h1, h4]
    · by_cases h2 : 0 ≤ a ∧ a ≤ n - 1
      · by_cases h3 : 0 ≤ b ∧ b ≤ n - 1
        · by_cases h5 : 0 ≤ e ∧ e ≤ 4
          · by_cases h6 : 0 ≤ c ∧ c ≤ m <;> simp [h1, h2, h3, h4, h5, h6]
            omega
          · simp [h1, h2, h3, h4, h5]; omega
        · simp [h1, h2, h3, h4]; omega
      · simp [h1, h2, h4]; omega
  · simp [h1]; omega
theorem implGameOk_eq (n a b c d e : Int) (k : Nat) (hn : -9223372036854775808 ≤ n) (hk : 0 < k) : impl_GameOk.f k n a b c d e = some (gameOk n a b c d e) := by
  unfold impl_GameOk.f gameOk
  by_cases he : e = 1
  · rw [if_pos he, implGameOk_j n 99 a b c d e k hn hk]
    congr 1
    rw [decide_eq_decide]
    omega
  · rw [if_neg he, implGameOk_j n 0 a b c d e k hn hk]
    congr 1
    rw [decide_eq_decide]
    omega
theorem idxP_neg {α : Type} (p : α → Bool) (l : List α) : idxP p l < 0 ↔ ∀ (j : Nat) (z : α), l[j]? = some z → p z = false := by
  unfold idxP
  cases h : l.findIdx? p with
  | none =>
    rw [List.findIdx?_eq_none_iff] at h
    exact ⟨fun _ j z hz => h z (List.mem_of_getElem? hz), fun _ => by simp⟩
  | some i =>
    rw [List.findIdx?_eq_some_iff_getElem] at h
    obtain ⟨hi, hp, _⟩ := h
    constructor
    · intro hneg; simp at hneg; omega
    · intro hall
      have := hall i _ (List.getElem?_eq_getElem hi)
      rw [hp] at this; cases this
theorem idxP_at {α : Type} (p : α → Bool) (l : List α) (i : Nat) (y : α) (hy : l[i]? = some y) (hp : p y = true) : (idxP p l = i) ↔ idxP p (l.take i) < 0 := by
  have hi : i < l.length := (List.getElem?_eq_some_iff.1 hy).1
  rw [idxP_neg]
  constructor
  · intro h j z hz
    by_cases hj : j < i
    · rw [List.getElem?_take_of_lt hj] at hz
      unfold idxP at h
      cases hf : l.findIdx? p with
      | none => rw [hf] at h; simp at h
      | some m =>
        rw [hf] at h
        have hm : m = i := by have h2 : (m : Int) = (i : Int) := h; omega
        subst hm
        rw [List.findIdx?_eq_some_iff_getElem] at hf
        obtain ⟨_, _, hb⟩ := hf
        have hjl : j < l.length := by omega
        rw [List.getElem?_eq_getElem hjl] at hz
        cases hz
        exact Bool.eq_false_iff.mpr (hb j hj)
    · rw [List.getElem?_take_eq_none (by omega)] at hz; cases hz
  · intro h
    exact idxP_hit p l i y hy hp (fun j z hj hz => h j z (by rw [List.getElem?_take_of_lt hj]; exact hz))
def pairP (a b : Int) (x : S71) : Bool := (x.f0 == a) && (x.f1 == b)
/-- The games from i on (d of them): each valid, none of them played before. -/
def seasonFrom (n : Int) (l : List S71) : Nat → Nat → Bool
  | _, 0 => true
  | i, d + 1 => gameOk n (rd_T71 l i).f0 (rd_T71 l i).f1 (rd_T71 l i).f2 (rd_T71 l i).f3 (rd_T71 l i).f4 && (decide (idxP (pairP (rd_T71 l i).f0 (rd_T71 l i).f1) (l.take i) < 0) && seasonFrom n l (i + 1) d)
def seasonOk (n : Int) (l : List S71) : Bool := decide (l.length ≤ 60) && seasonFrom n l 0 l.length
theorem implSeason_loop (n : Int) (hw : -9223372036854775808 ≤ n) (l : List S71) (hn : l.length ≤ 9223372036854775807) (d : Nat) : ∀ (k i : Nat), i + d = l.length → d + 1 < k →
    impl_SeasonOk.l0 k n l l l.length i = some (seasonFrom n l i d && decide (l.length ≤ 60)) := by
  induction d with
  | zero =>
    intro k i hd hk
    obtain ⟨k, rfl⟩ : ∃ m, k = m + 1 := ⟨k - 1, by omega⟩
    simp only [impl_SeasonOk.l0, seasonFrom]
    rw [if_neg (by omega), Bool.true_and]
    congr 1
    rw [decide_eq_decide]; omega
  | succ d ih =>
    intro k i hd hk
    obtain ⟨k, rfl⟩ : ∃ m, k = m + 1 := ⟨k - 1, by omega⟩
    have hi : i < l.length := by omega
    have hlt : (i : Int) < (l.length : Int) := by omega
    have hle : (i : Int) ≤ (l.length : Int) := by omega
    have h0 : (0 : Int) ≤ (i : Int) := by omega
    simp only [impl_SeasonOk.l0, hlt, hle, h0, if_true, wrap_succ hi hn, implGameOk_eq n _ _ _ _ _ k hw (by omega), impl_GameOf.f, Option.bind_some, ih k (i + 1) (by omega) (by omega), seasonFrom, Int.toNat_natCast]
    generalize gameOk n (rd_T71 l i).f0 (rd_T71 l i).f1 (rd_T71 l i).f2 (rd_T71 l i).f3 (rd_T71 l i).f4 = g
    change (if g = true then (if idxP (pairP _ _) (l.take i) ≥ 0 then _ else _) else _) = _
    cases g with
    | false => rfl
    | true =>
      rw [if_pos rfl]
      by_cases c : idxP (pairP (rd_T71 l i).f0 (rd_T71 l i).f1) (l.take i) < 0
      · rw [if_neg (by omega), decide_eq_true c]; rfl
      · rw [if_pos (by omega), decide_eq_false c]; rfl
theorem implSeason_eq (n : Int) (hw : -9223372036854775808 ≤ n) (l : List S71) (hn : l.length ≤ 9223372036854775807) (k : Nat) (hk : l.length + 1 < k) : impl_SeasonOk.f k n l = some (seasonOk n l) := by
  unfold impl_SeasonOk.f seasonOk
  rw [Bool.and_comm]
  exact implSeason_loop n hw l hn l.length k 0 (by omega) (by omega)
theorem final_first {n : Int} {l : List S71} (h : Final n l) (i : Nat) (hi : i < l.length) : idxP (pairP l[i].f0 l[i].f1) (l.take i) < 0 := by
  rw [idxP_neg]
  intro j z hz
  by_cases hj : j < i
  · rw [List.getElem?_take_of_lt hj] at hz
    have hjl : j < l.length := by omega
    rw [List.getElem?_eq_getElem hjl] at hz
    cases hz
    have := List.pairwise_iff_getElem.mp h.2.1 j i hjl hi hj
    unfold Apart at this
    unfold pairP
    rw [Bool.and_eq_false_iff, beq_eq_false_iff_ne, beq_eq_false_iff_ne]
    by_cases c : l[j].f0 = l[i].f0
    · exact .inr (fun e => this ⟨c, e⟩)
    · exact .inl c
  · rw [List.getElem?_take_eq_none (by omega)] at hz; cases hz
theorem sg_ok {n : Int} (h0 : 2 ≤ n) (h1 : n ≤ 8) {g : S71} (h : Sg n g) : gameOk n g.f0 g.f1 g.f2 g.f3 g.f4 = true := by
  unfold Sg at h
  unfold gameOk
  rw [decide_eq_true_eq]
  by_cases c : g.f4 = 1
  · simp only [if_pos c] at h; omega
  · simp only [if_neg c] at h; omega
theorem final_season {n : Int} (h0 : 2 ≤ n) (h1 : n ≤ 8) {l : List S71} (h : Final n l) : seasonOk n l = true := by
  unfold seasonOk
  rw [Bool.and_eq_true, decide_eq_true_eq]
  refine ⟨h.2.2, ?_⟩
  have key : ∀ d i : Nat, i + d = l.length → seasonFrom n l i d = true := by
    intro d
    induction d with
    | zero => intro i _; rfl
    | succ d ih =>
      intro i hi
      have hl : i < l.length := by omega
      have hr : rd_T71 l (i : Int) = l[i] := getD_nat _ l i hl
      rw [seasonFrom, hr, ih (i + 1) (by omega), sg_ok h0 h1 (h.1 _ (List.getElem_mem hl)), decide_eq_true (final_first h i hl)]
      rfl
  exact key l.length 0 (by omega)
theorem ladder_of (l : List Int) (hN : l.Nodup) (hR : ∀ x ∈ l, 1 ≤ x ∧ x ≤ 8) (d : Nat) : ∀ i, i + d = l.length → ladder l i d = true := by
  induction d with
  | zero => intro i _; rfl
  | succ d ih =>
    intro i hi
    have hl : i < l.length := by omega
    have hg : l.getD i 0 = l[i] := by simp [List.getD_eq_getElem?_getD, hl]
    have h1 := hR l[i] (List.getElem_mem hl)
    have h2 : l[i] ∉ l.take i := by
      intro hm
      obtain ⟨j, hj, e⟩ := List.mem_iff_getElem.1 hm
      rw [List.length_take] at hj
      rw [List.getElem_take] at e
      exact (List.pairwise_iff_getElem.1 hN j i (by omega) hl (by omega)) e
    rw [ladder, hg, ih (i + 1) (by omega), decide_eq_true h1, decide_eq_false h2]
    rfl
theorem ladder8_ok {L : List Int} (h : Ladder8 L) (a : Int) (ha : a = 2 ∨ a = 3) : rulesOk a 1 0 L = true ∧ L.length ≤ 8 ∧ 2 ≤ L.length := by
  obtain ⟨l, rfl, ⟨hN, hR, r, hr⟩, hl⟩ := h
  have h1 : 1 ≤ l.length := by rw [hr]; simp
  have hN2 : (l ++ [8]).Nodup := by
    rw [List.nodup_append]
    refine ⟨hN, by simp, fun x hx y hy => ?_⟩
    rw [List.mem_singleton] at hy
    have := hR x hx
    omega
  have hR2 : ∀ x ∈ l ++ [8], 1 ≤ x ∧ x ≤ 8 := by
    intro x hx
    rcases List.mem_append.1 hx with hx | hx
    · have := hR x hx; omega
    · rw [List.mem_singleton] at hx; omega
  have hle : (l ++ [8]).length = l.length + 1 := by simp
  refine ⟨?_, by omega, by omega⟩
  unfold rulesOk numsOk
  rw [ladder_of _ hN2 hR2 _ 0 (by omega), Bool.and_true, decide_eq_true_eq]
  omega
/-- All rows from i on (d of them) add up. -/
def rowsOk (x : List S74) : Nat → Nat → Bool
  | _, 0 => true
  | i, d + 1 => decide (wrap64 ((wrap64 (((rd_T74 x i).f1) + ((rd_T74 x i).f2))) + ((rd_T74 x i).f3)) = ((rd_T74 x i).f0)) && rowsOk x (i + 1) d
theorem impl_bal (x : List S74) (hn : x.length ≤ 9223372036854775807) (K : Nat) (s : Int × Int × Int × Int × Int × Int × Int) (hs : ∀ k, K ≤ k → impl_sumOf.f k x = some s) (d : Nat) : ∀ (k i : Nat), i + d = x.length → K + d < k →
    impl_IsBalanced.l0 k x x x.length i = some (rowsOk x i d && (decide (s.2.1 = s.2.2.2.1) && (decide (Int.tmod s.2.2.1 2 = 0) && (s.2.2.2.2.1 == s.2.2.2.2.2.1)))) := by
  induction d with
  | zero =>
    intro k i hd hk
    obtain ⟨k, rfl⟩ : ∃ m, k = m + 1 := ⟨k - 1, by omega⟩
    simp only [impl_IsBalanced.l0, rowsOk]
    rw [if_neg (by omega), hs k (by omega)]
    simp only [Option.bind_some, Bool.true_and]
    repeat' split
    all_goals simp_all
  | succ d ih =>
    intro k i hd hk
    obtain ⟨k, rfl⟩ : ∃ m, k = m + 1 := ⟨k - 1, by omega⟩
    have hlt : (i : Int) < (x.length : Int) := by omega
    have h0 : (0 : Int) ≤ (i : Int) := by omega
    simp only [impl_IsBalanced.l0, rowsOk, hlt, h0, if_true, wrap_succ (show i < x.length by omega) hn, ih k (i + 1) (by omega) (by omega)]
    split
    · simp_all
    · simp_all
/-! What a table keeps: each row adds up, wins are losses, draws come in pairs, goals scored are goals against. -/
def RowI (u m : Int) (x : S74) : Prop := 0 ≤ x.f1 ∧ 0 ≤ x.f2 ∧ 0 ≤ x.f3 ∧ x.f1 + x.f2 + x.f3 = x.f0 ∧ x.f0 ≤ m ∧ (0 ≤ x.f4 ∧ x.f4 ≤ 99 * m) ∧ (0 ≤ x.f5 ∧ x.f5 ≤ 99 * m) ∧ ((u = 2 ∧ x.f6 = 2 * x.f1 + x.f2) ∨ (u = 3 ∧ x.f6 = 3 * x.f1 + x.f2))
theorem RowI.mono {u m m' : Int} {x : S74} (h : RowI u m x) (hm : m ≤ m') : RowI u m' x := by
  unfold RowI at h ⊢; omega
def PlayI (u m : Int) (X Y X' Y' : S74) : Prop := RowI u (m + 1) X' ∧ RowI u (m + 1) Y' ∧ X'.f0 + Y'.f0 = X.f0 + Y.f0 + 2 ∧ X'.f1 + Y'.f1 - (X'.f3 + Y'.f3) = X.f1 + Y.f1 - (X.f3 + Y.f3) ∧ (∃ z, X'.f2 + Y'.f2 = X.f2 + Y.f2 + 2 * z) ∧ X'.f4 + Y'.f4 - (X'.f5 + Y'.f5) = X.f4 + Y.f4 - (X.f5 + Y.f5)
theorem play_inv (u m r1 r2 : Int) (X Y : S74) (hX : RowI u m X) (hY : RowI u m Y) (h1 : 0 ≤ r1 ∧ r1 ≤ 99) (h2 : 0 ≤ r2 ∧ r2 ≤ 99) (hm : m ≤ 60) : PlayI u m X Y (tbPlay u 1 0 r1 r2 X Y).1 (tbPlay u 1 0 r1 r2 X Y).2 := by
  unfold RowI at hX hY
  have a0 : wrap64 (X.f0 + 1) = X.f0 + 1 := wrap_id (by omega) (by omega)
  have a1 : wrap64 (X.f1 + 1) = X.f1 + 1 := wrap_id (by omega) (by omega)
  have a2 : wrap64 (X.f2 + 1) = X.f2 + 1 := wrap_id (by omega) (by omega)
  have a3 : wrap64 (X.f3 + 1) = X.f3 + 1 := wrap_id (by omega) (by omega)
  have a4 : wrap64 (X.f4 + r1) = X.f4 + r1 := wrap_id (by omega) (by omega)
  have a5 : wrap64 (X.f5 + r2) = X.f5 + r2 := wrap_id (by omega) (by omega)
  have a6 : wrap64 (X.f6 + u) = X.f6 + u := wrap_id (by omega) (by omega)
  have a7 : wrap64 (X.f6 + 1) = X.f6 + 1 := wrap_id (by omega) (by omega)
  have a8 : wrap64 (X.f6 + 0) = X.f6 := by rw [Int.add_zero]; exact wrap_id (by omega) (by omega)
  have b0 : wrap64 (Y.f0 + 1) = Y.f0 + 1 := wrap_id (by omega) (by omega)
  have b1 : wrap64 (Y.f1 + 1) = Y.f1 + 1 := wrap_id (by omega) (by omega)
  have b2 : wrap64 (Y.f2 + 1) = Y.f2 + 1 := wrap_id (by omega) (by omega)
  have b3 : wrap64 (Y.f3 + 1) = Y.f3 + 1 := wrap_id (by omega) (by omega)
  have b4 : wrap64 (Y.f4 + r2) = Y.f4 + r2 := wrap_id (by omega) (by omega)
  have b5 : wrap64 (Y.f5 + r1) = Y.f5 + r1 := wrap_id (by omega) (by omega)
  have b6 : wrap64 (Y.f6 + u) = Y.f6 + u := wrap_id (by omega) (by omega)
  have b7 : wrap64 (Y.f6 + 1) = Y.f6 + 1 := wrap_id (by omega) (by omega)
  have b8 : wrap64 (Y.f6 + 0) = Y.f6 := by rw [Int.add_zero]; exact wrap_id (by omega) (by omega)
  unfold tbPlay
  rcases Int.lt_trichotomy r1 r2 with c | c | c
  · rw [if_neg (show ¬ r1 > r2 by omega), if_pos c]
    simp only [PlayI, RowI, tbIn, tbAdd, tbSet, tbGet, a0, a1, a2, a3, a4, a5, a6, a7, a8, b0, b1, b2, b3, b4, b5, b6, b7, b8]
    exact ⟨by omega, by omega, by omega, by omega, ⟨0, by omega⟩, by omega⟩
  · rw [if_neg (show ¬ r1 > r2 by omega), if_neg (show ¬ r1 < r2 by omega)]
    simp only [PlayI, RowI, tbIn, tbAdd, tbSet, tbGet, a0, a1, a2, a3, a4, a5, a6, a7, a8, b0, b1, b2, b3, b4, b5, b6, b7, b8]
    exact ⟨by omega, by omega, by omega, by first | trivial | omega, ⟨1, by omega⟩, by first | trivial | omega⟩
  · rw [if_pos (show r1 > r2 by omega)]
    simp only [PlayI, RowI, tbIn, tbAdd, tbSet, tbGet, a0, a1, a2, a3, a4, a5, a6, a7, a8, b0, b1, b2, b3, b4, b5, b6, b7, b8]
    exact ⟨by omega, by omega, by omega, by omega, ⟨0, by omega⟩, by omega⟩
theorem sum_set {α : Type} (f : α → Int) (l : List α) : ∀ (i : Nat) (h : i < l.length) (v : α), ((l.set i v).map f).sum = (l.map f).sum - f l[i] + f v := by
  induction l with
  | nil => intro i h; exact absurd h (Nat.not_lt_zero _)
  | cons a l ih =>
    intro i h v
    cases i with
    | zero => simp only [List.set_cons_zero, List.map_cons, List.sum_cons, List.getElem_cons_zero]; omega
    | succ i =>
      have := ih i (by simpa using h) v
      simp only [List.set_cons_succ, List.map_cons, List.sum_cons, List.getElem_cons_succ]
      omega
theorem sum_two {α : Type} (f : α → Int) (l : List α) (i j : Nat) (hi : i < l.length) (hj : j < l.length) (hne : i ≠ j) (v w : α) : (((l.set i v).set j w).map f).sum = (l.map f).sum - f l[i] - f l[j] + f v + f w := by
  rw [sum_set f (l.set i v) j (by rw [List.length_set]; exact hj), sum_set f l i hi, List.getElem_set_ne hne]
  omega
def TabI (u m : Int) (c : Nat) (rows : List S74) : Prop := (∀ x ∈ rows, RowI u m x) ∧ (rows.map (·.f1)).sum = (rows.map (·.f3)).sum ∧ (∃ z, (rows.map (·.f2)).sum = 2 * z) ∧ (rows.map (·.f4)).sum = (rows.map (·.f5)).sum ∧ (rows.map (·.f0)).sum = 2 * (c : Int)
def cntI (l : List S71) : Nat := (l.filter fun g => (tbGoals g).2.2).length
theorem goals_bd {n : Int} {g : S71} (h : Sg n g) : (0 ≤ (tbGoals g).1 ∧ (tbGoals g).1 ≤ 99) ∧ (0 ≤ (tbGoals g).2.1 ∧ (tbGoals g).2.1 ≤ 99) := by
  unfold Sg at h
  unfold tbGoals
  by_cases c1 : g.f4 = 1
  · rw [if_pos c1]; simp only [c1, if_true] at h; exact ⟨by simp only; omega, by simp only; omega⟩
  · rw [if_neg c1]
    by_cases c2 : g.f4 = 2
    · rw [if_pos c2]; exact ⟨by simp only; omega, by simp only; omega⟩
    · rw [if_neg c2]
      by_cases c3 : g.f4 = 3
      · rw [if_pos c3]; exact ⟨by simp only; omega, by simp only; omega⟩
      · rw [if_neg c3]; exact ⟨by simp only; omega, by simp only; omega⟩
theorem step_inv (u : Int) (n : Nat) (m : Int) (c : Nat) (rows : List S74) (g : S71) (h : TabI u m c rows) (hl : rows.length = n) (hg : Sg (n : Int) g) (hm : m ≤ 60) :
    TabI u (m + 1) (c + cntI [g]) (tbStep u 1 0 (fun _ => true) rows g) := by
  obtain ⟨h1, h2, ⟨z, h3⟩, h4, h5⟩ := h
  unfold tbStep cntI
  rw [Bool.and_true]
  cases hc : (tbGoals g).2.2 with
  | false =>
    rw [if_neg (by simp)]
    simp only [List.filter_cons, hc, List.filter_nil]
    exact ⟨fun x hx => (h1 x hx).mono (by omega), h2, ⟨z, h3⟩, h4, h5⟩
  | true =>
    rw [if_pos rfl]
    simp only [List.filter_cons, hc, List.filter_nil, if_true, List.length_singleton]
    obtain ⟨b1, b2⟩ := goals_bd hg
    unfold Sg at hg
    have i0 : g.f0.toNat < rows.length := by omega
    have i1 : g.f1.toNat < rows.length := by omega
    have ine : g.f0.toNat ≠ g.f1.toNat := by omega
    have hX : rows.getD g.f0.toNat z74 = rows[g.f0.toNat] := by simp [List.getD_eq_getElem?_getD, i0]
    have hY : rows.getD g.f1.toNat z74 = rows[g.f1.toNat] := by simp [List.getD_eq_getElem?_getD, i1]
    rw [hX, hY]
    have hp := play_inv u m _ _ _ _ (h1 _ (List.getElem_mem i0)) (h1 _ (List.getElem_mem i1)) b1 b2 hm
    generalize tbPlay u 1 0 (tbGoals g).1 (tbGoals g).2.1 rows[g.f0.toNat] rows[g.f1.toNat] = q at hp ⊢
    obtain ⟨p1, p2, p3, p4, ⟨z', p5⟩, p6⟩ := hp
    refine ⟨fun x hx => ?_, ?_, ⟨z + z', ?_⟩, ?_, ?_⟩
    · rcases List.mem_or_eq_of_mem_set hx with hx | rfl
      · rcases List.mem_or_eq_of_mem_set hx with hx | rfl
        · exact (h1 x hx).mono (by omega)
        · exact p1
      · exact p2
    · rw [sum_two _ _ _ _ i0 i1 ine, sum_two _ _ _ _ i0 i1 ine]; omega
    · rw [sum_two _ _ _ _ i0 i1 ine]; omega
    · rw [sum_two _ _ _ _ i0 i1 ine, sum_two _ _ _ _ i0 i1 ine]; omega
    · rw [sum_two _ _ _ _ i0 i1 ine]; omega
theorem fold_inv (u : Int) (n : Nat) (l : List S71) : ∀ (m : Int) (c : Nat) (rows : List S74), TabI u m c rows → rows.length = n → (∀ g ∈ l, Sg (n : Int) g) → m + l.length ≤ 60 →
    TabI u (m + l.length) (c + cntI l) (l.foldl (tbStep u 1 0 (fun _ => true)) rows) := by
  induction l with
  | nil => intro m c rows h _ _ _; simpa [cntI] using h
  | cons g l ih =>
    intro m c rows h hl hg hm
    rw [List.length_cons] at hm
    have h1 := step_inv u n m c rows g h hl (hg g (by simp)) (by omega)
    have h2 := ih (m + 1) _ _ h1 (by rw [tbStep_len]; exact hl) (fun x hx => hg x (by simp [hx])) (by omega)
    rw [List.foldl_cons, List.length_cons, show m + ((l.length + 1 : Nat) : Int) = m + 1 + (l.length : Int) by omega]
    have e : c + cntI (g :: l) = c + cntI [g] + cntI l := by
      unfold cntI
      rw [show g :: l = [g] ++ l from rfl, List.filter_append, List.length_append]
      omega
    rw [e]; exact h2
theorem sum_rep (f : S74 → Int) (h : f z74 = 0) (n : Nat) : ((List.replicate n z74).map f).sum = 0 := by
  induction n with
  | zero => rfl
  | succ n ih => rw [List.replicate_succ, List.map_cons, List.sum_cons, ih, h]; rfl
theorem table_inv (u : Int) (hu : u = 2 ∨ u = 3) (n : Nat) (l : List S71) (hg : ∀ g ∈ l, Sg (n : Int) g) (hl : l.length ≤ 60) : TabI u (l.length : Int) (cntI l) (tbTable u 1 0 (fun _ => true) (n : Int) l) := by
  unfold tbTable
  rw [Int.toNat_natCast]
  have h0 : TabI u 0 0 (List.replicate n z74) := by
    refine ⟨fun x hx => ?_, ?_, ⟨0, ?_⟩, ?_, ?_⟩
    · rw [List.eq_of_mem_replicate hx]
      unfold RowI z74
      dsimp only
      omega
    · rw [sum_rep _ rfl, sum_rep _ rfl]
    · rw [sum_rep _ rfl]; rfl
    · rw [sum_rep _ rfl, sum_rep _ rfl]
    · rw [sum_rep _ rfl]; rfl
  have := fold_inv u n l 0 0 _ h0 (List.length_replicate ..) hg (by omega)
  simpa using this
theorem fold_congr (u0 u1 u2 : Int) (p q : S71 → Bool) (l : List S71) : ∀ rows, (∀ g ∈ l, p g = q g) → l.foldl (tbStep u0 u1 u2 p) rows = l.foldl (tbStep u0 u1 u2 q) rows := by
  induction l with
  | nil => intro rows _; rfl
  | cons g l ih =>
    intro rows h
    rw [List.foldl_cons, List.foldl_cons, ih _ (fun x hx => h x (by simp [hx]))]
    congr 1
    unfold tbStep
    rw [h g (by simp)]
/-- The sums that sumOf makes, of rows that are small. -/
def Small (x : S74) : Prop := (0 ≤ x.f0 ∧ x.f0 ≤ 6000) ∧ (0 ≤ x.f1 ∧ x.f1 ≤ 6000) ∧ (0 ≤ x.f2 ∧ x.f2 ≤ 6000) ∧ (0 ≤ x.f3 ∧ x.f3 ≤ 6000) ∧ (0 ≤ x.f4 ∧ x.f4 ≤ 6000) ∧ (0 ≤ x.f5 ∧ x.f5 ≤ 6000) ∧ (0 ≤ x.f6 ∧ x.f6 ≤ 6000)
theorem RowI.small {u m : Int} {x : S74} (h : RowI u m x) (hm : m ≤ 60) : Small x := by
  unfold RowI at h; unfold Small; omega
theorem sumOf_loop (x : List S74) (hn : x.length ≤ 1000) (hs : ∀ y ∈ x, Small y) (d : Nat) : ∀ (k i : Nat) (a0 a1 a2 a3 a4 a5 a6 : Int), i + d = x.length → d < k → (0 ≤ a0 ∧ a0 ≤ 6000 * i) → (0 ≤ a1 ∧ a1 ≤ 6000 * i) → (0 ≤ a2 ∧ a2 ≤ 6000 * i) → (0 ≤ a3 ∧ a3 ≤ 6000 * i) → (0 ≤ a4 ∧ a4 ≤ 6000 * i) → (0 ≤ a5 ∧ a5 ≤ 6000 * i) → (0 ≤ a6 ∧ a6 ≤ 6000 * i) →
    impl_sumOf.l0 k x x.length i a0 a1 a2 a3 a4 a5 a6 = some (a0 + ((x.drop i).map (·.f0)).sum, a1 + ((x.drop i).map (·.f1)).sum, a2 + ((x.drop i).map (·.f2)).sum, a3 + ((x.drop i).map (·.f3)).sum, a4 + ((x.drop i).map (·.f4)).sum, a5 + ((x.drop i).map (·.f5)).sum, a6 + ((x.drop i).map (·.f6)).sum) := by
  induction d with
  | zero =>
    intro k i a0 a1 a2 a3 a4 a5 a6 hd hk _ _ _ _ _ _ _
    obtain ⟨k, rfl⟩ : ∃ m, k = m + 1 := ⟨k - 1, by omega⟩
    simp only [impl_sumOf.l0]
    rw [if_neg (by omega), List.drop_of_length_le (by omega)]
    simp
  | succ d ih =>
    intro k i a0 a1 a2 a3 a4 a5 a6 hd hk h0 h1 h2 h3 h4 h5 h6
    obtain ⟨k, rfl⟩ : ∃ m, k = m + 1 := ⟨k - 1, by omega⟩
    have hi : i < x.length := by omega
    have hlt : (i : Int) < (x.length : Int) := by omega
    have hi0 : (0 : Int) ≤ (i : Int) := by omega
    have hy : rd_T74 x (i : Int) = x[i] := getD_nat _ x i hi
    have hsm := hs x[i] (List.getElem_mem hi)
    unfold Small at hsm
    obtain ⟨s0, s1, s2, s3, s4, s5, s6⟩ := hsm
    simp only [impl_sumOf.l0, impl_AddRows.f, Option.bind_some, hlt, hi0, if_true, hy, wrap_succ hi (show x.length ≤ 9223372036854775807 by omega)]
    rw [wrap_id (x := a0 + x[i].f0) (by omega) (by omega), wrap_id (x := a1 + x[i].f1) (by omega) (by omega), wrap_id (x := a2 + x[i].f2) (by omega) (by omega), wrap_id (x := a3 + x[i].f3) (by omega) (by omega), wrap_id (x := a4 + x[i].f4) (by omega) (by omega), wrap_id (x := a5 + x[i].f5) (by omega) (by omega), wrap_id (x := a6 + x[i].f6) (by omega) (by omega)]
    rw [ih k (i + 1) _ _ _ _ _ _ _ (by omega) (by omega) (by omega) (by omega) (by omega) (by omega) (by omega) (by omega) (by omega), List.drop_eq_getElem_cons hi]
    simp only [List.map_cons, List.sum_cons, Int.add_assoc]
theorem sumOf_eq (x : List S74) (hn : x.length ≤ 1000) (hs : ∀ y ∈ x, Small y) (k : Nat) (hk : x.length < k) :
    impl_sumOf.f k x = some ((x.map (·.f0)).sum, (x.map (·.f1)).sum, (x.map (·.f2)).sum, (x.map (·.f3)).sum, (x.map (·.f4)).sum, (x.map (·.f5)).sum, (x.map (·.f6)).sum) := by
  unfold impl_sumOf.f
  have := sumOf_loop x hn hs x.length k 0 0 0 0 0 0 0 0 (by omega) hk (by omega) (by omega) (by omega) (by omega) (by omega) (by omega) (by omega)
  simpa using this
theorem rows_ok {u m : Int} (x : List S74) (h : ∀ y ∈ x, RowI u m y) (hm : m ≤ 60) (d : Nat) : ∀ i, i + d = x.length → rowsOk x i d = true := by
  induction d with
  | zero => intro i _; rfl
  | succ d ih =>
    intro i hi
    have hl : i < x.length := by omega
    have hy : rd_T74 x (i : Int) = x[i] := getD_nat _ x i hl
    have hr := h x[i] (List.getElem_mem hl)
    unfold RowI at hr
    rw [rowsOk, hy, ih (i + 1) (by omega), Bool.and_true, decide_eq_true_eq, wrap_id (x := x[i].f1 + x[i].f2) (by omega) (by omega), wrap_id (by omega) (by omega)]
    omega
theorem leader_ok (x : List S74) (hn : x.length ≤ 1000) (d : Nat) : ∀ (k i : Nat) (b : Int), b < x.length → (0 < i → 0 ≤ b) → i + d = x.length → d < k →
    ∃ r, impl_LeaderOf.l0 k x b x x.length i = some r ∧ r < x.length ∧ (0 < x.length → 0 ≤ r) := by
  induction d with
  | zero =>
    intro k i b hb hb0 hd hk
    obtain ⟨k, rfl⟩ : ∃ m, k = m + 1 := ⟨k - 1, by omega⟩
    simp only [impl_LeaderOf.l0]
    rw [if_neg (by omega)]
    exact ⟨_, rfl, hb, fun h => hb0 (by omega)⟩
  | succ d ih =>
    intro k i b hb hb0 hd hk
    obtain ⟨k, rfl⟩ : ∃ m, k = m + 1 := ⟨k - 1, by omega⟩
    have hlt : (i : Int) < (x.length : Int) := by omega
    have h0 : (0 : Int) ≤ (i : Int) := by omega
    obtain ⟨r2, e2, g2⟩ := ih k (i + 1) i (by omega) (fun _ => by omega) (by omega) (by omega)
    simp only [impl_LeaderOf.l0, hlt, h0, if_true, wrap_succ (show i < x.length by omega) (show x.length ≤ 9223372036854775807 by omega), e2]
    by_cases c : b < 0
    · simp only [c, if_true]; exact ⟨_, rfl, g2⟩
    · have c0 : 0 ≤ b := by omega
      obtain ⟨r1, e1, g1⟩ := ih k (i + 1) b hb (fun _ => c0) (by omega) (by omega)
      simp only [c, c0, hb, if_true, if_false, e1]
      split
      · exact ⟨_, rfl, g2⟩
      · exact ⟨_, rfl, g1⟩
def upI (n : Nat) : List Int := (List.range n).map fun j : Nat => (j : Int)
theorem upI_succ (n : Nat) : upI (n + 1) = upI n ++ [(n : Int)] := by unfold upI; rw [List.range_succ, List.map_append]; rfl
theorem upI_len (n : Nat) : (upI n).length = n := by simp [upI]
theorem mem_upI {n : Nat} {x : Int} (h0 : 0 ≤ x) (h1 : x < n) : x ∈ upI n := by
  unfold upI
  rw [List.mem_map]
  exact ⟨x.toNat, by rw [List.mem_range]; omega, by omega⟩
theorem all_loop (n : Nat) (hn : n ≤ 8) (f : List S151) (a b e : Int) (L : List Int) (q : Bool) (G : List S71) (F T : List Int) (K : Nat) (r : Option Bool) (hr : ∀ k, K ≤ k → laws_FnTables.l0 (k + 1) (n : Int) (upI n) (n : Int) f a b e L q G F T = r) (d : Nat) :
    ∀ (k i : Nat), i + d = n → K + d + 1 ≤ k → laws_FnTables.l0 k (n : Int) (upI i) (i : Int) f a b e L q G F T = r := by
  induction d with
  | zero =>
    intro k i hi hk
    obtain ⟨k, rfl⟩ : ∃ m, k = m + 1 := ⟨k - 1, by omega⟩
    obtain rfl : i = n := by omega
    exact hr k (by omega)
  | succ d ih =>
    intro k i hi hk
    obtain ⟨k, rfl⟩ : ∃ m, k = m + 1 := ⟨k - 1, by omega⟩
    simp only [laws_FnTables.l0]
    rw [if_pos (by omega), if_pos (by rw [upI_len]; omega), wrap_succ (show i < n by omega) (by omega), ← upI_succ]
    exact ih k (i + 1) (by omega) (by omega)
theorem outcome_zero (g : S71) : ∃ t, impl_OutcomeOf.f g.f0 g.f1 g.f2 g.f3 g.f4 = some t ∧ (t = 0 ↔ (tbGoals g).2.2 = false) := by
  unfold impl_OutcomeOf.f
  rw [tbGoals_eq, Option.bind_some]
  show ∃ t, (if (tbGoals g).2.2 = true then _ else _) = _ ∧ _
  cases (tbGoals g).2.2 with
  | false => exact ⟨0, rfl, by simp⟩
  | true =>
    rw [if_pos rfl]
    split
    · exact ⟨1, rfl, by simp⟩
    · split
      · exact ⟨2, rfl, by simp⟩
      · exact ⟨3, rfl, by simp⟩
theorem count_loop (n : Int) (x y : List S74) (f : List S151) (a b e : Int) (L : List Int) (q : Bool) (G : List S71) (hG : G.length ≤ 60) (F T : List Int) (K : Nat) (r : Option Bool) (hr : ∀ k, K ≤ k → laws_FnTables.l2 k n x y (cntI G : Int) x.length 0 f a b e L q G F T = r) (d : Nat) :
    ∀ (k i : Nat), i + d = G.length → K + d + 1 ≤ k → laws_FnTables.l1 k n x y (cntI (G.take i) : Int) G G.length i f a b e L q G F T = r := by
  induction d with
  | zero =>
    intro k i hi hk
    obtain ⟨k, rfl⟩ : ∃ m, k = m + 1 := ⟨k - 1, by omega⟩
    simp only [laws_FnTables.l1]
    rw [if_neg (by omega), List.take_of_length_le (by omega)]
    exact hr k (by omega)
  | succ d ih =>
    intro k i hi hk
    obtain ⟨k, rfl⟩ : ∃ m, k = m + 1 := ⟨k - 1, by omega⟩
    have hl : i < G.length := by omega
    have hy : rd_T71 G (i : Int) = G[i] := getD_nat _ G i hl
    obtain ⟨t, e1, e2⟩ := outcome_zero G[i]
    simp only [laws_FnTables.l1, hy, e1, Option.bind_some]
    rw [if_pos (by omega), if_pos (by omega), if_pos (by omega), wrap_succ hl (by omega)]
    have h1 := ih k (i + 1) (by omega) (by omega)
    have hc : cntI (G.take (i + 1)) = cntI (G.take i) + cntI [G[i]] := by
      unfold cntI
      rw [List.take_succ_eq_append_getElem hl, List.filter_append, List.length_append]
    rw [hc] at h1
    have hle : cntI (G.take i) ≤ 60 := by
      unfold cntI
      refine Nat.le_trans (List.length_filter_le _ _) ?_
      rw [List.length_take]; omega
    by_cases c : (tbGoals G[i]).2.2 = false
    · rw [if_pos (e2.2 c)]
      have hz : cntI [G[i]] = 0 := by simp [cntI, c]
      rw [hz, Nat.add_zero] at h1
      exact h1
    · rw [if_neg (fun h => c (e2.1 h))]
      have c' : (tbGoals G[i]).2.2 = true := by simpa using c
      have hz : cntI [G[i]] = 1 := by simp [cntI, c']
      rw [hz] at h1
      rw [wrap_id (by omega) (by omega), show (cntI (G.take i) : Int) + 1 = ((cntI (G.take i) + 1 : Nat) : Int) by omega]
      exact h1
theorem check_loop (u : Int) (m : Int) (hm : m ≤ 60) (n : Nat) (h0 : 1 ≤ n) (hn : n ≤ 8) (x : List S74) (hx : x.length = n) (c : Nat) (hc : c ≤ 60) (hI : TabI u m c x) (f : List S151) (L : List Int) (q : Bool) (G : List S71) (F T : List Int) (d : Nat) :
    ∀ (k i : Nat), i + d = n → n + d + 5 ≤ k → laws_FnTables.l2 k (n : Int) x x (c : Int) x.length i f u 1 0 L q G F T = some true := by
  have hsm : ∀ y ∈ x, Small y := fun y hy => (hI.1 y hy).small hm
  induction d with
  | zero =>
    intro k i hi hk
    obtain ⟨k, rfl⟩ : ∃ m, k = m + 1 := ⟨k - 1, by omega⟩
    obtain ⟨r, e1, e2, e3⟩ := leader_ok x (by omega) x.length k 0 (-1) (by omega) (fun h => absurd h (by omega)) (by omega) (by omega)
    have e1' : impl_LeaderOf.f k x = some r := e1
    have e4 : impl_TotalPlayed.f k x = some (c : Int) := by
      unfold impl_TotalPlayed.f
      rw [sumOf_eq x (by omega) hsm k (by omega), Option.bind_some]
      show some (wrap64 (Int.tdiv ((x.map (·.f0)).sum) 2)) = _
      rw [hI.2.2.2.2, Int.mul_tdiv_cancel_left _ (by omega), wrap_id (by omega) (by omega)]
    have e3' := e3 (by omega)
    have hr : r.toNat < x.length := by omega
    have hrd : rd_T74 x r = x[r.toNat] := by simp [rd_T74, List.getD_eq_getElem?_getD, hr]
    have hs := hsm _ (List.getElem_mem hr)
    simp only [laws_FnTables.l2, e1', e4, Option.bind_some, hrd, impl_AddRows.f]
    generalize x[r.toNat] = w at hs
    unfold Small at hs
    obtain ⟨s0, s1, s2, s3, s4, s5, s6⟩ := hs
    rw [if_neg (by omega), if_pos trivial, if_pos (by omega), if_pos (by omega), if_pos (by omega), if_pos (by omega)]
    rw [wrap_id (x := w.f0 + 0) (by omega) (by omega), wrap_id (x := w.f1 + 0) (by omega) (by omega), wrap_id (x := w.f2 + 0) (by omega) (by omega), wrap_id (x := w.f3 + 0) (by omega) (by omega), wrap_id (x := w.f4 + 0) (by omega) (by omega), wrap_id (x := w.f5 + 0) (by omega) (by omega), wrap_id (x := w.f6 + 0) (by omega) (by omega)]
    simp
  | succ d ih =>
    intro k i hi hk
    obtain ⟨k, rfl⟩ : ∃ m, k = m + 1 := ⟨k - 1, by omega⟩
    have hl : i < x.length := by omega
    have hy : rd_T74 x (i : Int) = x[i] := getD_nat _ x i hl
    have hr := hI.1 _ (List.getElem_mem hl)
    have e := ih k (i + 1) (by omega) (by omega)
    simp only [laws_FnTables.l2, hy, impl_DifferenceOf.f, Option.bind_some]
    rw [if_pos (by omega), if_pos (by omega), if_pos (by omega), if_pos (by omega), wrap_succ hl (by omega), e]
    generalize x[i] = w at hr
    unfold RowI at hr
    have hp : w.f6 = wrap64 ((wrap64 ((wrap64 (u * w.f1)) + (wrap64 (1 * w.f2)))) + (wrap64 (0 * w.f3))) := by
      rcases hr.2.2.2.2.2.2.2 with ⟨rfl, h6⟩ | ⟨rfl, h6⟩
      · rw [wrap_id (x := 2 * w.f1) (by omega) (by omega), wrap_id (x := 1 * w.f2) (by omega) (by omega), wrap_id (x := 0 * w.f3) (by omega) (by omega), wrap_id (x := 2 * w.f1 + 1 * w.f2) (by omega) (by omega), wrap_id (by omega) (by omega)]
        omega
      · rw [wrap_id (x := 3 * w.f1) (by omega) (by omega), wrap_id (x := 1 * w.f2) (by omega) (by omega), wrap_id (x := 0 * w.f3) (by omega) (by omega), wrap_id (x := 3 * w.f1 + 1 * w.f2) (by omega) (by omega), wrap_id (by omega) (by omega)]
        omega
    rw [if_pos hp]
    simp
theorem final_ok {n : Nat} {G : List S71} (h : Final (n : Int) G) : G.all (tbOk (n : Int)) = true := by
  rw [List.all_eq_true]
  intro g hg
  have := h.1 g hg
  unfold Sg at this
  unfold tbOk
  simp only [Bool.and_eq_true, decide_eq_true_eq]
  omega
theorem FnTables : FnTables_pure := by
  intro c hc _
  unfold maxLen at hc
  obtain ⟨K, hK⟩ : ∃ K, K = 10000 := ⟨_, rfl⟩
  refine ⟨K, ?_⟩
  unfold laws_FnTables.f
  by_cases hb : (c.length : Int) > 1048576
  · rw [if_pos hb]
  · rw [if_neg hb]
    obtain ⟨n0, f, u, L, q, G, F, T, e0, h0, h1, hf, hG, hF, hT, hu, hL⟩ := makeBook_ok c (by omega) K (by omega)
    simp only [e0, Option.bind_some]
    obtain ⟨hR, hL8, hL2⟩ := ladder8_ok hL u hu
    obtain rfl : n0 = (f.length : Int) := hf.symm
    have hlen := hG.2.2
    have hfin := final_season (by omega) (by omega) hG
    have hall := final_ok hG
    have hsg : ∀ g ∈ G, Sg (f.length : Int) g := hG.1
    have hA : ∀ k, 300 ≤ k → impl_areTables.f k u 1 0 L q (f.length : Int) G = some true := by
      intro k hk
      unfold impl_areTables.f
      rw [implRules_eq u 1 0 L q (by omega) k (by omega), hR, implSeason_eq (f.length : Int) (by omega) G (by omega) k (by omega), hfin, within_eq, decide_eq_true (by omega)]
      rfl
    have hg1 : ((decide (1 ≤ (f.length : Int)) && decide ((f.length : Int) ≤ 100000)) && G.all (tbOk (f.length : Int))) = true := by
      rw [hall, Bool.and_true]
      simp only [Bool.and_eq_true, decide_eq_true_eq]
      omega
    have e1 : ∀ k, 300 ≤ k → impl_TableOf.f k u 1 0 L q (f.length : Int) G = some (tbTable u 1 0 (fun _ => true) (f.length : Int) G) := by
      intro k hk
      unfold impl_TableOf.f impl_TableOf.g
      rw [hA k hk, Option.bind_some, if_pos rfl, if_pos hg1]
    have hsame : tbTable u 1 0 (amongIn (upI f.length)) (f.length : Int) G = tbTable u 1 0 (fun _ => true) (f.length : Int) G := by
      unfold tbTable
      refine fold_congr u 1 0 _ _ G _ (fun g hg => ?_)
      have := hsg g hg
      unfold Sg at this
      unfold amongIn
      rw [decide_eq_true (mem_upI (by omega) (by omega)), decide_eq_true (mem_upI (by omega) (by omega))]
      rfl
    have e2 : ∀ k, 300 ≤ k → impl_TableAmong.f k u 1 0 L q (f.length : Int) G (upI f.length) = some (tbTable u 1 0 (fun _ => true) (f.length : Int) G) := by
      intro k hk
      unfold impl_TableAmong.f impl_TableAmong.g
      rw [hA k hk, Option.bind_some, if_pos rfl, if_pos hg1, hsame]
    have hI := table_inv u hu f.length G hsg hlen
    have hTl := tbTable_len u 1 0 (fun _ => true) (f.length : Int) G
    rw [Int.toNat_natCast] at hTl
    generalize tbTable u 1 0 (fun _ => true) (f.length : Int) G = X at e1 e2 hI hTl
    have hcnt : cntI G ≤ 60 := Nat.le_trans (List.length_filter_le _ _) hlen
    have hsm : ∀ y ∈ X, Small y := fun y hy => (hI.1 y hy).small (by omega)
    have hs : ∀ k, X.length + 1 ≤ k → impl_sumOf.f k X = some _ := fun k hk => sumOf_eq X (by omega) hsm k (by omega)
    have eb : ∀ k, 300 ≤ k → impl_IsBalanced.f k X = some true := by
      intro k hk
      have := impl_bal X (by omega) (X.length + 1) _ hs X.length k 0 (by omega) (by omega)
      have e : impl_IsBalanced.f k X = _ := this
      rw [e, rows_ok X hI.1 (by omega) X.length 0 (by omega)]
      obtain ⟨_, i1, ⟨z, i2⟩, i3, _⟩ := hI
      have t2 : Int.tmod (2 * z) 2 = 0 := Int.mul_tmod_right 2 z
      simp only [i1, i2, i3, t2, decide_true, Bool.and_self, beq_self_eq_true]
    have start := all_loop f.length (by omega) f u 1 0 L q G F T 400 (some true) (fun k hk => ?_) f.length K 0 (by omega) (by omega)
    · exact start
    · simp only [laws_FnTables.l0]
      rw [if_neg (by omega), e1 k (by omega), e2 k (by omega)]
      simp only [Option.bind_some]
      rw [if_pos (by omega), if_pos (by omega), eb k (by omega)]
      simp only [Option.bind_some, Bool.not_true]
      obtain ⟨k, rfl⟩ : ∃ m, k = m + 1 := ⟨k - 1, by omega⟩
      simp only [laws_FnTables.j1]
      rw [if_neg (by simp)]
      have := count_loop (f.length : Int) X X f u 1 0 L q G hlen F T 100 (some true) (fun k hk => check_loop u (G.length : Int) (by omega) f.length (by omega) (by omega) X hTl (cntI G) hcnt hI f L q G F T f.length k 0 (by omega) (by omega)) G.length k 0 (by omega) (by omega)
      simpa [cntI] using this

end Go.Proofs.Ytikfdjgigeggjaa.Pure
