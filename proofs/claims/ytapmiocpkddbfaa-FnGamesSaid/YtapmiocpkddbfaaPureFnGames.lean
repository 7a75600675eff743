/- Under way: what MakeBook draws is a season, and each of its games answers as the law says. -/
import Derived.Test.YtapmiocpkddbfaaSayFnGames
import Derived.Test.YtapmiocpkddbfaaPureKit
namespace Go.Proofs.Ytapmiocpkddbfaa.Pure
open Go.RowKit Go.Proofs.Ytapmiocpkddbfaa.MFnGames Go.Proofs.Ytapmiocpkddbfaa.PureKit Go.Proofs.YtapmiocpkddbfaaW.PrintWords Go.Proofs.YtapmiocpkddbfaaW.PrintLast
set_option linter.unusedSimpArgs false
set_option linter.unusedVariables false
theorem and255 (n : Int) : Go.bits .and .i64 n 255 = n % 256 := by
  have h255 : (BitVec.ofInt 64 255).toNat = 2 ^ 8 - 1 := by decide
  have key : (BitVec.ofInt 64 n &&& BitVec.ofInt 64 255).toNat = (n % ((2 ^ 64 : Nat) : Int)).toNat % 2 ^ 8 := by
    rw [BitVec.toNat_and, BitVec.toNat_ofInt, h255, Nat.and_two_pow_sub_one_eq_mod]
  show IntKind.i64.wrap ((BitVec.ofInt 64 n &&& BitVec.ofInt 64 255).toNat : Nat) = n % 256
  rw [key, IntKind.wrap_i64]
  omega
/-- A byte that is drawn: from 0 to 255; the place never turns back. -/
theorem byte_ok (c : List Int) (hc : c.length ≤ 9223372036854775807) (p s : Int) (hp : 0 ≤ p) : ∃ x p' s', spec_l01Byte.f c p s = some (x, p', s') ∧ 0 ≤ x ∧ x ≤ 255 ∧ 0 ≤ p' := by
  unfold spec_l01Byte.f
  split
  · try rw [if_pos hp]
    refine ⟨_, _, _, rfl, ?_, ?_, ?_⟩
    · rw [and255]; omega
    · rw [and255]; omega
    · rw [wrap_id (by omega) (by omega)]; omega
  · refine ⟨_, _, _, rfl, ?_, ?_, hp⟩
    · rw [and255]; omega
    · rw [and255]; omega
theorem below_ok (c : List Int) (hc : c.length ≤ 9223372036854775807) (p s n : Int) (hp : 0 ≤ p) (h0 : 0 < n) (h1 : n ≤ 256) : ∃ x p' s', spec_l01Below.f c p s n = some (x, p', s') ∧ 0 ≤ x ∧ x < n ∧ 0 ≤ p' := by
  obtain ⟨x, p', s', e, g0, g1, g2⟩ := byte_ok c hc p s hp
  unfold spec_l01Below.f
  rw [if_neg (by omega), if_pos h1, e]
  simp only [Option.bind_some]
  rw [if_neg (by omega)]
  refine ⟨_, _, _, rfl, Int.tmod_nonneg _ g0, Int.tmod_lt_of_pos _ h0, g2⟩
theorem once_ok (c : List Int) (hc : c.length ≤ 9223372036854775807) (p s n : Int) (hp : 0 ≤ p) (h0 : 0 < n) (h1 : n ≤ 256) : ∃ b p' s', spec_l01Once.f c p s n = some (b, p', s') ∧ 0 ≤ p' := by
  obtain ⟨x, p', s', e, _, _, g2⟩ := below_ok c hc p s n hp h0 h1
  unfold spec_l01Once.f
  rw [e]
  exact ⟨_, _, _, rfl, g2⟩
theorem pick_ok (c : List Int) (hc : c.length ≤ 9223372036854775807) (p s : Int) (l : List Int) (hp : 0 ≤ p) (h0 : 0 < l.length) (h1 : l.length ≤ 256) : ∃ x p' s', spec_l01Pick.f c p s l = some (x, p', s') ∧ x ∈ l ∧ 0 ≤ p' := by
  obtain ⟨i, p', s', e, g0, g1, g2⟩ := below_ok c hc p s (l.length : Int) hp (by omega) (by omega)
  unfold spec_l01Pick.f
  rw [e]
  simp only [Option.bind_some]
  rw [if_pos g0, if_pos g1]
  obtain ⟨j, rfl⟩ : ∃ j : Nat, i = j := ⟨i.toNat, by omega⟩
  have hj : j < l.length := by omega
  refine ⟨_, _, _, rfl, ?_, g2⟩
  rw [rd_nat l j hj]
  exact List.getElem_mem hj
theorem has_loop (t : Int) (x : List Int) (hn : x.length ≤ 9223372036854775807) (d : Nat) : ∀ (k i : Nat), i + d = x.length → d < k →
    spec_l02Has.l0 k t x x.length i = some (decide (t ∈ x.drop i)) := by
  induction d with
  | zero =>
    intro k i hd hk
    obtain ⟨k, rfl⟩ : ∃ m, k = m + 1 := ⟨k - 1, by omega⟩
    simp only [spec_l02Has.l0]
    rw [if_neg (by omega), List.drop_of_length_le (by omega)]
    simp
  | succ d ih =>
    intro k i hd hk
    obtain ⟨k, rfl⟩ : ∃ m, k = m + 1 := ⟨k - 1, by omega⟩
    have hi : i < x.length := by omega
    have hlt : (i : Int) < (x.length : Int) := by omega
    have h0 : (0 : Int) ≤ (i : Int) := by omega
    simp only [spec_l02Has.l0, hlt, h0, if_true, wrap_succ hi hn, ih k (i + 1) (by omega) (by omega), rd_nat x i hi]
    have hm : t ∈ x.drop i ↔ t = x[i] ∨ t ∈ x.drop (i + 1) := by rw [List.drop_eq_getElem_cons hi, List.mem_cons]
    by_cases c : x[i] = t
    · rw [if_pos c, decide_eq_true (hm.2 (Or.inl c.symm))]
    · rw [if_neg c]
      congr 1
      rw [decide_eq_decide, hm]
      exact ⟨Or.inr, fun h => h.resolve_left (fun e => c e.symm)⟩
theorem has_eq (t : Int) (x : List Int) (hn : x.length ≤ 9223372036854775807) (k : Nat) (hk : x.length < k) : spec_l02Has.f k x t = some (decide (t ∈ x)) := by
  unfold spec_l02Has.f
  exact has_loop t x hn x.length k 0 (by omega) hk
/-- A game of a season of n teams as it is drawn. -/
def Sg (n : Int) (g : S61) : Prop := 0 ≤ g.f0 ∧ g.f0 < n ∧ 0 ≤ g.f1 ∧ g.f1 < n ∧ g.f0 ≠ g.f1 ∧ 0 ≤ g.f4 ∧ g.f4 ≤ 4 ∧ 0 ≤ g.f2 ∧ g.f2 ≤ (if g.f4 = 1 then 99 else 0) ∧ 0 ≤ g.f3 ∧ g.f3 ≤ (if g.f4 = 1 then 99 else 0)
/-- The pair of its teams comes ahead of (b, a). -/
def Ahead (b a : Int) (g : S61) : Prop := (g.f0 < b ∧ g.f1 < b) ∨ (g.f0 = b ∧ g.f1 < a) ∨ (g.f1 = b ∧ g.f0 < a)
def Apart (x y : S61) : Prop := ¬ (x.f0 = y.f0 ∧ x.f1 = y.f1)
def Season (n b a : Int) (l : List S61) : Prop := (∀ g ∈ l, Sg n g ∧ Ahead b a g) ∧ l.Pairwise Apart ∧ (l.length : Int) ≤ (b - 1) * 4 + a
def Final (n : Int) (l : List S61) : Prop := (∀ g ∈ l, Sg n g) ∧ l.Pairwise Apart ∧ l.length ≤ 60
theorem Season.add {n b a : Int} {l : List S61} (h : Season n b a l) (h0 : 0 ≤ a) (h1 : a < b) (g : S61) (hg : Sg n g) (hp : (g.f0 = a ∧ g.f1 = b) ∨ (g.f0 = b ∧ g.f1 = a)) : Season n b (a + 1) (l ++ [g]) := by
  obtain ⟨h2, h3, h4⟩ := h
  refine ⟨fun x hx => ?_, ?_, ?_⟩
  · rcases List.mem_append.mp hx with hx | hx
    · refine ⟨(h2 x hx).1, ?_⟩
      have := (h2 x hx).2
      unfold Ahead at this ⊢
      omega
    · rw [List.mem_singleton] at hx
      subst hx
      refine ⟨hg, ?_⟩
      unfold Ahead
      omega
  · rw [List.pairwise_append]
    refine ⟨h3, List.pairwise_singleton _ _, fun x hx y hy => ?_⟩
    rw [List.mem_singleton] at hy
    subst hy
    have := (h2 x hx).2
    unfold Ahead at this
    unfold Apart
    omega
  · rw [List.length_append, List.length_singleton]
    omega
theorem Season.next {n b : Int} {l : List S61} (h : Season n b b l) (h0 : 0 ≤ b) (h1 : b ≤ 4) : Season n (b + 1) 0 l := by
  obtain ⟨h2, h3, h4⟩ := h
  refine ⟨fun x hx => ⟨(h2 x hx).1, ?_⟩, h3, by omega⟩
  have hs := (h2 x hx).1
  have := (h2 x hx).2
  unfold Sg at hs
  unfold Ahead at this ⊢
  omega
/-- What is drawn: a value, the place, the seed. -/
def Drew {α : Type} (o : Option (α × Int × Int)) (P : α → Prop) : Prop := ∃ x p s, o = some (x, p, s) ∧ P x ∧ 0 ≤ p
theorem j4_ok (c : List Int) (hc : c.length ≤ 9223372036854775807) (n b a : Int) (hb : b < n) (hn : n ≤ 5) (h0 : 0 ≤ a) (h1 : a < b) (K : Nat)
    (next : ∀ k ≥ K, ∀ op l p s, Season n b (a + 1) l → 0 ≤ p → Drew (spec_l04Season.l1 k n op l b (a + 1) c p s) (Final n))
    (k : Nat) (hk : k ≥ K + 1) (op : Int) (l : List S61) (p s x y st : Int) (hs : Season n b a l) (hp : 0 ≤ p) (hxy : (x = a ∧ y = b) ∨ (x = b ∧ y = a)) (hst : 0 ≤ st ∧ st ≤ 4) :
    Drew (spec_l04Season.j4 k n op l b a c p s x y 0 0 st) (Final n) := by
  obtain ⟨k, rfl⟩ : ∃ m, k = m + 1 := ⟨k - 1, by omega⟩
  simp only [spec_l04Season.j4]
  have hl : l.length < 3518437208883 := by have := hs.2.2; omega
  have hw : wrap64 (a + 1) = a + 1 := wrap_id (by omega) (by omega)
  by_cases c1 : st = 1
  · rw [if_pos c1]
    obtain ⟨v, p1, s1, e1, v0, v1, hp1⟩ := below_ok c hc p s 4 hp (by omega) (by omega)
    obtain ⟨v', p2, s2, e2, v0', v1', hp2⟩ := below_ok c hc p1 s1 4 hp1 (by omega) (by omega)
    simp only [e1, e2, Option.bind_some]
    rw [if_pos hl, hw]
    refine next k (by omega) _ _ _ _ (hs.add h0 h1 _ ?_ ?_) hp2
    · unfold Sg
      simp only [if_pos c1]
      omega
    · exact hxy
  · rw [if_neg c1, if_pos hl, hw]
    refine next k (by omega) _ _ _ _ (hs.add h0 h1 _ ?_ ?_) hp
    · unfold Sg
      simp only [if_neg c1]
      omega
    · exact hxy
theorem j3_ok (c : List Int) (hc : c.length ≤ 9223372036854775807) (n b a : Int) (hb : b < n) (hn : n ≤ 5) (h0 : 0 ≤ a) (h1 : a < b) (K : Nat)
    (next : ∀ k ≥ K, ∀ op l p s, Season n b (a + 1) l → 0 ≤ p → Drew (spec_l04Season.l1 k n op l b (a + 1) c p s) (Final n))
    (k : Nat) (hk : k ≥ K + 2) (op : Int) (l : List S61) (o : Bool) (p s x y : Int) (hs : Season n b a l) (hp : 0 ≤ p) (hxy : (x = a ∧ y = b) ∨ (x = b ∧ y = a)) :
    Drew (spec_l04Season.j3 k n op l b a o c p s x y 0 0 0) (Final n) := by
  obtain ⟨k, rfl⟩ : ∃ m, k = m + 1 := ⟨k - 1, by omega⟩
  simp only [spec_l04Season.j3]
  cases o with
  | true =>
    rw [if_pos rfl]
    exact j4_ok c hc n b a hb hn h0 h1 K next k (by omega) _ l p s x y 0 hs hp hxy ⟨by omega, by omega⟩
  | false =>
    rw [if_neg (by decide)]
    obtain ⟨v, p1, s1, e1, hv, hp1⟩ := pick_ok c hc p s [1, 1, 1, 1, 1, 1, 2, 3, 4] hp (by decide) (by decide)
    simp only [e1, Option.bind_some]
    refine j4_ok c hc n b a hb hn h0 h1 K next k (by omega) _ l p1 s1 x y v hs hp1 hxy ?_
    simp only [List.mem_cons, List.not_mem_nil, or_false] at hv
    omega
theorem j2_ok (c : List Int) (hc : c.length ≤ 9223372036854775807) (n b a : Int) (hb : b < n) (hn : n ≤ 5) (h0 : 0 ≤ a) (h1 : a < b) (K : Nat)
    (next : ∀ k ≥ K, ∀ op l p s, Season n b (a + 1) l → 0 ≤ p → Drew (spec_l04Season.l1 k n op l b (a + 1) c p s) (Final n))
    (k : Nat) (hk : k ≥ K + 3) (op : Int) (l : List S61) (p s x y : Int) (hs : Season n b a l) (hp : 0 ≤ p) (hxy : (x = a ∧ y = b) ∨ (x = b ∧ y = a)) :
    Drew (spec_l04Season.j2 k n op l b a c p s x y 0 0 0) (Final n) := by
  obtain ⟨k, rfl⟩ : ∃ m, k = m + 1 := ⟨k - 1, by omega⟩
  simp only [spec_l04Season.j2]
  split
  · obtain ⟨o, p1, s1, e1, hp1⟩ := once_ok c hc p s 3 hp (by omega) (by omega)
    simp only [e1, Option.bind_some]
    exact j3_ok c hc n b a hb hn h0 h1 K next k (by omega) _ l o p1 s1 x y hs hp1 hxy
  · exact j3_ok c hc n b a hb hn h0 h1 K next k (by omega) _ l false p s x y hs hp hxy
theorem l1_ok (c : List Int) (hc : c.length ≤ 9223372036854775807) (n b : Int) (hb : b < n) (hn : n ≤ 5) (hb0 : 1 ≤ b) (K : Nat)
    (next : ∀ k ≥ K, ∀ op l p s, Season n (b + 1) 0 l → 0 ≤ p → Drew (spec_l04Season.l0 k n op l (b + 1) c p s) (Final n)) (d : Nat) :
    ∀ a : Int, a + d = b → 0 ≤ a → ∀ k ≥ K + 4 * d + 1, ∀ op l p s, Season n b a l → 0 ≤ p → Drew (spec_l04Season.l1 k n op l b a c p s) (Final n) := by
  induction d with
  | zero =>
    intro a hd h0 k hk op l p s hs hp
    obtain ⟨k, rfl⟩ : ∃ m, k = m + 1 := ⟨k - 1, by omega⟩
    obtain rfl : a = b := by omega
    simp only [spec_l04Season.l1]
    rw [if_neg (by omega), wrap_id (by omega) (by omega)]
    exact next k (by omega) _ _ _ _ (hs.next (by omega) (by omega)) hp
  | succ d ih =>
    intro a hd h0 k hk op l p s hs hp
    obtain ⟨k, rfl⟩ : ∃ m, k = m + 1 := ⟨k - 1, by omega⟩
    simp only [spec_l04Season.l1]
    rw [if_pos (by omega)]
    obtain ⟨o, p1, s1, e1, hp1⟩ := once_ok c hc p s 2 hp (by omega) (by omega)
    simp only [e1, Option.bind_some]
    have nx := ih (a + 1) (by omega) (by omega)
    split
    · exact j2_ok c hc n b a hb hn h0 (by omega) _ nx k (by omega) _ l p1 s1 b a hs hp1 (.inr ⟨rfl, rfl⟩)
    · exact j2_ok c hc n b a hb hn h0 (by omega) _ nx k (by omega) _ l p1 s1 a b hs hp1 (.inl ⟨rfl, rfl⟩)
theorem l0_ok (c : List Int) (hc : c.length ≤ 9223372036854775807) (n : Int) (hn : n ≤ 5) (e : Nat) :
    ∀ b : Int, b + e = n → 1 ≤ b → ∀ k ≥ 30 * e + 1, ∀ op l p s, Season n b 0 l → 0 ≤ p → Drew (spec_l04Season.l0 k n op l b c p s) (Final n) := by
  induction e with
  | zero =>
    intro b he hb k hk op l p s hs hp
    obtain ⟨k, rfl⟩ : ∃ m, k = m + 1 := ⟨k - 1, by omega⟩
    simp only [spec_l04Season.l0]
    rw [if_neg (by omega)]
    exact ⟨_, _, _, rfl, ⟨fun g hg => (hs.1 g hg).1, hs.2.1, by have := hs.2.2; omega⟩, hp⟩
  | succ e ih =>
    intro b he hb k hk op l p s hs hp
    obtain ⟨k, rfl⟩ : ∃ m, k = m + 1 := ⟨k - 1, by omega⟩
    simp only [spec_l04Season.l0]
    rw [if_pos (by omega)]
    exact l1_ok c hc n b (by omega) hn hb _ (ih (b + 1) (by omega) (by omega)) b.toNat 0 (by omega) (by omega) k (by omega) op l p s hs hp
theorem season_ok (c : List Int) (hc : c.length ≤ 9223372036854775807) (n op p s : Int) (h1 : 1 ≤ n) (hn : n ≤ 5) (hp : 0 ≤ p) (k : Nat) (hk : 200 ≤ k) : Drew (spec_l04Season.f k c p s n op) (Final n) := by
  unfold spec_l04Season.f
  refine l0_ok c hc n hn (n - 1).toNat 1 (by omega) (by omega) k (by omega) op [] p s ⟨by simp, List.Pairwise.nil, by simp⟩ hp
theorem strOfNums_size (l : List Int) : (strOfNums l).size = l.length := by
  unfold strOfNums ByteArray.size
  simp
theorem format_small (k : Nat) (hk : 2 ≤ k) (x : Int) (h0 : 0 ≤ x) (h1 : x ≤ 9) : ∃ t, spec_FormatInt.f k x = some t ∧ t.size = 1 := by
  obtain ⟨k, rfl⟩ : ∃ m, k = m + 2 := ⟨k - 2, by omega⟩
  have e : ByteArray.size (⟨#[]⟩ : ByteArray) = 0 := rfl
  simp only [spec_FormatInt.f, spec_FormatInt.l0, Option.bind_some]
  rw [if_neg (by omega), if_neg (by omega), if_pos (by rw [strOfNums_size, e]; simp)]
  refine ⟨_, rfl, ?_⟩
  rw [ByteArray.size_append, strOfNums_size, e]
  rfl
theorem field_loop (c : List Int) (hc : c.length ≤ 9223372036854775807) (n tn : Int) (h1 : 1 ≤ n) (hn : n ≤ 9) (d : Nat) : ∀ (i : Nat), (i : Int) + d = n → ∀ k ≥ d + 3, ∀ l p s, l.length = i → 0 ≤ p →
    Drew (spec_l02Field.l0 k n l tn i c p s) (fun r => (r.length : Int) = n) := by
  induction d with
  | zero =>
    intro i hi k hk l p s hl hp
    obtain ⟨k, rfl⟩ : ∃ m, k = m + 1 := ⟨k - 1, by omega⟩
    simp only [spec_l02Field.l0]
    rw [if_neg (by omega)]
    exact ⟨_, _, _, rfl, by omega, hp⟩
  | succ d ih =>
    intro i hi k hk l p s hl hp
    obtain ⟨k, rfl⟩ : ∃ m, k = m + 1 := ⟨k - 1, by omega⟩
    obtain ⟨t, et, hts⟩ := format_small k (by omega) i (by omega) (by omega)
    obtain ⟨v, p1, s1, e1, _, _, hp1⟩ := below_ok c hc p s 4 hp (by omega) (by omega)
    simp only [spec_l02Field.l0, et, e1, Option.bind_some]
    rw [if_pos (by omega), if_pos (by omega), if_neg (by omega), if_pos (by omega), show wrap64 ((i : Int) + 1) = ((i + 1 : Nat) : Int) by rw [wrap_id (by omega) (by omega)]; rfl]
    exact ih (i + 1) (by omega) k (by omega) _ _ _ (by rw [List.length_append, hl]; rfl) hp1
theorem field_ok (c : List Int) (hc : c.length ≤ 9223372036854775807) (n p s : Int) (h1 : 1 ≤ n) (hn : n ≤ 9) (hp : 0 ≤ p) (k : Nat) (hk : 20 ≤ k) : Drew (spec_l02Field.f k c p s n) (fun r => (r.length : Int) = n) := by
  obtain ⟨v, p1, s1, e1, _, _, hp1⟩ := below_ok c hc p s n hp (by omega) (by omega)
  unfold spec_l02Field.f
  rw [e1]
  exact field_loop c hc n v h1 hn n.toNat 0 (by omega) k (by omega) [] p1 s1 rfl hp1
/-- The rules that are drawn: kept here is that they come, and their ladder's length. -/
theorem draw_loop (c : List Int) (hc : c.length ≤ 9223372036854775807) (w dr lo : Int) (b : Bool) (d : Nat) : ∀ k ≥ d + 10, ∀ l : List Int, l.length + d ≤ 7 → ∀ p s, 0 ≤ p →
    ∃ L p' s', spec_l03Draw.l0 k d c p s w dr lo l b = some (w, dr, lo, L, b, p', s') ∧ 0 ≤ p' := by
  induction d with
  | zero =>
    intro k hk l hl p s hp
    obtain ⟨k, rfl⟩ : ∃ m, k = m + 1 := ⟨k - 1, by omega⟩
    simp only [spec_l03Draw.l0]
    rw [if_neg (by omega), if_pos (by omega)]
    exact ⟨_, _, _, rfl, hp⟩
  | succ d ih =>
    intro k hk l hl p s hp
    obtain ⟨k, rfl⟩ : ∃ m, k = m + 1 := ⟨k - 1, by omega⟩
    obtain ⟨v, p1, s1, e1, v0, v1, hp1⟩ := below_ok c hc p s 6 hp (by omega) (by omega)
    have hw : wrap64 ((d + 1 : Nat) - 1 : Int) = (d : Int) := by rw [wrap_id (by omega) (by omega)]; omega
    simp only [spec_l03Draw.l0, e1, Option.bind_some]
    rw [if_pos (by omega), has_eq _ l (by omega) k (by omega), hw]
    simp only [Option.bind_some]
    split
    · exact ih k (by omega) l (by omega) p1 s1 hp1
    · rw [if_pos (by omega)]
      exact ih k (by omega) _ (by rw [List.length_append]; simp; omega) p1 s1 hp1
theorem draw_ok (c : List Int) (hc : c.length ≤ 9223372036854775807) (p s : Int) (hp : 0 ≤ p) (k : Nat) (hk : 20 ≤ k) :
    ∃ w dr lo L b p' s', spec_l03Draw.f k c p s = some (w, dr, lo, L, b, p', s') ∧ 0 ≤ p' := by
  obtain ⟨v1, p1, s1, e1, _, _, hp1⟩ := below_ok c hc p s 2 hp (by omega) (by omega)
  obtain ⟨v2, p2, s2, e2, hp2⟩ := once_ok c hc p1 s1 2 hp1 (by omega) (by omega)
  obtain ⟨v3, p3, s3, e3, g0, g1, hp3⟩ := below_ok c hc p2 s2 4 hp2 (by omega) (by omega)
  unfold spec_l03Draw.f
  simp only [e1, e2, e3, Option.bind_some]
  obtain ⟨d, rfl⟩ : ∃ d : Nat, v3 = d := ⟨v3.toNat, by omega⟩
  obtain ⟨L, p', s', e, hp'⟩ := draw_loop c hc (wrap64 (2 + v1)) 1 0 v2 d k (by omega) [1] (by simp; omega) p3 s3 hp3
  exact ⟨_, _, _, _, _, _, _, e, hp'⟩
theorem book_loop (c : List Int) (hc : c.length ≤ 9223372036854775807) (n : Int) (hn : n ≤ 9) (f : List S102) (a b e : Int) (L : List Int) (q : Bool) (G : List S61) (d : Nat) : ∀ (i : Nat), (i : Int) + d = n → ∀ k ≥ d + 3, ∀ (F T : List Int) (p s : Int), F.length = i → T.length = i → 0 ≤ p →
    ∃ F' T' p' s', spec_l07Book.l0 k n i c p s f a b e L q G F T = some (f, a, b, e, L, q, G, F', T', p', s') ∧ (F'.length : Int) = n ∧ (T'.length : Int) = n ∧ 0 ≤ p' := by
  induction d with
  | zero =>
    intro i hi k hk F T p s hF hT hp
    obtain ⟨k, rfl⟩ : ∃ m, k = m + 1 := ⟨k - 1, by omega⟩
    simp only [spec_l07Book.l0]
    rw [if_neg (by omega)]
    exact ⟨_, _, _, _, rfl, by omega, by omega, hp⟩
  | succ d ih =>
    intro i hi k hk F T p s hF hT hp
    obtain ⟨k, rfl⟩ : ∃ m, k = m + 1 := ⟨k - 1, by omega⟩
    obtain ⟨v1, p1, s1, e1, _, _, hp1⟩ := below_ok c hc p s 4 hp (by omega) (by omega)
    obtain ⟨v2, p2, s2, e2, _, hp2⟩ := pick_ok c hc p1 s1 [0, 0, 0, 1] hp1 (by decide) (by decide)
    simp only [spec_l07Book.l0, e1, e2, Option.bind_some]
    rw [if_pos (by omega), if_pos (by omega), if_pos (by omega), wrap_id (by omega) (by omega)]
    exact ih (i + 1) (by omega) k (by omega) _ _ _ _ (by rw [List.length_append, hF]; rfl) (by rw [List.length_append, hT]; rfl) hp2
theorem book_ok (c : List Int) (hc : c.length ≤ 9223372036854775807) (p s n op : Int) (h1 : 1 ≤ n) (hn : n ≤ 5) (hp : 0 ≤ p) (k : Nat) (hk : 200 ≤ k) :
    ∃ f a b e L q G F T p' s', spec_l07Book.f k c p s n op = some (f, a, b, e, L, q, G, F, T, p', s') ∧ (f.length : Int) = n ∧ Final n G ∧ (F.length : Int) = n ∧ (T.length : Int) = n := by
  obtain ⟨f, p1, s1, e1, hf, hp1⟩ := field_ok c hc n p s h1 (by omega) hp k (by omega)
  obtain ⟨w, dr, lo, L, b, p2, s2, e2, hp2⟩ := draw_ok c hc p1 s1 hp1 k (by omega)
  obtain ⟨G, p3, s3, e3, hG, hp3⟩ := season_ok c hc n op p2 s2 h1 hn hp2 k hk
  unfold spec_l07Book.f
  simp only [e1, e2, e3, Option.bind_some]
  obtain ⟨F, T, p', s', e, hF, hT, _⟩ := book_loop c hc n (by omega) f w dr lo L b G n.toNat 0 (by omega) k (by omega) [] [] p3 s3 rfl rfl hp3
  exact ⟨_, _, _, _, _, _, _, _, _, _, _, e, hf, hG, hF, hT⟩
theorem new_loop (c : List Int) (d : Nat) : ∀ (k i : Nat), i + d = 4000 → d < k → ∀ x : Int, ∃ s, spec_l01New.l0 k c x i = some (c, 0, s) := by
  induction d with
  | zero =>
    intro k i hi hk x
    obtain ⟨k, rfl⟩ : ∃ m, k = m + 1 := ⟨k - 1, by omega⟩
    simp only [spec_l01New.l0]
    rw [if_neg (show ¬ ((i : Int) < 4000) by omega)]
    split <;> exact ⟨_, rfl⟩
  | succ d ih =>
    intro k i hi hk x
    obtain ⟨k, rfl⟩ : ∃ m, k = m + 1 := ⟨k - 1, by omega⟩
    simp only [spec_l01New.l0]
    split
    · rw [if_pos (show (i : Int) < 4000 by omega), if_pos (by omega), show wrap64 ((i : Int) + 1) = ((i + 1 : Nat) : Int) by rw [wrap_id (by omega) (by omega)]; rfl]
      exact ih k (i + 1) (by omega) (by omega) _
    · exact ⟨_, rfl⟩
theorem new_ok (c : List Int) (k : Nat) (hk : 4001 ≤ k) : ∃ s, spec_l01New.f k c = some (c, 0, s) := by
  unfold spec_l01New.f
  exact new_loop c 4000 k 0 (by omega) (by omega) _
theorem makeBook_ok (c : List Int) (hc : c.length ≤ 9223372036854775807) (k : Nat) (hk : 4001 ≤ k) :
    ∃ n f a b e L q G F T, spec_MakeBook.f k c = some (f, a, b, e, L, q, G, F, T) ∧ 3 ≤ n ∧ n ≤ 5 ∧ (f.length : Int) = n ∧ Final n G ∧ (F.length : Int) = n ∧ (T.length : Int) = n := by
  obtain ⟨s, e0⟩ := new_ok c k hk
  obtain ⟨v, p1, s1, e1, g0, g1, hp1⟩ := below_ok c hc 0 s 3 (by omega) (by omega) (by omega)
  obtain ⟨f, a, b, e, L, q, G, F, T, p', s', e2, h1, h2, h3, h4⟩ := book_ok c hc p1 s1 (wrap64 (3 + v)) 3 (by rw [wrap_id (by omega) (by omega)]; omega) (by rw [wrap_id (by omega) (by omega)]; omega) hp1 k (by omega)
  unfold spec_MakeBook.f
  simp only [e0, e1, e2, Option.bind_some]
  exact ⟨wrap64 (3 + v), _, _, _, _, _, _, _, _, _, rfl, by rw [wrap_id (by omega) (by omega)]; omega, by rw [wrap_id (by omega) (by omega)]; omega, h1, h2, h3, h4⟩
theorem within_eq (n lo hi : Int) : impl_within.f n lo hi = some (decide (lo ≤ n ∧ n ≤ hi)) := by
  unfold impl_within.f
  by_cases h : lo ≤ n <;> simp [h]
def gameOk (n a b c d e : Int) : Bool := decide (2 ≤ n ∧ n ≤ 8 ∧ 0 ≤ a ∧ a ≤ n - 1 ∧ 0 ≤ b ∧ b ≤ n - 1 ∧ a ≠ b ∧ 0 ≤ e ∧ e ≤ 4 ∧ ((e = 1 ∧ 0 ≤ c ∧ c ≤ 99 ∧ 0 ≤ d ∧ d ≤ 99) ∨ (e ≠ 1 ∧ c = 0 ∧ d = 0)))
theorem implGameOk_j (n m a b c d e : Int) (k : Nat) (hn : -9223372036854775808 ≤ n) (hk : 0 < k) : impl_GameOk.j0 k n m a b c d e = some (decide (2 ≤ n ∧ n ≤ 8 ∧ a ≠ b ∧ 0 ≤ a ∧ a ≤ n - 1 ∧ 0 ≤ b ∧ b ≤ n - 1 ∧ 0 ≤ e ∧ e ≤ 4 ∧ 0 ≤ c ∧ c ≤ m ∧ 0 ≤ d ∧ d ≤ m)) := by
  obtain ⟨k, rfl⟩ : ∃ m, k = m + 1 := ⟨k - 1, by omega⟩
  simp only [impl_GameOk.j0, within_eq, Option.bind_some]
  by_cases h1 : 2 ≤ n ∧ n ≤ 8
  · have hw : wrap64 (n - 1) = n - 1 := wrap_id (by omega) (by omega)
    rw [hw]
    by_cases h4 : a = b
    · simp [h1, h4]
    · by_cases h2 : 0 ≤ a ∧ a ≤ n - 1
      · by_cases h3 : 0 ≤ b ∧ b ≤ n - 1
        · by_cases h5 : 0 ≤ e ∧ e ≤ 4
          · by_cases h6 : 0 ≤ c ∧ c ≤ m <;> simp [h1, h2, h3, h4, h5, h6]
            omega
          · simp [h1, h2, h3, h4, h5]; omega
        · simp [h1, h2, h3, h4]; omega
      · simp [h1, h2, h4]; omega
  · simp [h1]; omega
theorem implGameOk_eq (n a b c d e : Int) (k : Nat) (hn : -9223372036854775808 ≤ n) (hk : 0 < k) : impl_GameOk.f k n a b c d e = some (gameOk n a b c d e) := by
  unfold impl_GameOk.f gameOk
  by_cases he : e = 1
  · rw [if_pos he, implGameOk_j n 99 a b c d e k hn hk]
    congr 1
    rw [decide_eq_decide]
    omega
  · rw [if_neg he, implGameOk_j n 0 a b c d e k hn hk]
    congr 1
    rw [decide_eq_decide]
    omega
theorem idxP_neg {α : Type} (p : α → Bool) (l : List α) : idxP p l < 0 ↔ ∀ (j : Nat) (z : α), l[j]? = some z → p z = false := by
  unfold idxP
  cases h : l.findIdx? p with
  | none =>
    rw [List.findIdx?_eq_none_iff] at h
    exact ⟨fun _ j z hz => h z (List.mem_of_getElem? hz), fun _ => by simp⟩
  | some i =>
    rw [List.findIdx?_eq_some_iff_getElem] at h
    obtain ⟨hi, hp, _⟩ := h
    constructor
    · intro hneg; simp at hneg; omega
    · intro hall
      have := hall i _ (List.getElem?_eq_getElem hi)
      rw [hp] at this; cases this
theorem idxP_at {α : Type} (p : α → Bool) (l : List α) (i : Nat) (y : α) (hy : l[i]? = some y) (hp : p y = true) : (idxP p l = i) ↔ idxP p (l.take i) < 0 := by
  have hi : i < l.length := (List.getElem?_eq_some_iff.1 hy).1
  rw [idxP_neg]
  constructor
  · intro h j z hz
    by_cases hj : j < i
    · rw [List.getElem?_take_of_lt hj] at hz
      unfold idxP at h
      cases hf : l.findIdx? p with
      | none => rw [hf] at h; simp at h
      | some m =>
        rw [hf] at h
        have hm : m = i := by have h2 : (m : Int) = (i : Int) := h; omega
        subst hm
        rw [List.findIdx?_eq_some_iff_getElem] at hf
        obtain ⟨_, _, hb⟩ := hf
        have hjl : j < l.length := by omega
        rw [List.getElem?_eq_getElem hjl] at hz
        cases hz
        exact Bool.eq_false_iff.mpr (hb j hj)
    · rw [List.getElem?_take_eq_none (by omega)] at hz; cases hz
  · intro h
    exact idxP_hit p l i y hy hp (fun j z hj hz => h j z (by rw [List.getElem?_take_of_lt hj]; exact hz))
def pairP (a b : Int) (x : S61) : Bool := (x.f0 == a) && (x.f1 == b)
/-- The games from i on (d of them): each valid, none of them played before. -/
def seasonFrom (n : Int) (l : List S61) : Nat → Nat → Bool
  | _, 0 => true
  | i, d + 1 => gameOk n (rd_T61 l i).f0 (rd_T61 l i).f1 (rd_T61 l i).f2 (rd_T61 l i).f3 (rd_T61 l i).f4 && (decide (idxP (pairP (rd_T61 l i).f0 (rd_T61 l i).f1) (l.take i) < 0) && seasonFrom n l (i + 1) d)
def seasonOk (n : Int) (l : List S61) : Bool := decide (l.length ≤ 60) && seasonFrom n l 0 l.length
theorem implSeason_loop (n : Int) (hw : -9223372036854775808 ≤ n) (l : List S61) (hn : l.length ≤ 9223372036854775807) (d : Nat) : ∀ (k i : Nat), i + d = l.length → d + 1 < k →
    impl_SeasonOk.l0 k n l l l.length i = some (seasonFrom n l i d && decide (l.length ≤ 60)) := by
  induction d with
  | zero =>
    intro k i hd hk
    obtain ⟨k, rfl⟩ : ∃ m, k = m + 1 := ⟨k - 1, by omega⟩
    simp only [impl_SeasonOk.l0, seasonFrom]
    rw [if_neg (by omega), Bool.true_and]
    congr 1
    rw [decide_eq_decide]; omega
  | succ d ih =>
    intro k i hd hk
    obtain ⟨k, rfl⟩ : ∃ m, k = m + 1 := ⟨k - 1, by omega⟩
    have hi : i < l.length := by omega
    have hlt : (i : Int) < (l.length : Int) := by omega
    have hle : (i : Int) ≤ (l.length : Int) := by omega
    have h0 : (0 : Int) ≤ (i : Int) := by omega
    simp only [impl_SeasonOk.l0, hlt, hle, h0, if_true, wrap_succ hi hn, implGameOk_eq n _ _ _ _ _ k hw (by omega), impl_GameOf.f, Option.bind_some, ih k (i + 1) (by omega) (by omega), seasonFrom, Int.toNat_natCast]
    generalize gameOk n (rd_T61 l i).f0 (rd_T61 l i).f1 (rd_T61 l i).f2 (rd_T61 l i).f3 (rd_T61 l i).f4 = g
    change (if g = true then (if idxP (pairP _ _) (l.take i) ≥ 0 then _ else _) else _) = _
    cases g with
    | false => rfl
    | true =>
      rw [if_pos rfl]
      by_cases c : idxP (pairP (rd_T61 l i).f0 (rd_T61 l i).f1) (l.take i) < 0
      · rw [if_neg (by omega), decide_eq_true c]; rfl
      · rw [if_pos (by omega), decide_eq_false c]; rfl
theorem implSeason_eq (n : Int) (hw : -9223372036854775808 ≤ n) (l : List S61) (hn : l.length ≤ 9223372036854775807) (k : Nat) (hk : l.length + 1 < k) : impl_SeasonOk.f k n l = some (seasonOk n l) := by
  unfold impl_SeasonOk.f seasonOk
  rw [Bool.and_comm]
  exact implSeason_loop n hw l hn l.length k 0 (by omega) (by omega)
theorem lhas_loop (t : Int) (x : List Int) (hn : x.length ≤ 9223372036854775807) (d : Nat) : ∀ (k i : Nat), i + d = x.length → d < k →
    laws_has.l0 k t x x.length i = some (decide (t ∈ x.drop i)) := by
  induction d with
  | zero =>
    intro k i hd hk
    obtain ⟨k, rfl⟩ : ∃ m, k = m + 1 := ⟨k - 1, by omega⟩
    simp only [laws_has.l0]
    rw [if_neg (by omega), List.drop_of_length_le (by omega)]
    simp
  | succ d ih =>
    intro k i hd hk
    obtain ⟨k, rfl⟩ : ∃ m, k = m + 1 := ⟨k - 1, by omega⟩
    have hi : i < x.length := by omega
    have hlt : (i : Int) < (x.length : Int) := by omega
    have h0 : (0 : Int) ≤ (i : Int) := by omega
    simp only [laws_has.l0, hlt, h0, if_true, wrap_succ hi hn, ih k (i + 1) (by omega) (by omega), rd_nat x i hi]
    have hm : t ∈ x.drop i ↔ t = x[i] ∨ t ∈ x.drop (i + 1) := by rw [List.drop_eq_getElem_cons hi, List.mem_cons]
    by_cases c : x[i] = t
    · rw [if_pos c, decide_eq_true (hm.2 (Or.inl c.symm))]
    · rw [if_neg c]
      congr 1
      rw [decide_eq_decide, hm]
      exact ⟨Or.inr, fun h => h.resolve_left (fun e => c e.symm)⟩
theorem lhas_eq (t : Int) (x : List Int) (hn : x.length ≤ 9223372036854775807) (k : Nat) (hk : x.length < k) : laws_has.f k x t = some (decide (t ∈ x)) := by
  unfold laws_has.f
  exact lhas_loop t x hn x.length k 0 (by omega) hk
theorem mem_whereP {α : Type} (p : α → Bool) (l : List α) (i : Nat) (y : α) (h : l[i]? = some y) : ((i : Int) ∈ whereP p l l.length) ↔ p y = true := by
  have hi : i < l.length := (List.getElem?_eq_some_iff.1 h).1
  unfold whereP
  simp only [List.mem_map, List.mem_filter, List.mem_range]
  constructor
  · rintro ⟨j, ⟨hj, hp⟩, e⟩
    have : j = i := by omega
    subst this
    rw [h] at hp
    exact hp
  · intro hp
    exact ⟨i, ⟨hi, by rw [h]; exact hp⟩, rfl⟩
theorem final_first {n : Int} {l : List S61} (h : Final n l) (i : Nat) (hi : i < l.length) : idxP (pairP l[i].f0 l[i].f1) (l.take i) < 0 := by
  rw [idxP_neg]
  intro j z hz
  by_cases hj : j < i
  · rw [List.getElem?_take_of_lt hj] at hz
    have hjl : j < l.length := by omega
    rw [List.getElem?_eq_getElem hjl] at hz
    cases hz
    have := List.pairwise_iff_getElem.mp h.2.1 j i hjl hi hj
    unfold Apart at this
    unfold pairP
    rw [Bool.and_eq_false_iff, beq_eq_false_iff_ne, beq_eq_false_iff_ne]
    by_cases c : l[j].f0 = l[i].f0
    · exact .inr (fun e => this ⟨c, e⟩)
    · exact .inl c
  · rw [List.getElem?_take_eq_none (by omega)] at hz; cases hz
theorem sg_ok {n : Int} (h0 : 2 ≤ n) (h1 : n ≤ 8) {g : S61} (h : Sg n g) : gameOk n g.f0 g.f1 g.f2 g.f3 g.f4 = true := by
  unfold Sg at h
  unfold gameOk
  rw [decide_eq_true_eq]
  by_cases c : g.f4 = 1
  · simp only [if_pos c] at h; omega
  · simp only [if_neg c] at h; omega
theorem final_season {n : Int} (h0 : 2 ≤ n) (h1 : n ≤ 8) {l : List S61} (h : Final n l) : seasonOk n l = true := by
  unfold seasonOk
  rw [Bool.and_eq_true, decide_eq_true_eq]
  refine ⟨h.2.2, ?_⟩
  have key : ∀ d i : Nat, i + d = l.length → seasonFrom n l i d = true := by
    intro d
    induction d with
    | zero => intro i _; rfl
    | succ d ih =>
      intro i hi
      have hl : i < l.length := by omega
      have hr : rd_T61 l (i : Int) = l[i] := getD_nat _ l i hl
      rw [seasonFrom, hr, ih (i + 1) (by omega), sg_ok h0 h1 (h.1 _ (List.getElem_mem hl)), decide_eq_true (final_first h i hl)]
      rfl
  exact key l.length 0 (by omega)
theorem round_ok {n : Int} (h0 : 2 ≤ n) (h1 : n ≤ 8) (f : List S102) (hf : (f.length : Int) = n) (w dr lo : Int) (L : List Int) (q : Bool) (F T : List Int) {l : List S61} (h : Final n l) (d : Nat) :
    ∀ (k i : Nat), i + d = l.length → 100 + 10 * d ≤ k → laws_FnGames.l0 k l l.length i f w dr lo L q l F T = some true := by
  induction d with
  | zero =>
    intro k i hi hk
    obtain ⟨k, rfl⟩ : ∃ m, k = m + 1 := ⟨k - 1, by omega⟩
    simp only [laws_FnGames.l0]
    rw [if_neg (by omega)]
  | succ d ih =>
    intro k i hi hk
    obtain ⟨k, rfl⟩ : ∃ m, k = m + 5 := ⟨k - 5, by omega⟩
    have hl : i < l.length := by omega
    have hr : rd_T61 l (i : Int) = l[i] := getD_nat _ l i hl
    have hg := h.1 _ (List.getElem_mem hl)
    have hfirst := final_first h i hl
    have hy : l[i]? = some l[i] := List.getElem?_eq_getElem hl
    have hlen := h.2.2
    simp only [laws_FnGames.l0, hr]
    rw [if_pos (by omega), if_pos (by omega), if_pos (by omega)]
    generalize l[i] = g at hg hfirst hy ⊢
    have hok : ∀ x y st, (st = 1 ∧ 0 ≤ x ∧ x ≤ 99 ∧ 0 ≤ y ∧ y ≤ 99) → gameOk n g.f0 g.f1 x y st = true := by
      intro x y st hh
      unfold Sg at hg
      unfold gameOk
      rw [decide_eq_true_eq]
      omega
    have step : ∀ (o o2 : Int) (k : Nat), 1 ≤ o → o ≤ 3 → o2 = o + 1 → 1 ≤ k → laws_FnGames.l1 (k + 1) i o l l.length i f w dr lo L q l F T g.f0 g.f1 g.f2 g.f3 g.f4 = laws_FnGames.l1 k i o2 l l.length i f w dr lo L q l F T g.f0 g.f1 g.f2 g.f3 g.f4 := by
      intro o o2 k ho ho' ho2 hk1
      subst ho2
      have hc : o = 1 ∨ o = 2 ∨ o = 3 := by omega
      have hw : wrap64 (o + 1) = o + 1 := wrap_id (by omega) (by omega)
      have hgk : ∀ a b c d e : Int, impl_GameOk.f k n a b c d e = some (gameOk n a b c d e) := fun a b c d e => implGameOk_eq n a b c d e k (by omega) (by omega)
      rw [laws_FnGames.l1]
      rw [if_pos ho', hw]
      rcases hc with rfl | rfl | rfl <;>
        simp [impl_PlayGame.f, within_eq, impl_OutcomeOf.f, impl_GoalsOf.f, impl_IsOpen.f, hgk, hf, hok]
    rw [step 1 2 _ (by omega) (by omega) (by omega) (by omega), step 2 3 _ (by omega) (by omega) (by omega) (by omega), step 3 4 _ (by omega) (by omega) (by omega) (by omega)]
    rw [laws_FnGames.l1, if_neg (by omega)]
    have e1 : impl_GamesBetween.f l g.f0 g.f1 = some (whereP (betweenP g.f0 g.f1) l l.length) := if_pos (by omega)
    have e2 : impl_GameOf.f l g.f0 g.f1 = some (i : Int) := by
      unfold impl_GameOf.f
      congr 1
      exact (idxP_at (pairP g.f0 g.f1) l i g hy (by simp [pairP])).mpr hfirst
    have e3 : impl_OpenGames.f l = some (whereP (fun x => x.f4 == 0) l l.length) := if_pos (by omega)
    have m1 : (i : Int) ∈ whereP (betweenP g.f0 g.f1) l l.length := (mem_whereP _ l i g hy).mpr (by simp [betweenP])
    have m2 : decide ((i : Int) ∈ whereP (fun x => x.f4 == 0) l l.length) = (g.f4 == 0) := by
      rw [Bool.eq_iff_iff, decide_eq_true_eq]
      exact mem_whereP (fun x => x.f4 == 0) l i g hy
    have n1 := whereP_len (betweenP g.f0 g.f1) l l.length
    have n2 := whereP_len (fun x : S61 => x.f4 == 0) l l.length
    simp only [e1, e2, e3, Option.bind_some, if_true]
    rw [lhas_eq _ _ (by omega) k (by omega), lhas_eq _ _ (by omega) k (by omega), decide_eq_true m1, m2]
    simp only [Option.bind_some, if_true, impl_PlayGame.f, within_eq, impl_IsOpen.f]
    rw [show wrap64 ((i : Int) + 1) = ((i + 1 : Nat) : Int) from wrap_succ hl (by omega), ih k (i + 1) (by omega) (by omega)]
    simp
theorem FnGames : FnGames_pure := by
  intro c hc _
  unfold maxLen at hc
  refine ⟨8000, ?_⟩
  unfold laws_FnGames.f
  by_cases hb : (c.length : Int) > 1048576
  · rw [if_pos hb]
  · rw [if_neg hb]
    obtain ⟨n, f, a, b, e, L, q, G, F, T, e0, h0, h1, hf, hG, hF, hT⟩ := makeBook_ok c (by omega) 8000 (by omega)
    simp only [e0, Option.bind_some]
    have hlen := hG.2.2
    rw [hf, implSeason_eq n (by omega) G (by omega) 8000 (by omega), final_season (by omega) (by omega) hG]
    simp only [Option.bind_some, if_true]
    exact round_ok (by omega) (by omega) f hf a b e L q F T hG G.length 8000 0 (by omega) (by omega)

end Go.Proofs.Ytapmiocpkddbfaa.Pure
