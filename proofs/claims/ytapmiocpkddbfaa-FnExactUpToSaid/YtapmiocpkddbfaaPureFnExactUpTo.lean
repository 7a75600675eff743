/- Whatever the notes and the serial: UpTo of the program and of the reference answer alike, in memory of its own at each call, and the notes stay as they were; no condition beyond the form's own reach. -/
import Derived.Test.YtapmiocpkddbfaaSayFnExactUpTo
import Derived.Test.YtapmiocpkddbfaaPureKit
namespace Go.Proofs.Ytapmiocpkddbfaa.Pure
open Go.RowKit Go.Proofs.Ytapmiocpkddbfaa.MFnExactUpTo Go.Proofs.Ytapmiocpkddbfaa.PureKit Go.Proofs.YtapmiocpkddbfaaW.PrintWords Go.Proofs.YtapmiocpkddbfaaW.PrintLast
set_option linter.unusedSimpArgs false
set_option linter.unusedVariables false
theorem sz_big {n : Nat} (h : n ≤ 9223372036854775807) (hb : 1048576 < n) : wrap64 (1048576 - (n : Int)) < 0 := by rw [wrap_id (by omega) (by omega)]; omega
theorem sz_small {n : Nat} (hb : n ≤ 1048576) : ¬ wrap64 (1048576 - (n : Int)) < 0 ∧ wrap64 (1048576 - (n : Int)) = 1048576 - (n : Int) := by
  have h := wrap_id (x := 1048576 - (n : Int)) (by omega) (by omega)
  rw [h]; exact ⟨by omega, rfl⟩
def laws_toNoteS_c (x : S56) : S63 := ⟨x.f0, x.f1, (⟨x.f2.f0, x.f2.f1, x.f2.f2, x.f2.f3, x.f2.f4⟩ : S61)⟩
theorem laws_toNoteS_loop (x0 : List S56) (hn : x0.length ≤ 9223372036854775807) (d : Nat) : ∀ (k i : Nat) (acc : List S63), acc.length = x0.length → acc.take i = (x0.take i).map laws_toNoteS_c → i + d = x0.length → d < k →
    laws_toNoteS.l0 k x0 acc i = some (x0.map laws_toNoteS_c) := by
  induction d with
  | zero =>
    intro k i acc hl ht hd hk
    obtain ⟨k, rfl⟩ : ∃ m, k = m + 1 := ⟨k - 1, by omega⟩
    simp only [laws_toNoteS.l0]
    rw [if_neg (by omega)]
    rw [List.take_of_length_le (by omega), List.take_of_length_le (by omega)] at ht
    rw [ht]
  | succ d ih =>
    intro k i acc hl ht hd hk
    obtain ⟨k, rfl⟩ : ∃ m, k = m + 1 := ⟨k - 1, by omega⟩
    have hi : i < x0.length := by omega
    simp only [laws_toNoteS.l0, laws_toNote.f, laws_toGame.f, Option.bind_some]
    rw [if_pos (by omega), if_pos (by omega), if_pos (by omega), wrap_succ hi hn, show rd_T56 x0 (i : Int) = x0[i] from getD_nat _ x0 i hi, Int.toNat_natCast]
    exact ih k (i + 1) _ (by simp [hl]) (set_copy laws_toNoteS_c x0 acc i hi hl ht) (by omega) (by omega)
theorem laws_toNoteS_eq (x0 : List S56) (hn : x0.length ≤ 5026338869833) (k : Nat) (hk : x0.length < k) : laws_toNoteS.f k x0 = some (x0.map laws_toNoteS_c) := by
  unfold laws_toNoteS.f
  rw [if_pos (by omega), if_pos (by omega)]
  exact laws_toNoteS_loop x0 (by omega) x0.length k 0 _ (by simp) (by simp) (by omega) hk
theorem laws_eqNoteS_loop (x : List S63) (hn : x.length ≤ 9223372036854775807) (d : Nat) : ∀ (k i : Nat), i + d = x.length → d < k → laws_eqNoteS.l0 k x x i = some true := by
  induction d with
  | zero =>
    intro k i hd hk
    obtain ⟨k, rfl⟩ : ∃ m, k = m + 1 := ⟨k - 1, by omega⟩
    simp only [laws_eqNoteS.l0]
    rw [if_neg (by omega)]
  | succ d ih =>
    intro k i hd hk
    obtain ⟨k, rfl⟩ : ∃ m, k = m + 1 := ⟨k - 1, by omega⟩
    simp only [laws_eqNoteS.l0, laws_eqNote.f, laws_eqGame.f]
    rw [if_pos (by omega), if_pos (by omega), if_pos (by omega), wrap_succ (show i < x.length by omega) hn]
    simp only [if_true, Option.bind_some]
    exact ih k (i + 1) (by omega) (by omega)
theorem laws_eqNoteS_eq (x : List S63) (hn : x.length ≤ 9223372036854775807) (k : Nat) (hk : x.length < k) : laws_eqNoteS.f k x x = some true := by
  unfold laws_eqNoteS.f
  rw [if_pos rfl]
  exact laws_eqNoteS_loop x hn x.length k 0 (by omega) hk
def laws_markNoteS_rec (m : Int) : S63 := ⟨m, m + 1, (⟨m + 2, m + 3, m + 4, m + 5, m + 6⟩ : S61)⟩
theorem laws_markNoteS_loop (n : Nat) (hn : n ≤ 100000000) (d : Nat) : ∀ (k i : Nat) (l : List S63) (m : Int), l.length = n → i + d = n → d < k → 0 ≤ m → m + 7 * d ≤ 4000000000 →
    ∃ L, laws_markNoteS.l0 k l m i = some (m + 7 * d, L) ∧ L.length = n ∧ (∀ j, j < i → L[j]? = l[j]?) ∧ ∀ j : Nat, j < d → L[i + j]? = some (laws_markNoteS_rec (m + 7 * j)) := by
  induction d with
  | zero =>
    intro k i l m hl hd hk _ _
    obtain ⟨k, rfl⟩ : ∃ m, k = m + 1 := ⟨k - 1, by omega⟩
    simp only [laws_markNoteS.l0]
    rw [if_neg (by omega)]
    exact ⟨l, by simp, hl, fun _ _ => rfl, fun j hj => absurd hj (Nat.not_lt_zero _)⟩
  | succ d ih =>
    intro k i l m hl hd hk h0 hm
    obtain ⟨k, rfl⟩ : ∃ m, k = m + 1 := ⟨k - 1, by omega⟩
    have w1 : wrap64 (m + 1) = m + 1 := wrap_id (by omega) (by omega)
    have w2 : wrap64 (m + 1 + 1) = m + 1 + 1 := wrap_id (by omega) (by omega)
    have w3 : wrap64 (m + 1 + 1 + 1) = m + 1 + 1 + 1 := wrap_id (by omega) (by omega)
    have w4 : wrap64 (m + 1 + 1 + 1 + 1) = m + 1 + 1 + 1 + 1 := wrap_id (by omega) (by omega)
    have w5 : wrap64 (m + 1 + 1 + 1 + 1 + 1) = m + 1 + 1 + 1 + 1 + 1 := wrap_id (by omega) (by omega)
    have w6 : wrap64 (m + 1 + 1 + 1 + 1 + 1 + 1) = m + 1 + 1 + 1 + 1 + 1 + 1 := wrap_id (by omega) (by omega)
    have w7 : wrap64 (m + 1 + 1 + 1 + 1 + 1 + 1 + 1) = m + 1 + 1 + 1 + 1 + 1 + 1 + 1 := wrap_id (by omega) (by omega)
    have hlt : (i : Int) < (l.length : Int) := by omega
    have hi0 : (0 : Int) ≤ (i : Int) := by omega
    have hr : ∀ r, rd_T63 (l.set i r) (i : Int) = r := fun r => by rw [show rd_T63 (l.set i r) (i : Int) = (l.set i r)[i]'(by rw [List.length_set]; omega) from getD_nat _ _ i (by rw [List.length_set]; omega)]; simp
    simp only [laws_markNoteS.l0, Option.bind_some, hlt, hi0, if_true, w1, w2, w3, w4, w5, w6, w7, wrap_succ (show i < n by omega) (by omega), Int.toNat_natCast, hr, List.set_set]
    obtain ⟨L, hL, h1, h2, h3⟩ := ih k (i + 1) (l.set i (laws_markNoteS_rec m)) (m + 1 + 1 + 1 + 1 + 1 + 1 + 1) (by simp [hl]) (by omega) (by omega) (by omega) (by omega)
    refine ⟨L, by rw [show m + 7 * ((d + 1 : Nat) : Int) = m + 1 + 1 + 1 + 1 + 1 + 1 + 1 + 7 * d by omega, ← hL]; simp only [laws_markNoteS_rec, show m + 2 = m + 1 + 1 by omega, show m + 3 = m + 1 + 1 + 1 by omega, show m + 4 = m + 1 + 1 + 1 + 1 by omega, show m + 5 = m + 1 + 1 + 1 + 1 + 1 by omega, show m + 6 = m + 1 + 1 + 1 + 1 + 1 + 1 by omega], h1, fun j hj => ?_, fun j hj => ?_⟩
    · rw [h2 j (by omega), List.getElem?_set_ne (by omega)]
    · cases j with
      | zero =>
        rw [Nat.add_zero, h2 i (by omega), List.getElem?_set_self (by omega)]
        simp
      | succ j =>
        rw [show i + (j + 1) = i + 1 + j by omega, h3 j (by omega), show m + 7 * ((j + 1 : Nat) : Int) = m + 1 + 1 + 1 + 1 + 1 + 1 + 1 + 7 * j by omega]
theorem laws_markNoteS_eq (l : List S63) (hn : l.length ≤ 100000000) (k : Nat) (hk : l.length < k) : ∃ L, laws_markNoteS.f k l 1 = some (1 + 7 * (l.length : Int), L) ∧ L.length = l.length ∧ ∀ j : Nat, j < l.length → L[j]? = some (laws_markNoteS_rec (1 + 7 * j)) := by
  obtain ⟨L, h1, h2, _, h3⟩ := laws_markNoteS_loop l.length hn l.length k 0 l 1 rfl (by omega) hk (by omega) (by omega)
  exact ⟨L, h1, h2, fun j hj => by have := h3 j hj; rwa [Nat.zero_add] at this⟩
theorem laws_heldNoteS_loop (L : List S63) (n : Nat) (hL : L.length = n) (hn : n ≤ 100000000) (d : Nat) : ∀ (k i : Nat) (m : Int), i + d = n → d < k → 0 ≤ m → m + 7 * d ≤ 4000000000 → (∀ j : Nat, j < d → L[i + j]? = some (laws_markNoteS_rec (m + 7 * j))) →
    laws_heldNoteS.l0 k L m i = some (m + 7 * d) := by
  induction d with
  | zero =>
    intro k i m hd hk _ _ _
    obtain ⟨k, rfl⟩ : ∃ m, k = m + 1 := ⟨k - 1, by omega⟩
    simp only [laws_heldNoteS.l0]
    rw [if_neg (by omega)]
    simp
  | succ d ih =>
    intro k i m hd hk h0 hm hdr
    obtain ⟨k, rfl⟩ : ∃ m, k = m + 1 := ⟨k - 1, by omega⟩
    have w1 : wrap64 (m + 1) = m + 1 := wrap_id (by omega) (by omega)
    have w2 : wrap64 (m + 1 + 1) = m + 1 + 1 := wrap_id (by omega) (by omega)
    have w3 : wrap64 (m + 1 + 1 + 1) = m + 1 + 1 + 1 := wrap_id (by omega) (by omega)
    have w4 : wrap64 (m + 1 + 1 + 1 + 1) = m + 1 + 1 + 1 + 1 := wrap_id (by omega) (by omega)
    have w5 : wrap64 (m + 1 + 1 + 1 + 1 + 1) = m + 1 + 1 + 1 + 1 + 1 := wrap_id (by omega) (by omega)
    have w6 : wrap64 (m + 1 + 1 + 1 + 1 + 1 + 1) = m + 1 + 1 + 1 + 1 + 1 + 1 := wrap_id (by omega) (by omega)
    have w7 : wrap64 (m + 1 + 1 + 1 + 1 + 1 + 1 + 1) = m + 1 + 1 + 1 + 1 + 1 + 1 + 1 := wrap_id (by omega) (by omega)
    have hi : i < L.length := by omega
    have hlt : (i : Int) < (L.length : Int) := by omega
    have hi0 : (0 : Int) ≤ (i : Int) := by omega
    have hr : rd_T63 L (i : Int) = laws_markNoteS_rec m := by
      rw [show rd_T63 L (i : Int) = L[i] from getD_nat _ L i hi]
      have := hdr 0 (by omega)
      rw [Nat.add_zero, List.getElem?_eq_getElem hi] at this
      simpa using this
    simp only [laws_heldNoteS.l0, hlt, hi0, if_true, hr, laws_markNoteS_rec, w1, w2, w3, w4, w5, w6, w7, wrap_succ (show i < n by omega) (by omega), show m + 2 = m + 1 + 1 by omega, show m + 3 = m + 1 + 1 + 1 by omega, show m + 4 = m + 1 + 1 + 1 + 1 by omega, show m + 5 = m + 1 + 1 + 1 + 1 + 1 by omega, show m + 6 = m + 1 + 1 + 1 + 1 + 1 + 1 by omega]
    rw [ih k (i + 1) (m + 1 + 1 + 1 + 1 + 1 + 1 + 1) (by omega) (by omega) (by omega) (by omega) (fun j hj => by
      have := hdr (j + 1) (by omega)
      rw [show i + (j + 1) = i + 1 + j by omega, show m + 7 * ((j + 1 : Nat) : Int) = m + 1 + 1 + 1 + 1 + 1 + 1 + 1 + 7 * j by omega] at this
      exact this)]
    congr 1
    omega
theorem laws_heldNoteS_eq (L : List S63) (n : Nat) (hL : L.length = n) (hn : n ≤ 100000000) (h : ∀ j : Nat, j < n → L[j]? = some (laws_markNoteS_rec (1 + 7 * j))) (k : Nat) (hk : n < k) : laws_heldNoteS.f k L 1 = some (1 + 7 * (n : Int)) := by
  unfold laws_heldNoteS.f
  exact laws_heldNoteS_loop L n hL hn n k 0 1 (by omega) hk (by omega) (by omega) (fun j hj => by rw [Nat.zero_add]; exact h j hj)
theorem upto_loop (s : Int) (l : List S63) (hn : l.length ≤ 100000000) (d : Nat) : ∀ (k i : Nat), i + d = l.length → d < k →
    spec_UpTo.l0 k s ((l.take i).filter fun x => !decide (x.f0 > s)) l l.length i = some (l.filter fun x => !decide (x.f0 > s)) := by
  induction d with
  | zero =>
    intro k i hd hk
    obtain ⟨k, rfl⟩ : ∃ m, k = m + 1 := ⟨k - 1, by omega⟩
    simp only [spec_UpTo.l0]
    rw [if_neg (by omega), List.take_of_length_le (by omega)]
  | succ d ih =>
    intro k i hd hk
    obtain ⟨k, rfl⟩ : ∃ m, k = m + 1 := ⟨k - 1, by omega⟩
    have hi : i < l.length := by omega
    have hlt : (i : Int) < (l.length : Int) := by omega
    have h0 : (0 : Int) ≤ (i : Int) := by omega
    have hy : rd_T63 l (i : Int) = l[i] := getD_nat _ l i hi
    have hlen : ((l.take i).filter fun x => !decide (x.f0 > s)).length < 2513169434916 := by
      have := List.length_filter_le (fun x : S63 => !decide (x.f0 > s)) (l.take i)
      rw [List.length_take] at this
      omega
    simp only [spec_UpTo.l0, hlt, h0, if_true, wrap_succ hi (by omega), hlen]
    have e := ih k (i + 1) (by omega) (by omega)
    rw [List.take_succ_eq_append_getElem hi, List.filter_append] at e
    rw [hy]
    by_cases c : l[i].f0 ≤ s
    · have c' : ¬ l[i].f0 > s := by omega
      rw [if_pos c]
      rw [show ([l[i]].filter fun x => !decide (x.f0 > s)) = [l[i]] by simp [c']] at e
      exact e
    · have c' : l[i].f0 > s := by omega
      rw [if_neg c]
      rw [show ([l[i]].filter fun x => !decide (x.f0 > s)) = [] by simp [c'], List.append_nil] at e
      exact e
theorem FnExactUpTo : FnExactUpTo_pure := by
  intro l s hl _ _
  unfold maxLen at hl
  refine ⟨l.length + 2, ?_⟩
  unfold laws_FnExactUpTo.f laws_szNoteS.f
  by_cases hb : 1048576 < l.length
  · rw [if_pos (sz_big (by omega) hb)]; rfl
  · obtain ⟨h1, h2⟩ := sz_small (show l.length ≤ 1048576 by omega)
    have e := laws_toNoteS_eq l (by omega) (l.length + 2) (by omega)
    have e' := laws_toNoteS_eq l (by omega) (l.length + 1) (by omega)
    generalize hm : l.map laws_toNoteS_c = m at e e'
    have hml : m.length = l.length := by rw [← hm]; simp
    have e1 : spec_UpTo.f (l.length + 2) m s = some (m.filter fun x => !decide (x.f0 > s)) := by
      have := upto_loop s m (by omega) m.length (l.length + 2) 0 (by omega) (by omega)
      rw [List.take_zero, List.filter_nil] at this
      exact this
    have e2 : impl_UpTo.f m s = some (m.filter fun x => !decide (x.f0 > s)) := by unfold impl_UpTo.f; rw [if_pos (by omega)]
    have hw := List.length_filter_le (fun x : S63 => !decide (x.f0 > s)) m
    generalize (m.filter fun x : S63 => !decide (x.f0 > s)) = q at e1 e2 hw
    have eq := laws_eqNoteS_eq m (by omega) (l.length + 2) (by omega)
    have eqi := laws_eqNoteS_eq q (by omega) (l.length + 2) (by omega)
    have eqi' := laws_eqNoteS_eq q (by omega) (l.length + 1) (by omega)
    obtain ⟨L, eM, _, _⟩ := laws_markNoteS_eq m (by omega) (l.length + 2) (by omega)
    obtain ⟨L2, mk, hL2, hm2⟩ := laws_markNoteS_eq q (by omega) (l.length + 1) (by omega)
    have hd := laws_heldNoteS_eq L2 q.length hL2 (by omega) hm2 (l.length + 1) (by omega)
    have n1 : ¬ (1 + 7 * (m.length : Int) < 0) := by omega
    have n2 : ¬ (1 + 7 * (q.length : Int) < 0) := by omega
    rw [if_neg h1]
    simp only [Option.bind_some, h1, if_false, e, e', e1, e2, eq, eqi, eqi', eM, if_true, laws_FnExactUpTo.j0, mk, hd, n1, n2, Bool.not_true, Bool.false_eq_true]

end Go.Proofs.Ytapmiocpkddbfaa.Pure
