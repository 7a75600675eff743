/- Whatever the number of teams, the games and the notes: ApplyNotes of the program and of the reference answer alike, in memory of its own at each call, and games and notes stay as they were; no condition beyond the form's own reach. -/
import Derived.Test.YtikfdjgigeggjaaSayFnExactApplyNotes
import Derived.Test.YtikfdjgigeggjaaVFnExactApplyNotesKit
namespace Go.Proofs.Ytikfdjgigeggjaa.Pure
open Go.RowKit Go.Proofs.Ytikfdjgigeggjaa.MFnExactApplyNotes Go.Proofs.Ytikfdjgigeggjaa.PureKit Go.Proofs.YtikfdjgigeggjaaW.PrintWords Go.Proofs.YtikfdjgigeggjaaW.PrintLast
set_option linter.unusedSimpArgs false
set_option linter.unusedVariables false
theorem in_within (n lo hi : Int) : spec_l01In.f n lo hi = some (decide (lo ≤ n ∧ n ≤ hi)) ∧ impl_within.f n lo hi = some (decide (lo ≤ n ∧ n ≤ hi)) := by
  unfold spec_l01In.f impl_within.f
  by_cases h : lo ≤ n <;> simp [h]
theorem sz_big {n : Nat} (h : n ≤ 9223372036854775807) (hb : 1048576 < n) : wrap64 (1048576 - (n : Int)) < 0 := by rw [wrap_id (by omega) (by omega)]; omega
theorem sz_small {n : Nat} (hb : n ≤ 1048576) : ¬ wrap64 (1048576 - (n : Int)) < 0 ∧ wrap64 (1048576 - (n : Int)) = 1048576 - (n : Int) := by
  have h := wrap_id (x := 1048576 - (n : Int)) (by omega) (by omega)
  rw [h]; exact ⟨by omega, rfl⟩
def laws_toGameS_c (x : S99) : S71 := ⟨x.f0, x.f1, x.f2, x.f3, x.f4⟩
theorem laws_toGameS_loop (x0 : List S99) (hn : x0.length ≤ 9223372036854775807) (d : Nat) : ∀ (k i : Nat) (acc : List S71), acc.length = x0.length → acc.take i = (x0.take i).map laws_toGameS_c → i + d = x0.length → d < k →
    laws_toGameS.l0 k x0 acc i = some (x0.map laws_toGameS_c) := by
  induction d with
  | zero =>
    intro k i acc hl ht hd hk
    obtain ⟨k, rfl⟩ : ∃ m, k = m + 1 := ⟨k - 1, by omega⟩
    simp only [laws_toGameS.l0]
    rw [if_neg (by omega)]
    rw [List.take_of_length_le (by omega), List.take_of_length_le (by omega)] at ht
    rw [ht]
  | succ d ih =>
    intro k i acc hl ht hd hk
    obtain ⟨k, rfl⟩ : ∃ m, k = m + 1 := ⟨k - 1, by omega⟩
    have hi : i < x0.length := by omega
    simp only [laws_toGameS.l0, laws_toGame.f, Option.bind_some]
    rw [if_pos (by omega), if_pos (by omega), if_pos (by omega), wrap_succ hi hn, show rd_T99 x0 (i : Int) = x0[i] from getD_nat _ x0 i hi, Int.toNat_natCast]
    exact ih k (i + 1) _ (by simp [hl]) (set_copy laws_toGameS_c x0 acc i hi hl ht) (by omega) (by omega)
theorem laws_toGameS_eq (x0 : List S99) (hn : x0.length ≤ 7036874417766) (k : Nat) (hk : x0.length < k) : laws_toGameS.f k x0 = some (x0.map laws_toGameS_c) := by
  unfold laws_toGameS.f
  rw [if_pos (by omega), if_pos (by omega)]
  exact laws_toGameS_loop x0 (by omega) x0.length k 0 _ (by simp) (by simp) (by omega) hk
theorem laws_eqGameS_loop (x : List S71) (hn : x.length ≤ 9223372036854775807) (d : Nat) : ∀ (k i : Nat), i + d = x.length → d < k → laws_eqGameS.l0 k x x i = some true := by
  induction d with
  | zero =>
    intro k i hd hk
    obtain ⟨k, rfl⟩ : ∃ m, k = m + 1 := ⟨k - 1, by omega⟩
    simp only [laws_eqGameS.l0]
    rw [if_neg (by omega)]
  | succ d ih =>
    intro k i hd hk
    obtain ⟨k, rfl⟩ : ∃ m, k = m + 1 := ⟨k - 1, by omega⟩
    simp only [laws_eqGameS.l0, laws_eqGame.f]
    rw [if_pos (by omega), if_pos (by omega), if_pos (by omega), wrap_succ (show i < x.length by omega) hn]
    simp only [if_true, Option.bind_some]
    exact ih k (i + 1) (by omega) (by omega)
theorem laws_eqGameS_eq (x : List S71) (hn : x.length ≤ 9223372036854775807) (k : Nat) (hk : x.length < k) : laws_eqGameS.f k x x = some true := by
  unfold laws_eqGameS.f
  rw [if_pos rfl]
  exact laws_eqGameS_loop x hn x.length k 0 (by omega) hk
def laws_toNoteS_c (x : S101) : S97 := ⟨x.f0, x.f1, (⟨x.f2.f0, x.f2.f1, x.f2.f2, x.f2.f3, x.f2.f4⟩ : S71)⟩
theorem laws_toNoteS_loop (x0 : List S101) (hn : x0.length ≤ 9223372036854775807) (d : Nat) : ∀ (k i : Nat) (acc : List S97), acc.length = x0.length → acc.take i = (x0.take i).map laws_toNoteS_c → i + d = x0.length → d < k →
    laws_toNoteS.l0 k x0 acc i = some (x0.map laws_toNoteS_c) := by
  induction d with
  | zero =>
    intro k i acc hl ht hd hk
    obtain ⟨k, rfl⟩ : ∃ m, k = m + 1 := ⟨k - 1, by omega⟩
    simp only [laws_toNoteS.l0]
    rw [if_neg (by omega)]
    rw [List.take_of_length_le (by omega), List.take_of_length_le (by omega)] at ht
    rw [ht]
  | succ d ih =>
    intro k i acc hl ht hd hk
    obtain ⟨k, rfl⟩ : ∃ m, k = m + 1 := ⟨k - 1, by omega⟩
    have hi : i < x0.length := by omega
    simp only [laws_toNoteS.l0, laws_toNote.f, laws_toGame.f, Option.bind_some]
    rw [if_pos (by omega), if_pos (by omega), if_pos (by omega), wrap_succ hi hn, show rd_T101 x0 (i : Int) = x0[i] from getD_nat _ x0 i hi, Int.toNat_natCast]
    exact ih k (i + 1) _ (by simp [hl]) (set_copy laws_toNoteS_c x0 acc i hi hl ht) (by omega) (by omega)
theorem laws_toNoteS_eq (x0 : List S101) (hn : x0.length ≤ 5026338869833) (k : Nat) (hk : x0.length < k) : laws_toNoteS.f k x0 = some (x0.map laws_toNoteS_c) := by
  unfold laws_toNoteS.f
  rw [if_pos (by omega), if_pos (by omega)]
  exact laws_toNoteS_loop x0 (by omega) x0.length k 0 _ (by simp) (by simp) (by omega) hk
theorem laws_eqNoteS_loop (x : List S97) (hn : x.length ≤ 9223372036854775807) (d : Nat) : ∀ (k i : Nat), i + d = x.length → d < k → laws_eqNoteS.l0 k x x i = some true := by
  induction d with
  | zero =>
    intro k i hd hk
    obtain ⟨k, rfl⟩ : ∃ m, k = m + 1 := ⟨k - 1, by omega⟩
    simp only [laws_eqNoteS.l0]
    rw [if_neg (by omega)]
  | succ d ih =>
    intro k i hd hk
    obtain ⟨k, rfl⟩ : ∃ m, k = m + 1 := ⟨k - 1, by omega⟩
    simp only [laws_eqNoteS.l0, laws_eqNote.f, laws_eqGame.f]
    rw [if_pos (by omega), if_pos (by omega), if_pos (by omega), wrap_succ (show i < x.length by omega) hn]
    simp only [if_true, Option.bind_some]
    exact ih k (i + 1) (by omega) (by omega)
theorem laws_eqNoteS_eq (x : List S97) (hn : x.length ≤ 9223372036854775807) (k : Nat) (hk : x.length < k) : laws_eqNoteS.f k x x = some true := by
  unfold laws_eqNoteS.f
  rw [if_pos rfl]
  exact laws_eqNoteS_loop x hn x.length k 0 (by omega) hk
def laws_markGameS_rec (m : Int) : S71 := ⟨m, m + 1, m + 2, m + 3, m + 4⟩
theorem laws_markGameS_loop (n : Nat) (hn : n ≤ 100000000) (d : Nat) : ∀ (k i : Nat) (l : List S71) (m : Int), l.length = n → i + d = n → d < k → 0 ≤ m → m + 5 * d ≤ 4000000000 →
    ∃ L, laws_markGameS.l0 k l m i = some (m + 5 * d, L) ∧ L.length = n ∧ (∀ j, j < i → L[j]? = l[j]?) ∧ ∀ j : Nat, j < d → L[i + j]? = some (laws_markGameS_rec (m + 5 * j)) := by
  induction d with
  | zero =>
    intro k i l m hl hd hk _ _
    obtain ⟨k, rfl⟩ : ∃ m, k = m + 1 := ⟨k - 1, by omega⟩
    simp only [laws_markGameS.l0]
    rw [if_neg (by omega)]
    exact ⟨l, by simp, hl, fun _ _ => rfl, fun j hj => absurd hj (Nat.not_lt_zero _)⟩
  | succ d ih =>
    intro k i l m hl hd hk h0 hm
    obtain ⟨k, rfl⟩ : ∃ m, k = m + 1 := ⟨k - 1, by omega⟩
    have w1 : wrap64 (m + 1) = m + 1 := wrap_id (by omega) (by omega)
    have w2 : wrap64 (m + 1 + 1) = m + 1 + 1 := wrap_id (by omega) (by omega)
    have w3 : wrap64 (m + 1 + 1 + 1) = m + 1 + 1 + 1 := wrap_id (by omega) (by omega)
    have w4 : wrap64 (m + 1 + 1 + 1 + 1) = m + 1 + 1 + 1 + 1 := wrap_id (by omega) (by omega)
    have w5 : wrap64 (m + 1 + 1 + 1 + 1 + 1) = m + 1 + 1 + 1 + 1 + 1 := wrap_id (by omega) (by omega)
    have hlt : (i : Int) < (l.length : Int) := by omega
    have hi0 : (0 : Int) ≤ (i : Int) := by omega
    have hr : ∀ r, rd_T71 (l.set i r) (i : Int) = r := fun r => by rw [show rd_T71 (l.set i r) (i : Int) = (l.set i r)[i]'(by rw [List.length_set]; omega) from getD_nat _ _ i (by rw [List.length_set]; omega)]; simp
    simp only [laws_markGameS.l0, Option.bind_some, hlt, hi0, if_true, w1, w2, w3, w4, w5, wrap_succ (show i < n by omega) (by omega), Int.toNat_natCast, hr, List.set_set]
    obtain ⟨L, hL, h1, h2, h3⟩ := ih k (i + 1) (l.set i (laws_markGameS_rec m)) (m + 1 + 1 + 1 + 1 + 1) (by simp [hl]) (by omega) (by omega) (by omega) (by omega)
    refine ⟨L, by rw [show m + 5 * ((d + 1 : Nat) : Int) = m + 1 + 1 + 1 + 1 + 1 + 5 * d by omega, ← hL]; simp only [laws_markGameS_rec, show m + 2 = m + 1 + 1 by omega, show m + 3 = m + 1 + 1 + 1 by omega, show m + 4 = m + 1 + 1 + 1 + 1 by omega], h1, fun j hj => ?_, fun j hj => ?_⟩
    · rw [h2 j (by omega), List.getElem?_set_ne (by omega)]
    · cases j with
      | zero =>
        rw [Nat.add_zero, h2 i (by omega), List.getElem?_set_self (by omega)]
        simp
      | succ j =>
        rw [show i + (j + 1) = i + 1 + j by omega, h3 j (by omega), show m + 5 * ((j + 1 : Nat) : Int) = m + 1 + 1 + 1 + 1 + 1 + 5 * j by omega]
theorem laws_markGameS_eq (l : List S71) (hn : l.length ≤ 100000000) (k : Nat) (hk : l.length < k) : ∃ L, laws_markGameS.f k l 1 = some (1 + 5 * (l.length : Int), L) ∧ L.length = l.length ∧ ∀ j : Nat, j < l.length → L[j]? = some (laws_markGameS_rec (1 + 5 * j)) := by
  obtain ⟨L, h1, h2, _, h3⟩ := laws_markGameS_loop l.length hn l.length k 0 l 1 rfl (by omega) hk (by omega) (by omega)
  exact ⟨L, h1, h2, fun j hj => by have := h3 j hj; rwa [Nat.zero_add] at this⟩
theorem laws_heldGameS_loop (L : List S71) (n : Nat) (hL : L.length = n) (hn : n ≤ 100000000) (d : Nat) : ∀ (k i : Nat) (m : Int), i + d = n → d < k → 0 ≤ m → m + 5 * d ≤ 4000000000 → (∀ j : Nat, j < d → L[i + j]? = some (laws_markGameS_rec (m + 5 * j))) →
    laws_heldGameS.l0 k L m i = some (m + 5 * d) := by
  induction d with
  | zero =>
    intro k i m hd hk _ _ _
    obtain ⟨k, rfl⟩ : ∃ m, k = m + 1 := ⟨k - 1, by omega⟩
    simp only [laws_heldGameS.l0]
    rw [if_neg (by omega)]
    simp
  | succ d ih =>
    intro k i m hd hk h0 hm hdr
    obtain ⟨k, rfl⟩ : ∃ m, k = m + 1 := ⟨k - 1, by omega⟩
    have w1 : wrap64 (m + 1) = m + 1 := wrap_id (by omega) (by omega)
    have w2 : wrap64 (m + 1 + 1) = m + 1 + 1 := wrap_id (by omega) (by omega)
    have w3 : wrap64 (m + 1 + 1 + 1) = m + 1 + 1 + 1 := wrap_id (by omega) (by omega)
    have w4 : wrap64 (m + 1 + 1 + 1 + 1) = m + 1 + 1 + 1 + 1 := wrap_id (by omega) (by omega)
    have w5 : wrap64 (m + 1 + 1 + 1 + 1 + 1) = m + 1 + 1 + 1 + 1 + 1 := wrap_id (by omega) (by omega)
    have hi : i < L.length := by omega
    have hlt : (i : Int) < (L.length : Int) := by omega
    have hi0 : (0 : Int) ≤ (i : Int) := by omega
    have hr : rd_T71 L (i : Int) = laws_markGameS_rec m := by
      rw [show rd_T71 L (i : Int) = L[i] from getD_nat _ L i hi]
      have := hdr 0 (by omega)
      rw [Nat.add_zero, List.getElem?_eq_getElem hi] at this
      simpa using this
    simp only [laws_heldGameS.l0, hlt, hi0, if_true, hr, laws_markGameS_rec, w1, w2, w3, w4, w5, wrap_succ (show i < n by omega) (by omega), show m + 2 = m + 1 + 1 by omega, show m + 3 = m + 1 + 1 + 1 by omega, show m + 4 = m + 1 + 1 + 1 + 1 by omega]
    rw [ih k (i + 1) (m + 1 + 1 + 1 + 1 + 1) (by omega) (by omega) (by omega) (by omega) (fun j hj => by
      have := hdr (j + 1) (by omega)
      rw [show i + (j + 1) = i + 1 + j by omega, show m + 5 * ((j + 1 : Nat) : Int) = m + 1 + 1 + 1 + 1 + 1 + 5 * j by omega] at this
      exact this)]
    congr 1
    omega
theorem laws_heldGameS_eq (L : List S71) (n : Nat) (hL : L.length = n) (hn : n ≤ 100000000) (h : ∀ j : Nat, j < n → L[j]? = some (laws_markGameS_rec (1 + 5 * j))) (k : Nat) (hk : n < k) : laws_heldGameS.f k L 1 = some (1 + 5 * (n : Int)) := by
  unfold laws_heldGameS.f
  exact laws_heldGameS_loop L n hL hn n k 0 1 (by omega) hk (by omega) (by omega) (fun j hj => by rw [Nat.zero_add]; exact h j hj)
def laws_markNoteS_rec (m : Int) : S97 := ⟨m, m + 1, (⟨m + 2, m + 3, m + 4, m + 5, m + 6⟩ : S71)⟩
theorem laws_markNoteS_loop (n : Nat) (hn : n ≤ 100000000) (d : Nat) : ∀ (k i : Nat) (l : List S97) (m : Int), l.length = n → i + d = n → d < k → 0 ≤ m → m + 7 * d ≤ 4000000000 →
    ∃ L, laws_markNoteS.l0 k l m i = some (m + 7 * d, L) ∧ L.length = n ∧ (∀ j, j < i → L[j]? = l[j]?) ∧ ∀ j : Nat, j < d → L[i + j]? = some (laws_markNoteS_rec (m + 7 * j)) := by
  induction d with
  | zero =>
    intro k i l m hl hd hk _ _
    obtain ⟨k, rfl⟩ : ∃ m, k = m + 1 := ⟨k - 1, by omega⟩
    simp only [laws_markNoteS.l0]
    rw [if_neg (by omega)]
    exact ⟨l, by simp, hl, fun _ _ => rfl, fun j hj => absurd hj (Nat.not_lt_zero _)⟩
  | succ d ih =>
    intro k i l m hl hd hk h0 hm
    obtain ⟨k, rfl⟩ : ∃ m, k = m + 1 := ⟨k - 1, by omega⟩
    have w1 : wrap64 (m + 1) = m + 1 := wrap_id (by omega) (by omega)
    have w2 : wrap64 (m + 1 + 1) = m + 1 + 1 := wrap_id (by omega) (by omega)
    have w3 : wrap64 (m + 1 + 1 + 1) = m + 1 + 1 + 1 := wrap_id (by omega) (by omega)
    have w4 : wrap64 (m + 1 + 1 + 1 + 1) = m + 1 + 1 + 1 + 1 := wrap_id (by omega) (by omega)
    have w5 : wrap64 (m + 1 + 1 + 1 + 1 + 1) = m + 1 + 1 + 1 + 1 + 1 := wrap_id (by omega) (by omega)
    have w6 : wrap64 (m + 1 + 1 + 1 + 1 + 1 + 1) = m + 1 + 1 + 1 + 1 + 1 + 1 := wrap_id (by omega) (by omega)
    have w7 : wrap64 (m + 1 + 1 + 1 + 1 + 1 + 1 + 1) = m + 1 + 1 + 1 + 1 + 1 + 1 + 1 := wrap_id (by omega) (by omega)
    have hlt : (i : Int) < (l.length : Int) := by omega
    have hi0 : (0 : Int) ≤ (i : Int) := by omega
    have hr : ∀ r, rd_T97 (l.set i r) (i : Int) = r := fun r => by rw [show rd_T97 (l.set i r) (i : Int) = (l.set i r)[i]'(by rw [List.length_set]; omega) from getD_nat _ _ i (by rw [List.length_set]; omega)]; simp
    simp only [laws_markNoteS.l0, Option.bind_some, hlt, hi0, if_true, w1, w2, w3, w4, w5, w6, w7, wrap_succ (show i < n by omega) (by omega), Int.toNat_natCast, hr, List.set_set]
    obtain ⟨L, hL, h1, h2, h3⟩ := ih k (i + 1) (l.set i (laws_markNoteS_rec m)) (m + 1 + 1 + 1 + 1 + 1 + 1 + 1) (by simp [hl]) (by omega) (by omega) (by omega) (by omega)
    refine ⟨L, by rw [show m + 7 * ((d + 1 : Nat) : Int) = m + 1 + 1 + 1 + 1 + 1 + 1 + 1 + 7 * d by omega, ← hL]; simp only [laws_markNoteS_rec, show m + 2 = m + 1 + 1 by omega, show m + 3 = m + 1 + 1 + 1 by omega, show m + 4 = m + 1 + 1 + 1 + 1 by omega, show m + 5 = m + 1 + 1 + 1 + 1 + 1 by omega, show m + 6 = m + 1 + 1 + 1 + 1 + 1 + 1 by omega], h1, fun j hj => ?_, fun j hj => ?_⟩
    · rw [h2 j (by omega), List.getElem?_set_ne (by omega)]
    · cases j with
      | zero =>
        rw [Nat.add_zero, h2 i (by omega), List.getElem?_set_self (by omega)]
        simp
      | succ j =>
        rw [show i + (j + 1) = i + 1 + j by omega, h3 j (by omega), show m + 7 * ((j + 1 : Nat) : Int) = m + 1 + 1 + 1 + 1 + 1 + 1 + 1 + 7 * j by omega]
theorem laws_markNoteS_eq (l : List S97) (hn : l.length ≤ 100000000) (k : Nat) (hk : l.length < k) : ∃ L, laws_markNoteS.f k l 1 = some (1 + 7 * (l.length : Int), L) ∧ L.length = l.length ∧ ∀ j : Nat, j < l.length → L[j]? = some (laws_markNoteS_rec (1 + 7 * j)) := by
  obtain ⟨L, h1, h2, _, h3⟩ := laws_markNoteS_loop l.length hn l.length k 0 l 1 rfl (by omega) hk (by omega) (by omega)
  exact ⟨L, h1, h2, fun j hj => by have := h3 j hj; rwa [Nat.zero_add] at this⟩
def gameOk (n a b c d e : Int) : Bool := decide (2 ≤ n ∧ n ≤ 8 ∧ 0 ≤ a ∧ a ≤ n - 1 ∧ 0 ≤ b ∧ b ≤ n - 1 ∧ a ≠ b ∧ 0 ≤ e ∧ e ≤ 4 ∧ ((e = 1 ∧ 0 ≤ c ∧ c ≤ 99 ∧ 0 ≤ d ∧ d ≤ 99) ∨ (e ≠ 1 ∧ c = 0 ∧ d = 0)))
theorem specGameOk_j (k : Nat) (x : Bool) (a b c d e : Int) : spec_GameOk.j0 (k + 1) x a b c d e = some (!x && decide ((e = 1 ∧ 0 ≤ c ∧ c ≤ 99 ∧ 0 ≤ d ∧ d ≤ 99) ∨ (e ≠ 1 ∧ c = 0 ∧ d = 0))) := by
  simp only [spec_GameOk.j0, (in_within _ _ _).1, Option.bind_some]
  cases x
  · by_cases he : e = 1
    · by_cases hc : 0 ≤ c ∧ c ≤ 99 <;> simp [he, hc]
      omega
    · by_cases hc : c = 0 <;> simp [he, hc]
      rw [Bool.eq_iff_iff]; simp
  · simp
theorem specGameOk_eq (n a b c d e : Int) (k : Nat) (hn : -9223372036854775808 ≤ n) (hk : 0 < k) : spec_GameOk.f k n a b c d e = some (gameOk n a b c d e) := by
  obtain ⟨k, rfl⟩ : ∃ m, k = m + 1 := ⟨k - 1, by omega⟩
  unfold spec_GameOk.f gameOk
  simp only [(in_within _ _ _).1, Option.bind_some, specGameOk_j]
  by_cases h1 : 2 ≤ n ∧ n ≤ 8
  · have hw : wrap64 (n - 1) = n - 1 := wrap_id (by omega) (by omega)
    rw [hw]
    by_cases h2 : 0 ≤ a ∧ a ≤ n - 1 <;> by_cases h3 : 0 ≤ b ∧ b ≤ n - 1 <;> by_cases h4 : a = b <;> by_cases h5 : 0 ≤ e ∧ e ≤ 4 <;> simp [h1, h2, h3, h4, h5]
    all_goals (try omega)
  · simp [h1]
    omega
theorem implGameOk_j (n m a b c d e : Int) (k : Nat) (hn : -9223372036854775808 ≤ n) (hk : 0 < k) : impl_GameOk.j0 k n m a b c d e = some (decide (2 ≤ n ∧ n ≤ 8 ∧ a ≠ b ∧ 0 ≤ a ∧ a ≤ n - 1 ∧ 0 ≤ b ∧ b ≤ n - 1 ∧ 0 ≤ e ∧ e ≤ 4 ∧ 0 ≤ c ∧ c ≤ m ∧ 0 ≤ d ∧ d ≤ m)) := by
  obtain ⟨k, rfl⟩ : ∃ m, k = m + 1 := ⟨k - 1, by omega⟩
  simp only [impl_GameOk.j0, (in_within _ _ _).2, Option.bind_some]
  by_cases h1 : 2 ≤ n ∧ n ≤ 8
  · have hw : wrap64 (n - 1) = n - 1 := wrap_id (by omega) (by omega)
    rw [hw]
    by_cases h4 : a = b
    · simp [h1, h4]
    · by_cases h2 : 0 ≤ a ∧ a ≤ n - 1
      · by_cases h3 : 0 ≤ b ∧ b ≤ n - 1
        · by_cases h5 : 0 ≤ e ∧ e ≤ 4
          · by_cases h6 : 0 ≤ c ∧ c ≤ m <;> simp [h1, h2, h3, h4, h5, h6]
            omega
          · simp [h1, h2, h3, h4, h5]; omega
        · simp [h1, h2, h3, h4]; omega
      · simp [h1, h2, h4]; omega
  · simp [h1]; omega
theorem implGameOk_eq (n a b c d e : Int) (k : Nat) (hn : -9223372036854775808 ≤ n) (hk : 0 < k) : impl_GameOk.f k n a b c d e = some (gameOk n a b c d e) := by
  unfold impl_GameOk.f gameOk
  by_cases he : e = 1
  · rw [if_pos he, implGameOk_j n 99 a b c d e k hn hk]
    congr 1
    rw [decide_eq_decide]
    omega
  · rw [if_neg he, implGameOk_j n 0 a b c d e k hn hk]
    congr 1
    rw [decide_eq_decide]
    omega
theorem specGameOf_loop (a b : Int) (l : List S71) (hn : l.length ≤ 9223372036854775807) (d : Nat) : ∀ (k i : Nat), i + d = l.length → d < k → (∀ j z, j < i → l[j]? = some z → ((z.f0 == a) && (z.f1 == b)) = false) →
    spec_GameOf.l0 k a b l l.length i = some (idxP (fun x => (x.f0 == a) && (x.f1 == b)) l) := by
  induction d with
  | zero =>
    intro k i hd hk hf
    obtain ⟨k, rfl⟩ : ∃ m, k = m + 1 := ⟨k - 1, by omega⟩
    simp only [spec_GameOf.l0]
    rw [if_neg (by omega), idxP_miss _ l (fun j z hj hz => hf j z (by omega) hz)]
  | succ d ih =>
    intro k i hd hk hf
    obtain ⟨k, rfl⟩ : ∃ m, k = m + 1 := ⟨k - 1, by omega⟩
    have hi : i < l.length := by omega
    have hlt : (i : Int) < (l.length : Int) := by omega
    have h0 : (0 : Int) ≤ (i : Int) := by omega
    have hy : l[i]? = some l[i] := List.getElem?_eq_getElem hi
    have hr : rd_T71 l (i : Int) = l[i] := getD_nat _ l i hi
    simp only [spec_GameOf.l0, hlt, h0, if_true, wrap_succ hi hn, hr]
    by_cases c : (l[i].f0 == a && l[i].f1 == b) = true
    · rw [idxP_hit _ l i _ hy c hf]
      simp only [Bool.and_eq_true, beq_iff_eq] at c
      simp [c]
    · have c' : (l[i].f0 == a && l[i].f1 == b) = false := by simpa using c
      have e := ih k (i + 1) (by omega) (by omega) (fun j z hj hz => by
        by_cases ej : j = i
        · subst ej; rw [hy] at hz; cases hz; exact c'
        · exact hf j z (by omega) hz)
      rw [e]
      repeat' split
      all_goals first | rfl | (exfalso; simp_all)
theorem specGameOf_eq (a b : Int) (l : List S71) (hn : l.length ≤ 9223372036854775807) (k : Nat) (hk : l.length < k) : spec_GameOf.f k l a b = some (idxP (fun x => (x.f0 == a) && (x.f1 == b)) l) := by
  unfold spec_GameOf.f
  exact specGameOf_loop a b l hn l.length k 0 (by omega) hk (fun j z hj => absurd hj (Nat.not_lt_zero _))
theorem idxP_neg {α : Type} (p : α → Bool) (l : List α) : idxP p l < 0 ↔ ∀ (j : Nat) (z : α), l[j]? = some z → p z = false := by
  unfold idxP
  cases h : l.findIdx? p with
  | none =>
    rw [List.findIdx?_eq_none_iff] at h
    exact ⟨fun _ j z hz => h z (List.mem_of_getElem? hz), fun _ => by simp⟩
  | some i =>
    rw [List.findIdx?_eq_some_iff_getElem] at h
    obtain ⟨hi, hp, _⟩ := h
    constructor
    · intro hneg; simp at hneg; omega
    · intro hall
      have := hall i _ (List.getElem?_eq_getElem hi)
      rw [hp] at this; cases this
theorem idxP_at {α : Type} (p : α → Bool) (l : List α) (i : Nat) (y : α) (hy : l[i]? = some y) (hp : p y = true) : (idxP p l = i) ↔ idxP p (l.take i) < 0 := by
  have hi : i < l.length := (List.getElem?_eq_some_iff.1 hy).1
  rw [idxP_neg]
  constructor
  · intro h j z hz
    by_cases hj : j < i
    · rw [List.getElem?_take_of_lt hj] at hz
      unfold idxP at h
      cases hf : l.findIdx? p with
      | none => rw [hf] at h; simp at h
      | some m =>
        rw [hf] at h
        have hm : m = i := by have h2 : (m : Int) = (i : Int) := h; omega
        subst hm
        rw [List.findIdx?_eq_some_iff_getElem] at hf
        obtain ⟨_, _, hb⟩ := hf
        have hjl : j < l.length := by omega
        rw [List.getElem?_eq_getElem hjl] at hz
        cases hz
        exact Bool.eq_false_iff.mpr (hb j hj)
    · rw [List.getElem?_take_eq_none (by omega)] at hz; cases hz
  · intro h
    exact idxP_hit p l i y hy hp (fun j z hj hz => h j z (by rw [List.getElem?_take_of_lt hj]; exact hz))
def pairP (a b : Int) (x : S71) : Bool := (x.f0 == a) && (x.f1 == b)
/-- The games from i on (d of them): each valid, none of them played before. -/
def seasonFrom (n : Int) (l : List S71) : Nat → Nat → Bool
  | _, 0 => true
  | i, d + 1 => gameOk n (rd_T71 l i).f0 (rd_T71 l i).f1 (rd_T71 l i).f2 (rd_T71 l i).f3 (rd_T71 l i).f4 && (decide (idxP (pairP (rd_T71 l i).f0 (rd_T71 l i).f1) (l.take i) < 0) && seasonFrom n l (i + 1) d)
def seasonOk (n : Int) (l : List S71) : Bool := decide (l.length ≤ 60) && seasonFrom n l 0 l.length
theorem specSeason_loop (n : Int) (hw : -9223372036854775808 ≤ n) (l : List S71) (hn : l.length ≤ 9223372036854775807) (d : Nat) : ∀ (k i : Nat), i + d = l.length → l.length + d < k →
    spec_SeasonOk.l0 k n l l l.length i = some (seasonFrom n l i d) := by
  induction d with
  | zero =>
    intro k i hd hk
    obtain ⟨k, rfl⟩ : ∃ m, k = m + 1 := ⟨k - 1, by omega⟩
    simp only [spec_SeasonOk.l0, seasonFrom]
    rw [if_neg (by omega)]
  | succ d ih =>
    intro k i hd hk
    obtain ⟨k, rfl⟩ : ∃ m, k = m + 1 := ⟨k - 1, by omega⟩
    have hi : i < l.length := by omega
    have hlt : (i : Int) < (l.length : Int) := by omega
    have h0 : (0 : Int) ≤ (i : Int) := by omega
    have hy : l[i]? = some (rd_T71 l i) := by rw [List.getElem?_eq_getElem hi]; congr 1; exact (getD_nat _ l i hi).symm
    simp only [spec_SeasonOk.l0, hlt, h0, if_true, wrap_succ hi hn, specGameOk_eq n _ _ _ _ _ k hw (by omega), specGameOf_eq _ _ l hn k (by omega), Option.bind_some, ih k (i + 1) (by omega) (by omega), seasonFrom]
    have ha := idxP_at (pairP (rd_T71 l i).f0 (rd_T71 l i).f1) l i _ hy (by simp [pairP])
    generalize gameOk n (rd_T71 l i).f0 (rd_T71 l i).f1 (rd_T71 l i).f2 (rd_T71 l i).f3 (rd_T71 l i).f4 = g
    change (if g = true then (if idxP (pairP _ _) l = (i : Int) then _ else _) else _) = _
    cases g with
    | false => rfl
    | true =>
      rw [if_pos rfl]
      by_cases c : idxP (pairP (rd_T71 l i).f0 (rd_T71 l i).f1) l = (i : Int)
      · rw [if_pos c, decide_eq_true (ha.1 c)]; rfl
      · rw [if_neg c, decide_eq_false (fun h => c (ha.2 h))]; rfl
theorem implSeason_loop (n : Int) (hw : -9223372036854775808 ≤ n) (l : List S71) (hn : l.length ≤ 9223372036854775807) (d : Nat) : ∀ (k i : Nat), i + d = l.length → d + 1 < k →
    impl_SeasonOk.l0 k n l l l.length i = some (seasonFrom n l i d && decide (l.length ≤ 60)) := by
  induction d with
  | zero =>
    intro k i hd hk
    obtain ⟨k, rfl⟩ : ∃ m, k = m + 1 := ⟨k - 1, by omega⟩
    simp only [impl_SeasonOk.l0, seasonFrom]
    rw [if_neg (by omega), Bool.true_and]
    congr 1
    rw [decide_eq_decide]; omega
  | succ d ih =>
    intro k i hd hk
    obtain ⟨k, rfl⟩ : ∃ m, k = m + 1 := ⟨k - 1, by omega⟩
    have hi : i < l.length := by omega
    have hlt : (i : Int) < (l.length : Int) := by omega
    have hle : (i : Int) ≤ (l.length : Int) := by omega
    have h0 : (0 : Int) ≤ (i : Int) := by omega
    simp only [impl_SeasonOk.l0, hlt, hle, h0, if_true, wrap_succ hi hn, implGameOk_eq n _ _ _ _ _ k hw (by omega), impl_GameOf.f, Option.bind_some, ih k (i + 1) (by omega) (by omega), seasonFrom, Int.toNat_natCast]
    generalize gameOk n (rd_T71 l i).f0 (rd_T71 l i).f1 (rd_T71 l i).f2 (rd_T71 l i).f3 (rd_T71 l i).f4 = g
    change (if g = true then (if idxP (pairP _ _) (l.take i) ≥ 0 then _ else _) else _) = _
    cases g with
    | false => rfl
    | true =>
      rw [if_pos rfl]
      by_cases c : idxP (pairP (rd_T71 l i).f0 (rd_T71 l i).f1) (l.take i) < 0
      · rw [if_neg (by omega), decide_eq_true c]; rfl
      · rw [if_pos (by omega), decide_eq_false c]; rfl
theorem specSeason_eq (n : Int) (hw : -9223372036854775808 ≤ n) (l : List S71) (hn : l.length ≤ 9223372036854775807) (k : Nat) (hk : 2 * l.length < k) : spec_SeasonOk.f k n l = some (seasonOk n l) := by
  unfold spec_SeasonOk.f seasonOk
  by_cases h : (l.length : Int) > 60
  · rw [if_pos h, decide_eq_false (by omega)]; rfl
  · rw [if_neg h, decide_eq_true (by omega)]
    exact specSeason_loop n hw l hn l.length k 0 (by omega) (by omega)
theorem implSeason_eq (n : Int) (hw : -9223372036854775808 ≤ n) (l : List S71) (hn : l.length ≤ 9223372036854775807) (k : Nat) (hk : l.length + 1 < k) : impl_SeasonOk.f k n l = some (seasonOk n l) := by
  unfold impl_SeasonOk.f seasonOk
  rw [Bool.and_comm]
  exact implSeason_loop n hw l hn l.length k 0 (by omega) (by omega)
def noteFits (n : Int) (l : List S71) (s g h a c d e : Int) : Bool :=
  decide (1 ≤ s ∧ s ≤ 100000 ∧ 0 ≤ g ∧ g ≤ (l.length : Int) - 1) && (gameOk n h a c d e && (!(e == 0) && decide (h = (rd_T71 l g).f0 ∧ a = (rd_T71 l g).f1)))
theorem specNote_eq (n : Int) (hw : -9223372036854775808 ≤ n) (l : List S71) (hn : l.length ≤ 9223372036854775807) (s g h a c d e : Int) (k : Nat) (hk : 0 < k) : spec_l05Note.f k n l s g h a c d e = some (noteFits n l s g h a c d e) := by
  have hwl : wrap64 ((l.length : Int) - 1) = (l.length : Int) - 1 := wrap_id (by omega) (by omega)
  unfold spec_l05Note.f noteFits
  simp only [(in_within _ _ _).1, Option.bind_some, hwl, specGameOk_eq n _ _ _ _ _ k hw hk, spec_IsOpen.f]
  by_cases h1 : 1 ≤ s ∧ s ≤ 100000
  · by_cases h2 : 0 ≤ g ∧ g ≤ (l.length : Int) - 1
    · have h3 : g < (l.length : Int) := by omega
      rw [if_pos (decide_eq_true h1), if_pos (decide_eq_true h2), decide_eq_true (show 1 ≤ s ∧ s ≤ 100000 ∧ 0 ≤ g ∧ g ≤ (l.length : Int) - 1 from ⟨h1.1, h1.2, h2.1, h2.2⟩)]
      generalize gameOk n h a c d e = q
      cases q with
      | false => rfl
      | true =>
        rw [if_pos rfl]
        cases (e == 0) with
        | true => rfl
        | false =>
          rw [if_neg (by simp), if_pos h2.1, if_pos h3]
          by_cases c1 : h = (rd_T71 l g).f0
          · rw [if_pos c1]
            congr 1
            rw [Bool.eq_iff_iff]
            simp [c1]
          · rw [if_neg c1]
            simp [c1]
    · rw [if_pos (decide_eq_true h1), if_neg (by simpa using h2), decide_eq_false (fun h => h2 ⟨h.2.2.1, h.2.2.2⟩)]
      rfl
  · rw [if_neg (by simpa using h1), decide_eq_false (fun h => h1 ⟨h.1, h.2.1⟩)]
    rfl
theorem implNote_eq (n : Int) (hw : -9223372036854775808 ≤ n) (l : List S71) (hn : l.length ≤ 9223372036854775807) (s g h a c d e : Int) (k : Nat) (hk : 1 < k) : impl_noteFits.f k n l s g h a c d e = some (noteFits n l s g h a c d e) := by
  have hwl : wrap64 ((l.length : Int) - 1) = (l.length : Int) - 1 := wrap_id (by omega) (by omega)
  obtain ⟨k, rfl⟩ : ∃ m, k = m + 1 := ⟨k - 1, by omega⟩
  unfold impl_noteFits.f noteFits
  simp only [(in_within _ _ _).2, Option.bind_some, hwl, impl_noteFits.j0, implGameOk_eq n _ _ _ _ _ k hw (by omega), impl_IsOpen.f]
  by_cases h1 : 1 ≤ s ∧ s ≤ 100000
  · by_cases h2 : 0 ≤ g ∧ g ≤ (l.length : Int) - 1
    · have h3 : g < (l.length : Int) := by omega
      rw [if_pos (decide_eq_true h1), decide_eq_true h2, decide_eq_true (show 1 ≤ s ∧ s ≤ 100000 ∧ 0 ≤ g ∧ g ≤ (l.length : Int) - 1 from ⟨h1.1, h1.2, h2.1, h2.2⟩), if_neg (by simp), if_pos h2.1, if_pos h3]
      generalize gameOk n h a c d e = q
      cases q with
      | false => rfl
      | true =>
        rw [if_pos rfl]
        by_cases c1 : h = (rd_T71 l g).f0
        · rw [if_pos c1]
          by_cases c2 : a = (rd_T71 l g).f1
          · rw [if_pos c2, decide_eq_true ⟨c1, c2⟩]
            simp
          · rw [if_neg c2, decide_eq_false (fun h => c2 h.2)]
            simp
        · rw [if_neg c1, decide_eq_false (fun h => c1 h.1)]
          simp
    · rw [if_pos (decide_eq_true h1), decide_eq_false h2, if_pos (by simp), decide_eq_false (fun h => h2 ⟨h.2.2.1, h.2.2.2⟩)]
      rfl
  · rw [if_neg (by simpa using h1), if_pos trivial, decide_eq_false (fun h => h1 ⟨h.1, h.2.1⟩)]
    rfl
theorem sameN_iff (y x : S97) : impl_NotesOk.same y x = true ↔ y = x := by
  obtain ⟨a0, a1, b0, b1, b2, b3, b4⟩ := y
  obtain ⟨c0, c1, d0, d1, d2, d3, d4⟩ := x
  simp [impl_NotesOk.same]
theorem diffN_iff (y x : S97) : (!((y.f0) == x.f0) || (!((y.f1) == x.f1) || ((!((y.f2.f0) == x.f2.f0) || (!((y.f2.f1) == x.f2.f1) || (!((y.f2.f2) == x.f2.f2) || (!((y.f2.f3) == x.f2.f3) || (!((y.f2.f4) == x.f2.f4))))))))) = true ↔ ¬ y = x := by
  obtain ⟨a0, a1, b0, b1, b2, b3, b4⟩ := y
  obtain ⟨c0, c1, d0, d1, d2, d3, d4⟩ := x
  simp
  constructor
  · intro h h0 h1 h2 h3 h4 h5 h6; simp_all
  · intro h
    by_cases h0 : a0 = c0 <;> by_cases h1 : a1 = c1 <;> by_cases h2 : b0 = d0 <;> by_cases h3 : b1 = d1 <;> by_cases h4 : b2 = d2 <;> by_cases h5 : b3 = d3 <;> by_cases h6 : b4 = d4 <;> simp_all
open Classical in
/-- The notes from i on (d of them): each fits, and no earlier one has its serial but the same note itself. -/
noncomputable def notesFrom (n : Int) (gs : List S71) (l : List S97) : Nat → Nat → Bool
  | _, 0 => true
  | i, d + 1 => noteFits n gs (rd_T97 l i).f0 (rd_T97 l i).f1 (rd_T97 l i).f2.f0 (rd_T97 l i).f2.f1 (rd_T97 l i).f2.f2 (rd_T97 l i).f2.f3 (rd_T97 l i).f2.f4 && (decide (∀ y ∈ l.take i, y.f0 = (rd_T97 l i).f0 → y = rd_T97 l i) && notesFrom n gs l (i + 1) d)
noncomputable def notesOk (n : Int) (gs : List S71) (l : List S97) : Bool := seasonOk n gs && (decide (l.length ≤ 80) && notesFrom n gs l 0 l.length)
open Classical in
theorem specNotes_in (n : Int) (gs : List S71) (l y : List S97) (x : S97) (hy : y.length ≤ 9223372036854775807) (i : Int) (K : Nat) (B : Bool) (H : ∀ k, K ≤ k → spec_NotesOk.l0 k n gs l l l.length (wrap64 (i + 1)) = some B) (d : Nat) : ∀ (k j : Nat), j + d = y.length → K + d < k →
    spec_NotesOk.l1 k n gs l l l.length i y y.length j x.f0 x.f1 x.f2.f0 x.f2.f1 x.f2.f2 x.f2.f3 x.f2.f4 = some (decide (∀ z ∈ y.drop j, z.f0 = x.f0 → z = x) && B) := by
  induction d with
  | zero =>
    intro k j hd hk
    obtain ⟨k, rfl⟩ : ∃ m, k = m + 1 := ⟨k - 1, by omega⟩
    simp only [spec_NotesOk.l1]
    rw [if_neg (by omega), H k (by omega), List.drop_of_length_le (by omega), decide_eq_true (by simp)]
    rfl
  | succ d ih =>
    intro k j hd hk
    obtain ⟨k, rfl⟩ : ∃ m, k = m + 1 := ⟨k - 1, by omega⟩
    have hj : j < y.length := by omega
    have e : y.drop j = rd_T97 y j :: y.drop (j + 1) := by
      rw [List.drop_eq_getElem_cons hj, show rd_T97 y (j : Int) = y[j] from getD_nat _ y j hj]
    simp only [spec_NotesOk.l1]
    rw [if_pos (by omega), if_pos (by omega), if_pos (by omega), wrap_succ hj hy, ih k (j + 1) (by omega) (by omega), e]
    generalize rd_T97 y (j : Int) = q
    by_cases h0 : q.f0 = x.f0
    · rw [if_pos h0]
      by_cases h1 : q = x
      · rw [if_neg (fun h => (diffN_iff q x).1 h h1)]
        congr 2
        rw [decide_eq_decide]
        simp only [List.mem_cons, forall_eq_or_imp]
        exact ⟨fun h => ⟨fun _ => h1, h⟩, fun h => h.2⟩
      · rw [if_pos ((diffN_iff q x).2 h1), decide_eq_false (fun h => h1 (h q (List.mem_cons_self) h0))]
        rfl
    · rw [if_neg h0]
      congr 2
      rw [decide_eq_decide]
      simp only [List.mem_cons, forall_eq_or_imp]
      exact ⟨fun h => ⟨fun c => absurd c h0, h⟩, fun h => h.2⟩
open Classical in
theorem specNotes_loop (n : Int) (hb : -9223372036854775808 ≤ n) (gs : List S71) (hg : gs.length ≤ 9223372036854775807) (l : List S97) (hn : l.length ≤ 80) (d : Nat) : ∀ (k i : Nat), i + d = l.length → d * 100 + 1 < k →
    spec_NotesOk.l0 k n gs l l l.length i = some (notesFrom n gs l i d) := by
  induction d with
  | zero =>
    intro k i hd hk
    obtain ⟨k, rfl⟩ : ∃ m, k = m + 1 := ⟨k - 1, by omega⟩
    simp only [spec_NotesOk.l0, notesFrom]
    rw [if_neg (by omega)]
  | succ d ih =>
    intro k i hd hk
    obtain ⟨k, rfl⟩ : ∃ m, k = m + 1 := ⟨k - 1, by omega⟩
    have hi : i < l.length := by omega
    have hw : wrap64 ((i : Int) + 1) = ((i + 1 : Nat) : Int) := wrap_succ hi (by omega)
    simp only [spec_NotesOk.l0, notesFrom]
    rw [if_pos (by omega), if_pos (by omega), if_pos (by omega), specNote_eq n hb gs hg _ _ _ _ _ _ _ k (by omega), Option.bind_some]
    generalize noteFits n gs _ _ _ _ _ _ _ = q
    cases q with
    | false => rfl
    | true =>
      rw [if_pos rfl, if_pos (by omega), Option.bind_some, Int.toNat_natCast]
      exact specNotes_in n gs l (l.take i) (rd_T97 l i) (by simp; omega) i (d * 100 + 2) _ (fun k hk => by rw [hw]; exact ih k (i + 1) (by omega) (by omega)) (l.take i).length k 0 (by simp) (by simp; omega)
theorem specNotes_eq (n : Int) (hb : -9223372036854775808 ≤ n) (gs : List S71) (hg : gs.length ≤ 9223372036854775807) (l : List S97) (hn : l.length ≤ 9223372036854775807) (k : Nat) (hk : 2 * gs.length + 9000 < k) :
    spec_NotesOk.f k n gs l = some (notesOk n gs l) := by
  unfold spec_NotesOk.f notesOk
  obtain ⟨k, rfl⟩ : ∃ m, k = m + 1 := ⟨k - 1, by omega⟩
  rw [specSeason_eq n hb gs hg (k + 1) (by omega), Option.bind_some]
  cases seasonOk n gs with
  | false => rfl
  | true =>
    rw [if_pos rfl]
    simp only [spec_NotesOk.j0]
    by_cases h : l.length ≤ 80
    · rw [if_neg (by simp; omega), decide_eq_true h]; exact specNotes_loop n hb gs hg l h l.length k 0 (by omega) (by omega)
    · rw [if_pos (by simp; omega), decide_eq_false h]; rfl
def agree (l : List S97) (i : Nat) : Prop := ∀ y ∈ l.take i, ∀ z ∈ l.take i, y.f0 = z.f0 → y = z
open Classical in
theorem implNotes_loop (n : Int) (hb : -9223372036854775808 ≤ n) (gs : List S71) (hg : gs.length ≤ 9223372036854775807) (l : List S97) (hwf : ∀ x ∈ l, (Lit.int .i64 x.f0).wf = true) (k : Nat) (hk : 1 < k) (d : Nat) : ∀ (i : Nat), i + d = l.length → agree l i →
    impl_NotesOk.l0 k n gs l d i = some (notesFrom n gs l i d) := by
  induction d with
  | zero => intro i hd ha; rfl
  | succ d ih =>
    intro i hd ha
    have hi : i < l.length := by omega
    have hx : rd_T97 l i = l[i] := getD_nat _ l i hi
    have hw : (Lit.int .i64 (rd_T97 l i).f0).wf = true := by rw [hx]; exact hwf _ (List.getElem_mem hi)
    have ht : l.take (i + 1) = l.take i ++ [rd_T97 l i] := by rw [take_step l i hi, hx]
    simp only [impl_NotesOk.l0, notesFrom]
    rw [implNote_eq n hb gs hg _ _ _ _ _ _ _ k hk, Option.bind_some]
    generalize noteFits n gs _ _ _ _ _ _ _ = q
    cases q with
    | false => rw [if_neg (by simp), if_pos hw]; rfl
    | true =>
      rw [if_pos rfl, if_pos hw]
      have hs : ∀ b, impl_NotesOk.seen l i (rd_T97 l i).f0 = b → b = (l.take i).reverse.find? (fun x => x.f0 == (rd_T97 l i).f0) := fun b hb => by rw [← hb]; rfl
      have key : (∀ y ∈ l.take i, y.f0 = (rd_T97 l i).f0 → y = rd_T97 l i) → agree l (i + 1) := by
        intro h y hy z hz e
        rw [ht] at hy hz
        rcases List.mem_append.1 hy with hy | hy <;> rcases List.mem_append.1 hz with hz | hz
        · exact ha y hy z hz e
        · obtain rfl := List.mem_singleton.1 hz; exact h y hy e
        · obtain rfl := List.mem_singleton.1 hy; exact (h z hz e.symm).symm
        · rw [List.mem_singleton.1 hy, List.mem_singleton.1 hz]
      generalize hq : impl_NotesOk.seen l i (rd_T97 l i).f0 = b
      have hf := hs b hq
      cases b with
      | none =>
        have hno := List.find?_eq_none.1 hf.symm
        have hall : ∀ y ∈ l.take i, y.f0 = (rd_T97 l i).f0 → y = rd_T97 l i := fun y hy e => absurd (by simpa using e) (hno y (List.mem_reverse.2 hy))
        rw [decide_eq_true hall]
        exact ih (i + 1) (by omega) (key hall)
      | some y =>
        have hy : y ∈ l.take i := List.mem_reverse.1 (List.mem_of_find?_eq_some hf.symm)
        have h0 : y.f0 = (rd_T97 l i).f0 := by simpa using List.find?_some hf.symm
        change (if impl_NotesOk.same y _ = true then _ else _) = _
        by_cases e : y = rd_T97 l i
        · have hall : ∀ z ∈ l.take i, z.f0 = (rd_T97 l i).f0 → z = rd_T97 l i := fun z hz hz0 => (ha z hz y hy (hz0.trans h0.symm)).trans e
          rw [if_pos ((sameN_iff y _).2 e), decide_eq_true hall]
          exact ih (i + 1) (by omega) (key hall)
        · rw [if_neg (fun h => e ((sameN_iff y _).1 h)), decide_eq_false (fun h => e (h y hy h0))]
          rfl
theorem implNotes_eq (n : Int) (hb : -9223372036854775808 ≤ n) (gs : List S71) (hg : gs.length ≤ 9223372036854775807) (l : List S97) (hwf : ∀ x ∈ l, (Lit.int .i64 x.f0).wf = true) (k : Nat) (hk : gs.length + 1 < k) :
    impl_NotesOk.f k n gs l = some (notesOk n gs l) := by
  unfold impl_NotesOk.f notesOk
  rw [implSeason_eq n hb gs hg k hk, Option.bind_some]
  cases seasonOk n gs with
  | false => rfl
  | true =>
    rw [if_pos rfl]
    by_cases h : l.length ≤ 80
    · rw [if_pos h, implNotes_loop n hb gs hg l hwf k (by omega) l.length 0 (by omega) (fun y hy => by simp at hy), decide_eq_true h]; rfl
    · rw [if_neg h, decide_eq_false h]; rfl
/-! Of each key the first, sorted by key: by insertion, or by a stable sort that is compacted. -/
section
variable {α : Type} (key : α → Int)
def cnIns : List α → α → List α
  | [], n => [n]
  | y :: r, n => if key y < key n then y :: cnIns r n else if key y = key n then y :: r else n :: y :: r
def CnS (l : List α) : Prop := l.Pairwise (fun x y => key x < key y)
def cnF (l : List α) (s : Int) : Option α := l.find? (fun x => key x == s)
theorem cnF_cons (a : α) (l : List α) (s : Int) : cnF key (a :: l) s = if key a = s then some a else cnF key l s := by
  unfold cnF
  rw [List.find?_cons]
  by_cases h : key a = s
  · simp [h]
  · have h2 : (key a == s) = false := by simpa using h
    simp only [h2, if_neg h]
theorem cn_unique (l : List α) : ∀ l', CnS key l → CnS key l' → (∀ s, cnF key l s = cnF key l' s) → l = l' := by
  induction l with
  | nil =>
    intro l' _ _ h
    cases l' with
    | nil => rfl
    | cons b r => have := h (key b); rw [cnF_cons, if_pos rfl] at this; simp [cnF] at this
  | cons a l ih =>
    intro l' hs hs' h
    cases l' with
    | nil => have := h (key a); rw [cnF_cons, if_pos rfl] at this; simp [cnF] at this
    | cons b r =>
      have p1 := List.pairwise_cons.1 hs
      have p2 := List.pairwise_cons.1 hs'
      have none1 : cnF key l (key a) = none := by
        unfold cnF; rw [List.find?_eq_none]; intro x hx; have := p1.1 x hx; simp; omega
      have none2 : cnF key r (key b) = none := by
        unfold cnF; rw [List.find?_eq_none]; intro x hx; have := p2.1 x hx; simp; omega
      have mem : ∀ (m : List α) (s : Int) (x : α), cnF key m s = some x → x ∈ m ∧ key x = s := by
        intro m s x hx
        unfold cnF at hx
        exact ⟨List.mem_of_find?_eq_some hx, by have := List.find?_some hx; simpa using this⟩
      have hab : key a = key b := by
        have h1 := h (key a)
        rw [cnF_cons, if_pos rfl] at h1
        have h2 := h (key b)
        rw [cnF_cons key b r, if_pos rfl] at h2
        have m1 := mem _ _ _ h1.symm
        have m2 := mem _ _ _ h2
        have c1 : key b ≤ key a := by
          rcases List.mem_cons.1 m1.1 with e | e
          · rw [e]; exact Int.le_refl _
          · exact Int.le_of_lt (p2.1 a e)
        have c2 : key a ≤ key b := by
          rcases List.mem_cons.1 m2.1 with e | e
          · rw [e]; exact Int.le_refl _
          · exact Int.le_of_lt (p1.1 b e)
        omega
      have hab2 : a = b := by
        have h1 := h (key a)
        rw [cnF_cons, if_pos rfl, cnF_cons, if_pos hab.symm] at h1
        exact Option.some.inj h1
      subst hab2
      rw [ih r p1.2 p2.2 (fun s => by
        have h1 := h s
        rw [cnF_cons, cnF_cons] at h1
        by_cases c : key a = s
        · rw [← c, none1, none2]
        · rwa [if_neg c, if_neg c] at h1)]
theorem cnIns_mem (l : List α) (n x : α) (h : x ∈ cnIns key l n) : x ∈ l ∨ x = n := by
  induction l with
  | nil => simp [cnIns] at h; exact .inr h
  | cons y r ih =>
    unfold cnIns at h
    split at h
    · rcases List.mem_cons.1 h with e | e
      · exact .inl (by rw [e]; simp)
      · rcases ih e with e | e
        · exact .inl (List.mem_cons_of_mem _ e)
        · exact .inr e
    · split at h
      · exact .inl h
      · rcases List.mem_cons.1 h with e | e
        · exact .inr e
        · exact .inl e
theorem cnIns_ok (l : List α) (n : α) (h : CnS key l) : CnS key (cnIns key l n) ∧ ∀ s, cnF key (cnIns key l n) s = cnF key (l ++ [n]) s := by
  induction l with
  | nil => exact ⟨List.pairwise_singleton _ _, fun _ => rfl⟩
  | cons y r ih =>
    have hp := List.pairwise_cons.1 h
    unfold cnIns
    by_cases c1 : key y < key n
    · rw [if_pos c1]
      refine ⟨List.pairwise_cons.2 ⟨fun z hz => ?_, (ih hp.2).1⟩, fun s => ?_⟩
      · rcases cnIns_mem key r n z hz with e | e
        · exact hp.1 z e
        · rw [e]; exact c1
      · rw [List.cons_append, cnF_cons, cnF_cons, (ih hp.2).2 s]
    · rw [if_neg c1]
      by_cases c2 : key y = key n
      · rw [if_pos c2]
        refine ⟨h, fun s => ?_⟩
        rw [List.cons_append, cnF_cons, cnF_cons]
        by_cases c : key y = s
        · rw [if_pos c, if_pos c]
        · rw [if_neg c, if_neg c]
          unfold cnF
          rw [List.find?_append]
          have : [n].find? (fun x => key x == s) = none := by simp; omega
          rw [this]
          simp
      · rw [if_neg c2]
        refine ⟨List.pairwise_cons.2 ⟨fun z hz => ?_, h⟩, fun s => ?_⟩
        · rcases List.mem_cons.1 hz with e | e
          · rw [e]; omega
          · have := hp.1 z e; omega
        · rw [cnF_cons]
          by_cases c : key n = s
          · rw [if_pos c]
            have none1 : (y :: r).find? (fun x => key x == s) = none := by
              rw [List.find?_eq_none]
              intro x hx
              rcases List.mem_cons.1 hx with e | e
              · rw [e]; simp; omega
              · have := hp.1 x e; simp; omega
            unfold cnF
            rw [List.find?_append, none1]
            simp [c]
          · rw [if_neg c]
            unfold cnF
            rw [List.find?_append]
            have : [n].find? (fun x => key x == s) = none := by simp; omega
            rw [this]
            simp
theorem cn_fold (l : List α) : ∀ out, CnS key out → CnS key (l.foldl (cnIns key) out) ∧ ∀ s, cnF key (l.foldl (cnIns key) out) s = cnF key (out ++ l) s := by
  induction l with
  | nil => intro out h; exact ⟨h, fun s => by simp⟩
  | cons n r ih =>
    intro out h
    have h1 := cnIns_ok key out n h
    have h2 := ih _ h1.1
    refine ⟨h2.1, fun s => ?_⟩
    rw [List.foldl_cons, h2.2 s]
    have h3 := h1.2 s
    unfold cnF at h3 ⊢
    rw [List.find?_append, h3, List.find?_append, List.find?_append, List.find?_cons, Option.or_assoc]
    simp only [List.find?_cons, List.find?_nil]
    split <;> simp
theorem cn_cpF (eq : α → α → Bool) (heq : ∀ y x, eq y x = (key y == key x)) (m : List α) : ∀ a, (a :: m).Pairwise (fun x y => key x ≤ key y) → CnS key (a :: cpF eq a m) ∧ ∀ s, cnF key (a :: cpF eq a m) s = cnF key (a :: m) s := by
  induction m with
  | nil => intro a h; exact ⟨List.pairwise_singleton _ _, fun _ => rfl⟩
  | cons y r ih =>
    intro a h
    have hp := List.pairwise_cons.1 h
    have hy := ih y hp.2
    have hay := hp.1 y (by simp)
    unfold cpF
    rw [heq]
    by_cases c : key y = key a
    · have c1 : (key y == key a) = true := by simpa using c
      rw [if_pos c1]
      have q := List.pairwise_cons.1 hy.1
      refine ⟨List.pairwise_cons.2 ⟨fun z hz => by have := q.1 z hz; omega, q.2⟩, fun s => ?_⟩
      have h1 := hy.2 s
      rw [cnF_cons, cnF_cons] at h1
      rw [cnF_cons, cnF_cons, cnF_cons]
      by_cases d : key a = s
      · rw [if_pos d, if_pos d]
      · rw [if_neg d, if_neg d, if_neg (by omega)]
        rwa [if_neg (by omega), if_neg (by omega)] at h1
    · have c1 : ¬ ((key y == key a) = true) := by simpa using c
      rw [if_neg c1]
      have q := List.pairwise_cons.1 hy.1
      refine ⟨List.pairwise_cons.2 ⟨fun z hz => ?_, hy.1⟩, fun s => ?_⟩
      · rcases List.mem_cons.1 hz with e | e
        · rw [e]; omega
        · have := q.1 z e; omega
      · rw [cnF_cons, hy.2 s, cnF_cons key a]
theorem cn_cpP (eq : α → α → Bool) (heq : ∀ y x, eq y x = (key y == key x)) (m : List α) (h : m.Pairwise (fun x y => key x ≤ key y)) : CnS key (cpP eq m) ∧ ∀ s, cnF key (cpP eq m) s = cnF key m s := by
  cases m with
  | nil => exact ⟨List.Pairwise.nil, fun _ => rfl⟩
  | cons a r => exact cn_cpF key eq heq r a h
/-- A stable sort that is compacted is the insertion of each key's first. -/
theorem cn_main (eq : α → α → Bool) (heq : ∀ y x, eq y x = (key y == key x)) (l m : List α) (h : StS key m) (hm : StE key l m) : cpP eq m = l.foldl (cnIns key) [] := by
  have h1 := cn_cpP key eq heq m h
  have h2 := cn_fold key l [] List.Pairwise.nil
  refine cn_unique key _ _ h1.1 h2.1 (fun s => ?_)
  rw [h1.2 s, h2.2 s, List.nil_append]
  unfold cnF
  have := congrArg List.head? (hm s)
  rwa [List.head?_filter, List.head?_filter] at this
end
abbrev cnK (x : S97) : Int := x.f0
theorem cn_rd (l : List S97) (i : Nat) (h : i < l.length) : rd_T97 l (i : Int) = l[i] := getD_nat _ l i h
theorem cn_get (A B : List S97) (y : S97) : rd_T97 (A ++ y :: B) (A.length : Int) = y := by
  rw [cn_rd _ _ (by simp)]; simp
/-- The shift by one, and the store. -/
theorem cn_shift (l : List S97) (N j0 : Int) (n : S97) (r : Option (List S97)) (K : Nat) (A : List S97) (B1 : List S97) : ∀ (m : Nat) (B2 : List S97) (c : S97) (k : Nat), B1.length = m → (A ++ B1 ++ [c] ++ B2).length < 100000000 → K + m < k →
    (∀ k, K ≤ k → spec_CanonNotes.l0 k (A ++ n :: (B1 ++ B2)) l N (wrap64 (j0 + 1)) = r) →
    spec_CanonNotes.l2 k (A ++ B1 ++ [c] ++ B2) A.length ((A.length + m : Nat) : Int) l N j0 n.f0 n.f1 n.f2.f0 n.f2.f1 n.f2.f2 n.f2.f3 n.f2.f4 = r := by
  intro m
  induction m generalizing B1 with
  | zero =>
    intro B2 c k hm hl hk hr
    obtain ⟨k, rfl⟩ : ∃ q, k = q + 1 := ⟨k - 1, by omega⟩
    have hB : B1 = [] := List.eq_nil_of_length_eq_zero hm
    subst hB
    have e1 : (A ++ [] ++ [c] ++ B2).set A.length n = A ++ n :: B2 := by simp
    have hi : (A.length : Int) < ((A ++ [] ++ [c] ++ B2).length : Int) := by simp; omega
    simp only [spec_CanonNotes.l2, Nat.add_zero]
    rw [if_neg (by omega), if_pos (by omega), if_pos hi, Int.toNat_natCast]
    show spec_CanonNotes.l0 k ((A ++ [] ++ [c] ++ B2).set A.length n) l N (wrap64 (j0 + 1)) = r
    rw [e1]
    exact hr k (by omega)
  | succ m ih =>
    intro B2 c k hm hl hk hr
    obtain ⟨k, rfl⟩ : ∃ q, k = q + 1 := ⟨k - 1, by omega⟩
    obtain ⟨B, b, rfl⟩ : ∃ B b, B1 = B ++ [b] := by
      rcases List.eq_nil_or_concat B1 with h | ⟨B, b, h⟩
      · rw [h] at hm; simp at hm
      · exact ⟨B, b, by rw [h, List.concat_eq_append]⟩
    have hBl : B.length = m := by simpa using hm
    have hlen : (A ++ (B ++ [b]) ++ [c] ++ B2).length = A.length + m + 2 + B2.length := by simp; omega
    have w1 : wrap64 (((A.length + (m + 1) : Nat) : Int) - 1) = ((A.length + m : Nat) : Int) := by rw [wrap_id (by omega) (by omega)]; omega
    have hrd : rd_T97 (A ++ (B ++ [b]) ++ [c] ++ B2) ((A.length + m : Nat) : Int) = b := by
      have := cn_get (A ++ B) ([c] ++ B2) b
      rw [List.length_append, hBl] at this
      simpa using this
    have e1 : (A ++ (B ++ [b]) ++ [c] ++ B2).set (A.length + (m + 1)) b = A ++ B ++ [b] ++ (b :: B2) := by
      rw [show A ++ (B ++ [b]) ++ [c] ++ B2 = (A ++ B ++ [b]) ++ c :: B2 by simp, show A.length + (m + 1) = (A ++ B ++ [b]).length by simp; omega, List.set_append_right _ _ (Nat.le_refl _), Nat.sub_self]
      rfl
    simp only [spec_CanonNotes.l2, w1, hrd]
    rw [if_pos (by omega), if_pos (by omega), if_pos (by omega), if_pos (by omega), if_pos (by omega), Int.toNat_natCast]
    show spec_CanonNotes.l2 k ((A ++ (B ++ [b]) ++ [c] ++ B2).set (A.length + (m + 1)) b) A.length ((A.length + m : Nat) : Int) l N j0 n.f0 n.f1 n.f2.f0 n.f2.f1 n.f2.f2 n.f2.f3 n.f2.f4 = r
    rw [e1]
    refine ih B (b :: B2) b k hBl (by simp at hl ⊢; omega) (by omega) (fun k hk => ?_)
    have := hr k hk
    simpa using this
/-- One note: it is looked for, and put in where it is missing. -/
theorem cn_one (l : List S97) (N j0 : Int) (n : S97) (r : Option (List S97)) (K : Nat) (B : List S97) : ∀ (A : List S97) (k : Nat), (A ++ B).length < 10000000 → K + 2 * B.length + 5 < k →
    (∀ k, K ≤ k → spec_CanonNotes.l0 k (A ++ cnIns cnK B n) l N (wrap64 (j0 + 1)) = r) →
    spec_CanonNotes.l1 k (A ++ B) A.length l N j0 n.f0 n.f1 n.f2.f0 n.f2.f1 n.f2.f2 n.f2.f3 n.f2.f4 = r := by
  have put : ∀ (A B : List S97) (k : Nat), (A ++ B).length < 10000000 → K + B.length + 2 < k → (∀ k, K ≤ k → spec_CanonNotes.l0 k (A ++ n :: B) l N (wrap64 (j0 + 1)) = r) →
      spec_CanonNotes.j3 k (A ++ B) A.length l N j0 false n.f0 n.f1 n.f2.f0 n.f2.f1 n.f2.f2 n.f2.f3 n.f2.f4 = r := by
    intro A B k hl hk hr
    obtain ⟨k, rfl⟩ : ∃ q, k = q + 1 := ⟨k - 1, by omega⟩
    simp only [spec_CanonNotes.j3, Bool.false_eq_true, if_false, Option.bind_some]
    rw [if_pos (by omega)]
    have w1 : wrap64 (((A ++ B ++ [(⟨0, 0, (⟨0, 0, 0, 0, 0⟩ : S71)⟩ : S97)]).length : Int) - 1) = ((A.length + B.length : Nat) : Int) := by
      rw [wrap_id (by simp; omega) (by simp; simp at hl; omega)]; simp; omega
    rw [w1]
    have := cn_shift l N j0 n r K A B B.length [] (⟨0, 0, (⟨0, 0, 0, 0, 0⟩ : S71)⟩ : S97) k rfl (by simp at hl ⊢; omega) (by omega) (fun k hk => by rw [List.append_nil]; exact hr k hk)
    rw [List.append_nil] at this
    exact this
  induction B with
  | nil =>
    intro A k hl hk hr
    obtain ⟨k, rfl⟩ : ∃ q, k = q + 2 := ⟨k - 2, by omega⟩
    simp only [spec_CanonNotes.l1, spec_CanonNotes.j2]
    rw [if_neg (by simp), if_neg (by simp)]
    exact put A [] k hl (by omega) hr
  | cons y B ih =>
    intro A k hl hk hr
    obtain ⟨k, rfl⟩ : ∃ q, k = q + 1 := ⟨k - 1, by omega⟩
    have hi : (A.length : Int) < ((A ++ y :: B).length : Int) := by simp; omega
    have w1 : wrap64 ((A.length : Int) + 1) = ((A ++ [y]).length : Int) := by rw [wrap_id (by omega) (by simp at hl; omega)]; simp
    simp only [spec_CanonNotes.l1, cn_get]
    rw [if_pos hi, if_pos (by omega)]
    unfold cnIns at hr
    by_cases c1 : y.f0 < n.f0
    · rw [if_pos c1, w1]
      have := ih (A ++ [y]) k (by simpa using hl) (by simp at hk; omega) (fun k hk => by have := hr k hk; rw [if_pos (show cnK y < cnK n from c1)] at this; simpa using this)
      rw [List.append_assoc] at this
      exact this
    · rw [if_neg c1]
      obtain ⟨k, rfl⟩ : ∃ q, k = q + 1 := ⟨k - 1, by simp at hk; omega⟩
      simp only [spec_CanonNotes.j2, cn_get]
      rw [if_pos hi, if_pos (by omega)]
      by_cases c2 : y.f0 = n.f0
      · rw [show (y.f0 == n.f0) = true by simpa using c2]
        obtain ⟨k, rfl⟩ : ∃ q, k = q + 1 := ⟨k - 1, by simp at hk; omega⟩
        simp only [spec_CanonNotes.j3, if_true]
        have := hr k (by simp at hk; omega)
        rwa [if_neg (show ¬ cnK y < cnK n from c1), if_pos (show cnK y = cnK n from c2)] at this
      · rw [show (y.f0 == n.f0) = false by simpa using c2]
        refine put A (y :: B) k hl (by simp at hk ⊢; omega) (fun k hk => ?_)
        have := hr k hk
        rwa [if_neg (show ¬ cnK y < cnK n from c1), if_neg (show ¬ cnK y = cnK n from c2)] at this
theorem cnIns_len (B : List S97) (n : S97) : (cnIns cnK B n).length ≤ B.length + 1 := by
  induction B with
  | nil => simp [cnIns]
  | cons y B ih =>
    unfold cnIns
    split
    · simp only [List.length_cons]; omega
    · split <;> simp
/-- All notes. -/
theorem cn_loop (l : List S97) (hn : l.length ≤ 1048576) (d : Nat) : ∀ (k i : Nat) (out : List S97), i + d = l.length → out.length ≤ i → d * 3000000 + 1 ≤ k →
    spec_CanonNotes.l0 k out l l.length i = some ((l.drop i).foldl (cnIns cnK) out) := by
  induction d with
  | zero =>
    intro k i out hd ho hk
    obtain ⟨k, rfl⟩ : ∃ q, k = q + 1 := ⟨k - 1, by omega⟩
    simp only [spec_CanonNotes.l0]
    rw [if_neg (by omega), List.drop_of_length_le (by omega)]
    rfl
  | succ d ih =>
    intro k i out hd ho hk
    obtain ⟨k, rfl⟩ : ∃ q, k = q + 1 := ⟨k - 1, by omega⟩
    have hi : i < l.length := by omega
    simp only [spec_CanonNotes.l0, cn_rd l i hi]
    rw [if_pos (by omega), if_pos (by omega), if_pos (by omega), List.drop_eq_getElem_cons hi, List.foldl_cons]
    refine cn_one l (l.length : Int) (i : Int) l[i] _ (d * 3000000 + 1) out [] k (by simp; omega) (by omega) (fun k hk => ?_)
    rw [wrap_id (by omega) (by omega), List.nil_append]
    exact ih k (i + 1) (cnIns cnK out l[i]) (by omega) (by have := cnIns_len out l[i]; omega) hk
theorem cn_foldlen (l : List S97) : ∀ out : List S97, (l.foldl (cnIns cnK) out).length ≤ out.length + l.length := by
  induction l with
  | nil => intro out; simp
  | cons n r ih => intro out; rw [List.foldl_cons]; have h1 := ih (cnIns cnK out n); have h2 := cnIns_len out n; simp only [List.length_cons]; omega
/-- The games with the notes' results, one note behind the other. -/
def apF (gs : List S71) (c : List S97) : List S71 := c.foldl (fun g x => g.set x.f1.toNat x.f2) gs
theorem apF_len (c : List S97) : ∀ gs, (apF gs c).length = gs.length := by
  induction c with
  | nil => intro gs; rfl
  | cons x r ih => intro gs; show (apF (gs.set x.f1.toNat x.f2) r).length = _; rw [ih, List.length_set]
theorem ap_spec (c : List S97) (hc : c.length ≤ 9223372036854775807) (d : Nat) : ∀ (k i : Nat) (gs : List S71), i + d = c.length → d < k → (∀ x ∈ c, 0 ≤ x.f1 ∧ x.f1 < (gs.length : Int)) →
    spec_ApplyNotes.l0 k gs c c.length i = some (apF gs (c.drop i), true) ∧ impl_ApplyNotes.l0 k gs c c.length i = some (apF gs (c.drop i), true) := by
  induction d with
  | zero =>
    intro k i gs hd hk hx
    obtain ⟨k, rfl⟩ : ∃ m, k = m + 1 := ⟨k - 1, by omega⟩
    simp only [spec_ApplyNotes.l0, impl_ApplyNotes.l0]
    rw [if_neg (by omega), if_neg (by omega), List.drop_of_length_le (by omega)]
    exact ⟨rfl, rfl⟩
  | succ d ih =>
    intro k i gs hd hk hx
    obtain ⟨k, rfl⟩ : ∃ m, k = m + 1 := ⟨k - 1, by omega⟩
    have hi : i < c.length := by omega
    have hm := hx c[i] (List.getElem_mem hi)
    simp only [spec_ApplyNotes.l0, impl_ApplyNotes.l0, cn_rd c i hi]
    rw [if_pos (by omega), if_pos (by omega), if_pos (by omega), if_pos hm.1, if_pos hm.2, if_pos (by omega), if_pos (by omega), if_pos (by omega), if_pos hm.1, if_pos hm.2, wrap_succ hi hc, List.drop_eq_getElem_cons hi]
    have h := ih k (i + 1) (gs.set c[i].f1.toNat c[i].f2) (by omega) (by omega) (fun x hm => by rw [List.length_set]; exact hx x hm)
    exact h
theorem fits_in {n : Int} {gs : List S71} {l : List S97} (d : Nat) : ∀ i, i + d = l.length → notesFrom n gs l i d = true → ∀ x ∈ l.drop i, 0 ≤ x.f1 ∧ x.f1 < (gs.length : Int) := by
  induction d with
  | zero => intro i hd _ x hx; rw [List.drop_of_length_le (by omega)] at hx; cases hx
  | succ d ih =>
    intro i hd h x hx
    have hi : i < l.length := by omega
    unfold notesFrom at h
    rw [Bool.and_eq_true, Bool.and_eq_true] at h
    rw [List.drop_eq_getElem_cons hi] at hx
    rcases List.mem_cons.1 hx with e | hx
    · have h1 := h.1
      unfold noteFits at h1
      rw [Bool.and_eq_true, decide_eq_true_eq, cn_rd l i hi] at h1
      rw [e]
      omega
    · exact ih (i + 1) (by omega) h.2.2 x hx
theorem fold_mem (l : List S97) : ∀ out x, x ∈ l.foldl (cnIns cnK) out → x ∈ out ∨ x ∈ l := by
  induction l with
  | nil => intro out x h; exact .inl h
  | cons n r ih =>
    intro out x h
    rcases ih _ x h with h | h
    · rcases cnIns_mem cnK out n x h with h | h
      · exact .inl h
      · exact .inr (by rw [h]; simp)
    · exact .inr (List.mem_cons_of_mem _ h)
noncomputable def apOut (n : Int) (gs : List S71) (l : List S97) : List S71 × Bool := if notesOk n gs l = true then (apF gs (l.foldl (cnIns cnK) []), true) else ([], false)
theorem ap_eq (n : Int) (hb : -9223372036854775808 ≤ n) (gs : List S71) (hg : gs.length ≤ 2000000) (l : List S97) (hn : l.length ≤ 2000000) (hwf : ∀ x ∈ l, (Lit.int .i64 x.f0).wf = true) (k : Nat) (hk : 2 * gs.length + l.length * 3000000 + 9000 < k) :
    spec_ApplyNotes.f k n gs l = some (apOut n gs l) ∧ impl_ApplyNotes.f k n gs l = some (apOut n gs l) := by
  have q1 := specNotes_eq n hb gs (by omega) l (by omega) k (by omega)
  have q2 := implNotes_eq n hb gs (by omega) l hwf k (by omega)
  unfold spec_ApplyNotes.f impl_ApplyNotes.f apOut
  rw [q1, q2]
  simp only [Option.bind_some]
  cases hq : notesOk n gs l with
  | false => exact ⟨rfl, rfl⟩
  | true =>
    unfold notesOk at hq
    rw [Bool.and_eq_true, Bool.and_eq_true, decide_eq_true_eq] at hq
    have hin := fits_in l.length 0 (by omega) hq.2.2
    rw [List.drop_zero] at hin
    have e1 : spec_CanonNotes.f k l = some (l.foldl (cnIns cnK) []) := by
      have := cn_loop l (by omega) l.length k 0 [] (by omega) (by simp) (by omega)
      rw [List.drop_zero] at this
      exact this
    have e2 : impl_CanonNotes.f l = some (l.foldl (cnIns cnK) []) := by
      unfold impl_CanonNotes.f
      rw [if_pos (by omega), cn_main cnK impl_CanonNotes.eq (fun _ _ => rfl) l _ (impl_CanonNotes.sort_ok l).1 (impl_CanonNotes.sort_ok l).2]
    have e3 : impl_Game_79.f gs = some gs := by
      unfold impl_Game_79.f
      rw [if_pos (by omega)]
    have hw := cn_foldlen l []
    rw [List.length_nil, Nat.zero_add] at hw
    have hmem : ∀ x ∈ l.foldl (cnIns cnK) [], 0 ≤ x.f1 ∧ x.f1 < (gs.length : Int) := fun x hx => by
      rcases fold_mem l [] x hx with h | h
      · cases h
      · exact hin x h
    generalize l.foldl (cnIns cnK) [] = c at e1 e2 hw hmem
    have h := ap_spec c (by omega) c.length k 0 gs (by omega) (by omega) hmem
    rw [List.drop_zero] at h
    simp only [if_true, e1, e2, e3, Option.bind_some, List.nil_append, List.length_nil, Nat.zero_add]
    rw [if_pos (by omega)]
    exact h
theorem apOut_len (n : Int) (gs : List S71) (l : List S97) : (apOut n gs l).1.length ≤ gs.length := by
  unfold apOut
  split
  · rw [apF_len]; exact Nat.le_refl _
  · exact Nat.zero_le _
theorem FnExactApplyNotes : FnExactApplyNotes_pure := by
  intro n lg ln hw hl _ hl2 hx
  have hb := (wf_bd hw).1
  unfold maxLen at hl hl2
  obtain ⟨K, hK⟩ : ∃ K, K = 2 * lg.length + ln.length * 3000000 + 10000 := ⟨_, rfl⟩
  refine ⟨K + 3, ?_⟩
  unfold laws_FnExactApplyNotes.f laws_szGameS.f laws_szNoteS.f
  by_cases hb' : 1048576 < lg.length
  · rw [if_pos (sz_big (by omega) hb')]; rfl
  · obtain ⟨h1, h2⟩ := sz_small (show lg.length ≤ 1048576 by omega)
    rw [if_neg h1, h2, Option.bind_some, if_neg (by omega)]
    have hz : wrap64 (1048576 - (lg.length : Int) - (ln.length : Int)) = 1048576 - (lg.length : Int) - (ln.length : Int) := wrap_id (by omega) (by omega)
    rw [hz]
    by_cases h3 : 1048576 - (lg.length : Int) - (ln.length : Int) < 0
    · rw [if_pos h3]; rfl
    · rw [if_neg h3, Option.bind_some, if_neg h3]
      have t1 := fun k (hk : lg.length < k) => laws_toGameS_eq lg (by omega) k (by omega)
      have t2 := fun k (hk : ln.length < k) => laws_toNoteS_eq ln (by omega) k (by omega)
      have hwf : ∀ x ∈ ln.map laws_toNoteS_c, (Lit.int .i64 x.f0).wf = true := by
        intro x hm
        obtain ⟨y, hy, rfl⟩ := List.mem_map.1 hm
        exact (hx y hy).1
      generalize hm : lg.map laws_toGameS_c = m at t1
      have hml : m.length = lg.length := by rw [← hm]; simp
      generalize hm2 : ln.map laws_toNoteS_c = q at t2 hwf
      have hql : q.length = ln.length := by rw [← hm2]; simp
      have a1 := ap_eq n hb m (by omega) q (by omega) hwf (K + 3) (by omega)
      have a2 := ap_eq n hb m (by omega) q (by omega) hwf (K + 1) (by omega)
      have hlen := apOut_len n m q
      generalize apOut n m q = r at a1 a2 hlen
      obtain ⟨r, b⟩ := r
      have hrl : r.length ≤ m.length := hlen
      have q3 := laws_eqGameS_eq m (by omega) (K + 2) (by omega)
      have q4 := laws_eqNoteS_eq q (by omega) (K + 2) (by omega)
      have q5 := laws_eqGameS_eq r (by omega) (K + 3) (by omega)
      have q6 := laws_eqGameS_eq r (by omega) (K + 2) (by omega)
      have q7 := laws_eqGameS_eq r (by omega) (K + 1) (by omega)
      obtain ⟨L, eM, _, _⟩ := laws_markGameS_eq m (by omega) (K + 2) (by omega)
      obtain ⟨L1, eN, _, _⟩ := laws_markNoteS_loop q.length (by omega) q.length (K + 2) 0 q (1 + 5 * (m.length : Int)) rfl (by omega) (by omega) (by omega) (by omega)
      replace eN : laws_markNoteS.l0 (K + 2) q (1 + 5 * (m.length : Int)) 0 = some (1 + 5 * (m.length : Int) + 7 * (q.length : Int), L1) := eN
      obtain ⟨L2, mk, hL2, hm2⟩ := laws_markGameS_eq r (by omega) (K + 1) (by omega)
      have hd := laws_heldGameS_eq L2 r.length hL2 (by omega) hm2 (K + 1) (by omega)
      have hd' := laws_heldGameS_eq L2 r.length hL2 (by omega) hm2 K (by omega)
      have n1 : ¬ (1 + 5 * (m.length : Int) + 7 * (q.length : Int) < 0) := by omega
      have n2 : ¬ (1 + 5 * (r.length : Int) < 0) := by omega
      simp only [Option.bind_some, t1 (K + 3) (by omega), t1 (K + 2) (by omega), t1 (K + 1) (by omega), t2 (K + 3) (by omega), t2 (K + 2) (by omega), t2 (K + 1) (by omega), a1.1, a1.2, a2.2, q5, if_true, laws_FnExactApplyNotes.j0, q3, q4, q6, q7, eM, laws_markNoteS.f, eN, n1, n2, if_false, bne_self_eq_false, Bool.false_eq_true, laws_FnExactApplyNotes.j1, laws_FnExactApplyNotes.j2, mk, hd, hd']

end Go.Proofs.Ytikfdjgigeggjaa.Pure
