/- Whatever the two lists of notes: SameNotes of the program and of the reference answer alike, and the lists stay as they were; no condition beyond the form's own reach. -/
import Derived.Test.YtkaaajbnkbnefaaSayFnExactSameNotes
import Derived.Test.YtkaaajbnkbnefaaPureKit
namespace Go.Proofs.Ytkaaajbnkbnefaa.Pure
open Go.RowKit Go.Proofs.Ytkaaajbnkbnefaa.MFnExactSameNotes Go.Proofs.Ytkaaajbnkbnefaa.PureKit Go.Proofs.YtkaaajbnkbnefaaW.PrintWords Go.Proofs.YtkaaajbnkbnefaaW.PrintLast
set_option linter.unusedSimpArgs false
set_option linter.unusedVariables false
theorem sz_big {n : Nat} (h : n ≤ 9223372036854775807) (hb : 1048576 < n) : wrap64 (1048576 - (n : Int)) < 0 := by rw [wrap_id (by omega) (by omega)]; omega
theorem sz_small {n : Nat} (hb : n ≤ 1048576) : ¬ wrap64 (1048576 - (n : Int)) < 0 ∧ wrap64 (1048576 - (n : Int)) = 1048576 - (n : Int) := by
  have h := wrap_id (x := 1048576 - (n : Int)) (by omega) (by omega)
  rw [h]; exact ⟨by omega, rfl⟩
def laws_toNoteS_c (x : S96) : S92 := ⟨x.f0, x.f1, (⟨x.f2.f0, x.f2.f1, x.f2.f2, x.f2.f3, x.f2.f4⟩ : S90)⟩
theorem laws_toNoteS_loop (x0 : List S96) (hn : x0.length ≤ 9223372036854775807) (d : Nat) : ∀ (k i : Nat) (acc : List S92), acc.length = x0.length → acc.take i = (x0.take i).map laws_toNoteS_c → i + d = x0.length → d < k →
    laws_toNoteS.l0 k x0 acc i = some (x0.map laws_toNoteS_c) := by
  induction d with
  | zero =>
    intro k i acc hl ht hd hk
    obtain ⟨k, rfl⟩ : ∃ m, k = m + 1 := ⟨k - 1, by omega⟩
    simp only [laws_toNoteS.l0]
    rw [if_neg (by omega)]
    rw [List.take_of_length_le (by omega), List.take_of_length_le (by omega)] at ht
    rw [ht]
  | succ d ih =>
    intro k i acc hl ht hd hk
    obtain ⟨k, rfl⟩ : ∃ m, k = m + 1 := ⟨k - 1, by omega⟩
    have hi : i < x0.length := by omega
    simp only [laws_toNoteS.l0, laws_toNote.f, laws_toGame.f, Option.bind_some]
    rw [if_pos (by omega), if_pos (by omega), if_pos (by omega), wrap_succ hi hn, show rd_T96 x0 (i : Int) = x0[i] from getD_nat _ x0 i hi, Int.toNat_natCast]
    exact ih k (i + 1) _ (by simp [hl]) (set_copy laws_toNoteS_c x0 acc i hi hl ht) (by omega) (by omega)
theorem laws_toNoteS_eq (x0 : List S96) (hn : x0.length ≤ 5026338869833) (k : Nat) (hk : x0.length < k) : laws_toNoteS.f k x0 = some (x0.map laws_toNoteS_c) := by
  unfold laws_toNoteS.f
  rw [if_pos (by omega), if_pos (by omega)]
  exact laws_toNoteS_loop x0 (by omega) x0.length k 0 _ (by simp) (by simp) (by omega) hk
theorem laws_eqNoteS_loop (x : List S92) (hn : x.length ≤ 9223372036854775807) (d : Nat) : ∀ (k i : Nat), i + d = x.length → d < k → laws_eqNoteS.l0 k x x i = some true := by
  induction d with
  | zero =>
    intro k i hd hk
    obtain ⟨k, rfl⟩ : ∃ m, k = m + 1 := ⟨k - 1, by omega⟩
    simp only [laws_eqNoteS.l0]
    rw [if_neg (by omega)]
  | succ d ih =>
    intro k i hd hk
    obtain ⟨k, rfl⟩ : ∃ m, k = m + 1 := ⟨k - 1, by omega⟩
    simp only [laws_eqNoteS.l0, laws_eqNote.f, laws_eqGame.f]
    rw [if_pos (by omega), if_pos (by omega), if_pos (by omega), wrap_succ (show i < x.length by omega) hn]
    simp only [if_true, Option.bind_some]
    exact ih k (i + 1) (by omega) (by omega)
theorem laws_eqNoteS_eq (x : List S92) (hn : x.length ≤ 9223372036854775807) (k : Nat) (hk : x.length < k) : laws_eqNoteS.f k x x = some true := by
  unfold laws_eqNoteS.f
  rw [if_pos rfl]
  exact laws_eqNoteS_loop x hn x.length k 0 (by omega) hk
theorem same_loop (x y : List S92) (hn : x.length ≤ 9223372036854775807) (hy : y.length = x.length) (d : Nat) : ∀ (k i : Nat), i + d = x.length → d < k →
    ∃ r, spec_SameNotes.l0 k y x x.length i = some r ∧ impl_Note.l0 k x y x.length i = some r := by
  induction d with
  | zero =>
    intro k i hd hk
    obtain ⟨k, rfl⟩ : ∃ m, k = m + 1 := ⟨k - 1, by omega⟩
    simp only [spec_SameNotes.l0, impl_Note.l0]
    rw [if_neg (by omega), if_neg (by omega)]
    exact ⟨_, rfl, rfl⟩
  | succ d ih =>
    intro k i hd hk
    obtain ⟨k, rfl⟩ : ∃ m, k = m + 1 := ⟨k - 1, by omega⟩
    have hlt : (i : Int) < (x.length : Int) := by omega
    have hlt' : (i : Int) < (y.length : Int) := by omega
    have h0 : (0 : Int) ≤ (i : Int) := by omega
    obtain ⟨r, e1, e2⟩ := ih k (i + 1) (by omega) (by omega)
    simp only [spec_SameNotes.l0, impl_Note.l0, hlt, hlt', h0, if_true, wrap_succ (show i < x.length by omega) hn, e1, e2]
    split
    · exact ⟨_, rfl, rfl⟩
    · exact ⟨_, rfl, rfl⟩
theorem same_alike (x y : List S92) (hn : x.length ≤ 9223372036854775807) (k : Nat) (hk : x.length < k) : ∃ r, spec_SameNotes.f k x y = some r ∧ impl_SameNotes.f k x y = some r := by
  unfold spec_SameNotes.f impl_SameNotes.f impl_Note.f
  by_cases h : (x.length : Int) = (y.length : Int)
  · rw [if_pos h, if_pos h]
    obtain ⟨r, e1, e2⟩ := same_loop x y hn (by omega) x.length k 0 (by omega) hk
    rw [show ((0 : Nat) : Int) = 0 from rfl] at e1 e2
    exact ⟨r, e1, by rw [e2]; rfl⟩
  · rw [if_neg h, if_neg h]; exact ⟨_, rfl, rfl⟩
theorem FnExactSameNotes : FnExactSameNotes_pure := by
  intro l l' hl _ hl' _
  unfold maxLen at hl hl'
  refine ⟨l.length + l'.length + 1, ?_⟩
  unfold laws_FnExactSameNotes.f laws_szNoteS.f
  by_cases hb : 1048576 < l.length
  · rw [if_pos (sz_big (by omega) hb)]; rfl
  · obtain ⟨h1, h2⟩ := sz_small (show l.length ≤ 1048576 by omega)
    rw [if_neg h1]
    simp only [Option.bind_some, h1, if_false]
    rw [h2]
    by_cases hb' : l.length + l'.length ≤ 1048576
    · have g1 : wrap64 (1048576 - (l.length : Int) - (l'.length : Int)) = 1048576 - (l.length : Int) - (l'.length : Int) := wrap_id (by omega) (by omega)
      have e := laws_toNoteS_eq l (by omega) (l.length + l'.length + 1) (by omega)
      have e' := laws_toNoteS_eq l' (by omega) (l.length + l'.length + 1) (by omega)
      generalize hm : l.map laws_toNoteS_c = m at e
      have hml : m.length = l.length := by rw [← hm]; simp
      generalize hm' : l'.map laws_toNoteS_c = m' at e'
      have hml' : m'.length = l'.length := by rw [← hm']; simp
      obtain ⟨r, e1, e2⟩ := same_alike m m' (by omega) (l.length + l'.length + 1) (by omega)
      have eq := laws_eqNoteS_eq m (by omega) (l.length + l'.length + 1) (by omega)
      have eq' := laws_eqNoteS_eq m' (by omega) (l.length + l'.length + 1) (by omega)
      rw [g1, if_neg (by omega)]
      have g2 : ¬ (1048576 - (l.length : Int) - (l'.length : Int) < 0) := by omega
      simp only [Option.bind_some, g2, if_false, e, e', e1, e2, eq, eq', if_true, bne_self_eq_false, Bool.false_eq_true]
    · have g1 : wrap64 (1048576 - (l.length : Int) - (l'.length : Int)) = 1048576 - (l.length : Int) - (l'.length : Int) := wrap_id (by omega) (by omega)
      rw [g1, if_pos (by omega)]; rfl

end Go.Proofs.Ytkaaajbnkbnefaa.Pure
