/- Whatever the name: KeyNamed of the program and of the reference answer alike; no condition beyond the form's own reach. -/
import Derived.Test.YtgjolkpplhcjoaaPFnExactKeyNamedx1
import Derived.Test.YtgjolkpplhcjoaaPureKit
namespace Go.Proofs.Ytgjolkpplhcjoaa.Pure
open Go.RowKit Go.Proofs.Ytgjolkpplhcjoaa.PFnExactKeyNamed Go.Proofs.Ytgjolkpplhcjoaa.PureKit Go.Proofs.YtgjolkpplhcjoaaW.PrintWords Go.Proofs.YtgjolkpplhcjoaaW.PrintLast
set_option linter.unusedSimpArgs false
set_option linter.unusedVariables false
theorem named_loop (s : ByteArray) (l : List ByteArray) (hl : l.length < 100) (d : Nat) : ∀ (k i : Nat), i + d = l.length → d < k →
    ∃ r, slices_Index_string_string.l0 k l s l.length i = some r ∧ spec_KeyNamed.l0 k s l l.length i = some (wrap64 (1 + r)) := by
  induction d with
  | zero =>
    intro k i hd hk
    obtain ⟨k, rfl⟩ : ∃ m, k = m + 1 := ⟨k - 1, by omega⟩
    simp only [slices_Index_string_string.l0, spec_KeyNamed.l0]
    rw [if_neg (by omega), if_neg (by omega)]
    exact ⟨_, rfl, by rw [wrap_id (by omega) (by omega)]; rfl⟩
  | succ d ih =>
    intro k i hd hk
    obtain ⟨k, rfl⟩ : ∃ m, k = m + 1 := ⟨k - 1, by omega⟩
    obtain ⟨r, e1, e2⟩ := ih k (i + 1) (by omega) (by omega)
    have hlt : (i : Int) < (l.length : Int) := by omega
    have h0 : (0 : Int) ≤ (i : Int) := by omega
    simp only [slices_Index_string_string.l0, spec_KeyNamed.l0, hlt, h0, if_true, wrap_succ (show i < l.length by omega) (by omega), e1, e2]
    by_cases c : s.toList = (rdOf ByteArray.empty l i).toList
    · simp only [c, if_true]
      refine ⟨_, rfl, ?_⟩
      rw [wrap_id (by omega) (by omega)]
      congr 1; omega
    · have c' : ¬ (rdOf ByteArray.empty l i).toList = s.toList := fun h => c h.symm
      simp only [c, c', if_false]
      exact ⟨_, rfl, rfl⟩
theorem FnExactKeyNamed : laws_FnExactKeyNamed.Pure := by
  intro s _
  refine ⟨10, ?_⟩
  unfold laws_FnExactKeyNamed.f spec_KeyNamed.f impl_KeyNamed.f slices_Index_string_string.f spec_l03Names.f impl_keyNames.f
  simp only [Option.bind_some]
  generalize hl : ([(⟨#[112, 111, 105, 110, 116, 115]⟩ : ByteArray), (⟨#[100, 105, 102, 102, 101, 114, 101, 110, 99, 101]⟩ : ByteArray), (⟨#[115, 99, 111, 114, 101, 100]⟩ : ByteArray), (⟨#[119, 105, 110, 115]⟩ : ByteArray), (⟨#[109, 117, 116, 117, 97, 108]⟩ : ByteArray), (⟨#[109, 117, 116, 117, 97, 108, 100, 105, 102, 102, 101, 114, 101, 110, 99, 101]⟩ : ByteArray), (⟨#[102, 97, 105, 114]⟩ : ByteArray), (⟨#[115, 101, 101, 100]⟩ : ByteArray)] : List ByteArray) = l
  have hn : l.length = 8 := by rw [← hl]; rfl
  obtain ⟨r, e1, e2⟩ := named_loop s l (by omega) l.length 10 0 (by omega) (by omega)
  rw [show ((0 : Nat) : Int) = 0 from rfl] at e1 e2
  rw [e1, e2]
  simp

end Go.Proofs.Ytgjolkpplhcjoaa.Pure
