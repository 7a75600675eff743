/- Whatever the text and the number: PadZeros of the program and of the reference answer alike; no condition beyond the form's own reach. -/
import Derived.Test.YtapmiocpkddbfaaSayFnExactPadZeros
import Derived.Test.YtapmiocpkddbfaaPureKit
namespace Go.Proofs.Ytapmiocpkddbfaa.Pure
open Go.RowKit Go.Proofs.Ytapmiocpkddbfaa.MFnExactPadZeros Go.Proofs.Ytapmiocpkddbfaa.PureKit Go.Proofs.YtapmiocpkddbfaaW.PrintWords Go.Proofs.YtapmiocpkddbfaaW.PrintLast
set_option linter.unusedSimpArgs false
set_option linter.unusedVariables false
/-- m digits of nought. -/
def noughts (m : Nat) : ByteArray := ⟨(Lib.repeatL [48] m).toArray⟩
theorem noughts_size (m : Nat) : (noughts m).size = m := by
  show (Lib.repeatL [48] m).toArray.size = m
  rw [List.size_toArray, Lib.repeatL_length]; simp
theorem app_data (a b : ByteArray) : (a ++ b).data.toList = a.data.toList ++ b.data.toList := by
  rw [ByteArray.data_append, Array.toList_append]
theorem noughts_step (m : Nat) (s : ByteArray) : (⟨#[48]⟩ : ByteArray) ++ (noughts m ++ s) = noughts (m + 1) ++ s := by
  apply WideShapes.bytes_inj
  rw [app_data, app_data, app_data]
  simp [noughts, Lib.repeatL]
theorem noughts_zero (s : ByteArray) : noughts 0 ++ s = s := by
  apply WideShapes.bytes_inj
  rw [app_data]
  simp [noughts, Lib.repeatL]
theorem spec_loop (s : ByteArray) (n : Int) (hn : n ≤ 2000) (d : Nat) : ∀ (k m : Nat), d < k → (m = 0 ∨ (s.size : Int) + m ≤ n) → (((s.size + m : Nat) : Int) + d = n ∨ (d = 0 ∧ n ≤ s.size)) →
    spec_PadZeros.l0 k (noughts m ++ s) n = some (noughts (m + d) ++ s) := by
  induction d with
  | zero =>
    intro k m hk h0 h
    obtain ⟨k, rfl⟩ : ∃ j, k = j + 1 := ⟨k - 1, by omega⟩
    simp only [spec_PadZeros.l0]
    rw [if_neg (by rw [ByteArray.size_append, noughts_size]; omega)]
    rfl
  | succ d ih =>
    intro k m hk h0 h
    obtain ⟨k, rfl⟩ : ∃ j, k = j + 1 := ⟨k - 1, by omega⟩
    simp only [spec_PadZeros.l0]
    rw [if_pos (by rw [ByteArray.size_append, noughts_size]; omega), if_pos (by rw [ByteArray.size_append, noughts_size]; omega), noughts_step, ih k (m + 1) (by omega) (by omega) (by omega)]
    rw [show m + 1 + d = m + (d + 1) by omega]
theorem FnExactPadZeros : FnExactPadZeros_pure := by
  intro s n hl hw
  have hb := (wf_bd hw)
  refine ⟨2001, ?_⟩
  unfold laws_FnExactPadZeros.f
  by_cases h : (s.size : Int) > 1048576
  · rw [if_pos h]
  · rw [if_neg h]
    have key : ∃ r, spec_PadZeros.f 2001 s n = some r ∧ impl_PadZeros.f s n = some r := by
      unfold spec_PadZeros.f impl_PadZeros.f
      by_cases h2 : n > 2000
      · rw [if_pos h2, if_pos h2]
        exact ⟨s, rfl, by simp⟩
      · rw [if_neg h2, if_neg h2]
        by_cases h3 : (s.size : Int) ≥ n
        · rw [if_pos h3]
          have := spec_loop s n (by omega) 0 2001 0 (by omega) (by omega) (by omega)
          rw [noughts_zero] at this
          exact ⟨s, this, rfl⟩
        · rw [if_neg h3]
          have hd : wrap64 (n - (s.size : Int)) = (((n - s.size).toNat : Nat) : Int) := by rw [wrap_id (by omega) (by omega)]; omega
          have := spec_loop s n (by omega) (n - s.size).toNat 2001 0 (by omega) (by omega) (by omega)
          rw [noughts_zero, Nat.zero_add] at this
          refine ⟨_, this, ?_⟩
          rw [hd]
          unfold strings_Repeat.f
          rw [if_pos ⟨by omega, by omega, by rw [Int.toNat_natCast]; show 1 * _ ≤ _; omega⟩, Int.toNat_natCast, Option.bind_some]
          have hz := noughts_size (n - s.size).toNat
          unfold noughts at hz
          rw [if_pos (by rw [hz]; omega)]
          rfl
    obtain ⟨r, h1, h2⟩ := key
    rw [h1, h2]
    simp

end Go.Proofs.Ytapmiocpkddbfaa.Pure
