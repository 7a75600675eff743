/- Small laws on lists and on sums within a word, for the pure statements of this seat; no condition beyond those written out. -/
import Derived.Test.YtikfdjgigeggjaaVFnExactKeyValueWords
import Derived.OpenShut
import Derived.Laws.Strings
namespace Go.Proofs.Ytikfdjgigeggjaa.PureKit
open Go.RowKit Go.Proofs.YtikfdjgigeggjaaW.PrintWords

theorem wrap_id {x : Int} (h : -9223372036854775808 ≤ x) (h' : x ≤ 9223372036854775807) : wrap64 x = x := by unfold wrap64; omega
theorem wrap_succ {i n : Nat} (h : i < n) (hn : n ≤ 9223372036854775807) : wrap64 ((i : Int) + 1) = ((i + 1 : Nat) : Int) := by rw [wrap_id (by omega) (by omega)]; rfl
theorem wf_bd {n : Int} (h : (Lit.int .i64 n).wf = true) : -9223372036854775808 ≤ n ∧ n ≤ 9223372036854775807 := bounds_i64 h
theorem rd_nat (xs : List Int) (i : Nat) (h : i < xs.length) : rd xs (i : Int) = xs[i] := by simp [rd, List.getD_eq_getElem?_getD, h]
theorem rdOf_nat {α : Type} (d : α) (xs : List α) (i : Nat) (h : i < xs.length) : rdOf d xs (i : Int) = xs[i] := by simp [rdOf, List.getD_eq_getElem?_getD, h]
theorem getD_nat {α : Type} (d : α) (xs : List α) (i : Nat) (h : i < xs.length) : xs.getD ((i : Int)).toNat d = xs[i] := by simp [List.getD_eq_getElem?_getD, h]
theorem take_step {α : Type} (xs : List α) (i : Nat) (h : i < xs.length) : xs.take (i + 1) = xs.take i ++ [xs[i]] := by rw [List.take_succ_eq_append_getElem h]
theorem set_copy {α β : Type} (f : α → β) (x0 : List α) (acc : List β) (i : Nat) (hi : i < x0.length) (hl : acc.length = x0.length) (h : acc.take i = (x0.take i).map f) :
    (acc.set i (f x0[i])).take (i + 1) = (x0.take (i + 1)).map f := by
  rw [take_step x0 i hi, List.map_append, ← h, take_step _ i (by simp; omega)]
  have e : (acc.set i (f x0[i])).take i = acc.take i := by
    apply List.ext_getElem?
    intro j
    by_cases hj : j < i
    · rw [List.getElem?_take_of_lt hj, List.getElem?_take_of_lt hj, List.getElem?_set_ne (by omega)]
    · rw [List.getElem?_eq_none (by simp; omega), List.getElem?_eq_none (by simp; omega)]
  rw [e]
  simp
theorem ba_ext {s t : ByteArray} : (s.toList = t.toList) ↔ s = t := by
  constructor
  · intro h
    rw [ByteArray.toList_eq, ByteArray.toList_eq] at h
    exact WideShapes.bytes_inj h
  · intro h; rw [h]
theorem ba_len (s : ByteArray) : s.toList.length = s.size := by rw [ByteArray.toList_eq, Array.length_toList]; rfl
theorem toList_ne (s : ByteArray) : (s.toList != ([] : List UInt8)) = decide ((s.size : Int) > 0) := by
  have h := ba_len s
  rw [Bool.eq_iff_iff]
  simp only [bne_iff_ne, ne_eq, decide_eq_true_eq, ← h]
  cases s.toList <;> simp <;> omega
end Go.Proofs.Ytikfdjgigeggjaa.PureKit
