/- The functions that FnFields reaches, each with its contract: the print's form, by wip/tools/myprint.py; no condition of its own. -/
import Derived.Test.YtbocdhkaeglfcaaMFnFieldsx0
import Derived.Test.YtbocdhkaeglfcaaMFnFieldsx2
import Derived.Test.YtbocdhkaeglfcaaMFnFieldsx3
namespace Go.Proofs.Ytbocdhkaeglfcaa.MFnFields
open Go.RowKit Go.Proofs.YtbocdhkaeglfcaaW.PrintWords Go.Proofs.YtbocdhkaeglfcaaW.PrintLast Go.Proofs.YtbocdhkaeglfcaaW.PrintMore
attribute [local go_sem] max2_int min2_int max_two min_two max_three min_three max_four min_four   -- for this text's walks alone
set_option linter.unusedVariables false
set_option linter.unusedSimpArgs false

/-! ### cmp_Less_int: function 126 -/
def cmp_Less_int.f (a0 : Int) (a1 : Int) : Option (Bool) := (cmp_isNaN_int.f a0).bind fun t176 => (if t176 = true then ((cmp_isNaN_int.f a1).bind fun t177 => (if t177 = true then (some (decide (a0 < a1))) else (some true))) else (some (decide (a0 < a1))))
set_option maxHeartbeats 8000000 in
set_option maxRecDepth 100000 in
theorem cmp_Less_int.calls (a0 : Int) (a1 : Int) (r : Bool) (w : World) (h : cmp_Less_int.f a0 a1 = some r) :
    Calls Try.prog 126 #[.int .i64 a0, .int .i64 a1] w fun e w' => e = .returned (.bool r) ∧ Drawn0 w w' := by
  have H : ((cmp_isNaN_int.f a0).bind fun t176 => (if t176 = true then ((cmp_isNaN_int.f a1).bind fun t177 => (if t177 = true then (some (decide (a0 < a1))) else (some true))) else (some (decide (a0 < a1))))) = some r := h
  clear h
  replace H := Option.bind_eq_some_iff.mp H
  obtain ⟨t176, A30, H⟩ := H
  replace H : (if t176 = true then ((cmp_isNaN_int.f a1).bind fun t177 => (if t177 = true then (some (decide (a0 < a1))) else (some true))) else (some (decide (a0 < a1)))) = some r := H
  have A3 := Aside0.mk A30
  clear A30
  by_cases c4 : t176 = true
  · subst c4
    have H1 : ((cmp_isNaN_int.f a1).bind fun t177 => (if t177 = true then (some (decide (a0 < a1))) else (some true))) = some r := by rw [if_pos rfl] at H; exact H
    clear H
    have H := H1
    clear H1
    replace H := Option.bind_eq_some_iff.mp H
    obtain ⟨t177, A50, H⟩ := H
    replace H : (if t177 = true then (some (decide (a0 < a1))) else (some true)) = some r := H
    have A5 := Aside0.mk A50
    clear A50
    by_cases c6 : t177 = true
    · subst c6
      have H1 : (some (decide (a0 < a1))) = some r := by rw [if_pos rfl] at H; exact H
      clear H
      have H := H1
      clear H1
      obtain rfl := Option.some.inj H
      go_enter Try.func126, Try.ntmps126
      go_wp2_with (first | ((with_reducible refine gate_callee (f := 133) rfl ?_); refine goesL_ (some 6) rfl rfl Try.func133 (by kernel_rfl) rfl #[.int .i64 a0] rfl (by (try simp only [List.map_toArray, List.map_cons, List.map_nil]); first | done | rfl | (simp only [List.length_drop, List.length_take]; rfl)) ?_; (with_reducible refine (cmp_isNaN_int.calls a0 true _ A3.out).mono ?_); rintro e w' ⟨rfl, ⟨nd, rfl⟩⟩; refine ⟨_, rfl, ?_⟩) | (go_at_call 133; (with_reducible refine (cmp_isNaN_int.calls a1 true _ A5.out).mono ?_); rintro e w' ⟨rfl, ⟨nd, rfl⟩⟩))
      go_ret
      exact ⟨by first | rfl | (simp; done) | (simp [*]; done), by repeat (first | exact Drawn0.refl _ | apply Drawn0.step)⟩
    · replace c6 := Bool.eq_false_iff.mpr c6
      subst c6
      have H1 : (some true) = some r := by rw [if_neg (show ¬ (false = true) by decide)] at H; exact H
      clear H
      have H := H1
      clear H1
      obtain rfl := Option.some.inj H
      go_enter Try.func126, Try.ntmps126
      go_wp2_with (first | ((with_reducible refine gate_callee (f := 133) rfl ?_); refine goesL_ (some 6) rfl rfl Try.func133 (by kernel_rfl) rfl #[.int .i64 a0] rfl (by (try simp only [List.map_toArray, List.map_cons, List.map_nil]); first | done | rfl | (simp only [List.length_drop, List.length_take]; rfl)) ?_; (with_reducible refine (cmp_isNaN_int.calls a0 true _ A3.out).mono ?_); rintro e w' ⟨rfl, ⟨nd, rfl⟩⟩; refine ⟨_, rfl, ?_⟩) | (go_at_call 133; (with_reducible refine (cmp_isNaN_int.calls a1 false _ A5.out).mono ?_); rintro e w' ⟨rfl, ⟨nd, rfl⟩⟩))
      go_ret
      exact ⟨by first | rfl | (simp; done) | (simp [*]; done), by repeat (first | exact Drawn0.refl _ | apply Drawn0.step)⟩
  · replace c4 := Bool.eq_false_iff.mpr c4
    subst c4
    have H1 : (some (decide (a0 < a1))) = some r := by rw [if_neg (show ¬ (false = true) by decide)] at H; exact H
    clear H
    have H := H1
    clear H1
    obtain rfl := Option.some.inj H
    go_enter Try.func126, Try.ntmps126
    go_wp2_with (first | ((with_reducible refine gate_callee (f := 133) rfl ?_); refine goesL_ (some 6) rfl rfl Try.func133 (by kernel_rfl) rfl #[.int .i64 a0] rfl (by (try simp only [List.map_toArray, List.map_cons, List.map_nil]); first | done | rfl | (simp only [List.length_drop, List.length_take]; rfl)) ?_; (with_reducible refine (cmp_isNaN_int.calls a0 false _ A3.out).mono ?_); rintro e w' ⟨rfl, ⟨nd, rfl⟩⟩; refine ⟨_, rfl, ?_⟩))
    go_ret
    exact ⟨by first | rfl | (simp; done) | (simp [*]; done), by repeat (first | exact Drawn0.refl _ | apply Drawn0.step)⟩

-- NOT PRINTED: function 120 (slices_insertionSortOrdered_int)

-- NOT PRINTED: function 130 (slices_siftDownOrdered_int)

-- NOT PRINTED: function 121 (slices_heapSortOrdered_int)

-- NOT PRINTED: function 122 (slices_breakPatternsOrdered_int)

-- NOT PRINTED: function 134 (slices_order2Ordered_int)

-- NOT PRINTED: function 132 (slices_medianOrdered_int)

-- NOT PRINTED: function 131 (slices_medianAdjacentOrdered_int)

-- NOT PRINTED: function 123 (slices_choosePivotOrdered_int)

-- NOT PRINTED: function 124 (slices_reverseRangeOrdered_int)

-- NOT PRINTED: function 125 (slices_partialInsertionSortOrdered_int)

-- NOT PRINTED: function 127 (slices_partitionEqualOrdered_int)

-- NOT PRINTED: function 128 (slices_partitionOrdered_int)

-- NOT PRINTED: function 108 (slices_pdqsortOrdered_int)

/-! ### slices_Sort_int_int: function 80 -/
def slices_Sort_int_int.f (l0 : List Int) : Option (List Int) := if l0.length < 4611686018427387904 then some (l0.mergeSort fun x y => decide (x ≤ y)) else none
theorem slices_Sort_int_int.calls (P0_ : Nat → Prop) (u9000_ : Value) (l0 : List Int) (r : List Int) (w0 w : World) (hB : Below w0.heap.size w0 w) (ho0 : Kd.R (Kd.int .i64) 3 w w0.heap.size P0_ u9000_ l0) (h : slices_Sort_int_int.f l0 = some r) :
    Calls Try.prog 80 #[u9000_] w fun e w' => e = .returned (.tuple #[]) ∧ Kd.R (Kd.int .i64) 3 w' w0.heap.size (fun k_ => (P0_ k_ ∨ w.heap.size ≤ k_)) u9000_ r ∧ Below w0.heap.size w0 w' ∧ Kept w w' (fun k_ => P0_ k_) := by
  unfold slices_Sort_int_int.f at h
  by_cases c : l0.length < 4611686018427387904
  · rw [if_pos c] at h
    obtain rfl := Option.some.inj h
    have hown := Kd.own_of_R ho0
    rcases hown.2 with ⟨rfl, h0⟩ | ⟨g, cap, cur, rfl, hbase, hbk, q1, q2, q3, q4⟩
    · have e0 : l0 = [] := List.length_eq_zero_iff.1 h0
      subst e0
      refine (Try.slices_Sort_int_none none 0 w).mono ?_
      rintro e w' ⟨he, rfl⟩
      exact ⟨he, by rw [List.mergeSort_nil]; exact Kd.R_nil _ _ _ _ _, hB, Nat.le_refl _, fun _ _ _ => rfl⟩
    · have hlt := (Array.getElem?_eq_some_iff.1 hbk).1
      have hH : Go.Sort.Holds (Value.int .i64) w g 0 l0.toArray := so_holds hbk (by rw [Nat.mul_one] at q4; exact q4)
      refine (Try.slices_Sort_int g 0 cap l0 w hH hlt c).mono ?_
      rintro e w' ⟨he, n, os, rfl⟩
      have ho2 := so_own (enc := Value.int .i64) (n := n) (os := os) (ts := l0.mergeSort fun x y => decide (x ≤ y)) (m := l0.length) (by simp) hbase hbk q1 q2 q3
      refine ⟨he, Kd.R_of_own (by rw [List.length_mergeSort]; exact ho2) (fun k hk => Or.inl (ho0.1 k hk)), hB.grown (so_grownBy _) (Nat.le_trans hbase (Nat.le_of_lt hlt)) (by intro k hk; simp at hk; omega), by simp, fun k hk hne => so_other _ k hk (fun e => hne (by rw [e]; exact ho0.1 g rfl))⟩
  · rw [if_neg c] at h; cases h

-- NOT PRINTED: function 48 (slices_Sorted_int)

-- NOT PRINTED: function 49 (slices_Values_int_int)

/-! ### impl_IsOrder: function 15 -/
/-! #### slices.Sorted(slices.Values(l)) at ints: the worked texts on ranges over functions, turned to this dump -/
section
open Go.Sort
attribute [local go_sem] Oper.semAt_some
def impl_IsOrder.upto {α : Type} (f : Nat → α) (k : Nat) : List α := (List.range k).map f
theorem impl_IsOrder.upto_succ {α : Type} (f : Nat → α) (k : Nat) : impl_IsOrder.upto f (k + 1) = impl_IsOrder.upto f k ++ [f k] := by simp [impl_IsOrder.upto, List.range_succ]
theorem impl_IsOrder.upto_length {α : Type} (f : Nat → α) (k : Nat) : (impl_IsOrder.upto f k).length = k := by simp [impl_IsOrder.upto]
theorem impl_IsOrder.upto_all (zs : List Int) : impl_IsOrder.upto (fun j => zs[j]?.getD 0) zs.length = zs := by
  apply List.ext_getElem
  · simp [impl_IsOrder.upto]
  · intro i h1 h2
    simp [impl_IsOrder.upto, h2]
theorem impl_IsOrder.upto_take (zs : List Int) {k : Nat} (hk : k ≤ zs.length) : impl_IsOrder.upto (fun j => zs[j]?.getD 0) k = zs.take k := by
  apply List.ext_getElem
  · simp [impl_IsOrder.upto, hk]
  · intro i h1 h2
    have : i < zs.length := by simp [impl_IsOrder.upto] at h1; omega
    simp [impl_IsOrder.upto, this]
set_option maxRecDepth 100000 in
set_option maxHeartbeats 2000000 in
theorem impl_IsOrder.values1_in (F : Fence) (n : Nat) (h7 : F.fn 81) (hro : F.round = none) (hn : 1 ≤ n) (l Bs n₀ b off len cap : Nat) (zs : List Int) (hreach : len * 8 ≤ 140737488351232) (hb : b < n₀) (J Jx : List Int → World → Prop)
    (hY : ∀ pre x W, J pre W → pre.length < len → YieldAt F (n - 1) Try.prog l #[.int .i64 x] W fun e W' =>
      (e = .returned (.bool true) ∧ J (pre ++ [x]) W' ∧ Below n₀ W W') ∨ (e = .returned (.bool false) ∧ Jx (pre ++ [x]) W'))
    (W : World) (hBs : W.cell? ⟨Bs, 0, none⟩ = some (.slice (some ⟨b, off, none⟩) len cap)) (hc : ∀ j, j < len → W.cell? ⟨b, off + j, none⟩ = some (.int .i64 (zs[j]?.getD 0))) (h0 : J [] W) :
    CallsIn F n Try.prog 81 #[.func (.yield l) #[] #[], .pointer (some ⟨Bs, 0, none⟩)] W fun e W' => (∃ v, e = .returned v) ∧
      ((∃ ys, ys = impl_IsOrder.upto (fun j => zs[j]?.getD 0) len ∧ J ys W') ∨ (∃ pre, (∃ k, k ≤ len ∧ pre = impl_IsOrder.upto (fun j => zs[j]?.getD 0) k) ∧ Jx pre W')) := by
  refine callsIn_of_wp Try.func81 rfl h7 ?_ hro
  simp only [Try.ntmps81, List.size_toArray, List.length_cons, List.length_nil, Nat.reduceAdd, Nat.reduceSub, Array.replicate_succ, Array.replicate_zero, List.push_toArray, List.append_toArray, List.nil_append, List.cons_append]
  gi_wp2
  gi_loopw [7] (fun i wr => ∃ k : Nat, k ≤ len ∧ i = .int .i64 k ∧ J (impl_IsOrder.upto (fun j => zs[j]?.getD 0) k) wr ∧ Below n₀ W wr)
    (fun i _ => len - (intOf i).toNat)
  case atStart => exact ⟨0, Nat.zero_le _, rfl, h0, Below.refl _ _⟩
  case round =>
    obtain ⟨k, hk, rfl, hJs, hnx⟩ := hrel
    have hcx : k < len → wr.cell? ⟨b, off + k, none⟩ = some (.int .i64 (zs[k]?.getD 0)) := fun h => (hnx.cell (p := ⟨b, off + k, none⟩) hb).trans (hc k h)
    by_cases hlt : k < len
    · obtain ⟨fn, tmps, assign, body, hy, hR⟩ := hY _ (zs[k]?.getD 0) wr hJs (by rw [impl_IsOrder.upto_length]; exact hlt)
      have hcx' := hcx hlt
      gi_wp2
      refine hR.mono ?_
      rintro e W3 (⟨rfl, hJ3, hk3⟩ | ⟨rfl, hJx3⟩)
      · gi_wp2
        go_roundw
        case rel => exact ⟨k + 1, by omega, by simp, by rw [impl_IsOrder.upto_succ]; exact hJ3, hnx.trans hk3⟩
        case measure => simp [intOf]; omega
      · gi_wp2
        refine bodyPost_ret (results_none rfl _ _ _) rfl ?_
        exact ⟨⟨_, rfl⟩, .inr ⟨_, ⟨k + 1, by omega, (impl_IsOrder.upto_succ _ _).symm⟩, hJx3⟩⟩
    · obtain rfl : k = len := by omega
      gi_wp2
      go_end0
      exact ⟨⟨_, rfl⟩, .inl ⟨_, rfl, hJs⟩⟩
set_option maxRecDepth 100000 in
set_option maxHeartbeats 1000000 in
theorem impl_IsOrder.values1_nil_in (F : Fence) (n : Nat) (h7 : F.fn 81) (hro : F.round = none) (l Bs cap : Nat) (a : Option Addr) (J : List Int → World → Prop) (W : World) (hBs : W.cell? ⟨Bs, 0, none⟩ = some (.slice a 0 cap)) (h0 : J [] W) :
    CallsIn F n Try.prog 81 #[.func (.yield l) #[] #[], .pointer (some ⟨Bs, 0, none⟩)] W fun e W' => (∃ v, e = .returned v) ∧ J [] W' := by
  refine callsIn_of_wp Try.func81 rfl h7 ?_ hro
  simp only [Try.ntmps81, List.size_toArray, List.length_cons, List.length_nil, Nat.reduceAdd, Nat.reduceSub, Array.replicate_succ, Array.replicate_zero, List.push_toArray, List.append_toArray, List.nil_append, List.cons_append]
  gi_wp2
  gi_loopw [7] (fun i wr => i = .int .i64 0 ∧ J [] wr) (fun _ _ => 0)
  case atStart => exact ⟨rfl, h0⟩
  case round =>
    obtain ⟨rfl, hJs⟩ := hrel
    gi_wp2
    go_end0
    exact ⟨⟨_, rfl⟩, hJs⟩
/-- The slice value sv holds the ints zs, in a block below n₀; or there are none. -/
def impl_IsOrder.Ints (n₀ : Nat) (W : World) (sv : Value) (zs : List Int) : Prop :=
  (∃ a cap, sv = .slice a 0 cap ∧ zs = []) ∨ ∃ b off cap, sv = .slice (some ⟨b, off, none⟩) zs.length cap ∧ b < n₀ ∧ ∀ j, j < zs.length → W.cell? ⟨b, off + j, none⟩ = some (.int .i64 (zs[j]?.getD 0))
theorem impl_IsOrder.Ints.below {n₀ : Nat} {A B : World} (h : Below n₀ A B) {sv : Value} {zs : List Int} : impl_IsOrder.Ints n₀ A sv zs → impl_IsOrder.Ints n₀ B sv zs
  | .inl e => .inl e
  | .inr ⟨b, off, cap, e, hb, hc⟩ => .inr ⟨b, off, cap, e, hb, fun j hj => (h.cell (p := ⟨b, off + j, none⟩) hb).trans (hc j hj)⟩
theorem impl_IsOrder.values_stops (F : Fence) (n : Nat) (h7 : F.fn 81) (hro : F.round = none) (hn : 1 ≤ n) (Bs n₀ : Nat) (sv : Value) (zs : List Int) (hreach : zs.length * 8 ≤ 140737488351232) (w : World) (hBs : Bs < w.heap.size) (hn₀ : n₀ ≤ w.heap.size)
    (hc : w.cell? ⟨Bs, 0, none⟩ = some sv) (hI : impl_IsOrder.Ints n₀ w sv zs) :
    SeqStopsK F n Try.prog 81 #[.pointer (some ⟨Bs, 0, none⟩)] (fun x : Int => #[Value.int .i64 x]) (Below n₀) (fun ys => ys = zs) (fun pre => pre <+: zs) zs.length w := fun l J Jx W hW _ _ hY h0 => by
  have hc' := (hW.cell (p := ⟨Bs, 0, none⟩) hBs).trans hc
  rcases hI.below (hW.mono hn₀) with ⟨a, cap, rfl, rfl⟩ | ⟨b, off, cap, rfl, hb, hcs⟩
  · exact (impl_IsOrder.values1_nil_in F n h7 hro l Bs cap a J W hc' h0).mono fun e W' ⟨he, hj⟩ => ⟨he, .inl ⟨_, rfl, hj⟩⟩
  · refine (impl_IsOrder.values1_in F n h7 hro hn l Bs n₀ b off zs.length cap zs hreach hb J Jx hY W hc' hcs h0).mono ?_
    rintro e W' ⟨he, ⟨ys, rfl, hj⟩ | ⟨pre, ⟨k, hk, rfl⟩, hj⟩⟩
    · exact ⟨he, .inl ⟨_, impl_IsOrder.upto_all zs, hj⟩⟩
    · exact ⟨he, .inr ⟨_, by rw [impl_IsOrder.upto_take zs hk]; exact List.take_prefix _ _, hj⟩⟩
theorem impl_IsOrder.info3 : (Try.prog.info? 3).map (fun i => (i.zero, i.size, i.bytes)) = some (some (.int .i64 0), 1, 8) := by kernel_rfl
set_option maxRecDepth 100000 in
set_option maxHeartbeats 2000000 in
/-- slices.AppendSeq(nil, slices.Values(l)): a slice of its own that holds l. -/
theorem impl_IsOrder.append_in (F : Fence) (n : Nat) (h3 : F.fn 107) (h5 : F.fn 81) (hro : F.round = none) (hn : 3 ≤ n) (Bs : Nat) (sv : Value) (zs : List Int) (hlen : zs.length ≤ maxLen) (hbytes : zs.length * 8 ≤ 140737488351232) (w : World) (hBs : Bs < w.heap.size) (hc : w.cell? ⟨Bs, 0, none⟩ = some sv) (hL : impl_IsOrder.Ints w.heap.size w sv zs) :
    CallsIn F n Try.prog 107 #[.slice none 0 0, .func (.func 81) #[] #[.pointer (some ⟨Bs, 0, none⟩)]] w fun e W' => ∃ v, e = .returned v ∧ W'.ownsRow w.heap.size 3 1 v zs.length (zs.map (Value.int .i64)) ∧ Below w.heap.size w W' := by
  have h1 : 1 ≤ n := by omega
  obtain ⟨i0, hi, hz0, hz1, hz2⟩ := info_parts impl_IsOrder.info3
  refine callsIn_of_wp_marks Try.func107 rfl h3 ?_ hro
  simp only [Try.ntmps107, List.size_toArray, List.length_cons, List.length_nil, Nat.reduceAdd, Nat.reduceSub, Array.replicate_succ, Array.replicate_zero, List.push_toArray, List.append_toArray, List.nil_append, List.cons_append]
  gi_wp2
  have bO := Boxed.new w 23 (.slice none 0 0)
  have hB0 : Below w.heap.size w (w.alloc (.cells #[.slice none 0 0] 23)) := (Below.refl _ w).alloc (Nat.le_refl _) _
  refine wpIn_rangeFunc_ownG hro h1 (gf := 81) (lb := #[.pointer (some ⟨Bs, 0, none⟩)]) rfl h5 (enters_of Try.func81 (by kernel_rfl) rfl)
    (impl_IsOrder.values_stops F (n - 1) h5 hro (by omega) Bs w.heap.size sv zs hbytes _ (by simp; omega) (by simp) ((hB0.cell (p := ⟨Bs, 0, none⟩) hBs).trans hc) (hL.below hB0)) belowK_t (belowK_b (by simp)) (Below.refl _ _) (fun _ => rfl)
    (fun pre W => (∃ v, Boxed W w.heap.size 23 v ∧ W.ownsRow w.heap.size 3 1 v pre.length (pre.map (Value.int .i64)) ∧ True) ∧ Below w.heap.size w W)
    (fun _ _ _ => False)
    (OwnFrom.and (Own.from (holdsRow_own w.heap.size w.heap.size 23 3 1 (fun (pre : List Int) => pre.length) (fun (pre : List Int) => pre.map (Value.int .i64)) (fun (pre : List Int) v => True)) _) (ownFrom_below (Nat.le_refl _) (by simp)))
    (fun _ _ _ _ _ hs _ _ => hs)
    ⟨⟨_, bO, World.ownsRow_nil _ _ _ _, trivial⟩, hB0⟩
    (fun x => { tmps := #[.slice none 0 0, .func (.func 81) #[] #[.pointer (some ⟨Bs, 0, none⟩)], .pointer (some ⟨w.heap.size, 0, none⟩), undef, .slice none 0 0, .int .i64 x, .func (.func 81) #[] #[.pointer (some ⟨Bs, 0, none⟩)], .int .i64 x, undef, undef, undef, undef, undef], defers := [] }) ?assign ?body ?done ?stop
  case assign =>
    intro l x W K hK
    gi_wp2
    exact hK
  case body =>
    rintro l pre x W ⟨⟨v, hv, hrow, hnil⟩, hB⟩ hlt
    have hc := hv.cell
    gi_wp2_with (gi_at_builtin; refine wpListIn_append_own _ rfl _ _ 23 rfl w.heap.size 3 i0 (.int .i64 0) 1 8 Try.underlying23 hi hz0 hz1 hz2 rfl (by decide) _ _ _ rfl (hrow.alloc _) ⟨W.heap.size, 0, none⟩ 1 1 [.int .i64 x] rfl rfl (cell_one_new _ _ _) (by simp [Value.oneCell']) (by omega) (by omega) (by have := hB.size; simp; omega) ?_; intro v' w1 hown' hgrow _; obtain ⟨g', cap', rfl⟩ := ownsRow_succ hown'; obtain ⟨hv1, hv2, hr2, hk2, hb2⟩ := hv.appended (by decide) hrow hB.size (Nat.le_refl _) hown' hgrow; have hc1 := hv1.cell; have hf1 := hv1.frozen)
    exact ⟨hk2.from _, hb2, ⟨_, hv2, by simpa using hr2, trivial⟩, hB.trans hb2⟩
  case done =>
    rintro D ys W hD rfl ⟨⟨v, hv, hrow, hnil⟩, hB⟩ hK
    have hc := hv.cell
    gi_wp2
    refine ⟨by simp, .inl ⟨_, _, rfl, run_takeDeferred hK, ?_⟩⟩
    exact ⟨_, results_tmp rfl _ _ _, v, rfl, ownsRow_putObj hrow _ hK rfl, hB.trans (belowK_b (w := w) (Nat.le_refl _) W D _ _ (by simp at hD; omega) hK rfl rfl)⟩
  case stop =>
    rintro D c pre W _ _ h _
    exact h.elim
end
theorem impl_IsOrder.append (Bs : Nat) (sv : Value) (zs : List Int) (hbytes : zs.length * 8 ≤ 140737488351232) (w : World) (hBs : Bs < w.heap.size) (hc : w.cell? ⟨Bs, 0, none⟩ = some sv) (hL : impl_IsOrder.Ints w.heap.size w sv zs) :
    Calls Try.prog 107 #[.slice none 0 0, .func (.func 81) #[] #[.pointer (some ⟨Bs, 0, none⟩)]] w fun e W' => ∃ v, e = .returned v ∧ Kd.R (Kd.int .i64) 3 W' w.heap.size (fun _ => True) v zs ∧ Below w.heap.size w W' :=
  (callsIn_wide.1 (impl_IsOrder.append_in Fence.wide 6 trivial trivial rfl (by omega) Bs sv zs (by unfold maxLen; omega) hbytes w hBs hc hL)).mono fun e W' ⟨v, he, hr, hb⟩ => ⟨v, he, Kd.R_of_own hr (fun _ _ => trivial), hb⟩
set_option maxHeartbeats 800000 in
theorem impl_IsOrder.collect (Bs : Nat) (sv : Value) (zs : List Int) (hbytes : zs.length * 8 ≤ 140737488351232) (w : World) (hBs : Bs < w.heap.size) (hc : w.cell? ⟨Bs, 0, none⟩ = some sv) (hL : impl_IsOrder.Ints w.heap.size w sv zs) :
    Calls Try.prog 79 #[.func (.func 81) #[] #[.pointer (some ⟨Bs, 0, none⟩)]] w fun e W' => ∃ v, e = .returned v ∧ Kd.R (Kd.int .i64) 3 W' w.heap.size (fun _ => True) v zs ∧ Below w.heap.size w W' := by
  have HAP := Aside0.mk (impl_IsOrder.append Bs sv zs hbytes w hBs hc hL)
  clear hc hL
  go_enter Try.func79, Try.ntmps79
  go_wp2_with fail
  refine HAP.out.mono ?_
  rintro e w2 ⟨v, rfl, ho, hb⟩
  have HO := Aside0.mk ho
  have HB := Aside0.mk hb
  clear ho hb HAP
  go_wp2
  go_ret
  exact ⟨_, rfl, HO.out, HB.out⟩
set_option maxHeartbeats 800000 in
theorem impl_IsOrder.sorted (Bs : Nat) (sv : Value) (zs : List Int) (hbytes : zs.length * 8 ≤ 140737488351232) (w : World) (hBs : Bs < w.heap.size) (hc : w.cell? ⟨Bs, 0, none⟩ = some sv) (hL : impl_IsOrder.Ints w.heap.size w sv zs) :
    Calls Try.prog 48 #[.func (.func 81) #[] #[.pointer (some ⟨Bs, 0, none⟩)]] w fun e W' => ∃ v, e = .returned v ∧ Kd.R (Kd.int .i64) 3 W' w.heap.size (fun _ => True) v (zs.mergeSort fun x y => decide (x ≤ y)) ∧ Below w.heap.size w W' := by
  have HAP := Aside0.mk (impl_IsOrder.collect Bs sv zs hbytes w hBs hc hL)
  have HS := Aside0.mk (show slices_Sort_int_int.f zs = some (zs.mergeSort fun x y => decide (x ≤ y)) from if_pos (by omega))
  clear hc hL hbytes
  go_enter Try.func48, Try.ntmps48
  go_wp2_with fail
  refine HAP.out.mono ?_
  rintro e w2 ⟨v, rfl, ho, hb⟩
  have HO := Aside0.mk ho
  have HB := Aside0.mk hb
  clear ho hb HAP
  go_wp2_with fail
  refine (slices_Sort_int_int.calls (fun _ => True) v zs _ w _ HB.out HO.out HS.out).mono ?_
  rintro e w3 ⟨rfl, ho, hb, _⟩
  have HO2 := Aside0.mk (Kd.R_mono ho (fun _ _ => trivial) : Kd.R (Kd.int .i64) 3 w3 w.heap.size (fun _ => True) v (zs.mergeSort fun x y => decide (x ≤ y)))
  have HB2 := Aside0.mk hb
  clear ho hb HO HB
  go_wp2
  go_ret
  exact ⟨_, rfl, HO2.out, HB2.out⟩
set_option maxHeartbeats 800000 in
theorem impl_IsOrder.values (A0 : Option Addr) (n c : Nat) (w : World) :
    Calls Try.prog 49 #[.slice A0 n c] w fun e W' => e = .returned (.func (.func 81) #[] #[.pointer (some ⟨w.heap.size, 0, none⟩)]) ∧ W' = w.alloc (.cells #[.slice A0 n c] 23) := by
  go_enter Try.func49, Try.ntmps49
  go_wp2
  go_ret
  exact ⟨rfl, rfl⟩
def impl_IsOrder.f (k : Nat) (a0 : Int) (l1 : List Int) : Option Bool := (impl_within.f a0 0 8).bind fun b => if b = true then (if l1.length * 8 ≤ 140737488351232 then (impl_upTo.f k a0).bind fun u => slices_Equal_int_int.f k (l1.mergeSort fun x y => decide (x ≤ y)) u else none) else some false
theorem impl_IsOrder.mono : ∀ a0 a1 k, LeO (impl_IsOrder.f k a0 a1) (impl_IsOrder.f (k + 1) a0 a1) := fun a0 a1 k =>
  LeO.bind (LeO.refl _) (fun b => LeO.ite (LeO.ite (LeO.bind (impl_upTo.mono _ k) (fun _ => slices_Equal_int_int.mono _ _ k)) (LeO.refl _)) (LeO.refl _))
theorem impl_IsOrder.ints {w : World} {A1 : Option Addr} {c1 : Nat} {l1 : List Int} (h : Kd.C (Kd.int .i64) w A1 l1.length l1) : impl_IsOrder.Ints w.heap.size w (.slice A1 l1.length c1) l1 := by
  rcases Nat.eq_zero_or_pos l1.length with hz | hp
  · have e0 : l1 = [] := List.length_eq_zero_iff.1 hz
    subst e0
    exact .inl ⟨_, _, rfl, rfl⟩
  · have hcell : ∀ (j : Nat), j < l1.length → ∃ ad, A1 = some ad ∧ w.cell? (ad.add j) = some (.int .i64 (l1[j]?.getD 0)) := by
      intro j hj
      obtain ⟨ad, e, hc⟩ := Kd.at_int h (j : Int) (by omega) (by omega)
      refine ⟨ad, e, ?_⟩
      rw [Int.toNat_natCast] at hc
      rw [hc, rd, Int.toNat_natCast, List.getD_eq_getElem?_getD]
    obtain ⟨ad, rfl, h0⟩ := hcell 0 hp
    obtain ⟨bk, o, p⟩ := ad
    cases p with
    | some p =>
      simp only [World.cell?, Addr.add, if_true, Option.isSome_some] at h0
      split at h0 <;> cases h0
    | none =>
      refine .inr ⟨bk, o, c1, rfl, ?_, fun j hj => ?_⟩
      · unfold World.cell? at h0
        rcases Nat.lt_or_ge bk w.heap.size with c | c
        · exact c
        · simp [Addr.add, Array.getElem?_eq_none c] at h0
      · obtain ⟨ad', e', h'⟩ := hcell j hj
        cases e'
        rcases Nat.eq_zero_or_pos j with rfl | hj0
        · exact h'
        · simpa [Addr.add, show ¬ j = 0 by omega] using h'
set_option maxHeartbeats 2000000 in
set_option maxRecDepth 100000 in
theorem impl_IsOrder.calls (k : Nat) (a0 : Int) (A1 : Option Addr) (c1 : Nat) (l1 : List Int) (r : Bool) (w : World) (hr1 : Kd.C (Kd.int .i64) w A1 l1.length l1) (hc1 : l1.length ≤ c1) (h : impl_IsOrder.f k a0 l1 = some r) :
    Calls Try.prog 15 #[.int .i64 a0, .slice A1 l1.length c1] w fun e w' => e = .returned (.bool r) ∧ Below w.heap.size w w' := by
  obtain ⟨b, hW, h⟩ := Option.bind_eq_some_iff.mp h
  have HW := Aside0.mk hW
  have HR := Aside0.mk hr1
  clear hW hr1 hc1
  cases b with
  | false =>
    rw [if_neg (by simp)] at h
    obtain rfl := Option.some.inj h
    clear h
    go_enter Try.func15, Try.ntmps15
    go_wp2_with fail
    refine (impl_within.calls a0 0 8 false _ HW.out).mono ?_
    rintro e w2 ⟨rfl, hd⟩
    have HD := Aside0.mk hd.below
    clear hd
    go_wp2
    go_ret
    exact ⟨rfl, HD.out⟩
  | true =>
    rw [if_pos rfl] at h
    by_cases hlen : l1.length * 8 ≤ 140737488351232
    · rw [if_pos hlen] at h
      obtain ⟨u, hU, h⟩ := Option.bind_eq_some_iff.mp h
      have HU := Aside0.mk hU
      have HE := Aside0.mk h
      have HL := Aside0.mk hlen
      clear hU h hlen
      go_enter Try.func15, Try.ntmps15
      go_wp2_with fail
      refine (impl_within.calls a0 0 8 true _ HW.out).mono ?_
      rintro e w2 ⟨rfl, hd⟩
      have HB := Aside0.mk hd.below
      clear hd
      go_wp2_with fail
      refine (impl_IsOrder.values A1 l1.length c1 w2).mono ?_
      rintro e w3 ⟨rfl, hw3⟩
      have hb3 : Below w2.heap.size w2 w3 := by rw [hw3]; exact (Below.refl _ _).alloc (Nat.le_refl _) _
      have hc3 : w3.cell? ⟨w2.heap.size, 0, none⟩ = some (.slice A1 l1.length c1) := by rw [hw3]; simp
      have hs3 : w2.heap.size < w3.heap.size := by rw [hw3]; simp
      have HB3 := Aside0.mk (HB.out.trans (hb3.mono HB.out.size))
      have HI := Aside0.mk (impl_IsOrder.ints (c1 := c1) (Kd.C_below HR.out HB3.out))
      have HS := Aside0.mk (impl_IsOrder.sorted w2.heap.size _ l1 HL.out w3 hs3 hc3 HI.out)
      clear hb3 hc3 hs3 hw3 HI HB
      generalize (l1.mergeSort fun x y => decide (x ≤ y)) = S at HS HE
      go_wp2_with fail
      refine HS.out.mono ?_
      rintro e w4 ⟨v, rfl, ho, hb⟩
      have HO := Aside0.mk ho
      have HB4 := Aside0.mk (HB3.out.trans (hb.mono HB3.out.size))
      clear ho hb HS HB3
      go_wp2_with fail
      refine (impl_upTo.calls k a0 u _ HU.out).mono ?_
      rintro e w5 ⟨v2, rfl, ho2, hb2⟩
      have HO1 := Aside0.mk (Kd.R_below HO.out hb2)
      have HO2 := Aside0.mk ho2
      have HB5 := Aside0.mk (HB4.out.trans (hb2.mono HB4.out.size))
      clear ho2 hb2 HO HB4
      obtain ⟨Aa, ca, ea⟩ := Kd.R_slice HO1.out
      subst ea
      obtain ⟨Ab, cb, eb⟩ := Kd.R_slice HO2.out
      subst eb
      go_wp2_with fail
      refine (slices_Equal_int_int.calls k Aa ca S Ab cb u r _ (Kd.R_reads' HO1.out).2.2 (Kd.R_reads' HO1.out).2.1 (Kd.R_reads' HO2.out).2.2 (Kd.R_reads' HO2.out).2.1 HE.out).mono ?_
      rintro e w6 ⟨rfl, hd⟩
      have HB6 := Aside0.mk (HB5.out.trans (hd.below.mono HB5.out.size))
      clear hd HO1 HO2 HB5
      go_wp2
      go_ret
      exact ⟨rfl, HB6.out⟩
    · rw [if_neg hlen] at h; cases h

/-! ### slices_IndexFunc_int_int: function 82 -/
set_option maxHeartbeats 2000000 in
/-- slices.IndexFunc over integers: whatever the function value says of each element. -/
theorem mutualIdx.calls (p : Int → Bool) (lb : Array Value) (A0 : Option Addr) (c0 : Nat) (l0 : List Int) (w : World) (hr0 : Kd.C (Kd.int .i64) w A0 l0.length l0) (hc0 : l0.length ≤ c0)
    (hp : ∀ (W : World) (x : Int), Below w.heap.size w W → Calls Try.prog 69 (#[.int .i64 x] ++ lb) W fun e w' => e = .returned (.bool (p x)) ∧ Below W.heap.size W w') :
    Calls Try.prog 82 #[.slice A0 l0.length c0, .func (.func 69) #[] lb] w fun e w' => e = .returned (.int .i64 (idxP p l0)) ∧ Below w.heap.size w w' := by
  have HR0 := Aside0.mk hr0
  have HC0 := Aside0.mk hc0
  have HP := Aside0.mk hp
  have hmax : l0.length ≤ 9223372036854775807 := hr0.2.1
  clear hr0 hc0 hp
  have HB := Aside0.mk (Below.refl w.heap.size w)
  go_enter Try.func82, Try.ntmps82
  go_wp2
  go_loopg [8] l0.length (fun gk v8 w' => ∃ i : Nat, v8 = .int .i64 i ∧ Aside0 (i ≤ l0.length) ∧ Aside0 (l0.length - i ≤ gk) ∧ Aside0 (Below w.heap.size w w') ∧ Aside0 (∀ j z, j < i → l0[j]? = some z → p z = false))
  case atStart => exact ⟨0, rfl, ⟨Nat.zero_le _⟩, ⟨by omega⟩, HB, ⟨fun j z hj => absurd hj (Nat.not_lt_zero _)⟩⟩
  case round =>
    obtain ⟨i, rfl, HI, HG, HB1, HF⟩ := hrel
    by_cases hlt : i < l0.length
    · have hltz : decide ((i : Int) < (l0.length : Int)) = true := decide_eq_true (by omega)
      obtain ⟨ad, ea, hx0⟩ := Kd.at_int HR0.out (i : Int) (by omega) (by omega)
      cases ea
      rw [Int.toNat_natCast] at hx0
      obtain ⟨y, hy⟩ : ∃ y, l0[i]? = some y := ⟨_, List.getElem?_eq_getElem hlt⟩
      have hrd : rd l0 (i : Int) = y := by simp [rd, List.getD_eq_getElem?_getD, hy]
      have HY := Aside0.mk hy
      rw [hrd] at hx0
      clear hrd hy
      have up : ∀ (a : Addr) (v : Value), w.cell? a = some v → wr.cell? a = some v := fun a v h => (HB1.out.cell (World.block_lt_of_cell? w _ h)).trans h
      replace hx0 := up _ _ hx0
      clear up
      have h0 : decide (0 ≤ (i : Int)) = true := decide_eq_true (by omega)
      rcases Bool.eq_false_or_eq_true (p y) with hq | hq
      · have hcall := HP.out wr y HB1.out
        rw [hq] at hcall
        have HQ := Aside0.mk hq
        have HC := Aside0.mk hcall
        clear hq hcall
        go_wp2_with fail
        refine HC.out.mono ?_
        rintro e w2 ⟨rfl, hb2⟩
        have HB2 := Aside0.mk (HB1.out.trans (hb2.mono HB1.out.size))
        clear hb2
        go_wp2
        go_ret
        exact ⟨by rw [idxP_hit p l0 i y HY.out HQ.out HF.out]; rfl, HB2.out⟩
      · have hcall := HP.out wr y HB1.out
        rw [hq] at hcall
        have HQ := Aside0.mk hq
        have HC := Aside0.mk hcall
        clear hq hcall
        go_wp2_with fail
        refine HC.out.mono ?_
        rintro e w2 ⟨rfl, hb2⟩
        have HB2 := Aside0.mk (HB1.out.trans (hb2.mono HB1.out.size))
        clear hb2
        go_wp2
        go_roundg (l0.length - (i + 1))
        case measure => have := HG.out; omega
        case rel =>
          refine ⟨i + 1, by go_num, ⟨by omega⟩, ⟨Nat.le_refl _⟩, HB2, ⟨fun j z hj hz => ?_⟩⟩
          by_cases e : j = i
          · subst e
            rw [HY.out] at hz
            cases hz
            exact HQ.out
          · exact HF.out j z (by omega) hz
    · have hltz : decide ((i : Int) < (l0.length : Int)) = false := decide_eq_false (by omega)
      go_wp2
      go_ret
      exact ⟨by rw [idxP_miss p l0 (fun j z hj hz => HF.out j z (by omega) hz)]; rfl, HB1.out⟩
def mutualP (x : Int) : Bool := (x == 5) || (x == 6)
def slices_IndexFunc_int_int.f (l0 : List Int) (_a1 : Value) : Option (Int) := some (idxP mutualP l0)
set_option maxHeartbeats 8000000 in
set_option maxRecDepth 100000 in
theorem mutualLit0 (a0 : Int) (w : World) : Calls Try.prog 69 #[.int .i64 a0] w fun e w' => e = .returned (.bool (mutualP a0)) ∧ Drawn0 w w' := by
  unfold mutualP
  by_cases c2 : a0 = 5
  · have c2b0 : (a0 == 5) = true := beq_iff_eq.mpr c2
    have c2b1 : (a0 != 5) = false := bne_eq_false_iff_eq.mpr c2
    rw [c2b0]
    clear c2
    go_enter Try.func69, Try.ntmps69
    go_wp2
    go_ret
    exact ⟨by first | rfl | (simp; done) | (simp [*]; done), by repeat (first | exact Drawn0.refl _ | apply Drawn0.step)⟩
  · have c2b0 : (a0 == 5) = false := beq_eq_false_iff_ne.mpr c2
    have c2b1 : (a0 != 5) = true := bne_iff_ne.mpr c2
    rw [c2b0]
    go_enter Try.func69, Try.ntmps69
    go_wp2
    go_ret
    exact ⟨by first | rfl | (simp; done) | (simp [*]; done), by repeat (first | exact Drawn0.refl _ | apply Drawn0.step)⟩
theorem mutualLit (x : Int) (w : World) : Calls Try.prog 69 (#[.int .i64 x] ++ #[]) w fun e w' => e = .returned (.bool (mutualP x)) ∧ Below w.heap.size w w' :=
  (mutualLit0 x w).mono fun e w' h => ⟨h.1, h.2.below⟩
theorem slices_IndexFunc_int_int.calls (A0 : Option Addr) (c0 : Nat) (l0 : List Int) (a1 : Value) (r : Int) (w : World) (hr0 : Kd.C (Kd.int .i64) w A0 l0.length l0) (hc0 : l0.length ≤ c0) (h : slices_IndexFunc_int_int.f l0 a1 = some r) :
    Calls Try.prog 82 #[.slice A0 l0.length c0, .func (.func 69) #[] #[]] w fun e w' => e = .returned (.int .i64 r) ∧ Below w.heap.size w w' := by
  obtain rfl := Option.some.inj h
  exact mutualIdx.calls mutualP #[] A0 c0 l0 w hr0 hc0 (fun W x _ => mutualLit x W)

-- NOT PRINTED: function 50 (slices_DeleteFunc_int_int)

/-! ### impl_OfClub: function 16 -/
/-- clear on the rest of a row of one's own: the first elements stay. -/
theorem run_clear_row {P : Program} (w : World) (t e ty : TypeId) (z : Value) (ht : P.underlying t = some (.slice e)) (hv : ∀ w, (zeroValue e).run P w = .ok z w) (h1 : ∀ q ∈ z.cells.toList, q.oneCell' = true) (b o n c : Nat) (hn : 0 < n)
    (hc : ∀ j, j < n * z.cells.size → (w.cell? ⟨b, o + j, none⟩).isSome = true) (hf : ∀ j, j < n * z.cells.size → w.frozen? ⟨b, o + j, none⟩ = false) :
    ∃ vs : List Value, vs.length = n * z.cells.size ∧ (Builtin.clear_ #[t] ty #[.slice (some ⟨b, o, none⟩) n c]).run P w = .ok (.tuple #[]) (w.setCells b o vs) := by
  have hl : (Builtin.zeroCells z.cells n).toList.length = n * z.cells.size := by simp [Builtin.zeroCells]
  have hone : ∀ v ∈ (Builtin.zeroCells z.cells n).toList, v.oneCell' = true := by
    intro v hv'
    simp only [Builtin.zeroCells, Array.toList_map, List.mem_map, Array.toList_range, List.mem_range] at hv'
    obtain ⟨j, hj, rfl⟩ := hv'
    have hpos : 0 < z.cells.size := by
      rcases Nat.eq_zero_or_pos z.cells.size with h | h
      · rw [h] at hj; simp at hj
      · exact h
    have hlt : j % z.cells.size < z.cells.size := Nat.mod_lt _ hpos
    apply h1
    rw [getElem!_pos z.cells _ hlt]
    simp
  have hst := run_storeCells_cells (P := P) b o (Builtin.zeroCells z.cells n).toList 0 w (by rw [hl]; simpa using hc) (by rw [hl]; simpa using hf) hone
  simp only [Nat.add_zero] at hst
  refine ⟨_, hl, ?_⟩
  obtain ⟨m, rfl⟩ : ∃ m, n = m + 1 := ⟨n - 1, by omega⟩
  simp [Builtin.clear_, run_underlying ht, hv, hst]
theorem R_cleared {α : Type} {d : Kd α} {e : Nat} {w : World} {base : Nat} {ok : Nat → Prop} {g n cap : Nat} {xs : List α} (h : d.R e w base ok (.slice (some ⟨g, 0, none⟩) n cap) xs) (i : Nat) (hi : i ≤ n) (vs : List Value) (hv : vs.length = (n - i) * d.sz) :
    d.R e (w.setCells g (i * d.sz) vs) base ok (.slice (some ⟨g, 0, none⟩) i cap) (xs.take i) ∧ w.grownBy (w.setCells g (i * d.sz) vs) (some g) := by
  obtain ⟨hn, hnc, _⟩ := Kd.R_reads' h
  have hT := Kd.R_take h (m := i) (by omega)
  obtain ⟨hok, inner, ho, hr⟩ := hT
  have hli : (xs.take i).length = i := by rw [List.length_take]; omega
  obtain ⟨ho1, ho2⟩ := ho
  rcases ho2 with ⟨hv', _⟩ | ⟨g', cap', cur, hv', hb, hh, hnc', hcm, hcs, ht⟩
  · cases hv'
  injection hv' with ha _ hc
  injection ha with ha
  injection ha with hg
  subst hg; subst hc
  have hfit : i * d.sz + vs.length ≤ cur.size := by
    rw [hv, hcs, ← Nat.add_mul]
    exact Nat.mul_le_mul_right _ (by omega)
  obtain ⟨cur', h3, h4, h5⟩ := setCells_row vs (i * d.sz) w cur hh hfit
  obtain ⟨s1, s2, s3, s4⟩ := setCells_same g vs (i * d.sz) w
  have hfar : ∀ k, k ≠ g → (w.setCells g (i * d.sz) vs).heap[k]? = w.heap[k]? := fun k hk => setCells_far vs _ k hk
  refine ⟨⟨hok, inner, ⟨ho1, .inr ⟨g, cap, cur', by rw [hli], hb, h3, by rw [hli]; omega, hcm, by rw [h4, hcs], ?_⟩⟩, hr.imp_ fun p c hp => ?_⟩, ⟨s1, s2, s3, by rw [s4]; exact Nat.le_refl _, fun k _ hk => hfar k (fun he => hk (by rw [he]))⟩⟩
  · rw [hli] at ht ⊢
    have e1 : (cur.toList.take (i * d.sz)).length = i * d.sz := by rw [List.length_take, Array.length_toList]; omega
    rw [h5, List.append_assoc, List.take_append_of_le_length (by rw [e1]; exact Nat.le_refl _), List.take_of_length_le (by rw [e1]; exact Nat.le_refl _)]
    exact ht
  · exact d.M_move (fun k hk => hfar k (fun he => hk.2 (by rw [he]; simp [Value.ownBlock]))) hp
theorem R_room {α : Type} {d : Kd α} {e : Nat} {w : World} {base : Nat} {ok : Nat → Prop} {g n cap : Nat} {xs : List α} (h : d.R e w base ok (.slice (some ⟨g, 0, none⟩) n cap) xs) (j : Nat) (hj : j < n * d.sz) : (w.cell? ⟨g, j, none⟩).isSome = true ∧ w.frozen? ⟨g, j, none⟩ = false := by
  obtain ⟨hn, hnc, _⟩ := Kd.R_reads' h
  obtain ⟨hok, inner, ho, hr⟩ := h
  obtain ⟨ho1, ho2⟩ := ho
  rcases ho2 with ⟨hv', _⟩ | ⟨g', cap', cur, hv', hb, hh, hnc', hcm, hcs, ht⟩
  · cases hv'
  injection hv' with ha _ hc
  injection ha with ha
  injection ha with hg
  subst hg; subst hc
  refine ⟨?_, blk_frozen hh _⟩
  rw [blk_cell hh]
  have : j < cur.size := by
    rw [hcs]
    exact Nat.lt_of_lt_of_le hj (Nat.mul_le_mul_right _ hnc)
  rw [Array.getElem?_eq_getElem this]
  rfl
set_option maxHeartbeats 2000000 in
/-- slices.IndexFunc over integers: whatever the function value says of each element of the list. -/
theorem impl_OfClub.idx.calls (p : Int → Bool) (lb : Array Value) (A0 : Option Addr) (c0 : Nat) (l0 : List Int) (w : World) (hr0 : Kd.C (Kd.int .i64) w A0 l0.length l0) (hc0 : l0.length ≤ c0)
    (hp : ∀ (W : World) (x : Int), x ∈ l0 → Below w.heap.size w W → Calls Try.prog 51 (#[.int .i64 x] ++ lb) W fun e w' => e = .returned (.bool (p x)) ∧ Below W.heap.size W w') :
    Calls Try.prog 82 #[.slice A0 l0.length c0, .func (.func 51) #[] lb] w fun e w' => e = .returned (.int .i64 (idxP p l0)) ∧ Below w.heap.size w w' := by
  have HR0 := Aside0.mk hr0
  have HC0 := Aside0.mk hc0
  have HP := Aside0.mk hp
  have hmax : l0.length ≤ 9223372036854775807 := hr0.2.1
  clear hr0 hc0 hp
  have HB := Aside0.mk (Below.refl w.heap.size w)
  go_enter Try.func82, Try.ntmps82
  go_wp2
  go_loopg [8] l0.length (fun gk v8 w' => ∃ i : Nat, v8 = .int .i64 i ∧ Aside0 (i ≤ l0.length) ∧ Aside0 (l0.length - i ≤ gk) ∧ Aside0 (Below w.heap.size w w') ∧ Aside0 (∀ j z, j < i → l0[j]? = some z → p z = false))
  case atStart => exact ⟨0, rfl, ⟨Nat.zero_le _⟩, ⟨by omega⟩, HB, ⟨fun j z hj => absurd hj (Nat.not_lt_zero _)⟩⟩
  case round =>
    obtain ⟨i, rfl, HI, HG, HB1, HF⟩ := hrel
    by_cases hlt : i < l0.length
    · have hltz : decide ((i : Int) < (l0.length : Int)) = true := decide_eq_true (by omega)
      obtain ⟨ad, ea, hx0⟩ := Kd.at_int HR0.out (i : Int) (by omega) (by omega)
      cases ea
      rw [Int.toNat_natCast] at hx0
      obtain ⟨y, hy⟩ : ∃ y, l0[i]? = some y := ⟨_, List.getElem?_eq_getElem hlt⟩
      have hrd : rd l0 (i : Int) = y := by simp [rd, List.getD_eq_getElem?_getD, hy]
      have HY := Aside0.mk hy
      rw [hrd] at hx0
      clear hrd hy
      have up : ∀ (a : Addr) (v : Value), w.cell? a = some v → wr.cell? a = some v := fun a v h => (HB1.out.cell (World.block_lt_of_cell? w _ h)).trans h
      replace hx0 := up _ _ hx0
      clear up
      have h0 : decide (0 ≤ (i : Int)) = true := decide_eq_true (by omega)
      rcases Bool.eq_false_or_eq_true (p y) with hq | hq
      · have hcall := HP.out wr y (List.mem_of_getElem? HY.out) HB1.out
        rw [hq] at hcall
        have HQ := Aside0.mk hq
        have HC := Aside0.mk hcall
        clear hq hcall
        go_wp2_with fail
        refine HC.out.mono ?_
        rintro e w2 ⟨rfl, hb2⟩
        have HB2 := Aside0.mk (HB1.out.trans (hb2.mono HB1.out.size))
        clear hb2
        go_wp2
        go_ret
        exact ⟨by rw [idxP_hit p l0 i y HY.out HQ.out HF.out]; rfl, HB2.out⟩
      · have hcall := HP.out wr y (List.mem_of_getElem? HY.out) HB1.out
        rw [hq] at hcall
        have HQ := Aside0.mk hq
        have HC := Aside0.mk hcall
        clear hq hcall
        go_wp2_with fail
        refine HC.out.mono ?_
        rintro e w2 ⟨rfl, hb2⟩
        have HB2 := Aside0.mk (HB1.out.trans (hb2.mono HB1.out.size))
        clear hb2
        go_wp2
        go_roundg (l0.length - (i + 1))
        case measure => have := HG.out; omega
        case rel =>
          refine ⟨i + 1, by go_num, ⟨by omega⟩, ⟨Nat.le_refl _⟩, HB2, ⟨fun j z hj hz => ?_⟩⟩
          by_cases e : j = i
          · subst e
            rw [HY.out] at hz
            cases hz
            exact HQ.out
          · exact HF.out j z (by omega) hz
    · have hltz : decide ((i : Int) < (l0.length : Int)) = false := decide_eq_false (by omega)
      go_wp2
      go_ret
      exact ⟨by rw [idxP_miss p l0 (fun j z hj hz => HF.out j z (by omega) hz)]; rfl, HB1.out⟩
theorem impl_OfClub.del.start {α : Type} (p : α → Bool) (l : List α) : (idxP p l = -1 ∧ (l.filter fun x => !p x) = l) ∨ ∃ i : Nat, i < l.length ∧ idxP p l = (i : Int) ∧ (l.take (i + 1)).filter (fun x => !p x) = l.take i := by
  unfold idxP
  cases h : l.findIdx? p with
  | none =>
    refine .inl ⟨rfl, ?_⟩
    rw [List.findIdx?_eq_none_iff] at h
    rw [List.filter_eq_self]
    intro x hx
    simp [h x hx]
  | some i =>
    rw [List.findIdx?_eq_some_iff_getElem] at h
    obtain ⟨hi, hp, hb⟩ := h
    refine .inr ⟨i, hi, rfl, ?_⟩
    rw [List.take_succ_eq_append_getElem hi, List.filter_append]
    have e1 : (l.take i).filter (fun x => !p x) = l.take i := by
      rw [List.filter_eq_self]
      intro x hx
      obtain ⟨j, hj, rfl⟩ := List.mem_iff_getElem.1 hx
      rw [List.length_take] at hj
      rw [List.getElem_take]
      have := hb j (by omega)
      simpa using this
    rw [e1]
    simp [hp]
theorem impl_OfClub.del.size : (Try.prog.info? 3).map (·.size) = some 1 := by
  have h := congrArg (Option.map (fun x => x.2.1)) info3
  simpa [Option.map_map] using h
set_option maxHeartbeats 8000000 in
set_option maxRecDepth 100000 in
/-- slices.DeleteFunc over integers, on a row of the call's own. -/
theorem impl_OfClub.del.calls (p : Int → Bool) (lb : Array Value) (v : Value) (l0 : List Int) (base : Nat) (w0 w : World) (hB : Below base w0 w) (hbw : base ≤ w.heap.size) (ho : Kd.R (Kd.int .i64) 3 w base (fun _ => True) v l0)
    (hp : ∀ (W : World) (x : Int), x ∈ l0 → Kept w W (fun k_ => v.ownBlock = some k_) → Calls Try.prog 51 (#[.int .i64 x] ++ lb) W fun e w' => e = .returned (.bool (p x)) ∧ Below W.heap.size W w') :
    Calls Try.prog 50 #[v, .func (.func 51) #[] lb] w fun e w' => ∃ v' : Value, e = .returned v' ∧ Kd.R (Kd.int .i64) 3 w' base (fun _ => True) v' (l0.filter fun x => !p x) ∧ Below base w0 w' := by
  obtain ⟨A0, c0, rfl, hc0, hr0⟩ := Kd.R_reads ho
  have HI := Aside0.mk (impl_OfClub.idx.calls p lb A0 c0 l0 w hr0 hc0 (fun W x hx hW => hp W x hx (Kept.of_below hW _)))
  rcases impl_OfClub.del.start p l0 with ⟨e1, e2⟩ | ⟨i0, hi0, e1, e2⟩
  · rw [e2]
    rw [e1] at HI
    have HO := Aside0.mk ho
    have HB := Aside0.mk hB
    have HW := Aside0.mk hbw
    clear ho hB hp hr0 hc0 e1 e2 hbw
    go_enter Try.func50, Try.ntmps50
    go_wp2_with fail
    refine HI.out.mono ?_
    rintro e w1 ⟨rfl, hb⟩
    have HO1 := Aside0.mk (Kd.R_below HO.out hb)
    have HB1 := Aside0.mk (HB.out.trans (hb.mono HW.out))
    clear hb HO HB HI
    go_wp2
    go_ret
    exact ⟨_, rfl, HO1.out, HB1.out⟩
  · rw [e1] at HI
    obtain ⟨g0, cap, ev, hg0, hgl, _⟩ := Kd.R_form ho (by omega)
    injection ev with ev1 ev2 ev3
    subst ev1
    subst ev3
    have hE : (Kd.int .i64).E = [] := rfl
    have HO := Aside0.mk (Kd.R_mono (Kd.R_tight hE ho) (ok' := fun k_ => k_ = g0) (fun k_ hk => by have h_ : some g0 = some k_ := hk.symm; injection h_ with h_; exact h_.symm))
    have HP : Aside0 (∀ (W : World) (x : Int), x ∈ l0 → Kept w W (fun k_ => k_ = g0) → Calls Try.prog 51 (#[.int .i64 x] ++ lb) W fun e w' => e = .returned (.bool (p x)) ∧ Below W.heap.size W w') := ⟨fun W x hx hW => hp W x hx (hW.mono (fun k_ hk => by subst hk; rfl))⟩
    have HB := Aside0.mk hB
    have HW := Aside0.mk hbw
    have HG := Aside0.mk hg0
    have HGL := Aside0.mk hgl
    have HC0 := Aside0.mk hc0
    have HE2 := Aside0.mk e2
    have hmax : l0.length ≤ 9223372036854775807 := hr0.2.1
    have hne1 : ((i0 : Int) == -1) = false := beq_eq_false_iff_ne.2 (by omega)
    have HI0 := Aside0.mk hi0
    clear ho hB hp hr0 e1 hbw hg0 hgl e2
    go_enter Try.func50, Try.ntmps50
    go_wp2_with fail
    refine HI.out.mono ?_
    rintro e w1 ⟨rfl, hb⟩
    have n0_ := Aside0.mk (Kd.R_below HO.out hb)
    have n1_ := Aside0.mk (HB.out.trans (hb.mono HW.out))
    have HK := Aside0.mk (Kept.of_below hb (fun k_ => k_ = g0))
    clear hb HO HB HI
    have HO := n0_
    have HB := n1_
    clear n0_ n1_
    go_wp2
    go_loopg [5, 6] l0.length (fun gk v5 v6 w' => ∃ (i j : Int) (xs : List Int), v5 = .int .i64 i ∧ v6 = .int .i64 j ∧ Aside0 (0 ≤ i ∧ i < j ∧ j ≤ l0.length) ∧ Aside0 ((l0.length : Int) - j ≤ gk) ∧ Aside0 (xs.length = l0.length ∧ xs.take i.toNat = (l0.take j.toNat).filter (fun x => !p x) ∧ xs.drop j.toNat = l0.drop j.toNat) ∧ Aside0 (Kd.R (Kd.int .i64) 3 w' base (fun k_ => k_ = g0) (.slice (some ⟨g0, 0, none⟩) l0.length c0) xs) ∧ Aside0 (Kept w w' (fun k_ => k_ = g0)) ∧ Aside0 (Below base w0 w'))
    case atStart => exact ⟨(i0 : Int), (i0 : Int) + 1, l0, rfl, by first | rfl | go_num, ⟨by have := HI0.out; omega⟩, ⟨by have := HI0.out; omega⟩, ⟨⟨rfl, by rw [show ((i0 : Int) + 1).toNat = i0 + 1 by omega, HE2.out, Int.toNat_natCast], rfl⟩⟩, HO, HK, HB⟩
    case round =>
      clear HO HB HK HE2 HI0 hi0
      obtain ⟨i, j, xs, rfl, rfl, HIJ, HGK, HX, HO, HK, HB⟩ := hrel
      have hgs : g0 < wr.heap.size := by have h1 := HK.out.1; have h2 := HGL.out; omega
      by_cases hlt : j < (l0.length : Int)
      · have hltz : decide (j < (l0.length : Int)) = true := decide_eq_true hlt
        have p0 : 0 ≤ j := by have := HIJ.out; omega
        have p0z : decide (0 ≤ j) = true := decide_eq_true p0
        have hxl : xs.length = l0.length := HX.out.1
        obtain ⟨ce, hcl, hM, hcc, hfr⟩ := Kd.R_elem HO.out 0 j p0 hlt
        obtain rfl : ce = [.int .i64 (xs.getD j.toNat 0)] := hM
        obtain ⟨y, hy⟩ : ∃ y, xs.getD j.toNat 0 = y := ⟨_, rfl⟩
        rw [hy] at hcc hcl
        have hx0 := hcc 0 _ rfl
        simp only [show (Kd.int .i64).sz = 1 from rfl, Nat.add_zero, Nat.mul_one] at hx0
        clear hcl hcc hfr
        have HY : Aside0 (l0[j.toNat]? = some y) := ⟨by
          have h1 : xs[j.toNat]? = some y := by
            rw [← hy, List.getD_eq_getElem?_getD, List.getElem?_eq_getElem (by omega)]
            rfl
          have h2 := congrArg (fun z => z[0]?) HX.out.2.2
          simp only [List.getElem?_drop, Nat.add_zero] at h2
          rw [← h2]; exact h1⟩
        have hyz : xs.getD j.toNat 0 = y := hy
        clear hy
        rcases Bool.eq_false_or_eq_true (p y) with hq | hq
        all_goals
          have HQ := Aside0.mk hq
          have hcall : ∀ W, Kept w W (fun k_ => k_ = g0) → Calls Try.prog 51 (#[.int .i64 y] ++ lb) W fun e w' => e = .returned (.bool (p y)) ∧ Below W.heap.size W w' := fun W hW => HP.out W y (List.mem_of_getElem? HY.out) hW
          rw [hq] at hcall
          have HC := Aside0.mk hcall
          clear hq hcall
          clear hyz
          go_wp2_with fail
          refine (HC.out _ HK.out).mono ?_
          rintro e w12 ⟨rfl, hb⟩
          have n2_ := Aside0.mk (show Kept w w12 (fun k_ => k_ = g0) from HK.out.below hb)
          have n0_ := Aside0.mk (show Kd.R (Kd.int .i64) 3 w12 base (fun k_ => k_ = g0) (.slice (some ⟨g0, 0, none⟩) l0.length c0) xs from Kd.R_below HO.out hb)
          have n1_ := Aside0.mk (show Below base w0 w12 from below_then HB.out (Nat.le_trans HW.out HK.out.1) hb)
          clear HO HB HC HK hb
          have HO := n0_
          have HB := n1_
          have HK := n2_
          clear n0_ n1_ n2_
        · go_wp2
          go_roundg ((l0.length : Int) - (j + 1)).toNat
          case measure => have := HGK.out; omega
          case rel =>
            refine ⟨i, j + 1, xs, rfl, by first | rfl | go_num, ⟨by have := HIJ.out; omega⟩, ⟨by omega⟩, ⟨HX.out.1, ?_, ?_⟩, HO, HK, HB⟩
            · have hj := (List.getElem?_eq_some_iff.1 HY.out)
              obtain ⟨hj1, hj2⟩ := hj
              rw [HX.out.2.1, show (j + 1).toNat = j.toNat + 1 by omega, List.take_succ_eq_append_getElem hj1, List.filter_append, hj2]
              simp [HQ.out]
            · have := congrArg (List.drop 1) HX.out.2.2
              rw [List.drop_drop, List.drop_drop] at this
              rw [show (j + 1).toNat = j.toNat + 1 by omega]
              exact this
        · have hi0 : 0 ≤ i := HIJ.out.1
          have hi0z : decide (0 ≤ i) = true := decide_eq_true hi0
          have hil : i < (l0.length : Int) := by have := HIJ.out; omega
          have hilz : decide (i < (l0.length : Int)) = true := decide_eq_true hil
          obtain ⟨ce2, hcl2, hM2, hcc2, hfr2⟩ := Kd.R_elem HO.out 0 i hi0 hil
          obtain rfl : ce2 = [.int .i64 (xs.getD i.toNat 0)] := hM2
          have HCC := Aside0.mk hcc2
          have HCL := Aside0.mk hcl2
          clear hcc2 hfr2 hcl2
          go_wp2_with (first | ((with_reducible refine gate_store (t := 3) (p := 33) rfl ?_); go_must (refine Kd.R_store (Kd.int .i64) (w0 := w0) base rfl rfl 3 (.tmp 33) (.tmp 32) rfl 3 (g := g0) (n := l0.length) (cap := c0) (o' := i.toNat) i 0 xs y (.int .i64 y) [.int .i64 y] _ (fun k_ => k_ = g0) (fun _ => False) ?sa ?so ?sx rfl ?sz ?s1 HO.out hi0 hil HCL.out HCC.out ?sj ?sm (fun _ hk => hk.elim) HB.out ?_); go_must ((case sa => rfl)); go_must ((case so => simp [show (Kd.int .i64).sz = 1 from rfl])); go_must ((case sz => exact impl_OfClub.del.size)); go_must ((case sx => rfl)); go_must ((case s1 => intro q hq; rw [List.mem_singleton.1 hq]; rfl)); go_must ((case sj => exact Nat.le_of_eq rfl)); go_must ((case sm => exact (rfl : [Value.int .i64 y] = [Value.int .i64 y]))); intro w13 ho hb hg; have n0_ := Aside0.mk ho; have n1_ := Aside0.mk hb; have n2_ := Aside0.mk (Kept.of_grown hg HK.out (fun k_ hk => .inl (by injection hk with hk; exact hk.symm))); clear HO HB HK ho hb hg; have HO := n0_; have HB := n1_; have HK := n2_; clear n0_ n1_ n2_) | fail)
          go_roundg ((l0.length : Int) - (j + 1)).toNat
          case measure => have := HGK.out; omega
          case rel =>
            have hI : i.toNat < xs.length := by rw [HX.out.1]; omega
            obtain ⟨hj1, hj2⟩ := List.getElem?_eq_some_iff.1 HY.out
            refine ⟨i + 1, j + 1, xs.set i.toNat y, by first | rfl | go_num, by first | rfl | go_num, ⟨by have := HIJ.out; omega⟩, ⟨by omega⟩, ⟨by rw [List.length_set]; exact HX.out.1, ?_, ?_⟩, HO, HK, HB⟩
            · rw [show (i + 1).toNat = i.toNat + 1 by omega, show (j + 1).toNat = j.toNat + 1 by omega, List.take_succ_eq_append_getElem (by rw [List.length_set]; exact hI), List.take_succ_eq_append_getElem hj1, List.filter_append, hj2, ← HX.out.2.1]
              simp [HQ.out, List.take_set_of_le]
            · have := congrArg (List.drop 1) HX.out.2.2
              rw [List.drop_drop, List.drop_drop] at this
              rw [show (j + 1).toNat = j.toNat + 1 by omega, List.drop_set_of_lt (by have := HIJ.out; omega)]
              exact this
      · have hltz : decide (j < (l0.length : Int)) = false := decide_eq_false hlt
        have hi0 : 0 ≤ i := HIJ.out.1
        have hi0z : decide (0 ≤ i) = true := decide_eq_true hi0
        have hil : i < (l0.length : Int) := by have := HIJ.out; omega
        have hin : i.toNat < l0.length := by omega
        have hic : i.toNat ≤ c0 := by have := HC0.out; omega
        have hicz : decide (i ≤ (c0 : Int)) = true := decide_eq_true (by omega)
        have hinz : decide (i ≤ (l0.length : Int)) = true := decide_eq_true (by omega)
        obtain ⟨vs, hvl, hcl⟩ := run_clear_row (P := Try.prog) wr 23 3 0 _ Try.underlying23 Try.zeroValue3 (by intro q hq; have hq' : q ∈ [Value.int .i64 0] := hq; rw [List.mem_singleton.1 hq']; rfl) g0 i.toNat (l0.length - i.toNat) (c0 - i.toNat) (by omega)
          (fun q hq => (R_room HO.out (i.toNat + q) (by rw [show (Kd.int .i64).sz = 1 from rfl]; change q < (l0.length - i.toNat) * 1 at hq; omega)).1) (fun q hq => (R_room HO.out (i.toNat + q) (by rw [show (Kd.int .i64).sz = 1 from rfl]; change q < (l0.length - i.toNat) * 1 at hq; omega)).2)
        obtain ⟨hR, hG⟩ := R_cleared HO.out i.toNat (by omega) vs hvl
        simp only [show (Kd.int .i64).sz = 1 from rfl, Nat.mul_one] at hR hG
        have HR := Aside0.mk hR
        have HGr := Aside0.mk hG
        have HV := Aside0.mk hvl
        clear hR hG hvl
        go_wp2
        go_ret
        have hx : xs.take i.toNat = l0.filter fun x => !p x := by
          rw [HX.out.2.1, List.take_of_length_le (by have := HIJ.out; omega)]
        have hxl : i.toNat = (l0.filter fun x => !p x).length := by
          rw [← hx, List.length_take, HX.out.1]
          omega
        have h1 := HR.out
        rw [hx] at h1
        exact ⟨_, rfl, Kd.R_mono h1 (fun _ _ => trivial), HB.out.grown HGr.out (Nat.le_trans HW.out HK.out.1) (fun k_ hk => by injection hk with hk; rw [← hk]; exact HG.out)⟩
def impl_OfClub.p (l0 : List (S48)) (club : Int) (i : Int) : Bool := (rd_T48 l0 i).f1 != club
def impl_OfClub.g (l0 : List (S48)) (club : Int) (u : List Int) : Option (List Int) := if (u.all fun x => decide (0 ≤ x) && decide (x < (l0.length : Int))) = true then some (u.filter fun i => !impl_OfClub.p l0 club i) else none
def impl_OfClub.f (k : Nat) (l0 : List (S48)) (a1 : Int) : Option (List Int) := (impl_FieldOk.f k l0).bind fun b => if b = true then (impl_upTo.f k (l0.length : Int)).bind fun u => impl_OfClub.g l0 a1 u else some []
theorem impl_OfClub.mono : ∀ a0 a1 k, LeO (impl_OfClub.f k a0 a1) (impl_OfClub.f (k + 1) a0 a1) := fun a0 a1 k =>
  LeO.bind (impl_FieldOk.mono a0 k) (fun b => LeO.ite (LeO.bind (impl_upTo.mono _ k) (fun _ => LeO.refl _)) (LeO.refl _))
set_option maxHeartbeats 800000 in
theorem impl_OfClub.lit (A0 : Option Addr) (c0 : Nat) (l0 : List (S48)) (club i : Int) (b1 b2 : Nat) (w : World) (hr0 : Kd.C k48 w A0 l0.length l0) (h0 : 0 ≤ i) (h1 : i < (l0.length : Int)) (hc1 : w.cell? ⟨b1, 0, none⟩ = some (.slice A0 l0.length c0)) (hc2 : w.cell? ⟨b2, 0, none⟩ = some (.int .i64 club)) :
    Calls Try.prog 51 #[.int .i64 i, .pointer (some ⟨b1, 0, none⟩), .pointer (some ⟨b2, 0, none⟩)] w fun e w' => e = .returned (.bool (impl_OfClub.p l0 club i)) ∧ Below w.heap.size w w' := by
  have hu90 := Try.underlying48
  obtain ⟨ad, ea, hx0, hx1, hx2⟩ := at_T48 hr0 i h0 h1
  cases ea
  have h0z : decide (0 ≤ i) = true := decide_eq_true h0
  have h1z : decide (i < (l0.length : Int)) = true := decide_eq_true h1
  unfold impl_OfClub.p
  generalize hy : rd_T48 l0 i = y at hx0 hx1 hx2 ⊢
  clear hr0 hy
  go_enter Try.func51, Try.ntmps51
  go_wp2
  go_quiet (fail)
  go_wp2
  go_ret
  exact ⟨rfl, pw_below_drewN (Below.refl _ _) _⟩
set_option maxHeartbeats 2000000 in
theorem impl_OfClub.calls (k : Nat) (A0 : Option Addr) (c0 : Nat) (l0 : List (S48)) (a1 : Int) (r : List Int) (w : World) (hr0 : Kd.C k48 w A0 l0.length l0) (hc0 : l0.length ≤ c0) (h : impl_OfClub.f k l0 a1 = some r) :
    Calls Try.prog 16 #[.slice A0 l0.length c0, .int .i64 a1] w fun e w' => ∃ v0_ : Value, e = .returned (v0_) ∧ Kd.R (Kd.int .i64) 3 w' w.heap.size (fun _ => True) v0_ r ∧ Below w.heap.size w w' := by
  obtain ⟨b, hA, h⟩ := Option.bind_eq_some_iff.mp h
  have HR := Aside0.mk hr0
  have HC := Aside0.mk hc0
  have HA := Aside0.mk hA
  have H := Aside0.mk h
  have hmax : l0.length ≤ 9223372036854775807 := hr0.2.1
  clear hr0 hc0 hA h
  have HB0 := Aside0.mk (((Below.refl w.heap.size w).alloc (Nat.le_refl _) (.cells #[.slice A0 l0.length c0] 31 (0, 0))).alloc (by simp) (.cells #[.int .i64 a1] 3 (0, 0)))
  cases b with
  | false =>
    have hr := H.out
    rw [if_neg (by simp)] at hr
    obtain rfl := Option.some.inj hr
    clear hr H
    go_enter Try.func16, Try.ntmps16
    go_wp2_with fail
    refine (impl_FieldOk.calls k A0 c0 l0 false _ (Kd.C_below HR.out HB0.out) HC.out HA.out).mono ?_
    rintro e w2 ⟨rfl, hb⟩
    have HB := Aside0.mk (HB0.out.trans (hb.mono (by simp; omega)))
    clear hb HB0
    go_wp2
    go_ret
    exact ⟨_, rfl, Kd.R_nil _ _ _ _ _, HB.out⟩
  | true =>
    have hr := H.out
    rw [if_pos rfl] at hr
    obtain ⟨u, hU, hr⟩ := Option.bind_eq_some_iff.mp hr
    unfold impl_OfClub.g at hr
    by_cases hall : (u.all fun x => decide (0 ≤ x) && decide (x < (l0.length : Int))) = true
    · rw [if_pos hall] at hr
      obtain rfl := Option.some.inj hr
      clear hr H
      have HU := Aside0.mk hU
      have HALL := Aside0.mk hall
      clear hU hall
      go_enter Try.func16, Try.ntmps16
      go_wp2_with fail
      refine (impl_FieldOk.calls k A0 c0 l0 true _ (Kd.C_below HR.out HB0.out) HC.out HA.out).mono ?_
      rintro e w2 ⟨rfl, hb⟩
      have HB := Aside0.mk (HB0.out.trans (hb.mono (by simp; omega)))
      have hcl : w2.cell? ⟨w.heap.size, 0, none⟩ = some (.slice A0 l0.length c0) := by rw [hb.cell (by simp; omega)]; simp
      have hcc : w2.cell? ⟨w.heap.size + 1, 0, none⟩ = some (.int .i64 a1) := by rw [hb.cell (by simp)]; simp
      have hsz : w.heap.size + 1 < w2.heap.size := by have := hb.size; simp at this; omega
      have HSZ := Aside0.mk hsz
      have HCC := Aside0.mk hcc
      clear hb HB0 hcc hsz
      go_wp2_with fail
      refine (impl_upTo.calls k (l0.length : Int) u _ HU.out).mono ?_
      rintro e w3 ⟨v0, rfl, ho, hb⟩
      have HO := Aside0.mk (Kd.R_lower (base' := w.heap.size) ho (below_size HB.out))
      have HNE : Aside0 (∀ b, b < w2.heap.size → ¬ v0.ownBlock = some b) := ⟨fun b hb' he => by have := Kd.R_base ho _ he; omega⟩
      have HCL := Aside0.mk (show w3.cell? ⟨w.heap.size, 0, none⟩ = some (.slice A0 l0.length c0) from pw_cell_below hb hcl)
      have HCC3 := Aside0.mk (show w3.cell? ⟨w.heap.size + 1, 0, none⟩ = some (.int .i64 a1) from pw_cell_below hb HCC.out)
      have n1_ := Aside0.mk (HB.out.trans (hb.mono (below_size HB.out)))
      clear ho hb hcl HB
      have HB := n1_
      clear n1_
      go_wp2_with fail
      refine (impl_OfClub.del.calls (impl_OfClub.p l0 a1) #[.pointer (some ⟨w.heap.size, 0, none⟩), .pointer (some ⟨w.heap.size + 1, 0, none⟩)] v0 u w.heap.size w _ HB.out (below_size HB.out) HO.out ?_).mono ?_
      · intro W x hx hW
        have hxx := List.all_eq_true.1 HALL.out x hx
        simp only [Bool.and_eq_true, decide_eq_true_eq] at hxx
        refine impl_OfClub.lit A0 c0 l0 a1 x _ _ W ?_ hxx.1 hxx.2 (Go.Proofs.YtbocdhkaeglfcaaW.PrintWords.cell_kept HCL.out hW (HNE.out _ (show w.heap.size < w2.heap.size by have := HSZ.out; omega))) (Go.Proofs.YtbocdhkaeglfcaaW.PrintWords.cell_kept HCC3.out hW (HNE.out _ HSZ.out))
        exact Kd.Heap.C (by unfold k48; exact Kd.heap_iso _ (Kd.heap_pair Kd.heap_string (Kd.heap_pair (Kd.heap_int _) (Kd.heap_int _)))) (fun b hb => (hW.2 b (Nat.lt_of_lt_of_le hb HB.out.size) (HNE.out b (by have := HSZ.out; omega))).trans (HB.out.block b hb)) HR.out
      · rintro e w4 ⟨v', rfl, ho, hb⟩
        have HO2 := Aside0.mk ho
        have HB2 := Aside0.mk hb
        clear ho hb
        go_wp2
        go_ret
        exact ⟨_, rfl, HO2.out, HB2.out⟩
    · rw [if_neg hall] at hr; cases hr

end Go.Proofs.Ytbocdhkaeglfcaa.MFnFields
