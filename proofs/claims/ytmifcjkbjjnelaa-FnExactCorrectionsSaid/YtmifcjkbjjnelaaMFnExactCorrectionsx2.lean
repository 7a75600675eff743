/- The functions that FnExactCorrections reaches, each with its contract: the print's form, by wip/tools/myprint.py; no condition of its own. -/
import Derived.Test.YtmifcjkbjjnelaaMFnExactCorrectionsx0
import Derived.Test.YtmifcjkbjjnelaaMFnExactCorrectionsx1
namespace Go.Proofs.Ytmifcjkbjjnelaa.MFnExactCorrections
open Go.RowKit Go.Proofs.YtmifcjkbjjnelaaW.PrintWords Go.Proofs.YtmifcjkbjjnelaaW.PrintLast Go.Proofs.YtmifcjkbjjnelaaW.PrintMore
attribute [local go_sem] max2_int min2_int max_two min_two max_three min_three max_four min_four   -- for this text's walks alone
set_option linter.unusedVariables false
set_option linter.unusedSimpArgs false

/-! ### cmp_isNaN_int: function 145 -/
def cmp_isNaN_int.f (a0 : Int) : Option (Bool) := some (a0 != a0)
set_option maxHeartbeats 8000000 in
set_option maxRecDepth 100000 in
theorem cmp_isNaN_int.calls (a0 : Int) (r : Bool) (w : World) (h : cmp_isNaN_int.f a0 = some r) :
    Calls Try.prog 145 #[.int .i64 a0] w fun e w' => e = .returned (.bool r) ∧ Drawn0 w w' := by
  have H : (some (a0 != a0)) = some r := h
  clear h
  obtain rfl := Option.some.inj H
  go_enter Try.func145, Try.ntmps145
  go_wp2
  go_ret
  exact ⟨by first | rfl | (simp; done) | (simp [*]; done), by repeat (first | exact Drawn0.refl _ | apply Drawn0.step)⟩

/-! ### cmp_Less_int: function 131 -/
def cmp_Less_int.f (a0 : Int) (a1 : Int) : Option (Bool) := (cmp_isNaN_int.f a0).bind fun t142 => (if t142 = true then ((cmp_isNaN_int.f a1).bind fun t143 => (if t143 = true then (some (decide (a0 < a1))) else (some true))) else (some (decide (a0 < a1))))
set_option maxHeartbeats 8000000 in
set_option maxRecDepth 100000 in
theorem cmp_Less_int.calls (a0 : Int) (a1 : Int) (r : Bool) (w : World) (h : cmp_Less_int.f a0 a1 = some r) :
    Calls Try.prog 131 #[.int .i64 a0, .int .i64 a1] w fun e w' => e = .returned (.bool r) ∧ Drawn0 w w' := by
  have H : ((cmp_isNaN_int.f a0).bind fun t142 => (if t142 = true then ((cmp_isNaN_int.f a1).bind fun t143 => (if t143 = true then (some (decide (a0 < a1))) else (some true))) else (some (decide (a0 < a1))))) = some r := h
  clear h
  replace H := Option.bind_eq_some_iff.mp H
  obtain ⟨t142, A30, H⟩ := H
  replace H : (if t142 = true then ((cmp_isNaN_int.f a1).bind fun t143 => (if t143 = true then (some (decide (a0 < a1))) else (some true))) else (some (decide (a0 < a1)))) = some r := H
  have A3 := Aside0.mk A30
  clear A30
  by_cases c4 : t142 = true
  · subst c4
    have H1 : ((cmp_isNaN_int.f a1).bind fun t143 => (if t143 = true then (some (decide (a0 < a1))) else (some true))) = some r := by rw [if_pos rfl] at H; exact H
    clear H
    have H := H1
    clear H1
    replace H := Option.bind_eq_some_iff.mp H
    obtain ⟨t143, A50, H⟩ := H
    replace H : (if t143 = true then (some (decide (a0 < a1))) else (some true)) = some r := H
    have A5 := Aside0.mk A50
    clear A50
    by_cases c6 : t143 = true
    · subst c6
      have H1 : (some (decide (a0 < a1))) = some r := by rw [if_pos rfl] at H; exact H
      clear H
      have H := H1
      clear H1
      obtain rfl := Option.some.inj H
      go_enter Try.func131, Try.ntmps131
      go_wp2_with (first | ((with_reducible refine gate_callee (f := 145) rfl ?_); refine goesL_ (some 6) rfl rfl Try.func145 (by kernel_rfl) rfl #[.int .i64 a0] rfl (by (try simp only [List.map_toArray, List.map_cons, List.map_nil]); first | done | rfl | (simp only [List.length_drop, List.length_take]; rfl)) ?_; (with_reducible refine (cmp_isNaN_int.calls a0 true _ A3.out).mono ?_); rintro e w' ⟨rfl, ⟨nd, rfl⟩⟩; refine ⟨_, rfl, ?_⟩) | (go_at_call 145; (with_reducible refine (cmp_isNaN_int.calls a1 true _ A5.out).mono ?_); rintro e w' ⟨rfl, ⟨nd, rfl⟩⟩))
      go_ret
      exact ⟨by first | rfl | (simp; done) | (simp [*]; done), by repeat (first | exact Drawn0.refl _ | apply Drawn0.step)⟩
    · replace c6 := Bool.eq_false_iff.mpr c6
      subst c6
      have H1 : (some true) = some r := by rw [if_neg (show ¬ (false = true) by decide)] at H; exact H
      clear H
      have H := H1
      clear H1
      obtain rfl := Option.some.inj H
      go_enter Try.func131, Try.ntmps131
      go_wp2_with (first | ((with_reducible refine gate_callee (f := 145) rfl ?_); refine goesL_ (some 6) rfl rfl Try.func145 (by kernel_rfl) rfl #[.int .i64 a0] rfl (by (try simp only [List.map_toArray, List.map_cons, List.map_nil]); first | done | rfl | (simp only [List.length_drop, List.length_take]; rfl)) ?_; (with_reducible refine (cmp_isNaN_int.calls a0 true _ A3.out).mono ?_); rintro e w' ⟨rfl, ⟨nd, rfl⟩⟩; refine ⟨_, rfl, ?_⟩) | (go_at_call 145; (with_reducible refine (cmp_isNaN_int.calls a1 false _ A5.out).mono ?_); rintro e w' ⟨rfl, ⟨nd, rfl⟩⟩))
      go_ret
      exact ⟨by first | rfl | (simp; done) | (simp [*]; done), by repeat (first | exact Drawn0.refl _ | apply Drawn0.step)⟩
  · replace c4 := Bool.eq_false_iff.mpr c4
    subst c4
    have H1 : (some (decide (a0 < a1))) = some r := by rw [if_neg (show ¬ (false = true) by decide)] at H; exact H
    clear H
    have H := H1
    clear H1
    obtain rfl := Option.some.inj H
    go_enter Try.func131, Try.ntmps131
    go_wp2_with (first | ((with_reducible refine gate_callee (f := 145) rfl ?_); refine goesL_ (some 6) rfl rfl Try.func145 (by kernel_rfl) rfl #[.int .i64 a0] rfl (by (try simp only [List.map_toArray, List.map_cons, List.map_nil]); first | done | rfl | (simp only [List.length_drop, List.length_take]; rfl)) ?_; (with_reducible refine (cmp_isNaN_int.calls a0 false _ A3.out).mono ?_); rintro e w' ⟨rfl, ⟨nd, rfl⟩⟩; refine ⟨_, rfl, ?_⟩))
    go_ret
    exact ⟨by first | rfl | (simp; done) | (simp [*]; done), by repeat (first | exact Drawn0.refl _ | apply Drawn0.step)⟩

-- NOT PRINTED: function 125 (slices_insertionSortOrdered_int)

-- NOT PRINTED: function 140 (slices_siftDownOrdered_int)

-- NOT PRINTED: function 126 (slices_heapSortOrdered_int)

-- NOT PRINTED: function 134 (bits_Len32)

-- NOT PRINTED: function 135 (bits_Len64)

-- NOT PRINTED: function 110 (bits_Len)

-- NOT PRINTED: function 141 (slices_nextPowerOfTwo)

-- NOT PRINTED: function 142 (slices_xorshift_Next)

-- NOT PRINTED: function 127 (slices_breakPatternsOrdered_int)

-- NOT PRINTED: function 146 (slices_order2Ordered_int)

-- NOT PRINTED: function 144 (slices_medianOrdered_int)

-- NOT PRINTED: function 143 (slices_medianAdjacentOrdered_int)

-- NOT PRINTED: function 128 (slices_choosePivotOrdered_int)

-- NOT PRINTED: function 129 (slices_reverseRangeOrdered_int)

-- NOT PRINTED: function 130 (slices_partialInsertionSortOrdered_int)

-- NOT PRINTED: function 132 (slices_partitionEqualOrdered_int)

-- NOT PRINTED: function 133 (slices_partitionOrdered_int)

-- NOT PRINTED: function 109 (slices_pdqsortOrdered_int)

/-! ### slices_Sort_int_int: function 88 -/
section
open Go.Sort
variable {α : Type} [Inhabited α] {enc : α → Value}
theorem so_holds {w : World} {g : Nat} {cur : Array Value} {e : TypeId} {xs : List α} (hb : w.heap[g]? = some (.cells cur e (0, 0))) (ht : cur.toList.take xs.length = xs.map enc) : Holds enc w g 0 xs.toArray := by
  intro j hj
  have hj' : j < xs.length := by simpa using hj
  refine ⟨?_, by simp [World.frozen?, hb]⟩
  have h1 : (cur.toList.take xs.length)[j]? = (xs.map enc)[j]? := by rw [ht]
  rw [List.getElem?_take_of_lt hj'] at h1
  simp only [World.cell?, hb, Nat.zero_add]
  simp only [Option.isSome_none, Bool.false_eq_true, if_false]
  rw [← Array.getElem?_toList, h1]
  simp [hj']
theorem so_other {w : World} {g n : Nat} {os : Array Obj} (d : Array α) (k : Nat) (hk : k < w.heap.size) (hne : k ≠ g) : (grow (putRow enc (Sort.ahead w n) g 0 d) os).heap[k]? = w.heap[k]? := by
  rw [heap_grow_old _ _ (by simpa using hk)]
  simp [putRow, mapBlock, Sort.ahead, Array.getElem?_modify, Ne.symm hne]
theorem so_heap {w : World} {g n : Nat} {os : Array Obj} {cur : Array Value} {e : TypeId} {fr : Nat × Nat} (d : Array α) (hb : w.heap[g]? = some (.cells cur e fr)) :
    (grow (putRow enc (Sort.ahead w n) g 0 d) os).heap[g]? = some (.cells (putCells enc 0 d cur) e fr) := by
  have hg : g < w.heap.size := (Array.getElem?_eq_some_iff.1 hb).1
  rw [heap_grow_old _ _ (by simpa using hg)]
  simp [putRow, mapBlock, Sort.ahead, Array.getElem?_modify, hb, onCells]
theorem so_take (cur : Array Value) (ts : List α) (h : ts.length ≤ cur.size) : (putCells enc 0 ts.toArray cur).toList.take ts.length = ts.map enc := by
  apply List.ext_getElem?
  intro j
  by_cases hj : j < ts.length
  · rw [List.getElem?_take_of_lt hj, Array.getElem?_toList]
    simp [putCells, hj, show j < cur.size by omega]
  · rw [List.getElem?_take_eq_none (by omega), List.getElem?_eq_none (by simp; omega)]
theorem so_grownBy {w : World} {g n : Nat} {os : Array Obj} (d : Array α) : w.grownBy (grow (putRow enc (Sort.ahead w n) g 0 d) os) (some g) := by
  refine ⟨rfl, rfl, rfl, by simp, fun k hk hne => so_other d k hk (fun e => hne (by rw [e]))⟩
/-- Behind the sort the same slice owns the sorted list. -/
theorem so_own {w : World} {base g cap n m : Nat} {e : TypeId} {os : Array Obj} {cur : Array Value} {ts : List α} (hl : ts.length = m) (hbase : base ≤ g) (hb : w.heap[g]? = some (.cells cur e (0, 0)))
    (h1 : m ≤ cap) (h2 : cap ≤ maxLen) (h3 : cur.size = cap * 1) :
    (grow (putRow enc (Sort.ahead w n) g 0 ts.toArray) os).ownsRow base e 1 (.slice (some ⟨g, 0, none⟩) m cap) m (ts.map enc) := by
  subst hl
  exact ⟨by simp, .inr ⟨g, cap, _, rfl, hbase, so_heap _ hb, h1, h2, by simp [putCells, h3], by rw [Nat.mul_one]; exact so_take cur ts (by omega)⟩⟩
end
def slices_Sort_int_int.f (l0 : List Int) : Option (List Int) := if l0.length < 4611686018427387904 then some (l0.mergeSort fun x y => decide (x ≤ y)) else none
theorem slices_Sort_int_int.calls (P0_ : Nat → Prop) (u9000_ : Value) (l0 : List Int) (r : List Int) (w0 w : World) (hB : Below w0.heap.size w0 w) (ho0 : Kd.R (Kd.int .i64) 3 w w0.heap.size P0_ u9000_ l0) (h : slices_Sort_int_int.f l0 = some r) :
    Calls Try.prog 88 #[u9000_] w fun e w' => e = .returned (.tuple #[]) ∧ Kd.R (Kd.int .i64) 3 w' w0.heap.size (fun k_ => (P0_ k_ ∨ w.heap.size ≤ k_)) u9000_ r ∧ Below w0.heap.size w0 w' ∧ Kept w w' (fun k_ => P0_ k_) := by
  unfold slices_Sort_int_int.f at h
  by_cases c : l0.length < 4611686018427387904
  · rw [if_pos c] at h
    obtain rfl := Option.some.inj h
    have hown := Kd.own_of_R ho0
    rcases hown.2 with ⟨rfl, h0⟩ | ⟨g, cap, cur, rfl, hbase, hbk, q1, q2, q3, q4⟩
    · have e0 : l0 = [] := List.length_eq_zero_iff.1 h0
      subst e0
      refine (Try.slices_Sort_int_none none 0 w).mono ?_
      rintro e w' ⟨he, rfl⟩
      exact ⟨he, by rw [List.mergeSort_nil]; exact Kd.R_nil _ _ _ _ _, hB, Nat.le_refl _, fun _ _ _ => rfl⟩
    · have hlt := (Array.getElem?_eq_some_iff.1 hbk).1
      have hH : Go.Sort.Holds (Value.int .i64) w g 0 l0.toArray := so_holds hbk (by rw [Nat.mul_one] at q4; exact q4)
      refine (Try.slices_Sort_int g 0 cap l0 w hH hlt c).mono ?_
      rintro e w' ⟨he, n, os, rfl⟩
      have ho2 := so_own (enc := Value.int .i64) (n := n) (os := os) (ts := l0.mergeSort fun x y => decide (x ≤ y)) (m := l0.length) (by simp) hbase hbk q1 q2 q3
      refine ⟨he, Kd.R_of_own (by rw [List.length_mergeSort]; exact ho2) (fun k hk => Or.inl (ho0.1 k hk)), hB.grown (so_grownBy _) (Nat.le_trans hbase (Nat.le_of_lt hlt)) (by intro k hk; simp at hk; omega), by simp, fun k hk hne => so_other _ k hk (fun e => hne (by rw [e]; exact ho0.1 g rfl))⟩
  · rw [if_neg c] at h; cases h

-- NOT PRINTED: function 53 (impl_Note_53)

-- NOT PRINTED: function 138 (impl_Note_138)

-- NOT PRINTED: function 120 (impl_Note_120)

/-! ### impl_notesFor: function 99 -/
/-- The index of the first element for which p holds, or -1. -/
def idxP {α : Type} (p : α → Bool) (l : List α) : Int := match l.findIdx? p with | some i => (i : Int) | none => -1
theorem idxP_hit {α : Type} (p : α → Bool) (l : List α) (i : Nat) (y : α) (h : l[i]? = some y) (hp : p y = true) (hb : ∀ j z, j < i → l[j]? = some z → p z = false) : idxP p l = i := by
  have hi : i < l.length := (List.getElem?_eq_some_iff.1 h).1
  have hy : l[i] = y := (List.getElem?_eq_some_iff.1 h).2
  have : l.findIdx? p = some i := by
    rw [List.findIdx?_eq_some_iff_getElem]
    exact ⟨hi, by rw [hy]; exact hp, fun j hj => by simp [hb j _ hj (List.getElem?_eq_getElem (by omega))]⟩
  simp [idxP, this]
theorem idxP_miss {α : Type} (p : α → Bool) (l : List α) (hb : ∀ j z, j < l.length → l[j]? = some z → p z = false) : idxP p l = -1 := by
  have : l.findIdx? p = none := by
    rw [List.findIdx?_eq_none_iff]
    intro x hx
    obtain ⟨j, hj, rfl⟩ := List.mem_iff_getElem.1 hx
    exact hb j _ hj (List.getElem?_eq_getElem hj)
  simp [idxP, this]
/-- clear on the rest of a row of one's own: the first elements stay. -/
theorem run_clear_row {P : Program} (w : World) (t e ty : TypeId) (z : Value) (ht : P.underlying t = some (.slice e)) (hv : ∀ w, (zeroValue e).run P w = .ok z w) (h1 : ∀ q ∈ z.cells.toList, q.oneCell' = true) (b o n c : Nat) (hn : 0 < n)
    (hc : ∀ j, j < n * z.cells.size → (w.cell? ⟨b, o + j, none⟩).isSome = true) (hf : ∀ j, j < n * z.cells.size → w.frozen? ⟨b, o + j, none⟩ = false) :
    ∃ vs : List Value, vs.length = n * z.cells.size ∧ (Builtin.clear_ #[t] ty #[.slice (some ⟨b, o, none⟩) n c]).run P w = .ok (.tuple #[]) (w.setCells b o vs) := by
  have hl : (Builtin.zeroCells z.cells n).toList.length = n * z.cells.size := by simp [Builtin.zeroCells]
  have hone : ∀ v ∈ (Builtin.zeroCells z.cells n).toList, v.oneCell' = true := by
    intro v hv'
    simp only [Builtin.zeroCells, Array.toList_map, List.mem_map, Array.toList_range, List.mem_range] at hv'
    obtain ⟨j, hj, rfl⟩ := hv'
    have hpos : 0 < z.cells.size := by
      rcases Nat.eq_zero_or_pos z.cells.size with h | h
      · rw [h] at hj; simp at hj
      · exact h
    have hlt : j % z.cells.size < z.cells.size := Nat.mod_lt _ hpos
    apply h1
    rw [getElem!_pos z.cells _ hlt]
    simp
  have hst := run_storeCells_cells (P := P) b o (Builtin.zeroCells z.cells n).toList 0 w (by rw [hl]; simpa using hc) (by rw [hl]; simpa using hf) hone
  simp only [Nat.add_zero] at hst
  refine ⟨_, hl, ?_⟩
  obtain ⟨m, rfl⟩ : ∃ m, n = m + 1 := ⟨n - 1, by omega⟩
  simp [Builtin.clear_, run_underlying ht, hv, hst]
theorem R_cleared {α : Type} {d : Kd α} {e : Nat} {w : World} {base : Nat} {ok : Nat → Prop} {g n cap : Nat} {xs : List α} (h : d.R e w base ok (.slice (some ⟨g, 0, none⟩) n cap) xs) (i : Nat) (hi : i ≤ n) (vs : List Value) (hv : vs.length = (n - i) * d.sz) :
    d.R e (w.setCells g (i * d.sz) vs) base ok (.slice (some ⟨g, 0, none⟩) i cap) (xs.take i) ∧ w.grownBy (w.setCells g (i * d.sz) vs) (some g) := by
  obtain ⟨hn, hnc, _⟩ := Kd.R_reads' h
  have hT := Kd.R_take h (m := i) (by omega)
  obtain ⟨hok, inner, ho, hr⟩ := hT
  have hli : (xs.take i).length = i := by rw [List.length_take]; omega
  obtain ⟨ho1, ho2⟩ := ho
  rcases ho2 with ⟨hv', _⟩ | ⟨g', cap', cur, hv', hb, hh, hnc', hcm, hcs, ht⟩
  · cases hv'
  injection hv' with ha _ hc
  injection ha with ha
  injection ha with hg
  subst hg; subst hc
  have hfit : i * d.sz + vs.length ≤ cur.size := by
    rw [hv, hcs, ← Nat.add_mul]
    exact Nat.mul_le_mul_right _ (by omega)
  obtain ⟨cur', h3, h4, h5⟩ := setCells_row vs (i * d.sz) w cur hh hfit
  obtain ⟨s1, s2, s3, s4⟩ := setCells_same g vs (i * d.sz) w
  have hfar : ∀ k, k ≠ g → (w.setCells g (i * d.sz) vs).heap[k]? = w.heap[k]? := fun k hk => setCells_far vs _ k hk
  refine ⟨⟨hok, inner, ⟨ho1, .inr ⟨g, cap, cur', by rw [hli], hb, h3, by rw [hli]; omega, hcm, by rw [h4, hcs], ?_⟩⟩, hr.imp_ fun p c hp => ?_⟩, ⟨s1, s2, s3, by rw [s4]; exact Nat.le_refl _, fun k _ hk => hfar k (fun he => hk (by rw [he]))⟩⟩
  · rw [hli] at ht ⊢
    have e1 : (cur.toList.take (i * d.sz)).length = i * d.sz := by rw [List.length_take, Array.length_toList]; omega
    rw [h5, List.append_assoc, List.take_append_of_le_length (by rw [e1]; exact Nat.le_refl _), List.take_of_length_le (by rw [e1]; exact Nat.le_refl _)]
    exact ht
  · exact d.M_move (fun k hk => hfar k (fun he => hk.2 (by rw [he]; simp [Value.ownBlock]))) hp
theorem R_room {α : Type} {d : Kd α} {e : Nat} {w : World} {base : Nat} {ok : Nat → Prop} {g n cap : Nat} {xs : List α} (h : d.R e w base ok (.slice (some ⟨g, 0, none⟩) n cap) xs) (j : Nat) (hj : j < n * d.sz) : (w.cell? ⟨g, j, none⟩).isSome = true ∧ w.frozen? ⟨g, j, none⟩ = false := by
  obtain ⟨hn, hnc, _⟩ := Kd.R_reads' h
  obtain ⟨hok, inner, ho, hr⟩ := h
  obtain ⟨ho1, ho2⟩ := ho
  rcases ho2 with ⟨hv', _⟩ | ⟨g', cap', cur, hv', hb, hh, hnc', hcm, hcs, ht⟩
  · cases hv'
  injection hv' with ha _ hc
  injection ha with ha
  injection ha with hg
  subst hg; subst hc
  refine ⟨?_, blk_frozen hh _⟩
  rw [blk_cell hh]
  have : j < cur.size := by
    rw [hcs]
    exact Nat.lt_of_lt_of_le hj (Nat.mul_le_mul_right _ hnc)
  rw [Array.getElem?_eq_getElem this]
  rfl
set_option maxHeartbeats 2000000 in
/-- slices.Clone at structs. -/
theorem impl_notesFor.clone.calls (A0 : Option Addr) (c0 : Nat) (l0 : List S75) (w : World) (hr0 : Kd.C k75 w A0 l0.length l0) (hlen : l0.length * 56 ≤ 140737488355328) :
    Calls Try.prog 53 #[.slice A0 l0.length c0] w fun e w' => ∃ v0_ : Value, e = .returned (v0_) ∧ Kd.R k75 75 w' w.heap.size (fun _ => True) v0_ l0 ∧ Below w.heap.size w w' := by
  have hu90 := Try.underlying75
  have q22 : ∀ (w : World) (a : Option Addr) (n c n' c' : Nat), (binOp .eql 24 (.slice a n c) (.slice none n' c')).run Try.prog w = .ok (.bool a.isNone) w := fun w a n c n' c' => Lib.run_eql_slice_nil w _ _ a n c n' c' Try.underlying24
  have HR0 := Aside0.mk hr0
  have HL := Aside0.mk hlen
  cases A0 with
  | none =>
    have h0 : l0 = [] := by
      rcases Nat.eq_zero_or_pos l0.length with h | h
      · exact List.eq_nil_of_length_eq_zero h
      · obtain ⟨ad, h1, _⟩ := hr0.2.2 h
        cases h1
    subst h0
    clear hr0 hlen HR0 HL
    go_enter Try.func53, Try.ntmps53
    go_wp2
    go_ret
    exact ⟨_, rfl, Kd.R_nil _ _ _ _ _, Below.refl _ _⟩
  | some ad =>
    clear hr0 hlen
    have HB := Aside0.mk (Below.refl w.heap.size w)
    go_enter Try.func53, Try.ntmps53
    go_wp2_with (first | ((with_reducible refine gate_dst (N := 5) rfl ?_); refine Kd.R_lit k75 _ 75 ?hg (N := 5) ?hd (xs := ([] : List (S75))) (inner := []) (ok := fun _ => True) (okp := fun _ => True) ?hr ?hp (fun _ hk => hk) trivial (Below.refl _ _) (Nat.le_refl _) (by simp) ?_; (case hd => rfl); (case hg => rfl); (case hr => first | (go_simp; done) | (go_simp; rfl)); (case hp => exact (Reps.none _ _)); intro v130 w2 ho3 hb hg_ hnew_; clear hg_ hnew_; have HO := Aside0.mk ho3; clear HB; have HB := Aside0.mk hb; clear ho3 hb) | ((with_reducible refine gate_builtin (b := .append) (xs := #[.tmp 5, .tmp 6]) rfl ?_); at_builtin; refine Kd.R_append_rows k75 (w0 := w) w.heap.size rfl (.tmp 5) (.tmp 6) 24 75 (.agg #[(.int .i64 0), (.int .i64 0), (.int .i64 0), (.int .i64 0), (.int .i64 0), (.int .i64 0), (.int .i64 0)]) 56 rfl Try.underlying24 info75 rfl (by decide) (by omega) v130 ([] : List (S75)) l0 _ _ _ (fun _ => True) (fun _ => False) rfl rfl ?aO ?aR (fun _ _ h => h) (fun _ h => h.elim) ?aF ?aB ?aS ?aL ?_; (case aR => exact (Kd.C_below HR0.out HB.out)); (case aB => exact HB.out); (case aF => exact (fun _ _ => trivial)); (case aO => exact HO.out); (case aS => exact (below_size HB.out)); (case aL => have := HL.out; simpa using this); intro v202 w11 ho hb hg hat; clear HB HO; have HB := Aside0.mk hb; have HO := Aside0.mk ho; clear ho hb hg hat))
    go_ret
    exact ⟨_, rfl, by have := HO.out; rwa [List.nil_append] at this, HB.out⟩
set_option maxHeartbeats 2000000 in
/-- slices.IndexFunc over structs: whatever the function value says of each element. -/
theorem impl_notesFor.idx.calls (p : S75 → Bool) (lb : Array Value) (A0 : Option Addr) (c0 : Nat) (l0 : List S75) (w : World) (hr0 : Kd.C k75 w A0 l0.length l0) (hc0 : l0.length ≤ c0)
    (hp : ∀ (W : World) (x : S75), Below w.heap.size w W → Calls Try.prog 121 (#[.agg #[.int .i64 x.f0, .int .i64 x.f1, .int .i64 x.f2.f0, .int .i64 x.f2.f1, .int .i64 x.f2.f2, .int .i64 x.f2.f3, .int .i64 x.f2.f4]] ++ lb) W fun e w' => e = .returned (.bool (p x)) ∧ Below W.heap.size W w') :
    Calls Try.prog 138 #[.slice A0 l0.length c0, .func (.func 121) #[] lb] w fun e w' => e = .returned (.int .i64 (idxP p l0)) ∧ Below w.heap.size w w' := by
  have hu90 := Try.underlying75
  have HR0 := Aside0.mk hr0
  have HC0 := Aside0.mk hc0
  have HP := Aside0.mk hp
  have hmax : l0.length ≤ 9223372036854775807 := hr0.2.1
  clear hr0 hc0 hp
  have HB := Aside0.mk (Below.refl w.heap.size w)
  go_enter Try.func138, Try.ntmps138
  go_wp2
  go_loopg [8] l0.length (fun gk v8 w' => ∃ i : Nat, v8 = .int .i64 i ∧ Aside0 (i ≤ l0.length) ∧ Aside0 (l0.length - i ≤ gk) ∧ Aside0 (Below w.heap.size w w') ∧ Aside0 (∀ j z, j < i → l0[j]? = some z → p z = false))
  case atStart => exact ⟨0, rfl, ⟨Nat.zero_le _⟩, ⟨by omega⟩, HB, ⟨fun j z hj => absurd hj (Nat.not_lt_zero _)⟩⟩
  case round =>
    obtain ⟨i, rfl, HI, HG, HB1, HF⟩ := hrel
    by_cases hlt : i < l0.length
    · have hltz : decide ((i : Int) < (l0.length : Int)) = true := decide_eq_true (by omega)
      obtain ⟨ad, ea, hx0, hx1, hx2, hx3, hx4, hx5, hx6⟩ := at_T75 HR0.out (i : Int) (by omega) (by omega)
      cases ea
      rw [Int.toNat_natCast] at hx0 hx1 hx2 hx3 hx4 hx5 hx6
      obtain ⟨y, hy⟩ : ∃ y, l0[i]? = some y := ⟨_, List.getElem?_eq_getElem hlt⟩
      have hrd : rd_T75 l0 (i : Int) = y := by simp [rd_T75, List.getD_eq_getElem?_getD, hy]
      have HY := Aside0.mk hy
      rw [hrd] at hx0 hx1 hx2 hx3 hx4 hx5 hx6
      clear hrd hy
      have up : ∀ (a : Addr) (v : Value), w.cell? a = some v → wr.cell? a = some v := fun a v h => (HB1.out.cell (World.block_lt_of_cell? w _ h)).trans h
      replace hx0 := up _ _ hx0; replace hx1 := up _ _ hx1; replace hx2 := up _ _ hx2; replace hx3 := up _ _ hx3; replace hx4 := up _ _ hx4; replace hx5 := up _ _ hx5; replace hx6 := up _ _ hx6
      clear up
      have h0 : decide (0 ≤ (i : Int)) = true := decide_eq_true (by omega)
      rcases Bool.eq_false_or_eq_true (p y) with hq | hq
      · have hcall := HP.out wr y HB1.out
        rw [hq] at hcall
        have HQ := Aside0.mk hq
        have HC := Aside0.mk hcall
        clear hq hcall
        go_wp2_with fail
        refine HC.out.mono ?_
        rintro e w2 ⟨rfl, hb2⟩
        have HB2 := Aside0.mk (HB1.out.trans (hb2.mono HB1.out.size))
        clear hb2
        go_wp2
        go_ret
        exact ⟨by rw [idxP_hit p l0 i y HY.out HQ.out HF.out]; rfl, HB2.out⟩
      · have hcall := HP.out wr y HB1.out
        rw [hq] at hcall
        have HQ := Aside0.mk hq
        have HC := Aside0.mk hcall
        clear hq hcall
        go_wp2_with fail
        refine HC.out.mono ?_
        rintro e w2 ⟨rfl, hb2⟩
        have HB2 := Aside0.mk (HB1.out.trans (hb2.mono HB1.out.size))
        clear hb2
        go_wp2
        go_roundg (l0.length - (i + 1))
        case measure => have := HG.out; omega
        case rel =>
          refine ⟨i + 1, by go_num, ⟨by omega⟩, ⟨Nat.le_refl _⟩, HB2, ⟨fun j z hj hz => ?_⟩⟩
          by_cases e : j = i
          · subst e
            rw [HY.out] at hz
            cases hz
            exact HQ.out
          · exact HF.out j z (by omega) hz
    · have hltz : decide ((i : Int) < (l0.length : Int)) = false := decide_eq_false (by omega)
      go_wp2
      go_ret
      exact ⟨by rw [idxP_miss p l0 (fun j z hj hz => HF.out j z (by omega) hz)]; rfl, HB1.out⟩
theorem impl_notesFor.del.start {α : Type} (p : α → Bool) (l : List α) : (idxP p l = -1 ∧ (l.filter fun x => !p x) = l) ∨ ∃ i : Nat, i < l.length ∧ idxP p l = (i : Int) ∧ (l.take (i + 1)).filter (fun x => !p x) = l.take i := by
  unfold idxP
  cases h : l.findIdx? p with
  | none =>
    refine .inl ⟨rfl, ?_⟩
    rw [List.findIdx?_eq_none_iff] at h
    rw [List.filter_eq_self]
    intro x hx
    simp [h x hx]
  | some i =>
    rw [List.findIdx?_eq_some_iff_getElem] at h
    obtain ⟨hi, hp, hb⟩ := h
    refine .inr ⟨i, hi, rfl, ?_⟩
    rw [List.take_succ_eq_append_getElem hi, List.filter_append]
    have e1 : (l.take i).filter (fun x => !p x) = l.take i := by
      rw [List.filter_eq_self]
      intro x hx
      obtain ⟨j, hj, rfl⟩ := List.mem_iff_getElem.1 hx
      rw [List.length_take] at hj
      rw [List.getElem_take]
      have := hb j (by omega)
      simpa using this
    rw [e1]
    simp [hp]
theorem impl_notesFor.del.size : (Try.prog.info? 75).map (·.size) = some 7 := by
  have h := congrArg (Option.map (fun x => x.2.1)) info75
  simpa [Option.map_map] using h
set_option maxHeartbeats 8000000 in
set_option maxRecDepth 100000 in
/-- slices.DeleteFunc over structs, on a row of the call's own. -/
theorem impl_notesFor.del.calls (p : S75 → Bool) (lb : Array Value) (v : Value) (l0 : List S75) (base : Nat) (w0 w : World) (hB : Below base w0 w) (hbw : base ≤ w.heap.size) (ho : Kd.R k75 75 w base (fun _ => True) v l0)
    (hp : ∀ (W : World) (x : S75), Kept w W (fun k_ => v.ownBlock = some k_) → Calls Try.prog 121 (#[.agg #[.int .i64 x.f0, .int .i64 x.f1, .int .i64 x.f2.f0, .int .i64 x.f2.f1, .int .i64 x.f2.f2, .int .i64 x.f2.f3, .int .i64 x.f2.f4]] ++ lb) W fun e w' => e = .returned (.bool (p x)) ∧ Below W.heap.size W w') :
    Calls Try.prog 120 #[v, .func (.func 121) #[] lb] w fun e w' => ∃ v' : Value, e = .returned v' ∧ Kd.R k75 75 w' base (fun _ => True) v' (l0.filter fun x => !p x) ∧ Below base w0 w' := by
  have hu90 := Try.underlying75
  obtain ⟨A0, c0, rfl, hc0, hr0⟩ := Kd.R_reads ho
  have HI := Aside0.mk (impl_notesFor.idx.calls p lb A0 c0 l0 w hr0 hc0 (fun W x hW => hp W x (Kept.of_below hW _)))
  rcases impl_notesFor.del.start p l0 with ⟨e1, e2⟩ | ⟨i0, hi0, e1, e2⟩
  · rw [e2]
    rw [e1] at HI
    have HO := Aside0.mk ho
    have HB := Aside0.mk hB
    have HW := Aside0.mk hbw
    clear ho hB hp hr0 hc0 e1 e2 hbw
    go_enter Try.func120, Try.ntmps120
    go_wp2_with fail
    refine HI.out.mono ?_
    rintro e w1 ⟨rfl, hb⟩
    have HO1 := Aside0.mk (Kd.R_below HO.out hb)
    have HB1 := Aside0.mk (HB.out.trans (hb.mono HW.out))
    clear hb HO HB HI
    go_wp2
    go_ret
    exact ⟨_, rfl, HO1.out, HB1.out⟩
  · rw [e1] at HI
    obtain ⟨g0, cap, ev, hg0, hgl, _⟩ := Kd.R_form ho (by omega)
    injection ev with ev1 ev2 ev3
    subst ev1
    subst ev3
    have hE : k75.E = [] := rfl
    have HO := Aside0.mk (Kd.R_mono (Kd.R_tight hE ho) (ok' := fun k_ => k_ = g0) (fun k_ hk => by have h_ : some g0 = some k_ := hk.symm; injection h_ with h_; exact h_.symm))
    have HP : Aside0 (∀ (W : World) (x : S75), Kept w W (fun k_ => k_ = g0) → Calls Try.prog 121 (#[.agg #[.int .i64 x.f0, .int .i64 x.f1, .int .i64 x.f2.f0, .int .i64 x.f2.f1, .int .i64 x.f2.f2, .int .i64 x.f2.f3, .int .i64 x.f2.f4]] ++ lb) W fun e w' => e = .returned (.bool (p x)) ∧ Below W.heap.size W w') := ⟨fun W x hW => hp W x (hW.mono (fun k_ hk => by subst hk; rfl))⟩
    have HB := Aside0.mk hB
    have HW := Aside0.mk hbw
    have HG := Aside0.mk hg0
    have HGL := Aside0.mk hgl
    have HC0 := Aside0.mk hc0
    have HE2 := Aside0.mk e2
    have hmax : l0.length ≤ 9223372036854775807 := hr0.2.1
    have hne1 : ((i0 : Int) == -1) = false := beq_eq_false_iff_ne.2 (by omega)
    have HI0 := Aside0.mk hi0
    clear ho hB hp hr0 e1 hbw hg0 hgl e2
    go_enter Try.func120, Try.ntmps120
    go_wp2_with fail
    refine HI.out.mono ?_
    rintro e w1 ⟨rfl, hb⟩
    have n0_ := Aside0.mk (Kd.R_below HO.out hb)
    have n1_ := Aside0.mk (HB.out.trans (hb.mono HW.out))
    have HK := Aside0.mk (Kept.of_below hb (fun k_ => k_ = g0))
    clear hb HO HB HI
    have HO := n0_
    have HB := n1_
    clear n0_ n1_
    go_wp2
    go_loopg [5, 6] l0.length (fun gk v5 v6 w' => ∃ (i j : Int) (xs : List S75), v5 = .int .i64 i ∧ v6 = .int .i64 j ∧ Aside0 (0 ≤ i ∧ i < j ∧ j ≤ l0.length) ∧ Aside0 ((l0.length : Int) - j ≤ gk) ∧ Aside0 (xs.length = l0.length ∧ xs.take i.toNat = (l0.take j.toNat).filter (fun x => !p x) ∧ xs.drop j.toNat = l0.drop j.toNat) ∧ Aside0 (Kd.R k75 75 w' base (fun k_ => k_ = g0) (.slice (some ⟨g0, 0, none⟩) l0.length c0) xs) ∧ Aside0 (Kept w w' (fun k_ => k_ = g0)) ∧ Aside0 (Below base w0 w'))
    case atStart => exact ⟨(i0 : Int), (i0 : Int) + 1, l0, rfl, by first | rfl | go_num, ⟨by have := HI0.out; omega⟩, ⟨by have := HI0.out; omega⟩, ⟨⟨rfl, by rw [show ((i0 : Int) + 1).toNat = i0 + 1 by omega, HE2.out, Int.toNat_natCast], rfl⟩⟩, HO, HK, HB⟩
    case round =>
      clear HO HB HK HE2 HI0 hi0
      obtain ⟨i, j, xs, rfl, rfl, HIJ, HGK, HX, HO, HK, HB⟩ := hrel
      have hgs : g0 < wr.heap.size := by have h1 := HK.out.1; have h2 := HGL.out; omega
      by_cases hlt : j < (l0.length : Int)
      · have hltz : decide (j < (l0.length : Int)) = true := decide_eq_true hlt
        have p0 : 0 ≤ j := by have := HIJ.out; omega
        have p0z : decide (0 ≤ j) = true := decide_eq_true p0
        have hxl : xs.length = l0.length := HX.out.1
        obtain ⟨ce, hcl, hM, hcc, hfr⟩ := Kd.R_elem HO.out z75 j p0 hlt
        obtain rfl := k75_openM hM
        obtain ⟨y, hy⟩ : ∃ y, xs.getD j.toNat z75 = y := ⟨_, rfl⟩
        rw [hy] at hcc hcl
        have hx0 := hcc 0 _ rfl
        have hx1 := hcc 1 _ rfl; have hx2 := hcc 2 _ rfl; have hx3 := hcc 3 _ rfl; have hx4 := hcc 4 _ rfl; have hx5 := hcc 5 _ rfl; have hx6 := hcc 6 _ rfl
        simp only [show (k75).sz = 7 from rfl, Nat.add_zero] at hx0 hx1 hx2 hx3 hx4 hx5 hx6
        clear hcl hcc hfr hM
        have HY : Aside0 (l0[j.toNat]? = some y) := ⟨by
          have h1 : xs[j.toNat]? = some y := by
            rw [← hy, List.getD_eq_getElem?_getD, List.getElem?_eq_getElem (by omega)]
            rfl
          have h2 := congrArg (fun z => z[0]?) HX.out.2.2
          simp only [List.getElem?_drop, Nat.add_zero] at h2
          rw [← h2]; exact h1⟩
        have hyz : xs.getD j.toNat z75 = y := hy
        clear hy
        rcases Bool.eq_false_or_eq_true (p y) with hq | hq
        all_goals
          have HQ := Aside0.mk hq
          have hcall : ∀ W, Kept w W (fun k_ => k_ = g0) → Calls Try.prog 121 (#[.agg #[.int .i64 y.f0, .int .i64 y.f1, .int .i64 y.f2.f0, .int .i64 y.f2.f1, .int .i64 y.f2.f2, .int .i64 y.f2.f3, .int .i64 y.f2.f4]] ++ lb) W fun e w' => e = .returned (.bool (p y)) ∧ Below W.heap.size W w' := fun W hW => HP.out W y hW
          rw [hq] at hcall
          have HC := Aside0.mk hcall
          clear hq hcall
          clear hyz
          go_wp2_with fail
          refine (HC.out _ (HK.out.alloc _)).mono ?_
          rintro e w12 ⟨rfl, hb⟩
          have n2_ := Aside0.mk (show Kept w w12 (fun k_ => k_ = g0) from (HK.out.alloc _).below hb)
          have n0_ := Aside0.mk (show Kd.R k75 75 w12 base (fun k_ => k_ = g0) (.slice (some ⟨g0, 0, none⟩) l0.length c0) xs from Kd.R_below (Kd.R_alloc HO.out _) hb)
          have n1_ := Aside0.mk (show Below base w0 w12 from below_then (HB.out.alloc (Nat.le_trans HW.out HK.out.1) _) (Nat.le_trans HW.out (HK.out.alloc _).1) hb)
          have BK := Aside0.mk (blk_below (blk_new wr _) hb)
          clear HO HB HC HK hb
          have HO := n0_
          have HB := n1_
          have HK := n2_
          clear n0_ n1_ n2_
        · go_wp2
          go_roundg ((l0.length : Int) - (j + 1)).toNat
          case measure => have := HGK.out; omega
          case rel =>
            refine ⟨i, j + 1, xs, rfl, by first | rfl | go_num, ⟨by have := HIJ.out; omega⟩, ⟨by omega⟩, ⟨HX.out.1, ?_, ?_⟩, HO, HK, HB⟩
            · have hj := (List.getElem?_eq_some_iff.1 HY.out)
              obtain ⟨hj1, hj2⟩ := hj
              rw [HX.out.2.1, show (j + 1).toNat = j.toNat + 1 by omega, List.take_succ_eq_append_getElem hj1, List.filter_append, hj2]
              simp [HQ.out]
            · have := congrArg (List.drop 1) HX.out.2.2
              rw [List.drop_drop, List.drop_drop] at this
              rw [show (j + 1).toNat = j.toNat + 1 by omega]
              exact this
        · have hczw12_0 : w12.cell? ⟨wr.heap.size, 0, none⟩ = some (.int .i64 (y.f0)) := (blk_cell BK.out 0).trans rfl; have hfzw12_0 := blk_frozen BK.out 0; have hczw12_1 : w12.cell? ⟨wr.heap.size, 1, none⟩ = some (.int .i64 (y.f1)) := (blk_cell BK.out 1).trans rfl; have hfzw12_1 := blk_frozen BK.out 1; have hczw12_2 : w12.cell? ⟨wr.heap.size, 2, none⟩ = some (.int .i64 (y.f2.f0)) := (blk_cell BK.out 2).trans rfl; have hfzw12_2 := blk_frozen BK.out 2; have hczw12_3 : w12.cell? ⟨wr.heap.size, 3, none⟩ = some (.int .i64 (y.f2.f1)) := (blk_cell BK.out 3).trans rfl; have hfzw12_3 := blk_frozen BK.out 3; have hczw12_4 : w12.cell? ⟨wr.heap.size, 4, none⟩ = some (.int .i64 (y.f2.f2)) := (blk_cell BK.out 4).trans rfl; have hfzw12_4 := blk_frozen BK.out 4; have hczw12_5 : w12.cell? ⟨wr.heap.size, 5, none⟩ = some (.int .i64 (y.f2.f3)) := (blk_cell BK.out 5).trans rfl; have hfzw12_5 := blk_frozen BK.out 5; have hczw12_6 : w12.cell? ⟨wr.heap.size, 6, none⟩ = some (.int .i64 (y.f2.f4)) := (blk_cell BK.out 6).trans rfl; have hfzw12_6 := blk_frozen BK.out 6
          have hi0 : 0 ≤ i := HIJ.out.1
          have hi0z : decide (0 ≤ i) = true := decide_eq_true hi0
          have hil : i < (l0.length : Int) := by have := HIJ.out; omega
          have hilz : decide (i < (l0.length : Int)) = true := decide_eq_true hil
          obtain ⟨ce2, hcl2, hM2, hcc2, hfr2⟩ := Kd.R_elem HO.out z75 i hi0 hil
          obtain rfl := k75_openM hM2
          have HCC := Aside0.mk hcc2
          have HCL := Aside0.mk hcl2
          clear hcc2 hfr2 hM2 hcl2
          go_wp2_with (first | ((with_reducible refine gate_store (t := 75) (p := 33) rfl ?_); go_must (refine Kd.R_store k75 (w0 := w0) base rfl rfl 75 (.tmp 33) (.tmp 32) rfl 75 (g := g0) (n := l0.length) (cap := c0) (o' := i.toNat * 7) i 0 xs y (.agg #[.int .i64 y.f0, .int .i64 y.f1, .int .i64 y.f2.f0, .int .i64 y.f2.f1, .int .i64 y.f2.f2, .int .i64 y.f2.f3, .int .i64 y.f2.f4]) [.int .i64 y.f0, .int .i64 y.f1, .int .i64 y.f2.f0, .int .i64 y.f2.f1, .int .i64 y.f2.f2, .int .i64 y.f2.f3, .int .i64 y.f2.f4] _ (fun k_ => k_ = g0) (fun _ => False) ?sa ?so ?sx rfl ?sz ?s1 HO.out hi0 hil HCL.out HCC.out ?sj ?sm (fun _ hk => hk.elim) HB.out ?_); go_must ((case sa => rfl)); go_must ((case so => rfl)); go_must ((case sz => exact impl_notesFor.del.size)); go_must ((case sx => rfl)); go_must ((case s1 => exact k75.K_one (k75_mk w12 y))); go_must ((case sj => rw [show k75.sz = 7 from rfl]; exact Nat.le_of_eq rfl)); go_must ((case sm => exact k75_mkM _ _ _ y)); intro w13 ho hb hg; have n0_ := Aside0.mk ho; have n1_ := Aside0.mk hb; have n2_ := Aside0.mk (Kept.of_grown hg HK.out (fun k_ hk => .inl (by injection hk with hk; exact hk.symm))); clear HO HB HK ho hb hg; have HO := n0_; have HB := n1_; have HK := n2_; clear n0_ n1_ n2_) | fail)
          go_roundg ((l0.length : Int) - (j + 1)).toNat
          case measure => have := HGK.out; omega
          case rel =>
            have hI : i.toNat < xs.length := by rw [HX.out.1]; omega
            obtain ⟨hj1, hj2⟩ := List.getElem?_eq_some_iff.1 HY.out
            refine ⟨i + 1, j + 1, xs.set i.toNat y, by first | rfl | go_num, by first | rfl | go_num, ⟨by have := HIJ.out; omega⟩, ⟨by omega⟩, ⟨by rw [List.length_set]; exact HX.out.1, ?_, ?_⟩, HO, HK, HB⟩
            · rw [show (i + 1).toNat = i.toNat + 1 by omega, show (j + 1).toNat = j.toNat + 1 by omega, List.take_succ_eq_append_getElem (by rw [List.length_set]; exact hI), List.take_succ_eq_append_getElem hj1, List.filter_append, hj2, ← HX.out.2.1]
              simp [HQ.out, List.take_set_of_le]
            · have := congrArg (List.drop 1) HX.out.2.2
              rw [List.drop_drop, List.drop_drop] at this
              rw [show (j + 1).toNat = j.toNat + 1 by omega, List.drop_set_of_lt (by have := HIJ.out; omega)]
              exact this
      · have hltz : decide (j < (l0.length : Int)) = false := decide_eq_false hlt
        have hi0 : 0 ≤ i := HIJ.out.1
        have hi0z : decide (0 ≤ i) = true := decide_eq_true hi0
        have hil : i < (l0.length : Int) := by have := HIJ.out; omega
        have hin : i.toNat < l0.length := by omega
        have hic : i.toNat ≤ c0 := by have := HC0.out; omega
        have hicz : decide (i ≤ (c0 : Int)) = true := decide_eq_true (by omega)
        have hinz : decide (i ≤ (l0.length : Int)) = true := decide_eq_true (by omega)
        obtain ⟨vs, hvl, hcl⟩ := run_clear_row (P := Try.prog) wr 24 75 0 _ Try.underlying24 Try.zeroValue75 (by intro q hq; exact k75.K_one (k75_mk wr z75) q hq) g0 (i.toNat * 7) (l0.length - i.toNat) (c0 - i.toNat) (by omega)
          (fun q hq => (R_room HO.out (i.toNat * 7 + q) (by rw [show k75.sz = 7 from rfl]; change q < (l0.length - i.toNat) * 7 at hq; omega)).1) (fun q hq => (R_room HO.out (i.toNat * 7 + q) (by rw [show k75.sz = 7 from rfl]; change q < (l0.length - i.toNat) * 7 at hq; omega)).2)
        obtain ⟨hR, hG⟩ := R_cleared HO.out i.toNat (by omega) vs hvl
        have HR := Aside0.mk hR
        have HGr := Aside0.mk hG
        have HV := Aside0.mk hvl
        clear hR hG hvl
        go_wp2
        go_ret
        have hx : xs.take i.toNat = l0.filter fun x => !p x := by
          rw [HX.out.2.1, List.take_of_length_le (by have := HIJ.out; omega)]
        have hxl : i.toNat = (l0.filter fun x => !p x).length := by
          rw [← hx, List.length_take, HX.out.1]
          omega
        have h1 := HR.out
        rw [hx] at h1
        exact ⟨_, rfl, Kd.R_mono h1 (fun _ _ => trivial), HB.out.grown HGr.out (Nat.le_trans HW.out HK.out.1) (fun k_ hk => by injection hk with hk; rw [← hk]; exact HG.out)⟩
def impl_notesFor.f (l0 : List (S75)) (a1 : Int) : Option (List (S75)) := if l0.length * 56 ≤ 140737488355328 then some (l0.filter fun x => !(x.f1 != a1)) else none
set_option maxHeartbeats 800000 in
theorem impl_notesFor.lit (x : S75) (b1 : Nat) (a1 : Int) (w : World) (h1 : w.cell? ⟨b1, 0, none⟩ = some (.int .i64 a1)) :
    Calls Try.prog 121 #[.agg #[.int .i64 x.f0, .int .i64 x.f1, .int .i64 x.f2.f0, .int .i64 x.f2.f1, .int .i64 x.f2.f2, .int .i64 x.f2.f3, .int .i64 x.f2.f4], .pointer (some ⟨b1, 0, none⟩)] w
      fun e w' => e = .returned (.bool ((x.f1 != a1))) ∧ Below w.heap.size w w' := by
  have hu90 := Try.underlying75
  have l1 : b1 < w.heap.size := World.block_lt_of_cell? w _ h1
  go_enter Try.func121, Try.ntmps121
  go_wp2
  go_ret
  exact ⟨rfl, (Below.refl _ _).alloc (Nat.le_refl _) _⟩
set_option maxHeartbeats 800000 in
theorem impl_notesFor.calls (A0 : Option Addr) (c0 : Nat) (l0 : List (S75)) (a1 : Int) (r : List (S75)) (w : World) (hr0 : Kd.C k75 w A0 l0.length l0) (hc0 : l0.length ≤ c0) (h : impl_notesFor.f l0 a1 = some r) :
    Calls Try.prog 99 #[.slice A0 l0.length c0, .int .i64 a1] w fun e w' => ∃ v0_ : Value, e = .returned (v0_) ∧ Kd.R k75 75 w' w.heap.size (fun _ => True) v0_ r ∧ Below w.heap.size w w' := by
  unfold impl_notesFor.f at h
  by_cases hlen : l0.length * 56 ≤ 140737488355328
  · rw [if_pos hlen] at h
    obtain rfl := Option.some.inj h
    clear h
    have HR := Aside0.mk hr0
    have HL := Aside0.mk hlen
    clear hr0 hlen
    go_enter Try.func99, Try.ntmps99
    go_wp2_with fail
    refine (impl_notesFor.clone.calls A0 c0 l0 _ (Kd.C_below HR.out ((Below.refl _ _).alloc (Nat.le_refl _) _)) HL.out).mono ?_
    rintro e w2 ⟨v0, rfl, ho, hb⟩
    have HO := Aside0.mk (Kd.R_lower (base' := w.heap.size) ho (by simp))
    have hcell : w2.cell? ⟨w.heap.size, 0, none⟩ = some (.int .i64 a1) := by rw [hb.cell (by simp)]; simp
    have HCELL := Aside0.mk hcell
    have HNE : Aside0 (¬ v0.ownBlock = some w.heap.size) := ⟨fun he => by have := Kd.R_base ho _ he; simp at this; omega⟩
    have HB := Aside0.mk (((Below.refl w.heap.size w).alloc (Nat.le_refl _) _).trans (hb.mono (by simp)))
    clear ho hb hcell
    go_wp2_with fail
    refine (impl_notesFor.del.calls (fun x => (x.f1 != a1)) #[.pointer (some ⟨w.heap.size, 0, none⟩)] v0 l0 w.heap.size w _ HB.out (below_size HB.out) HO.out ?_).mono ?_
    · intro W x hW
      exact impl_notesFor.lit x _ a1 W (cell_kept HCELL.out hW HNE.out)
    · rintro e w3 ⟨v', rfl, ho, hb⟩
      have HO2 := Aside0.mk ho
      have HB2 := Aside0.mk hb
      clear ho hb
      go_wp2
      go_ret
      exact ⟨_, rfl, HO2.out, HB2.out⟩
  · rw [if_neg hlen] at h; cases h

/-! ### slices_Compact_int_int: function 100 -/
def slices_Compact_int_int.f (l0 : List Int) : Option (List Int) := if l0.length ≤ 9223372036854775807 then some (Lib.compact l0) else none
theorem slices_Compact_int_int.calls (P0_ : Nat → Prop) (u9000_ : Value) (l0 : List Int) (r : List Int) (w0 w : World) (hB : Below w0.heap.size w0 w) (ho0 : Kd.R (Kd.int .i64) 3 w w0.heap.size P0_ u9000_ l0) (h : slices_Compact_int_int.f l0 = some r) :
    Calls Try.prog 100 #[u9000_] w fun e w' => ∃ v0_ : Value, e = .returned (v0_) ∧ Kd.R (Kd.int .i64) 3 w' w0.heap.size (fun k_ => (P0_ k_ ∨ w.heap.size ≤ k_)) v0_ r ∧ Below w0.heap.size w0 w' ∧ Kept w w' (fun k_ => P0_ k_) := by
  unfold slices_Compact_int_int.f at h
  by_cases c : l0.length ≤ 9223372036854775807
  · rw [if_pos c] at h
    obtain rfl := Option.some.inj h
    have hown := Kd.own_of_R ho0
    rcases hown.2 with ⟨rfl, h0⟩ | ⟨g, cap, cur, rfl, hbase, hbk, q1, q2, q3, q4⟩
    · have e0 : l0 = [] := List.length_eq_zero_iff.1 h0
      subst e0
      refine (Try.slices_Compact_int_empty none 0 w).mono ?_
      rintro e w' ⟨he, rfl⟩
      exact ⟨_, he, Kd.R_nil _ _ _ _ _, hB, Nat.le_refl _, fun _ _ _ => rfl⟩
    · have hlt := (Array.getElem?_eq_some_iff.1 hbk).1
      have hH : Go.Sort.Holds (Value.int .i64) w g 0 l0.toArray := so_holds hbk (by rw [Nat.mul_one] at q4; exact q4)
      refine (Try.slices_Compact_int g 0 cap l0 w hH c q1).mono ?_
      rintro e w' ⟨he, n, rfl⟩
      have hcl : (Lib.compact l0).length ≤ l0.length := Lib.compact_length_le l0
      have ho2 := so_own (enc := Value.int .i64) (n := n) (os := #[]) (ts := Lib.compact l0 ++ List.replicate (l0.length - (Lib.compact l0).length) 0) (m := l0.length) (by simp; omega) hbase hbk q1 q2 q3
      rw [Go.Sort.grow_empty] at ho2
      have ho3 := own_take ho2 (m := (Lib.compact l0).length) hcl
      have hk2 := so_other (enc := Value.int .i64) (w := w) (g := g) (n := n) (os := #[]) (Lib.compact l0 ++ List.replicate (l0.length - (Lib.compact l0).length) 0).toArray
      have hg2 := so_grownBy (enc := Value.int .i64) (w := w) (g := g) (n := n) (os := #[]) (Lib.compact l0 ++ List.replicate (l0.length - (Lib.compact l0).length) 0).toArray
      rw [Go.Sort.grow_empty] at hk2 hg2
      refine ⟨_, he, Kd.R_of_own (by unfold encs; simpa using ho3) (fun k hk => Or.inl (ho0.1 k hk)), hB.grown hg2 (Nat.le_trans hbase (Nat.le_of_lt hlt)) (by intro k hk; simp at hk; omega), by simp, fun k hk hne => hk2 k hk (fun e => hne (by rw [e]; exact ho0.1 g rfl))⟩
  · rw [if_neg c] at h; cases h

/-! ### impl_serialsOf: function 80 -/
def impl_serialsOf.l0 : Nat → List Int → List (S75) → Int → Int → Option (List Int)
  | 0, _, _, _, _ => none
  | k + 1, x5, x11, x12, x13 => if x13 < x12 then (if 0 ≤ x13 then (if x13 < (x11.length : Int) then (if x5.length < 17592186044416 then (impl_serialsOf.l0 k (x5 ++ [(rd_T75 x11 x13).f0]) x11 x12 (wrap64 (x13 + 1))) else (none)) else (none)) else (none)) else ((slices_Sort_int_int.f x5).bind fun t155 => ((slices_Compact_int_int.f t155).bind fun t156 => (some t156)))
def impl_serialsOf.f (k : Nat) (l0 : List (S75)) (a1 : Int) : Option (List Int) := (impl_notesFor.f l0 a1).bind fun t147 => (impl_serialsOf.l0 k (([] : List Int)) t147 (t147.length : Int) 0)
theorem impl_serialsOf.mono_l : ∀ k, (∀ y0 y1 y2 y3, LeO (impl_serialsOf.l0 k y0 y1 y2 y3) (impl_serialsOf.l0 (k + 1) y0 y1 y2 y3))
  | 0 => fun _ _ _ _ r h => by simp [impl_serialsOf.l0] at h
  | k + 1 => by
    have ih0 := impl_serialsOf.mono_l k
    · intro y0 y1 y2 y3
      unfold impl_serialsOf.l0
      repeat' first
      | (with_reducible exact ih0 _ _ _ _)
      | (with_reducible exact LeO.refl _)
      | (with_reducible exact LeO.none _)
      | (with_reducible refine LeO.ite ?_ ?_)
      | (with_reducible refine LeO.bind ?_ (fun _ => ?_))
      | exact ih0 _ _ _ _
      | exact LeO.none _
      | refine LeO.ite ?_ ?_
      | refine LeO.bind ?_ (fun _ => ?_)
theorem impl_serialsOf.mono : ∀ a0 a1 k, LeO (impl_serialsOf.f k a0 a1) (impl_serialsOf.f (k + 1) a0 a1) := by
  intro a0 a1 k
  have ih0 := impl_serialsOf.mono_l k
  unfold impl_serialsOf.f
  repeat' first
      | (with_reducible exact ih0 _ _ _ _)
      | (with_reducible exact LeO.refl _)
      | (with_reducible exact LeO.none _)
      | (with_reducible refine LeO.ite ?_ ?_)
      | (with_reducible refine LeO.bind ?_ (fun _ => ?_))
      | exact ih0 _ _ _ _
      | exact LeO.none _
      | refine LeO.ite ?_ ?_
      | refine LeO.bind ?_ (fun _ => ?_)
set_option maxHeartbeats 8000000 in
set_option maxRecDepth 100000 in
theorem impl_serialsOf.calls (k : Nat) (A0 : Option Addr) (c0 : Nat) (l0 : List (S75)) (a1 : Int) (r : List Int) (w : World) (hr0 : Kd.C k75 w A0 l0.length l0) (hc0 : l0.length ≤ c0) (h : impl_serialsOf.f k l0 a1 = some r) :
    Calls Try.prog 80 #[.slice A0 l0.length c0, .int .i64 a1] w fun e w' => ∃ v0_ : Value, e = .returned (v0_) ∧ Kd.R (Kd.int .i64) 3 w' w.heap.size (fun _ => True) v0_ r ∧ Below w.heap.size w w' := by
  have hu75 := Try.underlying75
  have HR0 := Aside0.mk hr0
  have HC0 := Aside0.mk hc0
  clear hr0 hc0
  have HB := Aside0.mk (Below.refl w.heap.size w)
  have H : ((impl_notesFor.f l0 a1).bind fun t147 => (impl_serialsOf.l0 k (([] : List Int)) t147 (t147.length : Int) 0)) = some r := h
  clear h
  obtain ⟨y144, hy144⟩ : ∃ y_ : List Int, y_ = (([] : List Int)) := ⟨_, rfl⟩
  replace H : ((impl_notesFor.f l0 a1).bind fun t147 => (impl_serialsOf.l0 k y144 t147 (t147.length : Int) 0)) = some r := by first | (rw [hy144]; with_reducible exact H) | (have H2_ := (Option.bind_some _ _).symm.trans H; rw [hy144]; with_reducible exact H2_) | (have H2_ := (Option.bind_some _ _).symm.trans H; with_reducible exact H2_) | with_reducible exact H | (rw [hy144]; exact H) | exact H
  have Ny144 := Aside0.mk hy144
  clear hy144
  replace H := Option.bind_eq_some_iff.mp H
  obtain ⟨t147, A30, H⟩ := H
  replace H : (impl_serialsOf.l0 k y144 t147 (t147.length : Int) 0) = some r := H
  have A3 := Aside0.mk A30
  clear A30
  have H' := Aside0.mk H
  clear H
  go_enter Try.func80, Try.ntmps80
  go_wp2_with (first | ((with_reducible refine gate_dst (N := 8) rfl ?_); refine Kd.R_lit (Kd.int .i64) _ 3 ?hg (N := 8) ?hd (xs := ([] : List Int)) (inner := []) (ok := fun _ => True) (okp := fun _ => True) ?hr ?hp (fun _ hk => hk) trivial (Below.refl _ _) (Nat.le_refl _) (by simp) ?_; (case hd => rfl); (case hg => rfl); (case hr => first | (go_simp; done) | (go_simp; rfl)); (case hp => exact (Reps.none _ _)); intro v145 w4 ho5 hb hg_ hnew_; clear hg_ hnew_; (first | rw [← Ny144.out] at ho5 | (simp only [Int.reduceToNat] at ho5; rw [← Ny144.out] at ho5)); have n0_ := Aside0.mk (Kd.R_lower ho5 (below_size (by repeat (first | (with_reducible first | exact HB.out | apply below_alloc | apply pw_below_drewN | apply below_drew1) | exact HB.out)))); have n1_ := Aside0.mk (below_step (by repeat (first | (with_reducible first | exact HB.out | apply below_alloc | apply pw_below_drewN | apply below_drew1) | exact HB.out)) hb); clear HB; have HO146 := n0_; have HB := n1_; clear n0_ n1_; clear hb ho5) | ((with_reducible refine gate_callee (f := 99) rfl ?_); refine goesL_ (some 11) rfl rfl Try.func99 (by kernel_rfl) rfl #[.slice A0 l0.length c0, .int .i64 a1] rfl (by (try simp only [List.map_toArray, List.map_cons, List.map_nil]); first | done | rfl | (simp only [List.length_drop, List.length_take]; rfl)) ?_; (with_reducible refine (impl_notesFor.calls _ _ l0 a1 t147 _ ?side1 ?side2 A3.out).mono ?_); (case side1 => repeat (first | exact (Kd.C_below HR0.out HB.out) | (with_reducible refine Kd.C_alloc ?_ _) | (with_reducible refine Kd.C_drewN ?_ _) | (with_reducible refine Kd.C_drew ?_))); (case side2 => exact HC0.out); rintro e w6 ⟨v148, rfl, ho0, hb⟩; refine ⟨_, rfl, ?_⟩; have n0_ := Aside0.mk (Kd.R_below (by (with_reducible repeat (first | apply Kd.R_alloc | apply Kd.R_drewN | apply Kd.R_drew)); exact HO146.out) hb); have n1_ := Aside0.mk (Kd.R_lower ho0 (below_size (by repeat (first | (with_reducible first | exact HB.out | apply below_alloc | apply pw_below_drewN | apply below_drew1) | exact HB.out)))); have n2_ := Aside0.mk (below_step (by repeat (first | (with_reducible first | exact HB.out | apply below_alloc | apply pw_below_drewN | apply below_drew1) | exact HB.out)) hb); clear HO146; clear HB; have HO146 := n0_; have HO149 := n1_; have HB := n2_; clear n0_ n1_ n2_; (try clear hb); (try clear hb2); (try clear hk); (try clear hi); (try clear ho0); obtain ⟨Ao7, co7, eo7⟩ := Kd.R_slice HO149.out; subst eo7))
  go_loopg [5, 13] k (fun kq v5 v13 w' => ∃ (x5_1 : List Int) (x13_1 : Int), v13 = .int .i64 x13_1 ∧ Aside0 (impl_serialsOf.l0 kq x5_1 t147 (t147.length : Int) x13_1 = some r) ∧ Aside0 (kq ≤ k) ∧ Aside0 (Kd.R (Kd.int .i64) 3 w' w.heap.size (fun _ => True) v5 x5_1) ∧ Aside0 (Kd.R k75 75 w' w.heap.size (fun _ => True) (.slice Ao7 t147.length co7) t147) ∧ Aside0 (Below w.heap.size w w'))
  case atStart => exact ⟨(y144), (0), (by first | rfl | (simp; done) | (simp [*]; done)), H', ⟨Nat.le_refl _⟩, ⟨by (with_reducible repeat (first | apply Kd.R_alloc | apply Kd.R_drewN | apply Kd.R_drew)); exact HO146.out⟩, ⟨by (with_reducible repeat (first | apply Kd.R_alloc | apply Kd.R_drewN | apply Kd.R_drew)); exact HO149.out⟩, ⟨by repeat (first | (with_reducible first | exact HB.out | apply below_alloc | apply pw_below_drewN | apply below_drew1) | exact HB.out)⟩⟩
  case round =>
    clear H'
    try clear p2
    obtain ⟨x5_1, x13_1, rfl, HA, HK1, HO_5, HO_11, HB⟩ := hrel
    cases gk with
    | zero => exact absurd HA.out (by simp [impl_serialsOf.l0])
    | succ k1 =>
      have H := HA.out
      clear HA
      simp only [impl_serialsOf.l0] at H
      by_cases c8 : x13_1 < (t147.length : Int)
      · rw [if_pos c8] at H
        have c8b0 : decide (x13_1 < (t147.length : Int)) = true := decide_eq_true c8
        clear c8
        by_cases c9 : 0 ≤ x13_1
        · rw [if_pos c9] at H
          have c9b0 : decide (0 ≤ x13_1) = true := decide_eq_true c9
          clear c9
          by_cases c10 : x13_1 < (t147.length : Int)
          · rw [if_pos c10] at H
            have c10b0 : decide (x13_1 < (t147.length : Int)) = true := decide_eq_true c10
            clear c10
            by_cases c11 : x5_1.length < 17592186044416
            · rw [if_pos c11] at H
              have LMc11 := Aside0.mk c11
              clear c11
              obtain ⟨y152, hy152⟩ : ∃ y_ : List Int, y_ = (x5_1 ++ [(rd_T75 t147 x13_1).f0]) := ⟨_, rfl⟩
              replace H : (impl_serialsOf.l0 k1 y152 t147 (t147.length : Int) (wrap64 (x13_1 + 1))) = some r := by first | (rw [hy152]; with_reducible exact H) | (have H2_ := (Option.bind_some _ _).symm.trans H; rw [hy152]; with_reducible exact H2_) | (have H2_ := (Option.bind_some _ _).symm.trans H; with_reducible exact H2_) | with_reducible exact H | (rw [hy152]; exact H) | exact H
              have Ny152 := Aside0.mk hy152
              clear hy152
              have H' := Aside0.mk H
              clear H
              have p150 : 0 ≤ (x13_1 : Int) := of_decide_eq_true (by first | (with_reducible assumption) | assumption)
              have q150 : x13_1 < (t147.length : Int) := of_decide_eq_true (by first | (with_reducible assumption) | assumption)
              obtain ⟨ad150, e150, hx150_0, hx150_1, hx150_2, hx150_3, hx150_4, hx150_5, hx150_6⟩ := at_T75 (Kd.R_reads' HO_11.out).2.2 x13_1 p150 q150
              cases e150
              replace p150 := eq_true p150
              replace q150 := eq_true q150
              go_wp2_with (first | ((with_reducible refine gate_dst (N := 7) rfl ?_); refine box_event ?hg (N := 7) ?hd (cs := #[.int .i64 0, .int .i64 0, .int .i64 0, .int .i64 0, .int .i64 0, .int .i64 0, .int .i64 0]) (t := 75) ?hr ?_; (case hd => rfl); (case hg => rfl); (case hr => first | (go_simp; done) | (go_simp; rfl)); intro gb151 hg w12 hbox hb; have n0_ := Aside0.mk (Kd.R_below (by (with_reducible repeat (first | apply Kd.R_alloc | apply Kd.R_drewN | apply Kd.R_drew)); exact HO_5.out) hb); have n1_ := Aside0.mk (Kd.R_below (Kd.R_elderB (by (with_reducible repeat (first | apply Kd.R_alloc | apply Kd.R_drewN | apply Kd.R_drew)); exact HO_11.out) gb151 (Nat.le_of_eq hg.symm)) hb); have n2_ := Aside0.mk (below_step (by repeat (first | (with_reducible first | exact HB.out | apply below_alloc | apply pw_below_drewN | apply below_drew1) | exact HB.out)) hb); have n3_ := Aside0.mk (hbox); have n4_ := Aside0.mk ((by rw [hg]; exact (below_size (by repeat (first | (with_reducible first | exact HB.out | apply below_alloc | apply pw_below_drewN | apply below_drew1) | exact HB.out))) : w.heap.size ≤ gb151)); have n5_ := Aside0.mk ((by rw [hg]; exact (below_size (by repeat (first | (with_reducible first | exact HB.out | apply below_alloc | apply pw_below_drewN | apply below_drew1) | exact HB.out))) : w.heap.size ≤ gb151)); clear HO_5; clear HO_11; clear HB; have HO_5 := n0_; have HO_11 := n1_; have HB := n2_; have BK151 := n3_; have GW151 := n4_; have GE151 := n5_; clear n0_ n1_ n2_ n3_ n4_ n5_; clear hb hbox hg; have hcz13_0 : w12.cell? ⟨gb151, 0, none⟩ = some (.int .i64 0) := (blk_cell BK151.out 0).trans rfl; have hcz13_1 : w12.cell? ⟨gb151, 1, none⟩ = some (.int .i64 0) := (blk_cell BK151.out 1).trans rfl; have hcz13_2 : w12.cell? ⟨gb151, 2, none⟩ = some (.int .i64 0) := (blk_cell BK151.out 2).trans rfl; have hcz13_3 : w12.cell? ⟨gb151, 3, none⟩ = some (.int .i64 0) := (blk_cell BK151.out 3).trans rfl; have hcz13_4 : w12.cell? ⟨gb151, 4, none⟩ = some (.int .i64 0) := (blk_cell BK151.out 4).trans rfl; have hcz13_5 : w12.cell? ⟨gb151, 5, none⟩ = some (.int .i64 0) := (blk_cell BK151.out 5).trans rfl; have hcz13_6 : w12.cell? ⟨gb151, 6, none⟩ = some (.int .i64 0) := (blk_cell BK151.out 6).trans rfl; have hfz13_0 := blk_frozen BK151.out 0; have hfz13_1 := blk_frozen BK151.out 1; have hfz13_2 := blk_frozen BK151.out 2; have hfz13_3 := blk_frozen BK151.out 3; have hfz13_4 := blk_frozen BK151.out 4; have hfz13_5 := blk_frozen BK151.out 5; have hfz13_6 := blk_frozen BK151.out 6) | ((with_reducible refine gate_builtin (b := .append) (xs := #[.tmp 17, .tmp 20]) rfl ?_); at_builtin; refine Kd.R_append (Kd.int .i64) (w0 := w) w.heap.size rfl (.tmp 17) (.tmp 20) 30 3 (.int .i64 0) 8 rfl Try.underlying30 info3 rfl (by decide) (by omega) u5 x5_1 ((rd_T75 t147 x13_1).f0) [.int .i64 ((rd_T75 t147 x13_1).f0)] (fun _ => True) (fun _ => False) rfl (by first | (go_simp; done) | (go_simp; rfl)) ?aP (fun _ hk => hk.elim) ?aF ?aO ?aB ?aS ?aL ?_; (case aP => exact rfl); (case aB => exact (by repeat (first | (with_reducible first | exact HB.out | apply below_alloc | apply pw_below_drewN | apply below_drew1 | refine below_set ?_ GE151.out) | exact HB.out))); (case aF => exact (fun _ _ => trivial)); (case aO => exact (by (with_reducible repeat (first | apply Kd.R_alloc | apply Kd.R_drewN | apply Kd.R_drew)); exact Kd.R_mono (Kd.R_far (p := ⟨gb151, 6, none⟩) (Kd.R_far (p := ⟨gb151, 5, none⟩) (Kd.R_far (p := ⟨gb151, 4, none⟩) (Kd.R_far (p := ⟨gb151, 3, none⟩) (Kd.R_far (p := ⟨gb151, 2, none⟩) (Kd.R_far (p := ⟨gb151, 1, none⟩) (Kd.R_far (p := ⟨gb151, 0, none⟩) (Kd.R_types HO_5.out BK151.out (by decide)) (fun _ hk => hk.2) (.int .i64 ((rd_T75 t147 x13_1).f0))) (fun _ hk => hk.2) (.int .i64 ((rd_T75 t147 x13_1).f1))) (fun _ hk => hk.2) (.int .i64 ((rd_T75 t147 x13_1).f2.f0))) (fun _ hk => hk.2) (.int .i64 ((rd_T75 t147 x13_1).f2.f1))) (fun _ hk => hk.2) (.int .i64 ((rd_T75 t147 x13_1).f2.f2))) (fun _ hk => hk.2) (.int .i64 ((rd_T75 t147 x13_1).f2.f3))) (fun _ hk => hk.2) (.int .i64 ((rd_T75 t147 x13_1).f2.f4))) (fun _ hk => trivial))); (case aS => exact (below_size (by repeat (first | (with_reducible first | exact HB.out | apply below_alloc | apply pw_below_drewN | apply below_drew1 | refine below_set ?_ GE151.out) | exact HB.out)))); (case aL => have := LMc11.out; omega); intro v153 w14 ho hb hg hat; rw [← Ny152.out] at ho; have n0_ := Aside0.mk (Kd.R_over' (by (with_reducible repeat (first | apply Kd.R_alloc | apply Kd.R_drewN | apply Kd.R_drew)); exact (Kd.R_mono (Kd.R_far (p := ⟨gb151, 6, none⟩) (Kd.R_far (p := ⟨gb151, 5, none⟩) (Kd.R_far (p := ⟨gb151, 4, none⟩) (Kd.R_far (p := ⟨gb151, 3, none⟩) (Kd.R_far (p := ⟨gb151, 2, none⟩) (Kd.R_far (p := ⟨gb151, 1, none⟩) (Kd.R_far (p := ⟨gb151, 0, none⟩) (Kd.R_mono HO_11.out (fun k_ hk => (⟨hk, hk.2⟩ : _ ∧ k_ ≠ gb151))) (fun _ hk => hk.2) (.int .i64 ((rd_T75 t147 x13_1).f0))) (fun _ hk => hk.2) (.int .i64 ((rd_T75 t147 x13_1).f1))) (fun _ hk => hk.2) (.int .i64 ((rd_T75 t147 x13_1).f2.f0))) (fun _ hk => hk.2) (.int .i64 ((rd_T75 t147 x13_1).f2.f1))) (fun _ hk => hk.2) (.int .i64 ((rd_T75 t147 x13_1).f2.f2))) (fun _ hk => hk.2) (.int .i64 ((rd_T75 t147 x13_1).f2.f3))) (fun _ hk => hk.2) (.int .i64 ((rd_T75 t147 x13_1).f2.f4))) (fun _ h_ => h_.1))) (Kd.R_typed (by (with_reducible repeat (first | apply Kd.R_alloc | apply Kd.R_drewN | apply Kd.R_drew)); exact (Kd.R_mono (Kd.R_far (p := ⟨gb151, 6, none⟩) (Kd.R_far (p := ⟨gb151, 5, none⟩) (Kd.R_far (p := ⟨gb151, 4, none⟩) (Kd.R_far (p := ⟨gb151, 3, none⟩) (Kd.R_far (p := ⟨gb151, 2, none⟩) (Kd.R_far (p := ⟨gb151, 1, none⟩) (Kd.R_far (p := ⟨gb151, 0, none⟩) (Kd.R_types HO_5.out BK151.out (by decide)) (fun _ hk => hk.2) (.int .i64 ((rd_T75 t147 x13_1).f0))) (fun _ hk => hk.2) (.int .i64 ((rd_T75 t147 x13_1).f1))) (fun _ hk => hk.2) (.int .i64 ((rd_T75 t147 x13_1).f2.f0))) (fun _ hk => hk.2) (.int .i64 ((rd_T75 t147 x13_1).f2.f1))) (fun _ hk => hk.2) (.int .i64 ((rd_T75 t147 x13_1).f2.f2))) (fun _ hk => hk.2) (.int .i64 ((rd_T75 t147 x13_1).f2.f3))) (fun _ hk => hk.2) (.int .i64 ((rd_T75 t147 x13_1).f2.f4))) (fun _ h_ => h_.1)))) (by decide) hg); have n1_ := Aside0.mk (blk_grown (g := gb151) (o := .cells #[.int .i64 ((rd_T75 t147 x13_1).f0), .int .i64 ((rd_T75 t147 x13_1).f1), .int .i64 ((rd_T75 t147 x13_1).f2.f0), .int .i64 ((rd_T75 t147 x13_1).f2.f1), .int .i64 ((rd_T75 t147 x13_1).f2.f2), .int .i64 ((rd_T75 t147 x13_1).f2.f3), .int .i64 ((rd_T75 t147 x13_1).f2.f4)] 75 (0, 0)) (by (with_reducible repeat (first | refine blk_drewN ?_ _ | refine blk_drew ?_ | refine blk_alloc ?_ _)); refine blk_put (cs := #[.int .i64 ((rd_T75 t147 x13_1).f0), .int .i64 ((rd_T75 t147 x13_1).f1), .int .i64 ((rd_T75 t147 x13_1).f2.f0), .int .i64 ((rd_T75 t147 x13_1).f2.f1), .int .i64 ((rd_T75 t147 x13_1).f2.f2), .int .i64 ((rd_T75 t147 x13_1).f2.f3), .int .i64 0]) ?_ 6 _ rfl; (with_reducible repeat (first | refine blk_drewN ?_ _ | refine blk_drew ?_ | refine blk_alloc ?_ _)); refine blk_put (cs := #[.int .i64 ((rd_T75 t147 x13_1).f0), .int .i64 ((rd_T75 t147 x13_1).f1), .int .i64 ((rd_T75 t147 x13_1).f2.f0), .int .i64 ((rd_T75 t147 x13_1).f2.f1), .int .i64 ((rd_T75 t147 x13_1).f2.f2), .int .i64 0, .int .i64 0]) ?_ 5 _ rfl; (with_reducible repeat (first | refine blk_drewN ?_ _ | refine blk_drew ?_ | refine blk_alloc ?_ _)); refine blk_put (cs := #[.int .i64 ((rd_T75 t147 x13_1).f0), .int .i64 ((rd_T75 t147 x13_1).f1), .int .i64 ((rd_T75 t147 x13_1).f2.f0), .int .i64 ((rd_T75 t147 x13_1).f2.f1), .int .i64 0, .int .i64 0, .int .i64 0]) ?_ 4 _ rfl; (with_reducible repeat (first | refine blk_drewN ?_ _ | refine blk_drew ?_ | refine blk_alloc ?_ _)); refine blk_put (cs := #[.int .i64 ((rd_T75 t147 x13_1).f0), .int .i64 ((rd_T75 t147 x13_1).f1), .int .i64 ((rd_T75 t147 x13_1).f2.f0), .int .i64 0, .int .i64 0, .int .i64 0, .int .i64 0]) ?_ 3 _ rfl; (with_reducible repeat (first | refine blk_drewN ?_ _ | refine blk_drew ?_ | refine blk_alloc ?_ _)); refine blk_put (cs := #[.int .i64 ((rd_T75 t147 x13_1).f0), .int .i64 ((rd_T75 t147 x13_1).f1), .int .i64 0, .int .i64 0, .int .i64 0, .int .i64 0, .int .i64 0]) ?_ 2 _ rfl; (with_reducible repeat (first | refine blk_drewN ?_ _ | refine blk_drew ?_ | refine blk_alloc ?_ _)); refine blk_put (cs := #[.int .i64 ((rd_T75 t147 x13_1).f0), .int .i64 0, .int .i64 0, .int .i64 0, .int .i64 0, .int .i64 0, .int .i64 0]) ?_ 1 _ rfl; (with_reducible repeat (first | refine blk_drewN ?_ _ | refine blk_drew ?_ | refine blk_alloc ?_ _)); refine blk_put (cs := #[.int .i64 0, .int .i64 0, .int .i64 0, .int .i64 0, .int .i64 0, .int .i64 0, .int .i64 0]) ?_ 0 _ rfl; (with_reducible repeat (first | refine blk_drewN ?_ _ | refine blk_drew ?_ | refine blk_alloc ?_ _)); exact BK151.out) hg (Kd.R_ne HO_5.out BK151.out (by decide))); have n2_ := Aside0.mk (hb); have n3_ := Aside0.mk (ho); clear HO_11; clear BK151; clear HB; clear HO_5; have HO_11 := n0_; have BK151 := n1_; have HB := n2_; have HO154 := n3_; clear n0_ n1_ n2_ n3_; clear ho hb hg hat))
              go_roundg k1
              case measure => have := HK1.out; omega
              case rel => exact ⟨(y152), (wrap64 (x13_1 + 1)), (by first | rfl | (simp; done) | (simp [*]; done)), H', ⟨by have := HK1.out; omega⟩, ⟨by (with_reducible repeat (first | apply Kd.R_alloc | apply Kd.R_drewN | apply Kd.R_drew)); exact HO154.out⟩, ⟨by (with_reducible repeat (first | apply Kd.R_alloc | apply Kd.R_drewN | apply Kd.R_drew)); exact Kd.R_mono HO_11.out (fun _ hk => trivial)⟩, ⟨by repeat (first | (with_reducible first | exact HB.out | apply below_alloc | apply pw_below_drewN | apply below_drew1 | refine below_set ?_ GE151.out) | exact HB.out)⟩⟩
            · rw [if_neg c11] at H
              exact absurd H (by simp)
          · rw [if_neg c10] at H
            exact absurd H (by simp)
        · rw [if_neg c9] at H
          exact absurd H (by simp)
      · rw [if_neg c8] at H
        have c8b0 : decide (x13_1 < (t147.length : Int)) = false := decide_eq_false c8
        clear c8
        replace H := Option.bind_eq_some_iff.mp H
        obtain ⟨t155, A150, H⟩ := H
        replace H : ((slices_Compact_int_int.f t155).bind fun t156 => (some t156)) = some r := H
        have A15 := Aside0.mk A150
        clear A150
        replace H := Option.bind_eq_some_iff.mp H
        obtain ⟨t156, A160, H⟩ := H
        replace H : (some t156) = some r := H
        have A16 := Aside0.mk A160
        clear A160
        obtain rfl := Option.some.inj H
        obtain ⟨Ao17, co17, eo17⟩ := Kd.R_slice HO_5.out
        subst eo17
        go_wp2_with (first | ((with_reducible refine gate_callee (f := 88) rfl ?_); refine goesL_ (some 24) rfl rfl Try.func88 (by kernel_rfl) rfl #[.slice Ao17 x5_1.length co17] rfl (by (try simp only [List.map_toArray, List.map_cons, List.map_nil]); first | done | rfl | (simp only [List.length_drop, List.length_take]; rfl)) ?_; (with_reducible refine (slices_Sort_int_int.calls (fun k_ => some k_ = (.slice Ao17 x5_1.length co17 : Value).ownBlock) (.slice Ao17 x5_1.length co17) x5_1 t155 w _ ?side1 ?side2 A15.out).mono ?_); (case side1 => repeat (first | (with_reducible first | exact HB.out | apply below_alloc | apply pw_below_drewN | apply below_drew1) | exact HB.out)); (case side2 => exact Kd.R_tight rfl HO_5.out); rintro e w18 ⟨rfl, hy0, hb, hkp⟩; refine ⟨_, rfl, ?_⟩; have n0_ := Aside0.mk (Kd.R_reok rfl hy0 (fun k_ e_ => HO_5.out.1 k_ e_)); have n1_ := Aside0.mk (Kd.R_mono (ok' := fun k_ => True) (Kd.R_keptB ((Kd.R_apart' HO_11.out (Kd.R_typed HO_5.out) (by decide))) hkp (fun k_ hk_ hs_ => (hk_.2) hs_)) (fun k_ hk_ => trivial)); have n2_ := Aside0.mk (hb); clear HO_5; clear HO_11; clear HB; have HO_5 := n0_; have HO_11 := n1_; have HB := n2_; clear n0_ n1_ n2_; (try clear hb); (try clear hkp); (try clear hy0)) | ((with_reducible refine gate_callee (f := 100) rfl ?_); refine goesL_ (some 26) rfl rfl Try.func100 (by kernel_rfl) rfl #[.slice Ao17 x5_1.length co17] rfl (by (try simp only [List.map_toArray, List.map_cons, List.map_nil]); first | done | rfl | (simp only [List.length_drop, List.length_take]; rfl)) ?_; (with_reducible refine (slices_Compact_int_int.calls (fun k_ => some k_ = (.slice Ao17 x5_1.length co17 : Value).ownBlock) (.slice Ao17 x5_1.length co17) t155 t156 w _ ?side1 ?side2 A16.out).mono ?_); (case side1 => repeat (first | (with_reducible first | exact HB.out | apply below_alloc | apply pw_below_drewN | apply below_drew1) | exact HB.out)); (case side2 => exact Kd.R_tight rfl HO_5.out); rintro e w19 ⟨v157, rfl, ho0, hb, hkp⟩; refine ⟨_, rfl, ?_⟩; have n0_ := Aside0.mk (Kd.R_mono (ok' := fun k_ => True) (Kd.R_keptB ((Kd.R_apart' HO_11.out (Kd.R_typed HO_5.out) (by decide))) hkp (fun k_ hk_ hs_ => (hk_.2) hs_)) (fun k_ hk_ => trivial)); have n1_ := Aside0.mk (Kd.R_mono (ok' := fun k_ => True) ho0 (fun k_ hk_ => trivial)); have n2_ := Aside0.mk (hb); clear HO_11; clear HB; clear HO_5; have HO_11 := n0_; have HO158 := n1_; have HB := n2_; clear n0_ n1_ n2_; (try clear hb); (try clear hkp); (try clear ho0)))
        go_ret
        exact ⟨_, by first | rfl | (simp [errW_none, errW_some] <;> rfl) | (simp [*, errW_none, errW_some] <;> rfl), by (with_reducible repeat (first | apply Kd.R_alloc | apply Kd.R_drewN | apply Kd.R_drew)); exact HO158.out, by repeat (first | (with_reducible first | exact HB.out | apply below_alloc | apply pw_below_drewN | apply below_drew1) | exact HB.out)⟩

/-! ### impl_Corrections: function 44 -/
def impl_Corrections.f (k : Nat) (l0 : List (S75)) (a1 : Int) : Option (Int) := (impl_serialsOf.f k l0 a1).bind fun t159 => (some (mx (wrap64 ((t159.length : Int) - 1)) 0))
theorem impl_Corrections.mono : ∀ a0 a1 k, LeO (impl_Corrections.f k a0 a1) (impl_Corrections.f (k + 1) a0 a1) := by
  intro a0 a1 k
  unfold impl_Corrections.f
  repeat' first
      | (with_reducible exact impl_serialsOf.mono _ _ _)
      | (with_reducible exact LeO.refl _)
      | (with_reducible exact LeO.none _)
      | (with_reducible refine LeO.ite ?_ ?_)
      | (with_reducible refine LeO.bind ?_ (fun _ => ?_))
      | exact impl_serialsOf.mono _ _ _
      | exact LeO.none _
      | refine LeO.ite ?_ ?_
      | refine LeO.bind ?_ (fun _ => ?_)
set_option maxHeartbeats 8000000 in
set_option maxRecDepth 100000 in
theorem impl_Corrections.calls (k : Nat) (A0 : Option Addr) (c0 : Nat) (l0 : List (S75)) (a1 : Int) (r : Int) (w : World) (hr0 : Kd.C k75 w A0 l0.length l0) (hc0 : l0.length ≤ c0) (h : impl_Corrections.f k l0 a1 = some r) :
    Calls Try.prog 44 #[.slice A0 l0.length c0, .int .i64 a1] w fun e w' => e = .returned (.int .i64 r) ∧ Below w.heap.size w w' := by
  have HR0 := Aside0.mk hr0
  have HC0 := Aside0.mk hc0
  clear hr0 hc0
  have HB := Aside0.mk (Below.refl w.heap.size w)
  have H : ((impl_serialsOf.f k l0 a1).bind fun t159 => (some (mx (wrap64 ((t159.length : Int) - 1)) 0))) = some r := h
  clear h
  replace H := Option.bind_eq_some_iff.mp H
  obtain ⟨t159, A30, H⟩ := H
  replace H : (some (mx (wrap64 ((t159.length : Int) - 1)) 0)) = some r := H
  have A3 := Aside0.mk A30
  clear A30
  obtain ⟨ji4, hji4⟩ : ∃ j_ : Int, (mx (wrap64 ((t159.length : Int) - 1)) 0) = j_ := ⟨_, rfl⟩
  replace H : (some ji4) = some r := by first | (rw [hji4] at H; exact H) | (simp only [hji4] at H ⊢; exact H)
  (try rw [hji4] at A3)
  (try (have hji4l : 0 ≤ ji4 := by (rw [← hji4]; unfold mx; (repeat' split) <;> omega)))
  (try (have hji4m : 0 ≤ ji4 := by omega))
  have hji4_ : (if (wrap64 ((t159.length : Int) - 1)) < 0 then 0 else (wrap64 ((t159.length : Int) - 1))) = ji4 := hji4
  obtain rfl := Option.some.inj H
  go_enter Try.func44, Try.ntmps44
  go_wp2_with (first | ((with_reducible refine gate_callee (f := 80) rfl ?_); refine goesL_ (some 7) rfl rfl Try.func80 (by kernel_rfl) rfl #[.slice A0 l0.length c0, .int .i64 a1] rfl (by (try simp only [List.map_toArray, List.map_cons, List.map_nil]); first | done | rfl | (simp only [List.length_drop, List.length_take]; rfl)) ?_; (with_reducible refine (impl_serialsOf.calls k _ _ l0 a1 t159 _ ?side1 ?side2 A3.out).mono ?_); (case side1 => repeat (first | exact HR0.out | (with_reducible refine Kd.C_alloc ?_ _) | (with_reducible refine Kd.C_drewN ?_ _) | (with_reducible refine Kd.C_drew ?_))); (case side2 => exact HC0.out); rintro e w5 ⟨v160, rfl, ho0, hb⟩; refine ⟨_, rfl, ?_⟩; have n0_ := Aside0.mk (Kd.R_lower ho0 (below_size (by repeat (first | (with_reducible first | exact HB.out | apply below_alloc | apply pw_below_drewN | apply below_drew1) | exact HB.out)))); have n1_ := Aside0.mk (below_step (by repeat (first | (with_reducible first | exact HB.out | apply below_alloc | apply pw_below_drewN | apply below_drew1) | exact HB.out)) hb); clear HB; have HO161 := n0_; have HB := n1_; clear n0_ n1_; (try clear hb); (try clear hb2); (try clear hk); (try clear hi); (try clear ho0); obtain ⟨Ao6, co6, eo6⟩ := Kd.R_slice HO161.out; subst eo6))
  go_ret
  exact ⟨by first | rfl | (simp [errW_none, errW_some] <;> rfl) | (simp only [← hji4]; first | rfl | (simp [errW_none, errW_some] <;> rfl)) | (simp [*, errW_none, errW_some] <;> rfl), by repeat (first | (with_reducible first | exact HB.out | apply below_alloc | apply pw_below_drewN | apply below_drew1) | exact HB.out)⟩

/-! ### laws_FnExactCorrections: function 9 -/
def laws_FnExactCorrections.f (k : Nat) (l0 : List (S79)) (a1 : Int) : Option (Bool) := (laws_szNoteS.f l0 1048576).bind fun t162 => (if t162 < 0 then (some true) else ((laws_toNoteS.f k l0).bind fun t163 => ((spec_Corrections.f k t163 a1).bind fun t166 => ((laws_toNoteS.f k l0).bind fun t167 => ((impl_Corrections.f k t167 a1).bind fun t170 => (if t170 = t166 then ((laws_toNoteS.f k l0).bind fun t171 => ((laws_eqNoteS.f k t167 t171).bind fun t174 => (if t174 = true then (some true) else (some false)))) else (some false)))))))
theorem laws_FnExactCorrections.mono : ∀ a0 a1 k, LeO (laws_FnExactCorrections.f k a0 a1) (laws_FnExactCorrections.f (k + 1) a0 a1) := by
  intro a0 a1 k
  unfold laws_FnExactCorrections.f
  repeat' first
      | (with_reducible exact impl_Corrections.mono _ _ _)
      | (with_reducible exact laws_eqNoteS.mono _ _ _)
      | (with_reducible exact laws_toNoteS.mono _ _)
      | (with_reducible exact spec_Corrections.mono _ _ _)
      | (with_reducible exact LeO.refl _)
      | (with_reducible exact LeO.none _)
      | (with_reducible refine LeO.ite ?_ ?_)
      | (with_reducible refine LeO.bind ?_ (fun _ => ?_))
      | exact impl_Corrections.mono _ _ _
      | exact laws_eqNoteS.mono _ _ _
      | exact laws_toNoteS.mono _ _
      | exact spec_Corrections.mono _ _ _
      | exact LeO.none _
      | refine LeO.ite ?_ ?_
      | refine LeO.bind ?_ (fun _ => ?_)
set_option maxHeartbeats 8000000 in
set_option maxRecDepth 100000 in
theorem laws_FnExactCorrections.calls (k : Nat) (A0 : Option Addr) (c0 : Nat) (l0 : List (S79)) (a1 : Int) (r : Bool) (w : World) (hr_ : r = true) (hr0 : Kd.C k79 w A0 l0.length l0) (hc0 : l0.length ≤ c0) (h : laws_FnExactCorrections.f k l0 a1 = some r) :
    Calls Try.prog 9 #[.slice A0 l0.length c0, .int .i64 a1] w fun e w' => e = .returned (.bool r) ∧ Below w.heap.size w w' := by
  have HR_ := Aside0.mk hr_
  clear hr_
  have HR0 := Aside0.mk hr0
  have HC0 := Aside0.mk hc0
  clear hr0 hc0
  have HB := Aside0.mk (Below.refl w.heap.size w)
  have H : ((laws_szNoteS.f l0 1048576).bind fun t162 => (if t162 < 0 then (some true) else ((laws_toNoteS.f k l0).bind fun t163 => ((spec_Corrections.f k t163 a1).bind fun t166 => ((laws_toNoteS.f k l0).bind fun t167 => ((impl_Corrections.f k t167 a1).bind fun t170 => (if t170 = t166 then ((laws_toNoteS.f k l0).bind fun t171 => ((laws_eqNoteS.f k t167 t171).bind fun t174 => (if t174 = true then (some true) else (some false)))) else (some false)))))))) = some r := h
  clear h
  replace H := Option.bind_eq_some_iff.mp H
  obtain ⟨t162, A30, H⟩ := H
  replace H : (if t162 < 0 then (some true) else ((laws_toNoteS.f k l0).bind fun t163 => ((spec_Corrections.f k t163 a1).bind fun t166 => ((laws_toNoteS.f k l0).bind fun t167 => ((impl_Corrections.f k t167 a1).bind fun t170 => (if t170 = t166 then ((laws_toNoteS.f k l0).bind fun t171 => ((laws_eqNoteS.f k t167 t171).bind fun t174 => (if t174 = true then (some true) else (some false)))) else (some false))))))) = some r := H
  have A3 := Aside0.mk A30
  clear A30
  by_cases c4 : t162 < 0
  · rw [if_pos c4] at H
    have c4b0 : decide (t162 < 0) = true := decide_eq_true c4
    clear c4
    obtain rfl := Option.some.inj H
    go_enter Try.func9, Try.ntmps9
    go_wp2_with (first | ((with_reducible refine gate_callee (f := 11) rfl ?_); refine goesL_ (some 11) rfl rfl Try.func11 (by kernel_rfl) rfl #[.slice A0 l0.length c0, .int .i64 1048576] rfl (by (try simp only [List.map_toArray, List.map_cons, List.map_nil]); first | done | rfl | (simp only [List.length_drop, List.length_take]; rfl)) ?_; (with_reducible refine (laws_szNoteS.calls _ _ l0 1048576 t162 _ ?side1 ?side2 A3.out).mono ?_); (case side1 => repeat (first | exact HR0.out | (with_reducible refine Kd.C_alloc ?_ _) | (with_reducible refine Kd.C_drewN ?_ _) | (with_reducible refine Kd.C_drew ?_))); (case side2 => exact HC0.out); rintro e w' ⟨rfl, ⟨nd, rfl⟩⟩; refine ⟨_, rfl, ?_⟩))
    go_ret
    exact ⟨by first | rfl | (simp [errW_none, errW_some] <;> rfl) | (simp [*, errW_none, errW_some] <;> rfl), by repeat (first | (with_reducible first | exact HB.out | apply below_alloc | apply pw_below_drewN | apply below_drew1) | exact HB.out)⟩
  · rw [if_neg c4] at H
    have c4b0 : decide (t162 < 0) = false := decide_eq_false c4
    clear c4
    replace H := Option.bind_eq_some_iff.mp H
    obtain ⟨t163, A50, H⟩ := H
    replace H : ((spec_Corrections.f k t163 a1).bind fun t166 => ((laws_toNoteS.f k l0).bind fun t167 => ((impl_Corrections.f k t167 a1).bind fun t170 => (if t170 = t166 then ((laws_toNoteS.f k l0).bind fun t171 => ((laws_eqNoteS.f k t167 t171).bind fun t174 => (if t174 = true then (some true) else (some false)))) else (some false))))) = some r := H
    have A5 := Aside0.mk A50
    clear A50
    replace H := Option.bind_eq_some_iff.mp H
    obtain ⟨t166, A60, H⟩ := H
    replace H : ((laws_toNoteS.f k l0).bind fun t167 => ((impl_Corrections.f k t167 a1).bind fun t170 => (if t170 = t166 then ((laws_toNoteS.f k l0).bind fun t171 => ((laws_eqNoteS.f k t167 t171).bind fun t174 => (if t174 = true then (some true) else (some false)))) else (some false)))) = some r := H
    have A6 := Aside0.mk A60
    clear A60
    replace H := Option.bind_eq_some_iff.mp H
    obtain ⟨t167, A70, H⟩ := H
    replace H : ((impl_Corrections.f k t167 a1).bind fun t170 => (if t170 = t166 then ((laws_toNoteS.f k l0).bind fun t171 => ((laws_eqNoteS.f k t167 t171).bind fun t174 => (if t174 = true then (some true) else (some false)))) else (some false))) = some r := H
    have A7 := Aside0.mk A70
    clear A70
    replace H := Option.bind_eq_some_iff.mp H
    obtain ⟨t170, A80, H⟩ := H
    replace H : (if t170 = t166 then ((laws_toNoteS.f k l0).bind fun t171 => ((laws_eqNoteS.f k t167 t171).bind fun t174 => (if t174 = true then (some true) else (some false)))) else (some false)) = some r := H
    have A8 := Aside0.mk A80
    clear A80
    by_cases c9 : t170 = t166
    · rw [if_pos c9] at H
      have c9b0 : (t170 == t166) = true := beq_iff_eq.mpr c9
      have c9b1 : (t170 != t166) = false := bne_eq_false_iff_eq.mpr c9
      clear c9
      replace H := Option.bind_eq_some_iff.mp H
      obtain ⟨t171, A100, H⟩ := H
      replace H : ((laws_eqNoteS.f k t167 t171).bind fun t174 => (if t174 = true then (some true) else (some false))) = some r := H
      have A10 := Aside0.mk A100
      clear A100
      replace H := Option.bind_eq_some_iff.mp H
      obtain ⟨t174, A110, H⟩ := H
      replace H : (if t174 = true then (some true) else (some false)) = some r := H
      have A11 := Aside0.mk A110
      clear A110
      by_cases c12 : t174 = true
      · subst c12
        have H1 : (some true) = some r := by rw [if_pos rfl] at H; exact H
        clear H
        have H := H1
        clear H1
        obtain rfl := Option.some.inj H
        go_enter Try.func9, Try.ntmps9
        go_wp2_with (first | ((with_reducible refine gate_callee (f := 11) rfl ?_); refine goesL_ (some 11) rfl rfl Try.func11 (by kernel_rfl) rfl #[.slice A0 l0.length c0, .int .i64 1048576] rfl (by (try simp only [List.map_toArray, List.map_cons, List.map_nil]); first | done | rfl | (simp only [List.length_drop, List.length_take]; rfl)) ?_; (with_reducible refine (laws_szNoteS.calls _ _ l0 1048576 t162 _ ?side1 ?side2 A3.out).mono ?_); (case side1 => repeat (first | exact HR0.out | (with_reducible refine Kd.C_alloc ?_ _) | (with_reducible refine Kd.C_drewN ?_ _) | (with_reducible refine Kd.C_drew ?_))); (case side2 => exact HC0.out); rintro e w' ⟨rfl, ⟨nd, rfl⟩⟩; refine ⟨_, rfl, ?_⟩) | ((with_reducible refine gate_callee (f := 13) rfl ?_); refine goesL_ (some 15) rfl rfl Try.func13 (by kernel_rfl) rfl #[.slice A0 l0.length c0] rfl (by (try simp only [List.map_toArray, List.map_cons, List.map_nil]); first | done | rfl | (simp only [List.length_drop, List.length_take]; rfl)) ?_; (with_reducible refine (laws_toNoteS.calls k _ _ l0 t163 _ ?side1 ?side2 A5.out).mono ?_); (case side1 => repeat (first | exact HR0.out | (with_reducible refine Kd.C_alloc ?_ _) | (with_reducible refine Kd.C_drewN ?_ _) | (with_reducible refine Kd.C_drew ?_))); (case side2 => exact HC0.out); rintro e w13 ⟨v164, rfl, ho0, hb⟩; refine ⟨_, rfl, ?_⟩; have n0_ := Aside0.mk (Kd.R_lower ho0 (below_size (by repeat (first | (with_reducible first | exact HB.out | apply below_alloc | apply pw_below_drewN | apply below_drew1) | exact HB.out)))); have n1_ := Aside0.mk (below_step (by repeat (first | (with_reducible first | exact HB.out | apply below_alloc | apply pw_below_drewN | apply below_drew1) | exact HB.out)) hb); clear HB; have HO165 := n0_; have HB := n1_; clear n0_ n1_; (try clear hb); (try clear hb2); (try clear hk); (try clear hi); (try clear ho0); obtain ⟨Ao14, co14, eo14⟩ := Kd.R_slice HO165.out; subst eo14) | ((with_reducible refine gate_callee (f := 43) rfl ?_); refine goesL_ (some 17) rfl rfl Try.func43 (by kernel_rfl) rfl #[.slice Ao14 t163.length co14, .int .i64 a1] rfl (by (try simp only [List.map_toArray, List.map_cons, List.map_nil]); first | done | rfl | (simp only [List.length_drop, List.length_take]; rfl)) ?_; (with_reducible refine (spec_Corrections.calls k _ _ t163 a1 t166 _ ?side1 ?side2 A6.out).mono ?_); (case side1 => repeat (first | exact (Kd.R_reads' HO165.out).2.2 | (with_reducible refine Kd.C_alloc ?_ _) | (with_reducible refine Kd.C_drewN ?_ _) | (with_reducible refine Kd.C_drew ?_))); (case side2 => exact (Kd.R_reads' HO165.out).2.1); rintro e w15 ⟨rfl, hb⟩; refine ⟨_, rfl, ?_⟩; have n0_ := Aside0.mk (Kd.R_below (by (with_reducible repeat (first | apply Kd.R_alloc | apply Kd.R_drewN | apply Kd.R_drew)); exact HO165.out) hb); have n1_ := Aside0.mk (below_step (by repeat (first | (with_reducible first | exact HB.out | apply below_alloc | apply pw_below_drewN | apply below_drew1) | exact HB.out)) hb); clear HO165; clear HB; have HO165 := n0_; have HB := n1_; clear n0_ n1_; (try clear hb); (try clear hb2); (try clear hk); (try clear hi)) | ((with_reducible refine gate_callee (f := 13) rfl ?_); refine goesL_ (some 19) rfl rfl Try.func13 (by kernel_rfl) rfl #[.slice A0 l0.length c0] rfl (by (try simp only [List.map_toArray, List.map_cons, List.map_nil]); first | done | rfl | (simp only [List.length_drop, List.length_take]; rfl)) ?_; (with_reducible refine (laws_toNoteS.calls k _ _ l0 t167 _ ?side1 ?side2 A7.out).mono ?_); (case side1 => repeat (first | exact (Kd.C_below HR0.out HB.out) | (with_reducible refine Kd.C_alloc ?_ _) | (with_reducible refine Kd.C_drewN ?_ _) | (with_reducible refine Kd.C_drew ?_))); (case side2 => exact HC0.out); rintro e w16 ⟨v168, rfl, ho0, hb⟩; refine ⟨_, rfl, ?_⟩; have n0_ := Aside0.mk (Kd.R_elder' (by (with_reducible repeat (first | apply Kd.R_alloc | apply Kd.R_drewN | apply Kd.R_drew)); exact HO165.out) (Kd.R_base ho0) hb); have n1_ := Aside0.mk (Kd.R_lower (Kd.R_new' ho0 (Kd.R_lt (by (with_reducible repeat (first | apply Kd.R_alloc | apply Kd.R_drewN | apply Kd.R_drew)); exact HO165.out))) (below_size (by repeat (first | (with_reducible first | exact HB.out | apply below_alloc | apply pw_below_drewN | apply below_drew1) | exact HB.out)))); have n2_ := Aside0.mk (below_step (by repeat (first | (with_reducible first | exact HB.out | apply below_alloc | apply pw_below_drewN | apply below_drew1) | exact HB.out)) hb); clear HO165; clear HB; have HO165 := n0_; have HO169 := n1_; have HB := n2_; clear n0_ n1_ n2_; (try clear hb); (try clear hb2); (try clear hk); (try clear hi); (try clear ho0); obtain ⟨Ao17, co17, eo17⟩ := Kd.R_slice HO169.out; subst eo17) | ((with_reducible refine gate_callee (f := 44) rfl ?_); refine goesL_ (some 22) rfl rfl Try.func44 (by kernel_rfl) rfl #[.slice Ao17 t167.length co17, .int .i64 a1] rfl (by (try simp only [List.map_toArray, List.map_cons, List.map_nil]); first | done | rfl | (simp only [List.length_drop, List.length_take]; rfl)) ?_; (with_reducible refine (impl_Corrections.calls k _ _ t167 a1 t170 _ ?side1 ?side2 A8.out).mono ?_); (case side1 => repeat (first | exact (Kd.R_reads' HO169.out).2.2 | (with_reducible refine Kd.C_alloc ?_ _) | (with_reducible refine Kd.C_drewN ?_ _) | (with_reducible refine Kd.C_drew ?_))); (case side2 => exact (Kd.R_reads' HO169.out).2.1); rintro e w18 ⟨rfl, hb⟩; refine ⟨_, rfl, ?_⟩; have n0_ := Aside0.mk (Kd.R_below (by (with_reducible repeat (first | apply Kd.R_alloc | apply Kd.R_drewN | apply Kd.R_drew)); exact HO165.out) hb); have n1_ := Aside0.mk (Kd.R_below (by (with_reducible repeat (first | apply Kd.R_alloc | apply Kd.R_drewN | apply Kd.R_drew)); exact HO169.out) hb); have n2_ := Aside0.mk (below_step (by repeat (first | (with_reducible first | exact HB.out | apply below_alloc | apply pw_below_drewN | apply below_drew1) | exact HB.out)) hb); clear HO165; clear HO169; clear HB; have HO165 := n0_; have HO169 := n1_; have HB := n2_; clear n0_ n1_ n2_; (try clear hb); (try clear hb2); (try clear hk); (try clear hi)) | ((with_reducible refine gate_callee (f := 13) rfl ?_); refine goesL_ (some 28) rfl rfl Try.func13 (by kernel_rfl) rfl #[.slice A0 l0.length c0] rfl (by (try simp only [List.map_toArray, List.map_cons, List.map_nil]); first | done | rfl | (simp only [List.length_drop, List.length_take]; rfl)) ?_; (with_reducible refine (laws_toNoteS.calls k _ _ l0 t171 _ ?side1 ?side2 A10.out).mono ?_); (case side1 => repeat (first | exact (Kd.C_below HR0.out HB.out) | (with_reducible refine Kd.C_alloc ?_ _) | (with_reducible refine Kd.C_drewN ?_ _) | (with_reducible refine Kd.C_drew ?_))); (case side2 => exact HC0.out); rintro e w19 ⟨v172, rfl, ho0, hb⟩; refine ⟨_, rfl, ?_⟩; have n0_ := Aside0.mk (Kd.R_elder' (by (with_reducible repeat (first | apply Kd.R_alloc | apply Kd.R_drewN | apply Kd.R_drew)); exact HO165.out) (Kd.R_base ho0) hb); have n1_ := Aside0.mk (Kd.R_elder' (by (with_reducible repeat (first | apply Kd.R_alloc | apply Kd.R_drewN | apply Kd.R_drew)); exact HO169.out) (Kd.R_base ho0) hb); have n2_ := Aside0.mk (Kd.R_lower (Kd.R_new' (Kd.R_new' ho0 (Kd.R_lt (by (with_reducible repeat (first | apply Kd.R_alloc | apply Kd.R_drewN | apply Kd.R_drew)); exact HO165.out))) (Kd.R_lt (by (with_reducible repeat (first | apply Kd.R_alloc | apply Kd.R_drewN | apply Kd.R_drew)); exact HO169.out))) (below_size (by repeat (first | (with_reducible first | exact HB.out | apply below_alloc | apply pw_below_drewN | apply below_drew1) | exact HB.out)))); have n3_ := Aside0.mk (below_step (by repeat (first | (with_reducible first | exact HB.out | apply below_alloc | apply pw_below_drewN | apply below_drew1) | exact HB.out)) hb); clear HO165; clear HO169; clear HB; have HO165 := n0_; have HO169 := n1_; have HO173 := n2_; have HB := n3_; clear n0_ n1_ n2_ n3_; (try clear hb); (try clear hb2); (try clear hk); (try clear hi); (try clear ho0); obtain ⟨Ao20, co20, eo20⟩ := Kd.R_slice HO173.out; subst eo20) | ((with_reducible refine gate_callee (f := 15) rfl ?_); refine goesL_ (some 29) rfl rfl Try.func15 (by kernel_rfl) rfl #[.slice Ao17 t167.length co17, .slice Ao20 t171.length co20] rfl (by (try simp only [List.map_toArray, List.map_cons, List.map_nil]); first | done | rfl | (simp only [List.length_drop, List.length_take]; rfl)) ?_; (with_reducible refine (laws_eqNoteS.calls k _ _ t167 _ _ t171 true _ rfl ?side1 ?side2 ?side3 ?side4 A11.out).mono ?_); (case side1 => repeat (first | exact (Kd.R_reads' HO169.out).2.2 | (with_reducible refine Kd.C_alloc ?_ _) | (with_reducible refine Kd.C_drewN ?_ _) | (with_reducible refine Kd.C_drew ?_))); (case side2 => exact (Kd.R_reads' HO169.out).2.1); (case side3 => repeat (first | exact (Kd.R_reads' HO173.out).2.2 | (with_reducible refine Kd.C_alloc ?_ _) | (with_reducible refine Kd.C_drewN ?_ _) | (with_reducible refine Kd.C_drew ?_))); (case side4 => exact (Kd.R_reads' HO173.out).2.1); rintro e w21 ⟨rfl, hb⟩; refine ⟨_, rfl, ?_⟩; have n0_ := Aside0.mk (Kd.R_below (by (with_reducible repeat (first | apply Kd.R_alloc | apply Kd.R_drewN | apply Kd.R_drew)); exact HO165.out) hb); have n1_ := Aside0.mk (Kd.R_below (by (with_reducible repeat (first | apply Kd.R_alloc | apply Kd.R_drewN | apply Kd.R_drew)); exact HO169.out) hb); have n2_ := Aside0.mk (Kd.R_below (by (with_reducible repeat (first | apply Kd.R_alloc | apply Kd.R_drewN | apply Kd.R_drew)); exact HO173.out) hb); have n3_ := Aside0.mk (below_step (by repeat (first | (with_reducible first | exact HB.out | apply below_alloc | apply pw_below_drewN | apply below_drew1) | exact HB.out)) hb); clear HO165; clear HO169; clear HO173; clear HB; have HO165 := n0_; have HO169 := n1_; have HO173 := n2_; have HB := n3_; clear n0_ n1_ n2_ n3_; (try clear hb); (try clear hb2); (try clear hk); (try clear hi)))
        go_ret
        exact ⟨by first | rfl | (simp [errW_none, errW_some] <;> rfl) | (simp [*, errW_none, errW_some] <;> rfl), by repeat (first | (with_reducible first | exact HB.out | apply below_alloc | apply pw_below_drewN | apply below_drew1) | exact HB.out)⟩
      · replace c12 := Bool.eq_false_iff.mpr c12
        subst c12
        have H1 : (some false) = some r := by rw [if_neg (show ¬ (false = true) by decide)] at H; exact H
        clear H
        have H := H1
        clear H1
        exact absurd ((Option.some.inj H).trans HR_.out) (by decide)
    · rw [if_neg c9] at H
      have c9b0 : (t170 == t166) = false := beq_eq_false_iff_ne.mpr c9
      have c9b1 : (t170 != t166) = true := bne_iff_ne.mpr c9
      exact absurd ((Option.some.inj H).trans HR_.out) (by decide)

end Go.Proofs.Ytmifcjkbjjnelaa.MFnExactCorrections
