/- The functions that FnExactSeedOrder reaches, each with its contract: the print's form, by wip/tools/myprint.py; no condition of its own. -/
import Derived.Test.YtapmiocpkddbfaaMFnExactSeedOrderx0
import Derived.Test.YtapmiocpkddbfaaMFnExactSeedOrderx1
import Derived.Test.YtapmiocpkddbfaaMFnExactSeedOrderx2
import Derived.Test.YtapmiocpkddbfaaMFnExactSeedOrderx4
namespace Go.Proofs.Ytapmiocpkddbfaa.MFnExactSeedOrder
open Go.RowKit Go.Proofs.YtapmiocpkddbfaaW.PrintWords Go.Proofs.YtapmiocpkddbfaaW.PrintLast Go.Proofs.YtapmiocpkddbfaaW.PrintMore
attribute [local go_sem] max2_int min2_int max_two min_two max_three min_three max_four min_four   -- for this text's walks alone
set_option linter.unusedVariables false
set_option linter.unusedSimpArgs false

/-! ### impl_upTo: function 84 -/
def impl_upTo.l0 : Nat → List Int → Int → Int → Option (List Int)
  | 0, _, _, _ => none
  | k + 1, x3, x7, x8 => if x8 < x7 then (if x3.length < 17592186044416 then (impl_upTo.l0 k (x3 ++ [x8]) x7 (wrap64 (x8 + 1))) else (none)) else (some x3)
def impl_upTo.f (k : Nat) (a0 : Int) : Option (List Int) := impl_upTo.l0 k (([] : List Int)) (mx a0 0) 0
theorem impl_upTo.mono_l : ∀ k, (∀ y0 y1 y2, LeO (impl_upTo.l0 k y0 y1 y2) (impl_upTo.l0 (k + 1) y0 y1 y2))
  | 0 => fun _ _ _ r h => by simp [impl_upTo.l0] at h
  | k + 1 => by
    have ih0 := impl_upTo.mono_l k
    · intro y0 y1 y2
      unfold impl_upTo.l0
      repeat' first
      | (with_reducible exact ih0 _ _ _)
      | (with_reducible exact LeO.refl _)
      | (with_reducible exact LeO.none _)
      | (with_reducible refine LeO.ite ?_ ?_)
      | (with_reducible refine LeO.bind ?_ (fun _ => ?_))
      | exact ih0 _ _ _
      | exact LeO.none _
      | refine LeO.ite ?_ ?_
      | refine LeO.bind ?_ (fun _ => ?_)
theorem impl_upTo.mono : ∀ a0 k, LeO (impl_upTo.f k a0) (impl_upTo.f (k + 1) a0) := by
  intro a0 k
  have ih0 := impl_upTo.mono_l k
  unfold impl_upTo.f
  repeat' first
      | (with_reducible exact ih0 _ _ _)
      | (with_reducible exact LeO.refl _)
      | (with_reducible exact LeO.none _)
      | (with_reducible refine LeO.ite ?_ ?_)
      | (with_reducible refine LeO.bind ?_ (fun _ => ?_))
      | exact ih0 _ _ _
      | exact LeO.none _
      | refine LeO.ite ?_ ?_
      | refine LeO.bind ?_ (fun _ => ?_)
set_option maxHeartbeats 8000000 in
set_option maxRecDepth 100000 in
theorem impl_upTo.calls (k : Nat) (a0 : Int) (r : List Int) (w : World) (h : impl_upTo.f k a0 = some r) :
    Calls Try.prog 84 #[.int .i64 a0] w fun e w' => ∃ v0_ : Value, e = .returned (v0_) ∧ Kd.R (Kd.int .i64) 3 w' w.heap.size (fun _ => True) v0_ r ∧ Below w.heap.size w w' := by
  have HB := Aside0.mk (Below.refl w.heap.size w)
  have H : (impl_upTo.l0 k (([] : List Int)) (mx a0 0) 0) = some r := h
  clear h
  obtain ⟨y160, hy160⟩ : ∃ y_ : List Int, y_ = (([] : List Int)) := ⟨_, rfl⟩
  replace H : (impl_upTo.l0 k y160 (mx a0 0) 0) = some r := by first | (rw [hy160]; with_reducible exact H) | (have H2_ := (Option.bind_some _ _).symm.trans H; rw [hy160]; with_reducible exact H2_) | (have H2_ := (Option.bind_some _ _).symm.trans H; with_reducible exact H2_) | with_reducible exact H | (rw [hy160]; exact H) | exact H
  have Ny160 := Aside0.mk hy160
  clear hy160
  obtain ⟨ji2, hji2⟩ : ∃ j_ : Int, (mx a0 0) = j_ := ⟨_, rfl⟩
  replace H : (impl_upTo.l0 k y160 ji2 0) = some r := by first | (rw [hji2] at H; exact H) | (simp only [hji2] at H ⊢; exact H)
  (try (have hji2l : 0 ≤ ji2 := by (rw [← hji2]; unfold mx; (repeat' split) <;> omega)))
  (try (have hji2m : 0 ≤ ji2 := by omega))
  have hji2_ : (if a0 < 0 then 0 else a0) = ji2 := hji2
  have H' := Aside0.mk H
  clear H
  go_enter Try.func84, Try.ntmps84
  go_wp2_with (first | ((with_reducible refine gate_dst (N := 5) rfl ?_); refine Kd.R_lit (Kd.int .i64) _ 3 ?hg (N := 5) ?hd (xs := ([] : List Int)) (inner := []) (ok := fun _ => True) (okp := fun _ => True) ?hr ?hp (fun _ hk => hk) trivial (Below.refl _ _) (Nat.le_refl _) (by simp) ?_; (case hd => rfl); (case hg => rfl); (case hr => first | (go_simp; done) | (go_simp; rfl)); (case hp => exact (Reps.none _ _)); intro v161 w3 ho4 hb hg_ hnew_; clear hg_ hnew_; (first | rw [← Ny160.out] at ho4 | (simp only [Int.reduceToNat] at ho4; rw [← Ny160.out] at ho4)); have n0_ := Aside0.mk (Kd.R_lower ho4 (below_size (by repeat (first | (with_reducible first | exact HB.out | apply below_alloc | apply pw_below_drewN | apply below_drew1) | exact HB.out)))); have n1_ := Aside0.mk (below_step (by repeat (first | (with_reducible first | exact HB.out | apply below_alloc | apply pw_below_drewN | apply below_drew1) | exact HB.out)) hb); clear HB; have HO162 := n0_; have HB := n1_; clear n0_ n1_; clear hb ho4))
  go_loopg [3, 8] k (fun kq v3 v8 w' => ∃ (x3_1 : List Int) (x8_1 : Int), v8 = .int .i64 x8_1 ∧ Aside0 (impl_upTo.l0 kq x3_1 ji2 x8_1 = some r) ∧ Aside0 (kq ≤ k) ∧ Aside0 (Kd.R (Kd.int .i64) 3 w' w.heap.size (fun _ => True) v3 x3_1) ∧ Aside0 (Below w.heap.size w w'))
  case atStart => exact ⟨(y160), (0), (by first | rfl | (simp; done) | (simp [*]; done)), H', ⟨Nat.le_refl _⟩, ⟨by (with_reducible repeat (first | apply Kd.R_alloc | apply Kd.R_drewN | apply Kd.R_drew)); exact HO162.out⟩, ⟨by repeat (first | (with_reducible first | exact HB.out | apply below_alloc | apply pw_below_drewN | apply below_drew1) | exact HB.out)⟩⟩
  case round =>
    clear H'
    try clear p2
    obtain ⟨x3_1, x8_1, rfl, HA, HK1, HO_3, HB⟩ := hrel
    cases gk with
    | zero => exact absurd HA.out (by simp [impl_upTo.l0])
    | succ k1 =>
      have H := HA.out
      clear HA
      simp only [impl_upTo.l0] at H
      by_cases c5 : x8_1 < ji2
      · rw [if_pos c5] at H
        have c5b0 : decide (x8_1 < ji2) = true := decide_eq_true c5
        clear c5
        by_cases c6 : x3_1.length < 17592186044416
        · rw [if_pos c6] at H
          have LMc6 := Aside0.mk c6
          clear c6
          obtain ⟨y163, hy163⟩ : ∃ y_ : List Int, y_ = (x3_1 ++ [x8_1]) := ⟨_, rfl⟩
          replace H : (impl_upTo.l0 k1 y163 ji2 (wrap64 (x8_1 + 1))) = some r := by first | (rw [hy163]; with_reducible exact H) | (have H2_ := (Option.bind_some _ _).symm.trans H; rw [hy163]; with_reducible exact H2_) | (have H2_ := (Option.bind_some _ _).symm.trans H; with_reducible exact H2_) | with_reducible exact H | (rw [hy163]; exact H) | exact H
          have Ny163 := Aside0.mk hy163
          clear hy163
          have H' := Aside0.mk H
          clear H
          go_wp2_with (first | ((with_reducible refine gate_builtin (b := .append) (xs := #[.tmp 11, .tmp 13]) rfl ?_); at_builtin; refine Kd.R_append (Kd.int .i64) (w0 := w) w.heap.size rfl (.tmp 11) (.tmp 13) 30 3 (.int .i64 0) 8 rfl Try.underlying30 info3 rfl (by decide) (by omega) u3 x3_1 x8_1 [.int .i64 x8_1] (fun _ => True) (fun _ => False) rfl rfl ?aP (fun _ hk => hk.elim) ?aF ?aO ?aB ?aS ?aL ?_; (case aP => exact rfl); (case aB => exact (by repeat (first | (with_reducible first | exact HB.out | apply below_alloc | apply pw_below_drewN | apply below_drew1) | exact HB.out))); (case aF => exact (fun _ _ => trivial)); (case aO => exact (by (with_reducible repeat (first | apply Kd.R_alloc | apply Kd.R_drewN | apply Kd.R_drew)); exact HO_3.out)); (case aS => exact (below_size (by repeat (first | (with_reducible first | exact HB.out | apply below_alloc | apply pw_below_drewN | apply below_drew1) | exact HB.out)))); (case aL => have := LMc6.out; omega); intro v164 w7 ho hb hg hat; rw [← Ny163.out] at ho; have n0_ := Aside0.mk (hb); have n1_ := Aside0.mk (ho); clear HB; clear HO_3; have HB := n0_; have HO165 := n1_; clear n0_ n1_; clear ho hb hg hat))
          go_roundg k1
          case measure => have := HK1.out; omega
          case rel => exact ⟨(y163), (wrap64 (x8_1 + 1)), (by first | rfl | (simp; done) | (simp [*]; done)), H', ⟨by have := HK1.out; omega⟩, ⟨by (with_reducible repeat (first | apply Kd.R_alloc | apply Kd.R_drewN | apply Kd.R_drew)); exact HO165.out⟩, ⟨by repeat (first | (with_reducible first | exact HB.out | apply below_alloc | apply pw_below_drewN | apply below_drew1) | exact HB.out)⟩⟩
        · rw [if_neg c6] at H
          exact absurd H (by simp)
      · rw [if_neg c5] at H
        have c5b0 : decide (x8_1 < ji2) = false := decide_eq_false c5
        clear c5
        obtain rfl := Option.some.inj H
        go_wp2
        go_ret
        exact ⟨_, by first | rfl | (simp [errW_none, errW_some] <;> rfl) | (simp only [← hji2]; first | rfl | (simp [errW_none, errW_some] <;> rfl)) | (simp [*, errW_none, errW_some] <;> rfl), by (with_reducible repeat (first | apply Kd.R_alloc | apply Kd.R_drewN | apply Kd.R_drew)); exact HO_3.out, by repeat (first | (with_reducible first | exact HB.out | apply below_alloc | apply pw_below_drewN | apply below_drew1) | exact HB.out)⟩

-- NOT PRINTED: function 146 (slices_insertionSortCmpFunc_int)

-- NOT PRINTED: function 162 (slices_siftDownCmpFunc_int)

-- NOT PRINTED: function 147 (slices_heapSortCmpFunc_int)

-- NOT PRINTED: function 154 (bits_Len32)

-- NOT PRINTED: function 155 (bits_Len64)

-- NOT PRINTED: function 126 (bits_Len)

-- NOT PRINTED: function 163 (slices_nextPowerOfTwo)

-- NOT PRINTED: function 164 (slices_xorshift_Next)

-- NOT PRINTED: function 148 (slices_breakPatternsCmpFunc_int)

-- NOT PRINTED: function 169 (slices_order2CmpFunc_int)

-- NOT PRINTED: function 166 (slices_medianCmpFunc_int)

-- NOT PRINTED: function 165 (slices_medianAdjacentCmpFunc_int)

-- NOT PRINTED: function 149 (slices_choosePivotCmpFunc_int)

-- NOT PRINTED: function 150 (slices_reverseRangeCmpFunc_int)

-- NOT PRINTED: function 151 (slices_partialInsertionSortCmpFunc_int)

-- NOT PRINTED: function 152 (slices_partitionEqualCmpFunc_int)

-- NOT PRINTED: function 153 (slices_partitionCmpFunc_int)

-- NOT PRINTED: function 125 (slices_pdqsortCmpFunc_int)

-- NOT PRINTED: function 87 (slices_SortFunc_int_int)

/-! ### impl_SeedOrder: function 29 -/
section
open Go.Sort
variable {α : Type} [Inhabited α] {enc : α → Value}
theorem so_holds {w : World} {g : Nat} {cur : Array Value} {e : TypeId} {xs : List α} (hb : w.heap[g]? = some (.cells cur e (0, 0))) (ht : cur.toList.take xs.length = xs.map enc) : Holds enc w g 0 xs.toArray := by
  intro j hj
  have hj' : j < xs.length := by simpa using hj
  refine ⟨?_, by simp [World.frozen?, hb]⟩
  have h1 : (cur.toList.take xs.length)[j]? = (xs.map enc)[j]? := by rw [ht]
  rw [List.getElem?_take_of_lt hj'] at h1
  simp only [World.cell?, hb, Nat.zero_add]
  simp only [Option.isSome_none, Bool.false_eq_true, if_false]
  rw [← Array.getElem?_toList, h1]
  simp [hj']
theorem so_other {w : World} {g n : Nat} {os : Array Obj} (d : Array α) (k : Nat) (hk : k < w.heap.size) (hne : k ≠ g) : (grow (putRow enc (Sort.ahead w n) g 0 d) os).heap[k]? = w.heap[k]? := by
  rw [heap_grow_old _ _ (by simpa using hk)]
  simp [putRow, mapBlock, Sort.ahead, Array.getElem?_modify, Ne.symm hne]
theorem so_heap {w : World} {g n : Nat} {os : Array Obj} {cur : Array Value} {e : TypeId} {fr : Nat × Nat} (d : Array α) (hb : w.heap[g]? = some (.cells cur e fr)) :
    (grow (putRow enc (Sort.ahead w n) g 0 d) os).heap[g]? = some (.cells (putCells enc 0 d cur) e fr) := by
  have hg : g < w.heap.size := (Array.getElem?_eq_some_iff.1 hb).1
  rw [heap_grow_old _ _ (by simpa using hg)]
  simp [putRow, mapBlock, Sort.ahead, Array.getElem?_modify, hb, onCells]
theorem so_take (cur : Array Value) (ts : List α) (h : ts.length ≤ cur.size) : (putCells enc 0 ts.toArray cur).toList.take ts.length = ts.map enc := by
  apply List.ext_getElem?
  intro j
  by_cases hj : j < ts.length
  · rw [List.getElem?_take_of_lt hj, Array.getElem?_toList]
    simp [putCells, hj, show j < cur.size by omega]
  · rw [List.getElem?_take_eq_none (by omega), List.getElem?_eq_none (by simp; omega)]
theorem so_grownBy {w : World} {g n : Nat} {os : Array Obj} (d : Array α) : w.grownBy (grow (putRow enc (Sort.ahead w n) g 0 d) os) (some g) := by
  refine ⟨rfl, rfl, rfl, by simp, fun k hk hne => so_other d k hk (fun e => hne (by rw [e]))⟩
/-- Behind the sort the same slice owns the sorted list. -/
theorem so_own {w : World} {base g cap n m : Nat} {e : TypeId} {os : Array Obj} {cur : Array Value} {ts : List α} (hl : ts.length = m) (hbase : base ≤ g) (hb : w.heap[g]? = some (.cells cur e (0, 0)))
    (h1 : m ≤ cap) (h2 : cap ≤ maxLen) (h3 : cur.size = cap * 1) :
    (grow (putRow enc (Sort.ahead w n) g 0 ts.toArray) os).ownsRow base e 1 (.slice (some ⟨g, 0, none⟩) m cap) m (ts.map enc) := by
  subst hl
  exact ⟨by simp, .inr ⟨g, cap, _, rfl, hbase, so_heap _ hb, h1, h2, by simp [putCells, h3], by rw [Nat.mul_one]; exact so_take cur ts (by omega)⟩⟩
end
def impl_SeedOrder.sd (l0 : List (S102)) (i : Int) : Int := (rd_T102 l0 i).f2
/-- What the sort asks: members within the list; seeds small, and no two alike. -/
def impl_SeedOrder.ok (l0 : List (S102)) (u : List Int) : Bool := (u.all fun x => decide (0 ≤ x) && decide (x < (l0.length : Int))) && ((l0.all fun t => decide (0 ≤ t.f2) && decide (t.f2 ≤ 1000)) && (decide (l0.map fun t => t.f2).Nodup && decide (0 < u.length ∧ u.length < 4611686018427387904)))
def impl_SeedOrder.g (l0 : List (S102)) (u : List Int) : Option (List Int) := if impl_SeedOrder.ok l0 u = true then some (u.mergeSort fun i j => decide (impl_SeedOrder.sd l0 i ≤ impl_SeedOrder.sd l0 j)) else none
def impl_SeedOrder.f (k : Nat) (l0 : List (S102)) : Option (List Int) := (impl_FieldOk.f k l0).bind fun b => if b = true then (impl_upTo.f k (l0.length : Int)).bind fun u => impl_SeedOrder.g l0 u else some []
theorem impl_SeedOrder.mono : ∀ a0 k, LeO (impl_SeedOrder.f k a0) (impl_SeedOrder.f (k + 1) a0) := fun a0 k =>
  LeO.bind (impl_FieldOk.mono a0 k) (fun b => LeO.ite (LeO.bind (impl_upTo.mono _ k) (fun _ => LeO.refl _)) (LeO.refl _))
abbrev impl_SeedOrder.Ix (l0 : List (S102)) : Type := {i : Int // 0 ≤ i ∧ i < (l0.length : Int)}
def impl_SeedOrder.enc (l0 : List (S102)) (x : impl_SeedOrder.Ix l0) : Value := .int .i64 x.1
def impl_SeedOrder.cf (l0 : List (S102)) (x y : impl_SeedOrder.Ix l0) : Int := wrap64 (impl_SeedOrder.sd l0 x.1 - impl_SeedOrder.sd l0 y.1)
theorem impl_SeedOrder.lt {l0 : List (S102)} (h : (l0.all fun t => decide (0 ≤ t.f2) && decide (t.f2 ≤ 1000)) = true) (x y : impl_SeedOrder.Ix l0) : Go.Proofs.ltOf (impl_SeedOrder.cf l0) x y = decide (impl_SeedOrder.sd l0 x.1 < impl_SeedOrder.sd l0 y.1) := by
  have hb : ∀ x : impl_SeedOrder.Ix l0, 0 ≤ impl_SeedOrder.sd l0 x.1 ∧ impl_SeedOrder.sd l0 x.1 ≤ 1000 := by
    intro x
    obtain ⟨i, h0, h1⟩ := x
    have hm : rd_T102 l0 i ∈ l0 := by
      have hi : i.toNat < l0.length := by omega
      have e : rd_T102 l0 i = l0[i.toNat] := by simp [rd_T102, List.getD_eq_getElem?_getD, hi]
      rw [e]; exact List.getElem_mem hi
    have := List.all_eq_true.1 h _ hm
    simpa [impl_SeedOrder.sd] using this
  unfold Go.Proofs.ltOf impl_SeedOrder.cf
  have hx := hb x
  have hy := hb y
  have e : wrap64 (impl_SeedOrder.sd l0 x.1 - impl_SeedOrder.sd l0 y.1) = impl_SeedOrder.sd l0 x.1 - impl_SeedOrder.sd l0 y.1 := by unfold wrap64; omega
  rw [e, decide_eq_decide]
  omega
theorem impl_SeedOrder.swo {l0 : List (S102)} (h : (l0.all fun t => decide (0 ≤ t.f2) && decide (t.f2 ≤ 1000)) = true) : Go.Sort.SWO (Go.Proofs.ltOf (impl_SeedOrder.cf l0)) where
  irrefl := fun x => by rw [impl_SeedOrder.lt h]; exact decide_eq_false (by omega)
  trans := fun x y z a b => by
    rw [impl_SeedOrder.lt h] at a b ⊢
    have a := of_decide_eq_true a
    have b := of_decide_eq_true b
    exact decide_eq_true (by omega)
  ntrans := fun x y z a b => by
    rw [impl_SeedOrder.lt h] at a b ⊢
    have a := of_decide_eq_false a
    have b := of_decide_eq_false b
    exact decide_eq_false (by omega)
theorem impl_SeedOrder.inj {l0 : List (S102)} (h : (l0.map fun t => t.f2).Nodup) (x y : impl_SeedOrder.Ix l0) (e : impl_SeedOrder.sd l0 x.1 = impl_SeedOrder.sd l0 y.1) : x = y := by
  obtain ⟨i, i0, i1⟩ := x
  obtain ⟨j, j0, j1⟩ := y
  apply Subtype.ext
  show i = j
  have hi : i.toNat < l0.length := by omega
  have hj : j.toNat < l0.length := by omega
  have ei : impl_SeedOrder.sd l0 i = (l0.map fun t => t.f2)[i.toNat]'(by simpa using hi) := by simp [impl_SeedOrder.sd, rd_T102, List.getD_eq_getElem?_getD, hi]
  have ej : impl_SeedOrder.sd l0 j = (l0.map fun t => t.f2)[j.toNat]'(by simpa using hj) := by simp [impl_SeedOrder.sd, rd_T102, List.getD_eq_getElem?_getD, hj]
  have e' : impl_SeedOrder.sd l0 i = impl_SeedOrder.sd l0 j := e
  rw [ei, ej] at e'
  have hp := List.pairwise_iff_getElem.1 h
  rcases Nat.lt_trichotomy i.toNat j.toNat with c | c | c
  · exact absurd e' (hp _ _ (by simpa using hi) (by simpa using hj) c)
  · omega
  · exact absurd e'.symm (hp _ _ (by simpa using hj) (by simpa using hi) c)
set_option maxHeartbeats 800000 in
theorem impl_SeedOrder.lit (A0 : Option Addr) (c0 : Nat) (l0 : List (S102)) (i j : Int) (b1 : Nat) (w : World) (hr0 : Kd.C k102 w A0 l0.length l0) (h0 : 0 ≤ i) (h1 : i < (l0.length : Int)) (h2 : 0 ≤ j) (h3 : j < (l0.length : Int)) (hc1 : w.cell? ⟨b1, 0, none⟩ = some (.slice A0 l0.length c0)) :
    Calls Try.prog 88 #[.int .i64 i, .int .i64 j, .pointer (some ⟨b1, 0, none⟩)] w fun e w' => e = .returned (.int .i64 (wrap64 (impl_SeedOrder.sd l0 i - impl_SeedOrder.sd l0 j))) ∧ ∃ q, w' = w.drewN q := by
  have hu90 := Try.underlying102
  obtain ⟨ad, ea, hx0, hx1, hx2⟩ := at_T102 hr0 i h0 h1
  cases ea
  have h0z : decide (0 ≤ i) = true := decide_eq_true h0
  have h1z : decide (i < (l0.length : Int)) = true := decide_eq_true h1
  unfold impl_SeedOrder.sd
  generalize hy : rd_T102 l0 i = y at hx0 hx1 hx2 ⊢
  have gx2 := hx2
  clear hx0 hx1 hx2
  obtain ⟨ad', ea', hx0, hx1, hx2⟩ := at_T102 hr0 j h2 h3
  cases ea'
  have h2z : decide (0 ≤ j) = true := decide_eq_true h2
  have h3z : decide (j < (l0.length : Int)) = true := decide_eq_true h3
  generalize hy' : rd_T102 l0 j = y' at hx0 hx1 hx2 ⊢
  clear hr0 hy hy'
  go_enter Try.func88, Try.ntmps88
  go_wp2
  go_quiet (fail)
  go_wp2
  go_ret
  exact ⟨rfl, _, rfl⟩
set_option maxHeartbeats 2000000 in
theorem impl_SeedOrder.calls (k : Nat) (A0 : Option Addr) (c0 : Nat) (l0 : List (S102)) (r : List Int) (w : World) (hr0 : Kd.C k102 w A0 l0.length l0) (hc0 : l0.length ≤ c0) (h : impl_SeedOrder.f k l0 = some r) :
    Calls Try.prog 29 #[.slice A0 l0.length c0] w fun e w' => ∃ v0_ : Value, e = .returned (v0_) ∧ Kd.R (Kd.int .i64) 3 w' w.heap.size (fun _ => True) v0_ r ∧ Below w.heap.size w w' := by
  obtain ⟨b, hA, h⟩ := Option.bind_eq_some_iff.mp h
  have HR := Aside0.mk hr0
  have HC := Aside0.mk hc0
  have HA := Aside0.mk hA
  have H := Aside0.mk h
  have hmax : l0.length ≤ 9223372036854775807 := hr0.2.1
  clear hr0 hc0 hA h
  have HB0 := Aside0.mk ((Below.refl w.heap.size w).alloc (Nat.le_refl _) (.cells #[.slice A0 l0.length c0] 25 (0, 0)))
  cases b with
  | false =>
    have hr := H.out
    rw [if_neg (by simp)] at hr
    obtain rfl := Option.some.inj hr
    clear hr H
    go_enter Try.func29, Try.ntmps29
    go_wp2_with fail
    refine (impl_FieldOk.calls k A0 c0 l0 false _ (Kd.C_below HR.out HB0.out) HC.out HA.out).mono ?_
    rintro e w2 ⟨rfl, hb⟩
    have HB := Aside0.mk (HB0.out.trans (hb.mono (by simp)))
    clear hb HB0
    go_wp2
    go_ret
    exact ⟨_, rfl, Kd.R_nil _ _ _ _ _, HB.out⟩
  | true =>
    have hr := H.out
    rw [if_pos rfl] at hr
    obtain ⟨u, hU, hr⟩ := Option.bind_eq_some_iff.mp hr
    unfold impl_SeedOrder.g at hr
    by_cases hall : impl_SeedOrder.ok l0 u = true
    · rw [if_pos hall] at hr
      obtain rfl := Option.some.inj hr
      clear hr H
      have HU := Aside0.mk hU
      have HALL := Aside0.mk hall
      clear hU hall
      go_enter Try.func29, Try.ntmps29
      go_wp2_with fail
      refine (impl_FieldOk.calls k A0 c0 l0 true _ (Kd.C_below HR.out HB0.out) HC.out HA.out).mono ?_
      rintro e w2 ⟨rfl, hb⟩
      have HB := Aside0.mk (HB0.out.trans (hb.mono (by simp)))
      have hcl : w2.cell? ⟨w.heap.size, 0, none⟩ = some (.slice A0 l0.length c0) := by rw [hb.cell (by simp)]; simp
      have hsz : w.heap.size < w2.heap.size := by have := hb.size; simp at this; omega
      have HSZ := Aside0.mk hsz
      clear hb HB0 hsz
      go_wp2_with fail
      refine (impl_upTo.calls k (l0.length : Int) u _ HU.out).mono ?_
      rintro e w3 ⟨v0, rfl, ho, hb⟩
      have HO := Aside0.mk (Kd.R_lower (base' := w.heap.size) ho (below_size HB.out))
      have HNE : Aside0 (∀ b, b < w2.heap.size → ¬ v0.ownBlock = some b) := ⟨fun b hb' he => by have := Kd.R_base ho _ he; omega⟩
      have HCL := Aside0.mk (show w3.cell? ⟨w.heap.size, 0, none⟩ = some (.slice A0 l0.length c0) from pw_cell_below hb hcl)
      have n1_ := Aside0.mk (HB.out.trans (hb.mono (below_size HB.out)))
      clear ho hb hcl HB
      have HB := n1_
      clear n1_
      go_wp2_with fail
      have hok := HALL.out
      unfold impl_SeedOrder.ok at hok
      simp only [Bool.and_eq_true, decide_eq_true_eq] at hok
      obtain ⟨ok1, ok2, ok3, ok4, ok5⟩ := hok
      have OK1 := Aside0.mk ok1
      have OK2 := Aside0.mk ok2
      have OK3 := Aside0.mk ok3
      clear ok1 ok2 ok3 HALL
      have hown := Kd.own_of_R HO.out
      rcases hown.2 with ⟨_, h0⟩ | ⟨g, cap, cur, rfl, hbase, hbk, q1, q2, q3, q4⟩
      · exact absurd h0 (by omega)
      · have hg2 : w2.heap.size ≤ g := by
          rcases Nat.lt_or_ge g w2.heap.size with c | c
          · exact absurd rfl (HNE.out g c)
          · exact c
        have hlt := (Array.getElem?_eq_some_iff.1 hbk).1
        have hmem : ∀ x ∈ u, 0 ≤ x ∧ x < (l0.length : Int) := by
          intro x hx
          have := List.all_eq_true.1 OK1.out x hx
          simpa using this
        have hpos : 0 ≤ (0 : Int) ∧ (0 : Int) < (l0.length : Int) := by
          cases u with
          | nil => simp at ok4
          | cons x u => have := hmem x (List.mem_cons_self); omega
        have hUV : u = (u.attach.map fun x => (⟨x.1, hmem x.1 x.2⟩ : impl_SeedOrder.Ix l0)).map Subtype.val := by
          rw [List.map_map]
          exact (List.attach_map_subtype_val u).symm
        generalize hV : (u.attach.map fun x => (⟨x.1, hmem x.1 x.2⟩ : impl_SeedOrder.Ix l0)) = V at hUV
        have hVl : V.length = u.length := by rw [hUV]; simp
        haveI : Inhabited (impl_SeedOrder.Ix l0) := ⟨⟨0, hpos⟩⟩
        have henc : V.map (impl_SeedOrder.enc l0) = encs (Value.int .i64) u := by
          rw [hUV]; unfold encs; rw [List.map_map]; rfl
        have hH : Go.Sort.Holds (impl_SeedOrder.enc l0) w3 g 0 V.toArray := so_holds hbk (by rw [henc, hVl]; rw [Nat.mul_one] at q4; exact q4)
        have hms : (V.mergeSort fun x y => !(Go.Proofs.ltOf (impl_SeedOrder.cf l0)) y x).map Subtype.val = u.mergeSort fun i j => decide (impl_SeedOrder.sd l0 i ≤ impl_SeedOrder.sd l0 j) := by
          rw [hUV]
          apply List.map_mergeSort
          intro a _ b _
          rw [impl_SeedOrder.lt OK2.out, ← decide_not, decide_eq_decide]
          omega
        have cS := Try.slices_SortFunc_total (impl_SeedOrder.enc l0) (fun _ => rfl) (impl_SeedOrder.cf l0) (impl_SeedOrder.swo OK2.out) 88 #[.pointer (some ⟨w.heap.size, 0, none⟩)] g 0 cap V.toArray w3 (by intro args w; exact enters_of Try.func88 (by kernel_rfl) rfl args w) (by
          apply CmpReads.lays
          intro m os dk hs x y
          refine impl_SeedOrder.lit A0 c0 l0 x.1 y.1 _ _ ?_ x.2.1 x.2.2 y.2.1 y.2.2 ?_
          · exact Kd.Heap.C (by unfold k102; exact Kd.heap_iso _ (Kd.heap_pair Kd.heap_string (Kd.heap_pair (Kd.heap_int _) (Kd.heap_int _)))) (fun b hb => (so_other dk b (by have := HB.out.size; omega) (by have := HSZ.out; omega)).trans (HB.out.block b hb)) HR.out
          · have e := so_other (os := os) (n := m) (enc := impl_SeedOrder.enc l0) dk w.heap.size (w := w3) (g := g) (by have := HSZ.out; omega) (by have := HSZ.out; omega)
            have hc := HCL.out
            unfold World.cell? at hc ⊢
            unfold sortWorld
            rw [e]; exact hc) hH hlt (by simp [hVl]; omega) (fun x y a b => by
          rw [impl_SeedOrder.lt OK2.out] at a b
          have a := of_decide_eq_false a
          have b := of_decide_eq_false b
          exact impl_SeedOrder.inj OK3.out x y (by omega))
        rw [show V.toArray.size = u.length by simp [hVl]] at cS
        refine cS.mono ?_
        rintro e w4 ⟨rfl, n, os, rfl⟩
        have hl : (V.mergeSort fun x y => !(Go.Proofs.ltOf (impl_SeedOrder.cf l0)) y x).length = u.length := by simp [hVl]
        have ho2 := so_own (enc := impl_SeedOrder.enc l0) (n := n) (os := os) hl hbase hbk q1 q2 q3
        rw [show (V.mergeSort fun x y => !(Go.Proofs.ltOf (impl_SeedOrder.cf l0)) y x).map (impl_SeedOrder.enc l0) = encs (Value.int .i64) (u.mergeSort fun i j => decide (impl_SeedOrder.sd l0 i ≤ impl_SeedOrder.sd l0 j)) from by rw [← hms]; unfold encs; rw [List.map_map]; rfl] at ho2
        have HO2 : Aside0 (Kd.R (Kd.int .i64) 3 (sortWorld (impl_SeedOrder.enc l0) w3 g 0 n (V.mergeSort fun x y => !(Go.Proofs.ltOf (impl_SeedOrder.cf l0)) y x).toArray os) w.heap.size (fun _ => True) (.slice (some ⟨g, 0, none⟩) u.length cap) (u.mergeSort fun i j => decide (impl_SeedOrder.sd l0 i ≤ impl_SeedOrder.sd l0 j))) := ⟨Kd.R_of_own (by rw [List.length_mergeSort]; exact ho2) (fun _ _ => trivial)⟩
        have HB2 : Aside0 (Below w.heap.size w (sortWorld (impl_SeedOrder.enc l0) w3 g 0 n (V.mergeSort fun x y => !(Go.Proofs.ltOf (impl_SeedOrder.cf l0)) y x).toArray os)) := ⟨HB.out.grown (so_grownBy _) (by have := HB.out.size; omega) (by intro k hk; simp at hk; omega)⟩
        clear ho2 hl cS hms hH
        generalize sortWorld (impl_SeedOrder.enc l0) w3 g 0 n (V.mergeSort fun x y => !(Go.Proofs.ltOf (impl_SeedOrder.cf l0)) y x).toArray os = w4 at HO2 HB2 ⊢
        clear hV henc hUV hVl hmem hpos hown
        go_wp2
        go_ret
        exact ⟨_, rfl, HO2.out, HB2.out⟩
    · rw [if_neg hall] at hr; cases hr

/-! ### laws_FnExactSeedOrder: function 6 -/
def laws_FnExactSeedOrder.j0 : Nat → List (S100) → List Int → List Int → Bool → Option (Bool)
  | 0, _, _, _, _ => none
  | k + 1, x0, x4, x6, x42 => if x42 = true then (some false) else ((laws_markIntS.f k x6 1).bind fun bt187 => ((laws_heldIntS.f k bt187.2 1).bind fun t189 => (if t189 < 0 then (some false) else (if t189 = bt187.1 then ((laws_toTeamS.f k x0).bind fun t190 => ((impl_SeedOrder.f k t190).bind fun t193 => ((laws_eqIntS.f k t193 x4).bind fun t196 => (if t196 = true then ((laws_heldIntS.f k bt187.2 1).bind fun t197 => (if t197 < 0 then (some false) else (if t197 = bt187.1 then (some true) else (some false)))) else (some false))))) else (some false)))))
def laws_FnExactSeedOrder.f (k : Nat) (l0 : List (S100)) : Option (Bool) := (laws_szTeamS.f k l0 1048576).bind fun t166 => (if t166 < 0 then (some true) else ((laws_toTeamS.f k l0).bind fun t167 => ((spec_SeedOrder.f k t167).bind fun t170 => ((laws_toTeamS.f k l0).bind fun t173 => ((impl_SeedOrder.f k t173).bind fun t176 => ((laws_eqIntS.f k t176 t170).bind fun t179 => (if t179 = true then ((laws_toTeamS.f k l0).bind fun t180 => ((laws_eqTeamS.f k t173 t180).bind fun t183 => (if t183 = true then ((laws_markTeamS.f k t173 1).bind fun bt184 => (if bt184.1 < 0 then (laws_FnExactSeedOrder.j0 k l0 t170 t176 true) else ((laws_eqIntS.f k t176 t170).bind fun t186 => (laws_FnExactSeedOrder.j0 k l0 t170 t176 (!t186))))) else (some false)))) else (some false))))))))
theorem laws_FnExactSeedOrder.mono_l : ∀ k, (∀ y0 y1 y2 y3, LeO (laws_FnExactSeedOrder.j0 k y0 y1 y2 y3) (laws_FnExactSeedOrder.j0 (k + 1) y0 y1 y2 y3))
  | 0 => fun _ _ _ _ r h => by simp [laws_FnExactSeedOrder.j0] at h
  | k + 1 => by
    have ih0 := laws_FnExactSeedOrder.mono_l k
    · intro y0 y1 y2 y3
      unfold laws_FnExactSeedOrder.j0
      repeat' first
      | (with_reducible exact ih0 _ _ _ _)
      | (with_reducible exact impl_SeedOrder.mono _ _)
      | (with_reducible exact laws_eqIntS.mono _ _ _)
      | (with_reducible exact laws_eqTeamS.mono _ _ _)
      | (with_reducible exact laws_heldIntS.mono _ _ _)
      | (with_reducible exact laws_markIntS.mono _ _ _)
      | (with_reducible exact laws_markTeamS.mono _ _ _)
      | (with_reducible exact laws_szTeamS.mono _ _ _)
      | (with_reducible exact laws_toTeamS.mono _ _)
      | (with_reducible exact spec_SeedOrder.mono _ _)
      | (with_reducible exact LeO.refl _)
      | (with_reducible exact LeO.none _)
      | (with_reducible refine LeO.ite ?_ ?_)
      | (with_reducible refine LeO.bind ?_ (fun _ => ?_))
      | exact ih0 _ _ _ _
      | exact impl_SeedOrder.mono _ _
      | exact laws_eqIntS.mono _ _ _
      | exact laws_eqTeamS.mono _ _ _
      | exact laws_heldIntS.mono _ _ _
      | exact laws_markIntS.mono _ _ _
      | exact laws_markTeamS.mono _ _ _
      | exact laws_szTeamS.mono _ _ _
      | exact laws_toTeamS.mono _ _
      | exact spec_SeedOrder.mono _ _
      | exact LeO.none _
      | refine LeO.ite ?_ ?_
      | refine LeO.bind ?_ (fun _ => ?_)
theorem laws_FnExactSeedOrder.mono : ∀ a0 k, LeO (laws_FnExactSeedOrder.f k a0) (laws_FnExactSeedOrder.f (k + 1) a0) := by
  intro a0 k
  have ih0 := laws_FnExactSeedOrder.mono_l k
  unfold laws_FnExactSeedOrder.f
  repeat' first
      | (with_reducible exact ih0 _ _ _ _)
      | (with_reducible exact impl_SeedOrder.mono _ _)
      | (with_reducible exact laws_eqIntS.mono _ _ _)
      | (with_reducible exact laws_eqTeamS.mono _ _ _)
      | (with_reducible exact laws_heldIntS.mono _ _ _)
      | (with_reducible exact laws_markIntS.mono _ _ _)
      | (with_reducible exact laws_markTeamS.mono _ _ _)
      | (with_reducible exact laws_szTeamS.mono _ _ _)
      | (with_reducible exact laws_toTeamS.mono _ _)
      | (with_reducible exact spec_SeedOrder.mono _ _)
      | (with_reducible exact LeO.refl _)
      | (with_reducible exact LeO.none _)
      | (with_reducible refine LeO.ite ?_ ?_)
      | (with_reducible refine LeO.bind ?_ (fun _ => ?_))
      | exact ih0 _ _ _ _
      | exact impl_SeedOrder.mono _ _
      | exact laws_eqIntS.mono _ _ _
      | exact laws_eqTeamS.mono _ _ _
      | exact laws_heldIntS.mono _ _ _
      | exact laws_markIntS.mono _ _ _
      | exact laws_markTeamS.mono _ _ _
      | exact laws_szTeamS.mono _ _ _
      | exact laws_toTeamS.mono _ _
      | exact spec_SeedOrder.mono _ _
      | exact LeO.none _
      | refine LeO.ite ?_ ?_
      | refine LeO.bind ?_ (fun _ => ?_)
set_option maxHeartbeats 8000000 in
set_option maxRecDepth 100000 in
theorem laws_FnExactSeedOrder.calls (k : Nat) (A0 : Option Addr) (c0 : Nat) (l0 : List (S100)) (r : Bool) (w : World) (hr_ : r = true) (hr0 : Kd.C k100 w A0 l0.length l0) (hc0 : l0.length ≤ c0) (h : laws_FnExactSeedOrder.f k l0 = some r) :
    Calls Try.prog 6 #[.slice A0 l0.length c0] w fun e w' => e = .returned (.bool r) ∧ Below w.heap.size w w' := by
  have HR_ := Aside0.mk hr_
  clear hr_
  have HR0 := Aside0.mk hr0
  have HC0 := Aside0.mk hc0
  clear hr0 hc0
  have HB := Aside0.mk (Below.refl w.heap.size w)
  have H : ((laws_szTeamS.f k l0 1048576).bind fun t166 => (if t166 < 0 then (some true) else ((laws_toTeamS.f k l0).bind fun t167 => ((spec_SeedOrder.f k t167).bind fun t170 => ((laws_toTeamS.f k l0).bind fun t173 => ((impl_SeedOrder.f k t173).bind fun t176 => ((laws_eqIntS.f k t176 t170).bind fun t179 => (if t179 = true then ((laws_toTeamS.f k l0).bind fun t180 => ((laws_eqTeamS.f k t173 t180).bind fun t183 => (if t183 = true then ((laws_markTeamS.f k t173 1).bind fun bt184 => (if bt184.1 < 0 then (laws_FnExactSeedOrder.j0 k l0 t170 t176 true) else ((laws_eqIntS.f k t176 t170).bind fun t186 => (laws_FnExactSeedOrder.j0 k l0 t170 t176 (!t186))))) else (some false)))) else (some false))))))))) = some r := h
  clear h
  replace H := Option.bind_eq_some_iff.mp H
  obtain ⟨t166, A20, H⟩ := H
  replace H : (if t166 < 0 then (some true) else ((laws_toTeamS.f k l0).bind fun t167 => ((spec_SeedOrder.f k t167).bind fun t170 => ((laws_toTeamS.f k l0).bind fun t173 => ((impl_SeedOrder.f k t173).bind fun t176 => ((laws_eqIntS.f k t176 t170).bind fun t179 => (if t179 = true then ((laws_toTeamS.f k l0).bind fun t180 => ((laws_eqTeamS.f k t173 t180).bind fun t183 => (if t183 = true then ((laws_markTeamS.f k t173 1).bind fun bt184 => (if bt184.1 < 0 then (laws_FnExactSeedOrder.j0 k l0 t170 t176 true) else ((laws_eqIntS.f k t176 t170).bind fun t186 => (laws_FnExactSeedOrder.j0 k l0 t170 t176 (!t186))))) else (some false)))) else (some false)))))))) = some r := H
  have A2 := Aside0.mk A20
  clear A20
  by_cases c3 : t166 < 0
  · rw [if_pos c3] at H
    have c3b0 : decide (t166 < 0) = true := decide_eq_true c3
    clear c3
    obtain rfl := Option.some.inj H
    go_enter Try.func6, Try.ntmps6
    go_wp2_with (first | ((with_reducible refine gate_callee (f := 15) rfl ?_); refine goesL_ (some 13) rfl rfl Try.func15 (by kernel_rfl) rfl #[.slice A0 l0.length c0, .int .i64 1048576] rfl (by (try simp only [List.map_toArray, List.map_cons, List.map_nil]); first | done | rfl | (simp only [List.length_drop, List.length_take]; rfl)) ?_; (with_reducible refine (laws_szTeamS.calls k _ _ l0 1048576 t166 _ ?side1 ?side2 A2.out).mono ?_); (case side1 => repeat (first | exact HR0.out | (with_reducible refine Kd.C_alloc ?_ _) | (with_reducible refine Kd.C_drewN ?_ _) | (with_reducible refine Kd.C_drew ?_))); (case side2 => exact HC0.out); rintro e w4 ⟨rfl, hb⟩; refine ⟨_, rfl, ?_⟩; have n0_ := Aside0.mk (below_step (by repeat (first | (with_reducible first | exact HB.out | apply below_alloc | apply pw_below_drewN | apply below_drew1) | exact HB.out)) hb); clear HB; have HB := n0_; clear n0_; (try clear hb); (try clear hb2); (try clear hk); (try clear hi)))
    go_ret
    exact ⟨by first | rfl | (simp [errW_none, errW_some] <;> rfl) | (simp [*, errW_none, errW_some] <;> rfl), by repeat (first | (with_reducible first | exact HB.out | apply below_alloc | apply pw_below_drewN | apply below_drew1) | exact HB.out)⟩
  · rw [if_neg c3] at H
    have c3b0 : decide (t166 < 0) = false := decide_eq_false c3
    clear c3
    replace H := Option.bind_eq_some_iff.mp H
    obtain ⟨t167, A50, H⟩ := H
    replace H : ((spec_SeedOrder.f k t167).bind fun t170 => ((laws_toTeamS.f k l0).bind fun t173 => ((impl_SeedOrder.f k t173).bind fun t176 => ((laws_eqIntS.f k t176 t170).bind fun t179 => (if t179 = true then ((laws_toTeamS.f k l0).bind fun t180 => ((laws_eqTeamS.f k t173 t180).bind fun t183 => (if t183 = true then ((laws_markTeamS.f k t173 1).bind fun bt184 => (if bt184.1 < 0 then (laws_FnExactSeedOrder.j0 k l0 t170 t176 true) else ((laws_eqIntS.f k t176 t170).bind fun t186 => (laws_FnExactSeedOrder.j0 k l0 t170 t176 (!t186))))) else (some false)))) else (some false)))))) = some r := H
    have A5 := Aside0.mk A50
    clear A50
    replace H := Option.bind_eq_some_iff.mp H
    obtain ⟨t170, A60, H⟩ := H
    replace H : ((laws_toTeamS.f k l0).bind fun t173 => ((impl_SeedOrder.f k t173).bind fun t176 => ((laws_eqIntS.f k t176 t170).bind fun t179 => (if t179 = true then ((laws_toTeamS.f k l0).bind fun t180 => ((laws_eqTeamS.f k t173 t180).bind fun t183 => (if t183 = true then ((laws_markTeamS.f k t173 1).bind fun bt184 => (if bt184.1 < 0 then (laws_FnExactSeedOrder.j0 k l0 t170 t176 true) else ((laws_eqIntS.f k t176 t170).bind fun t186 => (laws_FnExactSeedOrder.j0 k l0 t170 t176 (!t186))))) else (some false)))) else (some false))))) = some r := H
    have A6 := Aside0.mk A60
    clear A60
    replace H := Option.bind_eq_some_iff.mp H
    obtain ⟨t173, A70, H⟩ := H
    replace H : ((impl_SeedOrder.f k t173).bind fun t176 => ((laws_eqIntS.f k t176 t170).bind fun t179 => (if t179 = true then ((laws_toTeamS.f k l0).bind fun t180 => ((laws_eqTeamS.f k t173 t180).bind fun t183 => (if t183 = true then ((laws_markTeamS.f k t173 1).bind fun bt184 => (if bt184.1 < 0 then (laws_FnExactSeedOrder.j0 k l0 t170 t176 true) else ((laws_eqIntS.f k t176 t170).bind fun t186 => (laws_FnExactSeedOrder.j0 k l0 t170 t176 (!t186))))) else (some false)))) else (some false)))) = some r := H
    have A7 := Aside0.mk A70
    clear A70
    replace H := Option.bind_eq_some_iff.mp H
    obtain ⟨t176, A80, H⟩ := H
    replace H : ((laws_eqIntS.f k t176 t170).bind fun t179 => (if t179 = true then ((laws_toTeamS.f k l0).bind fun t180 => ((laws_eqTeamS.f k t173 t180).bind fun t183 => (if t183 = true then ((laws_markTeamS.f k t173 1).bind fun bt184 => (if bt184.1 < 0 then (laws_FnExactSeedOrder.j0 k l0 t170 t176 true) else ((laws_eqIntS.f k t176 t170).bind fun t186 => (laws_FnExactSeedOrder.j0 k l0 t170 t176 (!t186))))) else (some false)))) else (some false))) = some r := H
    have A8 := Aside0.mk A80
    clear A80
    replace H := Option.bind_eq_some_iff.mp H
    obtain ⟨t179, A90, H⟩ := H
    replace H : (if t179 = true then ((laws_toTeamS.f k l0).bind fun t180 => ((laws_eqTeamS.f k t173 t180).bind fun t183 => (if t183 = true then ((laws_markTeamS.f k t173 1).bind fun bt184 => (if bt184.1 < 0 then (laws_FnExactSeedOrder.j0 k l0 t170 t176 true) else ((laws_eqIntS.f k t176 t170).bind fun t186 => (laws_FnExactSeedOrder.j0 k l0 t170 t176 (!t186))))) else (some false)))) else (some false)) = some r := H
    have A9 := Aside0.mk A90
    clear A90
    by_cases c10 : t179 = true
    · subst c10
      have H1 : ((laws_toTeamS.f k l0).bind fun t180 => ((laws_eqTeamS.f k t173 t180).bind fun t183 => (if t183 = true then ((laws_markTeamS.f k t173 1).bind fun bt184 => (if bt184.1 < 0 then (laws_FnExactSeedOrder.j0 k l0 t170 t176 true) else ((laws_eqIntS.f k t176 t170).bind fun t186 => (laws_FnExactSeedOrder.j0 k l0 t170 t176 (!t186))))) else (some false)))) = some r := by rw [if_pos rfl] at H; exact H
      clear H
      have H := H1
      clear H1
      replace H := Option.bind_eq_some_iff.mp H
      obtain ⟨t180, A110, H⟩ := H
      replace H : ((laws_eqTeamS.f k t173 t180).bind fun t183 => (if t183 = true then ((laws_markTeamS.f k t173 1).bind fun bt184 => (if bt184.1 < 0 then (laws_FnExactSeedOrder.j0 k l0 t170 t176 true) else ((laws_eqIntS.f k t176 t170).bind fun t186 => (laws_FnExactSeedOrder.j0 k l0 t170 t176 (!t186))))) else (some false))) = some r := H
      have A11 := Aside0.mk A110
      clear A110
      replace H := Option.bind_eq_some_iff.mp H
      obtain ⟨t183, A120, H⟩ := H
      replace H : (if t183 = true then ((laws_markTeamS.f k t173 1).bind fun bt184 => (if bt184.1 < 0 then (laws_FnExactSeedOrder.j0 k l0 t170 t176 true) else ((laws_eqIntS.f k t176 t170).bind fun t186 => (laws_FnExactSeedOrder.j0 k l0 t170 t176 (!t186))))) else (some false)) = some r := H
      have A12 := Aside0.mk A120
      clear A120
      by_cases c13 : t183 = true
      · subst c13
        have H1 : ((laws_markTeamS.f k t173 1).bind fun bt184 => (if bt184.1 < 0 then (laws_FnExactSeedOrder.j0 k l0 t170 t176 true) else ((laws_eqIntS.f k t176 t170).bind fun t186 => (laws_FnExactSeedOrder.j0 k l0 t170 t176 (!t186))))) = some r := by rw [if_pos rfl] at H; exact H
        clear H
        have H := H1
        clear H1
        replace H := Option.bind_eq_some_iff.mp H
        obtain ⟨⟨t184, t185⟩, A140, H⟩ := H
        replace H : (if t184 < 0 then (laws_FnExactSeedOrder.j0 k l0 t170 t176 true) else ((laws_eqIntS.f k t176 t170).bind fun t186 => (laws_FnExactSeedOrder.j0 k l0 t170 t176 (!t186)))) = some r := H
        have A14 := Aside0.mk A140
        clear A140
        have HC15 := Aside0.mk H
        clear H
        go_enter Try.func6, Try.ntmps6
        go_upto_region 14 with (first | ((with_reducible refine gate_callee (f := 15) rfl ?_); refine goesL_ (some 13) rfl rfl Try.func15 (by kernel_rfl) rfl #[.slice A0 l0.length c0, .int .i64 1048576] rfl (by (try simp only [List.map_toArray, List.map_cons, List.map_nil]); first | done | rfl | (simp only [List.length_drop, List.length_take]; rfl)) ?_; (with_reducible refine (laws_szTeamS.calls k _ _ l0 1048576 t166 _ ?side1 ?side2 A2.out).mono ?_); (case side1 => repeat (first | exact HR0.out | (with_reducible refine Kd.C_alloc ?_ _) | (with_reducible refine Kd.C_drewN ?_ _) | (with_reducible refine Kd.C_drew ?_))); (case side2 => exact HC0.out); rintro e w16 ⟨rfl, hb⟩; refine ⟨_, rfl, ?_⟩; have n0_ := Aside0.mk (below_step (by repeat (first | (with_reducible first | exact HB.out | apply below_alloc | apply pw_below_drewN | apply below_drew1) | exact HB.out)) hb); clear HB; have HB := n0_; clear n0_; (try clear hb); (try clear hb2); (try clear hk); (try clear hi)) | ((with_reducible refine gate_callee (f := 17) rfl ?_); refine goesL_ (some 17) rfl rfl Try.func17 (by kernel_rfl) rfl #[.slice A0 l0.length c0] rfl (by (try simp only [List.map_toArray, List.map_cons, List.map_nil]); first | done | rfl | (simp only [List.length_drop, List.length_take]; rfl)) ?_; (with_reducible refine (laws_toTeamS.calls k _ _ l0 t167 _ ?side1 ?side2 A5.out).mono ?_); (case side1 => repeat (first | exact (Kd.C_below HR0.out HB.out) | (with_reducible refine Kd.C_alloc ?_ _) | (with_reducible refine Kd.C_drewN ?_ _) | (with_reducible refine Kd.C_drew ?_))); (case side2 => exact HC0.out); rintro e w17 ⟨v168, rfl, ho0, hb⟩; refine ⟨_, rfl, ?_⟩; have n0_ := Aside0.mk (Kd.R_lower ho0 (below_size (by repeat (first | (with_reducible first | exact HB.out | apply below_alloc | apply pw_below_drewN | apply below_drew1) | exact HB.out)))); have n1_ := Aside0.mk (below_step (by repeat (first | (with_reducible first | exact HB.out | apply below_alloc | apply pw_below_drewN | apply below_drew1) | exact HB.out)) hb); clear HB; have HO169 := n0_; have HB := n1_; clear n0_ n1_; (try clear hb); (try clear hb2); (try clear hk); (try clear hi); (try clear ho0); obtain ⟨Ao18, co18, eo18⟩ := Kd.R_slice HO169.out; subst eo18) | ((with_reducible refine gate_callee (f := 28) rfl ?_); refine goesL_ (some 18) rfl rfl Try.func28 (by kernel_rfl) rfl #[.slice Ao18 t167.length co18] rfl (by (try simp only [List.map_toArray, List.map_cons, List.map_nil]); first | done | rfl | (simp only [List.length_drop, List.length_take]; rfl)) ?_; (with_reducible refine (spec_SeedOrder.calls k _ _ t167 t170 _ ?side1 ?side2 A6.out).mono ?_); (case side1 => repeat (first | exact (Kd.R_reads' HO169.out).2.2 | (with_reducible refine Kd.C_alloc ?_ _) | (with_reducible refine Kd.C_drewN ?_ _) | (with_reducible refine Kd.C_drew ?_))); (case side2 => exact (Kd.R_reads' HO169.out).2.1); rintro e w19 ⟨v171, rfl, ho0, hb⟩; refine ⟨_, rfl, ?_⟩; have n0_ := Aside0.mk (Kd.R_below (by (with_reducible repeat (first | apply Kd.R_alloc | apply Kd.R_drewN | apply Kd.R_drew)); exact HO169.out) hb); have n1_ := Aside0.mk (Kd.R_lower ho0 (below_size (by repeat (first | (with_reducible first | exact HB.out | apply below_alloc | apply pw_below_drewN | apply below_drew1) | exact HB.out)))); have n2_ := Aside0.mk (below_step (by repeat (first | (with_reducible first | exact HB.out | apply below_alloc | apply pw_below_drewN | apply below_drew1) | exact HB.out)) hb); clear HO169; clear HB; have HO169 := n0_; have HO172 := n1_; have HB := n2_; clear n0_ n1_ n2_; (try clear hb); (try clear hb2); (try clear hk); (try clear hi); (try clear ho0)) | ((with_reducible refine gate_callee (f := 17) rfl ?_); refine goesL_ (some 20) rfl rfl Try.func17 (by kernel_rfl) rfl #[.slice A0 l0.length c0] rfl (by (try simp only [List.map_toArray, List.map_cons, List.map_nil]); first | done | rfl | (simp only [List.length_drop, List.length_take]; rfl)) ?_; (with_reducible refine (laws_toTeamS.calls k _ _ l0 t173 _ ?side1 ?side2 A7.out).mono ?_); (case side1 => repeat (first | exact (Kd.C_below HR0.out HB.out) | (with_reducible refine Kd.C_alloc ?_ _) | (with_reducible refine Kd.C_drewN ?_ _) | (with_reducible refine Kd.C_drew ?_))); (case side2 => exact HC0.out); rintro e w20 ⟨v174, rfl, ho0, hb⟩; refine ⟨_, rfl, ?_⟩; have n0_ := Aside0.mk (Kd.R_elder' (by (with_reducible repeat (first | apply Kd.R_alloc | apply Kd.R_drewN | apply Kd.R_drew)); exact HO169.out) (Kd.R_base ho0) hb); have n1_ := Aside0.mk (Kd.R_below (by (with_reducible repeat (first | apply Kd.R_alloc | apply Kd.R_drewN | apply Kd.R_drew)); exact HO172.out) hb); have n2_ := Aside0.mk (Kd.R_lower (Kd.R_new' ho0 (Kd.R_lt (by (with_reducible repeat (first | apply Kd.R_alloc | apply Kd.R_drewN | apply Kd.R_drew)); exact HO169.out))) (below_size (by repeat (first | (with_reducible first | exact HB.out | apply below_alloc | apply pw_below_drewN | apply below_drew1) | exact HB.out)))); have n3_ := Aside0.mk (below_step (by repeat (first | (with_reducible first | exact HB.out | apply below_alloc | apply pw_below_drewN | apply below_drew1) | exact HB.out)) hb); clear HO169; clear HO172; clear HB; have HO169 := n0_; have HO172 := n1_; have HO175 := n2_; have HB := n3_; clear n0_ n1_ n2_ n3_; (try clear hb); (try clear hb2); (try clear hk); (try clear hi); (try clear ho0); obtain ⟨Ao21, co21, eo21⟩ := Kd.R_slice HO175.out; subst eo21) | ((with_reducible refine gate_callee (f := 29) rfl ?_); refine goesL_ (some 22) rfl rfl Try.func29 (by kernel_rfl) rfl #[.slice Ao21 t173.length co21] rfl (by (try simp only [List.map_toArray, List.map_cons, List.map_nil]); first | done | rfl | (simp only [List.length_drop, List.length_take]; rfl)) ?_; (with_reducible refine (impl_SeedOrder.calls k _ _ t173 t176 _ ?side1 ?side2 A8.out).mono ?_); (case side1 => repeat (first | exact (Kd.R_reads' HO175.out).2.2 | (with_reducible refine Kd.C_alloc ?_ _) | (with_reducible refine Kd.C_drewN ?_ _) | (with_reducible refine Kd.C_drew ?_))); (case side2 => exact (Kd.R_reads' HO175.out).2.1); rintro e w22 ⟨v177, rfl, ho0, hb⟩; refine ⟨_, rfl, ?_⟩; have n0_ := Aside0.mk (Kd.R_below (by (with_reducible repeat (first | apply Kd.R_alloc | apply Kd.R_drewN | apply Kd.R_drew)); exact HO169.out) hb); have n1_ := Aside0.mk (Kd.R_elder' (by (with_reducible repeat (first | apply Kd.R_alloc | apply Kd.R_drewN | apply Kd.R_drew)); exact HO172.out) (Kd.R_base ho0) hb); have n2_ := Aside0.mk (Kd.R_below (by (with_reducible repeat (first | apply Kd.R_alloc | apply Kd.R_drewN | apply Kd.R_drew)); exact HO175.out) hb); have n3_ := Aside0.mk (Kd.R_lower (Kd.R_new' ho0 (Kd.R_lt (by (with_reducible repeat (first | apply Kd.R_alloc | apply Kd.R_drewN | apply Kd.R_drew)); exact HO172.out))) (below_size (by repeat (first | (with_reducible first | exact HB.out | apply below_alloc | apply pw_below_drewN | apply below_drew1) | exact HB.out)))); have n4_ := Aside0.mk (below_step (by repeat (first | (with_reducible first | exact HB.out | apply below_alloc | apply pw_below_drewN | apply below_drew1) | exact HB.out)) hb); clear HO169; clear HO172; clear HO175; clear HB; have HO169 := n0_; have HO172 := n1_; have HO175 := n2_; have HO178 := n3_; have HB := n4_; clear n0_ n1_ n2_ n3_ n4_; (try clear hb); (try clear hb2); (try clear hk); (try clear hi); (try clear ho0); obtain ⟨Ao23, co23, eo23⟩ := Kd.R_slice HO178.out; subst eo23; obtain ⟨Ao24, co24, eo24⟩ := Kd.R_slice HO172.out; subst eo24) | ((with_reducible refine gate_callee (f := 24) rfl ?_); refine goesL_ (some 25) rfl rfl Try.func24 (by kernel_rfl) rfl #[.slice Ao23 t176.length co23, .slice Ao24 t170.length co24] rfl (by (try simp only [List.map_toArray, List.map_cons, List.map_nil]); first | done | rfl | (simp only [List.length_drop, List.length_take]; rfl)) ?_; (with_reducible refine (laws_eqIntS.calls k _ _ t176 _ _ t170 true _ ?side1 ?side2 ?side3 ?side4 A9.out).mono ?_); (case side1 => repeat (first | exact (Kd.R_reads' HO178.out).2.2 | (with_reducible refine Kd.C_alloc ?_ _) | (with_reducible refine Kd.C_drewN ?_ _) | (with_reducible refine Kd.C_drew ?_))); (case side2 => exact (Kd.R_reads' HO178.out).2.1); (case side3 => repeat (first | exact (Kd.R_reads' HO172.out).2.2 | (with_reducible refine Kd.C_alloc ?_ _) | (with_reducible refine Kd.C_drewN ?_ _) | (with_reducible refine Kd.C_drew ?_))); (case side4 => exact (Kd.R_reads' HO172.out).2.1); rintro e w' ⟨rfl, ⟨nd, rfl⟩⟩; refine ⟨_, rfl, ?_⟩) | ((with_reducible refine gate_callee (f := 17) rfl ?_); refine goesL_ (some 29) rfl rfl Try.func17 (by kernel_rfl) rfl #[.slice A0 l0.length c0] rfl (by (try simp only [List.map_toArray, List.map_cons, List.map_nil]); first | done | rfl | (simp only [List.length_drop, List.length_take]; rfl)) ?_; (with_reducible refine (laws_toTeamS.calls k _ _ l0 t180 _ ?side1 ?side2 A11.out).mono ?_); (case side1 => repeat (first | exact (Kd.C_below HR0.out (by repeat (first | (with_reducible first | exact HB.out | apply below_alloc | apply pw_below_drewN | apply below_drew1) | exact HB.out))) | (with_reducible refine Kd.C_alloc ?_ _) | (with_reducible refine Kd.C_drewN ?_ _) | (with_reducible refine Kd.C_drew ?_))); (case side2 => exact HC0.out); rintro e w25 ⟨v181, rfl, ho0, hb⟩; refine ⟨_, rfl, ?_⟩; have n0_ := Aside0.mk (Kd.R_elder' (by (with_reducible repeat (first | apply Kd.R_alloc | apply Kd.R_drewN | apply Kd.R_drew)); exact HO169.out) (Kd.R_base ho0) hb); have n1_ := Aside0.mk (Kd.R_below (by (with_reducible repeat (first | apply Kd.R_alloc | apply Kd.R_drewN | apply Kd.R_drew)); exact HO172.out) hb); have n2_ := Aside0.mk (Kd.R_elder' (by (with_reducible repeat (first | apply Kd.R_alloc | apply Kd.R_drewN | apply Kd.R_drew)); exact HO175.out) (Kd.R_base ho0) hb); have n3_ := Aside0.mk (Kd.R_below (by (with_reducible repeat (first | apply Kd.R_alloc | apply Kd.R_drewN | apply Kd.R_drew)); exact HO178.out) hb); have n4_ := Aside0.mk (Kd.R_lower (Kd.R_new' (Kd.R_new' ho0 (Kd.R_lt (by (with_reducible repeat (first | apply Kd.R_alloc | apply Kd.R_drewN | apply Kd.R_drew)); exact HO169.out))) (Kd.R_lt (by (with_reducible repeat (first | apply Kd.R_alloc | apply Kd.R_drewN | apply Kd.R_drew)); exact HO175.out))) (below_size (by repeat (first | (with_reducible first | exact HB.out | apply below_alloc | apply pw_below_drewN | apply below_drew1) | exact HB.out)))); have n5_ := Aside0.mk (below_step (by repeat (first | (with_reducible first | exact HB.out | apply below_alloc | apply pw_below_drewN | apply below_drew1) | exact HB.out)) hb); clear HO169; clear HO172; clear HO175; clear HO178; clear HB; have HO169 := n0_; have HO172 := n1_; have HO175 := n2_; have HO178 := n3_; have HO182 := n4_; have HB := n5_; clear n0_ n1_ n2_ n3_ n4_ n5_; (try clear hb); (try clear hb2); (try clear hk); (try clear hi); (try clear ho0); obtain ⟨Ao26, co26, eo26⟩ := Kd.R_slice HO182.out; subst eo26) | ((with_reducible refine gate_callee (f := 19) rfl ?_); refine goesL_ (some 30) rfl rfl Try.func19 (by kernel_rfl) rfl #[.slice Ao21 t173.length co21, .slice Ao26 t180.length co26] rfl (by (try simp only [List.map_toArray, List.map_cons, List.map_nil]); first | done | rfl | (simp only [List.length_drop, List.length_take]; rfl)) ?_; (with_reducible refine (laws_eqTeamS.calls k _ _ t173 _ _ t180 true _ ?side1 ?side2 ?side3 ?side4 A12.out).mono ?_); (case side1 => repeat (first | exact (Kd.R_reads' HO175.out).2.2 | (with_reducible refine Kd.C_alloc ?_ _) | (with_reducible refine Kd.C_drewN ?_ _) | (with_reducible refine Kd.C_drew ?_))); (case side2 => exact (Kd.R_reads' HO175.out).2.1); (case side3 => repeat (first | exact (Kd.R_reads' HO182.out).2.2 | (with_reducible refine Kd.C_alloc ?_ _) | (with_reducible refine Kd.C_drewN ?_ _) | (with_reducible refine Kd.C_drew ?_))); (case side4 => exact (Kd.R_reads' HO182.out).2.1); rintro e w27 ⟨rfl, hb⟩; refine ⟨_, rfl, ?_⟩; have n0_ := Aside0.mk (Kd.R_below (by (with_reducible repeat (first | apply Kd.R_alloc | apply Kd.R_drewN | apply Kd.R_drew)); exact HO169.out) hb); have n1_ := Aside0.mk (Kd.R_below (by (with_reducible repeat (first | apply Kd.R_alloc | apply Kd.R_drewN | apply Kd.R_drew)); exact HO172.out) hb); have n2_ := Aside0.mk (Kd.R_below (by (with_reducible repeat (first | apply Kd.R_alloc | apply Kd.R_drewN | apply Kd.R_drew)); exact HO175.out) hb); have n3_ := Aside0.mk (Kd.R_below (by (with_reducible repeat (first | apply Kd.R_alloc | apply Kd.R_drewN | apply Kd.R_drew)); exact HO178.out) hb); have n4_ := Aside0.mk (Kd.R_below (by (with_reducible repeat (first | apply Kd.R_alloc | apply Kd.R_drewN | apply Kd.R_drew)); exact HO182.out) hb); have n5_ := Aside0.mk (below_step (by repeat (first | (with_reducible first | exact HB.out | apply below_alloc | apply pw_below_drewN | apply below_drew1) | exact HB.out)) hb); clear HO169; clear HO172; clear HO175; clear HO178; clear HO182; clear HB; have HO169 := n0_; have HO172 := n1_; have HO175 := n2_; have HO178 := n3_; have HO182 := n4_; have HB := n5_; clear n0_ n1_ n2_ n3_ n4_ n5_; (try clear hb); (try clear hb2); (try clear hk); (try clear hi)) | ((with_reducible refine gate_callee (f := 25) rfl ?_); refine goesL_ (some 34) rfl rfl Try.func25 (by kernel_rfl) rfl #[.slice Ao21 t173.length co21, .int .i64 1] rfl (by (try simp only [List.map_toArray, List.map_cons, List.map_nil]); first | done | rfl | (simp only [List.length_drop, List.length_take]; rfl)) ?_; (with_reducible refine (laws_markTeamS.calls k (fun k_ => some k_ = (.slice Ao21 t173.length co21 : Value).ownBlock) (.slice Ao21 t173.length co21) t173 1 t184 t185 w _ ?side1 ?side2 A14.out).mono ?_); (case side1 => repeat (first | (with_reducible first | exact HB.out | apply below_alloc | apply pw_below_drewN | apply below_drew1) | exact HB.out)); (case side2 => exact Kd.R_tight rfl HO175.out); rintro e w28 ⟨rfl, hy0, hb, hkp⟩; refine ⟨_, rfl, ?_⟩; have n0_ := Aside0.mk (Kd.R_mono (ok' := fun k_ => some k_ ≠ (.slice Ao21 t173.length co21 : Value).ownBlock ∧ some k_ ≠ (.slice Ao26 t180.length co26 : Value).ownBlock) (Kd.R_keptB (HO169.out) hkp (fun k_ hk_ hs_ => (hk_.1.2) hs_)) (fun k_ hk_ => ⟨hk_.1.1.2, hk_.1.2⟩)); have n1_ := Aside0.mk (Kd.R_mono (ok' := fun k_ => some k_ ≠ (.slice Ao23 t176.length co23 : Value).ownBlock) (Kd.R_keptB ((Kd.R_apart' HO172.out (Kd.R_typed HO175.out) (by decide))) hkp (fun k_ hk_ hs_ => (hk_.2) hs_)) (fun k_ hk_ => hk_.1.1.2)); have n2_ := Aside0.mk (Kd.R_reok rfl hy0 (fun k_ e_ => HO175.out.1 k_ e_)); have n3_ := Aside0.mk (Kd.R_mono (ok' := fun k_ => some k_ ≠ (.slice Ao24 t170.length co24 : Value).ownBlock) (Kd.R_keptB ((Kd.R_apart' HO178.out (Kd.R_typed HO175.out) (by decide))) hkp (fun k_ hk_ hs_ => (hk_.2) hs_)) (fun k_ hk_ => hk_.1.1.2)); have n4_ := Aside0.mk (Kd.R_mono (ok' := fun k_ => some k_ ≠ (.slice Ao18 t167.length co18 : Value).ownBlock ∧ some k_ ≠ (.slice Ao21 t173.length co21 : Value).ownBlock) (Kd.R_keptB (HO182.out) hkp (fun k_ hk_ hs_ => (hk_.2) hs_)) (fun k_ hk_ => ⟨hk_.1.1.2, hk_.1.2⟩)); have n5_ := Aside0.mk (hb); clear HO169; clear HO172; clear HO175; clear HO178; clear HO182; clear HB; have HO169 := n0_; have HO172 := n1_; have HO175 := n2_; have HO178 := n3_; have HO182 := n4_; have HB := n5_; clear n0_ n1_ n2_ n3_ n4_ n5_; (try clear hb); (try clear hkp); (try clear hy0)))
        (try simp only [Act.put, List.setIfInBounds_toArray, List.set_cons_zero, List.set_cons_succ])
        go_cut [42] (fun v42 wc => ∃ (kq : Nat) (x42_14 : Bool), v42 = .bool x42_14 ∧ Aside0 (laws_FnExactSeedOrder.j0 kq l0 t170 t176 x42_14 = some r) ∧ Aside0 (kq ≤ k) ∧ Aside0 (Kd.R (Kd.int .i64) 3 wc w.heap.size (fun k_ => some k_ ≠ ((.slice Ao23 t176.length co23) : Value).ownBlock) (.slice Ao24 t170.length co24) t170) ∧ Aside0 (Kd.R (Kd.int .i64) 3 wc w.heap.size (fun k_ => some k_ ≠ ((.slice Ao24 t170.length co24) : Value).ownBlock) (.slice Ao23 t176.length co23) t176) ∧ Aside0 (Below w.heap.size w wc))
        case first =>
          have H := HC15.out
          clear HC15
          by_cases c29 : t184 < 0
          · rw [if_pos c29] at H
            have c29b0 : decide (t184 < 0) = true := decide_eq_true c29
            clear c29
            (first | rw [c29b0] | (simp only [i64_w, i32_w]; rw [c29b0]) | skip)
            have H' := Aside0.mk H
            clear H
            go_wp2
            go_meet
            case rel => exact ⟨_, (true), (by first | rfl | (simp; done) | (simp [*]; done)), H', ⟨by first | omega | exact Nat.le_refl _⟩, ⟨by (with_reducible repeat (first | apply Kd.R_alloc | apply Kd.R_drewN | apply Kd.R_drew)); exact HO172.out⟩, ⟨by (with_reducible repeat (first | apply Kd.R_alloc | apply Kd.R_drewN | apply Kd.R_drew)); exact HO178.out⟩, ⟨by repeat (first | (with_reducible first | exact HB.out | apply below_alloc | apply pw_below_drewN | apply below_drew1) | exact HB.out)⟩⟩
          · rw [if_neg c29] at H
            have c29b0 : decide (t184 < 0) = false := decide_eq_false c29
            clear c29
            (first | rw [c29b0] | (simp only [i64_w, i32_w]; rw [c29b0]) | skip)
            replace H := Option.bind_eq_some_iff.mp H
            obtain ⟨t186, A300, H⟩ := H
            replace H : (laws_FnExactSeedOrder.j0 k l0 t170 t176 (!t186)) = some r := H
            have A30 := Aside0.mk A300
            clear A300
            have H' := Aside0.mk H
            clear H
            go_wp2_with (first | (go_at_call 24; (with_reducible refine (laws_eqIntS.calls k _ _ t176 _ _ t170 t186 _ ?side1 ?side2 ?side3 ?side4 A30.out).mono ?_); (case side1 => repeat (first | exact (Kd.R_reads' HO178.out).2.2 | (with_reducible refine Kd.C_alloc ?_ _) | (with_reducible refine Kd.C_drewN ?_ _) | (with_reducible refine Kd.C_drew ?_))); (case side2 => exact (Kd.R_reads' HO178.out).2.1); (case side3 => repeat (first | exact (Kd.R_reads' HO172.out).2.2 | (with_reducible refine Kd.C_alloc ?_ _) | (with_reducible refine Kd.C_drewN ?_ _) | (with_reducible refine Kd.C_drew ?_))); (case side4 => exact (Kd.R_reads' HO172.out).2.1); rintro e w' ⟨rfl, ⟨nd, rfl⟩⟩))
            go_meet
            case rel => exact ⟨_, (!t186), (by first | rfl | (simp; done) | (simp [*]; done)), H', ⟨by first | omega | exact Nat.le_refl _⟩, ⟨by (with_reducible repeat (first | apply Kd.R_alloc | apply Kd.R_drewN | apply Kd.R_drew)); exact HO172.out⟩, ⟨by (with_reducible repeat (first | apply Kd.R_alloc | apply Kd.R_drewN | apply Kd.R_drew)); exact HO178.out⟩, ⟨by repeat (first | (with_reducible first | exact HB.out | apply below_alloc | apply pw_below_drewN | apply below_drew1) | exact HB.out)⟩⟩
        case rest =>
          clear HC15
          try clear c1
          try clear c2
          try clear p2
          try clear c3
          try clear c3b0
          try clear c6
          try clear c10
          try clear c13
          try clear c15
          try clear c17
          try clear c19
          try clear c24
          try clear c25
          try clear c28
          try clear c29
          try clear c29b0
          obtain ⟨kq, x42_14, rfl, HA, HJ14, HO_4, HO_6, HB⟩ := hcut
          cases kq with
          | zero => exact absurd HA.out (by simp [laws_FnExactSeedOrder.j0])
          | succ kj14 =>
            have H := HA.out
            clear HA
            simp only [laws_FnExactSeedOrder.j0] at H
            by_cases c31 : x42_14 = true
            · subst c31
              have H1 : (some false) = some r := by rw [if_pos rfl] at H; exact H
              clear H
              have H := H1
              clear H1
              exact absurd ((Option.some.inj H).trans HR_.out) (by decide)
            · replace c31 := Bool.eq_false_iff.mpr c31
              subst c31
              have H1 : ((laws_markIntS.f kj14 t176 1).bind fun bt187 => ((laws_heldIntS.f kj14 bt187.2 1).bind fun t189 => (if t189 < 0 then (some false) else (if t189 = bt187.1 then ((laws_toTeamS.f kj14 l0).bind fun t190 => ((impl_SeedOrder.f kj14 t190).bind fun t193 => ((laws_eqIntS.f kj14 t193 t170).bind fun t196 => (if t196 = true then ((laws_heldIntS.f kj14 bt187.2 1).bind fun t197 => (if t197 < 0 then (some false) else (if t197 = bt187.1 then (some true) else (some false)))) else (some false))))) else (some false))))) = some r := by rw [if_neg (show ¬ (false = true) by decide)] at H; exact H
              clear H
              have H := H1
              clear H1
              replace H := Option.bind_eq_some_iff.mp H
              obtain ⟨⟨t187, t188⟩, A320, H⟩ := H
              replace H : ((laws_heldIntS.f kj14 t188 1).bind fun t189 => (if t189 < 0 then (some false) else (if t189 = t187 then ((laws_toTeamS.f kj14 l0).bind fun t190 => ((impl_SeedOrder.f kj14 t190).bind fun t193 => ((laws_eqIntS.f kj14 t193 t170).bind fun t196 => (if t196 = true then ((laws_heldIntS.f kj14 t188 1).bind fun t197 => (if t197 < 0 then (some false) else (if t197 = t187 then (some true) else (some false)))) else (some false))))) else (some false)))) = some r := H
              have A32 := Aside0.mk A320
              clear A320
              replace H := Option.bind_eq_some_iff.mp H
              obtain ⟨t189, A330, H⟩ := H
              replace H : (if t189 < 0 then (some false) else (if t189 = t187 then ((laws_toTeamS.f kj14 l0).bind fun t190 => ((impl_SeedOrder.f kj14 t190).bind fun t193 => ((laws_eqIntS.f kj14 t193 t170).bind fun t196 => (if t196 = true then ((laws_heldIntS.f kj14 t188 1).bind fun t197 => (if t197 < 0 then (some false) else (if t197 = t187 then (some true) else (some false)))) else (some false))))) else (some false))) = some r := H
              have A33 := Aside0.mk A330
              clear A330
              by_cases c34 : t189 < 0
              · rw [if_pos c34] at H
                have c34b0 : decide (t189 < 0) = true := decide_eq_true c34
                clear c34
                exact absurd ((Option.some.inj H).trans HR_.out) (by decide)
              · rw [if_neg c34] at H
                have c34b0 : decide (t189 < 0) = false := decide_eq_false c34
                clear c34
                by_cases c35 : t189 = t187
                · rw [if_pos c35] at H
                  have c35b0 : (t189 == t187) = true := beq_iff_eq.mpr c35
                  have c35b1 : (t189 != t187) = false := bne_eq_false_iff_eq.mpr c35
                  clear c35
                  replace H := Option.bind_eq_some_iff.mp H
                  obtain ⟨t190, A360, H⟩ := H
                  replace H : ((impl_SeedOrder.f kj14 t190).bind fun t193 => ((laws_eqIntS.f kj14 t193 t170).bind fun t196 => (if t196 = true then ((laws_heldIntS.f kj14 t188 1).bind fun t197 => (if t197 < 0 then (some false) else (if t197 = t187 then (some true) else (some false)))) else (some false)))) = some r := H
                  have A36 := Aside0.mk A360
                  clear A360
                  replace H := Option.bind_eq_some_iff.mp H
                  obtain ⟨t193, A370, H⟩ := H
                  replace H : ((laws_eqIntS.f kj14 t193 t170).bind fun t196 => (if t196 = true then ((laws_heldIntS.f kj14 t188 1).bind fun t197 => (if t197 < 0 then (some false) else (if t197 = t187 then (some true) else (some false)))) else (some false))) = some r := H
                  have A37 := Aside0.mk A370
                  clear A370
                  replace H := Option.bind_eq_some_iff.mp H
                  obtain ⟨t196, A380, H⟩ := H
                  replace H : (if t196 = true then ((laws_heldIntS.f kj14 t188 1).bind fun t197 => (if t197 < 0 then (some false) else (if t197 = t187 then (some true) else (some false)))) else (some false)) = some r := H
                  have A38 := Aside0.mk A380
                  clear A380
                  by_cases c39 : t196 = true
                  · subst c39
                    have H1 : ((laws_heldIntS.f kj14 t188 1).bind fun t197 => (if t197 < 0 then (some false) else (if t197 = t187 then (some true) else (some false)))) = some r := by rw [if_pos rfl] at H; exact H
                    clear H
                    have H := H1
                    clear H1
                    replace H := Option.bind_eq_some_iff.mp H
                    obtain ⟨t197, A400, H⟩ := H
                    replace H : (if t197 < 0 then (some false) else (if t197 = t187 then (some true) else (some false))) = some r := H
                    have A40 := Aside0.mk A400
                    clear A400
                    by_cases c41 : t197 < 0
                    · rw [if_pos c41] at H
                      have c41b0 : decide (t197 < 0) = true := decide_eq_true c41
                      clear c41
                      exact absurd ((Option.some.inj H).trans HR_.out) (by decide)
                    · rw [if_neg c41] at H
                      have c41b0 : decide (t197 < 0) = false := decide_eq_false c41
                      clear c41
                      by_cases c42 : t197 = t187
                      · rw [if_pos c42] at H
                        have c42b0 : (t197 == t187) = true := beq_iff_eq.mpr c42
                        have c42b1 : (t197 != t187) = false := bne_eq_false_iff_eq.mpr c42
                        clear c42
                        obtain rfl := Option.some.inj H
                        go_wp2_with (first | ((with_reducible refine gate_callee (f := 26) rfl ?_); refine goesL_ (some 45) rfl rfl Try.func26 (by kernel_rfl) rfl #[.slice Ao23 t176.length co23, .int .i64 1] rfl (by (try simp only [List.map_toArray, List.map_cons, List.map_nil]); first | done | rfl | (simp only [List.length_drop, List.length_take]; rfl)) ?_; (with_reducible refine (laws_markIntS.calls kj14 (fun k_ => some k_ = (.slice Ao23 t176.length co23 : Value).ownBlock) (.slice Ao23 t176.length co23) t176 1 t187 t188 w _ ?side1 ?side2 A32.out).mono ?_); (case side1 => repeat (first | (with_reducible first | exact HB.out | apply below_alloc | apply pw_below_drewN | apply below_drew1) | exact HB.out)); (case side2 => exact Kd.R_tight rfl HO_6.out); rintro e w43 ⟨rfl, hy0, hb, hkp⟩; refine ⟨_, rfl, ?_⟩; have n0_ := Aside0.mk (Kd.R_mono (ok' := fun k_ => some k_ ≠ (.slice Ao23 t176.length co23 : Value).ownBlock) (Kd.R_keptB (HO_4.out) hkp (fun k_ hk_ hs_ => (hk_) hs_)) (fun k_ hk_ => hk_.1)); have n1_ := Aside0.mk (Kd.R_reok rfl hy0 (fun k_ e_ => HO_6.out.1 k_ e_)); have n2_ := Aside0.mk (hb); clear HO_4; clear HO_6; clear HB; have HO_4 := n0_; have HO_6 := n1_; have HB := n2_; clear n0_ n1_ n2_; (try clear hb); (try clear hkp); (try clear hy0)) | ((with_reducible refine gate_callee (f := 27) rfl ?_); refine goesL_ (some 48) rfl rfl Try.func27 (by kernel_rfl) rfl #[.slice Ao23 t188.length co23, .int .i64 1] rfl (by (try simp only [List.map_toArray, List.map_cons, List.map_nil]); first | done | (rw [show t188.length = t176.length from (Kd.R_reads' HO_6.out).1.symm] <;> rfl) | rfl | (simp only [List.length_drop, List.length_take]; rfl)) ?_; (with_reducible refine (laws_heldIntS.calls kj14 _ _ t188 1 t189 _ ?side1 ?side2 A33.out).mono ?_); (case side1 => repeat (first | exact (Kd.R_reads' HO_6.out).2.2 | (with_reducible refine Kd.C_alloc ?_ _) | (with_reducible refine Kd.C_drewN ?_ _) | (with_reducible refine Kd.C_drew ?_))); (case side2 => rw [show t188.length = t176.length from (Kd.R_reads' HO_6.out).1.symm]; exact (Kd.R_reads' HO_6.out).2.1); rintro e w' ⟨rfl, ⟨nd, rfl⟩⟩; refine ⟨_, rfl, ?_⟩) | ((with_reducible refine gate_callee (f := 17) rfl ?_); refine goesL_ (some 55) rfl rfl Try.func17 (by kernel_rfl) rfl #[.slice A0 l0.length c0] rfl (by (try simp only [List.map_toArray, List.map_cons, List.map_nil]); first | done | rfl | (simp only [List.length_drop, List.length_take]; rfl)) ?_; (with_reducible refine (laws_toTeamS.calls kj14 _ _ l0 t190 _ ?side1 ?side2 A36.out).mono ?_); (case side1 => repeat (first | exact (Kd.C_below HR0.out (by repeat (first | (with_reducible first | exact HB.out | apply below_alloc | apply pw_below_drewN | apply below_drew1) | exact HB.out))) | (with_reducible refine Kd.C_alloc ?_ _) | (with_reducible refine Kd.C_drewN ?_ _) | (with_reducible refine Kd.C_drew ?_))); (case side2 => exact HC0.out); rintro e w44 ⟨v191, rfl, ho0, hb⟩; refine ⟨_, rfl, ?_⟩; have n0_ := Aside0.mk (Kd.R_below (by (with_reducible repeat (first | apply Kd.R_alloc | apply Kd.R_drewN | apply Kd.R_drew)); exact HO_4.out) hb); have n1_ := Aside0.mk (Kd.R_below (by (with_reducible repeat (first | apply Kd.R_alloc | apply Kd.R_drewN | apply Kd.R_drew)); exact HO_6.out) hb); have n2_ := Aside0.mk (Kd.R_lower ho0 (below_size (by repeat (first | (with_reducible first | exact HB.out | apply below_alloc | apply pw_below_drewN | apply below_drew1) | exact HB.out)))); have n3_ := Aside0.mk (below_step (by repeat (first | (with_reducible first | exact HB.out | apply below_alloc | apply pw_below_drewN | apply below_drew1) | exact HB.out)) hb); clear HO_4; clear HO_6; clear HB; have HO_4 := n0_; have HO_6 := n1_; have HO192 := n2_; have HB := n3_; clear n0_ n1_ n2_ n3_; (try clear hb); (try clear hb2); (try clear hk); (try clear hi); (try clear ho0); obtain ⟨Ao45, co45, eo45⟩ := Kd.R_slice HO192.out; subst eo45) | ((with_reducible refine gate_callee (f := 29) rfl ?_); refine goesL_ (some 56) rfl rfl Try.func29 (by kernel_rfl) rfl #[.slice Ao45 t190.length co45] rfl (by (try simp only [List.map_toArray, List.map_cons, List.map_nil]); first | done | rfl | (simp only [List.length_drop, List.length_take]; rfl)) ?_; (with_reducible refine (impl_SeedOrder.calls kj14 _ _ t190 t193 _ ?side1 ?side2 A37.out).mono ?_); (case side1 => repeat (first | exact (Kd.R_reads' HO192.out).2.2 | (with_reducible refine Kd.C_alloc ?_ _) | (with_reducible refine Kd.C_drewN ?_ _) | (with_reducible refine Kd.C_drew ?_))); (case side2 => exact (Kd.R_reads' HO192.out).2.1); rintro e w46 ⟨v194, rfl, ho0, hb⟩; refine ⟨_, rfl, ?_⟩; have n0_ := Aside0.mk (Kd.R_elder' (by (with_reducible repeat (first | apply Kd.R_alloc | apply Kd.R_drewN | apply Kd.R_drew)); exact HO_4.out) (Kd.R_base ho0) hb); have n1_ := Aside0.mk (Kd.R_elder' (by (with_reducible repeat (first | apply Kd.R_alloc | apply Kd.R_drewN | apply Kd.R_drew)); exact HO_6.out) (Kd.R_base ho0) hb); have n2_ := Aside0.mk (Kd.R_below (by (with_reducible repeat (first | apply Kd.R_alloc | apply Kd.R_drewN | apply Kd.R_drew)); exact HO192.out) hb); have n3_ := Aside0.mk (Kd.R_lower (Kd.R_new' (Kd.R_new' ho0 (Kd.R_lt (by (with_reducible repeat (first | apply Kd.R_alloc | apply Kd.R_drewN | apply Kd.R_drew)); exact HO_4.out))) (Kd.R_lt (by (with_reducible repeat (first | apply Kd.R_alloc | apply Kd.R_drewN | apply Kd.R_drew)); exact HO_6.out))) (below_size (by repeat (first | (with_reducible first | exact HB.out | apply below_alloc | apply pw_below_drewN | apply below_drew1) | exact HB.out)))); have n4_ := Aside0.mk (below_step (by repeat (first | (with_reducible first | exact HB.out | apply below_alloc | apply pw_below_drewN | apply below_drew1) | exact HB.out)) hb); clear HO_4; clear HO_6; clear HO192; clear HB; have HO_4 := n0_; have HO_6 := n1_; have HO192 := n2_; have HO195 := n3_; have HB := n4_; clear n0_ n1_ n2_ n3_ n4_; (try clear hb); (try clear hb2); (try clear hk); (try clear hi); (try clear ho0); obtain ⟨Ao47, co47, eo47⟩ := Kd.R_slice HO195.out; subst eo47) | ((with_reducible refine gate_callee (f := 24) rfl ?_); refine goesL_ (some 59) rfl rfl Try.func24 (by kernel_rfl) rfl #[.slice Ao47 t193.length co47, .slice Ao24 t170.length co24] rfl (by (try simp only [List.map_toArray, List.map_cons, List.map_nil]); first | done | rfl | (simp only [List.length_drop, List.length_take]; rfl)) ?_; (with_reducible refine (laws_eqIntS.calls kj14 _ _ t193 _ _ t170 true _ ?side1 ?side2 ?side3 ?side4 A38.out).mono ?_); (case side1 => repeat (first | exact (Kd.R_reads' HO195.out).2.2 | (with_reducible refine Kd.C_alloc ?_ _) | (with_reducible refine Kd.C_drewN ?_ _) | (with_reducible refine Kd.C_drew ?_))); (case side2 => exact (Kd.R_reads' HO195.out).2.1); (case side3 => repeat (first | exact (Kd.R_reads' HO_4.out).2.2 | (with_reducible refine Kd.C_alloc ?_ _) | (with_reducible refine Kd.C_drewN ?_ _) | (with_reducible refine Kd.C_drew ?_))); (case side4 => exact (Kd.R_reads' HO_4.out).2.1); rintro e w' ⟨rfl, ⟨nd, rfl⟩⟩; refine ⟨_, rfl, ?_⟩) | ((with_reducible refine gate_callee (f := 27) rfl ?_); refine goesL_ (some 63) rfl rfl Try.func27 (by kernel_rfl) rfl #[.slice Ao23 t188.length co23, .int .i64 1] rfl (by (try simp only [List.map_toArray, List.map_cons, List.map_nil]); first | done | (rw [show t188.length = t176.length from (Kd.R_reads' HO_6.out).1.symm] <;> rfl) | rfl | (simp only [List.length_drop, List.length_take]; rfl)) ?_; (with_reducible refine (laws_heldIntS.calls kj14 _ _ t188 1 t197 _ ?side1 ?side2 A40.out).mono ?_); (case side1 => repeat (first | exact (Kd.R_reads' HO_6.out).2.2 | (with_reducible refine Kd.C_alloc ?_ _) | (with_reducible refine Kd.C_drewN ?_ _) | (with_reducible refine Kd.C_drew ?_))); (case side2 => rw [show t188.length = t176.length from (Kd.R_reads' HO_6.out).1.symm]; exact (Kd.R_reads' HO_6.out).2.1); rintro e w' ⟨rfl, ⟨nd, rfl⟩⟩; refine ⟨_, rfl, ?_⟩))
                        go_ret
                        exact ⟨by first | rfl | (simp [errW_none, errW_some] <;> rfl) | (simp [*, errW_none, errW_some] <;> rfl), by repeat (first | (with_reducible first | exact HB.out | apply below_alloc | apply pw_below_drewN | apply below_drew1) | exact HB.out)⟩
                      · rw [if_neg c42] at H
                        have c42b0 : (t197 == t187) = false := beq_eq_false_iff_ne.mpr c42
                        have c42b1 : (t197 != t187) = true := bne_iff_ne.mpr c42
                        exact absurd ((Option.some.inj H).trans HR_.out) (by decide)
                  · replace c39 := Bool.eq_false_iff.mpr c39
                    subst c39
                    have H1 : (some false) = some r := by rw [if_neg (show ¬ (false = true) by decide)] at H; exact H
                    clear H
                    have H := H1
                    clear H1
                    exact absurd ((Option.some.inj H).trans HR_.out) (by decide)
                · rw [if_neg c35] at H
                  have c35b0 : (t189 == t187) = false := beq_eq_false_iff_ne.mpr c35
                  have c35b1 : (t189 != t187) = true := bne_iff_ne.mpr c35
                  exact absurd ((Option.some.inj H).trans HR_.out) (by decide)
      · replace c13 := Bool.eq_false_iff.mpr c13
        subst c13
        have H1 : (some false) = some r := by rw [if_neg (show ¬ (false = true) by decide)] at H; exact H
        clear H
        have H := H1
        clear H1
        exact absurd ((Option.some.inj H).trans HR_.out) (by decide)
    · replace c10 := Bool.eq_false_iff.mpr c10
      subst c10
      have H1 : (some false) = some r := by rw [if_neg (show ¬ (false = true) by decide)] at H; exact H
      clear H
      have H := H1
      clear H1
      exact absurd ((Option.some.inj H).trans HR_.out) (by decide)

end Go.Proofs.Ytapmiocpkddbfaa.MFnExactSeedOrder
