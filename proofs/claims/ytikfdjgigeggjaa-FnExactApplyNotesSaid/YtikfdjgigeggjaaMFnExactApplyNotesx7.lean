/- The functions that FnExactApplyNotes reaches, each with its contract: the print's form, by wip/tools/myprint.py; no condition of its own. -/
import Derived.Test.YtikfdjgigeggjaaMFnExactApplyNotesx0
namespace Go.Proofs.Ytikfdjgigeggjaa.MFnExactApplyNotes
open Go.RowKit Go.Proofs.YtikfdjgigeggjaaW.PrintWords Go.Proofs.YtikfdjgigeggjaaW.PrintLast Go.Proofs.YtikfdjgigeggjaaW.PrintMore
attribute [local go_sem] max2_int min2_int max_two min_two max_three min_three max_four min_four   -- for this text's walks alone
set_option linter.unusedVariables false
set_option linter.unusedSimpArgs false

/-! ### impl_CanonNotes: function 21 -/
section
open Go.Sort
variable {α : Type} [Inhabited α] {enc : α → Value}
theorem so_holds {w : World} {g : Nat} {cur : Array Value} {e : TypeId} {xs : List α} (hb : w.heap[g]? = some (.cells cur e (0, 0))) (ht : cur.toList.take xs.length = xs.map enc) : Holds enc w g 0 xs.toArray := by
  intro j hj
  have hj' : j < xs.length := by simpa using hj
  refine ⟨?_, by simp [World.frozen?, hb]⟩
  have h1 : (cur.toList.take xs.length)[j]? = (xs.map enc)[j]? := by rw [ht]
  rw [List.getElem?_take_of_lt hj'] at h1
  simp only [World.cell?, hb, Nat.zero_add]
  simp only [Option.isSome_none, Bool.false_eq_true, if_false]
  rw [← Array.getElem?_toList, h1]
  simp [hj']
theorem so_other {w : World} {g n : Nat} {os : Array Obj} (d : Array α) (k : Nat) (hk : k < w.heap.size) (hne : k ≠ g) : (grow (putRow enc (Sort.ahead w n) g 0 d) os).heap[k]? = w.heap[k]? := by
  rw [heap_grow_old _ _ (by simpa using hk)]
  simp [putRow, mapBlock, Sort.ahead, Array.getElem?_modify, Ne.symm hne]
theorem so_heap {w : World} {g n : Nat} {os : Array Obj} {cur : Array Value} {e : TypeId} {fr : Nat × Nat} (d : Array α) (hb : w.heap[g]? = some (.cells cur e fr)) :
    (grow (putRow enc (Sort.ahead w n) g 0 d) os).heap[g]? = some (.cells (putCells enc 0 d cur) e fr) := by
  have hg : g < w.heap.size := (Array.getElem?_eq_some_iff.1 hb).1
  rw [heap_grow_old _ _ (by simpa using hg)]
  simp [putRow, mapBlock, Sort.ahead, Array.getElem?_modify, hb, onCells]
theorem so_take (cur : Array Value) (ts : List α) (h : ts.length ≤ cur.size) : (putCells enc 0 ts.toArray cur).toList.take ts.length = ts.map enc := by
  apply List.ext_getElem?
  intro j
  by_cases hj : j < ts.length
  · rw [List.getElem?_take_of_lt hj, Array.getElem?_toList]
    simp [putCells, hj, show j < cur.size by omega]
  · rw [List.getElem?_take_eq_none (by omega), List.getElem?_eq_none (by simp; omega)]
theorem so_grownBy {w : World} {g n : Nat} {os : Array Obj} (d : Array α) : w.grownBy (grow (putRow enc (Sort.ahead w n) g 0 d) os) (some g) := by
  refine ⟨rfl, rfl, rfl, by simp, fun k hk hne => so_other d k hk (fun e => hne (by rw [e]))⟩
/-- Behind the sort the same slice owns the sorted list. -/
theorem so_own {w : World} {base g cap n m : Nat} {e : TypeId} {os : Array Obj} {cur : Array Value} {ts : List α} (hl : ts.length = m) (hbase : base ≤ g) (hb : w.heap[g]? = some (.cells cur e (0, 0)))
    (h1 : m ≤ cap) (h2 : cap ≤ maxLen) (h3 : cur.size = cap * 1) :
    (grow (putRow enc (Sort.ahead w n) g 0 ts.toArray) os).ownsRow base e 1 (.slice (some ⟨g, 0, none⟩) m cap) m (ts.map enc) := by
  subst hl
  exact ⟨by simp, .inr ⟨g, cap, _, rfl, hbase, so_heap _ hb, h1, h2, by simp [putCells, h3], by rw [Nat.mul_one]; exact so_take cur ts (by omega)⟩⟩
end
/-- clear on the rest of a row of one's own: the first elements stay. -/
theorem run_clear_row {P : Program} (w : World) (t e ty : TypeId) (z : Value) (ht : P.underlying t = some (.slice e)) (hv : ∀ w, (zeroValue e).run P w = .ok z w) (h1 : ∀ q ∈ z.cells.toList, q.oneCell' = true) (b o n c : Nat) (hn : 0 < n)
    (hc : ∀ j, j < n * z.cells.size → (w.cell? ⟨b, o + j, none⟩).isSome = true) (hf : ∀ j, j < n * z.cells.size → w.frozen? ⟨b, o + j, none⟩ = false) :
    ∃ vs : List Value, vs.length = n * z.cells.size ∧ (Builtin.clear_ #[t] ty #[.slice (some ⟨b, o, none⟩) n c]).run P w = .ok (.tuple #[]) (w.setCells b o vs) := by
  have hl : (Builtin.zeroCells z.cells n).toList.length = n * z.cells.size := by simp [Builtin.zeroCells]
  have hone : ∀ v ∈ (Builtin.zeroCells z.cells n).toList, v.oneCell' = true := by
    intro v hv'
    simp only [Builtin.zeroCells, Array.toList_map, List.mem_map, Array.toList_range, List.mem_range] at hv'
    obtain ⟨j, hj, rfl⟩ := hv'
    have hpos : 0 < z.cells.size := by
      rcases Nat.eq_zero_or_pos z.cells.size with h | h
      · rw [h] at hj; simp at hj
      · exact h
    have hlt : j % z.cells.size < z.cells.size := Nat.mod_lt _ hpos
    apply h1
    rw [getElem!_pos z.cells _ hlt]
    simp
  have hst := run_storeCells_cells (P := P) b o (Builtin.zeroCells z.cells n).toList 0 w (by rw [hl]; simpa using hc) (by rw [hl]; simpa using hf) hone
  simp only [Nat.add_zero] at hst
  refine ⟨_, hl, ?_⟩
  obtain ⟨m, rfl⟩ : ∃ m, n = m + 1 := ⟨n - 1, by omega⟩
  simp [Builtin.clear_, run_underlying ht, hv, hst]
theorem R_cleared {α : Type} {d : Kd α} {e : Nat} {w : World} {base : Nat} {ok : Nat → Prop} {g n cap : Nat} {xs : List α} (h : d.R e w base ok (.slice (some ⟨g, 0, none⟩) n cap) xs) (i : Nat) (hi : i ≤ n) (vs : List Value) (hv : vs.length = (n - i) * d.sz) :
    d.R e (w.setCells g (i * d.sz) vs) base ok (.slice (some ⟨g, 0, none⟩) i cap) (xs.take i) ∧ w.grownBy (w.setCells g (i * d.sz) vs) (some g) := by
  obtain ⟨hn, hnc, _⟩ := Kd.R_reads' h
  have hT := Kd.R_take h (m := i) (by omega)
  obtain ⟨hok, inner, ho, hr⟩ := hT
  have hli : (xs.take i).length = i := by rw [List.length_take]; omega
  obtain ⟨ho1, ho2⟩ := ho
  rcases ho2 with ⟨hv', _⟩ | ⟨g', cap', cur, hv', hb, hh, hnc', hcm, hcs, ht⟩
  · cases hv'
  injection hv' with ha _ hc
  injection ha with ha
  injection ha with hg
  subst hg; subst hc
  have hfit : i * d.sz + vs.length ≤ cur.size := by
    rw [hv, hcs, ← Nat.add_mul]
    exact Nat.mul_le_mul_right _ (by omega)
  obtain ⟨cur', h3, h4, h5⟩ := setCells_row vs (i * d.sz) w cur hh hfit
  obtain ⟨s1, s2, s3, s4⟩ := setCells_same g vs (i * d.sz) w
  have hfar : ∀ k, k ≠ g → (w.setCells g (i * d.sz) vs).heap[k]? = w.heap[k]? := fun k hk => setCells_far vs _ k hk
  refine ⟨⟨hok, inner, ⟨ho1, .inr ⟨g, cap, cur', by rw [hli], hb, h3, by rw [hli]; omega, hcm, by rw [h4, hcs], ?_⟩⟩, hr.imp_ fun p c hp => ?_⟩, ⟨s1, s2, s3, by rw [s4]; exact Nat.le_refl _, fun k _ hk => hfar k (fun he => hk (by rw [he]))⟩⟩
  · rw [hli] at ht ⊢
    have e1 : (cur.toList.take (i * d.sz)).length = i * d.sz := by rw [List.length_take, Array.length_toList]; omega
    rw [h5, List.append_assoc, List.take_append_of_le_length (by rw [e1]; exact Nat.le_refl _), List.take_of_length_le (by rw [e1]; exact Nat.le_refl _)]
    exact ht
  · exact d.M_move (fun k hk => hfar k (fun he => hk.2 (by rw [he]; simp [Value.ownBlock]))) hp
theorem R_room {α : Type} {d : Kd α} {e : Nat} {w : World} {base : Nat} {ok : Nat → Prop} {g n cap : Nat} {xs : List α} (h : d.R e w base ok (.slice (some ⟨g, 0, none⟩) n cap) xs) (j : Nat) (hj : j < n * d.sz) : (w.cell? ⟨g, j, none⟩).isSome = true ∧ w.frozen? ⟨g, j, none⟩ = false := by
  obtain ⟨hn, hnc, _⟩ := Kd.R_reads' h
  obtain ⟨hok, inner, ho, hr⟩ := h
  obtain ⟨ho1, ho2⟩ := ho
  rcases ho2 with ⟨hv', _⟩ | ⟨g', cap', cur, hv', hb, hh, hnc', hcm, hcs, ht⟩
  · cases hv'
  injection hv' with ha _ hc
  injection ha with ha
  injection ha with hg
  subst hg; subst hc
  refine ⟨?_, blk_frozen hh _⟩
  rw [blk_cell hh]
  have : j < cur.size := by
    rw [hcs]
    exact Nat.lt_of_lt_of_le hj (Nat.mul_le_mul_right _ hnc)
  rw [Array.getElem?_eq_getElem this]
  rfl
set_option linter.unusedSectionVars false
/-! Stable sorting, in plain Lean: sorted by a key, the same elements of each key in the same order. -/
section
variable {α : Type} (key : α → Int)

/-- l' is the stable sort of l by key. -/
def StS (l : List α) : Prop := l.Pairwise (fun x y => key x ≤ key y)
def StE (l l' : List α) : Prop := ∀ k, l'.filter (fun x => key x == k) = l.filter (fun x => key x == k)

theorem st_same_refl (l : List α) : StE key l l := fun _ => rfl
theorem st_same_trans {a b c : List α} (h : StE key a b) (h' : StE key b c) : StE key a c := fun k => (h' k).trans (h k)
theorem st_same_append {a b a' b' : List α} (h : StE key a a') (h' : StE key b b') : StE key (a ++ b) (a' ++ b') := fun k => by
  rw [List.filter_append, List.filter_append, h k, h' k]

theorem st_same_mem {l l' : List α} (h : StE key l l') (x : α) : x ∈ l' ↔ x ∈ l := by
  have := congrArg (fun z => x ∈ z) (h (key x))
  simpa using this

theorem st_same_length {l l' : List α} (h : StE key l l') : l'.length = l.length := by
  induction l generalizing l' with
  | nil =>
    cases l' with
    | nil => rfl
    | cons x r =>
      have := (st_same_mem key h x).1 (by simp)
      cases this
  | cons a r ih =>
    -- take the first of a's key out of l'
    have hk := h (key a)
    simp only [List.filter_cons, beq_self_eq_true, if_true] at hk
    obtain ⟨u, v, e, hu, hv⟩ := List.filter_eq_cons_iff.1 hk
    subst e
    have h2 : StE key r (u ++ v) := by
      intro k
      have h1 := h k
      rw [List.filter_append, List.filter_cons] at h1
      rw [List.filter_append]
      by_cases c : key a = k
      · subst c
        have hu' : u.filter (fun x => key x == key a) = [] := by
          rw [List.filter_eq_nil_iff]
          intro x hx
          simpa using hu x hx
        rw [hu'] at h1 ⊢
        simpa using h1
      · have c' : (key a == k) = false := by simpa using c
        simp only [c', List.filter_cons] at h1
        simpa using h1
    have := ih h2
    simp only [List.length_append, List.length_cons] at this ⊢
    omega

/-- Two sorted lists with the same elements of each key, in the same order, are one. -/
theorem st_sorted_unique {l l' : List α} (hs : StS key l) (hs' : StS key l') (h : StE key l l') : l' = l := by
  induction l generalizing l' with
  | nil =>
    cases l' with
    | nil => rfl
    | cons x r => exact absurd ((st_same_mem key h x).1 (by simp)) (by simp)
  | cons a r ih =>
    cases l' with
    | nil => exact absurd ((st_same_mem key h a).2 (by simp)) (by simp)
    | cons b r' =>
      have e1 := List.pairwise_cons.1 hs
      have e2 := List.pairwise_cons.1 hs'
      have hab : key a ≤ key b := by
        have := (st_same_mem key h b).1 (by simp)
        rcases List.mem_cons.1 this with e | e
        · rw [e]; exact Int.le_refl _
        · exact e1.1 b e
      have hba : key b ≤ key a := by
        have := (st_same_mem key h a).2 (by simp)
        rcases List.mem_cons.1 this with e | e
        · rw [e]; exact Int.le_refl _
        · exact e2.1 a e
      have hk : key a = key b := Int.le_antisymm hab hba
      have h1 := h (key a)
      simp only [List.filter_cons, beq_self_eq_true, if_true, hk] at h1
      injection h1 with ha hr
      subst ha
      congr 1
      refine ih e1.2 e2.2 ?_
      intro k
      have h2 := h k
      rw [List.filter_cons, List.filter_cons] at h2
      split at h2
      · injection h2
      · exact h2

/-- Elements of other keys may change their places. -/
theorem st_same_swap {u v : List α} (h : ∀ x ∈ u, ∀ y ∈ v, key x ≠ key y) : StE key (u ++ v) (v ++ u) := by
  intro k
  rw [List.filter_append, List.filter_append]
  by_cases c : ∃ x ∈ u, key x = k
  · obtain ⟨x, hx, e⟩ := c
    have : v.filter (fun x => key x == k) = [] := by
      rw [List.filter_eq_nil_iff]
      intro y hy
      have := h x hx y hy
      simp
      omega
    rw [this]; simp
  · have : u.filter (fun x => key x == k) = [] := by
      rw [List.filter_eq_nil_iff]
      intro y hy hh
      exact c ⟨y, hy, by simpa using hh⟩
    rw [this]; simp

theorem st_sorted_append {a b : List α} (ha : StS key a) (hb : StS key b) (h : ∀ x ∈ a, ∀ y ∈ b, key x ≤ key y) : StS key (a ++ b) :=
  List.pairwise_append.2 ⟨ha, hb, h⟩

/-- The step of a merge: the split u1 u2 | v1 v2, rotated, each half merged. -/
theorem st_merge_step {u1 u2 v1 v2 r1 r2 : List α} (hu : StS key (u1 ++ u2)) (hv : StS key (v1 ++ v2))
    (h12 : ∀ x ∈ u1, ∀ y ∈ v2, key x ≤ key y) (h21 : ∀ x ∈ v1, ∀ y ∈ u2, key x < key y)
    (s1 : StS key r1) (s2 : StS key r2) (m1 : StE key (u1 ++ v1) r1) (m2 : StE key (u2 ++ v2) r2) :
    StS key (r1 ++ r2) ∧ StE key ((u1 ++ u2) ++ (v1 ++ v2)) (r1 ++ r2) := by
  have pu := (List.pairwise_append.1 hu).2.2
  have pv := (List.pairwise_append.1 hv).2.2
  constructor
  · refine st_sorted_append key s1 s2 ?_
    intro x hx y hy
    have hx := (st_same_mem key m1 x).1 hx
    have hy := (st_same_mem key m2 y).1 hy
    rcases List.mem_append.1 hx with hx | hx <;> rcases List.mem_append.1 hy with hy | hy
    · exact pu x hx y hy
    · exact h12 x hx y hy
    · exact Int.le_of_lt (h21 x hx y hy)
    · exact pv x hx y hy
  · refine st_same_trans key ?_ (st_same_append key m1 m2)
    have : StE key (u2 ++ v1) (v1 ++ u2) := st_same_swap key (fun x hx y hy => by have := h21 y hy x hx; omega)
    have h := st_same_append key (st_same_append key (st_same_refl key u1) this) (st_same_refl key v2)
    simpa [List.append_assoc] using h
end
section
variable {α : Type} [Inhabited α]
theorem st_get {d : Array α} {A C : List α} {x : α} (h : d.toList = A ++ x :: C) : d[A.length]! = x := by
  obtain ⟨l⟩ := d
  simp only at h
  subst h
  simp
theorem st_swp {d : Array α} {A B C : List α} {x y : α} (h : d.toList = A ++ x :: (B ++ y :: C)) : (Go.Sort.swp d A.length (A.length + 1 + B.length)).toList = A ++ y :: (B ++ x :: C) := by
  have e1 : d[A.length]! = x := st_get h
  have e2 : d[A.length + 1 + B.length]! = y := by
    have h' : d.toList = (A ++ x :: B) ++ y :: C := by rw [h]; simp
    have := st_get h'
    rw [show (A ++ x :: B).length = A.length + 1 + B.length by simp; omega] at this
    exact this
  unfold Go.Sort.swp
  rw [e1, e2, Array.toList_setIfInBounds, Array.toList_setIfInBounds, h]
  have s1 : (A ++ x :: (B ++ y :: C)).set A.length y = A ++ y :: (B ++ y :: C) := by simp
  rw [s1]
  have s2 : (A ++ y :: (B ++ y :: C)).set (A.length + 1 + B.length) x = A ++ y :: (B ++ x :: C) := by
    rw [show A ++ y :: (B ++ y :: C) = (A ++ y :: B) ++ y :: C by simp, show A.length + 1 + B.length = (A ++ y :: B).length by simp; omega]
    simp
  exact s2

theorem st_swp' {d : Array α} {A B C : List α} {x y : α} (h : d.toList = A ++ x :: (B ++ y :: C)) : (Go.Sort.swp d (A.length + 1 + B.length) A.length).toList = A ++ y :: (B ++ x :: C) := by
  have e1 : d[A.length]! = x := st_get h
  have e2 : d[A.length + 1 + B.length]! = y := by
    have h' : d.toList = (A ++ x :: B) ++ y :: C := by rw [h]; simp
    have := st_get h'
    rw [show (A ++ x :: B).length = A.length + 1 + B.length by simp; omega] at this
    exact this
  unfold Go.Sort.swp
  rw [e1, e2, Array.toList_setIfInBounds, Array.toList_setIfInBounds, h]
  have s2 : (A ++ x :: (B ++ y :: C)).set (A.length + 1 + B.length) x = A ++ x :: (B ++ x :: C) := by
    rw [show A ++ x :: (B ++ y :: C) = (A ++ x :: B) ++ y :: C by simp, show A.length + 1 + B.length = (A ++ x :: B).length by simp; omega]
    simp
  rw [s2]
  simp
def stRng (A U M V C : List α) (i : Nat) : List α := A ++ (V.take i ++ (U.drop i ++ (M ++ (U.take i ++ (V.drop i ++ C)))))
theorem st_rng_start (A U M V C : List α) : stRng A U M V C 0 = A ++ (U ++ (M ++ (V ++ C))) := by simp [stRng]
theorem st_rng_end (A U M V C : List α) (n : Nat) (hU : U.length = n) (hV : V.length = n) : stRng A U M V C n = A ++ (V ++ (M ++ (U ++ C))) := by
  unfold stRng
  rw [List.take_of_length_le (by omega), List.take_of_length_le (by omega), List.drop_of_length_le (by omega), List.drop_of_length_le (by omega)]
  simp
theorem st_range_step (A U M V C : List α) (hn : U.length = V.length) (i : Nat) (hi : i < U.length) (d : Array α) (h : d.toList = stRng A U M V C i) : (Go.Sort.swp d (A.length + i) (A.length + U.length + M.length + i)).toList = stRng A U M V C (i + 1) := by
  have hj : i < V.length := by omega
  unfold stRng at h ⊢
  rw [List.drop_eq_getElem_cons hi, List.drop_eq_getElem_cons hj] at h
  have h1 : d.toList = (A ++ V.take i) ++ U[i] :: ((U.drop (i + 1) ++ (M ++ U.take i)) ++ V[i] :: (V.drop (i + 1) ++ C)) := by rw [h]; simp only [List.append_assoc, List.cons_append]
  have h2 := st_swp h1
  rw [show (A ++ V.take i).length = A.length + i by simp; omega, show A.length + i + 1 + (U.drop (i + 1) ++ (M ++ U.take i)).length = A.length + U.length + M.length + i by simp; omega] at h2
  rw [h2, List.take_succ_eq_append_getElem hi, List.take_succ_eq_append_getElem hj]
  simp only [List.append_assoc, List.cons_append, List.nil_append]
theorem st_size {d : Array α} {l : List α} (h : d.toList = l) : d.size = l.length := by rw [← h, Array.length_toList]
end
section
variable {α : Type} (key : α → Int)
theorem st_sub {l l' : List α} (h : StS key l) (hs : l'.Sublist l) : StS key l' := List.Pairwise.sublist hs h
theorem st_left {u v : List α} (h : StS key (u ++ v)) : StS key u := (List.pairwise_append.1 h).1
theorem st_right {u v : List α} (h : StS key (u ++ v)) : StS key v := (List.pairwise_append.1 h).2.1
theorem st_between {u v : List α} (h : StS key (u ++ v)) : ∀ x ∈ u, ∀ y ∈ v, key x ≤ key y := (List.pairwise_append.1 h).2.2
theorem st_getle {v : List α} (h : StS key v) {i j : Nat} {x y : α} (hi : v[i]? = some x) (hj : v[j]? = some y) (hij : i ≤ j) : key x ≤ key y := by
  obtain ⟨h1, rfl⟩ := List.getElem?_eq_some_iff.1 hi
  obtain ⟨h2, rfl⟩ := List.getElem?_eq_some_iff.1 hj
  rcases Nat.lt_or_ge i j with c | c
  · exact List.pairwise_iff_getElem.1 h i j h1 h2 c
  · obtain rfl : i = j := by omega
    exact Int.le_refl _
theorem st_lo {v : List α} (h : StS key v) (P : Int → Prop) (down : ∀ a b, a ≤ b → P b → P a) {i : Nat} (hb : i = 0 ∨ ∃ y, v[i - 1]? = some y ∧ P (key y)) : ∀ x ∈ v.take i, P (key x) := by
  intro x hx
  obtain ⟨t, ht, rfl⟩ := List.mem_iff_getElem.1 hx
  rw [List.length_take] at ht
  rcases hb with rfl | ⟨y, hy, hp⟩
  · omega
  · rw [List.getElem_take]
    exact down _ _ (st_getle key h (List.getElem?_eq_getElem (by omega)) hy (by omega)) hp
theorem st_hi {v : List α} (h : StS key v) (P : Int → Prop) (up : ∀ a b, a ≤ b → P a → P b) {j : Nat} (hb : v.length ≤ j ∨ ∃ y, v[j]? = some y ∧ P (key y)) : ∀ x ∈ v.drop j, P (key x) := by
  intro x hx
  obtain ⟨t, ht, rfl⟩ := List.mem_iff_getElem.1 hx
  rw [List.length_drop] at ht
  rcases hb with hb | ⟨y, hy, hp⟩
  · omega
  · rw [List.getElem_drop]
    exact up _ _ (st_getle key h hy (List.getElem?_eq_getElem (by omega)) (by omega)) hp
/-- One element led into a sorted list from its left; from its right. -/
theorem st_insL {v1 v2 : List α} {x : α} (h : StS key (v1 ++ v2)) (h1 : ∀ y ∈ v1, key y < key x) (h2 : ∀ y ∈ v2, key x ≤ key y) : StS key (v1 ++ x :: v2) ∧ StE key ([x] ++ (v1 ++ v2)) (v1 ++ x :: v2) := by
  constructor
  · refine List.pairwise_append.2 ⟨st_left key h, List.pairwise_cons.2 ⟨h2, st_right key h⟩, fun a ha b hb => ?_⟩
    rcases List.mem_cons.1 hb with rfl | hb
    · exact Int.le_of_lt (h1 a ha)
    · exact st_between key h a ha b hb
  · have e := st_same_append key (st_same_swap key (u := [x]) (v := v1) (fun a ha b hb => by rw [List.mem_singleton] at ha; subst ha; have := h1 b hb; omega)) (st_same_refl key v2)
    simpa [List.append_assoc] using e
theorem st_insR {u1 u2 : List α} {y : α} (h : StS key (u1 ++ u2)) (h1 : ∀ x ∈ u1, key x ≤ key y) (h2 : ∀ x ∈ u2, key y < key x) : StS key (u1 ++ y :: u2) ∧ StE key ((u1 ++ u2) ++ [y]) (u1 ++ y :: u2) := by
  constructor
  · refine List.pairwise_append.2 ⟨st_left key h, List.pairwise_cons.2 ⟨fun b hb => Int.le_of_lt (h2 b hb), st_right key h⟩, fun a ha b hb => ?_⟩
    rcases List.mem_cons.1 hb with rfl | hb
    · exact h1 a ha
    · exact st_between key h a ha b hb
  · have e := st_same_append key (st_same_refl key u1) (st_same_swap key (u := u2) (v := [y]) (fun a ha b hb => by rw [List.mem_singleton] at hb; subst hb; have := h2 a ha; omega))
    simpa [List.append_assoc] using e
/-- Sorted in blocks of bs. -/
def StB (bs : Nat) (l : List α) : Prop := ∀ q, StS key ((l.drop (q * bs)).take bs)
theorem st_blocks_whole {bs : Nat} {l : List α} (h : StB key bs l) (hl : l.length ≤ bs) : StS key l := by
  have := h 0
  rwa [Nat.zero_mul, List.drop_zero, List.take_of_length_le hl] at this
theorem st_blocks_drop {bs : Nat} {l : List α} (h : StB key bs l) (t : Nat) : StB key bs (l.drop (t * bs)) := by
  intro q
  rw [List.drop_drop, ← Nat.add_mul]
  exact h _
theorem st_blocks_add {bs t : Nat} {D r : List α} (h : StB key bs D) (hD : D.length = t * bs) (hr : StS key r) (hl : r.length ≤ bs) : StB key bs (D ++ r) := by
  intro q
  rcases Nat.lt_trichotomy q t with c | c | c
  · have h1 : q * bs + bs ≤ t * bs := by
      have := Nat.mul_le_mul_right bs (show q + 1 ≤ t from c)
      rwa [Nat.add_mul, Nat.one_mul] at this
    have := h q
    rw [List.drop_append_of_le_length (by omega), List.take_append_of_le_length (by rw [List.length_drop]; omega)]
    exact this
  · subst c
    rw [← hD, List.drop_left, List.take_of_length_le hl]
    exact hr
  · have h1 : t * bs + bs ≤ q * bs := by
      have := Nat.mul_le_mul_right bs (show t + 1 ≤ q from c)
      rwa [Nat.add_mul, Nat.one_mul] at this
    rw [List.drop_of_length_le (by rw [List.length_append]; omega), List.take_nil]
    exact List.Pairwise.nil
theorem st_blocks_nil (bs : Nat) : StB key bs [] := fun q => by rw [List.drop_nil, List.take_nil]; exact List.Pairwise.nil
theorem st_blocks_two {bs : Nat} {l : List α} (h : StB key bs l) : StS key (l.take bs) ∧ StS key ((l.drop bs).take bs) := by
  have h0 := h 0
  have h1 := h 1
  rw [Nat.zero_mul, List.drop_zero] at h0
  rw [Nat.one_mul] at h1
  exact ⟨h0, h1⟩
theorem st_cut (l : List α) (a b : Nat) (h : a ≤ b) : l = l.take a ++ ((l.drop a).take (b - a) ++ l.drop b) := by
  have : l.drop a = (l.drop a).take (b - a) ++ l.drop b := by
    conv => lhs; rw [← List.take_append_drop (b - a) (l.drop a)]
    rw [List.drop_drop, show a + (b - a) = b by omega]
  conv => lhs; rw [← List.take_append_drop a l, this]
end
/-! More on stable merging, in plain Lean: what a binary search's two ends say of the parts. -/
section
variable {α : Type} [Inhabited α] (key : α → Int)
omit [Inhabited α] in
theorem st_split {U V : List α} (hU : StS key U) (hV : StS key V) (s e : Nat)
    (h1 : s = 0 ∨ V.length ≤ e ∨ ∃ u v, U[s - 1]? = some u ∧ V[e]? = some v ∧ key u ≤ key v)
    (h2 : e = 0 ∨ U.length ≤ s ∨ ∃ u v, V[e - 1]? = some v ∧ U[s]? = some u ∧ key v < key u) :
    (∀ x ∈ U.take s, ∀ y ∈ V.drop e, key x ≤ key y) ∧ (∀ y ∈ V.take e, ∀ x ∈ U.drop s, key y < key x) := by
  constructor
  · intro x hx y hy
    rcases h1 with h | h | ⟨u, v, hu, hv, huv⟩
    · rw [h] at hx; simp at hx
    · rw [List.drop_of_length_le h] at hy; simp at hy
    · have e1 := st_lo key hU (fun z => z ≤ key u) (fun _ _ p q => Int.le_trans p q) (i := s) (Or.inr ⟨u, hu, Int.le_refl _⟩) x hx
      have e2 := st_hi key hV (fun z => key v ≤ z) (fun _ _ p q => Int.le_trans q p) (j := e) (Or.inr ⟨v, hv, Int.le_refl _⟩) y hy
      exact Int.le_trans e1 (Int.le_trans huv e2)
  · intro y hy x hx
    rcases h2 with h | h | ⟨u, v, hv, hu, huv⟩
    · rw [h] at hy; simp at hy
    · rw [List.drop_of_length_le h] at hx; simp at hx
    · have e1 := st_lo key hV (fun z => z ≤ key v) (fun _ _ p q => Int.le_trans p q) (i := e) (Or.inr ⟨v, hv, Int.le_refl _⟩) y hy
      have e2 := st_hi key hU (fun z => key u ≤ z) (fun _ _ p q => Int.le_trans q p) (j := s) (Or.inr ⟨u, hu, Int.le_refl _⟩) x hx
      exact Int.lt_of_le_of_lt e1 (Int.lt_of_lt_of_le huv e2)
theorem st_at {d : Array α} {A B C : List α} (h : d.toList = A ++ (B ++ C)) {a : Nat} (ha : A.length = a) (i : Nat) (hi : a ≤ i) (hi2 : i < a + B.length) : B[i - a]? = some d[i]! := by
  have e : d[i]! = d.toList[i]! := by rw [Array.getElem!_toList]
  rw [e, h, List.getElem!_eq_getElem?_getD, List.getElem?_append_right (by omega), List.getElem?_append_left (by omega), ha, List.getElem?_eq_getElem (by omega)]
  rfl
end
section
open Go.Shelf Go.Lib Go.Sort Go.Proofs
variable {α : Type} [Inhabited α]
theorem sw_agg (w : World) : (isAgg 97).run Try.prog w = .ok true w := by kernel_rfl
set_option maxHeartbeats 8000000 in
set_option maxRecDepth 1000000 in
/-- swapRangeCmpFunc: two runs of n elements change places. -/
theorem sw_swapRange (k : Nat) (zE : ∀ w, (Go.sizeOf 97).run Try.prog w = .ok k w) (enc : α → List Value) (g : Nat) (cb : Array Value) (blk cap N : Nat) (d0 d : Array α) (w0 w : World) (R : RowK enc k w0 blk 0 d0) (hs : d0.size = N) (hN : d.size = N) (S : SWK enc k w0 blk 0 d w) (hsz : N < 4611686018427387904) (A U M V C : List α) (a b n : Nat) (hl : d.toList = A ++ (U ++ (M ++ (V ++ C)))) (hA : A.length = a) (hU : U.length = n) (hV : V.length = n) (hM : a + n + M.length = b) :
    Calls Try.prog 149 #[.slice (some ⟨blk, 0, none⟩) N cap, .int .i64 a, .int .i64 b, .int .i64 n, .func (.func g) #[] cb] w fun e w' => e = .returned (.tuple #[]) ∧ ∃ d', SWK enc k w0 blk 0 d' w' ∧ d'.toList = A ++ (V ++ (M ++ (U ++ C))) := by
  have aE := sw_agg
  have hle : d.size = A.length + U.length + M.length + V.length + C.length := by rw [st_size hl]; simp; omega
  have HL := Aside0.mk hl
  have HLEN := Aside0.mk (And.intro hA (And.intro hU (And.intro hV hM)))
  have S0 := Aside0.mk S
  have hb : b + n ≤ N := by omega
  have hab : a + n ≤ b := by omega
  clear S hl hA hU hV hM hle
  go_enter Try.func149, Try.ntmps149
  go_wp2
  go_loopg [10] n (fun kx s10 wr => ∃ (i : Nat) (dk : Array α), s10 = .int .i64 i ∧ Aside0 (i ≤ n) ∧ Aside0 (n - i ≤ kx) ∧ dk.size = N ∧ Aside0 (SWK enc k w0 blk 0 dk wr) ∧ Aside0 (dk.toList = stRng A U M V C i))
  case atStart => exact ⟨0, d, rfl, ⟨Nat.zero_le _⟩, ⟨by omega⟩, hN, S0, ⟨by rw [st_rng_start]; exact HL.out⟩⟩
  case round =>
    clear S0
    obtain ⟨i, dk, rfl, HI, HK, hds, S1, HD⟩ := hrel
    by_cases hlt : i < n
    · have hltz : decide ((i : Int) < (n : Int)) = true := decide_eq_true (by omega)
      go_wp2_with fail
      have ek1a : ((a : Int) + (i : Int)).toNat = a + i := by omega
      have pk1a : (0 : Int) ≤ (a : Int) + (i : Int) := by omega
      have bk1a : (a : Int) + (i : Int) < (N : Int) := by omega
      have rk1a : IntKind.i64.wrap ((a : Int) + (i : Int)) = (a : Int) + (i : Int) := by rw [IntKind.wrap_i64]; omega
      have ek1c : ((b : Int) + (i : Int)).toNat = b + i := by omega
      have pk1c : (0 : Int) ≤ (b : Int) + (i : Int) := by omega
      have bk1c : (b : Int) + (i : Int) < (N : Int) := by omega
      have rk1c : IntKind.i64.wrap ((b : Int) + (i : Int)) = (b : Int) + (i : Int) := by rw [IntKind.wrap_i64]; omega
      have S2 : Aside0 (SWK enc k w0 blk 0 (swp dk (a + i) (b + i)) ((wr.drew.setCells blk (0 + (a + i) * k) (enc dk[b + i]!)).setCells blk (0 + (b + i) * k) (enc dk[a + i]!))) := ⟨S1.out.swapped R (a + i) (b + i) (by omega) (by omega)⟩
      have lk1a := S1.out.ld1 R (by omega) Try.prog (a + i) (by omega)
      have lk1b := S1.out.ld1 R (by omega) Try.prog (b + i) (by omega)
      have sk1a := S1.out.st1 R (by omega) Try.prog (a + i) (by omega) dk[b + i]!
      have sk1b := S1.out.st2 R (by omega) Try.prog (a + i) (b + i) (by omega) (by omega) dk[b + i]! dk[a + i]!
      have nk1a : (enc dk[a + i]!).length = k := R.hk _
      have nk1b : (enc dk[b + i]!).length = k := R.hk _
      generalize enc dk[a + i]! = cIk1 at S2 lk1a sk1b nk1a
      generalize enc dk[b + i]! = cJk1 at S2 lk1b sk1a sk1b nk1b
      simp only [Nat.zero_add] at S2 lk1a lk1b sk1a sk1b
      clear S1
      go_wp2_with fail
      have mixed : Try.prog.follows .mixedOrders = true := by kernel_rfl
      go_big_region_o
      clear lk1a lk1b sk1a sk1b
      generalize (wr.drew.setCells blk ((a + i) * k) cJk1).setCells blk ((b + i) * k) cIk1 = w2 at S2 ⊢
      clear ek1a pk1a bk1a rk1a
      clear ek1c pk1c bk1c rk1c
      clear nk1a nk1b
      go_wp2
      go_roundg (n - (i + 1))
      case measure => have := HK.out; omega
      case rel => exact ⟨i + 1, _, by go_num, ⟨by omega⟩, ⟨Nat.le_refl _⟩, by rw [size_swp]; exact hds, S2, ⟨by have h1 := HLEN.out; have := st_range_step A U M V C (by omega) i (by omega) dk HD.out; rw [show A.length + i = a + i by omega, show A.length + U.length + M.length + i = b + i by omega] at this; exact this⟩⟩
    · have hltz : decide ((i : Int) < (n : Int)) = false := decide_eq_false (by omega)
      go_wp2
      go_end0
      have h1 := HLEN.out; have h2 := HI.out; have h3 := HD.out; have h4 : i = n := by omega
      rw [h4, st_rng_end A U M V C n (by omega) (by omega)] at h3
      exact ⟨rfl, dk, S1.out, h3⟩
set_option maxHeartbeats 8000000 in
set_option maxRecDepth 1000000 in
/-- rotateCmpFunc: two neighbouring runs change places. -/
theorem sw_rotate (k : Nat) (zE : ∀ w, (Go.sizeOf 97).run Try.prog w = .ok k w) (enc : α → List Value) (g : Nat) (cb : Array Value) (blk cap N : Nat) (d0 d : Array α) (w0 w : World) (R : RowK enc k w0 blk 0 d0) (hs : d0.size = N) (hN : d.size = N) (S : SWK enc k w0 blk 0 d w) (hsz : N < 4611686018427387904) (A U V C : List α) (a m b : Nat) (hl : d.toList = A ++ (U ++ (V ++ C))) (hA : A.length = a) (hm : a + U.length = m) (hb : m + V.length = b) (hU : 0 < U.length) (hV : 0 < V.length) :
    Calls Try.prog 143 #[.slice (some ⟨blk, 0, none⟩) N cap, .int .i64 a, .int .i64 m, .int .i64 b, .func (.func g) #[] cb] w fun e w' => e = .returned (.tuple #[]) ∧ ∃ d', SWK enc k w0 blk 0 d' w' ∧ d'.toList = A ++ (V ++ (U ++ C)) := by
  have hle : d.size = A.length + U.length + V.length + C.length := by rw [st_size hl]; simp; omega
  have HL := Aside0.mk hl
  have HLEN := Aside0.mk (And.intro hA (And.intro hm (And.intro hb (And.intro hU hV))))
  have S0 := Aside0.mk S
  have HBN : b ≤ N := by omega
  have ham : a < m := by omega
  have hmb : m < b := by omega
  clear S hl hA hm hb hU hV hle
  go_enter Try.func143, Try.ntmps143
  go_wp2
  go_loopg [10, 11] (b - a) (fun kx s10 s11 wr => ∃ (i j : Nat) (dk : Array α) (X Y Z V' : List α), s10 = .int .i64 i ∧ s11 = .int .i64 j ∧ Aside0 (0 < i ∧ 0 < j) ∧ Aside0 (i + j ≤ kx) ∧ dk.size = N ∧ Aside0 (SWK enc k w0 blk 0 dk wr) ∧ Aside0 (dk.toList = X ++ (Y ++ (V' ++ Z))) ∧ Aside0 (X ++ (V' ++ (Y ++ Z)) = A ++ (V ++ (U ++ C))) ∧ Aside0 (X.length + i = m ∧ Y.length = i ∧ V'.length = j ∧ m + j ≤ N))
  case atStart => exact ⟨m - a, b - m, d, A, U, C, V, by first | rfl | go_num | (congr 1; omega), by first | rfl | go_num | (congr 1; omega), ⟨by omega⟩, ⟨by omega⟩, hN, S0, HL, ⟨rfl⟩, ⟨by have := HLEN.out; omega⟩⟩
  case round =>
    clear S0
    obtain ⟨i, j, dk, X, Y, Z, V', rfl, rfl, HP, HK, hds, S1, HD, HT, HQ⟩ := hrel
    have hp1 : 0 < i := HP.out.1
    have hp2 : 0 < j := HP.out.2
    have him : i ≤ m := by have := HQ.out; omega
    have hjN : m + j ≤ N := HQ.out.2.2.2
    rcases Nat.lt_trichotomy i j with c | c | c
    · have n1 : ((i : Int) == (j : Int)) = false := by simp; omega
      have n2 : ((i : Int) != (j : Int)) = true := by simp; omega
      have n3 : decide ((i : Int) > (j : Int)) = false := decide_eq_false (by omega)
      have hc := sw_swapRange k zE enc g cb blk cap N d0 dk w0 wr R hs hds S1.out hsz X Y (V'.take (j - i)) (V'.drop (j - i)) Z (m - i) (m + j - i) i (by rw [← List.append_assoc (List.take (j - i) V'), List.take_append_drop, HD.out]) (by have := HQ.out; omega) HQ.out.2.1 (by rw [List.length_drop]; have := HQ.out; omega) (by rw [List.length_take]; have := HQ.out; omega)
      rw [show ((m - i : Nat) : Int) = (m : Int) - (i : Int) by omega, show ((m + j - i : Nat) : Int) = (m : Int) + (j : Int) - (i : Int) by omega] at hc
      have HC1 := Aside0.mk hc
      clear hc S1
      go_wp2_with fail
      refine HC1.out.mono ?_
      rintro e w2 ⟨rfl, d2, hS2, hd2⟩
      have S2 := Aside0.mk hS2
      have HD2 := Aside0.mk hd2
      clear hS2 hd2 HC1
      go_wp2
      go_roundg (i + (j - i))
      case measure => have := HK.out; omega
      case rel =>
        have h1 := HQ.out
        refine ⟨i, j - i, d2, X, V'.drop (j - i), Y ++ Z, V'.take (j - i), rfl, by first | rfl | go_num | (congr 1; omega), ⟨by omega⟩, ⟨Nat.le_refl _⟩, ?_, S2, ⟨HD2.out⟩, ⟨?_⟩, ⟨by rw [List.length_drop, List.length_take]; omega⟩⟩
        · have e1 := st_size HD2.out
          have e2 := st_size HD.out
          rw [e1, ← hds, e2]
          simp only [List.length_append, List.length_drop, List.length_take]
          omega
        · rw [← HT.out, ← List.append_assoc (List.take (j - i) V'), List.take_append_drop]
    · have n1 : ((i : Int) == (j : Int)) = true := by simp; omega
      have n2 : ((i : Int) != (j : Int)) = false := by simp; omega
      subst c
      have hc := sw_swapRange k zE enc g cb blk cap N d0 dk w0 wr R hs hds S1.out hsz X Y [] V' Z (m - i) m i HD.out (by have := HQ.out; omega) HQ.out.2.1 HQ.out.2.2.1 (by simp; omega)
      rw [show ((m - i : Nat) : Int) = (m : Int) - (i : Int) by omega] at hc
      have HC1 := Aside0.mk hc
      clear hc S1
      go_wp2_with fail
      refine HC1.out.mono ?_
      rintro e w2 ⟨rfl, d2, hS2, hd2⟩
      go_wp2
      go_end0
      exact ⟨rfl, d2, hS2, by rw [hd2, ← HT.out]; rfl⟩
    · have n1 : ((i : Int) == (j : Int)) = false := by simp; omega
      have n2 : ((i : Int) != (j : Int)) = true := by simp; omega
      have n3 : decide ((i : Int) > (j : Int)) = true := decide_eq_true (by omega)
      have n4 : (j : Int) < (i : Int) := by omega
      have hc := sw_swapRange k zE enc g cb blk cap N d0 dk w0 wr R hs hds S1.out hsz X (Y.take j) (Y.drop j) V' Z (m - i) m j (by rw [← List.append_assoc (List.take j Y), List.take_append_drop, HD.out]) (by have := HQ.out; omega) (by rw [List.length_take]; have := HQ.out; omega) HQ.out.2.2.1 (by rw [List.length_drop]; have := HQ.out; omega)
      rw [show ((m - i : Nat) : Int) = (m : Int) - (i : Int) by omega] at hc
      have HC1 := Aside0.mk hc
      clear hc S1
      go_wp2_with fail
      refine HC1.out.mono ?_
      rintro e w2 ⟨rfl, d2, hS2, hd2⟩
      have S2 := Aside0.mk hS2
      have HD2 := Aside0.mk hd2
      clear hS2 hd2 HC1
      go_wp2
      go_roundg (i - j + j)
      case measure => have := HK.out; omega
      case rel =>
        have h1 := HQ.out
        refine ⟨i - j, j, d2, X ++ V', Y.drop j, Z, Y.take j, by first | rfl | go_num | (congr 1; omega), rfl, ⟨by omega⟩, ⟨Nat.le_refl _⟩, ?_, S2, ⟨by rw [HD2.out]; simp only [List.append_assoc]⟩, ⟨?_⟩, ⟨by rw [List.length_drop, List.length_take, List.length_append]; omega⟩⟩
        · have e1 := st_size HD2.out
          have e2 := st_size HD.out
          rw [e1, ← hds, e2]
          simp only [List.length_append, List.length_drop, List.length_take]
          omega
        · rw [← HT.out, ← List.append_assoc (List.take j Y), List.take_append_drop]
          simp only [List.append_assoc]
set_option maxHeartbeats 8000000 in
set_option maxRecDepth 1000000 in
/-- insertionSortCmpFunc: a run is sorted, stable. -/
theorem sw_insertion (k : Nat) (zE : ∀ w, (Go.sizeOf 97).run Try.prog w = .ok k w) (enc : α → List Value) (g : Nat) (cb : Array Value) (blk cap N : Nat) (d0 d : Array α) (w0 w : World) (R : RowK enc k w0 blk 0 d0) (hs : d0.size = N) (hN : d.size = N) (S : SWK enc k w0 blk 0 d w) (hsz : N < 4611686018427387904) (cf : α → α → Int) (hcmp : CmpLays Try.prog g cb enc k cf blk 0 N w0) (eg : ∀ args w, (callFunc g args).run Try.prog w = .ok (.enter g args) w) (key : α → Int) (hkey : ∀ x y, cf x y < 0 ↔ key x < key y) (A U C : List α) (a b : Nat) (hl : d.toList = A ++ (U ++ C)) (hA : A.length = a) (hb : a + U.length = b) :
    Calls Try.prog 127 #[.slice (some ⟨blk, 0, none⟩) N cap, .int .i64 a, .int .i64 b, .func (.func g) #[] cb] w fun e w' => e = .returned (.tuple #[]) ∧ ∃ d' U', SWK enc k w0 blk 0 d' w' ∧ d'.toList = A ++ (U' ++ C) ∧ StS key U' ∧ StE key U U' := by
  have aE := sw_agg
  have mixed : Try.prog.follows .mixedOrders = true := by kernel_rfl
  have hle : d.size = A.length + U.length + C.length := by rw [st_size hl]; simp; omega
  have HL := Aside0.mk hl
  have HLEN := Aside0.mk (And.intro hA hb)
  have HC := Aside0.mk hcmp
  have HKEY := Aside0.mk hkey
  have S0 := Aside0.mk S
  have HBN : b ≤ N := by omega
  have hab : a ≤ b := by omega
  clear S hl hA hb hle hcmp hkey
  go_enter Try.func127, Try.ntmps127
  go_wp2
  go_loopg [8] (b - a) (fun kx s8 wr => ∃ (i : Nat) (dk : Array α) (X Q : List α), s8 = .int .i64 i ∧ Aside0 (a < i ∧ i ≤ b + 1 ∧ b - i ≤ kx) ∧ dk.size = N ∧ Aside0 (SWK enc k w0 blk 0 dk wr) ∧ Aside0 (dk.toList = A ++ (X ++ (Q ++ C))) ∧ Aside0 (StS key X ∧ StE key U (X ++ Q) ∧ X.length + Q.length = U.length ∧ a + X.length = min i b))
  case atStart =>
    have h1 := HLEN.out
    exact ⟨a + 1, d, U.take 1, U.drop 1, by go_num, ⟨by omega⟩, hN, S0, ⟨by rw [← List.append_assoc (List.take 1 U), List.take_append_drop, HL.out]⟩, ⟨by cases U <;> simp [StS], by rw [List.take_append_drop]; exact st_same_refl key _, by rw [List.length_take, List.length_drop]; omega, by rw [List.length_take]; omega⟩⟩
  case round =>
    clear S0
    obtain ⟨i, dk, X, Q, rfl, HI, hds, S1, HD, HX⟩ := hrel
    have hai : a < i := HI.out.1
    by_cases hlt : i < b
    · have hltz : decide ((i : Int) < (b : Int)) = true := decide_eq_true (by omega)
      have hq : ∃ q Q', Q = q :: Q' := by
        have h1 := HX.out.2.2; have h2 := HLEN.out
        cases Q with
        | nil => simp at h1; omega
        | cons q Q' => exact ⟨q, Q', rfl⟩
      obtain ⟨q, Q', rfl⟩ := hq
      have hXl : a + X.length = i := by have h1 := HX.out.2.2; omega
      have HXL := Aside0.mk hXl
      clear hXl
      go_wp2
      go_loopg [9] i (fun ky s9 wr2 => ∃ (j : Nat) (dj : Array α) (X1 X2 : List α), s9 = .int .i64 j ∧ Aside0 (j ≤ ky) ∧ dj.size = N ∧ Aside0 (SWK enc k w0 blk 0 dj wr2) ∧ Aside0 (dj.toList = A ++ (X1 ++ (q :: (X2 ++ (Q' ++ C))))) ∧ Aside0 (X = X1 ++ X2 ∧ (∀ y ∈ X2, key q < key y)) ∧ Aside0 (j = a + X1.length ∧ j ≤ i))
      case atStart => exact ⟨i, dk, X, [], rfl, ⟨Nat.le_refl _⟩, hds, S1, ⟨HD.out⟩, ⟨by simp, by simp⟩, ⟨by have := HXL.out; omega, Nat.le_refl _⟩⟩
      case round =>
        clear S1
        obtain ⟨j, dj, X1, X2, rfl, HJ, hjs, S1, HDJ, HXX, HJX⟩ := hrel
        have OUT : (∀ x ∈ X1, key x ≤ key q) → Aside0 (StS key (X1 ++ q :: X2) ∧ StE key U ((X1 ++ q :: X2) ++ Q') ∧ (X1 ++ q :: X2).length + Q'.length = U.length ∧ a + (X1 ++ q :: X2).length = min (i + 1) b) := fun h => by
          have e := HXX.out.1
          have h2 := HX.out
          rw [e] at h2
          have h3 := st_insR key h2.1 h HXX.out.2
          refine ⟨h3.1, ?_, ?_, ?_⟩
          · refine st_same_trans key h2.2.1 ?_
            have := st_same_append key h3.2 (st_same_refl key Q')
            simpa [List.append_assoc] using this
          · have := h2.2.2.1
            simp only [List.length_append, List.length_cons] at this ⊢
            omega
          · have := h2.2.2.2
            simp only [List.length_append, List.length_cons] at this ⊢
            omega
        have OUT0 := Aside0.mk OUT
        clear OUT
        by_cases hja : a < j
        · have hjaz : decide ((j : Int) > (a : Int)) = true := decide_eq_true (by omega)
          have hjaz' : (a : Int) < (j : Int) := by omega
          have hx1 : ∃ X0 p, X1 = X0 ++ [p] := by
            have h1 := HJX.out
            rcases List.eq_nil_or_concat X1 with h | ⟨X0, p, h⟩
            · rw [h] at h1; simp at h1; omega
            · exact ⟨X0, p, by rw [h, List.concat_eq_append]⟩
          obtain ⟨X0, p, rfl⟩ := hx1
          obtain ⟨jp, hjp⟩ : ∃ jp, jp = a + X0.length := ⟨_, rfl⟩
          have ej : j = jp + 1 := by have h1 := HJX.out.1; simp at h1; omega
          subst ej
          have hjN : jp + 1 < N := by have h1 := HJX.out.2; omega
          clear hjaz hjaz'
          have hjaz : (a : Int) < (jp : Int) + 1 := by omega
          have hjaz2 : decide ((a : Int) < (jp : Int) + 1) = true := decide_eq_true (by omega)
          have gX : Aside0 (dj[jp + 1]! = q) := ⟨by
            have h1 := HDJ.out
            have := st_get (d := dj) (A := A ++ (X0 ++ [p])) (x := q) (C := X2 ++ (Q' ++ C)) (by rw [h1]; simp)
            have e : (A ++ (X0 ++ [p])).length = jp + 1 := by have h2 := HLEN.out.1; simp; omega
            rwa [e] at this⟩
          have gY : Aside0 (dj[jp]! = p) := ⟨by
            have h1 := HDJ.out
            have := st_get (d := dj) (A := A ++ X0) (x := p) (C := q :: (X2 ++ (Q' ++ C))) (by rw [h1]; simp)
            have e : (A ++ X0).length = jp := by have h2 := HLEN.out.1; simp; omega
            rwa [e] at this⟩
          have HJP := Aside0.mk hjp
          clear hjp
          by_cases hvv : key q < key p
          · have hv := Aside0.mk hvv
            clear hvv
            have ec2a : ((jp : Int) + 1).toNat = jp + 1 := by omega
            have pc2a : (0 : Int) ≤ (jp : Int) + 1 := by omega
            have bc2a : (jp : Int) + 1 < (N : Int) := by omega
            have rc2a : IntKind.i64.wrap ((jp : Int) + 1) = (jp : Int) + 1 := by rw [IntKind.wrap_i64]; omega
            have ec2c : ((jp : Int)).toNat = jp := by omega
            have pc2c : (0 : Int) ≤ (jp : Int) := by omega
            have bc2c : (jp : Int) < (N : Int) := by omega
            have rc2c : IntKind.i64.wrap ((jp : Int)) = (jp : Int) := by rw [IntKind.wrap_i64]; omega
            have lc2a := S1.out.ld R (by omega) Try.prog (jp + 1) (by omega)
            have lc2b := S1.out.ld R (by omega) Try.prog (jp) (by omega)
            rw [gX.out] at lc2a
            rw [gY.out] at lc2b
            simp only [Nat.zero_add] at lc2a lc2b
            have hcc2 := S1.out.cmp HC.out (by omega) (q) (p)
            have hdc2 : decide (cf (q) (p) < 0) = true := decide_eq_true ((HKEY.out _ _).2 hv.out)
            have hxc2 : cf (q) (p) < 0 := of_decide_eq_true hdc2
            go_wp2_with fail
            go_quiet_grown (first | (go_at_fn g; refine Calls.grown_of (hcc2 _ _)))
            have S2 := Aside0.mk (S1.out.grown nq osq)
            clear lc2a lc2b hcc2 hdc2 hxc2 S1
            clear ec2a pc2a bc2a rc2a
            clear ec2c pc2c bc2c rc2c
            generalize grow (wr.drewN nq) osq = w2 at S2 ⊢
            clear nq osq
            go_wp2_with fail
            have ek3a : ((jp : Int) + 1).toNat = jp + 1 := by omega
            have pk3a : (0 : Int) ≤ (jp : Int) + 1 := by omega
            have bk3a : (jp : Int) + 1 < (N : Int) := by omega
            have rk3a : IntKind.i64.wrap ((jp : Int) + 1) = (jp : Int) + 1 := by rw [IntKind.wrap_i64]; omega
            have ek3c : ((jp : Int)).toNat = jp := by omega
            have pk3c : (0 : Int) ≤ (jp : Int) := by omega
            have bk3c : (jp : Int) < (N : Int) := by omega
            have rk3c : IntKind.i64.wrap ((jp : Int)) = (jp : Int) := by rw [IntKind.wrap_i64]; omega
            have S3 : Aside0 (SWK enc k w0 blk 0 (swp dj (jp + 1) (jp)) ((w2.drew.setCells blk (0 + (jp + 1) * k) (enc dj[jp]!)).setCells blk (0 + (jp) * k) (enc dj[jp + 1]!))) := ⟨S2.out.swapped R (jp + 1) (jp) (by omega) (by omega)⟩
            have lk3a := S2.out.ld1 R (by omega) Try.prog (jp + 1) (by omega)
            have lk3b := S2.out.ld1 R (by omega) Try.prog (jp) (by omega)
            have sk3a := S2.out.st1 R (by omega) Try.prog (jp + 1) (by omega) dj[jp]!
            have sk3b := S2.out.st2 R (by omega) Try.prog (jp + 1) (jp) (by omega) (by omega) dj[jp]! dj[jp + 1]!
            have nk3a : (enc dj[jp + 1]!).length = k := R.hk _
            have nk3b : (enc dj[jp]!).length = k := R.hk _
            generalize enc dj[jp + 1]! = cIk3 at S3 lk3a sk3b nk3a
            generalize enc dj[jp]! = cJk3 at S3 lk3b sk3a sk3b nk3b
            simp only [Nat.zero_add] at S3 lk3a lk3b sk3a sk3b
            clear S2
            go_wp2_with fail
            have mixed : Try.prog.follows .mixedOrders = true := by kernel_rfl
            go_big_region_o
            clear lk3a lk3b sk3a sk3b
            generalize (w2.drew.setCells blk ((jp + 1) * k) cJk3).setCells blk ((jp) * k) cIk3 = w3 at S3 ⊢
            clear ek3a pk3a bk3a rk3a
            clear ek3c pk3c bk3c rk3c
            clear nk3a nk3b
            all_goals go_wp2
            go_roundg jp
            case measure => have := HJ.out; omega
            case rel =>
              refine ⟨jp, _, X0, p :: X2, by first | rfl | go_num | (congr 1; omega), ⟨Nat.le_refl _⟩, by rw [size_swp]; exact hjs, S3, ⟨?_⟩, ⟨?_, ?_⟩, ⟨?_⟩⟩
              · have h1 := HDJ.out
                have := st_swp' (d := dj) (A := A ++ X0) (B := []) (x := p) (y := q) (C := X2 ++ (Q' ++ C)) (by rw [h1]; simp)
                have e : (A ++ X0).length = jp := by have h2 := HLEN.out.1; have := HJP.out; simp; omega
                rw [e] at this
                simpa using this
              · rw [HXX.out.1]; simp
              · intro y hy
                rcases List.mem_cons.1 hy with h | h
                · rw [h]; exact hv.out
                · exact HXX.out.2 y h
              · have := HJP.out; have h2 := HJX.out.2; exact ⟨by omega, by omega⟩
          · have hv := Aside0.mk hvv
            clear hvv
            have ec4a : ((jp : Int) + 1).toNat = jp + 1 := by omega
            have pc4a : (0 : Int) ≤ (jp : Int) + 1 := by omega
            have bc4a : (jp : Int) + 1 < (N : Int) := by omega
            have rc4a : IntKind.i64.wrap ((jp : Int) + 1) = (jp : Int) + 1 := by rw [IntKind.wrap_i64]; omega
            have ec4c : ((jp : Int)).toNat = jp := by omega
            have pc4c : (0 : Int) ≤ (jp : Int) := by omega
            have bc4c : (jp : Int) < (N : Int) := by omega
            have rc4c : IntKind.i64.wrap ((jp : Int)) = (jp : Int) := by rw [IntKind.wrap_i64]; omega
            have lc4a := S1.out.ld R (by omega) Try.prog (jp + 1) (by omega)
            have lc4b := S1.out.ld R (by omega) Try.prog (jp) (by omega)
            rw [gX.out] at lc4a
            rw [gY.out] at lc4b
            simp only [Nat.zero_add] at lc4a lc4b
            have hcc4 := S1.out.cmp HC.out (by omega) (q) (p)
            have hdc4 : decide (cf (q) (p) < 0) = false := decide_eq_false (fun h => hv.out ((HKEY.out _ _).1 h))
            have hxc4 : ¬ cf (q) (p) < 0 := of_decide_eq_false hdc4
            go_wp2_with fail
            go_quiet_grown (first | (go_at_fn g; refine Calls.grown_of (hcc4 _ _)))
            have S2 := Aside0.mk (S1.out.grown nq osq)
            clear lc4a lc4b hcc4 hdc4 hxc4 S1
            clear ec4a pc4a bc4a rc4a
            clear ec4c pc4c bc4c rc4c
            generalize grow (wr.drewN nq) osq = w2 at S2 ⊢
            clear nq osq
            go_wp2
            go_roundg (b - (i + 1))
            case measure => have := HI.out; omega
            case rel =>
              refine ⟨i + 1, dj, _, Q', by go_num, ⟨by omega⟩, hjs, S2, ⟨by rw [HDJ.out]; simp⟩, OUT0.out ?_⟩
              have h2 := HX.out.1
              rw [HXX.out.1] at h2
              have h3 := st_left key h2
              intro x hx
              rcases List.mem_append.1 hx with h | h
              · exact Int.le_trans (st_between key h3 x h p (by simp)) (by have := hv.out; omega)
              · rw [List.mem_singleton.1 h]; have := hv.out; omega
        · have hjaz : decide ((j : Int) > (a : Int)) = false := decide_eq_false (by omega)
          have hjaz' : ¬ (a : Int) < (j : Int) := by omega
          go_wp2_with fail
          go_big_region_o
          all_goals go_wp2
          go_roundg (b - (i + 1))
          case measure => have := HI.out; omega
          case rel =>
            have hx1 : X1 = [] := List.length_eq_zero_iff.1 (by have := HJX.out; omega)
            exact ⟨i + 1, dj, _, Q', by go_num, ⟨by omega⟩, hjs, ⟨S1.out.drew⟩, ⟨by rw [HDJ.out]; simp⟩, OUT0.out (by rw [hx1]; simp)⟩
    · have hltz : decide ((i : Int) < (b : Int)) = false := decide_eq_false (by omega)
      go_wp2
      go_end0
      have h1 := HX.out
      have h2 := HLEN.out
      have hQ : Q = [] := List.length_eq_zero_iff.1 (by omega)
      rw [hQ] at h1
      exact ⟨rfl, dk, X, S1.out, by rw [HD.out, hQ]; simp, h1.1, by simpa using h1.2.1⟩
end
section
open Go.Shelf Go.Lib Go.Sort Go.Proofs
variable {α : Type} [Inhabited α]
/-- What symMergeCmpFunc does at runs of together n elements at most. -/
def SymOk (k : Nat) (enc : α → List Value) (g : Nat) (cb : Array Value) (blk cap N : Nat) (w0 : World) (key : α → Int) (n : Nat) : Prop := ∀ (d : Array α) (w : World) (_ : d.size = N) (_ : SWK enc k w0 blk 0 d w) (A U V C : List α) (a m b : Nat) (_ : d.toList = A ++ (U ++ (V ++ C))) (_ : A.length = a) (_ : a + U.length = m) (_ : m + V.length = b) (_ : 0 < U.length) (_ : 0 < V.length) (_ : StS key U) (_ : StS key V) (_ : U.length + V.length ≤ n), Calls Try.prog 128 #[.slice (some ⟨blk, 0, none⟩) N cap, .int .i64 a, .int .i64 m, .int .i64 b, .func (.func g) #[] cb] w fun e w' => e = .returned (.tuple #[]) ∧ ∃ d' L, SWK enc k w0 blk 0 d' w' ∧ d'.toList = A ++ (L ++ C) ∧ StS key L ∧ StE key (U ++ V) L
set_option maxHeartbeats 16000000 in
set_option maxRecDepth 1000000 in
theorem sw_sym1 (k : Nat) (zE : ∀ w, (Go.sizeOf 97).run Try.prog w = .ok k w) (enc : α → List Value) (g : Nat) (cb : Array Value) (blk cap N : Nat) (d0 : Array α) (w0 : World) (R : RowK enc k w0 blk 0 d0) (hs : d0.size = N) (hsz : N < 4611686018427387904) (cf : α → α → Int) (hcmp : CmpLays Try.prog g cb enc k cf blk 0 N w0) (eg : ∀ args w, (callFunc g args).run Try.prog w = .ok (.enter g args) w) (key : α → Int) (hkey : ∀ x y, cf x y < 0 ↔ key x < key y) (d : Array α) (w : World) (hN : d.size = N) (S : SWK enc k w0 blk 0 d w) (A U V C : List α) (a m b : Nat) (hl : d.toList = A ++ (U ++ (V ++ C))) (hA : A.length = a) (hm : a + U.length = m) (hb : m + V.length = b) (hU : 0 < U.length) (hV : 0 < V.length) (sU : StS key U) (sV : StS key V) (c1 : U.length = 1) : Calls Try.prog 128 #[.slice (some ⟨blk, 0, none⟩) N cap, .int .i64 a, .int .i64 m, .int .i64 b, .func (.func g) #[] cb] w fun e w' => e = .returned (.tuple #[]) ∧ ∃ d' L, SWK enc k w0 blk 0 d' w' ∧ d'.toList = A ++ (L ++ C) ∧ StS key L ∧ StE key (U ++ V) L := by
  have aE := sw_agg
  have mixed : Try.prog.follows .mixedOrders = true := by kernel_rfl
  have hle : d.size = A.length + U.length + V.length + C.length := by rw [st_size hl]; simp; omega
  have HL := Aside0.mk hl
  have HLEN := Aside0.mk (And.intro hA (And.intro hm (And.intro hb (And.intro hU hV))))
  have HC := Aside0.mk hcmp
  have HKEY := Aside0.mk hkey
  have HS := Aside0.mk (And.intro sU sV)
  have S0 := Aside0.mk S
  have HBN : b ≤ N := by omega
  have ham : a < m := by omega
  have hmb : m < b := by omega
  clear S hl hA hm hb hU hV hle hcmp hkey sU sV
  go_enter Try.func128, Try.ntmps128
  obtain ⟨x, rfl⟩ := List.length_eq_one_iff.1 c1
  have hma : m = a + 1 := by have := HLEN.out.2.1; simp at this; omega
  have n1 : ((m : Int) - (a : Int)) = 1 := by omega
  have HMA := Aside0.mk hma
  clear hma
  have gA : Aside0 (d[a]! = x) := ⟨by
    have := st_get (d := d) (A := A) (x := x) (C := V ++ C) HL.out
    rwa [HLEN.out.1] at this⟩
  clear c1
  go_wp2
  go_loopg [10, 11, 12] V.length (fun kx s10 s11 s12 wr => ∃ (p q : Nat), s10 = .int .i64 p ∧ s11 = .int .i64 q ∧ Aside0 (m ≤ p ∧ p ≤ q ∧ q ≤ b ∧ q - p ≤ kx) ∧ Aside0 (SWK enc k w0 blk 0 d wr) ∧ Aside0 ((p = m ∨ key d[p - 1]! < key x) ∧ (q = b ∨ key x ≤ key d[q]!)))
  case atStart => exact ⟨m, b, rfl, rfl, ⟨by have := HLEN.out; omega⟩, S0, ⟨Or.inl rfl, Or.inl rfl⟩⟩
  case round =>
    clear S0
    obtain ⟨p, q, rfl, rfl, HP, S1, HB⟩ := hrel
    by_cases hlt : p < q
    · have hltz : decide ((p : Int) < (q : Int)) = true := decide_eq_true (by omega)
      have hqb : q ≤ b := HP.out.2.2.1
      obtain ⟨h, hh⟩ : ∃ h, (p + q) / 2 = h := ⟨_, rfl⟩
      have hz : ((p : Int) + (q : Int)) / 2 = (h : Int) := by omega
      have hph : p ≤ h ∧ h < q := by omega
      have hhN : h < N := by omega
      obtain ⟨y, gX0⟩ : ∃ y, d[h]! = y := ⟨_, rfl⟩
      have gX := Aside0.mk gX0
      have gY := gA
      have HH := Aside0.mk (And.intro hh hph)
      clear hh hph gX0
      by_cases hvv : key y < key x
      · have hv := Aside0.mk hvv
        clear hvv
        have ec5a : ((h : Int)).toNat = h := by omega
        have pc5a : (0 : Int) ≤ (h : Int) := by omega
        have bc5a : (h : Int) < (N : Int) := by omega
        have rc5a : IntKind.i64.wrap ((h : Int)) = (h : Int) := by rw [IntKind.wrap_i64]; omega
        have ec5c : ((a : Int)).toNat = a := by omega
        have pc5c : (0 : Int) ≤ (a : Int) := by omega
        have bc5c : (a : Int) < (N : Int) := by omega
        have rc5c : IntKind.i64.wrap ((a : Int)) = (a : Int) := by rw [IntKind.wrap_i64]; omega
        have lc5a := S1.out.ld R (by omega) Try.prog (h) (by omega)
        have lc5b := S1.out.ld R (by omega) Try.prog (a) (by omega)
        rw [gX.out] at lc5a
        rw [gY.out] at lc5b
        simp only [Nat.zero_add] at lc5a lc5b
        have hcc5 := S1.out.cmp HC.out (by omega) (y) (x)
        have hdc5 : decide (cf (y) (x) < 0) = true := decide_eq_true ((HKEY.out _ _).2 hv.out)
        have hxc5 : cf (y) (x) < 0 := of_decide_eq_true hdc5
        go_wp2_with fail
        go_quiet_grown (first | (go_at_fn g; refine Calls.grown_of (hcc5 _ _)))
        have S2 := Aside0.mk (S1.out.grown nq osq)
        clear lc5a lc5b hcc5 hdc5 hxc5 S1
        clear ec5a pc5a bc5a rc5a
        clear ec5c pc5c bc5c rc5c
        generalize grow (wr.drewN nq) osq = w2 at S2 ⊢
        clear nq osq
        go_wp2
        go_roundg (q - (h + 1))
        case measure => have := HP.out; have := HH.out; omega
        case rel => exact ⟨h + 1, q, by go_num, rfl, ⟨by have := HP.out; have := HH.out; omega⟩, S2, ⟨Or.inr (by rw [Nat.add_sub_cancel, gX.out]; exact hv.out), HB.out.2⟩⟩
      · have hv := Aside0.mk hvv
        clear hvv
        have ec6a : ((h : Int)).toNat = h := by omega
        have pc6a : (0 : Int) ≤ (h : Int) := by omega
        have bc6a : (h : Int) < (N : Int) := by omega
        have rc6a : IntKind.i64.wrap ((h : Int)) = (h : Int) := by rw [IntKind.wrap_i64]; omega
        have ec6c : ((a : Int)).toNat = a := by omega
        have pc6c : (0 : Int) ≤ (a : Int) := by omega
        have bc6c : (a : Int) < (N : Int) := by omega
        have rc6c : IntKind.i64.wrap ((a : Int)) = (a : Int) := by rw [IntKind.wrap_i64]; omega
        have lc6a := S1.out.ld R (by omega) Try.prog (h) (by omega)
        have lc6b := S1.out.ld R (by omega) Try.prog (a) (by omega)
        rw [gX.out] at lc6a
        rw [gY.out] at lc6b
        simp only [Nat.zero_add] at lc6a lc6b
        have hcc6 := S1.out.cmp HC.out (by omega) (y) (x)
        have hdc6 : decide (cf (y) (x) < 0) = false := decide_eq_false (fun h => hv.out ((HKEY.out _ _).1 h))
        have hxc6 : ¬ cf (y) (x) < 0 := of_decide_eq_false hdc6
        go_wp2_with fail
        go_quiet_grown (first | (go_at_fn g; refine Calls.grown_of (hcc6 _ _)))
        have S2 := Aside0.mk (S1.out.grown nq osq)
        clear lc6a lc6b hcc6 hdc6 hxc6 S1
        clear ec6a pc6a bc6a rc6a
        clear ec6c pc6c bc6c rc6c
        generalize grow (wr.drewN nq) osq = w2 at S2 ⊢
        clear nq osq
        go_wp2
        go_roundg (h - p)
        case measure => have := HP.out; have := HH.out; omega
        case rel => exact ⟨p, h, rfl, rfl, ⟨by have := HP.out; have := HH.out; omega⟩, S2, ⟨HB.out.1, Or.inr (by rw [gX.out]; have := hv.out; omega)⟩⟩
    · have hltz : decide ((p : Int) < (q : Int)) = false := decide_eq_false (by omega)
      have hpq : q = p := by have := HP.out; omega
      subst hpq
      have HV := st_insL key (v1 := V.take (q - m)) (v2 := V.drop (q - m)) (x := x) (by rw [List.take_append_drop]; exact HS.out.2)
        (st_lo key HS.out.2 (fun z => z < key x) (fun _ _ u v => Int.lt_of_le_of_lt u v) (i := q - m) (by
          rcases HB.out.1 with h | h
          · exact Or.inl (by omega)
          · by_cases hq : q = m
            · exact Or.inl (by omega)
            · have h3 := HLEN.out; have h4 := HP.out
              have := st_at (d := d) (A := A ++ [x]) (B := V) (C := C) (a := m) (by rw [HL.out]; simp) (by have := HMA.out; simp; omega) (q - 1) (by omega) (by omega)
              exact Or.inr ⟨_, by rw [show q - m - 1 = q - 1 - m by omega]; exact this, h⟩))
        (st_hi key HS.out.2 (fun z => key x ≤ z) (fun _ _ u v => Int.le_trans v u) (j := q - m) (by
          have h3 := HLEN.out; have h4 := HP.out
          rcases HB.out.2 with h | h
          · exact Or.inl (by omega)
          · by_cases hq : q = b
            · exact Or.inl (by omega)
            · have := st_at (d := d) (A := A ++ [x]) (B := V) (C := C) (a := m) (by rw [HL.out]; simp) (by have := HMA.out; simp; omega) q (by omega) (by omega)
              exact Or.inr ⟨_, this, h⟩))
      have HVL : Aside0 ((V.take (q - m)).length + m = q) := ⟨by have h3 := HLEN.out; have h4 := HP.out; rw [List.length_take]; omega⟩
      have HD0 : Aside0 (d.toList = A ++ ([] ++ x :: (V.take (q - m) ++ (V.drop (q - m) ++ C)))) := ⟨by rw [HL.out]; simp [← List.append_assoc]⟩
      rw [List.take_append_drop] at HV
      generalize V.take (q - m) = V1 at HV HVL HD0
      generalize V.drop (q - m) = V2 at HV HD0
      have HV0 := Aside0.mk HV
      have hqm : m ≤ q ∧ q ≤ b := by have := HP.out; omega
      clear HV
      go_wp2
      go_loopg [13] V1.length (fun kx s13 wr => ∃ (t : Nat) (dk : Array α) (X1 X2 : List α), s13 = .int .i64 t ∧ Aside0 (X2.length ≤ kx) ∧ dk.size = N ∧ Aside0 (SWK enc k w0 blk 0 dk wr) ∧ Aside0 (dk.toList = A ++ (X1 ++ x :: (X2 ++ (V2 ++ C)))) ∧ Aside0 (V1 = X1 ++ X2 ∧ t = a + X1.length))
      case atStart => exact ⟨a, d, [], V1, rfl, ⟨Nat.le_refl _⟩, hN, S1, HD0, ⟨rfl, rfl⟩⟩
      case round =>
        clear S1 HD0
        obtain ⟨t, dk, X1, X2, rfl, HT, hds, S1, HD, HX⟩ := hrel
        cases X2 with
        | cons z X2 =>
          have ht : t + 1 < q := by have h0 := HMA.out; have h1 := HX.out; have h2 := HVL.out; rw [h1.1] at h2; simp at h2; omega
          have htz : decide ((t : Int) < (q : Int) - 1) = true := decide_eq_true (by omega)
          have htz2 : (t : Int) < (q : Int) - 1 := by omega
          go_wp2_with fail
          have ek7a : ((t : Int)).toNat = t := by omega
          have pk7a : (0 : Int) ≤ (t : Int) := by omega
          have bk7a : (t : Int) < (N : Int) := by omega
          have rk7a : IntKind.i64.wrap ((t : Int)) = (t : Int) := by rw [IntKind.wrap_i64]; omega
          have ek7c : ((t : Int) + 1).toNat = t + 1 := by omega
          have pk7c : (0 : Int) ≤ (t : Int) + 1 := by omega
          have bk7c : (t : Int) + 1 < (N : Int) := by omega
          have rk7c : IntKind.i64.wrap ((t : Int) + 1) = (t : Int) + 1 := by rw [IntKind.wrap_i64]; omega
          have S2 : Aside0 (SWK enc k w0 blk 0 (swp dk (t) (t + 1)) ((wr.drew.setCells blk (0 + (t) * k) (enc dk[t + 1]!)).setCells blk (0 + (t + 1) * k) (enc dk[t]!))) := ⟨S1.out.swapped R (t) (t + 1) (by omega) (by omega)⟩
          have lk7a := S1.out.ld1 R (by omega) Try.prog (t) (by omega)
          have lk7b := S1.out.ld1 R (by omega) Try.prog (t + 1) (by omega)
          have sk7a := S1.out.st1 R (by omega) Try.prog (t) (by omega) dk[t + 1]!
          have sk7b := S1.out.st2 R (by omega) Try.prog (t) (t + 1) (by omega) (by omega) dk[t + 1]! dk[t]!
          have nk7a : (enc dk[t]!).length = k := R.hk _
          have nk7b : (enc dk[t + 1]!).length = k := R.hk _
          generalize enc dk[t]! = cIk7 at S2 lk7a sk7b nk7a
          generalize enc dk[t + 1]! = cJk7 at S2 lk7b sk7a sk7b nk7b
          simp only [Nat.zero_add] at S2 lk7a lk7b sk7a sk7b
          clear S1
          go_wp2_with fail
          have mixed : Try.prog.follows .mixedOrders = true := by kernel_rfl
          go_big_region_o
          clear lk7a lk7b sk7a sk7b
          generalize (wr.drew.setCells blk ((t) * k) cJk7).setCells blk ((t + 1) * k) cIk7 = w3 at S2 ⊢
          clear ek7a pk7a bk7a rk7a
          clear ek7c pk7c bk7c rk7c
          clear nk7a nk7b
          all_goals go_wp2
          go_roundg X2.length
          case measure => have := HT.out; simp at this; omega
          case rel =>
            refine ⟨t + 1, _, X1 ++ [z], X2, by first | rfl | go_num | (congr 1; omega), ⟨Nat.le_refl _⟩, by rw [size_swp]; exact hds, S2, ⟨?_⟩, ⟨by rw [HX.out.1]; simp, by have := HX.out.2; simp; omega⟩⟩
            have h1 := HD.out
            have := st_swp (d := dk) (A := A ++ X1) (B := []) (x := x) (y := z) (C := X2 ++ (V2 ++ C)) (by rw [h1]; simp)
            have e : (A ++ X1).length = t := by have h2 := HLEN.out.1; have := HX.out.2; simp; omega
            rw [e] at this
            simpa using this
        | nil =>
          have ht : t + 1 = q := by have h0 := HMA.out; have h1 := HX.out; have h2 := HVL.out; rw [h1.1] at h2; simp at h2; omega
          have htz : decide ((t : Int) < (q : Int) - 1) = false := decide_eq_false (by omega)
          have htz2 : ¬ (t : Int) < (q : Int) - 1 := by omega
          go_wp2
          (try simp only [Go.Exit.inBlock, Go.Exit.then]); refine Go.bodyPost_ret (Go.results_none rfl _ _ _) rfl ?_
          have hd1 : dk.toList = A ++ ((V1 ++ x :: V2) ++ C) := by rw [HD.out, HX.out.1]; simp
          first | exact ⟨rfl, dk, _, S1.out, hd1, HV0.out.1, HV0.out.2⟩ | exact ⟨rfl, dk, S1.out, _, hd1, HV0.out.1, HV0.out.2⟩
set_option maxHeartbeats 16000000 in
set_option maxRecDepth 1000000 in
theorem sw_sym2 (k : Nat) (zE : ∀ w, (Go.sizeOf 97).run Try.prog w = .ok k w) (enc : α → List Value) (g : Nat) (cb : Array Value) (blk cap N : Nat) (d0 : Array α) (w0 : World) (R : RowK enc k w0 blk 0 d0) (hs : d0.size = N) (hsz : N < 4611686018427387904) (cf : α → α → Int) (hcmp : CmpLays Try.prog g cb enc k cf blk 0 N w0) (eg : ∀ args w, (callFunc g args).run Try.prog w = .ok (.enter g args) w) (key : α → Int) (hkey : ∀ x y, cf x y < 0 ↔ key x < key y) (d : Array α) (w : World) (hN : d.size = N) (S : SWK enc k w0 blk 0 d w) (A U V C : List α) (a m b : Nat) (hl : d.toList = A ++ (U ++ (V ++ C))) (hA : A.length = a) (hm : a + U.length = m) (hb : m + V.length = b) (hU : 0 < U.length) (hV : 0 < V.length) (sU : StS key U) (sV : StS key V) (c1 : ¬ U.length = 1) (c2 : V.length = 1) : Calls Try.prog 128 #[.slice (some ⟨blk, 0, none⟩) N cap, .int .i64 a, .int .i64 m, .int .i64 b, .func (.func g) #[] cb] w fun e w' => e = .returned (.tuple #[]) ∧ ∃ d' L, SWK enc k w0 blk 0 d' w' ∧ d'.toList = A ++ (L ++ C) ∧ StS key L ∧ StE key (U ++ V) L := by
  have aE := sw_agg
  have mixed : Try.prog.follows .mixedOrders = true := by kernel_rfl
  have hle : d.size = A.length + U.length + V.length + C.length := by rw [st_size hl]; simp; omega
  have HL := Aside0.mk hl
  have HLEN := Aside0.mk (And.intro hA (And.intro hm (And.intro hb (And.intro hU hV))))
  have HC := Aside0.mk hcmp
  have HKEY := Aside0.mk hkey
  have HS := Aside0.mk (And.intro sU sV)
  have S0 := Aside0.mk S
  have HBN : b ≤ N := by omega
  have ham : a < m := by omega
  have hmb : m < b := by omega
  clear S hl hA hm hb hU hV hle hcmp hkey sU sV
  go_enter Try.func128, Try.ntmps128
  obtain ⟨y, rfl⟩ := List.length_eq_one_iff.1 c2
  have hmb1 : b = m + 1 := by have := HLEN.out.2.2.1; simp at this; omega
  have n0 : (((m : Int) - (a : Int)) == 1) = false := by have := HLEN.out; simp; omega
  have n0b : ¬ ((m : Int) - (a : Int)) = 1 := by have := HLEN.out; omega
  have n1 : ((b : Int) - (m : Int)) = 1 := by omega
  have HMB := Aside0.mk hmb1
  clear hmb1
  have gB : Aside0 (d[m]! = y) := ⟨by
    have h1 := HL.out
    have := st_get (d := d) (A := A ++ U) (x := y) (C := C) (by rw [h1]; simp)
    have e : (A ++ U).length = m := by have h2 := HLEN.out; simp; omega
    rwa [e] at this⟩
  clear c1 c2
  go_wp2
  go_loopg [14, 15, 16] U.length (fun kx s14 s15 s16 wr => ∃ (p q : Nat), s14 = .int .i64 p ∧ s15 = .int .i64 q ∧ Aside0 (a ≤ p ∧ p ≤ q ∧ q ≤ m ∧ q - p ≤ kx) ∧ Aside0 (SWK enc k w0 blk 0 d wr) ∧ Aside0 ((p = a ∨ key d[p - 1]! ≤ key y) ∧ (q = m ∨ key y < key d[q]!)))
  case atStart => exact ⟨a, m, rfl, rfl, ⟨by have := HLEN.out; omega⟩, S0, ⟨Or.inl rfl, Or.inl rfl⟩⟩
  case round =>
    clear S0
    obtain ⟨p, q, rfl, rfl, HP, S1, HB⟩ := hrel
    by_cases hlt : p < q
    · have hltz : decide ((p : Int) < (q : Int)) = true := decide_eq_true (by omega)
      have hqb : q ≤ m := HP.out.2.2.1
      obtain ⟨h, hh⟩ : ∃ h, (p + q) / 2 = h := ⟨_, rfl⟩
      have hz : ((p : Int) + (q : Int)) / 2 = (h : Int) := by omega
      have hph : p ≤ h ∧ h < q := by omega
      have hhN : h < N := by omega
      obtain ⟨x, gX0⟩ : ∃ x, d[h]! = x := ⟨_, rfl⟩
      have gY := Aside0.mk gX0
      have gX := gB
      have HH := Aside0.mk (And.intro hh hph)
      clear hh hph gX0
      by_cases hvv : key y < key x
      · have hv := Aside0.mk hvv
        clear hvv
        have ec8a : ((m : Int)).toNat = m := by omega
        have pc8a : (0 : Int) ≤ (m : Int) := by omega
        have bc8a : (m : Int) < (N : Int) := by omega
        have rc8a : IntKind.i64.wrap ((m : Int)) = (m : Int) := by rw [IntKind.wrap_i64]; omega
        have ec8c : ((h : Int)).toNat = h := by omega
        have pc8c : (0 : Int) ≤ (h : Int) := by omega
        have bc8c : (h : Int) < (N : Int) := by omega
        have rc8c : IntKind.i64.wrap ((h : Int)) = (h : Int) := by rw [IntKind.wrap_i64]; omega
        have lc8a := S1.out.ld R (by omega) Try.prog (m) (by omega)
        have lc8b := S1.out.ld R (by omega) Try.prog (h) (by omega)
        rw [gX.out] at lc8a
        rw [gY.out] at lc8b
        simp only [Nat.zero_add] at lc8a lc8b
        have hcc8 := S1.out.cmp HC.out (by omega) (y) (x)
        have hdc8 : decide (cf (y) (x) < 0) = true := decide_eq_true ((HKEY.out _ _).2 hv.out)
        have hxc8 : cf (y) (x) < 0 := of_decide_eq_true hdc8
        go_wp2_with fail
        go_quiet_grown (first | (go_at_fn g; refine Calls.grown_of (hcc8 _ _)))
        have S2 := Aside0.mk (S1.out.grown nq osq)
        clear lc8a lc8b hcc8 hdc8 hxc8 S1
        clear ec8a pc8a bc8a rc8a
        clear ec8c pc8c bc8c rc8c
        generalize grow (wr.drewN nq) osq = w2 at S2 ⊢
        clear nq osq
        go_wp2
        go_roundg (h - p)
        case measure => have := HP.out; have := HH.out; omega
        case rel => exact ⟨p, h, rfl, rfl, ⟨by have := HP.out; have := HH.out; omega⟩, S2, ⟨HB.out.1, Or.inr (by rw [gY.out]; exact hv.out)⟩⟩
      · have hv := Aside0.mk hvv
        clear hvv
        have ec9a : ((m : Int)).toNat = m := by omega
        have pc9a : (0 : Int) ≤ (m : Int) := by omega
        have bc9a : (m : Int) < (N : Int) := by omega
        have rc9a : IntKind.i64.wrap ((m : Int)) = (m : Int) := by rw [IntKind.wrap_i64]; omega
        have ec9c : ((h : Int)).toNat = h := by omega
        have pc9c : (0 : Int) ≤ (h : Int) := by omega
        have bc9c : (h : Int) < (N : Int) := by omega
        have rc9c : IntKind.i64.wrap ((h : Int)) = (h : Int) := by rw [IntKind.wrap_i64]; omega
        have lc9a := S1.out.ld R (by omega) Try.prog (m) (by omega)
        have lc9b := S1.out.ld R (by omega) Try.prog (h) (by omega)
        rw [gX.out] at lc9a
        rw [gY.out] at lc9b
        simp only [Nat.zero_add] at lc9a lc9b
        have hcc9 := S1.out.cmp HC.out (by omega) (y) (x)
        have hdc9 : decide (cf (y) (x) < 0) = false := decide_eq_false (fun h => hv.out ((HKEY.out _ _).1 h))
        have hxc9 : ¬ cf (y) (x) < 0 := of_decide_eq_false hdc9
        go_wp2_with fail
        go_quiet_grown (first | (go_at_fn g; refine Calls.grown_of (hcc9 _ _)))
        have S2 := Aside0.mk (S1.out.grown nq osq)
        clear lc9a lc9b hcc9 hdc9 hxc9 S1
        clear ec9a pc9a bc9a rc9a
        clear ec9c pc9c bc9c rc9c
        generalize grow (wr.drewN nq) osq = w2 at S2 ⊢
        clear nq osq
        go_wp2
        go_roundg (q - (h + 1))
        case measure => have := HP.out; have := HH.out; omega
        case rel => exact ⟨h + 1, q, by go_num, rfl, ⟨by have := HP.out; have := HH.out; omega⟩, S2, ⟨Or.inr (by rw [Nat.add_sub_cancel, gY.out]; have := hv.out; omega), HB.out.2⟩⟩
    · have hltz : decide ((p : Int) < (q : Int)) = false := decide_eq_false (by omega)
      have hpq : q = p := by have := HP.out; omega
      subst hpq
      have HV := st_insR key (u1 := U.take (q - a)) (u2 := U.drop (q - a)) (y := y) (by rw [List.take_append_drop]; exact HS.out.1)
        (st_lo key HS.out.1 (fun z => z ≤ key y) (fun _ _ u v => Int.le_trans u v) (i := q - a) (by
          rcases HB.out.1 with h | h
          · exact Or.inl (by omega)
          · by_cases hq : q = a
            · exact Or.inl (by omega)
            · have h3 := HLEN.out; have h4 := HP.out
              have := st_at (d := d) (A := A) (B := U) (C := [y] ++ C) (a := a) HL.out h3.1 (q - 1) (by omega) (by omega)
              exact Or.inr ⟨_, by rw [show q - a - 1 = q - 1 - a by omega]; exact this, h⟩))
        (st_hi key HS.out.1 (fun z => key y < z) (fun _ _ u v => Int.lt_of_lt_of_le v u) (j := q - a) (by
          have h3 := HLEN.out; have h4 := HP.out
          rcases HB.out.2 with h | h
          · exact Or.inl (by omega)
          · by_cases hq : q = m
            · exact Or.inl (by omega)
            · have := st_at (d := d) (A := A) (B := U) (C := [y] ++ C) (a := a) HL.out h3.1 q (by omega) (by omega)
              exact Or.inr ⟨_, this, h⟩))
      have HVL : Aside0 ((U.take (q - a)).length + a = q ∧ (U.drop (q - a)).length + q = m) := ⟨by have h3 := HLEN.out; have h4 := HP.out; rw [List.length_take, List.length_drop]; omega⟩
      have HD0 : Aside0 (d.toList = A ++ (U.take (q - a) ++ (U.drop (q - a) ++ y :: ([] ++ C)))) := ⟨by rw [HL.out, ← List.append_assoc (List.take _ _), List.take_append_drop]; simp⟩
      rw [List.take_append_drop] at HV
      generalize U.take (q - a) = U1 at HV HVL HD0
      generalize U.drop (q - a) = U2 at HV HVL HD0
      have HV0 := Aside0.mk HV
      have hqm : a ≤ q ∧ q ≤ m := by have := HP.out; omega
      clear HV
      go_wp2
      go_loopg [17] U2.length (fun kx s17 wr => ∃ (t : Nat) (dk : Array α) (X1 X2 : List α), s17 = .int .i64 t ∧ Aside0 (X1.length ≤ kx) ∧ dk.size = N ∧ Aside0 (SWK enc k w0 blk 0 dk wr) ∧ Aside0 (dk.toList = A ++ (U1 ++ (X1 ++ y :: (X2 ++ C)))) ∧ Aside0 (U2 = X1 ++ X2 ∧ t = q + X1.length ∧ t ≤ m))
      case atStart => exact ⟨m, d, U2, [], rfl, ⟨Nat.le_refl _⟩, hN, S1, HD0, ⟨by simp, by have := HVL.out; omega, Nat.le_refl _⟩⟩
      case round =>
        clear S1 HD0
        obtain ⟨t, dk, X1, X2, rfl, HT, hds, S1, HD, HX⟩ := hrel
        by_cases hX : X1 = []
        · have ht : t = q := by have h1 := HX.out.2.1; rw [hX] at h1; simp at h1; omega
          subst hX
          have htz : decide ((t : Int) > (q : Int)) = false := decide_eq_false (by omega)
          have htz2 : ¬ (q : Int) < (t : Int) := by omega
          go_wp2
          (try simp only [Go.Exit.inBlock, Go.Exit.then]); refine Go.bodyPost_ret (Go.results_none rfl _ _ _) rfl ?_
          have hd1 : dk.toList = A ++ ((U1 ++ y :: U2) ++ C) := by rw [HD.out, HX.out.1]; simp
          first | exact ⟨rfl, dk, _, S1.out, hd1, HV0.out.1, HV0.out.2⟩ | exact ⟨rfl, dk, S1.out, _, hd1, HV0.out.1, HV0.out.2⟩
        · obtain ⟨X0, z, rfl⟩ : ∃ X0 z, X1 = X0 ++ [z] := by
            rcases List.eq_nil_or_concat X1 with h | ⟨X0, z, h⟩
            · exact absurd h hX
            · exact ⟨X0, z, by rw [h, List.concat_eq_append]⟩
          obtain ⟨tp, htp⟩ : ∃ tp, tp = q + X0.length := ⟨_, rfl⟩
          have et : t = tp + 1 := by have h1 := HX.out.2.1; simp at h1; omega
          subst et
          have htm : tp + 1 ≤ m := HX.out.2.2
          have hqt : q ≤ tp := by omega
          have HTP := Aside0.mk htp
          clear htp hX
          have htz : decide ((q : Int) < (tp : Int) + 1) = true := decide_eq_true (by omega)
          have htz2 : (q : Int) < (tp : Int) + 1 := by omega
          go_wp2_with fail
          have ek10a : ((tp : Int) + 1).toNat = tp + 1 := by omega
          have pk10a : (0 : Int) ≤ (tp : Int) + 1 := by omega
          have bk10a : (tp : Int) + 1 < (N : Int) := by omega
          have rk10a : IntKind.i64.wrap ((tp : Int) + 1) = (tp : Int) + 1 := by rw [IntKind.wrap_i64]; omega
          have ek10c : ((tp : Int)).toNat = tp := by omega
          have pk10c : (0 : Int) ≤ (tp : Int) := by omega
          have bk10c : (tp : Int) < (N : Int) := by omega
          have rk10c : IntKind.i64.wrap ((tp : Int)) = (tp : Int) := by rw [IntKind.wrap_i64]; omega
          have S2 : Aside0 (SWK enc k w0 blk 0 (swp dk (tp + 1) (tp)) ((wr.drew.setCells blk (0 + (tp + 1) * k) (enc dk[tp]!)).setCells blk (0 + (tp) * k) (enc dk[tp + 1]!))) := ⟨S1.out.swapped R (tp + 1) (tp) (by omega) (by omega)⟩
          have lk10a := S1.out.ld1 R (by omega) Try.prog (tp + 1) (by omega)
          have lk10b := S1.out.ld1 R (by omega) Try.prog (tp) (by omega)
          have sk10a := S1.out.st1 R (by omega) Try.prog (tp + 1) (by omega) dk[tp]!
          have sk10b := S1.out.st2 R (by omega) Try.prog (tp + 1) (tp) (by omega) (by omega) dk[tp]! dk[tp + 1]!
          have nk10a : (enc dk[tp + 1]!).length = k := R.hk _
          have nk10b : (enc dk[tp]!).length = k := R.hk _
          generalize enc dk[tp + 1]! = cIk10 at S2 lk10a sk10b nk10a
          generalize enc dk[tp]! = cJk10 at S2 lk10b sk10a sk10b nk10b
          simp only [Nat.zero_add] at S2 lk10a lk10b sk10a sk10b
          clear S1
          go_wp2_with fail
          have mixed : Try.prog.follows .mixedOrders = true := by kernel_rfl
          go_big_region_o
          clear lk10a lk10b sk10a sk10b
          generalize (wr.drew.setCells blk ((tp + 1) * k) cJk10).setCells blk ((tp) * k) cIk10 = w3 at S2 ⊢
          clear ek10a pk10a bk10a rk10a
          clear ek10c pk10c bk10c rk10c
          clear nk10a nk10b
          all_goals go_wp2
          go_roundg X0.length
          case measure => have := HT.out; simp at this; omega
          case rel =>
            refine ⟨tp, _, X0, z :: X2, by first | rfl | go_num | (congr 1; omega), ⟨Nat.le_refl _⟩, by rw [size_swp]; exact hds, S2, ⟨?_⟩, ⟨by rw [HX.out.1]; simp, HTP.out, by omega⟩⟩
            have h1 := HD.out
            have := st_swp' (d := dk) (A := A ++ (U1 ++ X0)) (B := []) (x := z) (y := y) (C := X2 ++ C) (by rw [h1]; simp)
            have e : (A ++ (U1 ++ X0)).length = tp := by have h2 := HLEN.out.1; have h3 := HVL.out; have := HTP.out; simp; omega
            rw [e] at this
            simpa using this
def cdTail : Code → Code | .seq _ b => b | c => c
noncomputable def symTail : Code := match Try.f128.body with | some c => cdTail (cdTail (cdTail (cdTail (cdTail (cdTail (cdTail (cdTail (cdTail (cdTail c))))))))) | none => Code.skip
set_option maxHeartbeats 16000000 in
set_option maxRecDepth 1000000 in
theorem sw_symTail (k : Nat) (zE : ∀ w, (Go.sizeOf 97).run Try.prog w = .ok k w) (enc : α → List Value) (g : Nat) (cb : Array Value) (blk cap N : Nat) (d0 : Array α) (w0 : World) (R : RowK enc k w0 blk 0 d0) (hs : d0.size = N) (hsz : N < 4611686018427387904) (cf : α → α → Int) (hcmp : CmpLays Try.prog g cb enc k cf blk 0 N w0) (eg : ∀ args w, (callFunc g args).run Try.prog w = .ok (.enter g args) w) (key : α → Int) (hkey : ∀ x y, cf x y < 0 ↔ key x < key y) (A U V C : List α) (a m b n : Nat) (HLEN : Aside0 (A.length = a ∧ a + U.length = m ∧ m + V.length = b ∧ 0 < U.length ∧ 0 < V.length)) (HS : Aside0 (StS key U ∧ StS key V)) (HN : Aside0 (U.length + V.length ≤ n + 1)) (IH : Aside0 (SymOk k enc g cb blk cap N w0 key n)) (HBN : b ≤ N) (q e mid : Nat) (U1 U2 V1 V2 : List α) (HSP0 : Aside0 ((∀ x ∈ U1, ∀ y ∈ V2, key x ≤ key y) ∧ (∀ y ∈ V1, ∀ x ∈ U2, key y < key x))) (HUV0 : Aside0 (U = U1 ++ U2 ∧ V = V1 ++ V2)) (HLN0 : Aside0 (U1.length + a = q ∧ U2.length + q = m ∧ V1.length + m = e ∧ V2.length + e = b)) (HQ9 : Aside0 (e + q = mid + m ∧ a ≤ q ∧ q ≤ m ∧ m ≤ e ∧ e ≤ b ∧ a ≤ mid ∧ mid < b ∧ q ≤ mid ∧ mid ≤ e)) (haM : a < mid) (d2 : Array α) (w : World) (hds2 : d2.size = N) (S2 : Aside0 (SWK enc k w0 blk 0 d2 w)) (HD2 : Aside0 (d2.toList = A ++ (U1 ++ (V1 ++ (U2 ++ (V2 ++ C)))))) {x5 x6 x7 x8 x9 x10 x11 x12 x13 x14 x15 x16 x17 x19 x21 x22 x23 x25 x26 x27 x28 x29 x30 x31 x32 x33 x34 x35 x36 x37 x38 x39 x40 x41 x42 x43 x44 x45 x46 x47 x48 x49 x50 x51 x52 x53 x54 x55 x56 x57 x58 x59 x60 x61 x62 x63 x64 x65 x66 x67 x68 x69 x70 x71 x72 x73 x74 x75 x76 x77 x78 x79 x80 x81 x82 x83 x84 x85 x86 x87 x88 x89 x90 x91 x92 x93 x94 x95 x96 x97 x98 x99 x100 x101 x102 x103 x104 x105 x106 x107 x108 x109 x110 x111 x112 x113 x114 x115 x116 x117 x118 x119 x120 x121 x122 x123 x124 x125 x126 x127 x128 x129 x130 x131 x132 x133 x134 x135 x136 x137 x138 x139 x140 x141 x142 x143 x144 x145 x146 x147 x148 x149 x150 x151 x152 x153 x154 x155 x156 x157 x158 x159 x160 x161 x162 x163 x164 x165 x166 x167 x168 x169 x170 x171 x172 x173 x174 x175 x176 x177 x178 x179 x180 x181 x182 x183 x184 x185 x186 x187 x188 x189 x190 x191 x192 x193 x194 x195 x196 x197 x198 x199 x200 x201 x202 x203 x204 x205 x206 x207 x208 x209 x210 x211 x212 x213 x214 x215 x216 x217 x218 x219 : Value} :
    Code.wp Try.prog symTail (bodyPost Try.prog Try.f128 fun e w' => e = .returned (.tuple #[]) ∧ ∃ d' L, SWK enc k w0 blk 0 d' w' ∧ d'.toList = A ++ (L ++ C) ∧ StS key L ∧ StE key (U ++ V) L) ({ tmps := #[.slice (some ⟨blk, 0, none⟩) N cap, .int .i64 a, .int .i64 m, .int .i64 b, .func (.func g) #[] cb, x5, x6, x7, x8, x9, x10, x11, x12, x13, x14, x15, x16, x17, .int .i64 mid, x19, .int .i64 q, x21, x22, x23, .int .i64 e, x25, x26, x27, x28, x29, x30, x31, x32, x33, x34, x35, x36, x37, x38, x39, x40, x41, x42, x43, x44, x45, x46, x47, x48, x49, x50, x51, x52, x53, x54, x55, x56, x57, x58, x59, x60, x61, x62, x63, x64, x65, x66, x67, x68, x69, x70, x71, x72, x73, x74, x75, x76, x77, x78, x79, x80, x81, x82, x83, x84, x85, x86, x87, x88, x89, x90, x91, x92, x93, x94, x95, x96, x97, x98, x99, x100, x101, x102, x103, x104, x105, x106, x107, x108, x109, x110, x111, x112, x113, x114, x115, x116, x117, x118, x119, x120, x121, x122, x123, x124, x125, x126, x127, x128, x129, x130, x131, x132, x133, x134, x135, x136, x137, x138, x139, x140, x141, x142, x143, x144, x145, x146, x147, x148, x149, x150, x151, x152, x153, x154, x155, x156, x157, x158, x159, x160, x161, x162, x163, x164, x165, x166, x167, x168, x169, x170, x171, x172, x173, x174, x175, x176, x177, x178, x179, x180, x181, x182, x183, x184, x185, x186, x187, x188, x189, x190, x191, x192, x193, x194, x195, x196, x197, x198, x199, x200, x201, x202, x203, x204, x205, x206, x207, x208, x209, x210, x211, x212, x213, x214, x215, x216, x217, x218, x219], defers := [] }) w := by
  have aE := sw_agg
  have mixed : Try.prog.follows .mixedOrders = true := by kernel_rfl
  have HC := Aside0.mk hcmp
  have HKEY := Aside0.mk hkey
  have hq9 := HQ9.out
  have hmidb : mid < b := hq9.2.2.2.2.2.2.1
  have heb : e ≤ b := hq9.2.2.2.2.1
  have hqmid : q ≤ mid := hq9.2.2.2.2.2.2.2.1
  have hl5 := HLEN.out
  have ham : a < m := by omega
  have hmb : m < b := by omega
  clear hq9 hl5 hcmp hkey
  generalize hq0 : bodyPost Try.prog Try.f128 _ = Q0
  simp only [symTail, Try.f128, cdTail]
  subst hq0
  go_upto_region 41 with fail
  go_cut [199] (fun v wc => v = .bool (decide (a < q ∧ q < mid)) ∧ Aside0 (SWK enc k w0 blk 0 d2 wc))
  case first =>
    by_cases hr1' : a < q
    · have hr1 : decide ((a : Int) < (q : Int)) = true := decide_eq_true (by omega)
      have hr1b : (a : Int) < (q : Int) := by omega
      by_cases hr2' : q < mid
      · have hr2 : decide ((q : Int) < (mid : Int)) = true := decide_eq_true (by omega)
        have hr2b : (q : Int) < (mid : Int) := by omega
        have hr3 : decide (a < q ∧ q < mid) = true := decide_eq_true ⟨hr1', hr2'⟩
        go_wp2
        go_meet
        case rel => exact ⟨by rw [hr3], S2⟩
      · have hr2 : decide ((q : Int) < (mid : Int)) = false := decide_eq_false (by omega)
        have hr2b : ¬ (q : Int) < (mid : Int) := by omega
        have hr3 : decide (a < q ∧ q < mid) = false := decide_eq_false (fun h => hr2' h.2)
        go_wp2
        go_meet
        case rel => exact ⟨by rw [hr3], S2⟩
    · have hr1 : decide ((a : Int) < (q : Int)) = false := decide_eq_false (by omega)
      have hr1b : ¬ (a : Int) < (q : Int) := by omega
      have hr3 : decide (a < q ∧ q < mid) = false := decide_eq_false (fun h => hr1' h.1)
      go_wp2
      go_meet
      case rel => exact ⟨by rw [hr3], S2⟩
  case rest =>
  clear S2
  obtain ⟨rfl, S2⟩ := hcut
  go_upto_if 199 with fail
  go_cut [] (fun wc => ∃ (d3 : Array α) (L1 : List α), d3.size = N ∧ Aside0 (SWK enc k w0 blk 0 d3 wc) ∧ Aside0 (d3.toList = A ++ (L1 ++ (U2 ++ (V2 ++ C)))) ∧ Aside0 (StS key L1 ∧ StE key (U1 ++ V1) L1 ∧ L1.length = U1.length + V1.length))
  case first =>
    by_cases hr : a < q ∧ q < mid
    · have hcr := IH.out d2 _ hds2 S2.out A U1 V1 (U2 ++ (V2 ++ C)) a q mid HD2.out HLEN.out.1 (by have := HLN0.out; omega) (by have := HLN0.out; have := HQ9.out; omega) (by have := HLN0.out; omega) (by have := HLN0.out; have := HQ9.out; omega) (by have h := HS.out.1; rw [HUV0.out.1] at h; exact st_left key h) (by have h := HS.out.2; rw [HUV0.out.2] at h; exact st_left key h) (by have := HLN0.out; have := HQ9.out; have h := HN.out; rw [HUV0.out.1, HUV0.out.2] at h; simp only [List.length_append] at h; omega)
      have HCR := Aside0.mk hcr
      rw [decide_eq_true hr]
      clear hcr S2
      go_wp2_with fail
      refine HCR.out.mono ?_
      rintro e2 w2 ⟨rfl, d3, L1, hS3, hd3, s1, m1⟩
      have hL1 : L1.length = U1.length + V1.length := by have := st_same_length key m1; simpa using this
      have HL1 := Aside0.mk (And.intro s1 (And.intro m1 hL1))
      have S3 := Aside0.mk hS3
      have hds3 : d3.size = N := by
        have e1 := st_size hd3
        have e2 := st_size HD2.out
        rw [← hds2, e1, e2]
        simp only [List.length_append]
        omega
      have HD3 := Aside0.mk hd3
      clear hS3 hd3 HCR s1 m1 hL1
      go_wp2
      go_meet
      case rel => exact ⟨d3, L1, hds3, S3, HD3, HL1⟩
    · have HD3 : Aside0 (d2.toList = A ++ ((U1 ++ V1) ++ (U2 ++ (V2 ++ C)))) := ⟨by rw [HD2.out]; simp⟩
      have HL1 : Aside0 (StS key (U1 ++ V1) ∧ StE key (U1 ++ V1) (U1 ++ V1) ∧ (U1 ++ V1).length = U1.length + V1.length) := ⟨by
        refine ⟨?_, st_same_refl key _, by simp⟩
        have h1 := HLN0.out
        have h2 := HQ9.out
        by_cases hu : U1 = []
        · rw [hu]; have h := HS.out.2; rw [HUV0.out.2] at h; exact st_left key h
        · by_cases hv : V1 = []
          · rw [hv, List.append_nil]; have h := HS.out.1; rw [HUV0.out.1] at h; exact st_left key h
          · have := List.length_pos_iff.2 hu
            have := List.length_pos_iff.2 hv
            omega⟩
      rw [decide_eq_false hr]
      go_wp2
      go_meet
      case rel => exact ⟨d2, U1 ++ V1, hds2, S2, HD3, HL1⟩
  case rest =>
  clear S2 HD2 hds2
  obtain ⟨d3, L1, hds3, S3, HD3, HL1⟩ := hcut
  go_upto_region 43 with fail
  go_cut [213] (fun v wc => v = .bool (decide (mid < e ∧ e < b)) ∧ Aside0 (SWK enc k w0 blk 0 d3 wc))
  case first =>
    by_cases hr1' : mid < e
    · have hr1 : decide ((mid : Int) < (e : Int)) = true := decide_eq_true (by omega)
      have hr1b : (mid : Int) < (e : Int) := by omega
      by_cases hr2' : e < b
      · have hr2 : decide ((e : Int) < (b : Int)) = true := decide_eq_true (by omega)
        have hr2b : (e : Int) < (b : Int) := by omega
        have hr3 : decide (mid < e ∧ e < b) = true := decide_eq_true ⟨hr1', hr2'⟩
        go_wp2
        go_meet
        case rel => exact ⟨by rw [hr3], S3⟩
      · have hr2 : decide ((e : Int) < (b : Int)) = false := decide_eq_false (by omega)
        have hr2b : ¬ (e : Int) < (b : Int) := by omega
        have hr3 : decide (mid < e ∧ e < b) = false := decide_eq_false (fun h => hr2' h.2)
        go_wp2
        go_meet
        case rel => exact ⟨by rw [hr3], S3⟩
    · have hr1 : decide ((mid : Int) < (e : Int)) = false := decide_eq_false (by omega)
      have hr1b : ¬ (mid : Int) < (e : Int) := by omega
      have hr3 : decide (mid < e ∧ e < b) = false := decide_eq_false (fun h => hr1' h.1)
      go_wp2
      go_meet
      case rel => exact ⟨by rw [hr3], S3⟩
  case rest =>
  clear S3
  obtain ⟨rfl, S3⟩ := hcut
  by_cases hr : mid < e ∧ e < b
  · have hcr := IH.out d3 _ hds3 S3.out (A ++ L1) U2 V2 C mid e b (by rw [HD3.out]; simp) (by have := HLN0.out; have := HQ9.out; have := HL1.out.2.2; have := HLEN.out; simp only [List.length_append]; omega) (by have := HLN0.out; have := HQ9.out; omega) (by have := HLN0.out; omega) (by have := HLN0.out; have := HQ9.out; omega) (by have := HLN0.out; omega) (by have h := HS.out.1; rw [HUV0.out.1] at h; exact st_right key h) (by have h := HS.out.2; rw [HUV0.out.2] at h; exact st_right key h) (by have := HLN0.out; have := HQ9.out; have := HLEN.out; have h := HN.out; rw [HUV0.out.1, HUV0.out.2] at h; simp only [List.length_append] at h; omega)
    have HCR := Aside0.mk hcr
    rw [decide_eq_true hr]
    clear hcr S3
    go_wp2_with fail
    refine HCR.out.mono ?_
    rintro e2 w2 ⟨rfl, d4, L2, hS4, hd4, s2, m2⟩
    have hfin := st_merge_step key (u1 := U1) (u2 := U2) (v1 := V1) (v2 := V2) (r1 := L1) (r2 := L2) (by have h := HS.out.1; rwa [HUV0.out.1] at h) (by have h := HS.out.2; rwa [HUV0.out.2] at h) HSP0.out.1 HSP0.out.2 HL1.out.1 s2 HL1.out.2.1 m2
    rw [← HUV0.out.1, ← HUV0.out.2] at hfin
    have S4 := Aside0.mk hS4
    have HD4 : Aside0 (d4.toList = A ++ ((L1 ++ L2) ++ C)) := ⟨by rw [hd4]; simp⟩
    have HFIN := Aside0.mk hfin
    clear hS4 hd4 HCR s2 m2 hfin
    go_wp2
    go_end0
    exact ⟨rfl, d4, L1 ++ L2, S4.out, HD4.out, HFIN.out.1, HFIN.out.2⟩
  · have s2 : StS key (U2 ++ V2) := by
      have h1 := HLN0.out
      have h2 := HQ9.out
      by_cases hu : U2 = []
      · rw [hu]; have h := HS.out.2; rw [HUV0.out.2] at h; exact st_right key h
      · by_cases hv : V2 = []
        · rw [hv, List.append_nil]; have h := HS.out.1; rw [HUV0.out.1] at h; exact st_right key h
        · have := List.length_pos_iff.2 hu
          have := List.length_pos_iff.2 hv
          omega
    have hfin := st_merge_step key (u1 := U1) (u2 := U2) (v1 := V1) (v2 := V2) (r1 := L1) (r2 := U2 ++ V2) (by have h := HS.out.1; rwa [HUV0.out.1] at h) (by have h := HS.out.2; rwa [HUV0.out.2] at h) HSP0.out.1 HSP0.out.2 HL1.out.1 s2 HL1.out.2.1 (st_same_refl key _)
    rw [← HUV0.out.1, ← HUV0.out.2] at hfin
    have HFIN := Aside0.mk hfin
    clear hfin s2
    rw [decide_eq_false hr]
    go_wp2
    go_end0
    exact ⟨rfl, d3, L1 ++ (U2 ++ V2), S3.out, by rw [HD3.out]; simp, HFIN.out.1, HFIN.out.2⟩
set_option maxHeartbeats 16000000 in
set_option maxRecDepth 1000000 in
theorem sw_sym3 (k : Nat) (zE : ∀ w, (Go.sizeOf 97).run Try.prog w = .ok k w) (enc : α → List Value) (g : Nat) (cb : Array Value) (blk cap N : Nat) (d0 : Array α) (w0 : World) (R : RowK enc k w0 blk 0 d0) (hs : d0.size = N) (hsz : N < 4611686018427387904) (cf : α → α → Int) (hcmp : CmpLays Try.prog g cb enc k cf blk 0 N w0) (eg : ∀ args w, (callFunc g args).run Try.prog w = .ok (.enter g args) w) (key : α → Int) (hkey : ∀ x y, cf x y < 0 ↔ key x < key y) (d : Array α) (w : World) (hN : d.size = N) (S : SWK enc k w0 blk 0 d w) (A U V C : List α) (a m b : Nat) (hl : d.toList = A ++ (U ++ (V ++ C))) (hA : A.length = a) (hm : a + U.length = m) (hb : m + V.length = b) (hU : 0 < U.length) (hV : 0 < V.length) (sU : StS key U) (sV : StS key V) (n : Nat) (hn : U.length + V.length ≤ n + 1) (ih : SymOk k enc g cb blk cap N w0 key n) (c1 : ¬ U.length = 1) (c2 : ¬ V.length = 1) (hmx : (a + b) / 2 < m) : Calls Try.prog 128 #[.slice (some ⟨blk, 0, none⟩) N cap, .int .i64 a, .int .i64 m, .int .i64 b, .func (.func g) #[] cb] w fun e w' => e = .returned (.tuple #[]) ∧ ∃ d' L, SWK enc k w0 blk 0 d' w' ∧ d'.toList = A ++ (L ++ C) ∧ StS key L ∧ StE key (U ++ V) L := by
  have aE := sw_agg
  have mixed : Try.prog.follows .mixedOrders = true := by kernel_rfl
  have hle : d.size = A.length + U.length + V.length + C.length := by rw [st_size hl]; simp; omega
  have HL := Aside0.mk hl
  have HLEN := Aside0.mk (And.intro hA (And.intro hm (And.intro hb (And.intro hU hV))))
  have HC := Aside0.mk hcmp
  have HKEY := Aside0.mk hkey
  have HS := Aside0.mk (And.intro sU sV)
  have IH := Aside0.mk ih
  have HN := Aside0.mk hn
  have S0 := Aside0.mk S
  have HBN : b ≤ N := by omega
  have ham : a < m := by omega
  have hmb : m < b := by omega
  clear S hl hA hm hb hU hV hle hcmp hkey sU sV ih hn
  go_enter Try.func128, Try.ntmps128
  have n0 : (((m : Int) - (a : Int)) == 1) = false := by have := HLEN.out; simp; omega
  have n1 : (((b : Int) - (m : Int)) == 1) = false := by have := HLEN.out; simp; omega
  have n0b : ¬ ((m : Int) - (a : Int)) = 1 := by have := HLEN.out; omega
  have n1b : ¬ ((b : Int) - (m : Int)) = 1 := by have := HLEN.out; omega
  obtain ⟨mid, hmid⟩ : ∃ mid, (a + b) / 2 = mid := ⟨_, rfl⟩
  have hz0 : ((a : Int) + (b : Int)) / 2 = (mid : Int) := by omega
  have hmid2 : a ≤ mid ∧ mid < b := by omega
  have hmidN : mid < N := by omega
  clear c1 c2
  have hm : mid < m := by omega
  clear hmx
  have hmz : decide ((m : Int) > (mid : Int)) = true := decide_eq_true (by omega)
  have hmz2 : (mid : Int) < (m : Int) := by omega
  obtain ⟨s0, hs0⟩ : ∃ s0, mid + m - b = s0 := ⟨_, rfl⟩
  have hs9 : s0 + b = mid + m := by have := HLEN.out; omega
  have hsz0 : (mid : Int) + (m : Int) - (b : Int) = (s0 : Int) := by omega
  have HF : Aside0 (a ≤ s0 ∧ s0 ≤ mid ∧ mid ≤ m ∧ mid < b ∧ a ≤ mid ∧ a < m ∧ m < b ∧ b ≤ N ∧ s0 + b = mid + m ∧ mid + m ≤ s0 + b ∧ (s0 = a ∨ mid + m - s0 = b) ∧ (mid = m ∨ mid + m - mid = m)) := ⟨by have := HLEN.out; omega⟩
  have hs0N : s0 < N := by omega
  have hs0m : s0 ≤ mid := HF.out.2.1
  have HMID := Aside0.mk (And.intro hmid (And.intro hmid2 (And.intro hs0 hs9)))
  clear hmid hmid2 hs0 hs9
  go_wp2
  go_loopg [20, 21, 23] N (fun kx s20 s21 s23 wr => ∃ (p q : Nat), s20 = .int .i64 p ∧ s21 = .int .i64 q ∧ Aside0 (s0 ≤ p ∧ p ≤ q ∧ q ≤ mid ∧ q - p ≤ kx) ∧ Aside0 (SWK enc k w0 blk 0 d wr) ∧ Aside0 ((p = s0 ∨ key d[p - 1]! ≤ key d[mid + m - p]!) ∧ (q = mid ∨ key d[mid + m - 1 - q]! < key d[q]!)))
  case atStart => exact ⟨s0, mid, rfl, rfl, ⟨by have := HF.out; omega⟩, S0, ⟨Or.inl rfl, Or.inl rfl⟩⟩
  case round =>
    clear S0
    obtain ⟨p, q, rfl, rfl, HP, S1, HB⟩ := hrel
    by_cases hlt : p < q
    · have hltz : decide ((p : Int) < (q : Int)) = true := decide_eq_true (by omega)
      obtain ⟨h, hh⟩ : ∃ h, (p + q) / 2 = h := ⟨_, rfl⟩
      have hz : ((p : Int) + (q : Int)) / 2 = (h : Int) := by omega
      have hph : p ≤ h ∧ h < q := by omega
      obtain ⟨pc, hpc⟩ : ∃ pc, mid + m - 1 - h = pc := ⟨_, rfl⟩
      have hp9 : pc + h + 1 = mid + m ∧ h < N ∧ pc < N ∧ p < N ∧ q < N := by have := HF.out; have := HP.out; omega
      have hpz : (mid : Int) + (m : Int) - 1 - (h : Int) = (pc : Int) := by omega
      have hhN : h < N := hp9.2.1
      have hpcN : pc < N := hp9.2.2.1
      have hpN : p < N := hp9.2.2.2.1
      have hqN : q < N := hp9.2.2.2.2
      obtain ⟨y, gX0⟩ : ∃ y, d[pc]! = y := ⟨_, rfl⟩
      obtain ⟨x, gY0⟩ : ∃ x, d[h]! = x := ⟨_, rfl⟩
      have gX := Aside0.mk gX0
      have gY := Aside0.mk gY0
      have HH := Aside0.mk (And.intro hh (And.intro hph hp9))
      clear hh hph gX0 gY0 hp9 hpc
      by_cases hvv : key y < key x
      · have hv := Aside0.mk hvv
        clear hvv
        have ec11a : ((pc : Int)).toNat = pc := by omega
        have pc11a : (0 : Int) ≤ (pc : Int) := by omega
        have bc11a : (pc : Int) < (N : Int) := by omega
        have rc11a : IntKind.i64.wrap ((pc : Int)) = (pc : Int) := by rw [IntKind.wrap_i64]; omega
        have ec11c : ((h : Int)).toNat = h := by omega
        have pc11c : (0 : Int) ≤ (h : Int) := by omega
        have bc11c : (h : Int) < (N : Int) := by omega
        have rc11c : IntKind.i64.wrap ((h : Int)) = (h : Int) := by rw [IntKind.wrap_i64]; omega
        have lc11a := S1.out.ld R (by omega) Try.prog (pc) (by omega)
        have lc11b := S1.out.ld R (by omega) Try.prog (h) (by omega)
        rw [gX.out] at lc11a
        rw [gY.out] at lc11b
        simp only [Nat.zero_add] at lc11a lc11b
        have hcc11 := S1.out.cmp HC.out (by omega) (y) (x)
        have hdc11 : decide (cf (y) (x) < 0) = true := decide_eq_true ((HKEY.out _ _).2 hv.out)
        have hxc11 : cf (y) (x) < 0 := of_decide_eq_true hdc11
        go_wp2_with fail
        go_quiet_grown (first | (go_at_fn g; refine Calls.grown_of (hcc11 _ _)))
        have S2 := Aside0.mk (S1.out.grown nq osq)
        clear lc11a lc11b hcc11 hdc11 hxc11 S1
        clear ec11a pc11a bc11a rc11a
        clear ec11c pc11c bc11c rc11c
        generalize grow (wr.drewN nq) osq = w2 at S2 ⊢
        clear nq osq
        go_wp2
        go_roundg (h - p)
        case measure => have := HP.out; have := HH.out; omega
        case rel => exact ⟨p, h, rfl, rfl, ⟨by have := HP.out; have := HH.out; omega⟩, S2, ⟨HB.out.1, Or.inr (by rw [show mid + m - 1 - h = pc by have := HH.out; omega, gX.out, gY.out]; exact hv.out)⟩⟩
      · have hv := Aside0.mk hvv
        clear hvv
        have ec12a : ((pc : Int)).toNat = pc := by omega
        have pc12a : (0 : Int) ≤ (pc : Int) := by omega
        have bc12a : (pc : Int) < (N : Int) := by omega
        have rc12a : IntKind.i64.wrap ((pc : Int)) = (pc : Int) := by rw [IntKind.wrap_i64]; omega
        have ec12c : ((h : Int)).toNat = h := by omega
        have pc12c : (0 : Int) ≤ (h : Int) := by omega
        have bc12c : (h : Int) < (N : Int) := by omega
        have rc12c : IntKind.i64.wrap ((h : Int)) = (h : Int) := by rw [IntKind.wrap_i64]; omega
        have lc12a := S1.out.ld R (by omega) Try.prog (pc) (by omega)
        have lc12b := S1.out.ld R (by omega) Try.prog (h) (by omega)
        rw [gX.out] at lc12a
        rw [gY.out] at lc12b
        simp only [Nat.zero_add] at lc12a lc12b
        have hcc12 := S1.out.cmp HC.out (by omega) (y) (x)
        have hdc12 : decide (cf (y) (x) < 0) = false := decide_eq_false (fun h => hv.out ((HKEY.out _ _).1 h))
        have hxc12 : ¬ cf (y) (x) < 0 := of_decide_eq_false hdc12
        go_wp2_with fail
        go_quiet_grown (first | (go_at_fn g; refine Calls.grown_of (hcc12 _ _)))
        have S2 := Aside0.mk (S1.out.grown nq osq)
        clear lc12a lc12b hcc12 hdc12 hxc12 S1
        clear ec12a pc12a bc12a rc12a
        clear ec12c pc12c bc12c rc12c
        generalize grow (wr.drewN nq) osq = w2 at S2 ⊢
        clear nq osq
        go_wp2
        go_roundg (q - (h + 1))
        case measure => have := HP.out; have := HH.out; omega
        case rel => exact ⟨h + 1, q, by go_num, rfl, ⟨by have := HP.out; have := HH.out; omega⟩, S2, ⟨Or.inr (by rw [Nat.add_sub_cancel, show mid + m - (h + 1) = pc by have := HH.out; omega, gX.out, gY.out]; have := hv.out; omega), HB.out.2⟩⟩
    · have hltz : decide ((p : Int) < (q : Int)) = false := decide_eq_false (by omega)
      have hpq : q = p := by have := HP.out; omega
      subst hpq
      obtain ⟨e, he⟩ : ∃ e, mid + m - q = e := ⟨_, rfl⟩
      have hq9 : e + q = mid + m ∧ a ≤ q ∧ q ≤ m ∧ m ≤ e ∧ e ≤ b ∧ a ≤ mid ∧ mid < b ∧ q ≤ mid ∧ mid ≤ e := by have := HF.out; have := HP.out; omega
      have hez : (mid : Int) + (m : Int) - (q : Int) = (e : Int) := by omega
      have hqm : q ≤ m := hq9.2.2.1
      have hqa : a ≤ q := hq9.2.1
      have heb : e ≤ b := hq9.2.2.2.2.1
      have hme : m ≤ e := hq9.2.2.2.1
      have hmidb : mid < b := hq9.2.2.2.2.2.2.1
      have hqmid : q ≤ mid := hq9.2.2.2.2.2.2.2.1
      have hmide : mid ≤ e := hq9.2.2.2.2.2.2.2.2
      have hl5 := HLEN.out
      have atU : ∀ i, a ≤ i → i < m → U[i - a]? = some d[i]! := fun i h1 h2 => st_at (d := d) (A := A) (B := U) (C := V ++ C) HL.out hl5.1 i h1 (by omega)
      have atV : ∀ i, m ≤ i → i < b → V[i - m]? = some d[i]! := fun i h1 h2 => st_at (d := d) (A := A ++ U) (B := V) (C := C) (by rw [HL.out]; simp) (by simp; omega) i h1 (by omega)
      have HSP := st_split key HS.out.1 HS.out.2 (q - a) (e - m) (by
          rcases HB.out.1 with h | h
          · have := HF.out; omega
          · by_cases h1 : q = a
            · exact Or.inl (by omega)
            · by_cases h2 : e = b
              · exact Or.inr (Or.inl (by omega))
              · rw [he] at h
                exact Or.inr (Or.inr ⟨_, _, by rw [show q - a - 1 = q - 1 - a by omega]; exact atU (q - 1) (by omega) (by omega), atV e (by omega) (by omega), h⟩)) (by
          rcases HB.out.2 with h | h
          · have := HF.out; omega
          · by_cases h1 : e = m
            · exact Or.inl (by omega)
            · by_cases h2 : q = m
              · exact Or.inr (Or.inl (by omega))
              · rw [show mid + m - 1 - q = e - 1 by omega] at h
                exact Or.inr (Or.inr ⟨_, _, by rw [show e - m - 1 = e - 1 - m by omega]; exact atV (e - 1) (by omega) (by omega), atU q (by omega) (by omega), h⟩))
      clear atU atV
      have HU12 := (List.take_append_drop (q - a) U).symm
      have HV12 := (List.take_append_drop (e - m) V).symm
      have HLN : (U.take (q - a)).length + a = q ∧ (U.drop (q - a)).length + q = m ∧ (V.take (e - m)).length + m = e ∧ (V.drop (e - m)).length + e = b := by
        rw [List.length_take, List.length_drop, List.length_take, List.length_drop]; omega
      generalize U.take (q - a) = U1 at HSP HU12 HLN
      generalize U.drop (q - a) = U2 at HSP HU12 HLN
      generalize V.take (e - m) = V1 at HSP HV12 HLN
      generalize V.drop (e - m) = V2 at HSP HV12 HLN
      have HSP0 := Aside0.mk HSP
      have HUV0 := Aside0.mk (And.intro HU12 HV12)
      have HLN0 := Aside0.mk HLN
      have HQ9 := Aside0.mk hq9
      clear HSP HU12 HV12 HLN hl5 hq9 he
      go_upto_region 39 with fail
      go_cut [185] (fun v wc => v = .bool (decide (q < m ∧ m < e)) ∧ Aside0 (SWK enc k w0 blk 0 d wc))
      case first =>
        by_cases hr1' : q < m
        · have hr1 : decide ((q : Int) < (m : Int)) = true := decide_eq_true (by omega)
          have hr1b : (q : Int) < (m : Int) := by omega
          by_cases hr2' : m < e
          · have hr2 : decide ((m : Int) < (e : Int)) = true := decide_eq_true (by omega)
            have hr2b : (m : Int) < (e : Int) := by omega
            have hr3 : decide (q < m ∧ m < e) = true := decide_eq_true ⟨hr1', hr2'⟩
            go_wp2
            go_meet
            case rel => exact ⟨by rw [hr3], S1⟩
          · have hr2 : decide ((m : Int) < (e : Int)) = false := decide_eq_false (by omega)
            have hr2b : ¬ (m : Int) < (e : Int) := by omega
            have hr3 : decide (q < m ∧ m < e) = false := decide_eq_false (fun h => hr2' h.2)
            go_wp2
            go_meet
            case rel => exact ⟨by rw [hr3], S1⟩
        · have hr1 : decide ((q : Int) < (m : Int)) = false := decide_eq_false (by omega)
          have hr1b : ¬ (q : Int) < (m : Int) := by omega
          have hr3 : decide (q < m ∧ m < e) = false := decide_eq_false (fun h => hr1' h.1)
          go_wp2
          go_meet
          case rel => exact ⟨by rw [hr3], S1⟩
      case rest =>
      clear S1
      obtain ⟨rfl, S1⟩ := hcut
      go_upto_if 185 with fail
      go_cut [] (fun wc => ∃ (d2 : Array α), d2.size = N ∧ Aside0 (SWK enc k w0 blk 0 d2 wc) ∧ Aside0 (d2.toList = A ++ (U1 ++ (V1 ++ (U2 ++ (V2 ++ C))))))
      case first =>
        by_cases hr : q < m ∧ m < e
        · have hcr := sw_rotate k zE enc g cb blk cap N d0 d w0 _ R hs hN S1.out hsz (A ++ U1) U2 V1 (V2 ++ C) q m e (by rw [HL.out, HUV0.out.1, HUV0.out.2]; simp) (by have := HLN0.out; have := HLEN.out; simp; omega) (by have := HLN0.out; omega) (by have := HLN0.out; omega) (by have := HLN0.out; omega) (by have := HLN0.out; omega)
          have HCR := Aside0.mk hcr
          rw [decide_eq_true hr]
          clear hcr S1
          go_wp2_with fail
          refine HCR.out.mono ?_
          rintro e2 w2 ⟨rfl, d2, hS2, hd2⟩
          have S2 := Aside0.mk hS2
          have hds2 : d2.size = N := by
            have e1 := st_size hd2
            have e2 := st_size HL.out
            rw [HUV0.out.1, HUV0.out.2] at e2
            rw [← hN, e1, e2]
            simp only [List.length_append]
            omega
          have HD2 : Aside0 (d2.toList = A ++ (U1 ++ (V1 ++ (U2 ++ (V2 ++ C))))) := ⟨by rw [hd2]; simp⟩
          clear hS2 hd2 HCR
          go_wp2
          go_meet
          case rel => exact ⟨d2, hds2, S2, HD2⟩
        · have HD2 : Aside0 (d.toList = A ++ (U1 ++ (V1 ++ (U2 ++ (V2 ++ C))))) := ⟨by
            have h1 := HLN0.out
            rw [HL.out, HUV0.out.1, HUV0.out.2]
            by_cases hu : U2 = []
            · rw [hu]; simp
            · by_cases hv : V1 = []
              · rw [hv]; simp
              · have := List.length_pos_iff.2 hu
                have := List.length_pos_iff.2 hv
                omega⟩
          rw [decide_eq_false hr]
          go_wp2
          go_meet
          case rel => exact ⟨d, hN, S1, HD2⟩
      case rest =>
      obtain ⟨d2, hds2, S2, HD2⟩ := hcut
      apply_assumption
      exact sw_symTail k zE enc g cb blk cap N d0 w0 R hs hsz cf HC.out eg key HKEY.out A U V C a m b n HLEN HS HN IH HBN q e mid U1 U2 V1 V2 HSP0 HUV0 HLN0 HQ9 (by have h1 := HMID.out.1; have h2 := HLEN.out; omega) d2 _ hds2 S2 HD2
set_option maxHeartbeats 16000000 in
set_option maxRecDepth 1000000 in
theorem sw_sym4 (k : Nat) (zE : ∀ w, (Go.sizeOf 97).run Try.prog w = .ok k w) (enc : α → List Value) (g : Nat) (cb : Array Value) (blk cap N : Nat) (d0 : Array α) (w0 : World) (R : RowK enc k w0 blk 0 d0) (hs : d0.size = N) (hsz : N < 4611686018427387904) (cf : α → α → Int) (hcmp : CmpLays Try.prog g cb enc k cf blk 0 N w0) (eg : ∀ args w, (callFunc g args).run Try.prog w = .ok (.enter g args) w) (key : α → Int) (hkey : ∀ x y, cf x y < 0 ↔ key x < key y) (d : Array α) (w : World) (hN : d.size = N) (S : SWK enc k w0 blk 0 d w) (A U V C : List α) (a m b : Nat) (hl : d.toList = A ++ (U ++ (V ++ C))) (hA : A.length = a) (hm : a + U.length = m) (hb : m + V.length = b) (hU : 0 < U.length) (hV : 0 < V.length) (sU : StS key U) (sV : StS key V) (n : Nat) (hn : U.length + V.length ≤ n + 1) (ih : SymOk k enc g cb blk cap N w0 key n) (c1 : ¬ U.length = 1) (c2 : ¬ V.length = 1) (hmx : ¬ (a + b) / 2 < m) : Calls Try.prog 128 #[.slice (some ⟨blk, 0, none⟩) N cap, .int .i64 a, .int .i64 m, .int .i64 b, .func (.func g) #[] cb] w fun e w' => e = .returned (.tuple #[]) ∧ ∃ d' L, SWK enc k w0 blk 0 d' w' ∧ d'.toList = A ++ (L ++ C) ∧ StS key L ∧ StE key (U ++ V) L := by
  have aE := sw_agg
  have mixed : Try.prog.follows .mixedOrders = true := by kernel_rfl
  have hle : d.size = A.length + U.length + V.length + C.length := by rw [st_size hl]; simp; omega
  have HL := Aside0.mk hl
  have HLEN := Aside0.mk (And.intro hA (And.intro hm (And.intro hb (And.intro hU hV))))
  have HC := Aside0.mk hcmp
  have HKEY := Aside0.mk hkey
  have HS := Aside0.mk (And.intro sU sV)
  have IH := Aside0.mk ih
  have HN := Aside0.mk hn
  have S0 := Aside0.mk S
  have HBN : b ≤ N := by omega
  have ham : a < m := by omega
  have hmb : m < b := by omega
  clear S hl hA hm hb hU hV hle hcmp hkey sU sV ih hn
  go_enter Try.func128, Try.ntmps128
  have n0 : (((m : Int) - (a : Int)) == 1) = false := by have := HLEN.out; simp; omega
  have n1 : (((b : Int) - (m : Int)) == 1) = false := by have := HLEN.out; simp; omega
  have n0b : ¬ ((m : Int) - (a : Int)) = 1 := by have := HLEN.out; omega
  have n1b : ¬ ((b : Int) - (m : Int)) = 1 := by have := HLEN.out; omega
  obtain ⟨mid, hmid⟩ : ∃ mid, (a + b) / 2 = mid := ⟨_, rfl⟩
  have hz0 : ((a : Int) + (b : Int)) / 2 = (mid : Int) := by omega
  have hmid2 : a ≤ mid ∧ mid < b := by omega
  have hmidN : mid < N := by omega
  clear c1 c2
  have hm : ¬ mid < m := by omega
  clear hmx
  have hmz : decide ((m : Int) > (mid : Int)) = false := decide_eq_false (by omega)
  have hmz2 : ¬ (mid : Int) < (m : Int) := by omega
  have HF : Aside0 (a ≤ a ∧ a ≤ m ∧ m ≤ m ∧ m ≤ mid ∧ mid < b ∧ a ≤ mid ∧ a < m ∧ m < b ∧ b ≤ N ∧ mid + m ≤ a + b ∧ (a = a ∨ mid + m - a = b) ∧ (m = m ∨ mid + m - m = m)) := ⟨by have := HLEN.out; omega⟩
  have HMID := Aside0.mk (And.intro hmid hmid2)
  clear hmid hmid2
  go_wp2
  go_loopg [20, 21, 23] N (fun kx s20 s21 s23 wr => ∃ (p q : Nat), s20 = .int .i64 p ∧ s21 = .int .i64 q ∧ Aside0 (a ≤ p ∧ p ≤ q ∧ q ≤ m ∧ q - p ≤ kx) ∧ Aside0 (SWK enc k w0 blk 0 d wr) ∧ Aside0 ((p = a ∨ key d[p - 1]! ≤ key d[mid + m - p]!) ∧ (q = m ∨ key d[mid + m - 1 - q]! < key d[q]!)))
  case atStart => exact ⟨a, m, rfl, rfl, ⟨by have := HF.out; omega⟩, S0, ⟨Or.inl rfl, Or.inl rfl⟩⟩
  case round =>
    clear S0
    obtain ⟨p, q, rfl, rfl, HP, S1, HB⟩ := hrel
    by_cases hlt : p < q
    · have hltz : decide ((p : Int) < (q : Int)) = true := decide_eq_true (by omega)
      obtain ⟨h, hh⟩ : ∃ h, (p + q) / 2 = h := ⟨_, rfl⟩
      have hz : ((p : Int) + (q : Int)) / 2 = (h : Int) := by omega
      have hph : p ≤ h ∧ h < q := by omega
      obtain ⟨pc, hpc⟩ : ∃ pc, mid + m - 1 - h = pc := ⟨_, rfl⟩
      have hp9 : pc + h + 1 = mid + m ∧ h < N ∧ pc < N ∧ p < N ∧ q < N := by have := HF.out; have := HP.out; omega
      have hpz : (mid : Int) + (m : Int) - 1 - (h : Int) = (pc : Int) := by omega
      have hhN : h < N := hp9.2.1
      have hpcN : pc < N := hp9.2.2.1
      have hpN : p < N := hp9.2.2.2.1
      have hqN : q < N := hp9.2.2.2.2
      obtain ⟨y, gX0⟩ : ∃ y, d[pc]! = y := ⟨_, rfl⟩
      obtain ⟨x, gY0⟩ : ∃ x, d[h]! = x := ⟨_, rfl⟩
      have gX := Aside0.mk gX0
      have gY := Aside0.mk gY0
      have HH := Aside0.mk (And.intro hh (And.intro hph hp9))
      clear hh hph gX0 gY0 hp9 hpc
      by_cases hvv : key y < key x
      · have hv := Aside0.mk hvv
        clear hvv
        have ec13a : ((pc : Int)).toNat = pc := by omega
        have pc13a : (0 : Int) ≤ (pc : Int) := by omega
        have bc13a : (pc : Int) < (N : Int) := by omega
        have rc13a : IntKind.i64.wrap ((pc : Int)) = (pc : Int) := by rw [IntKind.wrap_i64]; omega
        have ec13c : ((h : Int)).toNat = h := by omega
        have pc13c : (0 : Int) ≤ (h : Int) := by omega
        have bc13c : (h : Int) < (N : Int) := by omega
        have rc13c : IntKind.i64.wrap ((h : Int)) = (h : Int) := by rw [IntKind.wrap_i64]; omega
        have lc13a := S1.out.ld R (by omega) Try.prog (pc) (by omega)
        have lc13b := S1.out.ld R (by omega) Try.prog (h) (by omega)
        rw [gX.out] at lc13a
        rw [gY.out] at lc13b
        simp only [Nat.zero_add] at lc13a lc13b
        have hcc13 := S1.out.cmp HC.out (by omega) (y) (x)
        have hdc13 : decide (cf (y) (x) < 0) = true := decide_eq_true ((HKEY.out _ _).2 hv.out)
        have hxc13 : cf (y) (x) < 0 := of_decide_eq_true hdc13
        go_wp2_with fail
        go_quiet_grown (first | (go_at_fn g; refine Calls.grown_of (hcc13 _ _)))
        have S2 := Aside0.mk (S1.out.grown nq osq)
        clear lc13a lc13b hcc13 hdc13 hxc13 S1
        clear ec13a pc13a bc13a rc13a
        clear ec13c pc13c bc13c rc13c
        generalize grow (wr.drewN nq) osq = w2 at S2 ⊢
        clear nq osq
        go_wp2
        go_roundg (h - p)
        case measure => have := HP.out; have := HH.out; omega
        case rel => exact ⟨p, h, rfl, rfl, ⟨by have := HP.out; have := HH.out; omega⟩, S2, ⟨HB.out.1, Or.inr (by rw [show mid + m - 1 - h = pc by have := HH.out; omega, gX.out, gY.out]; exact hv.out)⟩⟩
      · have hv := Aside0.mk hvv
        clear hvv
        have ec14a : ((pc : Int)).toNat = pc := by omega
        have pc14a : (0 : Int) ≤ (pc : Int) := by omega
        have bc14a : (pc : Int) < (N : Int) := by omega
        have rc14a : IntKind.i64.wrap ((pc : Int)) = (pc : Int) := by rw [IntKind.wrap_i64]; omega
        have ec14c : ((h : Int)).toNat = h := by omega
        have pc14c : (0 : Int) ≤ (h : Int) := by omega
        have bc14c : (h : Int) < (N : Int) := by omega
        have rc14c : IntKind.i64.wrap ((h : Int)) = (h : Int) := by rw [IntKind.wrap_i64]; omega
        have lc14a := S1.out.ld R (by omega) Try.prog (pc) (by omega)
        have lc14b := S1.out.ld R (by omega) Try.prog (h) (by omega)
        rw [gX.out] at lc14a
        rw [gY.out] at lc14b
        simp only [Nat.zero_add] at lc14a lc14b
        have hcc14 := S1.out.cmp HC.out (by omega) (y) (x)
        have hdc14 : decide (cf (y) (x) < 0) = false := decide_eq_false (fun h => hv.out ((HKEY.out _ _).1 h))
        have hxc14 : ¬ cf (y) (x) < 0 := of_decide_eq_false hdc14
        go_wp2_with fail
        go_quiet_grown (first | (go_at_fn g; refine Calls.grown_of (hcc14 _ _)))
        have S2 := Aside0.mk (S1.out.grown nq osq)
        clear lc14a lc14b hcc14 hdc14 hxc14 S1
        clear ec14a pc14a bc14a rc14a
        clear ec14c pc14c bc14c rc14c
        generalize grow (wr.drewN nq) osq = w2 at S2 ⊢
        clear nq osq
        go_wp2
        go_roundg (q - (h + 1))
        case measure => have := HP.out; have := HH.out; omega
        case rel => exact ⟨h + 1, q, by go_num, rfl, ⟨by have := HP.out; have := HH.out; omega⟩, S2, ⟨Or.inr (by rw [Nat.add_sub_cancel, show mid + m - (h + 1) = pc by have := HH.out; omega, gX.out, gY.out]; have := hv.out; omega), HB.out.2⟩⟩
    · have hltz : decide ((p : Int) < (q : Int)) = false := decide_eq_false (by omega)
      have hpq : q = p := by have := HP.out; omega
      subst hpq
      obtain ⟨e, he⟩ : ∃ e, mid + m - q = e := ⟨_, rfl⟩
      have hq9 : e + q = mid + m ∧ a ≤ q ∧ q ≤ m ∧ m ≤ e ∧ e ≤ b ∧ a ≤ mid ∧ mid < b ∧ q ≤ mid ∧ mid ≤ e := by have := HF.out; have := HP.out; omega
      have hez : (mid : Int) + (m : Int) - (q : Int) = (e : Int) := by omega
      have hqm : q ≤ m := hq9.2.2.1
      have hqa : a ≤ q := hq9.2.1
      have heb : e ≤ b := hq9.2.2.2.2.1
      have hme : m ≤ e := hq9.2.2.2.1
      have hmidb : mid < b := hq9.2.2.2.2.2.2.1
      have hqmid : q ≤ mid := hq9.2.2.2.2.2.2.2.1
      have hmide : mid ≤ e := hq9.2.2.2.2.2.2.2.2
      have hl5 := HLEN.out
      have atU : ∀ i, a ≤ i → i < m → U[i - a]? = some d[i]! := fun i h1 h2 => st_at (d := d) (A := A) (B := U) (C := V ++ C) HL.out hl5.1 i h1 (by omega)
      have atV : ∀ i, m ≤ i → i < b → V[i - m]? = some d[i]! := fun i h1 h2 => st_at (d := d) (A := A ++ U) (B := V) (C := C) (by rw [HL.out]; simp) (by simp; omega) i h1 (by omega)
      have HSP := st_split key HS.out.1 HS.out.2 (q - a) (e - m) (by
          rcases HB.out.1 with h | h
          · have := HF.out; omega
          · by_cases h1 : q = a
            · exact Or.inl (by omega)
            · by_cases h2 : e = b
              · exact Or.inr (Or.inl (by omega))
              · rw [he] at h
                exact Or.inr (Or.inr ⟨_, _, by rw [show q - a - 1 = q - 1 - a by omega]; exact atU (q - 1) (by omega) (by omega), atV e (by omega) (by omega), h⟩)) (by
          rcases HB.out.2 with h | h
          · have := HF.out; omega
          · by_cases h1 : e = m
            · exact Or.inl (by omega)
            · by_cases h2 : q = m
              · exact Or.inr (Or.inl (by omega))
              · rw [show mid + m - 1 - q = e - 1 by omega] at h
                exact Or.inr (Or.inr ⟨_, _, by rw [show e - m - 1 = e - 1 - m by omega]; exact atV (e - 1) (by omega) (by omega), atU q (by omega) (by omega), h⟩))
      clear atU atV
      have HU12 := (List.take_append_drop (q - a) U).symm
      have HV12 := (List.take_append_drop (e - m) V).symm
      have HLN : (U.take (q - a)).length + a = q ∧ (U.drop (q - a)).length + q = m ∧ (V.take (e - m)).length + m = e ∧ (V.drop (e - m)).length + e = b := by
        rw [List.length_take, List.length_drop, List.length_take, List.length_drop]; omega
      generalize U.take (q - a) = U1 at HSP HU12 HLN
      generalize U.drop (q - a) = U2 at HSP HU12 HLN
      generalize V.take (e - m) = V1 at HSP HV12 HLN
      generalize V.drop (e - m) = V2 at HSP HV12 HLN
      have HSP0 := Aside0.mk HSP
      have HUV0 := Aside0.mk (And.intro HU12 HV12)
      have HLN0 := Aside0.mk HLN
      have HQ9 := Aside0.mk hq9
      clear HSP HU12 HV12 HLN hl5 hq9 he
      go_upto_region 39 with fail
      go_cut [185] (fun v wc => v = .bool (decide (q < m ∧ m < e)) ∧ Aside0 (SWK enc k w0 blk 0 d wc))
      case first =>
        by_cases hr1' : q < m
        · have hr1 : decide ((q : Int) < (m : Int)) = true := decide_eq_true (by omega)
          have hr1b : (q : Int) < (m : Int) := by omega
          by_cases hr2' : m < e
          · have hr2 : decide ((m : Int) < (e : Int)) = true := decide_eq_true (by omega)
            have hr2b : (m : Int) < (e : Int) := by omega
            have hr3 : decide (q < m ∧ m < e) = true := decide_eq_true ⟨hr1', hr2'⟩
            go_wp2
            go_meet
            case rel => exact ⟨by rw [hr3], S1⟩
          · have hr2 : decide ((m : Int) < (e : Int)) = false := decide_eq_false (by omega)
            have hr2b : ¬ (m : Int) < (e : Int) := by omega
            have hr3 : decide (q < m ∧ m < e) = false := decide_eq_false (fun h => hr2' h.2)
            go_wp2
            go_meet
            case rel => exact ⟨by rw [hr3], S1⟩
        · have hr1 : decide ((q : Int) < (m : Int)) = false := decide_eq_false (by omega)
          have hr1b : ¬ (q : Int) < (m : Int) := by omega
          have hr3 : decide (q < m ∧ m < e) = false := decide_eq_false (fun h => hr1' h.1)
          go_wp2
          go_meet
          case rel => exact ⟨by rw [hr3], S1⟩
      case rest =>
      clear S1
      obtain ⟨rfl, S1⟩ := hcut
      go_upto_if 185 with fail
      go_cut [] (fun wc => ∃ (d2 : Array α), d2.size = N ∧ Aside0 (SWK enc k w0 blk 0 d2 wc) ∧ Aside0 (d2.toList = A ++ (U1 ++ (V1 ++ (U2 ++ (V2 ++ C))))))
      case first =>
        by_cases hr : q < m ∧ m < e
        · have hcr := sw_rotate k zE enc g cb blk cap N d0 d w0 _ R hs hN S1.out hsz (A ++ U1) U2 V1 (V2 ++ C) q m e (by rw [HL.out, HUV0.out.1, HUV0.out.2]; simp) (by have := HLN0.out; have := HLEN.out; simp; omega) (by have := HLN0.out; omega) (by have := HLN0.out; omega) (by have := HLN0.out; omega) (by have := HLN0.out; omega)
          have HCR := Aside0.mk hcr
          rw [decide_eq_true hr]
          clear hcr S1
          go_wp2_with fail
          refine HCR.out.mono ?_
          rintro e2 w2 ⟨rfl, d2, hS2, hd2⟩
          have S2 := Aside0.mk hS2
          have hds2 : d2.size = N := by
            have e1 := st_size hd2
            have e2 := st_size HL.out
            rw [HUV0.out.1, HUV0.out.2] at e2
            rw [← hN, e1, e2]
            simp only [List.length_append]
            omega
          have HD2 : Aside0 (d2.toList = A ++ (U1 ++ (V1 ++ (U2 ++ (V2 ++ C))))) := ⟨by rw [hd2]; simp⟩
          clear hS2 hd2 HCR
          go_wp2
          go_meet
          case rel => exact ⟨d2, hds2, S2, HD2⟩
        · have HD2 : Aside0 (d.toList = A ++ (U1 ++ (V1 ++ (U2 ++ (V2 ++ C))))) := ⟨by
            have h1 := HLN0.out
            rw [HL.out, HUV0.out.1, HUV0.out.2]
            by_cases hu : U2 = []
            · rw [hu]; simp
            · by_cases hv : V1 = []
              · rw [hv]; simp
              · have := List.length_pos_iff.2 hu
                have := List.length_pos_iff.2 hv
                omega⟩
          rw [decide_eq_false hr]
          go_wp2
          go_meet
          case rel => exact ⟨d, hN, S1, HD2⟩
      case rest =>
      obtain ⟨d2, hds2, S2, HD2⟩ := hcut
      apply_assumption
      exact sw_symTail k zE enc g cb blk cap N d0 w0 R hs hsz cf HC.out eg key HKEY.out A U V C a m b n HLEN HS HN IH HBN q e mid U1 U2 V1 V2 HSP0 HUV0 HLN0 HQ9 (by have h1 := HMID.out.1; have h2 := HLEN.out; omega) d2 _ hds2 S2 HD2
/-- symMergeCmpFunc: two sorted neighbouring runs are merged, stable. -/
theorem sw_symMerge (k : Nat) (zE : ∀ w, (Go.sizeOf 97).run Try.prog w = .ok k w) (enc : α → List Value) (g : Nat) (cb : Array Value) (blk cap N : Nat) (d0 : Array α) (w0 : World) (R : RowK enc k w0 blk 0 d0) (hs : d0.size = N) (hsz : N < 4611686018427387904) (cf : α → α → Int) (hcmp : CmpLays Try.prog g cb enc k cf blk 0 N w0) (eg : ∀ args w, (callFunc g args).run Try.prog w = .ok (.enter g args) w) (key : α → Int) (hkey : ∀ x y, cf x y < 0 ↔ key x < key y) (n : Nat) : SymOk k enc g cb blk cap N w0 key n := by
  induction n with
  | zero => intro d w hN S A U V C a m b hl hA hm hb hU hV sU sV hn; omega
  | succ n ih =>
    intro d w hN S A U V C a m b hl hA hm hb hU hV sU sV hn
    by_cases c1 : U.length = 1
    · exact sw_sym1 k zE enc g cb blk cap N d0 w0 R hs hsz cf hcmp eg key hkey d w hN S A U V C a m b hl hA hm hb hU hV sU sV c1
    · by_cases c2 : V.length = 1
      · exact sw_sym2 k zE enc g cb blk cap N d0 w0 R hs hsz cf hcmp eg key hkey d w hN S A U V C a m b hl hA hm hb hU hV sU sV c1 c2
      · by_cases hmx : (a + b) / 2 < m
        · exact sw_sym3 k zE enc g cb blk cap N d0 w0 R hs hsz cf hcmp eg key hkey d w hN S A U V C a m b hl hA hm hb hU hV sU sV n hn ih c1 c2 hmx
        · exact sw_sym4 k zE enc g cb blk cap N d0 w0 R hs hsz cf hcmp eg key hkey d w hN S A U V C a m b hl hA hm hb hU hV sU sV n hn ih c1 c2 hmx
end
section
open Go.Shelf Go.Lib Go.Sort Go.Proofs
variable {α : Type} [Inhabited α]
set_option maxHeartbeats 16000000 in
set_option maxRecDepth 1000000 in
/-- stableCmpFunc: the whole row is sorted, stable. -/
theorem sw_stable (k : Nat) (zE : ∀ w, (Go.sizeOf 97).run Try.prog w = .ok k w) (enc : α → List Value) (g : Nat) (cb : Array Value) (blk cap N : Nat) (d0 d : Array α) (w0 w : World) (R : RowK enc k w0 blk 0 d0) (hs : d0.size = N) (hN : d.size = N) (S : SWK enc k w0 blk 0 d w) (hsz : N < 4611686018427387904) (cf : α → α → Int) (hcmp : CmpLays Try.prog g cb enc k cf blk 0 N w0) (eg : ∀ args w, (callFunc g args).run Try.prog w = .ok (.enter g args) w) (key : α → Int) (hkey : ∀ x y, cf x y < 0 ↔ key x < key y) (L : List α) (hl : d.toList = L) :
    Calls Try.prog 106 #[.slice (some ⟨blk, 0, none⟩) N cap, .int .i64 N, .func (.func g) #[] cb] w fun e w' => e = .returned (.tuple #[]) ∧ ∃ d' L', SWK enc k w0 blk 0 d' w' ∧ d'.toList = L' ∧ StS key L' ∧ StE key L L' := by
  have HL := Aside0.mk hl
  have HLN : Aside0 (L.length = N) := ⟨by rw [← hl, Array.length_toList]; exact hN⟩
  have HC := Aside0.mk hcmp
  have HKEY := Aside0.mk hkey
  have S0 := Aside0.mk S
  have szD : ∀ {dx : Array α} {l : List α}, dx.toList = l → l.length = N → dx.size = N := fun h h' => by rw [st_size h]; exact h'
  have SZ := Aside0.mk @szD
  clear S hl hcmp hkey szD
  go_enter Try.func106, Try.ntmps106
  go_wp2
  go_loopg [7, 8] N (fun kx s7 s8 wr => ∃ (t a b : Nat) (dk : Array α) (D U : List α), s7 = .int .i64 a ∧ s8 = .int .i64 b ∧ Aside0 (a = t * 20 ∧ b = a + 20 ∧ a ≤ N ∧ N - a ≤ kx) ∧ dk.size = N ∧ Aside0 (SWK enc k w0 blk 0 dk wr) ∧ Aside0 (dk.toList = D ++ U) ∧ Aside0 (D.length = a ∧ StB key 20 D ∧ StE key L (D ++ U) ∧ D.length + U.length = N))
  case atStart => exact ⟨0, 0, 20, d, [], L, rfl, rfl, ⟨by omega⟩, hN, S0, ⟨HL.out⟩, ⟨rfl, st_blocks_nil key 20, st_same_refl key _, by simpa using HLN.out⟩⟩
  case round =>
    clear S0
    obtain ⟨t, a, b, dk, D, U, rfl, rfl, HT, hds, S1, HD, HX⟩ := hrel
    have hb : b = a + 20 := HT.out.2.1
    have haN : a ≤ N := HT.out.2.2.1
    by_cases hle : b ≤ N
    · have hlez : decide ((b : Int) ≤ (N : Int)) = true := decide_eq_true (by omega)
      have hc := sw_insertion k zE enc g cb blk cap N d0 dk w0 wr R hs hds S1.out hsz cf HC.out eg key HKEY.out D (U.take 20) (U.drop 20) a b (by rw [List.take_append_drop]; exact HD.out) HX.out.1 (by have := HX.out; rw [List.length_take]; omega)
      have HC1 := Aside0.mk hc
      have HB := Aside0.mk hb
      clear hc S1 hb
      go_wp2_with fail
      refine HC1.out.mono ?_
      rintro e w2 ⟨rfl, d2, U', hS2, hd2, s2, m2⟩
      have S2 := Aside0.mk hS2
      have HD2 := Aside0.mk hd2
      have HM := Aside0.mk (And.intro s2 m2)
      clear hS2 hd2 s2 m2 HC1
      go_wp2
      go_roundg (N - b)
      case measure => have := HT.out; have := HB.out; omega
      case rel =>
        have h1 := HX.out
        have h2 := HB.out
        have h3 := st_same_length key HM.out.2
        have h4 : U'.length = 20 := by rw [h3, List.length_take]; omega
        refine ⟨t + 1, b, b + 20, d2, D ++ U', U.drop 20, rfl, by first | rfl | go_num | (congr 1; omega), ⟨by have := HT.out; omega⟩, SZ.out HD2.out (by simp only [List.length_append, List.length_drop]; omega), S2, ⟨by rw [HD2.out]; simp⟩, ⟨by rw [List.length_append]; omega, st_blocks_add key h1.2.1 (t := t) (by have := HT.out; omega) HM.out.1 (by omega), ?_, by simp only [List.length_append, List.length_drop]; omega⟩⟩
        refine st_same_trans key h1.2.2.1 ?_
        have := st_same_append key (st_same_refl key D) (st_same_append key HM.out.2 (st_same_refl key (U.drop 20)))
        rw [List.take_append_drop] at this
        simpa [List.append_assoc] using this
    · have hlez : decide ((b : Int) ≤ (N : Int)) = false := decide_eq_false (by omega)
      have hc := sw_insertion k zE enc g cb blk cap N d0 dk w0 wr R hs hds S1.out hsz cf HC.out eg key HKEY.out D U [] a N (by rw [HD.out]; simp) HX.out.1 (by have := HX.out; omega)
      have HC1 := Aside0.mk hc
      have HB := Aside0.mk hb
      clear hc S1 hb
      go_wp2_with fail
      refine HC1.out.mono ?_
      rintro e w2 ⟨rfl, d2, U', hS2, hd2, s2, m2⟩
      have S2 := Aside0.mk hS2
      have HD2 : Aside0 (d2.toList = D ++ U') := ⟨by rw [hd2]; simp⟩
      have HM : Aside0 (StB key 20 (D ++ U') ∧ StE key L (D ++ U') ∧ (D ++ U').length = N) := ⟨by
        have h1 := HX.out
        have h3 := st_same_length key m2
        refine ⟨st_blocks_add key h1.2.1 (t := t) (by have := HT.out; omega) s2 (by have := HB.out; omega), st_same_trans key h1.2.2.1 (st_same_append key (st_same_refl key D) m2), by rw [List.length_append]; omega⟩⟩
      clear hS2 hd2 s2 m2 HC1
      go_wp2
      go_loopg [6, 7, 8, 9] N (fun kx s6 s7 s8 s9 wr => ∃ (bs : Nat) (dk : Array α) (Q : List α), s6 = .int .i64 bs ∧ Aside0 (1 ≤ bs ∧ N - bs ≤ kx ∧ bs < 9223372036854775808) ∧ dk.size = N ∧ Aside0 (SWK enc k w0 blk 0 dk wr) ∧ Aside0 (dk.toList = Q) ∧ Aside0 (StB key bs Q ∧ StE key L Q ∧ Q.length = N))
      case atStart => exact ⟨20, d2, D ++ U', rfl, ⟨by omega⟩, SZ.out HD2.out HM.out.2.2, S2, HD2, HM⟩
      case round =>
        clear S2 HD2 HM HD HX HB HT
        obtain ⟨bs, dq, Q, rfl, HBS, hqs, S1, HQ, HM⟩ := hrel
        by_cases hlt : bs < N
        · have hltz : decide ((bs : Int) < (N : Int)) = true := decide_eq_true (by omega)
          obtain ⟨B2, hB2⟩ : ∃ B2, B2 = 2 * bs := ⟨_, rfl⟩
          have h2a : 2 * (bs : Int) = (B2 : Int) := by omega
          have h2b : (bs : Int) * 2 = (B2 : Int) := by omega
          have hB2N : B2 < 9223372036854775807 := by omega
          have hw2 : IntKind.i64.wrap (B2 : Int) = (B2 : Int) := by rw [IntKind.wrap_i64]; omega
          have HB2 := Aside0.mk hB2
          clear hB2
          go_wp2
          go_loopg [7, 8] N (fun ky s7 s8 wr => ∃ (t a b : Nat) (dk : Array α) (D U : List α), s7 = .int .i64 a ∧ s8 = .int .i64 b ∧ Aside0 (a = t * B2 ∧ b = a + B2 ∧ a ≤ N ∧ N - a ≤ ky) ∧ dk.size = N ∧ Aside0 (SWK enc k w0 blk 0 dk wr) ∧ Aside0 (dk.toList = D ++ U) ∧ Aside0 (D.length = a ∧ StB key B2 D ∧ StB key bs U ∧ StE key L (D ++ U) ∧ D.length + U.length = N))
          case atStart => exact ⟨0, 0, B2, dq, [], Q, rfl, by first | rfl | go_num | (congr 1; omega), ⟨by omega⟩, hqs, S1, ⟨HQ.out⟩, ⟨rfl, st_blocks_nil key B2, HM.out.1, HM.out.2.1, by simpa using HM.out.2.2⟩⟩
          case round =>
            clear S1 HQ HM
            obtain ⟨t, a, b, dk, D, U, rfl, rfl, HT, hds, S1, HD, HX⟩ := hrel
            have haN : a ≤ N := HT.out.2.2.1
            have habs : a + bs < 9223372036854775807 := by omega
            have hb : b = a + B2 := HT.out.2.1
            have hw3 : IntKind.i64.wrap ((a : Int) + (bs : Int)) = (a : Int) + (bs : Int) := by rw [IntKind.wrap_i64]; omega
            by_cases hle : b ≤ N
            · have hlez : decide ((b : Int) ≤ (N : Int)) = true := decide_eq_true (by omega)
              have hw4 : IntKind.i64.wrap ((b : Int) + (B2 : Int)) = (b : Int) + (B2 : Int) := by rw [IntKind.wrap_i64]; omega
              have hU2 : B2 ≤ U.length := by have := HX.out; omega
              have hcut : U = U.take bs ++ ((U.drop bs).take bs ++ U.drop B2) := by
                have := st_cut (U) bs B2 (by have := HB2.out; omega)
                rwa [show B2 - bs = bs by have := HB2.out; omega] at this
              have h2 := st_blocks_two key HX.out.2.2.1
              have hl1 : (U.take bs).length = bs := by rw [List.length_take]; have := HB2.out; omega
              have hl2 : ((U.drop bs).take bs).length = bs := by rw [List.length_take, List.length_drop]; have := HB2.out; omega
              have hc := sw_symMerge k zE enc g cb blk cap N d0 w0 R hs hsz cf HC.out eg key HKEY.out ((U.take bs).length + ((U.drop bs).take bs).length) dk wr hds S1.out D (U.take bs) ((U.drop bs).take bs) (U.drop B2) a (a + bs) b (by rw [← hcut]; exact HD.out) HX.out.1 (by omega) (by have := HB2.out; omega) (by have := HBS.out; omega) (by have := HBS.out; omega) h2.1 h2.2 (Nat.le_refl _)
              rw [show ((a + bs : Nat) : Int) = (a : Int) + (bs : Int) by omega] at hc
              have HC1 := Aside0.mk hc
              have HB := Aside0.mk (And.intro hb (And.intro hU2 (And.intro hcut (And.intro hl1 hl2))))
              clear hc S1 hb hU2 hcut h2 hl1 hl2
              go_wp2_with fail
              refine HC1.out.mono ?_
              rintro e w2 ⟨rfl, d3, U', hS2, hd2, s2, m2⟩
              have S2 := Aside0.mk hS2
              have HD2 := Aside0.mk hd2
              have HM := Aside0.mk (And.intro s2 m2)
              clear hS2 hd2 s2 m2 HC1
              go_wp2
              go_roundg (N - b)
              case measure => have := HT.out; have := HB.out; have := HBS.out; have := HB2.out; omega
              case rel =>
                have h1 := HX.out
                have h2 := HB.out
                have h5 := HB2.out
                have h3 := st_same_length key HM.out.2
                rw [List.length_append, h2.2.2.2.1, h2.2.2.2.2] at h3
                have h4 : U'.length = B2 := by omega
                refine ⟨t + 1, b, b + B2, d3, D ++ U', U.drop B2, rfl, by first | rfl | go_num | (congr 1; omega), ⟨by have := HT.out; refine ⟨?_, rfl, by assumption, Nat.le_refl _⟩; rw [Nat.add_mul, Nat.one_mul]; omega⟩, SZ.out HD2.out (by simp only [List.length_append, List.length_drop]; omega), S2, ⟨by rw [HD2.out]; simp⟩, ⟨by rw [List.length_append]; omega, st_blocks_add key h1.2.1 (t := t) (by have := HT.out; omega) HM.out.1 (by omega), ?_, ?_, by simp only [List.length_append, List.length_drop]; omega⟩⟩
                · have := st_blocks_drop key h1.2.2.1 2
                  rwa [← h5] at this
                · refine st_same_trans key h1.2.2.2.1 ?_
                  have := st_same_append key (st_same_refl key D) (st_same_append key HM.out.2 (st_same_refl key (U.drop B2)))
                  rw [List.append_assoc, ← h2.2.2.1] at this
                  simpa [List.append_assoc] using this
            · have hlez : decide ((b : Int) ≤ (N : Int)) = false := decide_eq_false (by omega)
              by_cases hm : a + bs < N
              · have hmz : decide ((a : Int) + (bs : Int) < (N : Int)) = true := decide_eq_true (by omega)
                have hmz2 : (a : Int) + (bs : Int) < (N : Int) := by omega
                have h2 := st_blocks_two key HX.out.2.2.1
                have hl1 : (U.take bs).length = bs := by have := HX.out; rw [List.length_take]; omega
                have hl2 : (U.drop bs).length + (a + bs) = N := by have := HX.out; rw [List.length_drop]; omega
                have hdt : (U.drop bs).take bs = U.drop bs := List.take_of_length_le (by have := HB2.out; omega)
                rw [hdt] at h2
                have hc := sw_symMerge k zE enc g cb blk cap N d0 w0 R hs hsz cf HC.out eg key HKEY.out ((U.take bs).length + (U.drop bs).length) dk wr hds S1.out D (U.take bs) (U.drop bs) [] a (a + bs) N (by rw [List.append_nil, List.take_append_drop]; exact HD.out) HX.out.1 (by omega) (by omega) (by have := HBS.out; omega) (by omega) h2.1 h2.2 (Nat.le_refl _)
                rw [show ((a + bs : Nat) : Int) = (a : Int) + (bs : Int) by omega, List.take_append_drop] at hc
                have HC1 := Aside0.mk hc
                have HB := Aside0.mk hb
                clear hc S1 hb h2 hl1 hl2 hdt
                go_wp2_with fail
                refine HC1.out.mono ?_
                rintro e w2 ⟨rfl, d3, U', hS2, hd2, s2, m2⟩
                have S2 := Aside0.mk hS2
                have HD2 : Aside0 (d3.toList = D ++ U') := ⟨by rw [hd2]; simp⟩
                have HM : Aside0 (StB key B2 (D ++ U') ∧ StE key L (D ++ U') ∧ (D ++ U').length = N) := ⟨by
                  have h1 := HX.out
                  have h3 := st_same_length key m2
                  refine ⟨st_blocks_add key h1.2.1 (t := t) (by have := HT.out; omega) s2 (by have := HB.out; have := HB2.out; omega), st_same_trans key h1.2.2.2.1 (st_same_append key (st_same_refl key D) m2), by rw [List.length_append]; omega⟩⟩
                clear hS2 hd2 s2 m2 HC1
                go_wp2
                go_roundg (N - B2)
                case measure => have := HBS.out; have := HB2.out; omega
                case rel => exact ⟨B2, d3, D ++ U', by first | rfl | go_num | (congr 1; omega), ⟨by have := HBS.out; have := HB2.out; omega⟩, SZ.out HD2.out HM.out.2.2, S2, HD2, HM⟩
              · have hmz : decide ((a : Int) + (bs : Int) < (N : Int)) = false := decide_eq_false (by omega)
                have hmz2 : ¬ (a : Int) + (bs : Int) < (N : Int) := by omega
                have HM : Aside0 (StB key B2 (D ++ U) ∧ StE key L (D ++ U) ∧ (D ++ U).length = N) := ⟨by
                  have h1 := HX.out
                  refine ⟨st_blocks_add key h1.2.1 (t := t) (by have := HT.out; omega) (st_blocks_whole key h1.2.2.1 (by omega)) (by have := HB2.out; omega), h1.2.2.2.1, by rw [List.length_append]; omega⟩⟩
                go_wp2
                go_roundg (N - B2)
                case measure => have := HBS.out; have := HB2.out; omega
                case rel => exact ⟨B2, dk, D ++ U, by first | rfl | go_num | (congr 1; omega), ⟨by have := HBS.out; have := HB2.out; omega⟩, hds, S1, HD, HM⟩
        · have hltz : decide ((bs : Int) < (N : Int)) = false := decide_eq_false (by omega)
          go_wp2
          go_end0
          have h1 := HM.out
          exact ⟨rfl, dq, Q, S1.out, HQ.out, st_blocks_whole key h1.1 (by omega), h1.2.1⟩
end
section
open Go.Sort Go.Lib Go.Shelf
variable {α : Type} [Inhabited α] {enc : α → List Value} {k : Nat}
theorem sk_flat_seg (hk : ∀ x, (enc x).length = k) (l : List α) (j : Nat) (p : α) (h : l[j]? = some p) : ((flatK enc k l.toArray).toList.drop (j * k)).take k = enc p := by
  obtain ⟨hj, hp⟩ := List.getElem?_eq_some_iff.1 h
  apply List.ext_getElem?
  intro i
  rcases Nat.lt_or_ge i k with c | c
  · have hm : j * k + i < l.length * k := by
      have := Nat.mul_le_mul_right k (show j + 1 ≤ l.length from hj)
      rw [Nat.add_mul, Nat.one_mul] at this; omega
    have e1 : (j * k + i) / k = j := by rw [Nat.mul_comm, Nat.mul_add_div (by omega), Nat.div_eq_of_lt c, Nat.add_zero]
    have e2 : (j * k + i) % k = i := by rw [Nat.mul_comm, Nat.mul_add_mod, Nat.mod_eq_of_lt c]
    have hg := get_flatK enc k l.toArray (j * k + i) (by simpa using hm)
    rw [e1, e2] at hg
    rw [List.getElem?_take_of_lt c, List.getElem?_drop, List.getElem?_eq_getElem (by simpa using hm), List.getElem?_eq_getElem (by rw [hk]; exact c)]
    have e3 : (flatK enc k l.toArray)[j * k + i]! = (flatK enc k l.toArray).toList[j * k + i]'(by simpa using hm) := by
      rw [getElem!_pos _ _ (by simpa using hm)]
      rw [Array.getElem_toList]
    rw [← e3, hg]
    have e4 : l.toArray[j]! = p := by
      rw [getElem!_pos _ _ (by simpa using hj)]
      simpa using hp
    rw [e4, getElem!_pos _ _ (by rw [hk]; exact c)]
  · rw [List.getElem?_eq_none (by rw [List.length_take]; omega), List.getElem?_eq_none (by rw [hk]; exact c)]
theorem sk_flat_of (hk : ∀ x, (enc x).length = k) (l : List α) (inner : List Value) (hl : inner.length = l.length * k) (h : ∀ j p, l[j]? = some p → (inner.drop (j * k)).take k = enc p) : inner = (flatK enc k l.toArray).toList := by
  apply List.ext_getElem?
  intro t
  rcases Nat.lt_or_ge t (l.length * k) with c | c
  · have hk0 : 0 < k := by
      rcases Nat.eq_zero_or_pos k with h0 | h0
      · rw [h0] at c; simp at c
      · exact h0
    have hj : t / k < l.length := (Nat.div_lt_iff_lt_mul hk0).2 c
    have h1 := h (t / k) _ (List.getElem?_eq_getElem hj)
    have h2 := sk_flat_seg hk l (t / k) _ (List.getElem?_eq_getElem hj)
    have h3 := congrArg (fun z => z[t % k]?) (h1.trans h2.symm)
    simp only [List.getElem?_take_of_lt (Nat.mod_lt t hk0), List.getElem?_drop] at h3
    rwa [show t / k * k + t % k = t from Nat.div_add_mod' t k] at h3
  · rw [List.getElem?_eq_none (by omega), List.getElem?_eq_none (by simp; omega)]
theorem sk_rowk {d : Kd α} {e : Nat} {w : World} {base : Nat} {ok : Nat → Prop} {g n cap : Nat} {xs : List α} (hsz : d.sz = k) (hk : ∀ x, (enc x).length = k) (h1 : ∀ x, ∀ v ∈ enc x, v.oneCell' = true) (op : ∀ {w base ok x cs}, d.M w base ok x cs → cs = enc x)
    (h : d.R e w base ok (.slice (some ⟨g, 0, none⟩) n cap) xs) : Go.Proofs.RowK enc k w g 0 xs.toArray := by
  obtain ⟨_, inner, ho, hr⟩ := h
  rw [hsz] at ho hr
  have hi := sk_flat_of hk xs inner hr.1 (fun j p hp => op (hr.2 j p hp))
  obtain ⟨_, ho2⟩ := ho
  rcases ho2 with ⟨hv', _⟩ | ⟨g', cap', cur, hv', hb, hh, hnc', hcm, hcs, ht⟩
  · cases hv'
  injection hv' with ha _ hc
  injection ha with ha
  injection ha with hg
  subst hg
  refine ⟨hk, h1, ?_, (Array.getElem?_eq_some_iff.1 hh).1⟩
  have := so_holds (enc := id) (xs := inner) hh (by rw [hr.1, ht]; simp)
  rw [hi] at this
  simpa [HoldsK] using this
theorem sk_back {d : Kd α} {e : Nat} {w w' : World} {base : Nat} {ok : Nat → Prop} {g n cap : Nat} {xs : List α} {dk : Array α} (hsz : d.sz = k) (hk : ∀ x, (enc x).length = k) (mk : ∀ w base ok x, d.M w base ok x (enc x)) 
    (h : d.R e w base ok (.slice (some ⟨g, 0, none⟩) n cap) xs) (hs : dk.size = xs.length) (S : Go.Proofs.SWK enc k w g 0 dk w') : d.R e w' base ok (.slice (some ⟨g, 0, none⟩) n cap) dk.toList ∧ w.grownBy w' (some g) := by
  obtain ⟨m, os, rfl⟩ := S
  obtain ⟨hok, inner, ho, hr⟩ := h
  obtain ⟨ho1, ho2⟩ := ho
  rcases ho2 with ⟨hv', _⟩ | ⟨g', cap', cur, hv', hb, hh, hnc', hcm, hcs, ht⟩
  · cases hv'
  injection hv' with ha hn2 hc
  injection ha with ha
  injection ha with hg
  subst hg; subst hc
  have hlen : (flatK enc k dk).toList.length = xs.length * k := by simp [hs]
  have hfit : (flatK enc k dk).toList.length ≤ cur.size := by
    rw [hlen, hcs, hsz]; exact Nat.mul_le_mul_right _ hnc'
  have e1 : (flatK enc k dk).toList.toArray = flatK enc k dk := by simp
  refine ⟨⟨hok, (flatK enc k dk).toList, ⟨by rw [hlen, hsz]; simp [hs], .inr ⟨g, cap, putCells id 0 (flatK enc k dk) cur, by rw [hn2]; simp [hs], hb, ?_, by simpa [hs] using hnc', hcm, by simpa [putCells] using hcs, ?_⟩⟩, ⟨by rw [hlen, hsz]; simp [hs], fun j p hp => ?_⟩⟩, ?_⟩
  · exact so_heap (enc := id) (flatK enc k dk) hh
  · have := so_take (enc := id) cur (flatK enc k dk).toList hfit
    rw [e1, hlen] at this
    rw [hsz]
    simpa [hs] using this
  · have := sk_flat_seg hk dk.toList j p hp
    rw [Array.toArray_toList] at this
    rw [hsz, this]
    exact mk _ _ _ _
  · exact so_grownBy (enc := id) _
end
section
open Go.Shelf Go.Lib Go.Sort Go.Proofs
set_option maxHeartbeats 800000 in
theorem sw_ins0 (A0 : Option Addr) (n c : Nat) (f : Value) (w : World) : Calls Try.prog 127 #[.slice A0 n c, .int .i64 0, .int .i64 0, f] w fun e w' => e = .returned (.tuple #[]) ∧ w' = w := by
  go_enter Try.func127, Try.ntmps127
  go_wp2
  go_loopg [8] 0 (fun kx s8 wr => s8 = .int .i64 1 ∧ wr = w)
  case atStart => exact ⟨rfl, rfl⟩
  case round =>
    obtain ⟨rfl, rfl⟩ := hrel
    go_wp2
    go_end0
    exact ⟨rfl, rfl⟩
set_option maxHeartbeats 800000 in
theorem sw_stable0 (A0 : Option Addr) (c : Nat) (f : Value) (w : World) : Calls Try.prog 106 #[.slice A0 0 c, .int .i64 0, f] w fun e w' => e = .returned (.tuple #[]) ∧ w' = w := by
  have HC := Aside0.mk (sw_ins0 A0 0 c f w)
  go_enter Try.func106, Try.ntmps106
  go_wp2
  go_loopg [7, 8] 0 (fun kx s7 s8 wr => s7 = .int .i64 0 ∧ s8 = .int .i64 20 ∧ wr = w)
  case atStart => exact ⟨rfl, rfl, rfl⟩
  case round =>
    obtain ⟨rfl, rfl, rfl⟩ := hrel
    go_wp2_with fail
    refine HC.out.mono ?_
    rintro e w2 ⟨rfl, rfl⟩
    go_wp2
    go_loopg [6] 0 (fun kx s6 wr => s6 = .int .i64 20 ∧ wr = w2)
    case atStart => exact ⟨rfl, rfl⟩
    case round =>
      obtain ⟨rfl, rfl⟩ := hrel
      go_wp2
      go_end0
      exact ⟨rfl, rfl⟩
set_option maxHeartbeats 1600000 in
/-- slices.SortStableFunc at a row of the call's own: sorted by key, the same elements of each key in the same order. -/
theorem sw_sortRow (G : Nat) (key : S97 → Int) (cf : S97 → S97 → Int) (hkey : ∀ x y, cf x y < 0 ↔ key x < key y) (eg : ∀ args w, (callFunc G args).run Try.prog w = .ok (.enter G args) w)
    (hlay : ∀ (W : World) (x y : S97), Calls Try.prog G #[.agg #[.int .i64 x.f0, .int .i64 x.f1, .int .i64 x.f2.f0, .int .i64 x.f2.f1, .int .i64 x.f2.f2, .int .i64 x.f2.f3, .int .i64 x.f2.f4], .agg #[.int .i64 y.f0, .int .i64 y.f1, .int .i64 y.f2.f0, .int .i64 y.f2.f1, .int .i64 y.f2.f2, .int .i64 y.f2.f3, .int .i64 y.f2.f4]] W fun e w' => e = .returned (.int .i64 (cf x y)) ∧ ∃ q os', w' = grow (W.drewN q) os')
    (v : Value) (l0 : List S97) (base : Nat) (w : World) (ho : Kd.R k97 97 w base (fun _ => True) v l0) (hlen : l0.length < 4611686018427387904) :
    Calls Try.prog 71 #[v, .func (.func G) #[] #[]] w fun e w' => e = .returned (.tuple #[]) ∧ ∃ l', Kd.R k97 97 w' base (fun _ => True) v l' ∧ StS key l' ∧ StE key l0 l' ∧ w.grownBy w' v.ownBlock := by
  rcases Nat.eq_zero_or_pos l0.length with h0 | h0
  · obtain ⟨A0, c0, rfl, hc0, hr0⟩ := Kd.R_reads ho
    have hl : l0 = [] := List.eq_nil_of_length_eq_zero h0
    subst hl
    have HC := Aside0.mk (sw_stable0 A0 c0 (.func (.func G) #[] #[]) w)
    have HO := Aside0.mk ho
    clear hr0 hc0 ho hlay hkey eg
    go_enter Try.func71, Try.ntmps71
    go_wp2_with fail
    refine HC.out.mono ?_
    rintro e w2 ⟨rfl, rfl⟩
    go_wp2
    go_end0
    exact ⟨rfl, [], HO.out, List.Pairwise.nil, fun _ => rfl, ⟨rfl, rfl, rfl, Nat.le_refl _, fun _ _ _ => rfl⟩⟩
  · obtain ⟨g0, cap, rfl, hg0, hgl, _⟩ := Kd.R_form ho h0
    haveI : Inhabited S97 := ⟨z97⟩
    have hk : ∀ x : S97, ([.int .i64 x.f0, .int .i64 x.f1, .int .i64 x.f2.f0, .int .i64 x.f2.f1, .int .i64 x.f2.f2, .int .i64 x.f2.f3, .int .i64 x.f2.f4] : List Value).length = 7 := fun _ => rfl
    have h1 : ∀ x : S97, ∀ u ∈ ([.int .i64 x.f0, .int .i64 x.f1, .int .i64 x.f2.f0, .int .i64 x.f2.f1, .int .i64 x.f2.f2, .int .i64 x.f2.f3, .int .i64 x.f2.f4] : List Value), u.oneCell' = true := fun x => k97.K_one (k97_mk w x)
    have RK := sk_rowk (d := k97) (enc := fun x => [.int .i64 x.f0, .int .i64 x.f1, .int .i64 x.f2.f0, .int .i64 x.f2.f1, .int .i64 x.f2.f2, .int .i64 x.f2.f3, .int .i64 x.f2.f4]) (k := 7) rfl hk h1 (fun h => k97_openM h) ho
    have hcm : CmpLays Try.prog G #[] (fun x : S97 => [.int .i64 x.f0, .int .i64 x.f1, .int .i64 x.f2.f0, .int .i64 x.f2.f1, .int .i64 x.f2.f2, .int .i64 x.f2.f3, .int .i64 x.f2.f4]) 7 cf g0 0 l0.length w := by
      intro m os dk _ x y
      have h9 := hlay (sortWorldK (fun x : S97 => [.int .i64 x.f0, .int .i64 x.f1, .int .i64 x.f2.f0, .int .i64 x.f2.f1, .int .i64 x.f2.f2, .int .i64 x.f2.f3, .int .i64 x.f2.f4]) 7 w g0 0 m dk os) x y
      rw [Array.append_empty]
      exact h9
    have hS := sw_stable (α := S97) 7 (fun w => by kernel_rfl) (fun x => [.int .i64 x.f0, .int .i64 x.f1, .int .i64 x.f2.f0, .int .i64 x.f2.f1, .int .i64 x.f2.f2, .int .i64 x.f2.f3, .int .i64 x.f2.f4]) G #[] g0 cap l0.length l0.toArray l0.toArray w w RK (by simp) (by simp) (SWK.start RK.hH) hlen cf hcm eg key hkey l0 (by simp)
    have HC := Aside0.mk hS
    have HO := Aside0.mk ho
    clear hS hcm RK ho hlay hkey eg h1 hk
    go_enter Try.func71, Try.ntmps71
    go_wp2_with fail
    refine HC.out.mono ?_
    rintro e w2 ⟨rfl, d', l', hS2, hd2, s2, m2⟩
    have hsz2 : d'.size = l0.length := by have := st_same_length key m2; rw [st_size hd2, this]
    have hz : (k97).sz = 7 := rfl
    have hmk : ∀ (w : World) (base : Nat) (ok : Nat → Prop) (x : S97), (k97).M w base ok x ((fun x : S97 => ([.int .i64 x.f0, .int .i64 x.f1, .int .i64 x.f2.f0, .int .i64 x.f2.f1, .int .i64 x.f2.f2, .int .i64 x.f2.f3, .int .i64 x.f2.f4] : List Value)) x) := fun w base ok x => k97_mkM w base ok x
    have hkk : ∀ x : S97, ((fun x : S97 => ([.int .i64 x.f0, .int .i64 x.f1, .int .i64 x.f2.f0, .int .i64 x.f2.f1, .int .i64 x.f2.f2, .int .i64 x.f2.f3, .int .i64 x.f2.f4] : List Value)) x).length = 7 := fun _ => rfl
    generalize (fun x : S97 => ([.int .i64 x.f0, .int .i64 x.f1, .int .i64 x.f2.f0, .int .i64 x.f2.f1, .int .i64 x.f2.f2, .int .i64 x.f2.f3, .int .i64 x.f2.f4] : List Value)) = ec at hS2 hmk hkk
    have hb := sk_back hz hkk hmk HO.out hsz2 hS2
    rw [hd2] at hb
    have HBK := Aside0.mk hb
    have HM := Aside0.mk (And.intro s2 m2)
    clear hb hS2 hd2 s2 m2 HC
    go_wp2
    go_end0
    exact ⟨rfl, l', HBK.out.1, HM.out.1, HM.out.2, HBK.out.2⟩
end
/-! slices.CompactFunc, in plain Lean. -/
section
variable {α : Type} (p : α → α → Bool)
def cpF : α → List α → List α
  | _, [] => []
  | a, y :: r => if p y a then cpF y r else y :: cpF y r
def cpP : List α → List α
  | [] => []
  | x :: r => x :: cpF p x r
theorem cpF_snoc (l : List α) (b y : α) : ∀ a, cpF p a (l ++ [b] ++ [y]) = cpF p a (l ++ [b]) ++ (if p y b then [] else [y]) := by
  induction l with
  | nil =>
    intro a
    simp only [List.nil_append, List.cons_append, cpF]
    by_cases h1 : p b a = true <;> by_cases h2 : p y b = true <;> simp [h1, h2]
  | cons x l ih =>
    intro a
    simp only [List.cons_append, cpF]
    have := ih x
    split <;> simp_all
theorem cpP_snoc (l : List α) (b y : α) : cpP p (l ++ [b] ++ [y]) = cpP p (l ++ [b]) ++ (if p y b then [] else [y]) := by
  cases l with
  | nil =>
    simp only [List.nil_append, List.cons_append, cpP, cpF]
  | cons x l =>
    simp only [List.cons_append, cpP]
    rw [cpF_snoc]
theorem cpP_step (l : List α) (j : Nat) (h0 : 1 ≤ j) (hj : j < l.length) (x y : α) (hx : l[j - 1]? = some x) (hy : l[j]? = some y) : cpP p (l.take (j + 1)) = cpP p (l.take j) ++ (if p y x then [] else [y]) := by
  obtain ⟨i, rfl⟩ : ∃ i, j = i + 1 := ⟨j - 1, by omega⟩
  rw [Nat.add_sub_cancel] at hx
  obtain ⟨hx1, hx2⟩ := List.getElem?_eq_some_iff.1 hx
  obtain ⟨hy1, hy2⟩ := List.getElem?_eq_some_iff.1 hy
  rw [List.take_succ_eq_append_getElem hy1, List.take_succ_eq_append_getElem hx1, hx2, hy2]
  exact cpP_snoc p _ _ _
theorem cpP_short (l : List α) (h : l.length < 2) : cpP p l = l := by
  match l, h with
  | [], _ => rfl
  | [_], _ => rfl
theorem cpP_one (l : List α) (h : 1 ≤ l.length) : cpP p (l.take 1) = l.take 1 := cpP_short p _ (by rw [List.length_take]; omega)
end
section
open Go.Shelf Go.Lib Go.Sort Go.Proofs
variable {α : Type} [Inhabited α]
theorem sk_setMany (enc : α → List Value) (k : Nat) (hk : ∀ x, (enc x).length = k) (d : Array α) (i : Nat) (hi : i < d.size) (y : α) : setMany (flatK enc k d) (i * k) (enc y) = flatK enc k (d.setIfInBounds i y) := by
  apply ext_get!
  · simp
  · intro t ht
    rw [size_setMany, size_flatK] at ht
    have hk0 : 0 < k := by
      rcases Nat.eq_zero_or_pos k with h0 | h0
      · rw [h0] at ht; simp at ht
      · exact h0
    rw [get_setMany _ _ _ _ (by rw [size_flatK]; exact ht), get_flatK enc k (d.setIfInBounds i y) t (by simpa using ht), hk]
    have hb := blk_iff k i t hk0
    have htk : t / k < d.size := (Nat.div_lt_iff_lt_mul hk0).2 ht
    by_cases c : t / k = i
    · rw [if_pos (hb.2 c)]
      have e1 : (d.setIfInBounds i y)[t / k]! = y := by
        rw [c, getElem!_pos (d.setIfInBounds i y) i (by simpa using hi)]
        simp
      have e2 : t - i * k = t % k := by
        have := Nat.div_add_mod t k
        rw [c, Nat.mul_comm] at this
        omega
      rw [e1, e2]
    · rw [if_neg (fun h => c (hb.1 h)), get_flatK enc k d t ht]
      have e1 : (d.setIfInBounds i y)[t / k]! = d[t / k]! := by
        rw [getElem!_pos (d.setIfInBounds i y) (t / k) (by simpa using htk), getElem!_pos d (t / k) htk]
        rw [Array.getElem_setIfInBounds_ne]
        exact fun h => c h.symm
      rw [e1]
theorem sk_put {enc : α → List Value} {k : Nat} {w0 W : World} {blk : Nat} {dk : Array α} (h : SWK enc k w0 blk 0 dk W) (hk : ∀ x, (enc x).length = k) (hblk : blk < w0.heap.size) (i : Nat) (hi : i < dk.size) (y : α) :
    SWK enc k w0 blk 0 (dk.setIfInBounds i y) (W.setCells blk (0 + i * k) (enc y)) := by
  obtain ⟨m, os, rfl⟩ := h
  refine ⟨m, os, ?_⟩
  unfold sortWorldK
  rw [setCells_grow os blk _ _ _ (by rw [size_putRowK]; exact hblk)]
  congr 1
  unfold putRowK
  rw [setCells_putRow _ _ _ _ _ _ (by rw [size_flatK, hk]; have := Nat.mul_le_mul_right k (show i + 1 ≤ dk.size from hi); rwa [Nat.add_mul, Nat.one_mul] at this), sk_setMany enc k hk dk i hi y]
end
section
open Go.Shelf Go.Lib Go.Sort Go.Proofs
set_option maxHeartbeats 4000000 in
set_option maxRecDepth 100000 in
/-- slices.CompactFunc at a row of the call's own. -/
theorem sw_compact (G : Nat) (eqf : S97 → S97 → Bool) (eg : ∀ args w, (callFunc G args).run Try.prog w = .ok (.enter G args) w)
    (hlay : ∀ (W : World) (x y : S97), Calls Try.prog G #[.agg #[.int .i64 x.f0, .int .i64 x.f1, .int .i64 x.f2.f0, .int .i64 x.f2.f1, .int .i64 x.f2.f2, .int .i64 x.f2.f3, .int .i64 x.f2.f4], .agg #[.int .i64 y.f0, .int .i64 y.f1, .int .i64 y.f2.f0, .int .i64 y.f2.f1, .int .i64 y.f2.f2, .int .i64 y.f2.f3, .int .i64 y.f2.f4]] W fun e w' => e = .returned (.bool (eqf x y)) ∧ ∃ q os', w' = grow (W.drewN q) os')
    (v : Value) (l0 : List S97) (base : Nat) (w : World) (ho : Kd.R k97 97 w base (fun _ => True) v l0) (hlen : l0.length < 4611686018427387904) :
    Calls Try.prog 73 #[v, .func (.func G) #[] #[]] w fun e w' => ∃ v' : Value, e = .returned v' ∧ Kd.R k97 97 w' base (fun _ => True) v' (cpP eqf l0) ∧ w.grownBy w' v.ownBlock := by
  obtain ⟨k7, h7⟩ : ∃ k7 : Nat, k7 = 7 := ⟨_, rfl⟩
  have aE := fun w : World => (show (isAgg 97).run Try.prog w = .ok true w by kernel_rfl)
  have zE := fun w : World => (show (Go.sizeOf 97).run Try.prog w = .ok k7 w by rw [h7]; kernel_rfl)
  have mixed : Try.prog.follows .mixedOrders = true := by kernel_rfl
  by_cases h2 : l0.length < 2
  · obtain ⟨A0, c0, rfl, hc0, hr0⟩ := Kd.R_reads ho
    have h2z : decide ((l0.length : Int) < 2) = true := decide_eq_true (by omega)
    have HO := Aside0.mk ho
    clear hr0 hc0 ho hlay eg
    go_enter Try.func73, Try.ntmps73
    go_wp2
    go_ret
    exact ⟨_, rfl, by rw [cpP_short eqf l0 h2]; exact HO.out, ⟨rfl, rfl, rfl, Nat.le_refl _, fun _ _ _ => rfl⟩⟩
  · have h2z : decide ((l0.length : Int) < 2) = false := decide_eq_false (by omega)
    have h2n : ¬ (l0.length : Int) < 2 := by omega
    obtain ⟨g0, cap, ev, hg0, hgl, _⟩ := Kd.R_form ho (by omega)
    subst ev
    have hcap : l0.length ≤ cap := (Kd.R_reads' ho).2.1
    haveI : Inhabited S97 := ⟨z97⟩
    have hk : ∀ x : S97, ((fun x : S97 => ([.int .i64 x.f0, .int .i64 x.f1, .int .i64 x.f2.f0, .int .i64 x.f2.f1, .int .i64 x.f2.f2, .int .i64 x.f2.f3, .int .i64 x.f2.f4] : List Value)) x).length = k7 := fun _ => by rw [h7]; rfl
    have hmk : ∀ (w : World) (base : Nat) (ok : Nat → Prop) (x : S97), (k97).M w base ok x ((fun x : S97 => ([.int .i64 x.f0, .int .i64 x.f1, .int .i64 x.f2.f0, .int .i64 x.f2.f1, .int .i64 x.f2.f2, .int .i64 x.f2.f3, .int .i64 x.f2.f4] : List Value)) x) := fun w base ok x => k97_mkM w base ok x
    have RK := sk_rowk (d := k97) (enc := fun x => [.int .i64 x.f0, .int .i64 x.f1, .int .i64 x.f2.f0, .int .i64 x.f2.f1, .int .i64 x.f2.f2, .int .i64 x.f2.f3, .int .i64 x.f2.f4]) (k := k7) (by rw [h7]; rfl) hk (fun x => k97.K_one (k97_mk w x)) (fun h => k97_openM h) ho
    have hL : ∀ (W : World) (x y : S97) (n : Nat) (os : Array Obj), Calls Try.prog G #[.agg ((fun x : S97 => ([.int .i64 x.f0, .int .i64 x.f1, .int .i64 x.f2.f0, .int .i64 x.f2.f1, .int .i64 x.f2.f2, .int .i64 x.f2.f3, .int .i64 x.f2.f4] : List Value)) x).toArray, .agg ((fun x : S97 => ([.int .i64 x.f0, .int .i64 x.f1, .int .i64 x.f2.f0, .int .i64 x.f2.f1, .int .i64 x.f2.f2, .int .i64 x.f2.f3, .int .i64 x.f2.f4] : List Value)) y).toArray] (grow (W.drewN n) os) fun e w' => e = .returned (.bool (eqf x y)) ∧ ∃ q os', w' = grow ((grow (W.drewN n) os).drewN q) os' := fun W x y n os => hlay _ x y
    generalize (fun x : S97 => ([.int .i64 x.f0, .int .i64 x.f1, .int .i64 x.f2.f0, .int .i64 x.f2.f1, .int .i64 x.f2.f2, .int .i64 x.f2.f3, .int .i64 x.f2.f4] : List Value)) = ec at hk hmk RK hL
    have hz : (k97).sz = k7 := by rw [h7]; rfl
    have H7 := Aside0.mk h7
    have HH := Aside0.mk (And.intro hk (And.intro hmk hz))
    have HL := Aside0.mk hL
    have HO := Aside0.mk ho
    have S0 := Aside0.mk (SWK.start RK.hH)
    have h2' : 2 ≤ l0.length := by omega
    clear hlay hk hmk hL hz ho h2 h7
    go_enter Try.func73, Try.ntmps73
    go_wp2
    go_loopg [5] l0.length (fun kx s5 wr => ∃ (i : Nat), s5 = .int .i64 i ∧ Aside0 (1 ≤ i ∧ i ≤ l0.length ∧ l0.length - i ≤ kx) ∧ Aside0 (SWK ec k7 w g0 0 l0.toArray wr) ∧ Aside0 (cpP eqf (l0.take i) = l0.take i))
    case atStart => exact ⟨1, rfl, ⟨by omega⟩, S0, ⟨cpP_one eqf l0 (by omega)⟩⟩
    case round =>
      clear S0
      obtain ⟨i, rfl, HI, S1, HX⟩ := hrel
      by_cases hlt : i < l0.length
      · obtain ⟨ip, rfl⟩ : ∃ ip, i = ip + 1 := ⟨i - 1, by have := HI.out; omega⟩
        have hltz : decide (((ip : Int) + 1) < (l0.length : Int)) = true := decide_eq_true (by omega)
        have hltz2 : (ip : Int) + 1 < (l0.length : Int) := by omega
        have ea : ((ip : Int) + 1).toNat = ip + 1 := by omega
        have pa : (0 : Int) ≤ (ip : Int) + 1 := by omega
        have bc : (ip : Int) < (l0.length : Int) := by omega
        have rc : IntKind.i64.wrap (ip : Int) = (ip : Int) := by rw [IntKind.wrap_i64]; omega
        obtain ⟨y, gy0⟩ : ∃ y, l0.toArray[ip + 1]! = y := ⟨_, rfl⟩
        obtain ⟨x, gx0⟩ : ∃ x, l0.toArray[ip]! = x := ⟨_, rfl⟩
        have la := S1.out.ld RK rfl Try.prog (ip + 1) (by simpa using hlt)
        have lb := S1.out.ld RK rfl Try.prog ip (by simp; omega)
        rw [gy0] at la
        rw [gx0] at lb
        simp only [Nat.zero_add] at la lb
        have hc := HL.out wr y x
        have GY : Aside0 (l0[ip + 1]? = some y ∧ l0[ip]? = some x) := ⟨by
          constructor
          · rw [← gy0, getElem!_pos l0.toArray (ip + 1) (by simpa using hlt), List.getElem?_eq_getElem hlt]; simp
          · rw [← gx0, getElem!_pos l0.toArray ip (by simp; omega), List.getElem?_eq_getElem (by omega)]; simp⟩
        clear gy0 gx0
        rcases Bool.eq_false_or_eq_true (eqf y x) with hq | hq
        · have HQ := Aside0.mk hq
          rw [hq] at hc
          clear hq
          go_wp2_with fail
          go_quiet_grown (first | (go_at_fn G; refine Calls.grown_of (hc _ _)))
          have S2 := Aside0.mk (S1.out.grown nq osq)
          clear la lb hc S1
          generalize grow (wr.drewN nq) osq = w2 at S2 ⊢
          clear nq osq
          have hcp : cpP eqf (l0.take (ip + 1 + 1)) = l0.take (ip + 1) := by
            rw [cpP_step eqf l0 (ip + 1) (by omega) hlt x y GY.out.2 GY.out.1, HQ.out, HX.out]
            simp
          have HCP := Aside0.mk hcp
          clear hcp HX
          obtain ⟨i, hi⟩ : ∃ i, i = ip + 1 := ⟨_, rfl⟩
          have hiz : (ip : Int) + 1 = (i : Int) := by omega
          have hi0 : (0 : Int) ≤ (i : Int) := by omega
          have hiN : i < l0.length := by omega
          have hiNz : decide ((i : Int) ≤ (l0.length : Int)) = true := decide_eq_true (by omega)
          have hicz : decide ((i : Int) ≤ (cap : Int)) = true := decide_eq_true (by omega)
          have HII := Aside0.mk hi
          clear hi
          go_wp2
          clear hiz
          go_loopg [5, 7] l0.length (fun ky s5 s7 wr => ∃ (a j : Nat) (dk : Array S97), s5 = .int .i64 a ∧ s7 = .int .i64 j ∧ Aside0 (i ≤ a ∧ a < i + j ∧ 1 ≤ j ∧ i + j ≤ l0.length ∧ l0.length - (i + j) ≤ ky) ∧ dk.size = l0.length ∧ Aside0 (SWK ec k7 w g0 0 dk wr) ∧ Aside0 (dk.toList.take a = cpP eqf (l0.take (i + j)) ∧ dk.toList.drop (i + j - 1) = l0.drop (i + j - 1)))
          case atStart => exact ⟨i, 1, l0.toArray, by have h0 := HII.out; first | (congr 1; omega) | rfl, rfl, ⟨by omega⟩, by simp, S2, ⟨by have := HCP.out; rw [← HII.out] at this; exact this.symm, rfl⟩⟩
          case round =>
            clear S2 HCP GY
            obtain ⟨a, j, dk, rfl, rfl, HJ, hds, S1, HX⟩ := hrel
            have haN : a < l0.length := by have := HJ.out; omega
            by_cases hjl : j < l0.length - i
            · obtain ⟨jp, rfl⟩ : ∃ jp, j = jp + 1 := ⟨j - 1, by have := HJ.out; omega⟩
              have hjlz : decide ((jp : Int) + 1 < ((l0.length - i : Nat) : Int)) = true := decide_eq_true (by omega)
              have hjlz2 : (jp : Int) + 1 < ((l0.length - i : Nat) : Int) := by omega
              have eb : ((jp : Int) + 1).toNat = jp + 1 := by omega
              have pb : (0 : Int) ≤ (jp : Int) + 1 := by omega
              have bd : (jp : Int) < ((l0.length - i : Nat) : Int) := by omega
              have rd : IntKind.i64.wrap (jp : Int) = (jp : Int) := by rw [IntKind.wrap_i64]; omega
              have re : IntKind.i64.wrap ((jp : Int) + 1) = (jp : Int) + 1 := by rw [IntKind.wrap_i64]; omega
              have hj1 : i + (jp + 1) < dk.size := by omega
              obtain ⟨y2, gy0⟩ : ∃ y, dk[i + (jp + 1)]! = y := ⟨_, rfl⟩
              obtain ⟨x2, gx0⟩ : ∃ x, dk[i + jp]! = x := ⟨_, rfl⟩
              have la := S1.out.ld RK (by simpa using hds) Try.prog (i + (jp + 1)) hj1
              have lb := S1.out.ld RK (by simpa using hds) Try.prog (i + jp) (by omega)
              have lc := S1.out.load RK (by simpa using hds) Try.prog (i + (jp + 1)) hj1
              rw [gy0] at la lc
              rw [gx0] at lb
              simp only [Nat.zero_add, Nat.add_mul i] at la lb lc
              have hc := HL.out wr y2 x2
              have GY : Aside0 (l0[i + (jp + 1)]? = some y2 ∧ l0[i + (jp + 1) - 1]? = some x2) := ⟨by
                have hd := HX.out.2
                constructor
                · have h1 := congrArg (fun z => z[1]?) hd
                  simp only [List.getElem?_drop] at h1
                  rw [show i + (jp + 1) - 1 + 1 = i + (jp + 1) by omega] at h1
                  rw [← h1, ← gy0, getElem!_pos dk (i + (jp + 1)) hj1, Array.getElem?_toList, Array.getElem?_eq_getElem hj1]
                · have h1 := congrArg (fun z => z[0]?) hd
                  simp only [List.getElem?_drop, Nat.add_zero] at h1
                  rw [← h1, ← gx0, show i + (jp + 1) - 1 = i + jp by omega, getElem!_pos dk (i + jp) (by omega), Array.getElem?_toList, Array.getElem?_eq_getElem (by omega)]⟩
              clear gy0 gx0
              rcases Bool.eq_false_or_eq_true (eqf y2 x2) with hq | hq
              · have HQ2 := Aside0.mk hq
                rw [hq] at hc
                clear hq lc
                go_wp2_with fail
                go_quiet_grown (first | (go_at_fn G; refine Calls.grown_of (hc _ _)))
                have S2 := Aside0.mk (S1.out.grown nq osq)
                clear la lb hc S1
                generalize grow (wr.drewN nq) osq = w2 at S2 ⊢
                clear nq osq
                go_wp2
                go_roundg (l0.length - (i + (jp + 1 + 1)))
                case measure => have := HJ.out; omega
                case rel =>
                  refine ⟨a, jp + 1 + 1, dk, rfl, by first | rfl | go_num | (congr 1; omega), ⟨by have := HJ.out; omega⟩, hds, S2, ⟨?_, ?_⟩⟩
                  · rw [show i + (jp + 1 + 1) = i + (jp + 1) + 1 by omega, cpP_step eqf l0 (i + (jp + 1)) (by omega) (by omega) x2 y2 GY.out.2 GY.out.1, HQ2.out, HX.out.1]
                    simp
                  · have := congrArg (List.drop 1) HX.out.2
                    rw [List.drop_drop, List.drop_drop] at this
                    rw [show i + (jp + 1 + 1) - 1 = i + (jp + 1) - 1 + 1 by omega]
                    exact this
              · have HQ2 := Aside0.mk hq
                rw [hq] at hc
                clear hq
                have S2q : ∀ n os, Sem.run Try.prog (loadCellsFrom ⟨g0, i * k7 + (jp + 1) * k7, none⟩ 0 k7 #[]) (grow (wr.drewN n) os) = .ok (ec y2).toArray (grow (wr.drewN n) os) := la
                have SS := Aside0.mk S2q
                clear S2q
                go_wp2_with fail
                go_quiet_grown (first | (go_at_fn G; refine Calls.grown_of (hc _ _)))
                have S2 := Aside0.mk (S1.out.grown nq osq)
                have ld2 := SS.out nq osq
                have st2 : Sem.run Try.prog (storeCells ⟨g0, a * k7, none⟩ (ec y2) 0) (grow (wr.drewN nq) osq) = .ok () ((grow (wr.drewN nq) osq).setCells g0 (a * k7) (ec y2)) := by
                  have := stores_of_holds Try.prog (S2.out.holds RK.hblk RK.hH (by simpa using hds)) (a * k7) (ec y2) (by rw [RK.hk, size_flatK]; exact rowK_bnd dk k7 a (by omega)) (RK.h1 _)
                  simpa only [Nat.zero_add] using this
                have S3 : Aside0 (SWK ec k7 w g0 0 (dk.setIfInBounds a y2) ((grow (wr.drewN nq) osq).setCells g0 (a * k7) (ec y2))) := ⟨by
                  have := sk_put S2.out RK.hk RK.hblk a (by omega) y2
                  simpa only [Nat.zero_add] using this⟩
                have nk2 : (ec y2).length = k7 := RK.hk _
                clear la lb lc hc S1 S2 SS
                generalize grow (wr.drewN nq) osq = w2 at S3 ld2 st2 ⊢
                clear nq osq
                generalize ec y2 = cy at S3 ld2 st2 nk2 ⊢
                have paz : (0 : Int) ≤ (a : Int) := by omega
                have baz : (a : Int) < (l0.length : Int) := by omega
                go_wp2
                go_roundg (l0.length - (i + (jp + 1 + 1)))
                case measure => have := HJ.out; omega
                case rel =>
                  refine ⟨a + 1, jp + 1 + 1, dk.setIfInBounds a y2, by first | rfl | go_num | (congr 1; omega), by first | rfl | go_num | (congr 1; omega), ⟨by have := HJ.out; omega⟩, by simpa using hds, S3, ⟨?_, ?_⟩⟩
                  · rw [show i + (jp + 1 + 1) = i + (jp + 1) + 1 by omega, cpP_step eqf l0 (i + (jp + 1)) (by omega) (by omega) x2 y2 GY.out.2 GY.out.1, HQ2.out, ← HX.out.1, Array.toList_setIfInBounds, List.take_succ_eq_append_getElem (by rw [List.length_set, Array.length_toList]; omega)]
                    simp [List.take_set_of_le]
                  · have := congrArg (List.drop 1) HX.out.2
                    rw [List.drop_drop, List.drop_drop] at this
                    rw [show i + (jp + 1 + 1) - 1 = i + (jp + 1) - 1 + 1 by omega, Array.toList_setIfInBounds, List.drop_set_of_lt (by have := HJ.out; omega)]
                    exact this
            · have hjlz : decide ((j : Int) < ((l0.length - i : Nat) : Int)) = false := decide_eq_false (by omega)
              have hjlz2 : ¬ (j : Int) < ((l0.length - i : Nat) : Int) := by omega
              have hij : i + j = l0.length := by have := HJ.out; omega
              have h3 : dk.toList.take a = cpP eqf l0 := by
                have := HX.out.1
                rwa [hij, List.take_of_length_le (Nat.le_refl _)] at this
              obtain ⟨hb, hgb⟩ := sk_back HH.out.2.2 HH.out.1 HH.out.2.1 HO.out (by simpa using hds) S1.out
              have HR0 := Aside0.mk hb
              have HGB := Aside0.mk hgb
              have H3 := Aside0.mk h3
              have hz7 : (k97).sz = 7 := rfl
              have paz : (0 : Int) ≤ (a : Int) := by omega
              have baz : (a : Int) ≤ (l0.length : Int) := by omega
              have bac : (a : Int) ≤ (cap : Int) := by omega
              obtain ⟨vs, hvl, hcl⟩ := run_clear_row (P := Try.prog) wr 36 97 0 _ Try.underlying36 Try.zeroValue97 (by intro q hq; exact k97.K_one (k97_mk wr z97) q hq) g0 (a * 7) (l0.length - a) (cap - a) (by omega)
                (fun q hq => (R_room hb (a * 7 + q) (by rw [hz7]; change q < (l0.length - a) * 7 at hq; omega)).1) (fun q hq => (R_room hb (a * 7 + q) (by rw [hz7]; change q < (l0.length - a) * 7 at hq; omega)).2)
              obtain ⟨hR, hG⟩ := R_cleared hb a (by omega) vs hvl
              have HR := Aside0.mk hR
              have HGr := Aside0.mk hG
              rw [hz7, ← H7.out] at hR
              rw [← H7.out] at hcl
              have e7 : (wr.setCells g0 (a * k7) vs) = wr.setCells g0 (a * 7) vs := by rw [H7.out]
              have E7 := Aside0.mk e7
              clear hR hG hvl hb hgb h3 hz7 e7 hjl hij HO HII HI HJ HX HQ hlt aE
              go_wp2
              go_ret
              have h1 := HR.out
              rw [H3.out] at h1
              refine ⟨_, rfl, ?_, ?_⟩
              · have hl : a = (cpP eqf l0).length := by rw [← H3.out, List.length_take, Array.length_toList]; omega
                first | exact h1 | (rw [E7.out]; exact h1) | (simpa [E7.out] using h1)
              · have := World.grownBy.trans HGB.out HGr.out
                first | exact this | (rw [E7.out]; exact this)
        · have HQ := Aside0.mk hq
          rw [hq] at hc
          clear hq
          go_wp2_with fail
          go_quiet_grown (first | (go_at_fn G; refine Calls.grown_of (hc _ _)))
          have S2 := Aside0.mk (S1.out.grown nq osq)
          clear la lb hc S1
          generalize grow (wr.drewN nq) osq = w2 at S2 ⊢
          clear nq osq
          go_wp2
          go_roundg (l0.length - (ip + 1 + 1))
          case measure => have := HI.out; omega
          case rel =>
            refine ⟨ip + 1 + 1, by first | rfl | go_num | (congr 1; omega), ⟨by omega⟩, S2, ⟨?_⟩⟩
            rw [cpP_step eqf l0 (ip + 1) (by omega) hlt x y GY.out.2 GY.out.1, HQ.out, HX.out]
            obtain ⟨hy1, hy2⟩ := List.getElem?_eq_some_iff.1 GY.out.1
            rw [List.take_succ_eq_append_getElem hy1, hy2]
            rfl
      · have hltz : decide ((i : Int) < (l0.length : Int)) = false := decide_eq_false (by omega)
        have hb := sk_back HH.out.2.2 HH.out.1 HH.out.2.1 HO.out (by simp) S1.out
        have HBK := Aside0.mk hb
        clear hb
        go_wp2
        go_ret
        have hi : l0.take i = l0 := List.take_of_length_le (by omega)
        have h3 := HX.out
        rw [hi] at h3
        exact ⟨_, rfl, by rw [h3]; simpa using HBK.out.1, HBK.out.2⟩
end
set_option maxHeartbeats 2000000 in
/-- slices.Clone at structs. -/
theorem impl_CanonNotes.clone.calls (A0 : Option Addr) (c0 : Nat) (l0 : List S97) (w : World) (hr0 : Kd.C k97 w A0 l0.length l0) (hlen : l0.length * 56 ≤ 140737488355328) :
    Calls Try.prog 70 #[.slice A0 l0.length c0] w fun e w' => ∃ v0_ : Value, e = .returned (v0_) ∧ Kd.R k97 97 w' w.heap.size (fun _ => True) v0_ l0 ∧ Below w.heap.size w w' := by
  have hu90 := Try.underlying97
  have q22 : ∀ (w : World) (a : Option Addr) (n c n' c' : Nat), (binOp .eql 36 (.slice a n c) (.slice none n' c')).run Try.prog w = .ok (.bool a.isNone) w := fun w a n c n' c' => Lib.run_eql_slice_nil w _ _ a n c n' c' Try.underlying36
  have HR0 := Aside0.mk hr0
  have HL := Aside0.mk hlen
  cases A0 with
  | none =>
    have h0 : l0 = [] := by
      rcases Nat.eq_zero_or_pos l0.length with h | h
      · exact List.eq_nil_of_length_eq_zero h
      · obtain ⟨ad, h1, _⟩ := hr0.2.2 h
        cases h1
    subst h0
    clear hr0 hlen HR0 HL
    go_enter Try.func70, Try.ntmps70
    go_wp2
    go_ret
    exact ⟨_, rfl, Kd.R_nil _ _ _ _ _, Below.refl _ _⟩
  | some ad =>
    clear hr0 hlen
    have HB := Aside0.mk (Below.refl w.heap.size w)
    go_enter Try.func70, Try.ntmps70
    go_wp2_with (first | ((with_reducible refine gate_dst (N := 5) rfl ?_); refine Kd.R_lit k97 _ 97 ?hg (N := 5) ?hd (xs := ([] : List (S97))) (inner := []) (ok := fun _ => True) (okp := fun _ => True) ?hr ?hp (fun _ hk => hk) trivial (Below.refl _ _) (Nat.le_refl _) (by simp) ?_; (case hd => rfl); (case hg => rfl); (case hr => first | (go_simp; done) | (go_simp; rfl)); (case hp => exact (Reps.none _ _)); intro v130 w2 ho3 hb hg_ hnew_; clear hg_ hnew_; have HO := Aside0.mk ho3; clear HB; have HB := Aside0.mk hb; clear ho3 hb) | ((with_reducible refine gate_builtin (b := .append) (xs := #[.tmp 5, .tmp 6]) rfl ?_); at_builtin; refine Kd.R_append_rows k97 (w0 := w) w.heap.size rfl (.tmp 5) (.tmp 6) 36 97 (.agg #[(.int .i64 0), (.int .i64 0), (.int .i64 0), (.int .i64 0), (.int .i64 0), (.int .i64 0), (.int .i64 0)]) 56 rfl Try.underlying36 info97 rfl (by decide) (by omega) v130 ([] : List (S97)) l0 _ _ _ (fun _ => True) (fun _ => False) rfl rfl ?aO ?aR (fun _ _ h => h) (fun _ h => h.elim) ?aF ?aB ?aS ?aL ?_; (case aR => exact (Kd.C_below HR0.out HB.out)); (case aB => exact HB.out); (case aF => exact (fun _ _ => trivial)); (case aO => exact HO.out); (case aS => exact (below_size HB.out)); (case aL => have := HL.out; simpa using this); intro v202 w11 ho hb hg hat; clear HB HO; have HB := Aside0.mk hb; have HO := Aside0.mk ho; clear ho hb hg hat))
    go_ret
    exact ⟨_, rfl, by have := HO.out; rwa [List.nil_append] at this, HB.out⟩
def impl_CanonNotes.ins (x : S97) : List S97 → List S97
  | [] => [x]
  | y :: r => if x.f0 ≤ y.f0 then x :: y :: r else y :: impl_CanonNotes.ins x r
def impl_CanonNotes.sort : List S97 → List S97
  | [] => []
  | x :: r => impl_CanonNotes.ins x (impl_CanonNotes.sort r)
def impl_CanonNotes.eq (y x : S97) : Bool := y.f0 == x.f0
def impl_CanonNotes.f (l0 : List S97) : Option (List S97) := if l0.length * 56 ≤ 140737488355328 then some (cpP impl_CanonNotes.eq (impl_CanonNotes.sort l0)) else none
theorem impl_CanonNotes.ins_same (x : S97) (l : List S97) : StE (fun z : S97 => z.f0) (x :: l) (impl_CanonNotes.ins x l) := by
  induction l with
  | nil => exact fun _ => rfl
  | cons y r ih =>
    unfold impl_CanonNotes.ins
    by_cases h : x.f0 ≤ y.f0
    · rw [if_pos h]; exact fun _ => rfl
    · rw [if_neg h]
      intro k
      have := ih k
      rw [List.filter_cons, this]
      simp only [List.filter_cons]
      by_cases h1 : (x.f0 == k) = true <;> by_cases h2 : (y.f0 == k) = true
      · rw [beq_iff_eq] at h1 h2; omega
      all_goals simp [h1, h2]
theorem impl_CanonNotes.ins_sorted (x : S97) (l : List S97) (h : StS (fun z : S97 => z.f0) l) : StS (fun z : S97 => z.f0) (impl_CanonNotes.ins x l) := by
  induction l with
  | nil => exact List.pairwise_singleton _ _
  | cons y r ih =>
    unfold impl_CanonNotes.ins
    have hp := List.pairwise_cons.1 h
    by_cases hx : x.f0 ≤ y.f0
    · rw [if_pos hx]
      refine List.pairwise_cons.2 ⟨fun z hz => ?_, h⟩
      rcases List.mem_cons.1 hz with hz | hz
      · rw [hz]; exact hx
      · exact Int.le_trans hx (hp.1 z hz)
    · rw [if_neg hx]
      refine List.pairwise_cons.2 ⟨fun z hz => ?_, ih hp.2⟩
      have := (st_same_mem _ (impl_CanonNotes.ins_same x r) z).1 hz
      rcases List.mem_cons.1 this with hz | hz
      · rw [hz]; show y.f0 ≤ x.f0; omega
      · exact hp.1 z hz
theorem impl_CanonNotes.sort_ok (l : List S97) : StS (fun z : S97 => z.f0) (impl_CanonNotes.sort l) ∧ StE (fun z : S97 => z.f0) l (impl_CanonNotes.sort l) := by
  induction l with
  | nil => exact ⟨List.Pairwise.nil, fun _ => rfl⟩
  | cons x r ih =>
    refine ⟨impl_CanonNotes.ins_sorted x _ ih.1, ?_⟩
    refine st_same_trans _ ?_ (impl_CanonNotes.ins_same x _)
    exact st_same_append _ (st_same_refl _ [x]) ih.2
def impl_CanonNotes.cf (x y : S97) : Int := if x.f0 < y.f0 then -1 else if x.f0 > y.f0 then 1 else 0
theorem impl_CanonNotes.cf_lt (x y : S97) : impl_CanonNotes.cf x y < 0 ↔ x.f0 < y.f0 := by
  unfold impl_CanonNotes.cf
  by_cases h : x.f0 < y.f0
  · simp [h]
  · by_cases h2 : x.f0 > y.f0
    · simp [h, h2]
    · simp [h, h2]
set_option maxHeartbeats 800000 in
theorem impl_CanonNotes.lit1 (W : World) (x y : S97) : Calls Try.prog 72 #[.agg #[.int .i64 x.f0, .int .i64 x.f1, .int .i64 x.f2.f0, .int .i64 x.f2.f1, .int .i64 x.f2.f2, .int .i64 x.f2.f3, .int .i64 x.f2.f4], .agg #[.int .i64 y.f0, .int .i64 y.f1, .int .i64 y.f2.f0, .int .i64 y.f2.f1, .int .i64 y.f2.f2, .int .i64 y.f2.f3, .int .i64 y.f2.f4]] W fun e w' => e = .returned (.int .i64 (impl_CanonNotes.cf x y)) ∧ ∃ q os', w' = Go.Sort.grow (W.drewN q) os' := by
  have hu90 := Try.underlying97
  by_cases h : x.f0 < y.f0
  · have hz : decide (x.f0 < y.f0) = true := decide_eq_true h
    have e0 : impl_CanonNotes.cf x y = -1 := by unfold impl_CanonNotes.cf; rw [if_pos h]
    rw [e0]
    clear e0
    go_enter Try.func72, Try.ntmps72
    go_wp2
    go_ret
    exact ⟨rfl, 0, _, by rw [Go.Sort.alloc_eq_grow, Go.Sort.alloc_eq_grow, Go.Sort.grow_grow]; rfl⟩
  · have hz : decide (x.f0 < y.f0) = false := decide_eq_false h
    by_cases h2 : x.f0 > y.f0
    · have hz2 : decide (x.f0 > y.f0) = true := decide_eq_true h2
      have e0 : impl_CanonNotes.cf x y = 1 := by unfold impl_CanonNotes.cf; rw [if_neg h, if_pos h2]
      rw [e0]
      clear e0
      go_enter Try.func72, Try.ntmps72
      go_wp2
      go_ret
      exact ⟨rfl, 0, _, by rw [Go.Sort.alloc_eq_grow, Go.Sort.alloc_eq_grow, Go.Sort.grow_grow]; rfl⟩
    · have hz2 : decide (x.f0 > y.f0) = false := decide_eq_false h2
      have e0 : impl_CanonNotes.cf x y = 0 := by unfold impl_CanonNotes.cf; rw [if_neg h, if_neg h2]
      rw [e0]
      clear e0
      go_enter Try.func72, Try.ntmps72
      go_wp2
      go_ret
      exact ⟨rfl, 0, _, by rw [Go.Sort.alloc_eq_grow, Go.Sort.alloc_eq_grow, Go.Sort.grow_grow]; rfl⟩
set_option maxHeartbeats 800000 in
theorem impl_CanonNotes.lit2 (W : World) (x y : S97) : Calls Try.prog 74 #[.agg #[.int .i64 x.f0, .int .i64 x.f1, .int .i64 x.f2.f0, .int .i64 x.f2.f1, .int .i64 x.f2.f2, .int .i64 x.f2.f3, .int .i64 x.f2.f4], .agg #[.int .i64 y.f0, .int .i64 y.f1, .int .i64 y.f2.f0, .int .i64 y.f2.f1, .int .i64 y.f2.f2, .int .i64 y.f2.f3, .int .i64 y.f2.f4]] W fun e w' => e = .returned (.bool (impl_CanonNotes.eq x y)) ∧ ∃ q os', w' = Go.Sort.grow (W.drewN q) os' := by
  have hu90 := Try.underlying97
  go_enter Try.func74, Try.ntmps74
  go_wp2
  go_ret
  exact ⟨rfl, 0, _, by rw [Go.Sort.alloc_eq_grow, Go.Sort.alloc_eq_grow, Go.Sort.grow_grow]; rfl⟩
set_option maxHeartbeats 800000 in
theorem impl_CanonNotes.calls (A0 : Option Addr) (c0 : Nat) (l0 : List (S97)) (r : List (S97)) (w : World) (hr0 : Kd.C k97 w A0 l0.length l0) (hc0 : l0.length ≤ c0) (h : impl_CanonNotes.f l0 = some r) :
    Calls Try.prog 21 #[.slice A0 l0.length c0] w fun e w' => ∃ v0_ : Value, e = .returned (v0_) ∧ Kd.R k97 97 w' w.heap.size (fun _ => True) v0_ r ∧ Below w.heap.size w w' := by
  unfold impl_CanonNotes.f at h
  by_cases hlen : l0.length * 56 ≤ 140737488355328
  · rw [if_pos hlen] at h
    obtain rfl := Option.some.inj h
    clear h
    have HR := Aside0.mk hr0
    have HL := Aside0.mk hlen
    clear hr0 hlen
    go_enter Try.func21, Try.ntmps21
    go_wp2_with fail
    refine (impl_CanonNotes.clone.calls A0 c0 l0 _ HR.out HL.out).mono ?_
    rintro e w2 ⟨v0, rfl, ho, hb⟩
    have HO := Aside0.mk ho
    have HB := Aside0.mk hb
    clear ho hb
    go_wp2_with fail
    refine (sw_sortRow 72 (fun z => z.f0) impl_CanonNotes.cf impl_CanonNotes.cf_lt (by intro args w; exact enters_of Try.func72 (by kernel_rfl) rfl args w) impl_CanonNotes.lit1 v0 l0 w.heap.size w2 HO.out (by have := HL.out; omega)).mono ?_
    rintro e w3 ⟨rfl, l', ho, s', m', hg⟩
    have e1 : l' = impl_CanonNotes.sort l0 := st_sorted_unique _ (impl_CanonNotes.sort_ok l0).1 s' (fun k => (m' k).trans ((impl_CanonNotes.sort_ok l0).2 k).symm)
    subst e1
    have HO2 := Aside0.mk ho
    have HB2 : Aside0 (Below w.heap.size w w3) := ⟨HB.out.grown hg (below_size HB.out) (fun k hk => Kd.R_base HO.out k hk)⟩
    have HLN : Aside0 ((impl_CanonNotes.sort l0).length = l0.length) := ⟨st_same_length _ m'⟩
    clear ho s' m' hg HO HB
    go_wp2_with fail
    refine (sw_compact 74 impl_CanonNotes.eq (by intro args w; exact enters_of Try.func74 (by kernel_rfl) rfl args w) impl_CanonNotes.lit2 v0 (impl_CanonNotes.sort l0) w.heap.size w3 HO2.out (by have := HL.out; have := HLN.out; omega)).mono ?_
    rintro e w4 ⟨v', rfl, ho, hg⟩
    have HO3 := Aside0.mk ho
    have HB3 : Aside0 (Below w.heap.size w w4) := ⟨HB2.out.grown hg (below_size HB2.out) (fun k hk => Kd.R_base HO2.out k hk)⟩
    clear ho hg
    go_wp2
    go_ret
    exact ⟨_, rfl, HO3.out, HB3.out⟩
  · rw [if_neg hlen] at h; cases h

end Go.Proofs.Ytikfdjgigeggjaa.MFnExactApplyNotes
