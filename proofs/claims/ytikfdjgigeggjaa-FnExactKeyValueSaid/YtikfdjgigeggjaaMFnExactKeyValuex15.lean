/- The functions that FnExactKeyValue reaches, each with its contract: the print's form, by wip/tools/myprint.py; no condition of its own. -/
import Derived.Test.YtikfdjgigeggjaaMFnExactKeyValuex0
import Derived.Test.YtikfdjgigeggjaaMFnExactKeyValuex10
import Derived.Test.YtikfdjgigeggjaaMFnExactKeyValuex14
namespace Go.Proofs.Ytikfdjgigeggjaa.MFnExactKeyValue
open Go.RowKit Go.Proofs.YtikfdjgigeggjaaW.PrintWords Go.Proofs.YtikfdjgigeggjaaW.PrintLast Go.Proofs.YtikfdjgigeggjaaW.PrintMore
attribute [local go_sem] max2_int min2_int max_two min_two max_three min_three max_four min_four   -- for this text's walks alone
set_option linter.unusedVariables false
set_option linter.unusedSimpArgs false

/-! ### impl_ranker_values: function 102 -/
/-! among: the function value that impl.among makes of a group. -/
theorem am_index (t : Int) (x : List Int) (hn : x.length ≤ 9223372036854775807) (d : Nat) : ∀ (k i : Nat), i + d = x.length → d < k →
    ∃ r : Int, slices_Index_int_int.l0 k x t x.length i = some r ∧ ((0 ≤ r) ↔ t ∈ x.drop i) := by
  induction d with
  | zero =>
    intro k i hd hk
    obtain ⟨k, rfl⟩ : ∃ m, k = m + 1 := ⟨k - 1, by omega⟩
    simp only [slices_Index_int_int.l0]
    rw [if_neg (by omega), List.drop_of_length_le (by omega)]
    exact ⟨_, rfl, by simp⟩
  | succ d ih =>
    intro k i hd hk
    obtain ⟨k, rfl⟩ : ∃ m, k = m + 1 := ⟨k - 1, by omega⟩
    have hi : i < x.length := by omega
    obtain ⟨r, e, hr⟩ := ih k (i + 1) (by omega) (by omega)
    have hw : wrap64 ((i : Int) + 1) = ((i + 1 : Nat) : Int) := by unfold wrap64; omega
    have hrd : rd x (i : Int) = x[i] := by simp [rd, List.getD_eq_getElem?_getD, hi]
    simp only [slices_Index_int_int.l0]
    rw [if_pos (by omega), if_pos (by omega), if_pos (by omega), hrd, hw, e, List.drop_eq_getElem_cons hi]
    by_cases c : t = x[i]
    · rw [if_pos c]; exact ⟨_, rfl, ⟨fun _ => List.mem_cons.2 (.inl c), fun _ => by omega⟩⟩
    · rw [if_neg c]; exact ⟨_, rfl, hr.trans ⟨fun h => List.mem_cons_of_mem _ h, fun h => (List.mem_cons.1 h).resolve_left c⟩⟩
theorem am_contains (t : Int) (x : List Int) (hn : x.length ≤ 9223372036854775807) : slices_Contains_int_int.f (x.length + 1) x t = some (decide (t ∈ x)) := by
  unfold slices_Contains_int_int.f slices_Index_int_int.f
  obtain ⟨r, e, hr⟩ := am_index t x hn x.length (x.length + 1) 0 (by omega) (by omega)
  rw [show ((0 : Nat) : Int) = 0 from rfl] at e
  rw [e]
  rw [List.drop_zero] at hr
  show some (decide (r ≥ 0)) = _
  congr 1
  rw [decide_eq_decide]
  exact hr
def amongIn (l : List Int) (x : S71) : Bool := decide (x.f0 ∈ l) && decide (x.f1 ∈ l)
set_option maxHeartbeats 2000000 in
theorem am_lit (l : List Int) (A : Option Addr) (c : Nat) (x : S71) (b1 : Nat) (w : World) (hr : Kd.C (Kd.int .i64) w A l.length l) (hc : l.length ≤ c) (h1 : w.cell? ⟨b1, 0, none⟩ = some (.slice A l.length c)) :
    Calls Try.prog 113 #[.agg #[.int .i64 x.f0, .int .i64 x.f1, .int .i64 x.f2, .int .i64 x.f3, .int .i64 x.f4], .pointer (some ⟨b1, 0, none⟩)] w fun e w' => e = .returned (.bool (amongIn l x)) ∧ Below w.heap.size w w' := by
  have hu71 := Try.underlying71
  have hmax : l.length ≤ 9223372036854775807 := hr.2.1
  have l1 : b1 < w.heap.size := World.block_lt_of_cell? w _ h1
  have HC := Aside0.mk hc
  have HR := Aside0.mk hr
  have C1 := Aside0.mk (am_contains x.f0 l hmax)
  have C2 := Aside0.mk (am_contains x.f1 l hmax)
  clear hr hc
  unfold amongIn
  obtain ⟨p, hp⟩ : ∃ p, p = decide (x.f0 ∈ l) := ⟨_, rfl⟩
  obtain ⟨q, hq⟩ : ∃ q, q = decide (x.f1 ∈ l) := ⟨_, rfl⟩
  rw [← hp] at C1 ⊢
  rw [← hq] at C2 ⊢
  clear hp hq
  cases p with
  | false =>
    go_enter Try.func113, Try.ntmps113
    go_wp2_with fail
    refine (slices_Contains_int_int.calls (l.length + 1) A c l x.f0 false _ (Kd.C_alloc HR.out _) HC.out C1.out).mono ?_
    rintro e w2 ⟨rfl, hb⟩
    have HB := Aside0.mk (below_then ((Below.refl w.heap.size w).alloc (Nat.le_refl _) _) (by simp) hb.below)
    clear hb
    go_wp2
    go_ret
    exact ⟨rfl, HB.out⟩
  | true =>
    go_enter Try.func113, Try.ntmps113
    go_wp2_with fail
    refine (slices_Contains_int_int.calls (l.length + 1) A c l x.f0 true _ (Kd.C_alloc HR.out _) HC.out C1.out).mono ?_
    rintro e w2 ⟨rfl, hb⟩
    have HB := Aside0.mk (below_then ((Below.refl w.heap.size w).alloc (Nat.le_refl _) (.cells #[.int .i64 x.f0, .int .i64 x.f1, .int .i64 x.f2, .int .i64 x.f3, .int .i64 x.f4] 71 (0, 0))) (by simp) hb.below)
    have B71 := Aside0.mk (blk_below (blk_new w _) hb.below)
    have hc2 : w2.cell? ⟨b1, 0, none⟩ = some (.slice A l.length c) := (HB.out.cell l1).trans h1
    have hy1 := (blk_cell B71.out 1).trans rfl
    clear hb
    go_wp2_with fail
    refine (slices_Contains_int_int.calls (l.length + 1) A c l x.f1 q _ (Kd.C_below HR.out HB.out) HC.out C2.out).mono ?_
    rintro e w3 ⟨rfl, hb⟩
    have HB3 := Aside0.mk (below_then HB.out (below_size HB.out) hb.below)
    clear hb
    go_wp2
    go_ret
    exact ⟨by simp, HB3.out⟩
set_option maxHeartbeats 800000 in
theorem am_calls (A : Option Addr) (n c : Nat) (w : World) : Calls Try.prog 90 #[.slice A n c] w fun e w' => e = .returned (.func (.func 113) #[] #[.pointer (some ⟨w.heap.size, 0, none⟩)]) ∧ w' = w.alloc (.cells #[.slice A n c] 23 (0, 0)) := by
  go_enter Try.func90, Try.ntmps90
  go_wp2
  go_ret
  exact ⟨rfl, rfl⟩
/-- The rows that a key looks at. -/
def impl_ranker_values.rows (a0_1 a0_2 a0_3 : Int) (n : Int) (l6 : List S71) (l9 : List S74) (a1 : Int) (l2 : List Int) : List S74 := if a1 = 5 ∨ a1 = 6 then tbTable a0_1 a0_2 a0_3 (amongIn l2) n l6 else l9
/-- The value of team i for a key. -/
def impl_ranker_values.val (a1 : Int) (rows : List S74) (l7 l8 : List Int) (l0 : List S151) (i : Int) : Int := if a1 = 1 then wrap64 ((rd_T74 rows i).f6 - rd l8 i) else if a1 = 2 ∨ a1 = 6 then wrap64 ((rd_T74 rows i).f4 - (rd_T74 rows i).f5) else if a1 = 3 then (rd_T74 rows i).f4 else if a1 = 4 then (rd_T74 rows i).f1 else if a1 = 5 then (rd_T74 rows i).f6 else if a1 = 7 then wrap64 (-(rd l7 i)) else wrap64 (-(rd_T151 l0 i).f2)
/-- The first i values; nothing behind. -/
def vtL (G : Int → Int) (n i : Nat) : List Int := (List.range n).map fun j : Nat => if j < i then G (j : Int) else 0
theorem vtL_len (G : Int → Int) (n i : Nat) : (vtL G n i).length = n := by simp [vtL]
theorem vtL_zero (G : Int → Int) (n : Nat) : vtL G n 0 = List.replicate n 0 := by
  apply List.ext_getElem
  · simp [vtL]
  · intro i h1 h2; simp [vtL]
theorem vtL_all (G : Int → Int) (n : Nat) : vtL G n n = (List.range n).map fun j : Nat => G (j : Int) := by
  unfold vtL
  exact List.map_congr_left fun j hj => if_pos (List.mem_range.1 hj)
theorem vtL_set (G : Int → Int) (n : Nat) (x v : Int) (h0 : 0 ≤ x) (h1 : x < (n : Int)) (hv : v = G x) : (vtL G n x.toNat).set x.toNat v = vtL G n (x + 1).toNat := by
  obtain ⟨i, rfl⟩ : ∃ i : Nat, x = i := ⟨x.toNat, by omega⟩
  rw [show ((i : Int) + 1).toNat = i + 1 by omega, Int.toNat_natCast]
  apply List.ext_getElem
  · rw [List.length_set, vtL_len, vtL_len]
  · intro j h2 h3
    rw [List.getElem_set]
    by_cases c : i = j
    · subst c
      rw [if_pos rfl]
      simp [vtL, hv]
    · rw [if_neg c]
      simp only [vtL, List.getElem_map, List.getElem_range]
      by_cases d : j < i
      · rw [if_pos d, if_pos (by omega)]
      · rw [if_neg d, if_neg (by omega)]
def impl_ranker_values.f10 (l0_0 : List (S151)) (a0_1 : Int) (a0_2 : Int) (a0_3 : Int) (_l0_4 : List Int) (_a0_5 : Bool) (l0_6 : List (S71)) (l0_7 : List Int) (l0_8 : List Int) (l0_9 : List (S74)) (a1 : Int) (l2 : List Int) : Option (List Int) := if ((1 ≤ a1 ∧ a1 ≤ 8) ∧ (1 ≤ l0_0.length ∧ l0_0.length ≤ 100000) ∧ l0_7.length = l0_0.length ∧ l0_8.length = l0_0.length ∧ l0_9.length = l0_0.length) ∧ ∀ g ∈ l0_6, tbOk (l0_0.length : Int) g = true then some ((List.range l0_0.length).map fun j : Nat => impl_ranker_values.val a1 (impl_ranker_values.rows a0_1 a0_2 a0_3 (l0_0.length : Int) l0_6 l0_9 a1 l2) l0_7 l0_8 l0_0 (j : Int)) else none
set_option maxHeartbeats 16000000 in
set_option maxRecDepth 100000 in
theorem impl_ranker_values.calls10 (A0_0 : Option Addr) (c0_0 : Nat) (l0_0 : List (S151)) (a0_1 : Int) (a0_2 : Int) (a0_3 : Int) (A0_4 : Option Addr) (c0_4 : Nat) (l0_4 : List Int) (a0_5 : Bool) (A0_6 : Option Addr) (c0_6 : Nat) (l0_6 : List (S71)) (A0_7 : Option Addr) (c0_7 : Nat) (l0_7 : List Int) (A0_8 : Option Addr) (c0_8 : Nat) (l0_8 : List Int) (A0_9 : Option Addr) (c0_9 : Nat) (l0_9 : List (S74)) (a1 : Int) (A2 : Option Addr) (c2 : Nat) (l2 : List Int) (r : List Int) (w : World) (hr0_0 : Kd.C k151 w A0_0 l0_0.length l0_0) (hc0_0 : l0_0.length ≤ c0_0) (_ : Kd.C (Kd.int .i64) w A0_4 l0_4.length l0_4) (_ : l0_4.length ≤ c0_4) (hr0_6 : Kd.C k71 w A0_6 l0_6.length l0_6) (hc0_6 : l0_6.length ≤ c0_6) (hr0_7 : Kd.C (Kd.int .i64) w A0_7 l0_7.length l0_7) (hc0_7 : l0_7.length ≤ c0_7) (hr0_8 : Kd.C (Kd.int .i64) w A0_8 l0_8.length l0_8) (hc0_8 : l0_8.length ≤ c0_8) (hr0_9 : Kd.C k74 w A0_9 l0_9.length l0_9) (hc0_9 : l0_9.length ≤ c0_9) (hr2 : Kd.C (Kd.int .i64) w A2 l2.length l2) (hc2 : l2.length ≤ c2) (h : impl_ranker_values.f10 l0_0 a0_1 a0_2 a0_3 l0_4 a0_5 l0_6 l0_7 l0_8 l0_9 a1 l2 = some r) :
    Calls Try.prog 102 #[.agg #[.slice A0_0 l0_0.length c0_0, .int .i64 a0_1, .int .i64 a0_2, .int .i64 a0_3, .slice A0_4 l0_4.length c0_4, .bool a0_5, .slice A0_6 l0_6.length c0_6, .slice A0_7 l0_7.length c0_7, .slice A0_8 l0_8.length c0_8, .slice A0_9 l0_9.length c0_9], .int .i64 a1, .slice A2 l2.length c2] w fun e w' => ∃ v0_ : Value, e = .returned (v0_) ∧ Kd.R (Kd.int .i64) 3 w' w.heap.size (fun _ => True) v0_ r ∧ Below w.heap.size w w' := by
  unfold impl_ranker_values.f10 at h
  by_cases hc : ((1 ≤ a1 ∧ a1 ≤ 8) ∧ (1 ≤ l0_0.length ∧ l0_0.length ≤ 100000) ∧ l0_7.length = l0_0.length ∧ l0_8.length = l0_0.length ∧ l0_9.length = l0_0.length) ∧ ∀ g ∈ l0_6, tbOk (l0_0.length : Int) g = true
  rotate_left
  · rw [if_neg hc] at h; cases h
  rw [if_pos hc] at h
  obtain rfl := Option.some.inj h
  clear h
  obtain ⟨⟨hk, hn, h7, h8, h9⟩, hok⟩ := hc
  have hu128 := Try.underlying128
  have hu74 := Try.underlying74
  have HR0_0 := Aside0.mk hr0_0
  have HC0_0 := Aside0.mk hc0_0
  clear hr0_0 hc0_0
  have HR0_6 := Aside0.mk hr0_6
  have HC0_6 := Aside0.mk hc0_6
  clear hr0_6 hc0_6
  have HR0_7 := Aside0.mk hr0_7
  have HC0_7 := Aside0.mk hc0_7
  clear hr0_7 hc0_7
  have HR0_8 := Aside0.mk hr0_8
  have HC0_8 := Aside0.mk hc0_8
  clear hr0_8 hc0_8
  have HR0_9 := Aside0.mk hr0_9
  have HC0_9 := Aside0.mk hc0_9
  clear hr0_9 hc0_9
  have HR2 := Aside0.mk hr2
  have HC2 := Aside0.mk hc2
  clear hr2 hc2
  have HN := Aside0.mk hn
  have H7 := Aside0.mk h7
  have H8 := Aside0.mk h8
  have H9 := Aside0.mk h9
  have HOK := Aside0.mk hok
  have HKEY := Aside0.mk hk
  clear hn h7 h8 h9 hok hk
  obtain ⟨G, hG⟩ : ∃ G : Int → Int, G = impl_ranker_values.val a1 (impl_ranker_values.rows a0_1 a0_2 a0_3 (l0_0.length : Int) l0_6 l0_9 a1 l2) l0_7 l0_8 l0_0 := ⟨_, rfl⟩
  obtain ⟨l8, hl8⟩ : ∃ l8, l8 = impl_ranker_values.rows a0_1 a0_2 a0_3 (l0_0.length : Int) l0_6 l0_9 a1 l2 := ⟨_, rfl⟩
  rw [← hG, ← vtL_all G l0_0.length]
  rw [← hl8] at hG
  have HL8 : Aside0 (l8.length = l0_0.length) := ⟨by
    rw [hl8]; unfold impl_ranker_values.rows
    split
    · rw [tbTable_len]; omega
    · exact H9.out⟩
  have HG := Aside0.mk hG
  have HL := Aside0.mk hl8
  clear hG hl8
  obtain ⟨y, hy⟩ : ∃ y_ : List Int, y_ = List.replicate ((l0_0.length : Int) : Int).toNat 0 := ⟨_, rfl⟩
  have NY := Aside0.mk hy
  clear hy
  have HY : Aside0 (y = vtL G l0_0.length 0) := ⟨by rw [NY.out, vtL_zero, Int.toNat_natCast]⟩
  have HYL : Aside0 (y.length = l0_0.length) := ⟨by rw [HY.out, vtL_len]⟩
  have c4b1 : decide (0 ≤ (l0_0.length : Int)) = true := decide_eq_true (by omega)
  have c5b1 : decide (((l0_0.length : Int) : Int).toNat ≤ 35184372088832) = true := decide_eq_true (by have := HN.out; omega)
  go_enter Try.func102, Try.ntmps102
  go_wp2_with fail
  have BK := Aside0.mk (blk_drew (blk_new w (.cells #[.slice A0_0 l0_0.length c0_0, .int .i64 a0_1, .int .i64 a0_2, .int .i64 a0_3, .slice A0_4 l0_4.length c0_4, .bool a0_5, .slice A0_6 l0_6.length c0_6, .slice A0_7 l0_7.length c0_7, .slice A0_8 l0_8.length c0_8, .slice A0_9 l0_9.length c0_9] 128 (0, 0))))
  have HB := Aside0.mk (below_drew1 (below_alloc (Below.refl w.heap.size w) (.cells #[.slice A0_0 l0_0.length c0_0, .int .i64 a0_1, .int .i64 a0_2, .int .i64 a0_3, .slice A0_4 l0_4.length c0_4, .bool a0_5, .slice A0_6 l0_6.length c0_6, .slice A0_7 l0_7.length c0_7, .slice A0_8 l0_8.length c0_8, .slice A0_9 l0_9.length c0_9] 128 (0, 0))))
  have GE : Aside0 (w.heap.size ≤ w.heap.size) := ⟨Nat.le_refl _⟩
  have hgb : ∃ gb, gb = w.heap.size := ⟨_, rfl⟩
  obtain ⟨gb, hgb⟩ := hgb
  rw [← hgb] at BK
  have GE : Aside0 (w.heap.size ≤ gb) := ⟨Nat.le_of_eq hgb.symm⟩
  rw [← hgb]
  refine start_ (n := 9) (S := fun w' => w'.cell? ⟨gb, 0, none⟩ = some (.slice A0_0 l0_0.length c0_0) ∧ w'.cell? ⟨gb, 9, none⟩ = some (.slice A0_9 l0_9.length c0_9)) (ds := []) #[false, false, false, false, false, false, false, false, false] (by kernel_rfl) rfl rfl ⟨(blk_cell BK.out 0).trans rfl, (blk_cell BK.out 9).trans rfl⟩ (fun hHeld => ?_)
  generalize (w.alloc (.cells #[.slice A0_0 l0_0.length c0_0, .int .i64 a0_1, .int .i64 a0_2, .int .i64 a0_3, .slice A0_4 l0_4.length c0_4, .bool a0_5, .slice A0_6 l0_6.length c0_6, .slice A0_7 l0_7.length c0_7, .slice A0_8 l0_8.length c0_8, .slice A0_9 l0_9.length c0_9] 128 (0, 0))).drew = w7 at BK HB hHeld ⊢
  clear hgb
  refine pure_ (i := 0) (N := some 10) (v := ?_) (a' := ?_) #[true, false, false, false, false, false, false, false, false] rfl rfl (by kernel_rfl) (fun _ _ _ h => h) (Or.inl ⟨by rfl, ?_⟩) ?_ ?_
  rotate_left
  · (intro w'; go_simp; with_reducible rfl)
  rotate_left
  · (simp only [Act.put, List.setIfInBounds_toArray, List.set_cons_zero, List.set_cons_succ, i64_w, i32_w]; rfl)
  refine pure_ (i := 1) (N := some 11) (v := ?_) (a' := ?_) #[true, true, false, false, false, false, false, false, false] rfl rfl (by kernel_rfl) (fun _ _ _ h => h) (Or.inl ⟨by rfl, ?_⟩) ?_ ?_
  rotate_left
  · (intro w'; go_simp; with_reducible rfl)
  rotate_left
  · (simp only [Act.put, List.setIfInBounds_toArray, List.set_cons_zero, List.set_cons_succ, i64_w, i32_w]; rfl)
  refine pure_ (i := 5) (N := some 15) (v := ?_) (a' := ?_) #[true, true, false, false, false, true, false, false, false] rfl rfl (by kernel_rfl) (fun _ _ _ h => h) (Or.inl ⟨by rfl, ?_⟩) ?_ ?_
  rotate_left
  · (intro w'; go_simp; with_reducible rfl)
  rotate_left
  · (simp only [Act.put, List.setIfInBounds_toArray, List.set_cons_zero, List.set_cons_succ, i64_w, i32_w]; rfl)
  refine take_ (i := 2) (N := some 12) (v := ?_) (a' := ?_) #[true, true, true, false, false, true, false, false, false] rfl rfl (by kernel_rfl) (fun _ _ _ h => h) (Or.inl ⟨by rfl, ?_⟩) hHeld ?_ ?_
  rotate_left
  · (rintro w' ⟨s0, s1⟩; go_simp; with_reducible rfl)
  rotate_left
  · (simp only [Act.put, List.setIfInBounds_toArray, List.set_cons_zero, List.set_cons_succ, i64_w, i32_w]; rfl)
  refine pure_ (i := 3) (N := some 13) (v := ?_) (a' := ?_) #[true, true, true, true, false, true, false, false, false] rfl rfl (by kernel_rfl) (fun _ _ _ h => h) (Or.inl ⟨by rfl, ?_⟩) ?_ ?_
  rotate_left
  · (intro w'; go_simp; with_reducible rfl)
  rotate_left
  · (simp only [Act.put, List.setIfInBounds_toArray, List.set_cons_zero, List.set_cons_succ, i64_w, i32_w]; rfl)
  refine take_ (i := 6) (N := some 16) (v := ?_) (a' := ?_) #[true, true, true, true, false, true, true, false, false] rfl rfl (by kernel_rfl) (fun _ _ _ h => h) (Or.inl ⟨by rfl, ?_⟩) hHeld ?_ ?_
  rotate_left
  · (rintro w' ⟨s0, s1⟩; go_simp; with_reducible rfl)
  rotate_left
  · (simp only [Act.put, List.setIfInBounds_toArray, List.set_cons_zero, List.set_cons_succ, i64_w, i32_w]; rfl)
  refine one_ (i := 4) (N := some 14) #[true, true, true, true, true, true, true, false, false] rfl rfl (by kernel_rfl) (by decide) (fun K hK => ?_)
  refine Kd.R_make_step (Kd.int .i64) _ 3 (by rfl) (N := 14) rfl 23 _ _ rfl (l0_0.length : Int) rfl rfl Try.underlying23 (.int .i64 0) 8 info3 rfl (by decide) (by omega) 0 (ok := fun _ => True) (okp := fun _ => True) rfl (fun _ hk => hk) trivial (qD) (Nat.le_trans (Nat.mul_le_mul_right _ (qD : (l0_0.length : Int).toNat ≤ 35184372088832)) (by omega)) (Below.refl _ _) (Nat.le_refl _) ?_
  intro v328 w8 ho9 hb hg_ hnew_
  clear hg_ hnew_
  rw [← NY.out] at ho9
  have HO := Aside0.mk (Kd.R_lower ho9 (below_size HB.out))
  have BK2 := Aside0.mk (blk_below BK.out hb)
  have HB2 := Aside0.mk (below_step HB.out hb)
  clear BK HB
  have BK := BK2
  have HB := HB2
  clear BK2 HB2 hb ho9
  obtain ⟨go, co, eo, gbo, glo, clo, HGo⟩ := Kd.R_form HO.out (by have := HYL.out; have := HN.out; omega)
  subst eo
  have GO := Aside0.mk gbo
  have GL := Aside0.mk glo
  have NE : Aside0 (gb ≠ go) := ⟨fun e => Kd.R_ne HO.out BK.out (by decide) (by rw [e]; rfl)⟩
  clear gbo glo HGo
  refine hK.out _ _ ⟨(blk_cell BK.out 0).trans rfl, (blk_cell BK.out 9).trans rfl⟩ (fun hHeld => ?_)
  clear hK K
  refine norm_ (a' := ?_) ?_ ?_
  rotate_left
  · (show Act.put _ (some 14) _ = _; simp only [Act.put, List.setIfInBounds_toArray, List.set_cons_zero, List.set_cons_succ, i64_w, i32_w]; rfl)
  refine pure_ (i := 7) (N := some 7) (v := ?_) (a' := ?_) #[true, true, true, true, true, true, true, true, false] rfl rfl (by kernel_rfl) (fun _ _ _ h => h) (Or.inl ⟨by rfl, ?_⟩) ?_ ?_
  rotate_left
  · (intro w'; go_simp; with_reducible rfl)
  rotate_left
  · (simp only [Act.put, List.setIfInBounds_toArray, List.set_cons_zero, List.set_cons_succ, i64_w, i32_w]; rfl)
  refine pure_ (i := 8) (N := some 8) (v := ?_) (a' := ?_) #[true, true, true, true, true, true, true, true, true] rfl rfl (by kernel_rfl) (fun _ _ _ h => h) (Or.inl ⟨by rfl, ?_⟩) ?_ ?_
  rotate_left
  · (intro w'; go_simp; with_reducible rfl)
  rotate_left
  · (simp only [Act.put, List.setIfInBounds_toArray, List.set_cons_zero, List.set_cons_succ, i64_w, i32_w]; rfl)
  refine done_ (by kernel_rfl) ?_
  obtain ⟨b, hb1, hb2⟩ : ∃ b, impl_IsMutual.f a1 = some b ∧ (b = true ↔ (a1 = 5 ∨ a1 = 6)) := by
    unfold impl_IsMutual.f
    by_cases c : a1 = 5
    · exact ⟨true, by rw [if_pos c], by simp [c]⟩
    · exact ⟨a1 == 6, by rw [if_neg c], by simp [c]⟩
  have HMU := Aside0.mk hb1
  have HBB := Aside0.mk hb2
  clear hb1 hb2
  go_upto_if 18 with (first | ((with_reducible refine gate_callee (f := 65) rfl ?_); refine goesL_ (some 18) rfl rfl Try.func65 (by kernel_rfl) rfl #[.int .i64 a1] rfl (by (try simp only [List.map_toArray, List.map_cons, List.map_nil]); first | done | rfl) ?_; (with_reducible refine (impl_IsMutual.calls a1 b _ HMU.out).mono ?_); rintro e wq ⟨rfl, hd⟩; refine ⟨_, rfl, ?_⟩; have n0_ := Aside0.mk (Kd.R_below HO.out hd.below); have n1_ := Aside0.mk (blk_below BK.out hd.below); have n2_ := Aside0.mk (below_step HB.out hd.below); have n3_ := Aside0.mk (Nat.lt_of_lt_of_le GL.out hd.below.size); clear HO BK HB GL hd; have HO := n0_; have BK := n1_; have HB := n2_; have GL := n3_; clear n0_ n1_ n2_ n3_))
  simp only [Act.put, List.setIfInBounds_toArray, List.set_cons_zero, List.set_cons_succ]
  go_cut [8] (fun v8 wc => ∃ (A8 : Option Addr) (c8 : Nat), v8 = .slice A8 l8.length c8 ∧ Aside0 (Kd.C k74 wc A8 l8.length l8) ∧ Aside0 (∀ ad, A8 = some ad → 0 < l8.length → ad.block ≠ go) ∧ Aside0 (Kd.R (Kd.int .i64) 3 wc w.heap.size (fun _ => True) (.slice (some ⟨go, 0, none⟩) y.length co) y) ∧ Aside0 (wc.heap[gb]? = some (.cells #[.slice A0_0 l0_0.length c0_0, .int .i64 a0_1, .int .i64 a0_2, .int .i64 a0_3, .slice A0_4 l0_4.length c0_4, .bool a0_5, .slice A0_6 l0_6.length c0_6, .slice A0_7 l0_7.length c0_7, .slice A0_8 l0_8.length c0_8, .slice A0_9 l0_9.length c0_9] 128 (0, 0))) ∧ Aside0 (Below w.heap.size w wc))
  case first =>
    cases b with
    | true =>
      have hm : a1 = 5 ∨ a1 = 6 := HBB.out.1 rfl
      have HT : Aside0 (tbTable a0_1 a0_2 a0_3 (amongIn l2) (l0_0.length : Int) l0_6 = l8) := ⟨by rw [HL.out]; unfold impl_ranker_values.rows; rw [if_pos hm]⟩
      clear hm
      go_wp2_with fail
      refine start_ (n := 14) (S := fun w' => w'.cell? ⟨gb, 0, none⟩ = some (.slice A0_0 l0_0.length c0_0) ∧ w'.cell? ⟨gb, 1, none⟩ = some (.int .i64 a0_1) ∧ w'.cell? ⟨gb, 2, none⟩ = some (.int .i64 a0_2) ∧ w'.cell? ⟨gb, 3, none⟩ = some (.int .i64 a0_3) ∧ w'.cell? ⟨gb, 4, none⟩ = some (.slice A0_4 l0_4.length c0_4) ∧ w'.cell? ⟨gb, 5, none⟩ = some (.bool a0_5) ∧ w'.cell? ⟨gb, 6, none⟩ = some (.slice A0_6 l0_6.length c0_6)) (ds := []) #[false, false, false, false, false, false, false, false, false, false, false, false, false, false] (by kernel_rfl) rfl rfl ⟨(blk_cell BK.out 0).trans rfl, (blk_cell BK.out 1).trans rfl, (blk_cell BK.out 2).trans rfl, (blk_cell BK.out 3).trans rfl, (blk_cell BK.out 4).trans rfl, (blk_cell BK.out 5).trans rfl, (blk_cell BK.out 6).trans rfl⟩ (fun hHeld => ?_)
      have n0_ := Aside0.mk (Kd.R_drew HO.out)
      have n1_ := Aside0.mk (blk_drew BK.out)
      have n2_ := Aside0.mk (below_drew1 HB.out)
      have n3_ : Aside0 (go < wq.drew.heap.size) := ⟨GL.out⟩
      clear HO BK HB GL
      have HO := n0_
      have BK := n1_
      have HB := n2_
      have GL := n3_
      clear n0_ n1_ n2_ n3_
      generalize wq.drew = wd at BK HB HO GL hHeld ⊢
      refine pure_ (i := 0) (N := some 19) (v := ?_) (a' := ?_) #[true, false, false, false, false, false, false, false, false, false, false, false, false, false] rfl rfl (by kernel_rfl) (fun _ _ _ h => h) (Or.inl ⟨by rfl, ?_⟩) ?_ ?_
      rotate_left
      · (intro w'; go_simp; with_reducible rfl)
      rotate_left
      · (simp only [Act.put, List.setIfInBounds_toArray, List.set_cons_zero, List.set_cons_succ, i64_w, i32_w]; rfl)
      refine pure_ (i := 1) (N := some 20) (v := ?_) (a' := ?_) #[true, true, false, false, false, false, false, false, false, false, false, false, false, false] rfl rfl (by kernel_rfl) (fun _ _ _ h => h) (Or.inl ⟨by rfl, ?_⟩) ?_ ?_
      rotate_left
      · (intro w'; go_simp; with_reducible rfl)
      rotate_left
      · (simp only [Act.put, List.setIfInBounds_toArray, List.set_cons_zero, List.set_cons_succ, i64_w, i32_w]; rfl)
      refine pure_ (i := 3) (N := some 22) (v := ?_) (a' := ?_) #[true, true, false, true, false, false, false, false, false, false, false, false, false, false] rfl rfl (by kernel_rfl) (fun _ _ _ h => h) (Or.inl ⟨by rfl, ?_⟩) ?_ ?_
      rotate_left
      · (intro w'; go_simp; with_reducible rfl)
      rotate_left
      · (simp only [Act.put, List.setIfInBounds_toArray, List.set_cons_zero, List.set_cons_succ, i64_w, i32_w]; rfl)
      refine pure_ (i := 4) (N := some 23) (v := ?_) (a' := ?_) #[true, true, false, true, true, false, false, false, false, false, false, false, false, false] rfl rfl (by kernel_rfl) (fun _ _ _ h => h) (Or.inl ⟨by rfl, ?_⟩) ?_ ?_
      rotate_left
      · (intro w'; go_simp; with_reducible rfl)
      rotate_left
      · (simp only [Act.put, List.setIfInBounds_toArray, List.set_cons_zero, List.set_cons_succ, i64_w, i32_w]; rfl)
      refine pure_ (i := 7) (N := some 26) (v := ?_) (a' := ?_) #[true, true, false, true, true, false, false, true, false, false, false, false, false, false] rfl rfl (by kernel_rfl) (fun _ _ _ h => h) (Or.inl ⟨by rfl, ?_⟩) ?_ ?_
      rotate_left
      · (intro w'; go_simp; with_reducible rfl)
      rotate_left
      · (simp only [Act.put, List.setIfInBounds_toArray, List.set_cons_zero, List.set_cons_succ, i64_w, i32_w]; rfl)
      refine pure_ (i := 8) (N := some 27) (v := ?_) (a' := ?_) #[true, true, false, true, true, false, false, true, true, false, false, false, false, false] rfl rfl (by kernel_rfl) (fun _ _ _ h => h) (Or.inl ⟨by rfl, ?_⟩) ?_ ?_
      rotate_left
      · (intro w'; go_simp; with_reducible rfl)
      rotate_left
      · (simp only [Act.put, List.setIfInBounds_toArray, List.set_cons_zero, List.set_cons_succ, i64_w, i32_w]; rfl)
      refine pure_ (i := 10) (N := some 29) (v := ?_) (a' := ?_) #[true, true, false, true, true, false, false, true, true, false, true, false, false, false] rfl rfl (by kernel_rfl) (fun _ _ _ h => h) (Or.inl ⟨by rfl, ?_⟩) ?_ ?_
      rotate_left
      · (intro w'; go_simp; with_reducible rfl)
      rotate_left
      · (simp only [Act.put, List.setIfInBounds_toArray, List.set_cons_zero, List.set_cons_succ, i64_w, i32_w]; rfl)
      refine take_ (i := 2) (N := some 21) (v := ?_) (a' := ?_) #[true, true, true, true, true, false, false, true, true, false, true, false, false, false] rfl rfl (by kernel_rfl) (fun _ _ _ h => h) (Or.inl ⟨by rfl, ?_⟩) hHeld ?_ ?_
      rotate_left
      · (rintro w' ⟨s0, s1, s2, s3, s4, s5, s6⟩; go_simp; with_reducible rfl)
      rotate_left
      · (simp only [Act.put, List.setIfInBounds_toArray, List.set_cons_zero, List.set_cons_succ, i64_w, i32_w]; rfl)
      refine take_ (i := 5) (N := some 24) (v := ?_) (a' := ?_) #[true, true, true, true, true, true, false, true, true, false, true, false, false, false] rfl rfl (by kernel_rfl) (fun _ _ _ h => h) (Or.inl ⟨by rfl, ?_⟩) hHeld ?_ ?_
      rotate_left
      · (rintro w' ⟨s0, s1, s2, s3, s4, s5, s6⟩; go_simp; with_reducible rfl)
      rotate_left
      · (simp only [Act.put, List.setIfInBounds_toArray, List.set_cons_zero, List.set_cons_succ, i64_w, i32_w]; rfl)
      refine pure_ (i := 6) (N := some 25) (v := ?_) (a' := ?_) #[true, true, true, true, true, true, true, true, true, false, true, false, false, false] rfl rfl (by kernel_rfl) (fun _ _ _ h => h) (Or.inl ⟨by rfl, ?_⟩) ?_ ?_
      rotate_left
      · (intro w'; go_simp; with_reducible rfl)
      rotate_left
      · (simp only [Act.put, List.setIfInBounds_toArray, List.set_cons_zero, List.set_cons_succ, i64_w, i32_w]; rfl)
      refine take_ (i := 9) (N := some 28) (v := ?_) (a' := ?_) #[true, true, true, true, true, true, true, true, true, true, true, false, false, false] rfl rfl (by kernel_rfl) (fun _ _ _ h => h) (Or.inl ⟨by rfl, ?_⟩) hHeld ?_ ?_
      rotate_left
      · (rintro w' ⟨s0, s1, s2, s3, s4, s5, s6⟩; go_simp; with_reducible rfl)
      rotate_left
      · (simp only [Act.put, List.setIfInBounds_toArray, List.set_cons_zero, List.set_cons_succ, i64_w, i32_w]; rfl)
      refine one_ (i := 11) (N := some 30) #[true, true, true, true, true, true, true, true, true, true, true, true, false, false] rfl rfl (by kernel_rfl) (by decide) (fun K hK => ?_)
      refine goes_ Try.func90 (by kernel_rfl) rfl #[.slice A2 l2.length c2] (by rfl) rfl rfl (by simp only [List.map_toArray, List.map_cons, List.map_nil]; rfl) ?_
      with_reducible refine (am_calls A2 l2.length c2 _).mono ?_
      rintro e w3 ⟨rfl, rfl⟩
      refine ⟨_, rfl, ?_⟩
      have HB3 := Aside0.mk (below_alloc HB.out (.cells #[.slice A2 l2.length c2] 23 (0, 0)))
      have BK3 := Aside0.mk (blk_alloc BK.out (.cells #[.slice A2 l2.length c2] 23 (0, 0)))
      have HO3 := Aside0.mk (Kd.R_alloc HO.out (.cells #[.slice A2 l2.length c2] 23 (0, 0)))
      have HGR := Aside0.mk (show (wd.alloc (.cells #[.slice A2 l2.length c2] 23 (0, 0))).cell? ⟨wd.heap.size, 0, none⟩ = some (.slice A2 l2.length c2) from (blk_cell (blk_new wd _) 0).trans rfl)
      have HSZ := Aside0.mk (show wd.heap.size < (wd.alloc (.cells #[.slice A2 l2.length c2] 23 (0, 0))).heap.size from blk_lt (blk_new wd _))
      have GL3 := Aside0.mk (Nat.lt_trans GL.out HSZ.out)
      clear HB BK HO GL
      refine hK.out _ _ ⟨(blk_cell BK3.out 0).trans rfl, (blk_cell BK3.out 1).trans rfl, (blk_cell BK3.out 2).trans rfl, (blk_cell BK3.out 3).trans rfl, (blk_cell BK3.out 4).trans rfl, (blk_cell BK3.out 5).trans rfl, (blk_cell BK3.out 6).trans rfl⟩ (fun hHeld => ?_)
      clear hK K
      refine norm_ (a' := ?_) ?_ ?_
      rotate_left
      · (show Act.put _ (some 30) _ = _; simp only [Act.put, List.setIfInBounds_toArray, List.set_cons_zero, List.set_cons_succ, i64_w, i32_w]; rfl)
      refine one_ (i := 12) (N := some 31) #[true, true, true, true, true, true, true, true, true, true, true, true, true, false] rfl rfl (by kernel_rfl) (by decide) (fun K hK => ?_)
      generalize wd.heap.size = gg at HGR HSZ hHeld ⊢
      generalize wd.alloc (.cells #[.slice A2 l2.length c2] 23 (0, 0)) = w3 at HB3 BK3 HO3 GL3 HGR HSZ hHeld ⊢
      refine goes_ Try.func87 (by kernel_rfl) rfl #[.agg #[.int .i64 a0_1, .int .i64 a0_2, .int .i64 a0_3, .slice A0_4 l0_4.length c0_4, .bool a0_5], .int .i64 (l0_0.length : Int), .slice A0_6 l0_6.length c0_6, .func (.func 113) #[] #[.pointer (some ⟨gg, 0, none⟩)]] (by rfl) rfl rfl (by simp only [List.map_toArray, List.map_cons, List.map_nil]; rfl) ?_
      refine (tableOfG (amongIn l2) 113 #[.pointer (some ⟨gg, 0, none⟩)] a0_1 a0_2 a0_3 A0_4 l0_4.length c0_4 a0_5 (l0_0.length : Int) A0_6 c0_6 l0_6 _ (Kd.C_below HR0_6.out HB3.out) HC0_6.out (by have := HN.out; omega) (by have := HN.out; omega) HOK.out (by intro args w; kernel_rfl) (fun W x _ hW => am_lit l2 A2 c2 x gg W (Kd.C_below (Kd.C_below HR2.out HB3.out) hW) HC2.out ((hW.cell HSZ.out).trans HGR.out))).mono ?_
      rintro e w4 ⟨v0, rfl, ho, hb⟩
      refine ⟨_, rfl, ?_⟩
      rw [HT.out] at ho
      obtain ⟨g8, c8, eo8, gb8, gl8, cl8, HG8⟩ := Kd.R_form ho (by have := HL8.out; have := HN.out; omega)
      subst eo8
      have HC8 := Aside0.mk (Kd.R_reads' ho).2.2
      have HN8 : Aside0 (∀ ad, (some (⟨g8, 0, none⟩ : Addr)) = some ad → 0 < l8.length → ad.block ≠ go) := ⟨fun ad e _ => by cases e; have := GL3.out; show g8 ≠ go; omega⟩
      have HO4 := Aside0.mk (Kd.R_below HO3.out hb)
      have BK4 := Aside0.mk (blk_below BK3.out hb)
      have HB4 := Aside0.mk (below_step HB3.out hb)
      clear HO3 BK3 HB3 hb ho gb8 gl8 cl8 HG8 HGR HSZ GL3
      refine hK.out _ _ ⟨(blk_cell BK4.out 0).trans rfl, (blk_cell BK4.out 1).trans rfl, (blk_cell BK4.out 2).trans rfl, (blk_cell BK4.out 3).trans rfl, (blk_cell BK4.out 4).trans rfl, (blk_cell BK4.out 5).trans rfl, (blk_cell BK4.out 6).trans rfl⟩ (fun hHeld => ?_)
      clear hK K
      refine norm_ (a' := ?_) ?_ ?_
      rotate_left
      · (show Act.put _ (some 31) _ = _; simp only [Act.put, List.setIfInBounds_toArray, List.set_cons_zero, List.set_cons_succ, i64_w, i32_w]; rfl)
      refine pure_ (i := 13) (N := some 8) (v := ?_) (a' := ?_) #[true, true, true, true, true, true, true, true, true, true, true, true, true, true] rfl rfl (by kernel_rfl) (fun _ _ _ h => h) (Or.inl ⟨by rfl, ?_⟩) ?_ ?_
      rotate_left
      · (intro w'; go_simp; with_reducible rfl)
      rotate_left
      · (simp only [Act.put, List.setIfInBounds_toArray, List.set_cons_zero, List.set_cons_succ, i64_w, i32_w]; rfl)
      refine done_ (by kernel_rfl) ?_
      try go_wp2
      go_meet
      case rel => exact ⟨_, _, rfl, HC8, HN8, HO4, BK4, HB4⟩
    | false =>
      have hm : ¬ (a1 = 5 ∨ a1 = 6) := fun h => absurd (HBB.out.2 h) (by simp)
      have e9 : l8 = l0_9 := by rw [HL.out]; unfold impl_ranker_values.rows; rw [if_neg hm]
      clear hm
      have HC8 := Aside0.mk (Kd.C_below HR0_9.out HB.out)
      have HN8 : Aside0 (∀ ad, A0_9 = some ad → 0 < l8.length → ad.block ≠ go) := ⟨fun ad e hp => by
        have h1 := HR0_9.out
        rw [e] at h1
        have h2 := Kd.C_lt h1 (by rw [← e9]; exact hp) (by decide)
        have := GO.out
        omega⟩
      go_wp2
      go_meet
      case rel => exact ⟨A0_9, c0_9, by rw [e9], ⟨by rw [e9]; exact HC8.out⟩, HN8, HO, BK, HB⟩
  case rest =>
    obtain ⟨A8, c8, rfl, HC8, HN8, HO, BK, HB⟩ := hcut
    have HF := Aside0.mk (Kd.C_foot_ne (d := k74) (g := go) k74_any HC8.out HN8.out)
    clear HC8 HN8
    try go_wp2
    go_loopg [34] l0_0.length (fun kq v34 w' => ∃ (x34 : Int), v34 = .int .i64 x34 ∧ Aside0 (0 ≤ x34 ∧ (kq : Int) + x34 = (l0_0.length : Int)) ∧ Aside0 (Kd.R (Kd.int .i64) 3 w' w.heap.size (fun _ => True) (.slice (some ⟨go, 0, none⟩) y.length co) (vtL G l0_0.length x34.toNat)) ∧ Aside0 (KeepBut wc w' go none) ∧ Aside0 (w'.heap[gb]? = some (.cells #[.slice A0_0 l0_0.length c0_0, .int .i64 a0_1, .int .i64 a0_2, .int .i64 a0_3, .slice A0_4 l0_4.length c0_4, .bool a0_5, .slice A0_6 l0_6.length c0_6, .slice A0_7 l0_7.length c0_7, .slice A0_8 l0_8.length c0_8, .slice A0_9 l0_9.length c0_9] 128 (0, 0))) ∧ Aside0 (Below w.heap.size w w'))
    case atStart => exact ⟨0, rfl, ⟨⟨Int.le_refl _, by omega⟩⟩, ⟨by have h := HO.out; rw [HY.out] at h ⊢; exact h⟩, ⟨KeepBut.refl _ _ _⟩, BK, HB⟩
    case round =>
      clear HO BK HB
      obtain ⟨x34, rfl, HX, HO, HKB, BK, HB⟩ := hrel
      by_cases hi : x34 < (y.length : Int)
      · have c11 : decide (x34 < (y.length : Int)) = true := decide_eq_true hi
        have hin : x34 < (l0_0.length : Int) := by rw [HYL.out] at hi; exact hi
        clear hi
        have hw : wrap64 (x34 + 1) = x34 + 1 := by have := HX.out; have := HN.out; unfold wrap64; omega
        obtain ⟨m, hm⟩ : ∃ m : Nat, gk = m + 1 := ⟨gk - 1, by have := HX.out; omega⟩
        have HM : Aside0 (m < gk) := ⟨by omega⟩
        have HX2 : Aside0 (0 ≤ x34 + 1 ∧ (m : Int) + (x34 + 1) = (l0_0.length : Int)) := ⟨by have := HX.out; omega⟩
        clear hm
        have p0 : 0 ≤ x34 := HX.out.1
        have HW := Aside0.mk hw
        have HIN := Aside0.mk hin
        clear hw hin
        obtain ⟨hx0, hf0⟩ := Kd.R_celln 0 HO.out x34 p0 (by rw [HYL.out]; exact HIN.out)
        have pq : (0 ≤ x34) = True := eq_true p0
        have pd : decide (0 ≤ x34) = true := decide_eq_true p0
        have hkey : a1 = 1 ∨ a1 = 2 ∨ a1 = 3 ∨ a1 = 4 ∨ a1 = 5 ∨ a1 = 6 ∨ a1 = 7 ∨ a1 = 8 := by have := HKEY.out; omega
        rcases hkey with e_ | e_ | e_ | e_ | e_ | e_ | e_ | e_
        · skip
          have k1 : (a1 == 1) = true := by rw [e_]; rfl
          have k2 : (a1 == 2) = false := by rw [e_]; rfl
          have k6 : (a1 == 6) = false := by rw [e_]; rfl
          have k3 : (a1 == 3) = false := by rw [e_]; rfl
          have k4 : (a1 == 4) = false := by rw [e_]; rfl
          have k5 : (a1 == 5) = false := by rw [e_]; rfl
          have k7 : (a1 == 7) = false := by rw [e_]; rfl
          have k8 : (a1 == 8) = false := by rw [e_]; rfl
          have EK := Aside0.mk e_
          clear e_
          obtain ⟨ad, e8, hr0, hr1, hr2, hr3, hr4, hr5, hr6⟩ := at_T74 (HF.out _ HKB.out) x34 p0 (by rw [HL8.out]; exact HIN.out)
          cases e8
          have q8 : (x34 < (l8.length : Int)) = True := eq_true (by rw [HL8.out]; exact HIN.out)
          obtain ⟨adt, et, hzt⟩ := Kd.at_int (Kd.C_below HR0_8.out HB.out) x34 p0 (by rw [H8.out]; exact HIN.out)
          cases et
          have qt : (x34 < (l0_8.length : Int)) = True := eq_true (by rw [H8.out]; exact HIN.out)
          have qy : (x34 < (y.length : Int)) = True := eq_true (by rw [HYL.out]; exact HIN.out)
          go_wp2_with fail
          refine start_ (n := 16) (S := fun w' => w'.cell? ⟨gb, 8, none⟩ = some (.slice (some adt) l0_8.length c0_8) ∧ w'.cell? ⟨(ad.add (x34.toNat * 7)).block, (ad.add (x34.toNat * 7)).off + 6, none⟩ = some (.int .i64 ((rd_T74 l8 x34).f6)) ∧ w'.cell? (adt.add x34.toNat) = some (.int .i64 (rd l0_8 x34))) (ds := [15]) #[false, false, false, false, false, false, false, false, false, false, false, false, false, false, false, false] (by kernel_rfl) rfl rfl ⟨(blk_cell BK.out 8).trans rfl, hr6, hzt⟩ (fun hHeld => ?_)
          have HOd := Aside0.mk (Kd.R_drew HO.out)
          have HKd := Aside0.mk (keep_drew HKB.out)
          have BKd := Aside0.mk (blk_drew BK.out)
          have HBd := Aside0.mk (below_drew1 HB.out)
          have hx1 : wr.drew.cell? _ = _ := hx0
          have hf1 : wr.drew.frozen? _ = _ := hf0
          clear hx0 hf0 hr0 hr1 hr2 hr3 hr4 hr5 hr6 hzt HO HKB BK HB
          generalize wr.drew = wd at HOd HKd BKd HBd hx1 hf1 hHeld ⊢
          refine pure_ (i := 0) (N := some 40) (v := ?_) (a' := ?_) #[true, false, false, false, false, false, false, false, false, false, false, false, false, false, false, false] rfl rfl (by kernel_rfl) (fun _ _ _ h => h) (Or.inl ⟨by rfl, ?_⟩) ?_ ?_
          rotate_left
          · (intro w'; go_simp; with_reducible rfl)
          rotate_left
          · (simp only [Act.put, List.setIfInBounds_toArray, List.set_cons_zero, List.set_cons_succ, i64_w, i32_w]; rfl)
          refine pure_ (i := 1) (N := some 41) (v := ?_) (a' := ?_) #[true, true, false, false, false, false, false, false, false, false, false, false, false, false, false, false] rfl rfl (by kernel_rfl) (fun _ _ _ h => h) (Or.inl ⟨by rfl, ?_⟩) ?_ ?_
          rotate_left
          · (intro w'; go_simp; with_reducible rfl)
          rotate_left
          · (simp only [Act.put, List.setIfInBounds_toArray, List.set_cons_zero, List.set_cons_succ, i64_w, i32_w]; rfl)
          refine pure_ (i := 2) (N := some 42) (v := ?_) (a' := ?_) #[true, true, true, false, false, false, false, false, false, false, false, false, false, false, false, false] rfl rfl (by kernel_rfl) (fun _ _ _ h => h) (Or.inl ⟨by rfl, ?_⟩) ?_ ?_
          rotate_left
          · (intro w'; go_simp; with_reducible rfl)
          rotate_left
          · (simp only [Act.put, List.setIfInBounds_toArray, List.set_cons_zero, List.set_cons_succ, i64_w, i32_w]; rfl)
          refine pure_ (i := 3) (N := some 43) (v := ?_) (a' := ?_) #[true, true, true, true, false, false, false, false, false, false, false, false, false, false, false, false] rfl rfl (by kernel_rfl) (fun _ _ _ h => h) (Or.inl ⟨by rfl, ?_⟩) ?_ ?_
          rotate_left
          · (intro w'; go_simp; with_reducible rfl)
          rotate_left
          · (simp only [Act.put, List.setIfInBounds_toArray, List.set_cons_zero, List.set_cons_succ, i64_w, i32_w]; rfl)
          refine pure_ (i := 4) (N := some 44) (v := ?_) (a' := ?_) #[true, true, true, true, true, false, false, false, false, false, false, false, false, false, false, false] rfl rfl (by kernel_rfl) (fun _ _ _ h => h) (Or.inl ⟨by rfl, ?_⟩) ?_ ?_
          rotate_left
          · (intro w'; go_simp; with_reducible rfl)
          rotate_left
          · (simp only [Act.put, List.setIfInBounds_toArray, List.set_cons_zero, List.set_cons_succ, i64_w, i32_w]; rfl)
          refine pure_ (i := 5) (N := some 45) (v := ?_) (a' := ?_) #[true, true, true, true, true, true, false, false, false, false, false, false, false, false, false, false] rfl rfl (by kernel_rfl) (fun _ _ _ h => h) (Or.inl ⟨by rfl, ?_⟩) ?_ ?_
          rotate_left
          · (intro w'; go_simp; with_reducible rfl)
          rotate_left
          · (simp only [Act.put, List.setIfInBounds_toArray, List.set_cons_zero, List.set_cons_succ, i64_w, i32_w]; rfl)
          refine pure_ (i := 7) (N := some 47) (v := ?_) (a' := ?_) #[true, true, true, true, true, true, false, true, false, false, false, false, false, false, false, false] rfl rfl (by kernel_rfl) (fun _ _ _ h => h) (Or.inl ⟨by rfl, ?_⟩) ?_ ?_
          rotate_left
          · (intro w'; go_simp; with_reducible rfl)
          rotate_left
          · (simp only [Act.put, List.setIfInBounds_toArray, List.set_cons_zero, List.set_cons_succ, i64_w, i32_w]; rfl)
          refine pure_ (i := 8) (N := some 48) (v := ?_) (a' := ?_) #[true, true, true, true, true, true, false, true, true, false, false, false, false, false, false, false] rfl rfl (by kernel_rfl) (fun _ _ _ h => h) (Or.inl ⟨by rfl, ?_⟩) ?_ ?_
          rotate_left
          · (intro w'; go_simp; with_reducible rfl)
          rotate_left
          · (simp only [Act.put, List.setIfInBounds_toArray, List.set_cons_zero, List.set_cons_succ, i64_w, i32_w]; rfl)
          refine pure_ (i := 10) (N := some 50) (v := ?_) (a' := ?_) #[true, true, true, true, true, true, false, true, true, false, true, false, false, false, false, false] rfl rfl (by kernel_rfl) (fun _ _ _ h => h) (Or.inl ⟨by rfl, ?_⟩) ?_ ?_
          rotate_left
          · (intro w'; go_simp; with_reducible rfl)
          rotate_left
          · (simp only [Act.put, List.setIfInBounds_toArray, List.set_cons_zero, List.set_cons_succ, i64_w, i32_w]; rfl)
          refine take_ (i := 6) (N := some 46) (v := ?_) (a' := ?_) #[true, true, true, true, true, true, true, true, true, false, true, false, false, false, false, false] rfl rfl (by kernel_rfl) (fun _ _ _ h => h) (Or.inl ⟨by rfl, ?_⟩) hHeld ?_ ?_
          rotate_left
          · (rintro w' ⟨s0, s1, s2⟩; go_simp; with_reducible rfl)
          rotate_left
          · (simp only [Act.put, List.setIfInBounds_toArray, List.set_cons_zero, List.set_cons_succ, i64_w, i32_w]; rfl)
          refine take_ (i := 9) (N := some 49) (v := ?_) (a' := ?_) #[true, true, true, true, true, true, true, true, true, true, true, false, false, false, false, false] rfl rfl (by kernel_rfl) (fun _ _ _ h => h) (Or.inl ⟨by rfl, ?_⟩) hHeld ?_ ?_
          rotate_left
          · (rintro w' ⟨s0, s1, s2⟩; go_simp; with_reducible rfl)
          rotate_left
          · (simp only [Act.put, List.setIfInBounds_toArray, List.set_cons_zero, List.set_cons_succ, i64_w, i32_w]; rfl)
          refine pure_ (i := 11) (N := some 51) (v := ?_) (a' := ?_) #[true, true, true, true, true, true, true, true, true, true, true, true, false, false, false, false] rfl rfl (by kernel_rfl) (fun _ _ _ h => h) (Or.inl ⟨by rfl, ?_⟩) ?_ ?_
          rotate_left
          · (intro w'; go_simp; with_reducible rfl)
          rotate_left
          · (simp only [Act.put, List.setIfInBounds_toArray, List.set_cons_zero, List.set_cons_succ, i64_w, i32_w]; rfl)
          refine take_ (i := 12) (N := some 52) (v := ?_) (a' := ?_) #[true, true, true, true, true, true, true, true, true, true, true, true, true, false, false, false] rfl rfl (by kernel_rfl) (fun _ _ _ h => h) (Or.inl ⟨by rfl, ?_⟩) hHeld ?_ ?_
          rotate_left
          · (rintro w' ⟨s0, s1, s2⟩; go_simp; with_reducible rfl)
          rotate_left
          · (simp only [Act.put, List.setIfInBounds_toArray, List.set_cons_zero, List.set_cons_succ, i64_w, i32_w]; rfl)
          refine pure_ (i := 13) (N := some 53) (v := ?_) (a' := ?_) #[true, true, true, true, true, true, true, true, true, true, true, true, true, true, false, false] rfl rfl (by kernel_rfl) (fun _ _ _ h => h) (Or.inl ⟨by rfl, ?_⟩) ?_ ?_
          rotate_left
          · (intro w'; go_simp; with_reducible rfl)
          rotate_left
          · (simp only [Act.put, List.setIfInBounds_toArray, List.set_cons_zero, List.set_cons_succ, i64_w, i32_w]; rfl)
          refine pure_ (i := 14) (N := some 54) (v := ?_) (a' := ?_) #[true, true, true, true, true, true, true, true, true, true, true, true, true, true, true, false] rfl rfl (by kernel_rfl) (fun _ _ _ h => h) (Or.inl ⟨by rfl, ?_⟩) ?_ ?_
          rotate_left
          · (intro w'; go_simp; with_reducible rfl)
          rotate_left
          · (simp only [Act.put, List.setIfInBounds_toArray, List.set_cons_zero, List.set_cons_succ, i64_w, i32_w]; rfl)
          refine last_ (i := 15) (N := none) #[true, true, true, true, true, true, true, true, true, true, true, true, true, true, true, true] rfl rfl (by kernel_rfl) (by decide) (fun K hK => ?_)
          refine skip_ (w1 := ?_) (by rfl) rfl ?_ ?_
          rotate_left
          · go_simp
            rfl
          refine hK.out _ _ ?_
          clear hK K
          refine done_ (by kernel_rfl) ?_
          try go_wp2
          have HP := Aside0.mk (Kd.R_putg HOd.out x34 (wrap64 ((rd_T74 l8 x34).f6 - rd l0_8 x34))).1
          rw [vtL_set G l0_0.length x34 _ p0 HIN.out (by rw [HG.out]; have e_ := EK.out; unfold impl_ranker_values.val; simp [e_])] at HP
          go_roundg m
          case measure => exact HM.out
          case rel => exact ⟨wrap64 (x34 + 1), qS, ⟨by rw [HW.out]; exact HX2.out⟩, ⟨by rw [HW.out]; exact HP.out⟩, ⟨keep_setg HKd.out⟩, ⟨blk_far BKd.out NE.out _⟩, ⟨below_set HBd.out GO.out⟩⟩
        · skip
          have k1 : (a1 == 1) = false := by rw [e_]; rfl
          have k2 : (a1 == 2) = true := by rw [e_]; rfl
          have k6 : (a1 == 6) = false := by rw [e_]; rfl
          have k3 : (a1 == 3) = false := by rw [e_]; rfl
          have k4 : (a1 == 4) = false := by rw [e_]; rfl
          have k5 : (a1 == 5) = false := by rw [e_]; rfl
          have k7 : (a1 == 7) = false := by rw [e_]; rfl
          have k8 : (a1 == 8) = false := by rw [e_]; rfl
          have EK := Aside0.mk e_
          clear e_
          obtain ⟨ad, e8, hr0, hr1, hr2, hr3, hr4, hr5, hr6⟩ := at_T74 (HF.out _ HKB.out) x34 p0 (by rw [HL8.out]; exact HIN.out)
          cases e8
          have q8 : (x34 < (l8.length : Int)) = True := eq_true (by rw [HL8.out]; exact HIN.out)
          have qy : (x34 < (y.length : Int)) = True := eq_true (by rw [HYL.out]; exact HIN.out)
          go_wp2_with fail
          refine (impl_DifferenceOf.calls ((rd_T74 l8 x34).f0) ((rd_T74 l8 x34).f1) ((rd_T74 l8 x34).f2) ((rd_T74 l8 x34).f3) ((rd_T74 l8 x34).f4) ((rd_T74 l8 x34).f5) ((rd_T74 l8 x34).f6) (wrap64 ((rd_T74 l8 x34).f4 - (rd_T74 l8 x34).f5)) _ rfl).mono ?_
          rintro e wf ⟨rfl, hb⟩
          have HOd := Aside0.mk (Kd.R_below HO.out hb)
          have HKd := Aside0.mk (keep_then HKB.out hb)
          have BKd := Aside0.mk (blk_below BK.out hb)
          have HBd := Aside0.mk (below_step HB.out hb)
          obtain ⟨hx1, hf1⟩ := Kd.R_celln 0 HOd.out x34 p0 (by rw [HYL.out]; exact HIN.out)
          clear hx0 hf0 hr0 hr1 hr2 hr3 hr4 hr5 hr6 hb HO HKB BK HB
          go_wp2
          have HP := Aside0.mk (Kd.R_putg HOd.out x34 (wrap64 ((rd_T74 l8 x34).f4 - (rd_T74 l8 x34).f5))).1
          rw [vtL_set G l0_0.length x34 _ p0 HIN.out (by rw [HG.out]; have e_ := EK.out; unfold impl_ranker_values.val; simp [e_])] at HP
          go_roundg m
          case measure => exact HM.out
          case rel => exact ⟨wrap64 (x34 + 1), qS, ⟨by rw [HW.out]; exact HX2.out⟩, ⟨by rw [HW.out]; exact HP.out⟩, ⟨keep_setg HKd.out⟩, ⟨blk_far BKd.out NE.out _⟩, ⟨below_set HBd.out GO.out⟩⟩
        · skip
          have k1 : (a1 == 1) = false := by rw [e_]; rfl
          have k2 : (a1 == 2) = false := by rw [e_]; rfl
          have k6 : (a1 == 6) = false := by rw [e_]; rfl
          have k3 : (a1 == 3) = true := by rw [e_]; rfl
          have k4 : (a1 == 4) = false := by rw [e_]; rfl
          have k5 : (a1 == 5) = false := by rw [e_]; rfl
          have k7 : (a1 == 7) = false := by rw [e_]; rfl
          have k8 : (a1 == 8) = false := by rw [e_]; rfl
          have EK := Aside0.mk e_
          clear e_
          obtain ⟨ad, e8, hr0, hr1, hr2, hr3, hr4, hr5, hr6⟩ := at_T74 (HF.out _ HKB.out) x34 p0 (by rw [HL8.out]; exact HIN.out)
          cases e8
          have q8 : (x34 < (l8.length : Int)) = True := eq_true (by rw [HL8.out]; exact HIN.out)
          have qy : (x34 < (y.length : Int)) = True := eq_true (by rw [HYL.out]; exact HIN.out)
          go_wp2
          have HP := Aside0.mk (Kd.R_putg HO.out x34 ((rd_T74 l8 x34).f4)).1
          rw [vtL_set G l0_0.length x34 _ p0 HIN.out (by rw [HG.out]; have e_ := EK.out; unfold impl_ranker_values.val; simp [e_])] at HP
          go_roundg m
          case measure => exact HM.out
          case rel => exact ⟨wrap64 (x34 + 1), qS, ⟨by rw [HW.out]; exact HX2.out⟩, ⟨by rw [HW.out]; exact HP.out⟩, ⟨keep_setg HKB.out⟩, ⟨blk_far BK.out NE.out _⟩, ⟨below_set HB.out GO.out⟩⟩
        · skip
          have k1 : (a1 == 1) = false := by rw [e_]; rfl
          have k2 : (a1 == 2) = false := by rw [e_]; rfl
          have k6 : (a1 == 6) = false := by rw [e_]; rfl
          have k3 : (a1 == 3) = false := by rw [e_]; rfl
          have k4 : (a1 == 4) = true := by rw [e_]; rfl
          have k5 : (a1 == 5) = false := by rw [e_]; rfl
          have k7 : (a1 == 7) = false := by rw [e_]; rfl
          have k8 : (a1 == 8) = false := by rw [e_]; rfl
          have EK := Aside0.mk e_
          clear e_
          obtain ⟨ad, e8, hr0, hr1, hr2, hr3, hr4, hr5, hr6⟩ := at_T74 (HF.out _ HKB.out) x34 p0 (by rw [HL8.out]; exact HIN.out)
          cases e8
          have q8 : (x34 < (l8.length : Int)) = True := eq_true (by rw [HL8.out]; exact HIN.out)
          have qy : (x34 < (y.length : Int)) = True := eq_true (by rw [HYL.out]; exact HIN.out)
          go_wp2
          have HP := Aside0.mk (Kd.R_putg HO.out x34 ((rd_T74 l8 x34).f1)).1
          rw [vtL_set G l0_0.length x34 _ p0 HIN.out (by rw [HG.out]; have e_ := EK.out; unfold impl_ranker_values.val; simp [e_])] at HP
          go_roundg m
          case measure => exact HM.out
          case rel => exact ⟨wrap64 (x34 + 1), qS, ⟨by rw [HW.out]; exact HX2.out⟩, ⟨by rw [HW.out]; exact HP.out⟩, ⟨keep_setg HKB.out⟩, ⟨blk_far BK.out NE.out _⟩, ⟨below_set HB.out GO.out⟩⟩
        · skip
          have k1 : (a1 == 1) = false := by rw [e_]; rfl
          have k2 : (a1 == 2) = false := by rw [e_]; rfl
          have k6 : (a1 == 6) = false := by rw [e_]; rfl
          have k3 : (a1 == 3) = false := by rw [e_]; rfl
          have k4 : (a1 == 4) = false := by rw [e_]; rfl
          have k5 : (a1 == 5) = true := by rw [e_]; rfl
          have k7 : (a1 == 7) = false := by rw [e_]; rfl
          have k8 : (a1 == 8) = false := by rw [e_]; rfl
          have EK := Aside0.mk e_
          clear e_
          obtain ⟨ad, e8, hr0, hr1, hr2, hr3, hr4, hr5, hr6⟩ := at_T74 (HF.out _ HKB.out) x34 p0 (by rw [HL8.out]; exact HIN.out)
          cases e8
          have q8 : (x34 < (l8.length : Int)) = True := eq_true (by rw [HL8.out]; exact HIN.out)
          have qy : (x34 < (y.length : Int)) = True := eq_true (by rw [HYL.out]; exact HIN.out)
          go_wp2
          have HP := Aside0.mk (Kd.R_putg HO.out x34 ((rd_T74 l8 x34).f6)).1
          rw [vtL_set G l0_0.length x34 _ p0 HIN.out (by rw [HG.out]; have e_ := EK.out; unfold impl_ranker_values.val; simp [e_])] at HP
          go_roundg m
          case measure => exact HM.out
          case rel => exact ⟨wrap64 (x34 + 1), qS, ⟨by rw [HW.out]; exact HX2.out⟩, ⟨by rw [HW.out]; exact HP.out⟩, ⟨keep_setg HKB.out⟩, ⟨blk_far BK.out NE.out _⟩, ⟨below_set HB.out GO.out⟩⟩
        · skip
          have k1 : (a1 == 1) = false := by rw [e_]; rfl
          have k2 : (a1 == 2) = false := by rw [e_]; rfl
          have k6 : (a1 == 6) = true := by rw [e_]; rfl
          have k3 : (a1 == 3) = false := by rw [e_]; rfl
          have k4 : (a1 == 4) = false := by rw [e_]; rfl
          have k5 : (a1 == 5) = false := by rw [e_]; rfl
          have k7 : (a1 == 7) = false := by rw [e_]; rfl
          have k8 : (a1 == 8) = false := by rw [e_]; rfl
          have EK := Aside0.mk e_
          clear e_
          obtain ⟨ad, e8, hr0, hr1, hr2, hr3, hr4, hr5, hr6⟩ := at_T74 (HF.out _ HKB.out) x34 p0 (by rw [HL8.out]; exact HIN.out)
          cases e8
          have q8 : (x34 < (l8.length : Int)) = True := eq_true (by rw [HL8.out]; exact HIN.out)
          have qy : (x34 < (y.length : Int)) = True := eq_true (by rw [HYL.out]; exact HIN.out)
          go_wp2_with fail
          refine (impl_DifferenceOf.calls ((rd_T74 l8 x34).f0) ((rd_T74 l8 x34).f1) ((rd_T74 l8 x34).f2) ((rd_T74 l8 x34).f3) ((rd_T74 l8 x34).f4) ((rd_T74 l8 x34).f5) ((rd_T74 l8 x34).f6) (wrap64 ((rd_T74 l8 x34).f4 - (rd_T74 l8 x34).f5)) _ rfl).mono ?_
          rintro e wf ⟨rfl, hb⟩
          have HOd := Aside0.mk (Kd.R_below HO.out hb)
          have HKd := Aside0.mk (keep_then HKB.out hb)
          have BKd := Aside0.mk (blk_below BK.out hb)
          have HBd := Aside0.mk (below_step HB.out hb)
          obtain ⟨hx1, hf1⟩ := Kd.R_celln 0 HOd.out x34 p0 (by rw [HYL.out]; exact HIN.out)
          clear hx0 hf0 hr0 hr1 hr2 hr3 hr4 hr5 hr6 hb HO HKB BK HB
          go_wp2
          have HP := Aside0.mk (Kd.R_putg HOd.out x34 (wrap64 ((rd_T74 l8 x34).f4 - (rd_T74 l8 x34).f5))).1
          rw [vtL_set G l0_0.length x34 _ p0 HIN.out (by rw [HG.out]; have e_ := EK.out; unfold impl_ranker_values.val; simp [e_])] at HP
          go_roundg m
          case measure => exact HM.out
          case rel => exact ⟨wrap64 (x34 + 1), qS, ⟨by rw [HW.out]; exact HX2.out⟩, ⟨by rw [HW.out]; exact HP.out⟩, ⟨keep_setg HKd.out⟩, ⟨blk_far BKd.out NE.out _⟩, ⟨below_set HBd.out GO.out⟩⟩
        · skip
          have k1 : (a1 == 1) = false := by rw [e_]; rfl
          have k2 : (a1 == 2) = false := by rw [e_]; rfl
          have k6 : (a1 == 6) = false := by rw [e_]; rfl
          have k3 : (a1 == 3) = false := by rw [e_]; rfl
          have k4 : (a1 == 4) = false := by rw [e_]; rfl
          have k5 : (a1 == 5) = false := by rw [e_]; rfl
          have k7 : (a1 == 7) = true := by rw [e_]; rfl
          have k8 : (a1 == 8) = false := by rw [e_]; rfl
          have EK := Aside0.mk e_
          clear e_
          obtain ⟨adt, et, hzt⟩ := Kd.at_int (Kd.C_below HR0_7.out HB.out) x34 p0 (by rw [H7.out]; exact HIN.out)
          cases et
          have qt : (x34 < (l0_7.length : Int)) = True := eq_true (by rw [H7.out]; exact HIN.out)
          have qy : (x34 < (y.length : Int)) = True := eq_true (by rw [HYL.out]; exact HIN.out)
          have hb0 := (blk_cell BK.out 0).trans rfl
          have hb7 := (blk_cell BK.out 7).trans rfl
          go_wp2
          have HP := Aside0.mk (Kd.R_putg HO.out x34 (wrap64 (-(rd l0_7 x34)))).1
          rw [vtL_set G l0_0.length x34 _ p0 HIN.out (by rw [HG.out]; have e_ := EK.out; unfold impl_ranker_values.val; simp [e_])] at HP
          go_roundg m
          case measure => exact HM.out
          case rel => exact ⟨wrap64 (x34 + 1), qS, ⟨by rw [HW.out]; exact HX2.out⟩, ⟨by rw [HW.out]; exact HP.out⟩, ⟨keep_setg HKB.out⟩, ⟨blk_far BK.out NE.out _⟩, ⟨below_set HB.out GO.out⟩⟩
        · skip
          have k1 : (a1 == 1) = false := by rw [e_]; rfl
          have k2 : (a1 == 2) = false := by rw [e_]; rfl
          have k6 : (a1 == 6) = false := by rw [e_]; rfl
          have k3 : (a1 == 3) = false := by rw [e_]; rfl
          have k4 : (a1 == 4) = false := by rw [e_]; rfl
          have k5 : (a1 == 5) = false := by rw [e_]; rfl
          have k7 : (a1 == 7) = false := by rw [e_]; rfl
          have k8 : (a1 == 8) = true := by rw [e_]; rfl
          have EK := Aside0.mk e_
          clear e_
          obtain ⟨adt, et, hz0, hz1, hz2⟩ := at_T151 (Kd.C_below HR0_0.out HB.out) x34 p0 HIN.out
          cases et
          have qt : (x34 < (l0_0.length : Int)) = True := eq_true HIN.out
          have qy : (x34 < (y.length : Int)) = True := eq_true (by rw [HYL.out]; exact HIN.out)
          have hb0 := (blk_cell BK.out 0).trans rfl
          have hb7 := (blk_cell BK.out 7).trans rfl
          go_wp2
          have HP := Aside0.mk (Kd.R_putg HO.out x34 (wrap64 (-(rd_T151 l0_0 x34).f2))).1
          rw [vtL_set G l0_0.length x34 _ p0 HIN.out (by rw [HG.out]; have e_ := EK.out; unfold impl_ranker_values.val; simp [e_])] at HP
          go_roundg m
          case measure => exact HM.out
          case rel => exact ⟨wrap64 (x34 + 1), qS, ⟨by rw [HW.out]; exact HX2.out⟩, ⟨by rw [HW.out]; exact HP.out⟩, ⟨keep_setg HKB.out⟩, ⟨blk_far BK.out NE.out _⟩, ⟨below_set HB.out GO.out⟩⟩
      · have c11 : decide (x34 < (y.length : Int)) = false := decide_eq_false hi
        have he : x34.toNat = l0_0.length := by have := HX.out; have := HYL.out; omega
        rw [he] at HO
        clear hi he
        go_wp2
        go_ret
        exact ⟨_, rfl, HO.out, HB.out⟩
/-- The values over the table of all games. -/
def impl_ranker_values.f (l0_0 : List (S151)) (a0_1 : Int) (a0_2 : Int) (a0_3 : Int) (l0_4 : List Int) (a0_5 : Bool) (l0_6 : List (S71)) (l0_7 : List Int) (l0_8 : List Int) (a1 : Int) (l2 : List Int) : Option (List Int) := if ((decide (1 ≤ (l0_0.length : Int)) && decide ((l0_0.length : Int) ≤ 100000)) && l0_6.all (tbOk (l0_0.length : Int))) = true then impl_ranker_values.f10 l0_0 a0_1 a0_2 a0_3 l0_4 a0_5 l0_6 l0_7 l0_8 (tbTable a0_1 a0_2 a0_3 (fun _ => true) (l0_0.length : Int) l0_6) a1 l2 else none
theorem impl_ranker_values.cond {l0_0 : List S151} {a0_1 a0_2 a0_3 : Int} {l0_4 : List Int} {a0_5 : Bool} {l0_6 : List S71} {l0_7 l0_8 : List Int} {a1 : Int} {l2 r : List Int} (h : impl_ranker_values.f l0_0 a0_1 a0_2 a0_3 l0_4 a0_5 l0_6 l0_7 l0_8 a1 l2 = some r) : (1 ≤ l0_0.length ∧ l0_0.length ≤ 100000) ∧ (∀ g ∈ l0_6, tbOk (l0_0.length : Int) g = true) ∧ impl_ranker_values.f10 l0_0 a0_1 a0_2 a0_3 l0_4 a0_5 l0_6 l0_7 l0_8 (tbTable a0_1 a0_2 a0_3 (fun _ => true) (l0_0.length : Int) l0_6) a1 l2 = some r := by
  unfold impl_ranker_values.f at h
  by_cases hc : ((decide (1 ≤ (l0_0.length : Int)) && decide ((l0_0.length : Int) ≤ 100000)) && l0_6.all (tbOk (l0_0.length : Int))) = true
  · rw [if_pos hc] at h
    simp only [Bool.and_eq_true, decide_eq_true_eq, List.all_eq_true] at hc
    exact ⟨by omega, hc.2, h⟩
  · rw [if_neg hc] at h; cases h

/-! ### impl_KeyValue: function 56 -/
def impl_KeyValue.f (k : Nat) (l0_0 : List (S151)) (a0_1 : Int) (a0_2 : Int) (a0_3 : Int) (l0_4 : List Int) (a0_5 : Bool) (l0_6 : List (S71)) (l0_7 : List Int) (l0_8 : List Int) (a1 : Int) (a2 : Int) (l3 : List Int) : Option (Int) := (impl_BookOk.f k l0_0 a0_1 a0_2 a0_3 l0_4 a0_5 l0_6 l0_7 l0_8).bind fun t322 => (if t322 = true then ((impl_isKey.f a1).bind fun t323 => (if t323 = true then ((impl_isTeam.f l0_0 a0_1 a0_2 a0_3 l0_4 a0_5 l0_6 l0_7 l0_8 a2).bind fun t324 => (if t324 = true then ((impl_ranker_values.f l0_0 a0_1 a0_2 a0_3 l0_4 a0_5 l0_6 l0_7 l0_8 a1 l3).bind fun t325 => (if 0 ≤ a2 then (if a2 < (t325.length : Int) then (some (rd t325 a2)) else (none)) else (none))) else (some 0))) else (some 0))) else (some 0))
theorem impl_KeyValue.mono : ∀ a0 a1 a2 a3 a4 a5 a6 a7 a8 a9 a10 a11 k, LeO (impl_KeyValue.f k a0 a1 a2 a3 a4 a5 a6 a7 a8 a9 a10 a11) (impl_KeyValue.f (k + 1) a0 a1 a2 a3 a4 a5 a6 a7 a8 a9 a10 a11) := by
  intro a0 a1 a2 a3 a4 a5 a6 a7 a8 a9 a10 a11 k
  unfold impl_KeyValue.f
  repeat' first
      | (with_reducible exact impl_BookOk.mono _ _ _ _ _ _ _ _ _ _)
      | (with_reducible exact LeO.refl _)
      | (with_reducible exact LeO.none _)
      | (with_reducible refine LeO.ite ?_ ?_)
      | (with_reducible refine LeO.bind ?_ (fun _ => ?_))
      | exact impl_BookOk.mono _ _ _ _ _ _ _ _ _ _
      | exact LeO.none _
      | refine LeO.ite ?_ ?_
      | refine LeO.bind ?_ (fun _ => ?_)
set_option maxHeartbeats 8000000 in
set_option maxRecDepth 100000 in
theorem impl_KeyValue.calls (k : Nat) (A0_0 : Option Addr) (c0_0 : Nat) (l0_0 : List (S151)) (a0_1 : Int) (a0_2 : Int) (a0_3 : Int) (A0_4 : Option Addr) (c0_4 : Nat) (l0_4 : List Int) (a0_5 : Bool) (A0_6 : Option Addr) (c0_6 : Nat) (l0_6 : List (S71)) (A0_7 : Option Addr) (c0_7 : Nat) (l0_7 : List Int) (A0_8 : Option Addr) (c0_8 : Nat) (l0_8 : List Int) (a1 : Int) (a2 : Int) (A3 : Option Addr) (c3 : Nat) (l3 : List Int) (r : Int) (w : World) (hr0_0 : Kd.C k151 w A0_0 l0_0.length l0_0) (hc0_0 : l0_0.length ≤ c0_0) (hr0_4 : Kd.C (Kd.int .i64) w A0_4 l0_4.length l0_4) (hc0_4 : l0_4.length ≤ c0_4) (hr0_6 : Kd.C k71 w A0_6 l0_6.length l0_6) (hc0_6 : l0_6.length ≤ c0_6) (hr0_7 : Kd.C (Kd.int .i64) w A0_7 l0_7.length l0_7) (hc0_7 : l0_7.length ≤ c0_7) (hr0_8 : Kd.C (Kd.int .i64) w A0_8 l0_8.length l0_8) (hc0_8 : l0_8.length ≤ c0_8) (hr3 : Kd.C (Kd.int .i64) w A3 l3.length l3) (hc3 : l3.length ≤ c3) (h : impl_KeyValue.f k l0_0 a0_1 a0_2 a0_3 l0_4 a0_5 l0_6 l0_7 l0_8 a1 a2 l3 = some r) :
    Calls Try.prog 56 #[.agg #[.slice A0_0 l0_0.length c0_0, .int .i64 a0_1, .int .i64 a0_2, .int .i64 a0_3, .slice A0_4 l0_4.length c0_4, .bool a0_5, .slice A0_6 l0_6.length c0_6, .slice A0_7 l0_7.length c0_7, .slice A0_8 l0_8.length c0_8], .int .i64 a1, .int .i64 a2, .slice A3 l3.length c3] w fun e w' => e = .returned (.int .i64 r) ∧ Below w.heap.size w w' := by
  have hu67 := Try.underlying67
  have HR0_0 := Aside0.mk hr0_0
  have HC0_0 := Aside0.mk hc0_0
  clear hr0_0 hc0_0
  have HR0_4 := Aside0.mk hr0_4
  have HC0_4 := Aside0.mk hc0_4
  clear hr0_4 hc0_4
  have HR0_6 := Aside0.mk hr0_6
  have HC0_6 := Aside0.mk hc0_6
  clear hr0_6 hc0_6
  have HR0_7 := Aside0.mk hr0_7
  have HC0_7 := Aside0.mk hc0_7
  clear hr0_7 hc0_7
  have HR0_8 := Aside0.mk hr0_8
  have HC0_8 := Aside0.mk hc0_8
  clear hr0_8 hc0_8
  have HR3 := Aside0.mk hr3
  have HC3 := Aside0.mk hc3
  clear hr3 hc3
  have HB := Aside0.mk (Below.refl w.heap.size w)
  have H : ((impl_BookOk.f k l0_0 a0_1 a0_2 a0_3 l0_4 a0_5 l0_6 l0_7 l0_8).bind fun t322 => (if t322 = true then ((impl_isKey.f a1).bind fun t323 => (if t323 = true then ((impl_isTeam.f l0_0 a0_1 a0_2 a0_3 l0_4 a0_5 l0_6 l0_7 l0_8 a2).bind fun t324 => (if t324 = true then ((impl_ranker_values.f l0_0 a0_1 a0_2 a0_3 l0_4 a0_5 l0_6 l0_7 l0_8 a1 l3).bind fun t325 => (if 0 ≤ a2 then (if a2 < (t325.length : Int) then (some (rd t325 a2)) else (none)) else (none))) else (some 0))) else (some 0))) else (some 0))) = some r := h
  clear h
  replace H := Option.bind_eq_some_iff.mp H
  obtain ⟨t322, A50, H⟩ := H
  try dsimp only at H
  have A5 := Aside0.mk A50
  clear A50
  by_cases c6 : t322 = true
  · subst c6
    have H1 : ((impl_isKey.f a1).bind fun t323 => (if t323 = true then ((impl_isTeam.f l0_0 a0_1 a0_2 a0_3 l0_4 a0_5 l0_6 l0_7 l0_8 a2).bind fun t324 => (if t324 = true then ((impl_ranker_values.f l0_0 a0_1 a0_2 a0_3 l0_4 a0_5 l0_6 l0_7 l0_8 a1 l3).bind fun t325 => (if 0 ≤ a2 then (if a2 < (t325.length : Int) then (some (rd t325 a2)) else (none)) else (none))) else (some 0))) else (some 0))) = some r := by rw [if_pos rfl] at H; exact H
    clear H
    have H := H1
    clear H1
    replace H := Option.bind_eq_some_iff.mp H
    obtain ⟨t323, A70, H⟩ := H
    try dsimp only at H
    have A7 := Aside0.mk A70
    clear A70
    by_cases c8 : t323 = true
    · subst c8
      have H1 : ((impl_isTeam.f l0_0 a0_1 a0_2 a0_3 l0_4 a0_5 l0_6 l0_7 l0_8 a2).bind fun t324 => (if t324 = true then ((impl_ranker_values.f l0_0 a0_1 a0_2 a0_3 l0_4 a0_5 l0_6 l0_7 l0_8 a1 l3).bind fun t325 => (if 0 ≤ a2 then (if a2 < (t325.length : Int) then (some (rd t325 a2)) else (none)) else (none))) else (some 0))) = some r := by rw [if_pos rfl] at H; exact H
      clear H
      have H := H1
      clear H1
      replace H := Option.bind_eq_some_iff.mp H
      obtain ⟨t324, A90, H⟩ := H
      try dsimp only at H
      have A9 := Aside0.mk A90
      clear A90
      by_cases c10 : t324 = true
      · subst c10
        have H1 : ((impl_ranker_values.f l0_0 a0_1 a0_2 a0_3 l0_4 a0_5 l0_6 l0_7 l0_8 a1 l3).bind fun t325 => (if 0 ≤ a2 then (if a2 < (t325.length : Int) then (some (rd t325 a2)) else (none)) else (none))) = some r := by rw [if_pos rfl] at H; exact H
        clear H
        have H := H1
        clear H1
        replace H := Option.bind_eq_some_iff.mp H
        obtain ⟨t325, A110, H⟩ := H
        try dsimp only at H
        have A11 := Aside0.mk A110
        clear A110
        by_cases c12 : 0 ≤ a2
        · rw [if_pos c12] at H
          have c12b0 : decide (0 ≤ a2) = true := decide_eq_true c12
          clear c12
          by_cases c13 : a2 < (t325.length : Int)
          · rw [if_pos c13] at H
            have c13b0 : decide (a2 < (t325.length : Int)) = true := decide_eq_true c13
            clear c13
            obtain rfl := Option.some.inj H
            go_enter Try.func56, Try.ntmps56
            go_wp2_with (first | ((with_reducible refine gate_dst (N := 4) rfl ?_); refine box_event ?hg (N := 4) ?hd (cs := #[.slice A0_0 l0_0.length c0_0, .int .i64 a0_1, .int .i64 a0_2, .int .i64 a0_3, .slice A0_4 l0_4.length c0_4, .bool a0_5, .slice A0_6 l0_6.length c0_6, .slice A0_7 l0_7.length c0_7, .slice A0_8 l0_8.length c0_8]) (t := 67) ?hr ?_; (case hd => rfl); (case hg => rfl); (case hr => first | (go_simp; done) | (go_simp; rfl)); intro gb321 hg w14 hbox hb; have n0_ := Aside0.mk (below_step qB hb); have n1_ := Aside0.mk (hbox); have n2_ := Aside0.mk ((qG hg : w.heap.size ≤ gb321)); have n3_ := Aside0.mk ((qG hg : w.heap.size ≤ gb321)); clear HB; have HB := n0_; have BK321 := n1_; have GW321 := n2_; have GE321 := n3_; clear n0_ n1_ n2_ n3_; clear hb hbox hg; have ⟨hcz15_0, hcz15_1, hcz15_2, hcz15_3, hcz15_4, hcz15_5, hcz15_6, hcz15_7, hcz15_8⟩ := qc9 BK321.out; have ⟨hfz15_0, hfz15_1, hfz15_2, hfz15_3, hfz15_4, hfz15_5, hfz15_6, hfz15_7, hfz15_8⟩ := qf9 BK321.out) | ((with_reducible refine gate_callee (f := 99) rfl ?_); refine goesL_ (some 10) rfl rfl Try.func99 (by kernel_rfl) rfl #[.agg #[.slice A0_0 l0_0.length c0_0, .int .i64 a0_1, .int .i64 a0_2, .int .i64 a0_3, .slice A0_4 l0_4.length c0_4, .bool a0_5, .slice A0_6 l0_6.length c0_6, .slice A0_7 l0_7.length c0_7, .slice A0_8 l0_8.length c0_8]] rfl qM ?_; (with_reducible refine (impl_BookOk.calls k _ _ l0_0 a0_1 a0_2 a0_3 _ _ l0_4 a0_5 _ _ l0_6 _ _ l0_7 _ _ l0_8 true _ ?side1 ?side2 ?side3 ?side4 ?side5 ?side6 ?side7 ?side8 ?side9 ?side10 A5.out).mono ?_); (case side1 => exact qC HR0_0.out); (case side2 => exact HC0_0.out); (case side3 => exact qC HR0_4.out); (case side4 => exact HC0_4.out); (case side5 => exact qC HR0_6.out); (case side6 => exact HC0_6.out); (case side7 => exact qC HR0_7.out); (case side8 => exact HC0_7.out); (case side9 => exact qC HR0_8.out); (case side10 => exact HC0_8.out); rintro e w16 ⟨rfl, hb⟩; refine ⟨_, rfl, ?_⟩; have n0_ := Aside0.mk (qL BK321.out hb); have n1_ := Aside0.mk (below_step qB hb); clear BK321; clear HB; have BK321 := n0_; have HB := n1_; clear n0_ n1_; (try clear hb); (try clear hb2); (try clear hk); (try clear hi)) | (go_at_call 60; (with_reducible refine (impl_isKey.calls a1 true _ A7.out).mono ?_); rintro e w' ⟨rfl, ⟨nd, rfl⟩⟩; have ⟨hcz17_0, hcz17_1, hcz17_2, hcz17_3, hcz17_4, hcz17_5, hcz17_6, hcz17_7, hcz17_8⟩ := qc9 BK321.out; have ⟨hfz17_0, hfz17_1, hfz17_2, hfz17_3, hfz17_4, hfz17_5, hfz17_6, hfz17_7, hfz17_8⟩ := qf9 BK321.out) | (go_at_call 100; (with_reducible refine (impl_isTeam.calls _ _ l0_0 a0_1 a0_2 a0_3 _ _ l0_4 a0_5 _ _ l0_6 _ _ l0_7 _ _ l0_8 a2 true _ ?side1 ?side2 ?side3 ?side4 ?side5 ?side6 ?side7 ?side8 ?side9 ?side10 A9.out).mono ?_); (case side1 => repeat (first | exact (Kd.C_below HR0_0.out qB) | (with_reducible refine Kd.C_alloc ?_ _) | (with_reducible refine Kd.C_drewN ?_ _) | (with_reducible refine Kd.C_drew ?_))); (case side2 => exact HC0_0.out); (case side3 => repeat (first | exact (Kd.C_below HR0_4.out qB) | (with_reducible refine Kd.C_alloc ?_ _) | (with_reducible refine Kd.C_drewN ?_ _) | (with_reducible refine Kd.C_drew ?_))); (case side4 => exact HC0_4.out); (case side5 => repeat (first | exact (Kd.C_below HR0_6.out qB) | (with_reducible refine Kd.C_alloc ?_ _) | (with_reducible refine Kd.C_drewN ?_ _) | (with_reducible refine Kd.C_drew ?_))); (case side6 => exact HC0_6.out); (case side7 => repeat (first | exact (Kd.C_below HR0_7.out qB) | (with_reducible refine Kd.C_alloc ?_ _) | (with_reducible refine Kd.C_drewN ?_ _) | (with_reducible refine Kd.C_drew ?_))); (case side8 => exact HC0_7.out); (case side9 => repeat (first | exact (Kd.C_below HR0_8.out qB) | (with_reducible refine Kd.C_alloc ?_ _) | (with_reducible refine Kd.C_drewN ?_ _) | (with_reducible refine Kd.C_drew ?_))); (case side10 => exact HC0_8.out); rintro e w18 ⟨rfl, hb⟩; have n0_ := Aside0.mk (qL BK321.out hb); have n1_ := Aside0.mk (below_step qB hb); clear BK321; clear HB; have BK321 := n0_; have HB := n1_; clear n0_ n1_; (try clear hb); (try clear hb2); (try clear hk); (try clear hi); have ⟨hcz19_0, hcz19_1, hcz19_2, hcz19_3, hcz19_4, hcz19_5, hcz19_6, hcz19_7, hcz19_8⟩ := qc9 BK321.out; have ⟨hfz19_0, hfz19_1, hfz19_2, hfz19_3, hfz19_4, hfz19_5, hfz19_6, hfz19_7, hfz19_8⟩ := qf9 BK321.out) | ((with_reducible refine gate_callee (f := 101) rfl ?_); refine goesL_ (some 24) rfl rfl Try.func101 (by kernel_rfl) rfl #[.agg #[.slice A0_0 l0_0.length c0_0, .int .i64 a0_1, .int .i64 a0_2, .int .i64 a0_3, .slice A0_4 l0_4.length c0_4, .bool a0_5, .slice A0_6 l0_6.length c0_6, .slice A0_7 l0_7.length c0_7, .slice A0_8 l0_8.length c0_8]] rfl qM ?_; (with_reducible refine (impl_rankerOf.calls _ _ l0_0 a0_1 a0_2 a0_3 _ _ l0_4 a0_5 _ _ l0_6 _ _ l0_7 _ _ l0_8 _ _ (Kd.C_below HR0_6.out HB.out) HC0_6.out (impl_ranker_values.cond A11.out).1 (impl_ranker_values.cond A11.out).2.1 rfl).mono ?_); rintro e wR ⟨A9, c9, rfl, hR, hC, hb⟩; refine ⟨_, rfl, ?_⟩; have R9 := Aside0.mk hR; have C9 := Aside0.mk hC; have n0_ := Aside0.mk (blk_below BK321.out hb); have n1_ := Aside0.mk (below_step HB.out hb); clear BK321; clear HB; have BK321 := n0_; have HB := n1_; clear n0_ n1_; clear hb hR hC) | ((with_reducible refine gate_callee (f := 102) rfl ?_); refine goesL_ (some 27) rfl rfl Try.func102 (by kernel_rfl) rfl #[.agg #[.slice A0_0 l0_0.length c0_0, .int .i64 a0_1, .int .i64 a0_2, .int .i64 a0_3, .slice A0_4 l0_4.length c0_4, .bool a0_5, .slice A0_6 l0_6.length c0_6, .slice A0_7 l0_7.length c0_7, .slice A0_8 l0_8.length c0_8, .slice A9 (tbTable a0_1 a0_2 a0_3 (fun _ => true) (l0_0.length : Int) l0_6).length c9], .int .i64 a1, .slice A3 l3.length c3] rfl qM ?_; (with_reducible refine (impl_ranker_values.calls10 _ _ l0_0 a0_1 a0_2 a0_3 _ _ l0_4 a0_5 _ _ l0_6 _ _ l0_7 _ _ l0_8 _ _ (tbTable a0_1 a0_2 a0_3 (fun _ => true) (l0_0.length : Int) l0_6) a1 _ _ l3 t325 _ ?side1 ?side2 ?side3 ?side4 ?side5 ?side6 ?side7 ?side8 ?side9 ?side10 R9.out C9.out ?side11 ?side12 (impl_ranker_values.cond A11.out).2.2).mono ?_); (case side1 => exact qC HR0_0.out); (case side2 => exact HC0_0.out); (case side3 => exact qC HR0_4.out); (case side4 => exact HC0_4.out); (case side5 => exact qC HR0_6.out); (case side6 => exact HC0_6.out); (case side7 => exact qC HR0_7.out); (case side8 => exact HC0_7.out); (case side9 => exact qC HR0_8.out); (case side10 => exact HC0_8.out); (case side11 => exact qC HR3.out); (case side12 => exact HC3.out); rintro e w20 ⟨v326, rfl, ho0, hb⟩; refine ⟨_, rfl, ?_⟩; have n0_ := Aside0.mk (Kd.R_lower ho0 (below_size qB)); have n1_ := Aside0.mk (qL BK321.out hb); have n2_ := Aside0.mk (below_step qB hb); clear BK321; clear HB; have HO327 := n0_; have BK321 := n1_; have HB := n2_; clear n0_ n1_ n2_; (try clear hb); (try clear hb2); (try clear hk); (try clear hi); (try clear ho0); obtain ⟨Ao21, co21, eo21⟩ := Kd.R_slice HO327.out; subst eo21; have p328 : 0 ≤ (a2 : Int) := qD; have q328 : a2 < (t325.length : Int) := qD; obtain ⟨ad328, e328, hx328_0⟩ := Kd.at_int (Kd.R_reads' HO327.out).2.2 a2 p328 q328; cases e328; replace p328 := eq_true p328; replace q328 := eq_true q328))
            go_ret
            exact ⟨by first | rfl | (simp [errW_none, errW_some] <;> rfl) | (simp [*, errW_none, errW_some] <;> rfl), qB⟩
          · rw [if_neg c13] at H
            exact absurd H (by simp)
        · rw [if_neg c12] at H
          exact absurd H (by simp)
      · replace c10 := Bool.eq_false_iff.mpr c10
        subst c10
        have H1 : (some 0) = some r := by rw [if_neg (show ¬ (false = true) by decide)] at H; exact H
        clear H
        have H := H1
        clear H1
        obtain rfl := Option.some.inj H
        go_enter Try.func56, Try.ntmps56
        go_wp2_with (first | ((with_reducible refine gate_dst (N := 4) rfl ?_); refine box_event ?hg (N := 4) ?hd (cs := #[.slice A0_0 l0_0.length c0_0, .int .i64 a0_1, .int .i64 a0_2, .int .i64 a0_3, .slice A0_4 l0_4.length c0_4, .bool a0_5, .slice A0_6 l0_6.length c0_6, .slice A0_7 l0_7.length c0_7, .slice A0_8 l0_8.length c0_8]) (t := 67) ?hr ?_; (case hd => rfl); (case hg => rfl); (case hr => first | (go_simp; done) | (go_simp; rfl)); intro gb321 hg w22 hbox hb; have n0_ := Aside0.mk (below_step qB hb); have n1_ := Aside0.mk (hbox); have n2_ := Aside0.mk ((qG hg : w.heap.size ≤ gb321)); have n3_ := Aside0.mk ((qG hg : w.heap.size ≤ gb321)); clear HB; have HB := n0_; have BK321 := n1_; have GW321 := n2_; have GE321 := n3_; clear n0_ n1_ n2_ n3_; clear hb hbox hg; have ⟨hcz23_0, hcz23_1, hcz23_2, hcz23_3, hcz23_4, hcz23_5, hcz23_6, hcz23_7, hcz23_8⟩ := qc9 BK321.out; have ⟨hfz23_0, hfz23_1, hfz23_2, hfz23_3, hfz23_4, hfz23_5, hfz23_6, hfz23_7, hfz23_8⟩ := qf9 BK321.out) | ((with_reducible refine gate_callee (f := 99) rfl ?_); refine goesL_ (some 10) rfl rfl Try.func99 (by kernel_rfl) rfl #[.agg #[.slice A0_0 l0_0.length c0_0, .int .i64 a0_1, .int .i64 a0_2, .int .i64 a0_3, .slice A0_4 l0_4.length c0_4, .bool a0_5, .slice A0_6 l0_6.length c0_6, .slice A0_7 l0_7.length c0_7, .slice A0_8 l0_8.length c0_8]] rfl qM ?_; (with_reducible refine (impl_BookOk.calls k _ _ l0_0 a0_1 a0_2 a0_3 _ _ l0_4 a0_5 _ _ l0_6 _ _ l0_7 _ _ l0_8 true _ ?side1 ?side2 ?side3 ?side4 ?side5 ?side6 ?side7 ?side8 ?side9 ?side10 A5.out).mono ?_); (case side1 => exact qC HR0_0.out); (case side2 => exact HC0_0.out); (case side3 => exact qC HR0_4.out); (case side4 => exact HC0_4.out); (case side5 => exact qC HR0_6.out); (case side6 => exact HC0_6.out); (case side7 => exact qC HR0_7.out); (case side8 => exact HC0_7.out); (case side9 => exact qC HR0_8.out); (case side10 => exact HC0_8.out); rintro e w24 ⟨rfl, hb⟩; refine ⟨_, rfl, ?_⟩; have n0_ := Aside0.mk (qL BK321.out hb); have n1_ := Aside0.mk (below_step qB hb); clear BK321; clear HB; have BK321 := n0_; have HB := n1_; clear n0_ n1_; (try clear hb); (try clear hb2); (try clear hk); (try clear hi)) | (go_at_call 60; (with_reducible refine (impl_isKey.calls a1 true _ A7.out).mono ?_); rintro e w' ⟨rfl, ⟨nd, rfl⟩⟩; have ⟨hcz25_0, hcz25_1, hcz25_2, hcz25_3, hcz25_4, hcz25_5, hcz25_6, hcz25_7, hcz25_8⟩ := qc9 BK321.out; have ⟨hfz25_0, hfz25_1, hfz25_2, hfz25_3, hfz25_4, hfz25_5, hfz25_6, hfz25_7, hfz25_8⟩ := qf9 BK321.out) | (go_at_call 100; (with_reducible refine (impl_isTeam.calls _ _ l0_0 a0_1 a0_2 a0_3 _ _ l0_4 a0_5 _ _ l0_6 _ _ l0_7 _ _ l0_8 a2 false _ ?side1 ?side2 ?side3 ?side4 ?side5 ?side6 ?side7 ?side8 ?side9 ?side10 A9.out).mono ?_); (case side1 => repeat (first | exact (Kd.C_below HR0_0.out qB) | (with_reducible refine Kd.C_alloc ?_ _) | (with_reducible refine Kd.C_drewN ?_ _) | (with_reducible refine Kd.C_drew ?_))); (case side2 => exact HC0_0.out); (case side3 => repeat (first | exact (Kd.C_below HR0_4.out qB) | (with_reducible refine Kd.C_alloc ?_ _) | (with_reducible refine Kd.C_drewN ?_ _) | (with_reducible refine Kd.C_drew ?_))); (case side4 => exact HC0_4.out); (case side5 => repeat (first | exact (Kd.C_below HR0_6.out qB) | (with_reducible refine Kd.C_alloc ?_ _) | (with_reducible refine Kd.C_drewN ?_ _) | (with_reducible refine Kd.C_drew ?_))); (case side6 => exact HC0_6.out); (case side7 => repeat (first | exact (Kd.C_below HR0_7.out qB) | (with_reducible refine Kd.C_alloc ?_ _) | (with_reducible refine Kd.C_drewN ?_ _) | (with_reducible refine Kd.C_drew ?_))); (case side8 => exact HC0_7.out); (case side9 => repeat (first | exact (Kd.C_below HR0_8.out qB) | (with_reducible refine Kd.C_alloc ?_ _) | (with_reducible refine Kd.C_drewN ?_ _) | (with_reducible refine Kd.C_drew ?_))); (case side10 => exact HC0_8.out); rintro e w26 ⟨rfl, hb⟩; have n0_ := Aside0.mk (qL BK321.out hb); have n1_ := Aside0.mk (below_step qB hb); clear BK321; clear HB; have BK321 := n0_; have HB := n1_; clear n0_ n1_; (try clear hb); (try clear hb2); (try clear hk); (try clear hi)))
        go_ret
        exact ⟨by first | rfl | (simp [errW_none, errW_some] <;> rfl) | (simp [*, errW_none, errW_some] <;> rfl), qB⟩
    · replace c8 := Bool.eq_false_iff.mpr c8
      subst c8
      have H1 : (some 0) = some r := by rw [if_neg (show ¬ (false = true) by decide)] at H; exact H
      clear H
      have H := H1
      clear H1
      obtain rfl := Option.some.inj H
      go_enter Try.func56, Try.ntmps56
      go_wp2_with (first | ((with_reducible refine gate_dst (N := 4) rfl ?_); refine box_event ?hg (N := 4) ?hd (cs := #[.slice A0_0 l0_0.length c0_0, .int .i64 a0_1, .int .i64 a0_2, .int .i64 a0_3, .slice A0_4 l0_4.length c0_4, .bool a0_5, .slice A0_6 l0_6.length c0_6, .slice A0_7 l0_7.length c0_7, .slice A0_8 l0_8.length c0_8]) (t := 67) ?hr ?_; (case hd => rfl); (case hg => rfl); (case hr => first | (go_simp; done) | (go_simp; rfl)); intro gb321 hg w27 hbox hb; have n0_ := Aside0.mk (below_step qB hb); have n1_ := Aside0.mk (hbox); have n2_ := Aside0.mk ((qG hg : w.heap.size ≤ gb321)); have n3_ := Aside0.mk ((qG hg : w.heap.size ≤ gb321)); clear HB; have HB := n0_; have BK321 := n1_; have GW321 := n2_; have GE321 := n3_; clear n0_ n1_ n2_ n3_; clear hb hbox hg; have ⟨hcz28_0, hcz28_1, hcz28_2, hcz28_3, hcz28_4, hcz28_5, hcz28_6, hcz28_7, hcz28_8⟩ := qc9 BK321.out; have ⟨hfz28_0, hfz28_1, hfz28_2, hfz28_3, hfz28_4, hfz28_5, hfz28_6, hfz28_7, hfz28_8⟩ := qf9 BK321.out) | ((with_reducible refine gate_callee (f := 99) rfl ?_); refine goesL_ (some 10) rfl rfl Try.func99 (by kernel_rfl) rfl #[.agg #[.slice A0_0 l0_0.length c0_0, .int .i64 a0_1, .int .i64 a0_2, .int .i64 a0_3, .slice A0_4 l0_4.length c0_4, .bool a0_5, .slice A0_6 l0_6.length c0_6, .slice A0_7 l0_7.length c0_7, .slice A0_8 l0_8.length c0_8]] rfl qM ?_; (with_reducible refine (impl_BookOk.calls k _ _ l0_0 a0_1 a0_2 a0_3 _ _ l0_4 a0_5 _ _ l0_6 _ _ l0_7 _ _ l0_8 true _ ?side1 ?side2 ?side3 ?side4 ?side5 ?side6 ?side7 ?side8 ?side9 ?side10 A5.out).mono ?_); (case side1 => exact qC HR0_0.out); (case side2 => exact HC0_0.out); (case side3 => exact qC HR0_4.out); (case side4 => exact HC0_4.out); (case side5 => exact qC HR0_6.out); (case side6 => exact HC0_6.out); (case side7 => exact qC HR0_7.out); (case side8 => exact HC0_7.out); (case side9 => exact qC HR0_8.out); (case side10 => exact HC0_8.out); rintro e w29 ⟨rfl, hb⟩; refine ⟨_, rfl, ?_⟩; have n0_ := Aside0.mk (qL BK321.out hb); have n1_ := Aside0.mk (below_step qB hb); clear BK321; clear HB; have BK321 := n0_; have HB := n1_; clear n0_ n1_; (try clear hb); (try clear hb2); (try clear hk); (try clear hi)) | (go_at_call 60; (with_reducible refine (impl_isKey.calls a1 false _ A7.out).mono ?_); rintro e w' ⟨rfl, ⟨nd, rfl⟩⟩))
      go_ret
      exact ⟨by first | rfl | (simp [errW_none, errW_some] <;> rfl) | (simp [*, errW_none, errW_some] <;> rfl), qB⟩
  · replace c6 := Bool.eq_false_iff.mpr c6
    subst c6
    have H1 : (some 0) = some r := by rw [if_neg (show ¬ (false = true) by decide)] at H; exact H
    clear H
    have H := H1
    clear H1
    obtain rfl := Option.some.inj H
    go_enter Try.func56, Try.ntmps56
    go_wp2_with (first | ((with_reducible refine gate_dst (N := 4) rfl ?_); refine box_event ?hg (N := 4) ?hd (cs := #[.slice A0_0 l0_0.length c0_0, .int .i64 a0_1, .int .i64 a0_2, .int .i64 a0_3, .slice A0_4 l0_4.length c0_4, .bool a0_5, .slice A0_6 l0_6.length c0_6, .slice A0_7 l0_7.length c0_7, .slice A0_8 l0_8.length c0_8]) (t := 67) ?hr ?_; (case hd => rfl); (case hg => rfl); (case hr => first | (go_simp; done) | (go_simp; rfl)); intro gb321 hg w30 hbox hb; have n0_ := Aside0.mk (below_step qB hb); have n1_ := Aside0.mk (hbox); have n2_ := Aside0.mk ((qG hg : w.heap.size ≤ gb321)); have n3_ := Aside0.mk ((qG hg : w.heap.size ≤ gb321)); clear HB; have HB := n0_; have BK321 := n1_; have GW321 := n2_; have GE321 := n3_; clear n0_ n1_ n2_ n3_; clear hb hbox hg; have ⟨hcz31_0, hcz31_1, hcz31_2, hcz31_3, hcz31_4, hcz31_5, hcz31_6, hcz31_7, hcz31_8⟩ := qc9 BK321.out; have ⟨hfz31_0, hfz31_1, hfz31_2, hfz31_3, hfz31_4, hfz31_5, hfz31_6, hfz31_7, hfz31_8⟩ := qf9 BK321.out) | ((with_reducible refine gate_callee (f := 99) rfl ?_); refine goesL_ (some 10) rfl rfl Try.func99 (by kernel_rfl) rfl #[.agg #[.slice A0_0 l0_0.length c0_0, .int .i64 a0_1, .int .i64 a0_2, .int .i64 a0_3, .slice A0_4 l0_4.length c0_4, .bool a0_5, .slice A0_6 l0_6.length c0_6, .slice A0_7 l0_7.length c0_7, .slice A0_8 l0_8.length c0_8]] rfl qM ?_; (with_reducible refine (impl_BookOk.calls k _ _ l0_0 a0_1 a0_2 a0_3 _ _ l0_4 a0_5 _ _ l0_6 _ _ l0_7 _ _ l0_8 false _ ?side1 ?side2 ?side3 ?side4 ?side5 ?side6 ?side7 ?side8 ?side9 ?side10 A5.out).mono ?_); (case side1 => exact qC HR0_0.out); (case side2 => exact HC0_0.out); (case side3 => exact qC HR0_4.out); (case side4 => exact HC0_4.out); (case side5 => exact qC HR0_6.out); (case side6 => exact HC0_6.out); (case side7 => exact qC HR0_7.out); (case side8 => exact HC0_7.out); (case side9 => exact qC HR0_8.out); (case side10 => exact HC0_8.out); rintro e w32 ⟨rfl, hb⟩; refine ⟨_, rfl, ?_⟩; have n0_ := Aside0.mk (qL BK321.out hb); have n1_ := Aside0.mk (below_step qB hb); clear BK321; clear HB; have BK321 := n0_; have HB := n1_; clear n0_ n1_; (try clear hb); (try clear hb2); (try clear hk); (try clear hi)))
    go_ret
    exact ⟨by first | rfl | (simp [errW_none, errW_some] <;> rfl) | (simp [*, errW_none, errW_some] <;> rfl), qB⟩

end Go.Proofs.Ytikfdjgigeggjaa.MFnExactKeyValue
