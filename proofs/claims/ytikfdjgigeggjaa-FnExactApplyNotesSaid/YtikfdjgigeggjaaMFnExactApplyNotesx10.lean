/- The functions that FnExactApplyNotes reaches, each with its contract: the print's form, by wip/tools/myprint.py; no condition of its own. -/
import Derived.Test.YtikfdjgigeggjaaMFnExactApplyNotesx0
import Derived.Test.YtikfdjgigeggjaaMFnExactApplyNotesx1
import Derived.Test.YtikfdjgigeggjaaMFnExactApplyNotesx7
import Derived.Test.YtikfdjgigeggjaaMFnExactApplyNotesx8
import Derived.Test.YtikfdjgigeggjaaMFnExactApplyNotesx9
namespace Go.Proofs.Ytikfdjgigeggjaa.MFnExactApplyNotes
open Go.RowKit Go.Proofs.YtikfdjgigeggjaaW.PrintWords Go.Proofs.YtikfdjgigeggjaaW.PrintLast Go.Proofs.YtikfdjgigeggjaaW.PrintMore
attribute [local go_sem] max2_int min2_int max_two min_two max_three min_three max_four min_four   -- for this text's walks alone
set_option linter.unusedVariables false
set_option linter.unusedSimpArgs false

/-! ### impl_noteFits: function 109 -/
def impl_noteFits.j0 : Nat → Int → List (S71) → Bool → Int → Int → Int → Int → Int → Int → Int → Option (Bool)
  | 0, _, _, _, _, _, _, _, _, _, _ => none
  | k + 1, x0, x1, x20, x223000, x223001, x223002, x223003, x223004, x223005, x223006 => if x20 = true then (some false) else (if 0 ≤ x223001 then (if x223001 < (x1.length : Int) then ((impl_GameOk.f k x0 x223002 x223003 x223004 x223005 x223006).bind fun t227 => (if t227 = true then (if x223002 = ((rd_T71 x1 x223001).f0) then (if x223003 = ((rd_T71 x1 x223001).f1) then ((impl_IsOpen.f x223002 x223003 x223004 x223005 x223006).bind fun t228 => (some (!t228))) else (some false)) else (some false)) else (some false))) else (none)) else (none))
def impl_noteFits.f (k : Nat) (a0 : Int) (l1 : List (S71)) (a2_0 : Int) (a2_1 : Int) (a2_2 : Int) (a2_3 : Int) (a2_4 : Int) (a2_5 : Int) (a2_6 : Int) : Option (Bool) := (impl_within.f a2_0 1 100000).bind fun t223 => (if t223 = true then ((impl_within.f a2_1 0 (wrap64 ((l1.length : Int) - 1))).bind fun t224 => (impl_noteFits.j0 k a0 l1 (!t224) a2_0 a2_1 a2_2 a2_3 a2_4 a2_5 a2_6)) else (impl_noteFits.j0 k a0 l1 true a2_0 a2_1 a2_2 a2_3 a2_4 a2_5 a2_6))
theorem impl_noteFits.mono_l : ∀ k, (∀ y0 y1 y2 y3 y4 y5 y6 y7 y8 y9, LeO (impl_noteFits.j0 k y0 y1 y2 y3 y4 y5 y6 y7 y8 y9) (impl_noteFits.j0 (k + 1) y0 y1 y2 y3 y4 y5 y6 y7 y8 y9))
  | 0 => fun _ _ _ _ _ _ _ _ _ _ r h => by simp [impl_noteFits.j0] at h
  | k + 1 => by
    have ih0 := impl_noteFits.mono_l k
    · intro y0 y1 y2 y3 y4 y5 y6 y7 y8 y9
      unfold impl_noteFits.j0
      repeat' first
      | (with_reducible exact ih0 _ _ _ _ _ _ _ _ _ _)
      | (with_reducible exact impl_GameOk.mono _ _ _ _ _ _ _)
      | (with_reducible exact LeO.refl _)
      | (with_reducible exact LeO.none _)
      | (with_reducible refine LeO.ite ?_ ?_)
      | (with_reducible refine LeO.bind ?_ (fun _ => ?_))
      | exact ih0 _ _ _ _ _ _ _ _ _ _
      | exact impl_GameOk.mono _ _ _ _ _ _ _
      | exact LeO.none _
      | refine LeO.ite ?_ ?_
      | refine LeO.bind ?_ (fun _ => ?_)
theorem impl_noteFits.mono : ∀ a0 a1 a2 a3 a4 a5 a6 a7 a8 k, LeO (impl_noteFits.f k a0 a1 a2 a3 a4 a5 a6 a7 a8) (impl_noteFits.f (k + 1) a0 a1 a2 a3 a4 a5 a6 a7 a8) := by
  intro a0 a1 a2 a3 a4 a5 a6 a7 a8 k
  have ih0 := impl_noteFits.mono_l k
  unfold impl_noteFits.f
  repeat' first
      | (with_reducible exact ih0 _ _ _ _ _ _ _ _ _ _)
      | (with_reducible exact impl_GameOk.mono _ _ _ _ _ _ _)
      | (with_reducible exact LeO.refl _)
      | (with_reducible exact LeO.none _)
      | (with_reducible refine LeO.ite ?_ ?_)
      | (with_reducible refine LeO.bind ?_ (fun _ => ?_))
      | exact ih0 _ _ _ _ _ _ _ _ _ _
      | exact impl_GameOk.mono _ _ _ _ _ _ _
      | exact LeO.none _
      | refine LeO.ite ?_ ?_
      | refine LeO.bind ?_ (fun _ => ?_)
set_option maxHeartbeats 8000000 in
set_option maxRecDepth 100000 in
theorem impl_noteFits.calls (k : Nat) (a0 : Int) (A1 : Option Addr) (c1 : Nat) (l1 : List (S71)) (a2_0 : Int) (a2_1 : Int) (a2_2 : Int) (a2_3 : Int) (a2_4 : Int) (a2_5 : Int) (a2_6 : Int) (r : Bool) (w : World) (hr1 : Kd.C k71 w A1 l1.length l1) (hc1 : l1.length ≤ c1) (h : impl_noteFits.f k a0 l1 a2_0 a2_1 a2_2 a2_3 a2_4 a2_5 a2_6 = some r) :
    Calls Try.prog 109 #[.int .i64 a0, .slice A1 l1.length c1, .agg #[.int .i64 a2_0, .int .i64 a2_1, .int .i64 a2_2, .int .i64 a2_3, .int .i64 a2_4, .int .i64 a2_5, .int .i64 a2_6]] w fun e w' => e = .returned (.bool r) ∧ Below w.heap.size w w' := by
  have hu97 := Try.underlying97
  have hu71 := Try.underlying71
  have HR1 := Aside0.mk hr1
  have HC1 := Aside0.mk hc1
  clear hr1 hc1
  have HB := Aside0.mk (Below.refl w.heap.size w)
  have H : ((impl_within.f a2_0 1 100000).bind fun t223 => (if t223 = true then ((impl_within.f a2_1 0 (wrap64 ((l1.length : Int) - 1))).bind fun t224 => (impl_noteFits.j0 k a0 l1 (!t224) a2_0 a2_1 a2_2 a2_3 a2_4 a2_5 a2_6)) else (impl_noteFits.j0 k a0 l1 true a2_0 a2_1 a2_2 a2_3 a2_4 a2_5 a2_6))) = some r := h
  clear h
  have HC4 := Aside0.mk H
  clear H
  go_enter Try.func109, Try.ntmps109
  go_upto_region 1 with (first | ((with_reducible refine gate_dst (N := 5) rfl ?_); (try (refine gate_guard (by rfl) ?_; dsimp only)); refine box_event ?hg (N := 5) ?hd (cs := #[.int .i64 a2_0, .int .i64 a2_1, .int .i64 a2_2, .int .i64 a2_3, .int .i64 a2_4, .int .i64 a2_5, .int .i64 a2_6]) (t := 97) ?hr ?_; (case hd => rfl); (case hg => rfl); (case hr => first | (go_simp; done) | (go_simp; rfl)); intro gb222 hg w5 hbox hb; have n0_ := Aside0.mk (below_step (by repeat (first | (with_reducible first | exact HB.out | apply below_alloc | apply pw_below_drewN | apply below_drew1) | exact HB.out)) hb); have n1_ := Aside0.mk (hbox); have n2_ := Aside0.mk ((by rw [hg]; exact (below_size (by repeat (first | (with_reducible first | exact HB.out | apply below_alloc | apply pw_below_drewN | apply below_drew1) | exact HB.out))) : w.heap.size ≤ gb222)); have n3_ := Aside0.mk ((by rw [hg]; exact (below_size (by repeat (first | (with_reducible first | exact HB.out | apply below_alloc | apply pw_below_drewN | apply below_drew1) | exact HB.out))) : w.heap.size ≤ gb222)); clear HB; have HB := n0_; have BK222 := n1_; have GW222 := n2_; have GE222 := n3_; clear n0_ n1_ n2_ n3_; clear hb hbox hg))
  (try simp only [Act.put, List.setIfInBounds_toArray, List.set_cons_zero, List.set_cons_succ])
  go_cut [20] (fun v20 wc => ∃ (kq : Nat) (x20_3 : Bool), v20 = .bool x20_3 ∧ Aside0 (impl_noteFits.j0 kq a0 l1 x20_3 a2_0 a2_1 a2_2 a2_3 a2_4 a2_5 a2_6 = some r) ∧ Aside0 (kq ≤ k) ∧ Aside0 (wc.heap[gb222]? = some (.cells #[.int .i64 a2_0, .int .i64 a2_1, .int .i64 a2_2, .int .i64 a2_3, .int .i64 a2_4, .int .i64 a2_5, .int .i64 a2_6] 97 (0, 0))) ∧ Aside0 (Below w.heap.size w wc))
  case first =>
    have H := HC4.out
    clear HC4
    replace H := Option.bind_eq_some_iff.mp H
    obtain ⟨t223, A60, H⟩ := H
    replace H : (if t223 = true then ((impl_within.f a2_1 0 (wrap64 ((l1.length : Int) - 1))).bind fun t224 => (impl_noteFits.j0 k a0 l1 (!t224) a2_0 a2_1 a2_2 a2_3 a2_4 a2_5 a2_6)) else (impl_noteFits.j0 k a0 l1 true a2_0 a2_1 a2_2 a2_3 a2_4 a2_5 a2_6)) = some r := H
    have A6 := Aside0.mk A60
    clear A60
    by_cases c7 : t223 = true
    · subst c7
      have H1 : ((impl_within.f a2_1 0 (wrap64 ((l1.length : Int) - 1))).bind fun t224 => (impl_noteFits.j0 k a0 l1 (!t224) a2_0 a2_1 a2_2 a2_3 a2_4 a2_5 a2_6)) = some r := by rw [if_pos rfl] at H; exact H
      clear H
      have H := H1
      clear H1
      replace H := Option.bind_eq_some_iff.mp H
      obtain ⟨t224, A80, H⟩ := H
      replace H : (impl_noteFits.j0 k a0 l1 (!t224) a2_0 a2_1 a2_2 a2_3 a2_4 a2_5 a2_6) = some r := H
      have A8 := Aside0.mk A80
      clear A80
      have H' := Aside0.mk H
      clear H
      have hcz9_0 : w5.cell? ⟨gb222, 0, none⟩ = some (.int .i64 a2_0) := (blk_cell BK222.out 0).trans rfl
      have hcz9_1 : w5.cell? ⟨gb222, 1, none⟩ = some (.int .i64 a2_1) := (blk_cell BK222.out 1).trans rfl
      have hcz9_2 : w5.cell? ⟨gb222, 2, none⟩ = some (.int .i64 a2_2) := (blk_cell BK222.out 2).trans rfl
      have hcz9_3 : w5.cell? ⟨gb222, 3, none⟩ = some (.int .i64 a2_3) := (blk_cell BK222.out 3).trans rfl
      have hcz9_4 : w5.cell? ⟨gb222, 4, none⟩ = some (.int .i64 a2_4) := (blk_cell BK222.out 4).trans rfl
      have hcz9_5 : w5.cell? ⟨gb222, 5, none⟩ = some (.int .i64 a2_5) := (blk_cell BK222.out 5).trans rfl
      have hcz9_6 : w5.cell? ⟨gb222, 6, none⟩ = some (.int .i64 a2_6) := (blk_cell BK222.out 6).trans rfl
      have hfz9_0 := blk_frozen BK222.out 0
      have hfz9_1 := blk_frozen BK222.out 1
      have hfz9_2 := blk_frozen BK222.out 2
      have hfz9_3 := blk_frozen BK222.out 3
      have hfz9_4 := blk_frozen BK222.out 4
      have hfz9_5 := blk_frozen BK222.out 5
      have hfz9_6 := blk_frozen BK222.out 6
      go_wp2_with (first | ((with_reducible refine gate_callee (f := 62) rfl ?_); refine goesL_ (some 10) rfl rfl Try.func62 (by kernel_rfl) rfl #[.int .i64 a2_0, .int .i64 1, .int .i64 100000] rfl (by (try simp only [List.map_toArray, List.map_cons, List.map_nil]); first | done | rfl | (simp only [List.length_drop, List.length_take]; rfl)) ?_; (with_reducible refine (impl_within.calls a2_0 1 100000 true _ A6.out).mono ?_); rintro e w' ⟨rfl, ⟨nd, rfl⟩⟩; refine ⟨_, rfl, ?_⟩) | (go_at_call 62; (with_reducible refine (impl_within.calls a2_1 0 (wrap64 ((l1.length : Int) - 1)) t224 _ A8.out).mono ?_); rintro e w' ⟨rfl, ⟨nd, rfl⟩⟩))
      go_meet
      case rel => exact ⟨_, (!t224), (by first | rfl | (simp; done) | (simp [*]; done)), H', ⟨by first | omega | exact Nat.le_refl _⟩, ⟨by (with_reducible repeat (first | refine blk_drewN ?_ _ | refine blk_drew ?_ | refine blk_alloc ?_ _)); exact BK222.out⟩, ⟨by repeat (first | (with_reducible first | exact HB.out | apply below_alloc | apply pw_below_drewN | apply below_drew1 | refine below_set ?_ GE222.out) | exact HB.out)⟩⟩
    · replace c7 := Bool.eq_false_iff.mpr c7
      subst c7
      have H1 : (impl_noteFits.j0 k a0 l1 true a2_0 a2_1 a2_2 a2_3 a2_4 a2_5 a2_6) = some r := by rw [if_neg (show ¬ (false = true) by decide)] at H; exact H
      clear H
      have H := H1
      clear H1
      have H' := Aside0.mk H
      clear H
      have hcz10_0 : w5.cell? ⟨gb222, 0, none⟩ = some (.int .i64 a2_0) := (blk_cell BK222.out 0).trans rfl
      have hcz10_1 : w5.cell? ⟨gb222, 1, none⟩ = some (.int .i64 a2_1) := (blk_cell BK222.out 1).trans rfl
      have hcz10_2 : w5.cell? ⟨gb222, 2, none⟩ = some (.int .i64 a2_2) := (blk_cell BK222.out 2).trans rfl
      have hcz10_3 : w5.cell? ⟨gb222, 3, none⟩ = some (.int .i64 a2_3) := (blk_cell BK222.out 3).trans rfl
      have hcz10_4 : w5.cell? ⟨gb222, 4, none⟩ = some (.int .i64 a2_4) := (blk_cell BK222.out 4).trans rfl
      have hcz10_5 : w5.cell? ⟨gb222, 5, none⟩ = some (.int .i64 a2_5) := (blk_cell BK222.out 5).trans rfl
      have hcz10_6 : w5.cell? ⟨gb222, 6, none⟩ = some (.int .i64 a2_6) := (blk_cell BK222.out 6).trans rfl
      have hfz10_0 := blk_frozen BK222.out 0
      have hfz10_1 := blk_frozen BK222.out 1
      have hfz10_2 := blk_frozen BK222.out 2
      have hfz10_3 := blk_frozen BK222.out 3
      have hfz10_4 := blk_frozen BK222.out 4
      have hfz10_5 := blk_frozen BK222.out 5
      have hfz10_6 := blk_frozen BK222.out 6
      go_wp2_with (first | ((with_reducible refine gate_callee (f := 62) rfl ?_); refine goesL_ (some 10) rfl rfl Try.func62 (by kernel_rfl) rfl #[.int .i64 a2_0, .int .i64 1, .int .i64 100000] rfl (by (try simp only [List.map_toArray, List.map_cons, List.map_nil]); first | done | rfl | (simp only [List.length_drop, List.length_take]; rfl)) ?_; (with_reducible refine (impl_within.calls a2_0 1 100000 false _ A6.out).mono ?_); rintro e w' ⟨rfl, ⟨nd, rfl⟩⟩; refine ⟨_, rfl, ?_⟩))
      go_meet
      case rel => exact ⟨_, (true), (by first | rfl | (simp; done) | (simp [*]; done)), H', ⟨by first | omega | exact Nat.le_refl _⟩, ⟨by (with_reducible repeat (first | refine blk_drewN ?_ _ | refine blk_drew ?_ | refine blk_alloc ?_ _)); exact BK222.out⟩, ⟨by repeat (first | (with_reducible first | exact HB.out | apply below_alloc | apply pw_below_drewN | apply below_drew1 | refine below_set ?_ GE222.out) | exact HB.out)⟩⟩
  case rest =>
    clear HC4
    try clear c1
    try clear p2
    try clear c6
    try clear p6
    try clear c7
    try clear c10
    try clear hcz10_0
    try clear hcz10_1
    try clear hcz10_2
    try clear hcz10_3
    try clear hcz10_4
    try clear hcz10_5
    try clear hcz10_6
    try clear hcz9_0
    try clear hcz9_1
    try clear hcz9_2
    try clear hcz9_3
    try clear hcz9_4
    try clear hcz9_5
    try clear hcz9_6
    try clear hfz10_0
    try clear hfz10_1
    try clear hfz10_2
    try clear hfz10_3
    try clear hfz10_4
    try clear hfz10_5
    try clear hfz10_6
    try clear hfz9_0
    try clear hfz9_1
    try clear hfz9_2
    try clear hfz9_3
    try clear hfz9_4
    try clear hfz9_5
    try clear hfz9_6
    obtain ⟨kq, x20_3, rfl, HA, HJ3, BK222, HB⟩ := hcut
    cases kq with
    | zero => exact absurd HA.out (by simp [impl_noteFits.j0])
    | succ kj3 =>
      have H := HA.out
      clear HA
      simp only [impl_noteFits.j0] at H
      by_cases c11 : x20_3 = true
      · subst c11
        have H1 : (some false) = some r := by rw [if_pos rfl] at H; exact H
        clear H
        have H := H1
        clear H1
        obtain rfl := Option.some.inj H
        go_wp2
        go_ret
        exact ⟨by first | rfl | (simp [errW_none, errW_some] <;> rfl) | (simp [*, errW_none, errW_some] <;> rfl), by repeat (first | (with_reducible first | exact HB.out | apply below_alloc | apply pw_below_drewN | apply below_drew1 | refine below_set ?_ GE222.out) | exact HB.out)⟩
      · replace c11 := Bool.eq_false_iff.mpr c11
        subst c11
        have H1 : (if 0 ≤ a2_1 then (if a2_1 < (l1.length : Int) then ((impl_GameOk.f kj3 a0 a2_2 a2_3 a2_4 a2_5 a2_6).bind fun t227 => (if t227 = true then (if a2_2 = ((rd_T71 l1 a2_1).f0) then (if a2_3 = ((rd_T71 l1 a2_1).f1) then ((impl_IsOpen.f a2_2 a2_3 a2_4 a2_5 a2_6).bind fun t228 => (some (!t228))) else (some false)) else (some false)) else (some false))) else (none)) else (none)) = some r := by rw [if_neg (show ¬ (false = true) by decide)] at H; exact H
        clear H
        have H := H1
        clear H1
        by_cases c12 : 0 ≤ a2_1
        · rw [if_pos c12] at H
          have c12b0 : decide (0 ≤ a2_1) = true := decide_eq_true c12
          clear c12
          by_cases c13 : a2_1 < (l1.length : Int)
          · rw [if_pos c13] at H
            have c13b0 : decide (a2_1 < (l1.length : Int)) = true := decide_eq_true c13
            clear c13
            replace H := Option.bind_eq_some_iff.mp H
            obtain ⟨t227, A140, H⟩ := H
            replace H : (if t227 = true then (if a2_2 = ((rd_T71 l1 a2_1).f0) then (if a2_3 = ((rd_T71 l1 a2_1).f1) then ((impl_IsOpen.f a2_2 a2_3 a2_4 a2_5 a2_6).bind fun t228 => (some (!t228))) else (some false)) else (some false)) else (some false)) = some r := H
            have A14 := Aside0.mk A140
            clear A140
            by_cases c15 : t227 = true
            · subst c15
              have H1 : (if a2_2 = ((rd_T71 l1 a2_1).f0) then (if a2_3 = ((rd_T71 l1 a2_1).f1) then ((impl_IsOpen.f a2_2 a2_3 a2_4 a2_5 a2_6).bind fun t228 => (some (!t228))) else (some false)) else (some false)) = some r := by rw [if_pos rfl] at H; exact H
              clear H
              have H := H1
              clear H1
              by_cases c16 : a2_2 = ((rd_T71 l1 a2_1).f0)
              · rw [if_pos c16] at H
                have c16b0 : (a2_2 == ((rd_T71 l1 a2_1).f0)) = true := beq_iff_eq.mpr c16
                have c16b1 : (a2_2 != ((rd_T71 l1 a2_1).f0)) = false := bne_eq_false_iff_eq.mpr c16
                clear c16
                by_cases c17 : a2_3 = ((rd_T71 l1 a2_1).f1)
                · rw [if_pos c17] at H
                  have c17b0 : (a2_3 == ((rd_T71 l1 a2_1).f1)) = true := beq_iff_eq.mpr c17
                  have c17b1 : (a2_3 != ((rd_T71 l1 a2_1).f1)) = false := bne_eq_false_iff_eq.mpr c17
                  clear c17
                  replace H := Option.bind_eq_some_iff.mp H
                  obtain ⟨t228, A180, H⟩ := H
                  replace H : (some (!t228)) = some r := H
                  have A18 := Aside0.mk A180
                  clear A180
                  obtain rfl := Option.some.inj H
                  have hcz19_0 : wc.cell? ⟨gb222, 0, none⟩ = some (.int .i64 a2_0) := (blk_cell BK222.out 0).trans rfl
                  have hcz19_1 : wc.cell? ⟨gb222, 1, none⟩ = some (.int .i64 a2_1) := (blk_cell BK222.out 1).trans rfl
                  have hcz19_2 : wc.cell? ⟨gb222, 2, none⟩ = some (.int .i64 a2_2) := (blk_cell BK222.out 2).trans rfl
                  have hcz19_3 : wc.cell? ⟨gb222, 3, none⟩ = some (.int .i64 a2_3) := (blk_cell BK222.out 3).trans rfl
                  have hcz19_4 : wc.cell? ⟨gb222, 4, none⟩ = some (.int .i64 a2_4) := (blk_cell BK222.out 4).trans rfl
                  have hcz19_5 : wc.cell? ⟨gb222, 5, none⟩ = some (.int .i64 a2_5) := (blk_cell BK222.out 5).trans rfl
                  have hcz19_6 : wc.cell? ⟨gb222, 6, none⟩ = some (.int .i64 a2_6) := (blk_cell BK222.out 6).trans rfl
                  have hfz19_0 := blk_frozen BK222.out 0
                  have hfz19_1 := blk_frozen BK222.out 1
                  have hfz19_2 := blk_frozen BK222.out 2
                  have hfz19_3 := blk_frozen BK222.out 3
                  have hfz19_4 := blk_frozen BK222.out 4
                  have hfz19_5 := blk_frozen BK222.out 5
                  have hfz19_6 := blk_frozen BK222.out 6
                  have p225 : 0 ≤ (a2_1 : Int) := of_decide_eq_true (by first | (with_reducible assumption) | assumption)
                  have q225 : a2_1 < (l1.length : Int) := of_decide_eq_true (by first | (with_reducible assumption) | assumption)
                  obtain ⟨ad225, e225, hx225_0, hx225_1, hx225_2, hx225_3, hx225_4⟩ := at_T71 HR1.out a2_1 p225 q225
                  cases e225
                  replace hx225_0 := (HB.out.cell (World.block_lt_of_cell? w _ hx225_0)).trans hx225_0
                  replace hx225_1 := (HB.out.cell (World.block_lt_of_cell? w _ hx225_1)).trans hx225_1
                  replace hx225_2 := (HB.out.cell (World.block_lt_of_cell? w _ hx225_2)).trans hx225_2
                  replace hx225_3 := (HB.out.cell (World.block_lt_of_cell? w _ hx225_3)).trans hx225_3
                  replace hx225_4 := (HB.out.cell (World.block_lt_of_cell? w _ hx225_4)).trans hx225_4
                  replace p225 := eq_true p225
                  replace q225 := eq_true q225
                  go_wp2_with (first | ((with_reducible refine gate_dst (N := 7) rfl ?_); (try (refine gate_guard (by rfl) ?_; dsimp only)); refine box_event ?hg (N := 7) ?hd (cs := #[.int .i64 0, .int .i64 0, .int .i64 0, .int .i64 0, .int .i64 0]) (t := 71) ?hr ?_; (case hd => rfl); (case hg => rfl); (case hr => first | (go_simp; done) | (go_simp; rfl)); intro gb226 hg w20 hbox hb; have n0_ := Aside0.mk (blk_below (g := gb222) (o := .cells #[.int .i64 a2_0, .int .i64 a2_1, .int .i64 a2_2, .int .i64 a2_3, .int .i64 a2_4, .int .i64 a2_5, .int .i64 a2_6] 97 (0, 0)) (by (with_reducible repeat (first | refine blk_drewN ?_ _ | refine blk_drew ?_ | refine blk_alloc ?_ _)); exact BK222.out) hb); have n1_ := Aside0.mk (below_step (by repeat (first | (with_reducible first | exact HB.out | apply below_alloc | apply pw_below_drewN | apply below_drew1 | refine below_set ?_ GE222.out) | exact HB.out)) hb); have n2_ := Aside0.mk (hbox); have n3_ := Aside0.mk ((by rw [hg]; exact (below_size (by repeat (first | (with_reducible first | exact HB.out | apply below_alloc | apply pw_below_drewN | apply below_drew1 | refine below_set ?_ GE222.out) | exact HB.out))) : w.heap.size ≤ gb226)); have n4_ := Aside0.mk ((by rw [hg]; exact (below_size (by repeat (first | (with_reducible first | exact HB.out | apply below_alloc | apply pw_below_drewN | apply below_drew1 | refine below_set ?_ GE222.out) | exact HB.out))) : w.heap.size ≤ gb226)); have n5_ := Aside0.mk ((by rw [hg]; exact Nat.ne_of_lt (blk_lt (g := gb222) (o := .cells #[.int .i64 a2_0, .int .i64 a2_1, .int .i64 a2_2, .int .i64 a2_3, .int .i64 a2_4, .int .i64 a2_5, .int .i64 a2_6] 97 (0, 0)) (by (with_reducible repeat (first | refine blk_drewN ?_ _ | refine blk_drew ?_ | refine blk_alloc ?_ _)); exact BK222.out)) : gb222 ≠ gb226)); have n6_ := Aside0.mk ((by rw [hg]; exact Nat.ne_of_gt (blk_lt (g := gb222) (o := .cells #[.int .i64 a2_0, .int .i64 a2_1, .int .i64 a2_2, .int .i64 a2_3, .int .i64 a2_4, .int .i64 a2_5, .int .i64 a2_6] 97 (0, 0)) (by (with_reducible repeat (first | refine blk_drewN ?_ _ | refine blk_drew ?_ | refine blk_alloc ?_ _)); exact BK222.out)) : gb226 ≠ gb222)); clear BK222; clear HB; have BK222 := n0_; have HB := n1_; have BK226 := n2_; have GW226 := n3_; have GE226 := n4_; have NB222_226 := n5_; have NB226_222 := n6_; clear n0_ n1_ n2_ n3_ n4_ n5_ n6_; clear hb hbox hg; have hnb21 := NB226_222.out; have hnc21 := NB222_226.out; have hcz22_0 : w20.cell? ⟨gb226, 0, none⟩ = some (.int .i64 0) := (blk_cell BK226.out 0).trans rfl; have hcz22_1 : w20.cell? ⟨gb226, 1, none⟩ = some (.int .i64 0) := (blk_cell BK226.out 1).trans rfl; have hcz22_2 : w20.cell? ⟨gb226, 2, none⟩ = some (.int .i64 0) := (blk_cell BK226.out 2).trans rfl; have hcz22_3 : w20.cell? ⟨gb226, 3, none⟩ = some (.int .i64 0) := (blk_cell BK226.out 3).trans rfl; have hcz22_4 : w20.cell? ⟨gb226, 4, none⟩ = some (.int .i64 0) := (blk_cell BK226.out 4).trans rfl; have hfz22_0 := blk_frozen BK226.out 0; have hfz22_1 := blk_frozen BK226.out 1; have hfz22_2 := blk_frozen BK226.out 2; have hfz22_3 := blk_frozen BK226.out 3; have hfz22_4 := blk_frozen BK226.out 4; have hcz23_0 : w20.cell? ⟨gb222, 0, none⟩ = some (.int .i64 a2_0) := (blk_cell BK222.out 0).trans rfl; have hcz23_1 : w20.cell? ⟨gb222, 1, none⟩ = some (.int .i64 a2_1) := (blk_cell BK222.out 1).trans rfl; have hcz23_2 : w20.cell? ⟨gb222, 2, none⟩ = some (.int .i64 a2_2) := (blk_cell BK222.out 2).trans rfl; have hcz23_3 : w20.cell? ⟨gb222, 3, none⟩ = some (.int .i64 a2_3) := (blk_cell BK222.out 3).trans rfl; have hcz23_4 : w20.cell? ⟨gb222, 4, none⟩ = some (.int .i64 a2_4) := (blk_cell BK222.out 4).trans rfl; have hcz23_5 : w20.cell? ⟨gb222, 5, none⟩ = some (.int .i64 a2_5) := (blk_cell BK222.out 5).trans rfl; have hcz23_6 : w20.cell? ⟨gb222, 6, none⟩ = some (.int .i64 a2_6) := (blk_cell BK222.out 6).trans rfl; have hfz23_0 := blk_frozen BK222.out 0; have hfz23_1 := blk_frozen BK222.out 1; have hfz23_2 := blk_frozen BK222.out 2; have hfz23_3 := blk_frozen BK222.out 3; have hfz23_4 := blk_frozen BK222.out 4; have hfz23_5 := blk_frozen BK222.out 5; have hfz23_6 := blk_frozen BK222.out 6) | ((with_reducible refine gate_callee (f := 130) rfl ?_); refine goesL_ (some 29) rfl rfl Try.func130 (by kernel_rfl) rfl #[.int .i64 a0, .agg #[.int .i64 a2_2, .int .i64 a2_3, .int .i64 a2_4, .int .i64 a2_5, .int .i64 a2_6]] rfl (by (try simp only [List.map_toArray, List.map_cons, List.map_nil]); first | done | rfl | (simp only [List.length_drop, List.length_take]; rfl)) ?_; (with_reducible refine (impl_GameOk.calls kj3 a0 a2_2 a2_3 a2_4 a2_5 a2_6 true _ A14.out).mono ?_); rintro e w24 ⟨rfl, hb⟩; refine ⟨_, rfl, ?_⟩; have n0_ := Aside0.mk (blk_below (g := gb222) (o := .cells #[.int .i64 a2_0, .int .i64 a2_1, .int .i64 a2_2, .int .i64 a2_3, .int .i64 a2_4, .int .i64 a2_5, .int .i64 a2_6] 97 (0, 0)) (by (with_reducible repeat (first | refine blk_drewN ?_ _ | refine blk_drew ?_ | refine blk_alloc ?_ _)); refine blk_far ?_ NB222_226.out _; (with_reducible repeat (first | refine blk_drewN ?_ _ | refine blk_drew ?_ | refine blk_alloc ?_ _)); refine blk_far ?_ NB222_226.out _; (with_reducible repeat (first | refine blk_drewN ?_ _ | refine blk_drew ?_ | refine blk_alloc ?_ _)); refine blk_far ?_ NB222_226.out _; (with_reducible repeat (first | refine blk_drewN ?_ _ | refine blk_drew ?_ | refine blk_alloc ?_ _)); refine blk_far ?_ NB222_226.out _; (with_reducible repeat (first | refine blk_drewN ?_ _ | refine blk_drew ?_ | refine blk_alloc ?_ _)); refine blk_far ?_ NB222_226.out _; (with_reducible repeat (first | refine blk_drewN ?_ _ | refine blk_drew ?_ | refine blk_alloc ?_ _)); exact BK222.out) hb); have n1_ := Aside0.mk (blk_below (g := gb226) (o := .cells #[.int .i64 ((rd_T71 l1 a2_1).f0), .int .i64 ((rd_T71 l1 a2_1).f1), .int .i64 ((rd_T71 l1 a2_1).f2), .int .i64 ((rd_T71 l1 a2_1).f3), .int .i64 ((rd_T71 l1 a2_1).f4)] 71 (0, 0)) (by (with_reducible repeat (first | refine blk_drewN ?_ _ | refine blk_drew ?_ | refine blk_alloc ?_ _)); refine blk_put (cs := #[.int .i64 ((rd_T71 l1 a2_1).f0), .int .i64 ((rd_T71 l1 a2_1).f1), .int .i64 ((rd_T71 l1 a2_1).f2), .int .i64 ((rd_T71 l1 a2_1).f3), .int .i64 0]) ?_ 4 _ rfl; (with_reducible repeat (first | refine blk_drewN ?_ _ | refine blk_drew ?_ | refine blk_alloc ?_ _)); refine blk_put (cs := #[.int .i64 ((rd_T71 l1 a2_1).f0), .int .i64 ((rd_T71 l1 a2_1).f1), .int .i64 ((rd_T71 l1 a2_1).f2), .int .i64 0, .int .i64 0]) ?_ 3 _ rfl; (with_reducible repeat (first | refine blk_drewN ?_ _ | refine blk_drew ?_ | refine blk_alloc ?_ _)); refine blk_put (cs := #[.int .i64 ((rd_T71 l1 a2_1).f0), .int .i64 ((rd_T71 l1 a2_1).f1), .int .i64 0, .int .i64 0, .int .i64 0]) ?_ 2 _ rfl; (with_reducible repeat (first | refine blk_drewN ?_ _ | refine blk_drew ?_ | refine blk_alloc ?_ _)); refine blk_put (cs := #[.int .i64 ((rd_T71 l1 a2_1).f0), .int .i64 0, .int .i64 0, .int .i64 0, .int .i64 0]) ?_ 1 _ rfl; (with_reducible repeat (first | refine blk_drewN ?_ _ | refine blk_drew ?_ | refine blk_alloc ?_ _)); refine blk_put (cs := #[.int .i64 0, .int .i64 0, .int .i64 0, .int .i64 0, .int .i64 0]) ?_ 0 _ rfl; (with_reducible repeat (first | refine blk_drewN ?_ _ | refine blk_drew ?_ | refine blk_alloc ?_ _)); exact BK226.out) hb); have n2_ := Aside0.mk (below_step (by repeat (first | (with_reducible first | exact HB.out | apply below_alloc | apply pw_below_drewN | apply below_drew1 | refine below_set ?_ GE222.out | refine below_set ?_ GE226.out) | exact HB.out)) hb); clear BK222; clear BK226; clear HB; have BK222 := n0_; have BK226 := n1_; have HB := n2_; clear n0_ n1_ n2_; (try clear hb); (try clear hb2); (try clear hk); (try clear hi); have hcz25_0 : w24.cell? ⟨gb222, 0, none⟩ = some (.int .i64 a2_0) := (blk_cell BK222.out 0).trans rfl; have hcz25_1 : w24.cell? ⟨gb222, 1, none⟩ = some (.int .i64 a2_1) := (blk_cell BK222.out 1).trans rfl; have hcz25_2 : w24.cell? ⟨gb222, 2, none⟩ = some (.int .i64 a2_2) := (blk_cell BK222.out 2).trans rfl; have hcz25_3 : w24.cell? ⟨gb222, 3, none⟩ = some (.int .i64 a2_3) := (blk_cell BK222.out 3).trans rfl; have hcz25_4 : w24.cell? ⟨gb222, 4, none⟩ = some (.int .i64 a2_4) := (blk_cell BK222.out 4).trans rfl; have hcz25_5 : w24.cell? ⟨gb222, 5, none⟩ = some (.int .i64 a2_5) := (blk_cell BK222.out 5).trans rfl; have hcz25_6 : w24.cell? ⟨gb222, 6, none⟩ = some (.int .i64 a2_6) := (blk_cell BK222.out 6).trans rfl; have hfz25_0 := blk_frozen BK222.out 0; have hfz25_1 := blk_frozen BK222.out 1; have hfz25_2 := blk_frozen BK222.out 2; have hfz25_3 := blk_frozen BK222.out 3; have hfz25_4 := blk_frozen BK222.out 4; have hfz25_5 := blk_frozen BK222.out 5; have hfz25_6 := blk_frozen BK222.out 6; have hcz26_0 : w24.cell? ⟨gb226, 0, none⟩ = some (.int .i64 ((rd_T71 l1 a2_1).f0)) := (blk_cell BK226.out 0).trans rfl; have hcz26_1 : w24.cell? ⟨gb226, 1, none⟩ = some (.int .i64 ((rd_T71 l1 a2_1).f1)) := (blk_cell BK226.out 1).trans rfl; have hcz26_2 : w24.cell? ⟨gb226, 2, none⟩ = some (.int .i64 ((rd_T71 l1 a2_1).f2)) := (blk_cell BK226.out 2).trans rfl; have hcz26_3 : w24.cell? ⟨gb226, 3, none⟩ = some (.int .i64 ((rd_T71 l1 a2_1).f3)) := (blk_cell BK226.out 3).trans rfl; have hcz26_4 : w24.cell? ⟨gb226, 4, none⟩ = some (.int .i64 ((rd_T71 l1 a2_1).f4)) := (blk_cell BK226.out 4).trans rfl; have hfz26_0 := blk_frozen BK226.out 0; have hfz26_1 := blk_frozen BK226.out 1; have hfz26_2 := blk_frozen BK226.out 2; have hfz26_3 := blk_frozen BK226.out 3; have hfz26_4 := blk_frozen BK226.out 4) | (go_at_call 132; (with_reducible refine (impl_IsOpen.calls a2_2 a2_3 a2_4 a2_5 a2_6 t228 _ A18.out).mono ?_); rintro e w27 ⟨rfl, hb⟩; have n0_ := Aside0.mk (blk_below (g := gb222) (o := .cells #[.int .i64 a2_0, .int .i64 a2_1, .int .i64 a2_2, .int .i64 a2_3, .int .i64 a2_4, .int .i64 a2_5, .int .i64 a2_6] 97 (0, 0)) (by (with_reducible repeat (first | refine blk_drewN ?_ _ | refine blk_drew ?_ | refine blk_alloc ?_ _)); exact BK222.out) hb); have n1_ := Aside0.mk (blk_below (g := gb226) (o := .cells #[.int .i64 ((rd_T71 l1 a2_1).f0), .int .i64 ((rd_T71 l1 a2_1).f1), .int .i64 ((rd_T71 l1 a2_1).f2), .int .i64 ((rd_T71 l1 a2_1).f3), .int .i64 ((rd_T71 l1 a2_1).f4)] 71 (0, 0)) (by (with_reducible repeat (first | refine blk_drewN ?_ _ | refine blk_drew ?_ | refine blk_alloc ?_ _)); exact BK226.out) hb); have n2_ := Aside0.mk (below_step (by repeat (first | (with_reducible first | exact HB.out | apply below_alloc | apply pw_below_drewN | apply below_drew1 | refine below_set ?_ GE222.out | refine below_set ?_ GE226.out) | exact HB.out)) hb); clear BK222; clear BK226; clear HB; have BK222 := n0_; have BK226 := n1_; have HB := n2_; clear n0_ n1_ n2_; (try clear hb); (try clear hb2); (try clear hk); (try clear hi)))
                  go_ret
                  exact ⟨by first | rfl | (simp [errW_none, errW_some] <;> rfl) | (simp [*, errW_none, errW_some] <;> rfl), by repeat (first | (with_reducible first | exact HB.out | apply below_alloc | apply pw_below_drewN | apply below_drew1 | refine below_set ?_ GE222.out | refine below_set ?_ GE226.out) | exact HB.out)⟩
                · rw [if_neg c17] at H
                  have c17b0 : (a2_3 == ((rd_T71 l1 a2_1).f1)) = false := beq_eq_false_iff_ne.mpr c17
                  have c17b1 : (a2_3 != ((rd_T71 l1 a2_1).f1)) = true := bne_iff_ne.mpr c17
                  obtain rfl := Option.some.inj H
                  have hcz28_0 : wc.cell? ⟨gb222, 0, none⟩ = some (.int .i64 a2_0) := (blk_cell BK222.out 0).trans rfl
                  have hcz28_1 : wc.cell? ⟨gb222, 1, none⟩ = some (.int .i64 a2_1) := (blk_cell BK222.out 1).trans rfl
                  have hcz28_2 : wc.cell? ⟨gb222, 2, none⟩ = some (.int .i64 a2_2) := (blk_cell BK222.out 2).trans rfl
                  have hcz28_3 : wc.cell? ⟨gb222, 3, none⟩ = some (.int .i64 a2_3) := (blk_cell BK222.out 3).trans rfl
                  have hcz28_4 : wc.cell? ⟨gb222, 4, none⟩ = some (.int .i64 a2_4) := (blk_cell BK222.out 4).trans rfl
                  have hcz28_5 : wc.cell? ⟨gb222, 5, none⟩ = some (.int .i64 a2_5) := (blk_cell BK222.out 5).trans rfl
                  have hcz28_6 : wc.cell? ⟨gb222, 6, none⟩ = some (.int .i64 a2_6) := (blk_cell BK222.out 6).trans rfl
                  have hfz28_0 := blk_frozen BK222.out 0
                  have hfz28_1 := blk_frozen BK222.out 1
                  have hfz28_2 := blk_frozen BK222.out 2
                  have hfz28_3 := blk_frozen BK222.out 3
                  have hfz28_4 := blk_frozen BK222.out 4
                  have hfz28_5 := blk_frozen BK222.out 5
                  have hfz28_6 := blk_frozen BK222.out 6
                  have p225 : 0 ≤ (a2_1 : Int) := of_decide_eq_true (by first | (with_reducible assumption) | assumption)
                  have q225 : a2_1 < (l1.length : Int) := of_decide_eq_true (by first | (with_reducible assumption) | assumption)
                  obtain ⟨ad225, e225, hx225_0, hx225_1, hx225_2, hx225_3, hx225_4⟩ := at_T71 HR1.out a2_1 p225 q225
                  cases e225
                  replace hx225_0 := (HB.out.cell (World.block_lt_of_cell? w _ hx225_0)).trans hx225_0
                  replace hx225_1 := (HB.out.cell (World.block_lt_of_cell? w _ hx225_1)).trans hx225_1
                  replace hx225_2 := (HB.out.cell (World.block_lt_of_cell? w _ hx225_2)).trans hx225_2
                  replace hx225_3 := (HB.out.cell (World.block_lt_of_cell? w _ hx225_3)).trans hx225_3
                  replace hx225_4 := (HB.out.cell (World.block_lt_of_cell? w _ hx225_4)).trans hx225_4
                  replace p225 := eq_true p225
                  replace q225 := eq_true q225
                  go_wp2_with (first | ((with_reducible refine gate_dst (N := 7) rfl ?_); (try (refine gate_guard (by rfl) ?_; dsimp only)); refine box_event ?hg (N := 7) ?hd (cs := #[.int .i64 0, .int .i64 0, .int .i64 0, .int .i64 0, .int .i64 0]) (t := 71) ?hr ?_; (case hd => rfl); (case hg => rfl); (case hr => first | (go_simp; done) | (go_simp; rfl)); intro gb226 hg w29 hbox hb; have n0_ := Aside0.mk (blk_below (g := gb222) (o := .cells #[.int .i64 a2_0, .int .i64 a2_1, .int .i64 a2_2, .int .i64 a2_3, .int .i64 a2_4, .int .i64 a2_5, .int .i64 a2_6] 97 (0, 0)) (by (with_reducible repeat (first | refine blk_drewN ?_ _ | refine blk_drew ?_ | refine blk_alloc ?_ _)); exact BK222.out) hb); have n1_ := Aside0.mk (below_step (by repeat (first | (with_reducible first | exact HB.out | apply below_alloc | apply pw_below_drewN | apply below_drew1 | refine below_set ?_ GE222.out) | exact HB.out)) hb); have n2_ := Aside0.mk (hbox); have n3_ := Aside0.mk ((by rw [hg]; exact (below_size (by repeat (first | (with_reducible first | exact HB.out | apply below_alloc | apply pw_below_drewN | apply below_drew1 | refine below_set ?_ GE222.out) | exact HB.out))) : w.heap.size ≤ gb226)); have n4_ := Aside0.mk ((by rw [hg]; exact (below_size (by repeat (first | (with_reducible first | exact HB.out | apply below_alloc | apply pw_below_drewN | apply below_drew1 | refine below_set ?_ GE222.out) | exact HB.out))) : w.heap.size ≤ gb226)); have n5_ := Aside0.mk ((by rw [hg]; exact Nat.ne_of_lt (blk_lt (g := gb222) (o := .cells #[.int .i64 a2_0, .int .i64 a2_1, .int .i64 a2_2, .int .i64 a2_3, .int .i64 a2_4, .int .i64 a2_5, .int .i64 a2_6] 97 (0, 0)) (by (with_reducible repeat (first | refine blk_drewN ?_ _ | refine blk_drew ?_ | refine blk_alloc ?_ _)); exact BK222.out)) : gb222 ≠ gb226)); have n6_ := Aside0.mk ((by rw [hg]; exact Nat.ne_of_gt (blk_lt (g := gb222) (o := .cells #[.int .i64 a2_0, .int .i64 a2_1, .int .i64 a2_2, .int .i64 a2_3, .int .i64 a2_4, .int .i64 a2_5, .int .i64 a2_6] 97 (0, 0)) (by (with_reducible repeat (first | refine blk_drewN ?_ _ | refine blk_drew ?_ | refine blk_alloc ?_ _)); exact BK222.out)) : gb226 ≠ gb222)); clear BK222; clear HB; have BK222 := n0_; have HB := n1_; have BK226 := n2_; have GW226 := n3_; have GE226 := n4_; have NB222_226 := n5_; have NB226_222 := n6_; clear n0_ n1_ n2_ n3_ n4_ n5_ n6_; clear hb hbox hg; have hnb30 := NB226_222.out; have hnc30 := NB222_226.out; have hcz31_0 : w29.cell? ⟨gb226, 0, none⟩ = some (.int .i64 0) := (blk_cell BK226.out 0).trans rfl; have hcz31_1 : w29.cell? ⟨gb226, 1, none⟩ = some (.int .i64 0) := (blk_cell BK226.out 1).trans rfl; have hcz31_2 : w29.cell? ⟨gb226, 2, none⟩ = some (.int .i64 0) := (blk_cell BK226.out 2).trans rfl; have hcz31_3 : w29.cell? ⟨gb226, 3, none⟩ = some (.int .i64 0) := (blk_cell BK226.out 3).trans rfl; have hcz31_4 : w29.cell? ⟨gb226, 4, none⟩ = some (.int .i64 0) := (blk_cell BK226.out 4).trans rfl; have hfz31_0 := blk_frozen BK226.out 0; have hfz31_1 := blk_frozen BK226.out 1; have hfz31_2 := blk_frozen BK226.out 2; have hfz31_3 := blk_frozen BK226.out 3; have hfz31_4 := blk_frozen BK226.out 4; have hcz32_0 : w29.cell? ⟨gb222, 0, none⟩ = some (.int .i64 a2_0) := (blk_cell BK222.out 0).trans rfl; have hcz32_1 : w29.cell? ⟨gb222, 1, none⟩ = some (.int .i64 a2_1) := (blk_cell BK222.out 1).trans rfl; have hcz32_2 : w29.cell? ⟨gb222, 2, none⟩ = some (.int .i64 a2_2) := (blk_cell BK222.out 2).trans rfl; have hcz32_3 : w29.cell? ⟨gb222, 3, none⟩ = some (.int .i64 a2_3) := (blk_cell BK222.out 3).trans rfl; have hcz32_4 : w29.cell? ⟨gb222, 4, none⟩ = some (.int .i64 a2_4) := (blk_cell BK222.out 4).trans rfl; have hcz32_5 : w29.cell? ⟨gb222, 5, none⟩ = some (.int .i64 a2_5) := (blk_cell BK222.out 5).trans rfl; have hcz32_6 : w29.cell? ⟨gb222, 6, none⟩ = some (.int .i64 a2_6) := (blk_cell BK222.out 6).trans rfl; have hfz32_0 := blk_frozen BK222.out 0; have hfz32_1 := blk_frozen BK222.out 1; have hfz32_2 := blk_frozen BK222.out 2; have hfz32_3 := blk_frozen BK222.out 3; have hfz32_4 := blk_frozen BK222.out 4; have hfz32_5 := blk_frozen BK222.out 5; have hfz32_6 := blk_frozen BK222.out 6) | ((with_reducible refine gate_callee (f := 130) rfl ?_); refine goesL_ (some 29) rfl rfl Try.func130 (by kernel_rfl) rfl #[.int .i64 a0, .agg #[.int .i64 a2_2, .int .i64 a2_3, .int .i64 a2_4, .int .i64 a2_5, .int .i64 a2_6]] rfl (by (try simp only [List.map_toArray, List.map_cons, List.map_nil]); first | done | rfl | (simp only [List.length_drop, List.length_take]; rfl)) ?_; (with_reducible refine (impl_GameOk.calls kj3 a0 a2_2 a2_3 a2_4 a2_5 a2_6 true _ A14.out).mono ?_); rintro e w33 ⟨rfl, hb⟩; refine ⟨_, rfl, ?_⟩; have n0_ := Aside0.mk (blk_below (g := gb222) (o := .cells #[.int .i64 a2_0, .int .i64 a2_1, .int .i64 a2_2, .int .i64 a2_3, .int .i64 a2_4, .int .i64 a2_5, .int .i64 a2_6] 97 (0, 0)) (by (with_reducible repeat (first | refine blk_drewN ?_ _ | refine blk_drew ?_ | refine blk_alloc ?_ _)); refine blk_far ?_ NB222_226.out _; (with_reducible repeat (first | refine blk_drewN ?_ _ | refine blk_drew ?_ | refine blk_alloc ?_ _)); refine blk_far ?_ NB222_226.out _; (with_reducible repeat (first | refine blk_drewN ?_ _ | refine blk_drew ?_ | refine blk_alloc ?_ _)); refine blk_far ?_ NB222_226.out _; (with_reducible repeat (first | refine blk_drewN ?_ _ | refine blk_drew ?_ | refine blk_alloc ?_ _)); refine blk_far ?_ NB222_226.out _; (with_reducible repeat (first | refine blk_drewN ?_ _ | refine blk_drew ?_ | refine blk_alloc ?_ _)); refine blk_far ?_ NB222_226.out _; (with_reducible repeat (first | refine blk_drewN ?_ _ | refine blk_drew ?_ | refine blk_alloc ?_ _)); exact BK222.out) hb); have n1_ := Aside0.mk (blk_below (g := gb226) (o := .cells #[.int .i64 ((rd_T71 l1 a2_1).f0), .int .i64 ((rd_T71 l1 a2_1).f1), .int .i64 ((rd_T71 l1 a2_1).f2), .int .i64 ((rd_T71 l1 a2_1).f3), .int .i64 ((rd_T71 l1 a2_1).f4)] 71 (0, 0)) (by (with_reducible repeat (first | refine blk_drewN ?_ _ | refine blk_drew ?_ | refine blk_alloc ?_ _)); refine blk_put (cs := #[.int .i64 ((rd_T71 l1 a2_1).f0), .int .i64 ((rd_T71 l1 a2_1).f1), .int .i64 ((rd_T71 l1 a2_1).f2), .int .i64 ((rd_T71 l1 a2_1).f3), .int .i64 0]) ?_ 4 _ rfl; (with_reducible repeat (first | refine blk_drewN ?_ _ | refine blk_drew ?_ | refine blk_alloc ?_ _)); refine blk_put (cs := #[.int .i64 ((rd_T71 l1 a2_1).f0), .int .i64 ((rd_T71 l1 a2_1).f1), .int .i64 ((rd_T71 l1 a2_1).f2), .int .i64 0, .int .i64 0]) ?_ 3 _ rfl; (with_reducible repeat (first | refine blk_drewN ?_ _ | refine blk_drew ?_ | refine blk_alloc ?_ _)); refine blk_put (cs := #[.int .i64 ((rd_T71 l1 a2_1).f0), .int .i64 ((rd_T71 l1 a2_1).f1), .int .i64 0, .int .i64 0, .int .i64 0]) ?_ 2 _ rfl; (with_reducible repeat (first | refine blk_drewN ?_ _ | refine blk_drew ?_ | refine blk_alloc ?_ _)); refine blk_put (cs := #[.int .i64 ((rd_T71 l1 a2_1).f0), .int .i64 0, .int .i64 0, .int .i64 0, .int .i64 0]) ?_ 1 _ rfl; (with_reducible repeat (first | refine blk_drewN ?_ _ | refine blk_drew ?_ | refine blk_alloc ?_ _)); refine blk_put (cs := #[.int .i64 0, .int .i64 0, .int .i64 0, .int .i64 0, .int .i64 0]) ?_ 0 _ rfl; (with_reducible repeat (first | refine blk_drewN ?_ _ | refine blk_drew ?_ | refine blk_alloc ?_ _)); exact BK226.out) hb); have n2_ := Aside0.mk (below_step (by repeat (first | (with_reducible first | exact HB.out | apply below_alloc | apply pw_below_drewN | apply below_drew1 | refine below_set ?_ GE222.out | refine below_set ?_ GE226.out) | exact HB.out)) hb); clear BK222; clear BK226; clear HB; have BK222 := n0_; have BK226 := n1_; have HB := n2_; clear n0_ n1_ n2_; (try clear hb); (try clear hb2); (try clear hk); (try clear hi); have hcz34_0 : w33.cell? ⟨gb222, 0, none⟩ = some (.int .i64 a2_0) := (blk_cell BK222.out 0).trans rfl; have hcz34_1 : w33.cell? ⟨gb222, 1, none⟩ = some (.int .i64 a2_1) := (blk_cell BK222.out 1).trans rfl; have hcz34_2 : w33.cell? ⟨gb222, 2, none⟩ = some (.int .i64 a2_2) := (blk_cell BK222.out 2).trans rfl; have hcz34_3 : w33.cell? ⟨gb222, 3, none⟩ = some (.int .i64 a2_3) := (blk_cell BK222.out 3).trans rfl; have hcz34_4 : w33.cell? ⟨gb222, 4, none⟩ = some (.int .i64 a2_4) := (blk_cell BK222.out 4).trans rfl; have hcz34_5 : w33.cell? ⟨gb222, 5, none⟩ = some (.int .i64 a2_5) := (blk_cell BK222.out 5).trans rfl; have hcz34_6 : w33.cell? ⟨gb222, 6, none⟩ = some (.int .i64 a2_6) := (blk_cell BK222.out 6).trans rfl; have hfz34_0 := blk_frozen BK222.out 0; have hfz34_1 := blk_frozen BK222.out 1; have hfz34_2 := blk_frozen BK222.out 2; have hfz34_3 := blk_frozen BK222.out 3; have hfz34_4 := blk_frozen BK222.out 4; have hfz34_5 := blk_frozen BK222.out 5; have hfz34_6 := blk_frozen BK222.out 6; have hcz35_0 : w33.cell? ⟨gb226, 0, none⟩ = some (.int .i64 ((rd_T71 l1 a2_1).f0)) := (blk_cell BK226.out 0).trans rfl; have hcz35_1 : w33.cell? ⟨gb226, 1, none⟩ = some (.int .i64 ((rd_T71 l1 a2_1).f1)) := (blk_cell BK226.out 1).trans rfl; have hcz35_2 : w33.cell? ⟨gb226, 2, none⟩ = some (.int .i64 ((rd_T71 l1 a2_1).f2)) := (blk_cell BK226.out 2).trans rfl; have hcz35_3 : w33.cell? ⟨gb226, 3, none⟩ = some (.int .i64 ((rd_T71 l1 a2_1).f3)) := (blk_cell BK226.out 3).trans rfl; have hcz35_4 : w33.cell? ⟨gb226, 4, none⟩ = some (.int .i64 ((rd_T71 l1 a2_1).f4)) := (blk_cell BK226.out 4).trans rfl; have hfz35_0 := blk_frozen BK226.out 0; have hfz35_1 := blk_frozen BK226.out 1; have hfz35_2 := blk_frozen BK226.out 2; have hfz35_3 := blk_frozen BK226.out 3; have hfz35_4 := blk_frozen BK226.out 4))
                  go_ret
                  exact ⟨by first | rfl | (simp [errW_none, errW_some] <;> rfl) | (simp [*, errW_none, errW_some] <;> rfl), by repeat (first | (with_reducible first | exact HB.out | apply below_alloc | apply pw_below_drewN | apply below_drew1 | refine below_set ?_ GE222.out | refine below_set ?_ GE226.out) | exact HB.out)⟩
              · rw [if_neg c16] at H
                have c16b0 : (a2_2 == ((rd_T71 l1 a2_1).f0)) = false := beq_eq_false_iff_ne.mpr c16
                have c16b1 : (a2_2 != ((rd_T71 l1 a2_1).f0)) = true := bne_iff_ne.mpr c16
                obtain rfl := Option.some.inj H
                have hcz36_0 : wc.cell? ⟨gb222, 0, none⟩ = some (.int .i64 a2_0) := (blk_cell BK222.out 0).trans rfl
                have hcz36_1 : wc.cell? ⟨gb222, 1, none⟩ = some (.int .i64 a2_1) := (blk_cell BK222.out 1).trans rfl
                have hcz36_2 : wc.cell? ⟨gb222, 2, none⟩ = some (.int .i64 a2_2) := (blk_cell BK222.out 2).trans rfl
                have hcz36_3 : wc.cell? ⟨gb222, 3, none⟩ = some (.int .i64 a2_3) := (blk_cell BK222.out 3).trans rfl
                have hcz36_4 : wc.cell? ⟨gb222, 4, none⟩ = some (.int .i64 a2_4) := (blk_cell BK222.out 4).trans rfl
                have hcz36_5 : wc.cell? ⟨gb222, 5, none⟩ = some (.int .i64 a2_5) := (blk_cell BK222.out 5).trans rfl
                have hcz36_6 : wc.cell? ⟨gb222, 6, none⟩ = some (.int .i64 a2_6) := (blk_cell BK222.out 6).trans rfl
                have hfz36_0 := blk_frozen BK222.out 0
                have hfz36_1 := blk_frozen BK222.out 1
                have hfz36_2 := blk_frozen BK222.out 2
                have hfz36_3 := blk_frozen BK222.out 3
                have hfz36_4 := blk_frozen BK222.out 4
                have hfz36_5 := blk_frozen BK222.out 5
                have hfz36_6 := blk_frozen BK222.out 6
                have p225 : 0 ≤ (a2_1 : Int) := of_decide_eq_true (by first | (with_reducible assumption) | assumption)
                have q225 : a2_1 < (l1.length : Int) := of_decide_eq_true (by first | (with_reducible assumption) | assumption)
                obtain ⟨ad225, e225, hx225_0, hx225_1, hx225_2, hx225_3, hx225_4⟩ := at_T71 HR1.out a2_1 p225 q225
                cases e225
                replace hx225_0 := (HB.out.cell (World.block_lt_of_cell? w _ hx225_0)).trans hx225_0
                replace hx225_1 := (HB.out.cell (World.block_lt_of_cell? w _ hx225_1)).trans hx225_1
                replace hx225_2 := (HB.out.cell (World.block_lt_of_cell? w _ hx225_2)).trans hx225_2
                replace hx225_3 := (HB.out.cell (World.block_lt_of_cell? w _ hx225_3)).trans hx225_3
                replace hx225_4 := (HB.out.cell (World.block_lt_of_cell? w _ hx225_4)).trans hx225_4
                replace p225 := eq_true p225
                replace q225 := eq_true q225
                go_wp2_with (first | ((with_reducible refine gate_dst (N := 7) rfl ?_); (try (refine gate_guard (by rfl) ?_; dsimp only)); refine box_event ?hg (N := 7) ?hd (cs := #[.int .i64 0, .int .i64 0, .int .i64 0, .int .i64 0, .int .i64 0]) (t := 71) ?hr ?_; (case hd => rfl); (case hg => rfl); (case hr => first | (go_simp; done) | (go_simp; rfl)); intro gb226 hg w37 hbox hb; have n0_ := Aside0.mk (blk_below (g := gb222) (o := .cells #[.int .i64 a2_0, .int .i64 a2_1, .int .i64 a2_2, .int .i64 a2_3, .int .i64 a2_4, .int .i64 a2_5, .int .i64 a2_6] 97 (0, 0)) (by (with_reducible repeat (first | refine blk_drewN ?_ _ | refine blk_drew ?_ | refine blk_alloc ?_ _)); exact BK222.out) hb); have n1_ := Aside0.mk (below_step (by repeat (first | (with_reducible first | exact HB.out | apply below_alloc | apply pw_below_drewN | apply below_drew1 | refine below_set ?_ GE222.out) | exact HB.out)) hb); have n2_ := Aside0.mk (hbox); have n3_ := Aside0.mk ((by rw [hg]; exact (below_size (by repeat (first | (with_reducible first | exact HB.out | apply below_alloc | apply pw_below_drewN | apply below_drew1 | refine below_set ?_ GE222.out) | exact HB.out))) : w.heap.size ≤ gb226)); have n4_ := Aside0.mk ((by rw [hg]; exact (below_size (by repeat (first | (with_reducible first | exact HB.out | apply below_alloc | apply pw_below_drewN | apply below_drew1 | refine below_set ?_ GE222.out) | exact HB.out))) : w.heap.size ≤ gb226)); have n5_ := Aside0.mk ((by rw [hg]; exact Nat.ne_of_lt (blk_lt (g := gb222) (o := .cells #[.int .i64 a2_0, .int .i64 a2_1, .int .i64 a2_2, .int .i64 a2_3, .int .i64 a2_4, .int .i64 a2_5, .int .i64 a2_6] 97 (0, 0)) (by (with_reducible repeat (first | refine blk_drewN ?_ _ | refine blk_drew ?_ | refine blk_alloc ?_ _)); exact BK222.out)) : gb222 ≠ gb226)); have n6_ := Aside0.mk ((by rw [hg]; exact Nat.ne_of_gt (blk_lt (g := gb222) (o := .cells #[.int .i64 a2_0, .int .i64 a2_1, .int .i64 a2_2, .int .i64 a2_3, .int .i64 a2_4, .int .i64 a2_5, .int .i64 a2_6] 97 (0, 0)) (by (with_reducible repeat (first | refine blk_drewN ?_ _ | refine blk_drew ?_ | refine blk_alloc ?_ _)); exact BK222.out)) : gb226 ≠ gb222)); clear BK222; clear HB; have BK222 := n0_; have HB := n1_; have BK226 := n2_; have GW226 := n3_; have GE226 := n4_; have NB222_226 := n5_; have NB226_222 := n6_; clear n0_ n1_ n2_ n3_ n4_ n5_ n6_; clear hb hbox hg; have hnb38 := NB226_222.out; have hnc38 := NB222_226.out; have hcz39_0 : w37.cell? ⟨gb226, 0, none⟩ = some (.int .i64 0) := (blk_cell BK226.out 0).trans rfl; have hcz39_1 : w37.cell? ⟨gb226, 1, none⟩ = some (.int .i64 0) := (blk_cell BK226.out 1).trans rfl; have hcz39_2 : w37.cell? ⟨gb226, 2, none⟩ = some (.int .i64 0) := (blk_cell BK226.out 2).trans rfl; have hcz39_3 : w37.cell? ⟨gb226, 3, none⟩ = some (.int .i64 0) := (blk_cell BK226.out 3).trans rfl; have hcz39_4 : w37.cell? ⟨gb226, 4, none⟩ = some (.int .i64 0) := (blk_cell BK226.out 4).trans rfl; have hfz39_0 := blk_frozen BK226.out 0; have hfz39_1 := blk_frozen BK226.out 1; have hfz39_2 := blk_frozen BK226.out 2; have hfz39_3 := blk_frozen BK226.out 3; have hfz39_4 := blk_frozen BK226.out 4; have hcz40_0 : w37.cell? ⟨gb222, 0, none⟩ = some (.int .i64 a2_0) := (blk_cell BK222.out 0).trans rfl; have hcz40_1 : w37.cell? ⟨gb222, 1, none⟩ = some (.int .i64 a2_1) := (blk_cell BK222.out 1).trans rfl; have hcz40_2 : w37.cell? ⟨gb222, 2, none⟩ = some (.int .i64 a2_2) := (blk_cell BK222.out 2).trans rfl; have hcz40_3 : w37.cell? ⟨gb222, 3, none⟩ = some (.int .i64 a2_3) := (blk_cell BK222.out 3).trans rfl; have hcz40_4 : w37.cell? ⟨gb222, 4, none⟩ = some (.int .i64 a2_4) := (blk_cell BK222.out 4).trans rfl; have hcz40_5 : w37.cell? ⟨gb222, 5, none⟩ = some (.int .i64 a2_5) := (blk_cell BK222.out 5).trans rfl; have hcz40_6 : w37.cell? ⟨gb222, 6, none⟩ = some (.int .i64 a2_6) := (blk_cell BK222.out 6).trans rfl; have hfz40_0 := blk_frozen BK222.out 0; have hfz40_1 := blk_frozen BK222.out 1; have hfz40_2 := blk_frozen BK222.out 2; have hfz40_3 := blk_frozen BK222.out 3; have hfz40_4 := blk_frozen BK222.out 4; have hfz40_5 := blk_frozen BK222.out 5; have hfz40_6 := blk_frozen BK222.out 6) | ((with_reducible refine gate_callee (f := 130) rfl ?_); refine goesL_ (some 29) rfl rfl Try.func130 (by kernel_rfl) rfl #[.int .i64 a0, .agg #[.int .i64 a2_2, .int .i64 a2_3, .int .i64 a2_4, .int .i64 a2_5, .int .i64 a2_6]] rfl (by (try simp only [List.map_toArray, List.map_cons, List.map_nil]); first | done | rfl | (simp only [List.length_drop, List.length_take]; rfl)) ?_; (with_reducible refine (impl_GameOk.calls kj3 a0 a2_2 a2_3 a2_4 a2_5 a2_6 true _ A14.out).mono ?_); rintro e w41 ⟨rfl, hb⟩; refine ⟨_, rfl, ?_⟩; have n0_ := Aside0.mk (blk_below (g := gb222) (o := .cells #[.int .i64 a2_0, .int .i64 a2_1, .int .i64 a2_2, .int .i64 a2_3, .int .i64 a2_4, .int .i64 a2_5, .int .i64 a2_6] 97 (0, 0)) (by (with_reducible repeat (first | refine blk_drewN ?_ _ | refine blk_drew ?_ | refine blk_alloc ?_ _)); refine blk_far ?_ NB222_226.out _; (with_reducible repeat (first | refine blk_drewN ?_ _ | refine blk_drew ?_ | refine blk_alloc ?_ _)); refine blk_far ?_ NB222_226.out _; (with_reducible repeat (first | refine blk_drewN ?_ _ | refine blk_drew ?_ | refine blk_alloc ?_ _)); refine blk_far ?_ NB222_226.out _; (with_reducible repeat (first | refine blk_drewN ?_ _ | refine blk_drew ?_ | refine blk_alloc ?_ _)); refine blk_far ?_ NB222_226.out _; (with_reducible repeat (first | refine blk_drewN ?_ _ | refine blk_drew ?_ | refine blk_alloc ?_ _)); refine blk_far ?_ NB222_226.out _; (with_reducible repeat (first | refine blk_drewN ?_ _ | refine blk_drew ?_ | refine blk_alloc ?_ _)); exact BK222.out) hb); have n1_ := Aside0.mk (blk_below (g := gb226) (o := .cells #[.int .i64 ((rd_T71 l1 a2_1).f0), .int .i64 ((rd_T71 l1 a2_1).f1), .int .i64 ((rd_T71 l1 a2_1).f2), .int .i64 ((rd_T71 l1 a2_1).f3), .int .i64 ((rd_T71 l1 a2_1).f4)] 71 (0, 0)) (by (with_reducible repeat (first | refine blk_drewN ?_ _ | refine blk_drew ?_ | refine blk_alloc ?_ _)); refine blk_put (cs := #[.int .i64 ((rd_T71 l1 a2_1).f0), .int .i64 ((rd_T71 l1 a2_1).f1), .int .i64 ((rd_T71 l1 a2_1).f2), .int .i64 ((rd_T71 l1 a2_1).f3), .int .i64 0]) ?_ 4 _ rfl; (with_reducible repeat (first | refine blk_drewN ?_ _ | refine blk_drew ?_ | refine blk_alloc ?_ _)); refine blk_put (cs := #[.int .i64 ((rd_T71 l1 a2_1).f0), .int .i64 ((rd_T71 l1 a2_1).f1), .int .i64 ((rd_T71 l1 a2_1).f2), .int .i64 0, .int .i64 0]) ?_ 3 _ rfl; (with_reducible repeat (first | refine blk_drewN ?_ _ | refine blk_drew ?_ | refine blk_alloc ?_ _)); refine blk_put (cs := #[.int .i64 ((rd_T71 l1 a2_1).f0), .int .i64 ((rd_T71 l1 a2_1).f1), .int .i64 0, .int .i64 0, .int .i64 0]) ?_ 2 _ rfl; (with_reducible repeat (first | refine blk_drewN ?_ _ | refine blk_drew ?_ | refine blk_alloc ?_ _)); refine blk_put (cs := #[.int .i64 ((rd_T71 l1 a2_1).f0), .int .i64 0, .int .i64 0, .int .i64 0, .int .i64 0]) ?_ 1 _ rfl; (with_reducible repeat (first | refine blk_drewN ?_ _ | refine blk_drew ?_ | refine blk_alloc ?_ _)); refine blk_put (cs := #[.int .i64 0, .int .i64 0, .int .i64 0, .int .i64 0, .int .i64 0]) ?_ 0 _ rfl; (with_reducible repeat (first | refine blk_drewN ?_ _ | refine blk_drew ?_ | refine blk_alloc ?_ _)); exact BK226.out) hb); have n2_ := Aside0.mk (below_step (by repeat (first | (with_reducible first | exact HB.out | apply below_alloc | apply pw_below_drewN | apply below_drew1 | refine below_set ?_ GE222.out | refine below_set ?_ GE226.out) | exact HB.out)) hb); clear BK222; clear BK226; clear HB; have BK222 := n0_; have BK226 := n1_; have HB := n2_; clear n0_ n1_ n2_; (try clear hb); (try clear hb2); (try clear hk); (try clear hi); have hcz42_0 : w41.cell? ⟨gb222, 0, none⟩ = some (.int .i64 a2_0) := (blk_cell BK222.out 0).trans rfl; have hcz42_1 : w41.cell? ⟨gb222, 1, none⟩ = some (.int .i64 a2_1) := (blk_cell BK222.out 1).trans rfl; have hcz42_2 : w41.cell? ⟨gb222, 2, none⟩ = some (.int .i64 a2_2) := (blk_cell BK222.out 2).trans rfl; have hcz42_3 : w41.cell? ⟨gb222, 3, none⟩ = some (.int .i64 a2_3) := (blk_cell BK222.out 3).trans rfl; have hcz42_4 : w41.cell? ⟨gb222, 4, none⟩ = some (.int .i64 a2_4) := (blk_cell BK222.out 4).trans rfl; have hcz42_5 : w41.cell? ⟨gb222, 5, none⟩ = some (.int .i64 a2_5) := (blk_cell BK222.out 5).trans rfl; have hcz42_6 : w41.cell? ⟨gb222, 6, none⟩ = some (.int .i64 a2_6) := (blk_cell BK222.out 6).trans rfl; have hfz42_0 := blk_frozen BK222.out 0; have hfz42_1 := blk_frozen BK222.out 1; have hfz42_2 := blk_frozen BK222.out 2; have hfz42_3 := blk_frozen BK222.out 3; have hfz42_4 := blk_frozen BK222.out 4; have hfz42_5 := blk_frozen BK222.out 5; have hfz42_6 := blk_frozen BK222.out 6; have hcz43_0 : w41.cell? ⟨gb226, 0, none⟩ = some (.int .i64 ((rd_T71 l1 a2_1).f0)) := (blk_cell BK226.out 0).trans rfl; have hcz43_1 : w41.cell? ⟨gb226, 1, none⟩ = some (.int .i64 ((rd_T71 l1 a2_1).f1)) := (blk_cell BK226.out 1).trans rfl; have hcz43_2 : w41.cell? ⟨gb226, 2, none⟩ = some (.int .i64 ((rd_T71 l1 a2_1).f2)) := (blk_cell BK226.out 2).trans rfl; have hcz43_3 : w41.cell? ⟨gb226, 3, none⟩ = some (.int .i64 ((rd_T71 l1 a2_1).f3)) := (blk_cell BK226.out 3).trans rfl; have hcz43_4 : w41.cell? ⟨gb226, 4, none⟩ = some (.int .i64 ((rd_T71 l1 a2_1).f4)) := (blk_cell BK226.out 4).trans rfl; have hfz43_0 := blk_frozen BK226.out 0; have hfz43_1 := blk_frozen BK226.out 1; have hfz43_2 := blk_frozen BK226.out 2; have hfz43_3 := blk_frozen BK226.out 3; have hfz43_4 := blk_frozen BK226.out 4))
                go_ret
                exact ⟨by first | rfl | (simp [errW_none, errW_some] <;> rfl) | (simp [*, errW_none, errW_some] <;> rfl), by repeat (first | (with_reducible first | exact HB.out | apply below_alloc | apply pw_below_drewN | apply below_drew1 | refine below_set ?_ GE222.out | refine below_set ?_ GE226.out) | exact HB.out)⟩
            · replace c15 := Bool.eq_false_iff.mpr c15
              subst c15
              have H1 : (some false) = some r := by rw [if_neg (show ¬ (false = true) by decide)] at H; exact H
              clear H
              have H := H1
              clear H1
              obtain rfl := Option.some.inj H
              have hcz44_0 : wc.cell? ⟨gb222, 0, none⟩ = some (.int .i64 a2_0) := (blk_cell BK222.out 0).trans rfl
              have hcz44_1 : wc.cell? ⟨gb222, 1, none⟩ = some (.int .i64 a2_1) := (blk_cell BK222.out 1).trans rfl
              have hcz44_2 : wc.cell? ⟨gb222, 2, none⟩ = some (.int .i64 a2_2) := (blk_cell BK222.out 2).trans rfl
              have hcz44_3 : wc.cell? ⟨gb222, 3, none⟩ = some (.int .i64 a2_3) := (blk_cell BK222.out 3).trans rfl
              have hcz44_4 : wc.cell? ⟨gb222, 4, none⟩ = some (.int .i64 a2_4) := (blk_cell BK222.out 4).trans rfl
              have hcz44_5 : wc.cell? ⟨gb222, 5, none⟩ = some (.int .i64 a2_5) := (blk_cell BK222.out 5).trans rfl
              have hcz44_6 : wc.cell? ⟨gb222, 6, none⟩ = some (.int .i64 a2_6) := (blk_cell BK222.out 6).trans rfl
              have hfz44_0 := blk_frozen BK222.out 0
              have hfz44_1 := blk_frozen BK222.out 1
              have hfz44_2 := blk_frozen BK222.out 2
              have hfz44_3 := blk_frozen BK222.out 3
              have hfz44_4 := blk_frozen BK222.out 4
              have hfz44_5 := blk_frozen BK222.out 5
              have hfz44_6 := blk_frozen BK222.out 6
              have p225 : 0 ≤ (a2_1 : Int) := of_decide_eq_true (by first | (with_reducible assumption) | assumption)
              have q225 : a2_1 < (l1.length : Int) := of_decide_eq_true (by first | (with_reducible assumption) | assumption)
              obtain ⟨ad225, e225, hx225_0, hx225_1, hx225_2, hx225_3, hx225_4⟩ := at_T71 HR1.out a2_1 p225 q225
              cases e225
              replace hx225_0 := (HB.out.cell (World.block_lt_of_cell? w _ hx225_0)).trans hx225_0
              replace hx225_1 := (HB.out.cell (World.block_lt_of_cell? w _ hx225_1)).trans hx225_1
              replace hx225_2 := (HB.out.cell (World.block_lt_of_cell? w _ hx225_2)).trans hx225_2
              replace hx225_3 := (HB.out.cell (World.block_lt_of_cell? w _ hx225_3)).trans hx225_3
              replace hx225_4 := (HB.out.cell (World.block_lt_of_cell? w _ hx225_4)).trans hx225_4
              replace p225 := eq_true p225
              replace q225 := eq_true q225
              go_wp2_with (first | ((with_reducible refine gate_dst (N := 7) rfl ?_); (try (refine gate_guard (by rfl) ?_; dsimp only)); refine box_event ?hg (N := 7) ?hd (cs := #[.int .i64 0, .int .i64 0, .int .i64 0, .int .i64 0, .int .i64 0]) (t := 71) ?hr ?_; (case hd => rfl); (case hg => rfl); (case hr => first | (go_simp; done) | (go_simp; rfl)); intro gb226 hg w45 hbox hb; have n0_ := Aside0.mk (blk_below (g := gb222) (o := .cells #[.int .i64 a2_0, .int .i64 a2_1, .int .i64 a2_2, .int .i64 a2_3, .int .i64 a2_4, .int .i64 a2_5, .int .i64 a2_6] 97 (0, 0)) (by (with_reducible repeat (first | refine blk_drewN ?_ _ | refine blk_drew ?_ | refine blk_alloc ?_ _)); exact BK222.out) hb); have n1_ := Aside0.mk (below_step (by repeat (first | (with_reducible first | exact HB.out | apply below_alloc | apply pw_below_drewN | apply below_drew1 | refine below_set ?_ GE222.out) | exact HB.out)) hb); have n2_ := Aside0.mk (hbox); have n3_ := Aside0.mk ((by rw [hg]; exact (below_size (by repeat (first | (with_reducible first | exact HB.out | apply below_alloc | apply pw_below_drewN | apply below_drew1 | refine below_set ?_ GE222.out) | exact HB.out))) : w.heap.size ≤ gb226)); have n4_ := Aside0.mk ((by rw [hg]; exact (below_size (by repeat (first | (with_reducible first | exact HB.out | apply below_alloc | apply pw_below_drewN | apply below_drew1 | refine below_set ?_ GE222.out) | exact HB.out))) : w.heap.size ≤ gb226)); have n5_ := Aside0.mk ((by rw [hg]; exact Nat.ne_of_lt (blk_lt (g := gb222) (o := .cells #[.int .i64 a2_0, .int .i64 a2_1, .int .i64 a2_2, .int .i64 a2_3, .int .i64 a2_4, .int .i64 a2_5, .int .i64 a2_6] 97 (0, 0)) (by (with_reducible repeat (first | refine blk_drewN ?_ _ | refine blk_drew ?_ | refine blk_alloc ?_ _)); exact BK222.out)) : gb222 ≠ gb226)); have n6_ := Aside0.mk ((by rw [hg]; exact Nat.ne_of_gt (blk_lt (g := gb222) (o := .cells #[.int .i64 a2_0, .int .i64 a2_1, .int .i64 a2_2, .int .i64 a2_3, .int .i64 a2_4, .int .i64 a2_5, .int .i64 a2_6] 97 (0, 0)) (by (with_reducible repeat (first | refine blk_drewN ?_ _ | refine blk_drew ?_ | refine blk_alloc ?_ _)); exact BK222.out)) : gb226 ≠ gb222)); clear BK222; clear HB; have BK222 := n0_; have HB := n1_; have BK226 := n2_; have GW226 := n3_; have GE226 := n4_; have NB222_226 := n5_; have NB226_222 := n6_; clear n0_ n1_ n2_ n3_ n4_ n5_ n6_; clear hb hbox hg; have hnb46 := NB226_222.out; have hnc46 := NB222_226.out; have hcz47_0 : w45.cell? ⟨gb226, 0, none⟩ = some (.int .i64 0) := (blk_cell BK226.out 0).trans rfl; have hcz47_1 : w45.cell? ⟨gb226, 1, none⟩ = some (.int .i64 0) := (blk_cell BK226.out 1).trans rfl; have hcz47_2 : w45.cell? ⟨gb226, 2, none⟩ = some (.int .i64 0) := (blk_cell BK226.out 2).trans rfl; have hcz47_3 : w45.cell? ⟨gb226, 3, none⟩ = some (.int .i64 0) := (blk_cell BK226.out 3).trans rfl; have hcz47_4 : w45.cell? ⟨gb226, 4, none⟩ = some (.int .i64 0) := (blk_cell BK226.out 4).trans rfl; have hfz47_0 := blk_frozen BK226.out 0; have hfz47_1 := blk_frozen BK226.out 1; have hfz47_2 := blk_frozen BK226.out 2; have hfz47_3 := blk_frozen BK226.out 3; have hfz47_4 := blk_frozen BK226.out 4; have hcz48_0 : w45.cell? ⟨gb222, 0, none⟩ = some (.int .i64 a2_0) := (blk_cell BK222.out 0).trans rfl; have hcz48_1 : w45.cell? ⟨gb222, 1, none⟩ = some (.int .i64 a2_1) := (blk_cell BK222.out 1).trans rfl; have hcz48_2 : w45.cell? ⟨gb222, 2, none⟩ = some (.int .i64 a2_2) := (blk_cell BK222.out 2).trans rfl; have hcz48_3 : w45.cell? ⟨gb222, 3, none⟩ = some (.int .i64 a2_3) := (blk_cell BK222.out 3).trans rfl; have hcz48_4 : w45.cell? ⟨gb222, 4, none⟩ = some (.int .i64 a2_4) := (blk_cell BK222.out 4).trans rfl; have hcz48_5 : w45.cell? ⟨gb222, 5, none⟩ = some (.int .i64 a2_5) := (blk_cell BK222.out 5).trans rfl; have hcz48_6 : w45.cell? ⟨gb222, 6, none⟩ = some (.int .i64 a2_6) := (blk_cell BK222.out 6).trans rfl; have hfz48_0 := blk_frozen BK222.out 0; have hfz48_1 := blk_frozen BK222.out 1; have hfz48_2 := blk_frozen BK222.out 2; have hfz48_3 := blk_frozen BK222.out 3; have hfz48_4 := blk_frozen BK222.out 4; have hfz48_5 := blk_frozen BK222.out 5; have hfz48_6 := blk_frozen BK222.out 6) | ((with_reducible refine gate_callee (f := 130) rfl ?_); refine goesL_ (some 29) rfl rfl Try.func130 (by kernel_rfl) rfl #[.int .i64 a0, .agg #[.int .i64 a2_2, .int .i64 a2_3, .int .i64 a2_4, .int .i64 a2_5, .int .i64 a2_6]] rfl (by (try simp only [List.map_toArray, List.map_cons, List.map_nil]); first | done | rfl | (simp only [List.length_drop, List.length_take]; rfl)) ?_; (with_reducible refine (impl_GameOk.calls kj3 a0 a2_2 a2_3 a2_4 a2_5 a2_6 false _ A14.out).mono ?_); rintro e w49 ⟨rfl, hb⟩; refine ⟨_, rfl, ?_⟩; have n0_ := Aside0.mk (blk_below (g := gb222) (o := .cells #[.int .i64 a2_0, .int .i64 a2_1, .int .i64 a2_2, .int .i64 a2_3, .int .i64 a2_4, .int .i64 a2_5, .int .i64 a2_6] 97 (0, 0)) (by (with_reducible repeat (first | refine blk_drewN ?_ _ | refine blk_drew ?_ | refine blk_alloc ?_ _)); refine blk_far ?_ NB222_226.out _; (with_reducible repeat (first | refine blk_drewN ?_ _ | refine blk_drew ?_ | refine blk_alloc ?_ _)); refine blk_far ?_ NB222_226.out _; (with_reducible repeat (first | refine blk_drewN ?_ _ | refine blk_drew ?_ | refine blk_alloc ?_ _)); refine blk_far ?_ NB222_226.out _; (with_reducible repeat (first | refine blk_drewN ?_ _ | refine blk_drew ?_ | refine blk_alloc ?_ _)); refine blk_far ?_ NB222_226.out _; (with_reducible repeat (first | refine blk_drewN ?_ _ | refine blk_drew ?_ | refine blk_alloc ?_ _)); refine blk_far ?_ NB222_226.out _; (with_reducible repeat (first | refine blk_drewN ?_ _ | refine blk_drew ?_ | refine blk_alloc ?_ _)); exact BK222.out) hb); have n1_ := Aside0.mk (blk_below (g := gb226) (o := .cells #[.int .i64 ((rd_T71 l1 a2_1).f0), .int .i64 ((rd_T71 l1 a2_1).f1), .int .i64 ((rd_T71 l1 a2_1).f2), .int .i64 ((rd_T71 l1 a2_1).f3), .int .i64 ((rd_T71 l1 a2_1).f4)] 71 (0, 0)) (by (with_reducible repeat (first | refine blk_drewN ?_ _ | refine blk_drew ?_ | refine blk_alloc ?_ _)); refine blk_put (cs := #[.int .i64 ((rd_T71 l1 a2_1).f0), .int .i64 ((rd_T71 l1 a2_1).f1), .int .i64 ((rd_T71 l1 a2_1).f2), .int .i64 ((rd_T71 l1 a2_1).f3), .int .i64 0]) ?_ 4 _ rfl; (with_reducible repeat (first | refine blk_drewN ?_ _ | refine blk_drew ?_ | refine blk_alloc ?_ _)); refine blk_put (cs := #[.int .i64 ((rd_T71 l1 a2_1).f0), .int .i64 ((rd_T71 l1 a2_1).f1), .int .i64 ((rd_T71 l1 a2_1).f2), .int .i64 0, .int .i64 0]) ?_ 3 _ rfl; (with_reducible repeat (first | refine blk_drewN ?_ _ | refine blk_drew ?_ | refine blk_alloc ?_ _)); refine blk_put (cs := #[.int .i64 ((rd_T71 l1 a2_1).f0), .int .i64 ((rd_T71 l1 a2_1).f1), .int .i64 0, .int .i64 0, .int .i64 0]) ?_ 2 _ rfl; (with_reducible repeat (first | refine blk_drewN ?_ _ | refine blk_drew ?_ | refine blk_alloc ?_ _)); refine blk_put (cs := #[.int .i64 ((rd_T71 l1 a2_1).f0), .int .i64 0, .int .i64 0, .int .i64 0, .int .i64 0]) ?_ 1 _ rfl; (with_reducible repeat (first | refine blk_drewN ?_ _ | refine blk_drew ?_ | refine blk_alloc ?_ _)); refine blk_put (cs := #[.int .i64 0, .int .i64 0, .int .i64 0, .int .i64 0, .int .i64 0]) ?_ 0 _ rfl; (with_reducible repeat (first | refine blk_drewN ?_ _ | refine blk_drew ?_ | refine blk_alloc ?_ _)); exact BK226.out) hb); have n2_ := Aside0.mk (below_step (by repeat (first | (with_reducible first | exact HB.out | apply below_alloc | apply pw_below_drewN | apply below_drew1 | refine below_set ?_ GE222.out | refine below_set ?_ GE226.out) | exact HB.out)) hb); clear BK222; clear BK226; clear HB; have BK222 := n0_; have BK226 := n1_; have HB := n2_; clear n0_ n1_ n2_; (try clear hb); (try clear hb2); (try clear hk); (try clear hi)))
              go_ret
              exact ⟨by first | rfl | (simp [errW_none, errW_some] <;> rfl) | (simp [*, errW_none, errW_some] <;> rfl), by repeat (first | (with_reducible first | exact HB.out | apply below_alloc | apply pw_below_drewN | apply below_drew1 | refine below_set ?_ GE222.out | refine below_set ?_ GE226.out) | exact HB.out)⟩
          · rw [if_neg c13] at H
            exact absurd H (by simp)
        · rw [if_neg c12] at H
          exact absurd H (by simp)

/-! ### impl_NotesOk: function 78 -/
theorem blk_new2 (w : World) (o o' : Obj) : ((w.alloc o).alloc o').heap[w.heap.size + 1]? = some o' := by
  have h := blk_new (w.alloc o) o'
  have e : (w.alloc o).heap.size = w.heap.size + 1 := Array.size_push _
  rwa [e] at h
attribute [local go_sem high] eqA97
def impl_NotesOk.dN (x : S97) : DataW Unit := .agg [.lit (.int .i64 x.f0), .lit (.int .i64 x.f1), .lit (.int .i64 x.f2.f0), .lit (.int .i64 x.f2.f1), .lit (.int .i64 x.f2.f2), .lit (.int .i64 x.f2.f3), .lit (.int .i64 x.f2.f4)]
def impl_NotesOk.vN (x : S97) : Value := .agg #[.int .i64 x.f0, .int .i64 x.f1, .int .i64 x.f2.f0, .int .i64 x.f2.f1, .int .i64 x.f2.f2, .int .i64 x.f2.f3, .int .i64 x.f2.f4]
theorem impl_NotesOk.dN_inj {x y : S97} (h : impl_NotesOk.dN x = impl_NotesOk.dN y) : impl_NotesOk.vN x = impl_NotesOk.vN y := by
  unfold impl_NotesOk.dN at h
  simp only [DataW.agg.injEq, List.cons.injEq, DataW.lit.injEq, Lit.int.injEq, true_and, and_true] at h
  obtain ⟨h0, h1, h2, h3, h4, h5, h6⟩ := h
  unfold impl_NotesOk.vN
  rw [h0, h1, h2, h3, h4, h5, h6]
open Classical in
noncomputable def impl_NotesOk.R (v : Value) : Option (DataW Unit × List MemPlace) := if h : ∃ x : S97, v = impl_NotesOk.vN x then some (impl_NotesOk.dN h.choose, []) else none
theorem impl_NotesOk.dN_of {x y : S97} (e : impl_NotesOk.vN x = impl_NotesOk.vN y) : impl_NotesOk.dN x = impl_NotesOk.dN y := by
  unfold impl_NotesOk.vN at e
  simp only [Value.agg.injEq, Array.mk.injEq, List.cons.injEq, Value.int.injEq, true_and, and_true] at e
  obtain ⟨h0, h1, h2, h3, h4, h5, h6⟩ := e
  unfold impl_NotesOk.dN
  rw [h0, h1, h2, h3, h4, h5, h6]
theorem impl_NotesOk.R_mk (x : S97) : impl_NotesOk.R (impl_NotesOk.vN x) = some (impl_NotesOk.dN x, []) := by
  have h : ∃ y : S97, impl_NotesOk.vN x = impl_NotesOk.vN y := ⟨x, rfl⟩
  unfold impl_NotesOk.R
  rw [dif_pos h, ← impl_NotesOk.dN_of h.choose_spec]
theorem impl_NotesOk.R_inv {v : Value} {y : S97} {ps : List MemPlace} (h : impl_NotesOk.R v = some (impl_NotesOk.dN y, ps)) : v = impl_NotesOk.vN y := by
  unfold impl_NotesOk.R at h
  by_cases hx : ∃ x : S97, v = impl_NotesOk.vN x
  · rw [dif_pos hx] at h
    simp only [Option.some.injEq, Prod.mk.injEq] at h
    exact hx.choose_spec.trans (impl_NotesOk.dN_inj h.1)
  · rw [dif_neg hx] at h; cases h
def impl_NotesOk.dat (l : List S97) : DataW Unit := l.foldl (fun m x => m.put (.int .i64 x.f0) (impl_NotesOk.dN x)) (.map [])
theorem impl_NotesOk.dat_snoc (l : List S97) (x : S97) : impl_NotesOk.dat (l ++ [x]) = (impl_NotesOk.dat l).put (.int .i64 x.f0) (impl_NotesOk.dN x) := by simp [impl_NotesOk.dat, List.foldl_append]
/-- The last of the first i notes with this serial. -/
def impl_NotesOk.seen (l : List S97) (i : Nat) (s : Int) : Option S97 := (l.take i).reverse.find? (fun x => x.f0 == s)
theorem impl_NotesOk.dat_at (r : List S97) (s : Int) (z : DataW Unit) : Go.Maps.IsMap (impl_NotesOk.dat r.reverse) ∧ (impl_NotesOk.dat r.reverse).atKey (.int .i64 s) z = (match r.find? (fun x => x.f0 == s) with | some y => impl_NotesOk.dN y | none => z) ∧ Go.Maps.has (impl_NotesOk.dat r.reverse) (.int .i64 s) = (r.find? (fun x => x.f0 == s)).isSome := by
  induction r with
  | nil => exact ⟨Go.Maps.isMap_empty, rfl, rfl⟩
  | cons x r ih =>
    rw [List.reverse_cons, impl_NotesOk.dat_snoc, List.find?_cons]
    refine ⟨ih.1.put _ _, ?_, ?_⟩
    · by_cases e : x.f0 = s
      · subst e
        rw [Go.Maps.atKey_put_same ih.1 (show Go.WideAt.IsKeyLit (.int .i64 x.f0) from trivial)]
        rw [beq_self_eq_true]
        try rfl
      · rw [Go.Maps.atKey_put_other (by intro h; injection h with _ h; exact e h.symm), ih.2.1]
        have e' : (x.f0 == s) = false := by simpa using e
        rw [e']
    · by_cases e : x.f0 = s
      · subst e
        rw [Go.Maps.has_put_same ih.1 (show Go.WideAt.IsKeyLit (.int .i64 x.f0) from trivial)]
        rw [beq_self_eq_true]
        try rfl
      · rw [Go.Maps.has_put_other (by intro h; injection h with _ h; exact e h.symm), ih.2.2]
        have e' : (x.f0 == s) = false := by simpa using e
        rw [e']
theorem impl_NotesOk.look {P : Program} (w : World) {ops : Array Oper} {rest : List Oper} {o : Oper} {a : Act} {Q : Exit → Act → World → Prop} (hg : o.guard = none) (m x : Operand) (t : TypeId) (hop : o.op = Op.lookup t m x true)
    (k e : TypeId) (K : Go.Maps.Keyed P k) (ht : P.underlying t = some (.map k e)) (hz : (zeroValue e).run P w = .ok (impl_NotesOk.vN z97) w) (b n : Nat) (D : DataW Unit)
    (hm : a.eval m = .map (some b)) (hown : w.ownsMap P k impl_NotesOk.R b n D) (s : Int) (hx : a.eval x = .int .i64 s) (hkey : keyOf P k (.int .i64 s) = some (.int .i64 s)) (y : S97) (q : Bool)
    (hat : D.atKey (.int .i64 s) (impl_NotesOk.dN z97) = impl_NotesOk.dN y) (hhas : Go.Maps.has D (.int .i64 s) = q)
    (hK : wpList P ops Q rest (a.put o.dst (.tuple #[.agg #[.int .i64 y.f0, .int .i64 y.f1, .int .i64 y.f2.f0, .int .i64 y.f2.f1, .int .i64 y.f2.f2, .int .i64 y.f2.f3, .int .i64 y.f2.f4], .bool q])) w) : wpList P ops Q (o :: rest) a w :=
  wpList_lookup_own_ok w hg m x t hop k e K ht impl_NotesOk.R hz (impl_NotesOk.dN z97) [] (impl_NotesOk.R_mk _) b n D hm hown _ _ hx hkey (fun v ps hv => by
    rw [hat] at hv
    have e := impl_NotesOk.R_inv hv
    unfold impl_NotesOk.vN at e
    rw [e, hhas]
    exact hK)
def impl_NotesOk.same (y x : S97) : Bool := (y.f0 == x.f0 && (y.f1 == x.f1 && ((y.f2.f0 == x.f2.f0 && (y.f2.f1 == x.f2.f1 && (y.f2.f2 == x.f2.f2 && (y.f2.f3 == x.f2.f3 && (y.f2.f4 == x.f2.f4))))))))
def impl_NotesOk.l0 (k : Nat) (n : Int) (gs : List S71) (l : List S97) : Nat → Nat → Option Bool
  | 0, _ => some true
  | d + 1, i => (impl_noteFits.f k n gs (rd_T97 l i).f0 (rd_T97 l i).f1 (rd_T97 l i).f2.f0 (rd_T97 l i).f2.f1 (rd_T97 l i).f2.f2 (rd_T97 l i).f2.f3 (rd_T97 l i).f2.f4).bind fun b => if b = true then (if (Lit.int .i64 (rd_T97 l i).f0).wf = true then (match impl_NotesOk.seen l i (rd_T97 l i).f0 with | some y => if impl_NotesOk.same y (rd_T97 l i) = true then impl_NotesOk.l0 k n gs l d (i + 1) else some false | none => impl_NotesOk.l0 k n gs l d (i + 1)) else none) else (if (Lit.int .i64 (rd_T97 l i).f0).wf = true then some false else none)
def impl_NotesOk.f (k : Nat) (n : Int) (gs : List (S71)) (l : List (S97)) : Option (Bool) := (impl_SeasonOk.f k n gs).bind fun b => if b = true then (if l.length ≤ 80 then impl_NotesOk.l0 k n gs l l.length 0 else some false) else some false
theorem impl_NotesOk.mono_l (n : Int) (gs : List S71) (l : List S97) (k : Nat) (d : Nat) : ∀ i, LeO (impl_NotesOk.l0 k n gs l d i) (impl_NotesOk.l0 (k + 1) n gs l d i) := by
  induction d with
  | zero => intro i; exact LeO.refl _
  | succ d ih =>
    intro i
    simp only [impl_NotesOk.l0]
    refine LeO.bind (impl_noteFits.mono _ _ _ _ _ _ _ _ _ k) (fun b => ?_)
    refine LeO.ite (LeO.ite ?_ (LeO.refl _)) (LeO.refl _)
    split
    · exact LeO.ite (ih (i + 1)) (LeO.refl _)
    · exact ih (i + 1)
theorem impl_NotesOk.mono : ∀ a0 a1 a2 k, LeO (impl_NotesOk.f k a0 a1 a2) (impl_NotesOk.f (k + 1) a0 a1 a2) := fun a0 a1 a2 k =>
  LeO.bind (impl_SeasonOk.mono a0 a1 k) (fun b => LeO.ite (LeO.ite (impl_NotesOk.mono_l a0 a1 a2 k a2.length 0) (LeO.refl _)) (LeO.refl _))
set_option maxHeartbeats 8000000 in
set_option maxRecDepth 100000 in
theorem impl_NotesOk.calls (k : Nat) (a0 : Int) (A1 : Option Addr) (c1 : Nat) (l1 : List (S71)) (A2 : Option Addr) (c2 : Nat) (l2 : List (S97)) (r : Bool) (w : World) (hr1 : Kd.C k71 w A1 l1.length l1) (hc1 : l1.length ≤ c1) (hr2 : Kd.C k97 w A2 l2.length l2) (hc2 : l2.length ≤ c2) (h : impl_NotesOk.f k a0 l1 l2 = some r) :
    Calls Try.prog 78 #[.int .i64 a0, .slice A1 l1.length c1, .slice A2 l2.length c2] w fun e w' => e = .returned (.bool r) ∧ Below w.heap.size w w' := by
  obtain ⟨b, hA, h⟩ := Option.bind_eq_some_iff.mp h
  have hu90 := Try.underlying97
  have HR1 := Aside0.mk hr1
  have HC1 := Aside0.mk hc1
  have HR2 := Aside0.mk hr2
  have HA := Aside0.mk hA
  have hmax : l2.length ≤ 9223372036854775807 := hr2.2.1
  have H := Aside0.mk h
  clear hr1 hc1 hr2 hc2 hA h
  have HB0 := Aside0.mk (Below.refl w.heap.size w)
  cases b with
  | false =>
    have hr := H.out
    rw [if_neg (by simp)] at hr
    obtain rfl := Option.some.inj hr
    clear hr H
    go_enter Try.func78, Try.ntmps78
    go_wp2_with fail
    refine (impl_SeasonOk.calls k a0 A1 c1 l1 false _ HR1.out HC1.out HA.out).mono ?_
    rintro e w2 ⟨rfl, hb⟩
    have HB := Aside0.mk hb
    clear hb HB0
    go_wp2
    go_ret
    exact ⟨rfl, HB.out⟩
  | true =>
    have hr := H.out
    rw [if_pos rfl] at hr
    clear H
    by_cases h80 : l2.length ≤ 80
    · rw [if_pos h80] at hr
      have h80z : decide (80 < (l2.length : Int)) = false := decide_eq_false (by omega)
      have HH := Aside0.mk hr
      clear hr h80
      have hmm := @run_makeMap Try.prog
      go_enter Try.func78, Try.ntmps78
      go_wp2_with fail
      refine (impl_SeasonOk.calls k a0 A1 c1 l1 true _ HR1.out HC1.out HA.out).mono ?_
      rintro e w2 ⟨rfl, hb⟩
      have HB := Aside0.mk hb
      have HSZ := Aside0.mk hb.size
      clear hb HB0
      go_wp2
      go_loopg [24] l2.length (fun gk v24 w' => ∃ i : Nat, v24 = .int .i64 i ∧ Aside0 (i ≤ l2.length) ∧ Aside0 (l2.length - i ≤ gk) ∧ Aside0 (impl_NotesOk.l0 k a0 l1 l2 (l2.length - i) i = some r) ∧ Aside0 (w'.ownsMap Try.prog 3 impl_NotesOk.R w2.heap.size i (impl_NotesOk.dat (l2.take i))) ∧ Aside0 (Below w.heap.size w w'))
      case atStart => exact ⟨0, rfl, ⟨Nat.zero_le _⟩, ⟨by omega⟩, HH, ⟨World.ownsMap_made _ _ _ _⟩, ⟨(HB.out.alloc HSZ.out _)⟩⟩
      case round =>
        obtain ⟨i, rfl, HI, HG, HS, HM, HB⟩ := hrel
        clear HH
        by_cases hlt : i < l2.length
        · have hltz : decide ((i : Int) < (l2.length : Int)) = true := decide_eq_true (by omega)
          have H := HS.out
          rw [show l2.length - i = (l2.length - (i + 1)) + 1 by omega] at H
          simp only [impl_NotesOk.l0] at H
          obtain ⟨ad, ea, hx0, hx1, hx2, hx3, hx4, hx5, hx6⟩ := at_T97 HR2.out (i : Int) (by omega) (by omega)
          cases ea
          rw [Int.toNat_natCast] at hx0 hx1 hx2 hx3 hx4 hx5 hx6
          have HY : Aside0 (l2[i]? = some (rd_T97 l2 i)) := ⟨by rw [List.getElem?_eq_getElem hlt]; simp [rd_T97, List.getD_eq_getElem?_getD, hlt]⟩
          generalize hx : rd_T97 l2 i = x at H HY hx0 hx1 hx2 hx3 hx4 hx5 hx6
          clear hx
          have up : ∀ (a : Addr) (v : Value), w.cell? a = some v → wr.cell? a = some v := fun a v h => (HB.out.cell (World.block_lt_of_cell? w _ h)).trans h
          replace hx0 := up _ _ hx0; replace hx1 := up _ _ hx1; replace hx2 := up _ _ hx2; replace hx3 := up _ _ hx3; replace hx4 := up _ _ hx4; replace hx5 := up _ _ hx5; replace hx6 := up _ _ hx6
          clear up
          have h0 : decide (0 ≤ (i : Int)) = true := decide_eq_true (by omega)
          obtain ⟨b, A1_, H⟩ := Option.bind_eq_some_iff.mp H
          have A := Aside0.mk A1_
          clear A1_ HS
          have hwf : (Lit.int .i64 x.f0).wf = true := by
            by_cases hw : (Lit.int .i64 x.f0).wf = true
            · exact hw
            · cases b <;> simp [hw] at H
          have hdat := impl_NotesOk.dat_at (l2.take i).reverse x.f0 (impl_NotesOk.dN z97)
          rw [List.reverse_reverse] at hdat
          have hkey : keyOf Try.prog 3 (.int .i64 x.f0) = some (.int .i64 x.f0) := Go.Maps.keyOf_int_mk Try.underlying3 hwf
          rw [if_pos hwf, if_pos hwf] at H
          have HK := Aside0.mk hkey
          have HD := Aside0.mk hdat.2
          have HSN := Aside0.mk H
          clear H hkey hdat hwf
          have HSEEN : Aside0 (∃ (y : S97) (q : Bool), (impl_NotesOk.dat (l2.take i)).atKey (.int .i64 x.f0) (impl_NotesOk.dN z97) = impl_NotesOk.dN y ∧ Go.Maps.has (impl_NotesOk.dat (l2.take i)) (.int .i64 x.f0) = q ∧ ((q = true ∧ impl_NotesOk.seen l2 i x.f0 = some y) ∨ (q = false ∧ impl_NotesOk.seen l2 i x.f0 = none))) := ⟨by
            have h1 := HD.out
            unfold impl_NotesOk.seen
            cases hs : (l2.take i).reverse.find? (fun x_1 => x_1.f0 == x.f0) with
            | some y => rw [hs] at h1; exact ⟨y, true, h1.1, h1.2, .inl ⟨rfl, rfl⟩⟩
            | none => rw [hs] at h1; exact ⟨z97, false, h1.1, h1.2, .inr ⟨rfl, rfl⟩⟩⟩
          obtain ⟨y, q, hat_, hhas_, hcase⟩ := HSEEN.out
          have HAT := Aside0.mk hat_
          have HHAS := Aside0.mk hhas_
          have HCASE := Aside0.mk hcase
          clear hat_ hhas_ hcase HSEEN HD
          cases b with
          | false =>
            have H := HSN.out
            rw [if_neg (by simp)] at H
            obtain rfl := Option.some.inj H
            clear H HSN HCASE
            go_wp2_with (first | (at_lookup; refine impl_NotesOk.look _ rfl _ _ 137 rfl 3 97 (Go.Maps.int_keyed Try.underlying3) Try.underlying137 (Try.zeroValue97 _) w2.heap.size i _ rfl (HM.out.alloc _) x.f0 rfl HK.out y q HAT.out HHAS.out ?_) | fail)
            refine (impl_noteFits.calls k a0 A1 c1 l1 x.f0 x.f1 x.f2.f0 x.f2.f1 x.f2.f2 x.f2.f3 x.f2.f4 false _ (Kd.C_below HR1.out (below_alloc (below_alloc HB.out _) _)) HC1.out A.out).mono ?_
            rintro e w12 ⟨rfl, hb⟩
            have n1_ := Aside0.mk (show Below w.heap.size w w12 from below_then (below_alloc (below_alloc HB.out _) _) (below_size (below_alloc (below_alloc HB.out _) _)) hb)
            have n2_ := Aside0.mk (show w12.ownsMap Try.prog 3 impl_NotesOk.R w2.heap.size i (impl_NotesOk.dat (l2.take i)) from ((HM.out.alloc _).alloc _).kept (grown_of_below hb none) (by simp))
            have BX := Aside0.mk (blk_below (blk_alloc (blk_new wr _) _) hb)
            have BY := Aside0.mk (blk_below (blk_new2 wr _ _) hb)
            clear hb HB HM
            have HB := n1_
            have HM := n2_
            clear n1_ n2_
            clear BX BY
            go_wp2
            go_ret
            exact ⟨rfl, HB.out⟩
          | true =>
            have H := HSN.out
            rw [if_pos rfl] at H
            rcases HCASE.out with ⟨hq, hs⟩ | ⟨hq, hs⟩
            · subst hq
              rw [hs] at H
              simp only [] at H
              by_cases hsame : impl_NotesOk.same y x = true
              · rw [if_pos hsame] at H
                have HNX := Aside0.mk H
                clear H HSN HCASE hs
                have HSM := Aside0.mk hsame
                clear hsame
                go_wp2_with (first | (at_lookup; refine impl_NotesOk.look _ rfl _ _ 137 rfl 3 97 (Go.Maps.int_keyed Try.underlying3) Try.underlying137 (Try.zeroValue97 _) w2.heap.size i _ rfl (HM.out.alloc _) x.f0 rfl HK.out y true HAT.out HHAS.out ?_) | fail)
                refine (impl_noteFits.calls k a0 A1 c1 l1 x.f0 x.f1 x.f2.f0 x.f2.f1 x.f2.f2 x.f2.f3 x.f2.f4 true _ (Kd.C_below HR1.out (below_alloc (below_alloc HB.out _) _)) HC1.out A.out).mono ?_
                rintro e w12 ⟨rfl, hb⟩
                have n1_ := Aside0.mk (show Below w.heap.size w w12 from below_then (below_alloc (below_alloc HB.out _) _) (below_size (below_alloc (below_alloc HB.out _) _)) hb)
                have n2_ := Aside0.mk (show w12.ownsMap Try.prog 3 impl_NotesOk.R w2.heap.size i (impl_NotesOk.dat (l2.take i)) from ((HM.out.alloc _).alloc _).kept (grown_of_below hb none) (by simp))
                have BX := Aside0.mk (blk_below (blk_alloc (blk_new wr _) _) hb)
                have BY := Aside0.mk (blk_below (blk_new2 wr _ _) hb)
                clear hb HB HM
                have HB := n1_
                have HM := n2_
                clear n1_ n2_
                have hcx_0 : w12.cell? ⟨wr.heap.size, 0, none⟩ = some (.int .i64 x.f0) := (blk_cell BX.out 0).trans rfl
                have hcy_0 : w12.cell? ⟨wr.heap.size + 1, 0, none⟩ = some (.int .i64 y.f0) := (blk_cell BY.out 0).trans rfl
                have hcx_1 : w12.cell? ⟨wr.heap.size, 1, none⟩ = some (.int .i64 x.f1) := (blk_cell BX.out 1).trans rfl
                have hcy_1 : w12.cell? ⟨wr.heap.size + 1, 1, none⟩ = some (.int .i64 y.f1) := (blk_cell BY.out 1).trans rfl
                have hcx_2 : w12.cell? ⟨wr.heap.size, 2, none⟩ = some (.int .i64 x.f2.f0) := (blk_cell BX.out 2).trans rfl
                have hcy_2 : w12.cell? ⟨wr.heap.size + 1, 2, none⟩ = some (.int .i64 y.f2.f0) := (blk_cell BY.out 2).trans rfl
                have hcx_3 : w12.cell? ⟨wr.heap.size, 3, none⟩ = some (.int .i64 x.f2.f1) := (blk_cell BX.out 3).trans rfl
                have hcy_3 : w12.cell? ⟨wr.heap.size + 1, 3, none⟩ = some (.int .i64 y.f2.f1) := (blk_cell BY.out 3).trans rfl
                have hcx_4 : w12.cell? ⟨wr.heap.size, 4, none⟩ = some (.int .i64 x.f2.f2) := (blk_cell BX.out 4).trans rfl
                have hcy_4 : w12.cell? ⟨wr.heap.size + 1, 4, none⟩ = some (.int .i64 y.f2.f2) := (blk_cell BY.out 4).trans rfl
                have hcx_5 : w12.cell? ⟨wr.heap.size, 5, none⟩ = some (.int .i64 x.f2.f3) := (blk_cell BX.out 5).trans rfl
                have hcy_5 : w12.cell? ⟨wr.heap.size + 1, 5, none⟩ = some (.int .i64 y.f2.f3) := (blk_cell BY.out 5).trans rfl
                have hcx_6 : w12.cell? ⟨wr.heap.size, 6, none⟩ = some (.int .i64 x.f2.f4) := (blk_cell BX.out 6).trans rfl
                have hcy_6 : w12.cell? ⟨wr.heap.size + 1, 6, none⟩ = some (.int .i64 y.f2.f4) := (blk_cell BY.out 6).trans rfl
                have hsm := HSM.out
                unfold impl_NotesOk.same at hsm
                go_wp2_with (first | (at_mapUpdate; refine wpList_mapUpdate_own _ rfl _ _ _ 137 rfl 3 97 (Go.Maps.int_keyed Try.underlying3) Try.underlying137 impl_NotesOk.R w2.heap.size i _ rfl HM.out (by unfold maxLen; omega) _ _ _ rfl rfl HK.out _ [] (impl_NotesOk.R_mk x) ?_; intro w1 hown1 hgrow1; have HM1 := Aside0.mk hown1; have HG1 := Aside0.mk hgrow1; clear hown1 hgrow1))
                go_roundg (l2.length - (i + 1))
                case measure => have := HG.out; omega
                case rel => exact ⟨i + 1, by go_num, ⟨by omega⟩, ⟨Nat.le_refl _⟩, HNX, ⟨by rw [List.take_add_one, HY.out]; show World.ownsMap _ _ _ _ _ _ (impl_NotesOk.dat (l2.take i ++ [x])); rw [impl_NotesOk.dat_snoc]; exact HM1.out⟩, ⟨HB.out.grown HG1.out HB.out.size (fun j hj => by injection hj with hj; rw [← hj]; exact HSZ.out)⟩⟩
              · rw [if_neg hsame] at H
                obtain rfl := Option.some.inj H
                clear H HSN HCASE hs
                have HSM := Aside0.mk (Bool.eq_false_iff.mpr hsame)
                clear hsame
                go_wp2_with (first | (at_lookup; refine impl_NotesOk.look _ rfl _ _ 137 rfl 3 97 (Go.Maps.int_keyed Try.underlying3) Try.underlying137 (Try.zeroValue97 _) w2.heap.size i _ rfl (HM.out.alloc _) x.f0 rfl HK.out y true HAT.out HHAS.out ?_) | fail)
                refine (impl_noteFits.calls k a0 A1 c1 l1 x.f0 x.f1 x.f2.f0 x.f2.f1 x.f2.f2 x.f2.f3 x.f2.f4 true _ (Kd.C_below HR1.out (below_alloc (below_alloc HB.out _) _)) HC1.out A.out).mono ?_
                rintro e w12 ⟨rfl, hb⟩
                have n1_ := Aside0.mk (show Below w.heap.size w w12 from below_then (below_alloc (below_alloc HB.out _) _) (below_size (below_alloc (below_alloc HB.out _) _)) hb)
                have n2_ := Aside0.mk (show w12.ownsMap Try.prog 3 impl_NotesOk.R w2.heap.size i (impl_NotesOk.dat (l2.take i)) from ((HM.out.alloc _).alloc _).kept (grown_of_below hb none) (by simp))
                have BX := Aside0.mk (blk_below (blk_alloc (blk_new wr _) _) hb)
                have BY := Aside0.mk (blk_below (blk_new2 wr _ _) hb)
                clear hb HB HM
                have HB := n1_
                have HM := n2_
                clear n1_ n2_
                have hcx_0 : w12.cell? ⟨wr.heap.size, 0, none⟩ = some (.int .i64 x.f0) := (blk_cell BX.out 0).trans rfl
                have hcy_0 : w12.cell? ⟨wr.heap.size + 1, 0, none⟩ = some (.int .i64 y.f0) := (blk_cell BY.out 0).trans rfl
                have hcx_1 : w12.cell? ⟨wr.heap.size, 1, none⟩ = some (.int .i64 x.f1) := (blk_cell BX.out 1).trans rfl
                have hcy_1 : w12.cell? ⟨wr.heap.size + 1, 1, none⟩ = some (.int .i64 y.f1) := (blk_cell BY.out 1).trans rfl
                have hcx_2 : w12.cell? ⟨wr.heap.size, 2, none⟩ = some (.int .i64 x.f2.f0) := (blk_cell BX.out 2).trans rfl
                have hcy_2 : w12.cell? ⟨wr.heap.size + 1, 2, none⟩ = some (.int .i64 y.f2.f0) := (blk_cell BY.out 2).trans rfl
                have hcx_3 : w12.cell? ⟨wr.heap.size, 3, none⟩ = some (.int .i64 x.f2.f1) := (blk_cell BX.out 3).trans rfl
                have hcy_3 : w12.cell? ⟨wr.heap.size + 1, 3, none⟩ = some (.int .i64 y.f2.f1) := (blk_cell BY.out 3).trans rfl
                have hcx_4 : w12.cell? ⟨wr.heap.size, 4, none⟩ = some (.int .i64 x.f2.f2) := (blk_cell BX.out 4).trans rfl
                have hcy_4 : w12.cell? ⟨wr.heap.size + 1, 4, none⟩ = some (.int .i64 y.f2.f2) := (blk_cell BY.out 4).trans rfl
                have hcx_5 : w12.cell? ⟨wr.heap.size, 5, none⟩ = some (.int .i64 x.f2.f3) := (blk_cell BX.out 5).trans rfl
                have hcy_5 : w12.cell? ⟨wr.heap.size + 1, 5, none⟩ = some (.int .i64 y.f2.f3) := (blk_cell BY.out 5).trans rfl
                have hcx_6 : w12.cell? ⟨wr.heap.size, 6, none⟩ = some (.int .i64 x.f2.f4) := (blk_cell BX.out 6).trans rfl
                have hcy_6 : w12.cell? ⟨wr.heap.size + 1, 6, none⟩ = some (.int .i64 y.f2.f4) := (blk_cell BY.out 6).trans rfl
                have hsm := HSM.out
                unfold impl_NotesOk.same at hsm
                go_wp2
                go_ret
                exact ⟨rfl, HB.out⟩
            · subst hq
              rw [hs] at H
              simp only [] at H
              have HNX := Aside0.mk H
              clear H HSN HCASE hs
              go_wp2_with (first | (at_lookup; refine impl_NotesOk.look _ rfl _ _ 137 rfl 3 97 (Go.Maps.int_keyed Try.underlying3) Try.underlying137 (Try.zeroValue97 _) w2.heap.size i _ rfl (HM.out.alloc _) x.f0 rfl HK.out y false HAT.out HHAS.out ?_) | fail)
              refine (impl_noteFits.calls k a0 A1 c1 l1 x.f0 x.f1 x.f2.f0 x.f2.f1 x.f2.f2 x.f2.f3 x.f2.f4 true _ (Kd.C_below HR1.out (below_alloc (below_alloc HB.out _) _)) HC1.out A.out).mono ?_
              rintro e w12 ⟨rfl, hb⟩
              have n1_ := Aside0.mk (show Below w.heap.size w w12 from below_then (below_alloc (below_alloc HB.out _) _) (below_size (below_alloc (below_alloc HB.out _) _)) hb)
              have n2_ := Aside0.mk (show w12.ownsMap Try.prog 3 impl_NotesOk.R w2.heap.size i (impl_NotesOk.dat (l2.take i)) from ((HM.out.alloc _).alloc _).kept (grown_of_below hb none) (by simp))
              have BX := Aside0.mk (blk_below (blk_alloc (blk_new wr _) _) hb)
              have BY := Aside0.mk (blk_below (blk_new2 wr _ _) hb)
              clear hb HB HM
              have HB := n1_
              have HM := n2_
              clear n1_ n2_
              have hcx_0 : w12.cell? ⟨wr.heap.size, 0, none⟩ = some (.int .i64 x.f0) := (blk_cell BX.out 0).trans rfl
              have hcy_0 : w12.cell? ⟨wr.heap.size + 1, 0, none⟩ = some (.int .i64 y.f0) := (blk_cell BY.out 0).trans rfl
              have hcx_1 : w12.cell? ⟨wr.heap.size, 1, none⟩ = some (.int .i64 x.f1) := (blk_cell BX.out 1).trans rfl
              have hcy_1 : w12.cell? ⟨wr.heap.size + 1, 1, none⟩ = some (.int .i64 y.f1) := (blk_cell BY.out 1).trans rfl
              have hcx_2 : w12.cell? ⟨wr.heap.size, 2, none⟩ = some (.int .i64 x.f2.f0) := (blk_cell BX.out 2).trans rfl
              have hcy_2 : w12.cell? ⟨wr.heap.size + 1, 2, none⟩ = some (.int .i64 y.f2.f0) := (blk_cell BY.out 2).trans rfl
              have hcx_3 : w12.cell? ⟨wr.heap.size, 3, none⟩ = some (.int .i64 x.f2.f1) := (blk_cell BX.out 3).trans rfl
              have hcy_3 : w12.cell? ⟨wr.heap.size + 1, 3, none⟩ = some (.int .i64 y.f2.f1) := (blk_cell BY.out 3).trans rfl
              have hcx_4 : w12.cell? ⟨wr.heap.size, 4, none⟩ = some (.int .i64 x.f2.f2) := (blk_cell BX.out 4).trans rfl
              have hcy_4 : w12.cell? ⟨wr.heap.size + 1, 4, none⟩ = some (.int .i64 y.f2.f2) := (blk_cell BY.out 4).trans rfl
              have hcx_5 : w12.cell? ⟨wr.heap.size, 5, none⟩ = some (.int .i64 x.f2.f3) := (blk_cell BX.out 5).trans rfl
              have hcy_5 : w12.cell? ⟨wr.heap.size + 1, 5, none⟩ = some (.int .i64 y.f2.f3) := (blk_cell BY.out 5).trans rfl
              have hcx_6 : w12.cell? ⟨wr.heap.size, 6, none⟩ = some (.int .i64 x.f2.f4) := (blk_cell BX.out 6).trans rfl
              have hcy_6 : w12.cell? ⟨wr.heap.size + 1, 6, none⟩ = some (.int .i64 y.f2.f4) := (blk_cell BY.out 6).trans rfl
              go_wp2_with (first | (at_mapUpdate; refine wpList_mapUpdate_own _ rfl _ _ _ 137 rfl 3 97 (Go.Maps.int_keyed Try.underlying3) Try.underlying137 impl_NotesOk.R w2.heap.size i _ rfl HM.out (by unfold maxLen; omega) _ _ _ rfl rfl HK.out _ [] (impl_NotesOk.R_mk x) ?_; intro w1 hown1 hgrow1; have HM1 := Aside0.mk hown1; have HG1 := Aside0.mk hgrow1; clear hown1 hgrow1))
              go_roundg (l2.length - (i + 1))
              case measure => have := HG.out; omega
              case rel => exact ⟨i + 1, by go_num, ⟨by omega⟩, ⟨Nat.le_refl _⟩, HNX, ⟨by rw [List.take_add_one, HY.out]; show World.ownsMap _ _ _ _ _ _ (impl_NotesOk.dat (l2.take i ++ [x])); rw [impl_NotesOk.dat_snoc]; exact HM1.out⟩, ⟨HB.out.grown HG1.out HB.out.size (fun j hj => by injection hj with hj; rw [← hj]; exact HSZ.out)⟩⟩
        · have hltz : decide ((i : Int) < (l2.length : Int)) = false := decide_eq_false (by omega)
          have hi : l2.length - i = 0 := by omega
          have H := HS.out
          rw [hi] at H
          simp only [impl_NotesOk.l0] at H
          obtain rfl := Option.some.inj H
          clear H hi HS
          go_wp2
          go_ret
          exact ⟨rfl, HB.out⟩
    · rw [if_neg h80] at hr
      obtain rfl := Option.some.inj hr
      have h80z : decide (80 < (l2.length : Int)) = true := decide_eq_true (by omega)
      clear hr h80
      go_enter Try.func78, Try.ntmps78
      go_wp2_with fail
      refine (impl_SeasonOk.calls k a0 A1 c1 l1 true _ HR1.out HC1.out HA.out).mono ?_
      rintro e w2 ⟨rfl, hb⟩
      have HB := Aside0.mk hb
      clear hb HB0
      go_wp2
      go_ret
      exact ⟨rfl, HB.out⟩

/-! ### impl_Game_79: function 79 -/
set_option maxHeartbeats 2000000 in
/-- slices.Clone at structs. -/
theorem impl_Game_79_c.calls (A0 : Option Addr) (c0 : Nat) (l0 : List S71) (w : World) (hr0 : Kd.C k71 w A0 l0.length l0) (hlen : l0.length * 40 ≤ 140737488355328) :
    Calls Try.prog 79 #[.slice A0 l0.length c0] w fun e w' => ∃ v0_ : Value, e = .returned (v0_) ∧ Kd.R k71 71 w' w.heap.size (fun _ => True) v0_ l0 ∧ Below w.heap.size w w' := by
  have hu90 := Try.underlying71
  have q22 : ∀ (w : World) (a : Option Addr) (n c n' c' : Nat), (binOp .eql 44 (.slice a n c) (.slice none n' c')).run Try.prog w = .ok (.bool a.isNone) w := fun w a n c n' c' => Lib.run_eql_slice_nil w _ _ a n c n' c' Try.underlying44
  have HR0 := Aside0.mk hr0
  have HL := Aside0.mk hlen
  cases A0 with
  | none =>
    have h0 : l0 = [] := by
      rcases Nat.eq_zero_or_pos l0.length with h | h
      · exact List.eq_nil_of_length_eq_zero h
      · obtain ⟨ad, h1, _⟩ := hr0.2.2 h
        cases h1
    subst h0
    clear hr0 hlen HR0 HL
    go_enter Try.func79, Try.ntmps79
    go_wp2
    go_ret
    exact ⟨_, rfl, Kd.R_nil _ _ _ _ _, Below.refl _ _⟩
  | some ad =>
    clear hr0 hlen
    have HB := Aside0.mk (Below.refl w.heap.size w)
    go_enter Try.func79, Try.ntmps79
    go_wp2_with (first | ((with_reducible refine gate_dst (N := 5) rfl ?_); refine Kd.R_lit k71 _ 71 ?hg (N := 5) ?hd (xs := ([] : List (S71))) (inner := []) (ok := fun _ => True) (okp := fun _ => True) ?hr ?hp (fun _ hk => hk) trivial (Below.refl _ _) (Nat.le_refl _) (by simp) ?_; (case hd => rfl); (case hg => rfl); (case hr => first | (go_simp; done) | (go_simp; rfl)); (case hp => exact (Reps.none _ _)); intro v130 w2 ho3 hb hg_ hnew_; clear hg_ hnew_; have HO := Aside0.mk ho3; clear HB; have HB := Aside0.mk hb; clear ho3 hb) | ((with_reducible refine gate_builtin (b := .append) (xs := #[.tmp 5, .tmp 6]) rfl ?_); at_builtin; refine Kd.R_append_rows k71 (w0 := w) w.heap.size rfl (.tmp 5) (.tmp 6) 44 71 (.agg #[(.int .i64 0), (.int .i64 0), (.int .i64 0), (.int .i64 0), (.int .i64 0)]) 40 rfl Try.underlying44 info71 rfl (by decide) (by omega) v130 ([] : List (S71)) l0 _ _ _ (fun _ => True) (fun _ => False) rfl rfl ?aO ?aR (fun _ _ h => h) (fun _ h => h.elim) ?aF ?aB ?aS ?aL ?_; (case aR => exact (Kd.C_below HR0.out HB.out)); (case aB => exact HB.out); (case aF => exact (fun _ _ => trivial)); (case aO => exact HO.out); (case aS => exact (below_size HB.out)); (case aL => have := HL.out; simpa using this); intro v202 w11 ho hb hg hat; clear HB HO; have HB := Aside0.mk hb; have HO := Aside0.mk ho; clear ho hb hg hat))
    go_ret
    exact ⟨_, rfl, by have := HO.out; rwa [List.nil_append] at this, HB.out⟩
def impl_Game_79.f (l0 : List S71) : Option (List S71) := if l0.length * 40 ≤ 140737488355328 then some l0 else none
theorem impl_Game_79.calls (A0 : Option Addr) (c0 : Nat) (l0 : List (S71)) (r : List (S71)) (w : World) (hr0 : Kd.C k71 w A0 l0.length l0) (hc0 : l0.length ≤ c0) (h : impl_Game_79.f l0 = some r) :
    Calls Try.prog 79 #[.slice A0 l0.length c0] w fun e w' => ∃ v0_ : Value, e = .returned (v0_) ∧ Kd.R k71 71 w' w.heap.size (fun _ => True) v0_ r ∧ Below w.heap.size w w' := by
  unfold impl_Game_79.f at h
  by_cases hlen : l0.length * 40 ≤ 140737488355328
  · rw [if_pos hlen] at h
    obtain rfl := Option.some.inj h
    exact impl_Game_79_c.calls A0 c0 l0 w hr0 hlen
  · rw [if_neg hlen] at h; cases h

/-! ### impl_ApplyNotes: function 28 -/
def impl_ApplyNotes.l0 : Nat → List (S71) → List (S97) → Int → Int → Option ((List (S71)) × Bool)
  | 0, _, _, _, _ => none
  | k + 1, x8, x19, x20, x21 => if x21 < x20 then (if 0 ≤ x21 then (if x21 < (x19.length : Int) then (if 0 ≤ ((rd_T97 x19 x21).f1) then (if ((rd_T97 x19 x21).f1) < (x8.length : Int) then (impl_ApplyNotes.l0 k (x8.set (((rd_T97 x19 x21).f1) : Int).toNat (⟨(rd_T97 x19 x21).f2.f0, (rd_T97 x19 x21).f2.f1, (rd_T97 x19 x21).f2.f2, (rd_T97 x19 x21).f2.f3, (rd_T97 x19 x21).f2.f4⟩ : S71)) x19 x20 (wrap64 (x21 + 1))) else (none)) else (none)) else (none)) else (none)) else (some (x8, true))
def impl_ApplyNotes.f (k : Nat) (a0 : Int) (l1 : List (S71)) (l2 : List (S97)) : Option ((List (S71)) × Bool) := (impl_NotesOk.f k a0 l1 l2).bind fun t229 => (if t229 = true then ((impl_Game_79.f l1).bind fun t230 => ((impl_CanonNotes.f l2).bind fun t233 => (impl_ApplyNotes.l0 k t230 t233 (t233.length : Int) 0))) else (some (([] : List (S71)), false)))
theorem impl_ApplyNotes.mono_l : ∀ k, (∀ y0 y1 y2 y3, LeO (impl_ApplyNotes.l0 k y0 y1 y2 y3) (impl_ApplyNotes.l0 (k + 1) y0 y1 y2 y3))
  | 0 => fun _ _ _ _ r h => by simp [impl_ApplyNotes.l0] at h
  | k + 1 => by
    have ih0 := impl_ApplyNotes.mono_l k
    · intro y0 y1 y2 y3
      unfold impl_ApplyNotes.l0
      repeat' first
      | (with_reducible exact ih0 _ _ _ _)
      | (with_reducible exact impl_NotesOk.mono _ _ _ _)
      | (with_reducible exact LeO.refl _)
      | (with_reducible exact LeO.none _)
      | (with_reducible refine LeO.ite ?_ ?_)
      | (with_reducible refine LeO.bind ?_ (fun _ => ?_))
      | exact ih0 _ _ _ _
      | exact impl_NotesOk.mono _ _ _ _
      | exact LeO.none _
      | refine LeO.ite ?_ ?_
      | refine LeO.bind ?_ (fun _ => ?_)
theorem impl_ApplyNotes.mono : ∀ a0 a1 a2 k, LeO (impl_ApplyNotes.f k a0 a1 a2) (impl_ApplyNotes.f (k + 1) a0 a1 a2) := by
  intro a0 a1 a2 k
  have ih0 := impl_ApplyNotes.mono_l k
  unfold impl_ApplyNotes.f
  repeat' first
      | (with_reducible exact ih0 _ _ _ _)
      | (with_reducible exact impl_NotesOk.mono _ _ _ _)
      | (with_reducible exact LeO.refl _)
      | (with_reducible exact LeO.none _)
      | (with_reducible refine LeO.ite ?_ ?_)
      | (with_reducible refine LeO.bind ?_ (fun _ => ?_))
      | exact ih0 _ _ _ _
      | exact impl_NotesOk.mono _ _ _ _
      | exact LeO.none _
      | refine LeO.ite ?_ ?_
      | refine LeO.bind ?_ (fun _ => ?_)
set_option maxHeartbeats 8000000 in
set_option maxRecDepth 100000 in
theorem impl_ApplyNotes.calls (k : Nat) (a0 : Int) (A1 : Option Addr) (c1 : Nat) (l1 : List (S71)) (A2 : Option Addr) (c2 : Nat) (l2 : List (S97)) (r1 : List (S71)) (r2 : Bool) (w : World) (hr1 : Kd.C k71 w A1 l1.length l1) (hc1 : l1.length ≤ c1) (hr2 : Kd.C k97 w A2 l2.length l2) (hc2 : l2.length ≤ c2) (h : impl_ApplyNotes.f k a0 l1 l2 = some (r1, r2)) :
    Calls Try.prog 28 #[.int .i64 a0, .slice A1 l1.length c1, .slice A2 l2.length c2] w fun e w' => ∃ v0_ : Value, e = .returned (.tuple #[v0_, .bool r2]) ∧ Kd.R k71 71 w' w.heap.size (fun _ => True) v0_ r1 ∧ Below w.heap.size w w' := by
  have hu97 := Try.underlying97
  have hu71 := Try.underlying71
  have HR1 := Aside0.mk hr1
  have HC1 := Aside0.mk hc1
  clear hr1 hc1
  have HR2 := Aside0.mk hr2
  have HC2 := Aside0.mk hc2
  clear hr2 hc2
  have HB := Aside0.mk (Below.refl w.heap.size w)
  have H : ((impl_NotesOk.f k a0 l1 l2).bind fun t229 => (if t229 = true then ((impl_Game_79.f l1).bind fun t230 => ((impl_CanonNotes.f l2).bind fun t233 => (impl_ApplyNotes.l0 k t230 t233 (t233.length : Int) 0))) else (some (([] : List (S71)), false)))) = some (r1, r2) := h
  clear h
  replace H := Option.bind_eq_some_iff.mp H
  obtain ⟨t229, A40, H⟩ := H
  replace H : (if t229 = true then ((impl_Game_79.f l1).bind fun t230 => ((impl_CanonNotes.f l2).bind fun t233 => (impl_ApplyNotes.l0 k t230 t233 (t233.length : Int) 0))) else (some (([] : List (S71)), false))) = some (r1, r2) := H
  have A4 := Aside0.mk A40
  clear A40
  by_cases c5 : t229 = true
  · subst c5
    have H1 : ((impl_Game_79.f l1).bind fun t230 => ((impl_CanonNotes.f l2).bind fun t233 => (impl_ApplyNotes.l0 k t230 t233 (t233.length : Int) 0))) = some (r1, r2) := by rw [if_pos rfl] at H; exact H
    clear H
    have H := H1
    clear H1
    replace H := Option.bind_eq_some_iff.mp H
    obtain ⟨t230, A60, H⟩ := H
    replace H : ((impl_CanonNotes.f l2).bind fun t233 => (impl_ApplyNotes.l0 k t230 t233 (t233.length : Int) 0)) = some (r1, r2) := H
    have A6 := Aside0.mk A60
    clear A60
    replace H := Option.bind_eq_some_iff.mp H
    obtain ⟨t233, A70, H⟩ := H
    replace H : (impl_ApplyNotes.l0 k t230 t233 (t233.length : Int) 0) = some (r1, r2) := H
    have A7 := Aside0.mk A70
    clear A70
    have H' := Aside0.mk H
    clear H
    go_enter Try.func28, Try.ntmps28
    go_wp2_with (first | ((with_reducible refine gate_callee (f := 78) rfl ?_); refine goesL_ (some 14) rfl rfl Try.func78 (by kernel_rfl) rfl #[.int .i64 a0, .slice A1 l1.length c1, .slice A2 l2.length c2] rfl (by (try simp only [List.map_toArray, List.map_cons, List.map_nil]); first | done | rfl | (simp only [List.length_drop, List.length_take]; rfl)) ?_; (with_reducible refine (impl_NotesOk.calls k a0 _ _ l1 _ _ l2 true _ ?side1 ?side2 ?side3 ?side4 A4.out).mono ?_); (case side1 => repeat (first | exact HR1.out | (with_reducible refine Kd.C_alloc ?_ _) | (with_reducible refine Kd.C_drewN ?_ _) | (with_reducible refine Kd.C_drew ?_))); (case side2 => exact HC1.out); (case side3 => repeat (first | exact HR2.out | (with_reducible refine Kd.C_alloc ?_ _) | (with_reducible refine Kd.C_drewN ?_ _) | (with_reducible refine Kd.C_drew ?_))); (case side4 => exact HC2.out); rintro e w8 ⟨rfl, hb⟩; refine ⟨_, rfl, ?_⟩; have n0_ := Aside0.mk (below_step (by repeat (first | (with_reducible first | exact HB.out | apply below_alloc | apply pw_below_drewN | apply below_drew1) | exact HB.out)) hb); clear HB; have HB := n0_; clear n0_; (try clear hb); (try clear hb2); (try clear hk); (try clear hi)) | ((with_reducible refine gate_callee (f := 79) rfl ?_); refine goesL_ (some 17) rfl rfl Try.func79 (by kernel_rfl) rfl #[.slice A1 l1.length c1] rfl (by (try simp only [List.map_toArray, List.map_cons, List.map_nil]); first | done | rfl | (simp only [List.length_drop, List.length_take]; rfl)) ?_; (with_reducible refine (impl_Game_79.calls _ _ l1 t230 _ ?side1 ?side2 A6.out).mono ?_); (case side1 => repeat (first | exact (Kd.C_below HR1.out HB.out) | (with_reducible refine Kd.C_alloc ?_ _) | (with_reducible refine Kd.C_drewN ?_ _) | (with_reducible refine Kd.C_drew ?_))); (case side2 => exact HC1.out); rintro e w9 ⟨v231, rfl, ho0, hb⟩; refine ⟨_, rfl, ?_⟩; have n0_ := Aside0.mk (Kd.R_lower ho0 (below_size (by repeat (first | (with_reducible first | exact HB.out | apply below_alloc | apply pw_below_drewN | apply below_drew1) | exact HB.out)))); have n1_ := Aside0.mk (below_step (by repeat (first | (with_reducible first | exact HB.out | apply below_alloc | apply pw_below_drewN | apply below_drew1) | exact HB.out)) hb); clear HB; have HO232 := n0_; have HB := n1_; clear n0_ n1_; (try clear hb); (try clear hb2); (try clear hk); (try clear hi); (try clear ho0)) | ((with_reducible refine gate_callee (f := 21) rfl ?_); refine goesL_ (some 19) rfl rfl Try.func21 (by kernel_rfl) rfl #[.slice A2 l2.length c2] rfl (by (try simp only [List.map_toArray, List.map_cons, List.map_nil]); first | done | rfl | (simp only [List.length_drop, List.length_take]; rfl)) ?_; (with_reducible refine (impl_CanonNotes.calls _ _ l2 t233 _ ?side1 ?side2 A7.out).mono ?_); (case side1 => repeat (first | exact (Kd.C_below HR2.out HB.out) | (with_reducible refine Kd.C_alloc ?_ _) | (with_reducible refine Kd.C_drewN ?_ _) | (with_reducible refine Kd.C_drew ?_))); (case side2 => exact HC2.out); rintro e w10 ⟨v234, rfl, ho0, hb⟩; refine ⟨_, rfl, ?_⟩; have n0_ := Aside0.mk (Kd.R_below (by (with_reducible repeat (first | apply Kd.R_alloc | apply Kd.R_drewN | apply Kd.R_drew)); exact HO232.out) hb); have n1_ := Aside0.mk (Kd.R_lower ho0 (below_size (by repeat (first | (with_reducible first | exact HB.out | apply below_alloc | apply pw_below_drewN | apply below_drew1) | exact HB.out)))); have n2_ := Aside0.mk (below_step (by repeat (first | (with_reducible first | exact HB.out | apply below_alloc | apply pw_below_drewN | apply below_drew1) | exact HB.out)) hb); clear HO232; clear HB; have HO232 := n0_; have HO235 := n1_; have HB := n2_; clear n0_ n1_ n2_; (try clear hb); (try clear hb2); (try clear hk); (try clear hi); (try clear ho0); obtain ⟨Ao11, co11, eo11⟩ := Kd.R_slice HO235.out; subst eo11))
    go_loopg [21] k (fun kq v21 w' => ∃ (x8_1 : List (S71)) (x21_1 : Int), v21 = .int .i64 x21_1 ∧ Aside0 (impl_ApplyNotes.l0 kq x8_1 t233 (t233.length : Int) x21_1 = some (r1, r2)) ∧ Aside0 (kq ≤ k) ∧ Aside0 (Kd.R k71 71 w' w.heap.size (fun _ => True) v231 x8_1) ∧ Aside0 (Kd.R k97 97 w' w.heap.size (fun _ => True) (.slice Ao11 t233.length co11) t233) ∧ Aside0 (Below w.heap.size w w'))
    case atStart => exact ⟨(t230), (0), (by first | rfl | (simp; done) | (simp [*]; done)), H', ⟨Nat.le_refl _⟩, ⟨by (with_reducible repeat (first | apply Kd.R_alloc | apply Kd.R_drewN | apply Kd.R_drew)); exact HO232.out⟩, ⟨by (with_reducible repeat (first | apply Kd.R_alloc | apply Kd.R_drewN | apply Kd.R_drew)); exact HO235.out⟩, ⟨by repeat (first | (with_reducible first | exact HB.out | apply below_alloc | apply pw_below_drewN | apply below_drew1) | exact HB.out)⟩⟩
    case round =>
      clear H'
      try clear c1
      try clear c2
      try clear p2
      try clear c5
      try clear c7
      obtain ⟨x8_1, x21_1, rfl, HA, HK1, HO_8, HO_19, HB⟩ := hrel
      cases gk with
      | zero => exact absurd HA.out (by simp [impl_ApplyNotes.l0])
      | succ k1 =>
        have H := HA.out
        clear HA
        simp only [impl_ApplyNotes.l0] at H
        by_cases c12 : x21_1 < (t233.length : Int)
        · rw [if_pos c12] at H
          have c12b0 : decide (x21_1 < (t233.length : Int)) = true := decide_eq_true c12
          clear c12
          by_cases c13 : 0 ≤ x21_1
          · rw [if_pos c13] at H
            have c13b0 : decide (0 ≤ x21_1) = true := decide_eq_true c13
            clear c13
            by_cases c14 : x21_1 < (t233.length : Int)
            · rw [if_pos c14] at H
              have c14b0 : decide (x21_1 < (t233.length : Int)) = true := decide_eq_true c14
              clear c14
              by_cases c15 : 0 ≤ ((rd_T97 t233 x21_1).f1)
              · rw [if_pos c15] at H
                have c15b0 : decide (0 ≤ ((rd_T97 t233 x21_1).f1)) = true := decide_eq_true c15
                clear c15
                by_cases c16 : ((rd_T97 t233 x21_1).f1) < (x8_1.length : Int)
                · rw [if_pos c16] at H
                  have c16b0 : decide (((rd_T97 t233 x21_1).f1) < (x8_1.length : Int)) = true := decide_eq_true c16
                  clear c16
                  obtain ⟨y238, hy238⟩ : ∃ y_ : List (S71), y_ = (x8_1.set (((rd_T97 t233 x21_1).f1) : Int).toNat (⟨(rd_T97 t233 x21_1).f2.f0, (rd_T97 t233 x21_1).f2.f1, (rd_T97 t233 x21_1).f2.f2, (rd_T97 t233 x21_1).f2.f3, (rd_T97 t233 x21_1).f2.f4⟩ : S71)) := ⟨_, rfl⟩
                  replace H : (impl_ApplyNotes.l0 k1 y238 t233 (t233.length : Int) (wrap64 (x21_1 + 1))) = some (r1, r2) := by first | (rw [hy238]; with_reducible exact H) | (have H2_ := (Option.bind_some _ _).symm.trans H; rw [hy238]; with_reducible exact H2_) | (have H2_ := (Option.bind_some _ _).symm.trans H; with_reducible exact H2_) | with_reducible exact H | (rw [hy238]; exact H) | exact H
                  have Ny238 := Aside0.mk hy238
                  clear hy238
                  have H' := Aside0.mk H
                  clear H
                  have p236 : 0 ≤ (x21_1 : Int) := of_decide_eq_true (by first | (with_reducible assumption) | assumption)
                  have q236 : x21_1 < (t233.length : Int) := of_decide_eq_true (by first | (with_reducible assumption) | assumption)
                  obtain ⟨ad236, e236, hx236_0, hx236_1, hx236_2, hx236_3, hx236_4, hx236_5, hx236_6⟩ := at_T97 (Kd.R_reads' HO_19.out).2.2 x21_1 p236 q236
                  cases e236
                  replace p236 := eq_true p236
                  replace q236 := eq_true q236
                  go_wp2_with (first | ((with_reducible refine gate_dst (N := 10) rfl ?_); refine box_event ?hg (N := 10) ?hd (cs := #[.int .i64 0, .int .i64 0, .int .i64 0, .int .i64 0, .int .i64 0, .int .i64 0, .int .i64 0]) (t := 97) ?hr ?_; (case hd => rfl); (case hg => rfl); (case hr => first | (go_simp; done) | (go_simp; rfl)); intro gb237 hg w18 hbox hb; have n0_ := Aside0.mk (Kd.R_below (by (with_reducible repeat (first | apply Kd.R_alloc | apply Kd.R_drewN | apply Kd.R_drew)); exact HO_8.out) hb); have n1_ := Aside0.mk (Kd.R_below (Kd.R_elderB (by (with_reducible repeat (first | apply Kd.R_alloc | apply Kd.R_drewN | apply Kd.R_drew)); exact HO_19.out) gb237 (Nat.le_of_eq hg.symm)) hb); have n2_ := Aside0.mk (below_step (by repeat (first | (with_reducible first | exact HB.out | apply below_alloc | apply pw_below_drewN | apply below_drew1) | exact HB.out)) hb); have n3_ := Aside0.mk (hbox); have n4_ := Aside0.mk ((by rw [hg]; exact (below_size (by repeat (first | (with_reducible first | exact HB.out | apply below_alloc | apply pw_below_drewN | apply below_drew1) | exact HB.out))) : w.heap.size ≤ gb237)); have n5_ := Aside0.mk ((by rw [hg]; exact (below_size (by repeat (first | (with_reducible first | exact HB.out | apply below_alloc | apply pw_below_drewN | apply below_drew1) | exact HB.out))) : w.heap.size ≤ gb237)); clear HO_8; clear HO_19; clear HB; have HO_8 := n0_; have HO_19 := n1_; have HB := n2_; have BK237 := n3_; have GW237 := n4_; have GE237 := n5_; clear n0_ n1_ n2_ n3_ n4_ n5_; clear hb hbox hg; have hcz19_0 : w18.cell? ⟨gb237, 0, none⟩ = some (.int .i64 0) := (blk_cell BK237.out 0).trans rfl; have hcz19_1 : w18.cell? ⟨gb237, 1, none⟩ = some (.int .i64 0) := (blk_cell BK237.out 1).trans rfl; have hcz19_2 : w18.cell? ⟨gb237, 2, none⟩ = some (.int .i64 0) := (blk_cell BK237.out 2).trans rfl; have hcz19_3 : w18.cell? ⟨gb237, 3, none⟩ = some (.int .i64 0) := (blk_cell BK237.out 3).trans rfl; have hcz19_4 : w18.cell? ⟨gb237, 4, none⟩ = some (.int .i64 0) := (blk_cell BK237.out 4).trans rfl; have hcz19_5 : w18.cell? ⟨gb237, 5, none⟩ = some (.int .i64 0) := (blk_cell BK237.out 5).trans rfl; have hcz19_6 : w18.cell? ⟨gb237, 6, none⟩ = some (.int .i64 0) := (blk_cell BK237.out 6).trans rfl; have hfz19_0 := blk_frozen BK237.out 0; have hfz19_1 := blk_frozen BK237.out 1; have hfz19_2 := blk_frozen BK237.out 2; have hfz19_3 := blk_frozen BK237.out 3; have hfz19_4 := blk_frozen BK237.out 4; have hfz19_5 := blk_frozen BK237.out 5; have hfz19_6 := blk_frozen BK237.out 6) | ((with_reducible refine gate_store (t := 97) (p := 10) rfl ?_); refine store_event (t := 97) (p := 10) (v := ?vo_w20) (w1 := (((((((w18.setCell ⟨gb237, 0, none⟩ (.int .i64 ((rd_T97 t233 x21_1).f0))).setCell ⟨gb237, 1, none⟩ (.int .i64 ((rd_T97 t233 x21_1).f1))).setCell ⟨gb237, 2, none⟩ (.int .i64 ((rd_T97 t233 x21_1).f2.f0))).setCell ⟨gb237, 3, none⟩ (.int .i64 ((rd_T97 t233 x21_1).f2.f1))).setCell ⟨gb237, 4, none⟩ (.int .i64 ((rd_T97 t233 x21_1).f2.f2))).setCell ⟨gb237, 5, none⟩ (.int .i64 ((rd_T97 t233 x21_1).f2.f3))).setCell ⟨gb237, 6, none⟩ (.int .i64 ((rd_T97 t233 x21_1).f2.f4)))) ?hg ?ho ?hn ?hr ?_; (case ho => rfl); (case hg => rfl); (case hn => rfl); (case hr => first | (go_simp; done) | (go_simp; rfl)); intro w20 hw; have n0_ : Aside0 (Kd.R k71 71 w20 w.heap.size (fun _ => True) v231 x8_1) := ⟨(by rw [hw]; exact (by (with_reducible repeat (first | apply Kd.R_alloc | apply Kd.R_drewN | apply Kd.R_drew)); exact Kd.R_mono (Kd.R_far (p := ⟨gb237, 6, none⟩) (Kd.R_far (p := ⟨gb237, 5, none⟩) (Kd.R_far (p := ⟨gb237, 4, none⟩) (Kd.R_far (p := ⟨gb237, 3, none⟩) (Kd.R_far (p := ⟨gb237, 2, none⟩) (Kd.R_far (p := ⟨gb237, 1, none⟩) (Kd.R_far (p := ⟨gb237, 0, none⟩) (Kd.R_types HO_8.out BK237.out (by decide)) (fun _ hk => hk.2) (.int .i64 ((rd_T97 t233 x21_1).f0))) (fun _ hk => hk.2) (.int .i64 ((rd_T97 t233 x21_1).f1))) (fun _ hk => hk.2) (.int .i64 ((rd_T97 t233 x21_1).f2.f0))) (fun _ hk => hk.2) (.int .i64 ((rd_T97 t233 x21_1).f2.f1))) (fun _ hk => hk.2) (.int .i64 ((rd_T97 t233 x21_1).f2.f2))) (fun _ hk => hk.2) (.int .i64 ((rd_T97 t233 x21_1).f2.f3))) (fun _ hk => hk.2) (.int .i64 ((rd_T97 t233 x21_1).f2.f4))) (fun _ hk => trivial)))⟩; have n1_ : Aside0 (Kd.R k97 97 w20 w.heap.size (fun k_ => k_ ≠ gb237) (.slice (some ad236) t233.length co11) t233) := ⟨(by rw [hw]; exact (by (with_reducible repeat (first | apply Kd.R_alloc | apply Kd.R_drewN | apply Kd.R_drew)); exact Kd.R_mono (Kd.R_far (p := ⟨gb237, 6, none⟩) (Kd.R_far (p := ⟨gb237, 5, none⟩) (Kd.R_far (p := ⟨gb237, 4, none⟩) (Kd.R_far (p := ⟨gb237, 3, none⟩) (Kd.R_far (p := ⟨gb237, 2, none⟩) (Kd.R_far (p := ⟨gb237, 1, none⟩) (Kd.R_far (p := ⟨gb237, 0, none⟩) (Kd.R_mono HO_19.out (fun k_ hk => (⟨hk, hk.2⟩ : _ ∧ k_ ≠ gb237))) (fun _ hk => hk.2) (.int .i64 ((rd_T97 t233 x21_1).f0))) (fun _ hk => hk.2) (.int .i64 ((rd_T97 t233 x21_1).f1))) (fun _ hk => hk.2) (.int .i64 ((rd_T97 t233 x21_1).f2.f0))) (fun _ hk => hk.2) (.int .i64 ((rd_T97 t233 x21_1).f2.f1))) (fun _ hk => hk.2) (.int .i64 ((rd_T97 t233 x21_1).f2.f2))) (fun _ hk => hk.2) (.int .i64 ((rd_T97 t233 x21_1).f2.f3))) (fun _ hk => hk.2) (.int .i64 ((rd_T97 t233 x21_1).f2.f4))) (fun _ hk => hk.1.2)))⟩; have n2_ : Aside0 (w20.heap[gb237]? = some (.cells #[.int .i64 ((rd_T97 t233 x21_1).f0), .int .i64 ((rd_T97 t233 x21_1).f1), .int .i64 ((rd_T97 t233 x21_1).f2.f0), .int .i64 ((rd_T97 t233 x21_1).f2.f1), .int .i64 ((rd_T97 t233 x21_1).f2.f2), .int .i64 ((rd_T97 t233 x21_1).f2.f3), .int .i64 ((rd_T97 t233 x21_1).f2.f4)] 97 (0, 0))) := ⟨(by rw [hw]; exact (by (with_reducible repeat (first | refine blk_drewN ?_ _ | refine blk_drew ?_ | refine blk_alloc ?_ _)); refine blk_put (cs := #[.int .i64 ((rd_T97 t233 x21_1).f0), .int .i64 ((rd_T97 t233 x21_1).f1), .int .i64 ((rd_T97 t233 x21_1).f2.f0), .int .i64 ((rd_T97 t233 x21_1).f2.f1), .int .i64 ((rd_T97 t233 x21_1).f2.f2), .int .i64 ((rd_T97 t233 x21_1).f2.f3), .int .i64 0]) ?_ 6 _ rfl; (with_reducible repeat (first | refine blk_drewN ?_ _ | refine blk_drew ?_ | refine blk_alloc ?_ _)); refine blk_put (cs := #[.int .i64 ((rd_T97 t233 x21_1).f0), .int .i64 ((rd_T97 t233 x21_1).f1), .int .i64 ((rd_T97 t233 x21_1).f2.f0), .int .i64 ((rd_T97 t233 x21_1).f2.f1), .int .i64 ((rd_T97 t233 x21_1).f2.f2), .int .i64 0, .int .i64 0]) ?_ 5 _ rfl; (with_reducible repeat (first | refine blk_drewN ?_ _ | refine blk_drew ?_ | refine blk_alloc ?_ _)); refine blk_put (cs := #[.int .i64 ((rd_T97 t233 x21_1).f0), .int .i64 ((rd_T97 t233 x21_1).f1), .int .i64 ((rd_T97 t233 x21_1).f2.f0), .int .i64 ((rd_T97 t233 x21_1).f2.f1), .int .i64 0, .int .i64 0, .int .i64 0]) ?_ 4 _ rfl; (with_reducible repeat (first | refine blk_drewN ?_ _ | refine blk_drew ?_ | refine blk_alloc ?_ _)); refine blk_put (cs := #[.int .i64 ((rd_T97 t233 x21_1).f0), .int .i64 ((rd_T97 t233 x21_1).f1), .int .i64 ((rd_T97 t233 x21_1).f2.f0), .int .i64 0, .int .i64 0, .int .i64 0, .int .i64 0]) ?_ 3 _ rfl; (with_reducible repeat (first | refine blk_drewN ?_ _ | refine blk_drew ?_ | refine blk_alloc ?_ _)); refine blk_put (cs := #[.int .i64 ((rd_T97 t233 x21_1).f0), .int .i64 ((rd_T97 t233 x21_1).f1), .int .i64 0, .int .i64 0, .int .i64 0, .int .i64 0, .int .i64 0]) ?_ 2 _ rfl; (with_reducible repeat (first | refine blk_drewN ?_ _ | refine blk_drew ?_ | refine blk_alloc ?_ _)); refine blk_put (cs := #[.int .i64 ((rd_T97 t233 x21_1).f0), .int .i64 0, .int .i64 0, .int .i64 0, .int .i64 0, .int .i64 0, .int .i64 0]) ?_ 1 _ rfl; (with_reducible repeat (first | refine blk_drewN ?_ _ | refine blk_drew ?_ | refine blk_alloc ?_ _)); refine blk_put (cs := #[.int .i64 0, .int .i64 0, .int .i64 0, .int .i64 0, .int .i64 0, .int .i64 0, .int .i64 0]) ?_ 0 _ rfl; (with_reducible repeat (first | refine blk_drewN ?_ _ | refine blk_drew ?_ | refine blk_alloc ?_ _)); exact BK237.out))⟩; have n3_ : Aside0 (Below w.heap.size w w20) := ⟨(by rw [hw]; exact (by repeat (first | (with_reducible first | exact HB.out | apply below_alloc | apply pw_below_drewN | apply below_drew1 | refine below_set ?_ GE237.out) | exact HB.out)))⟩; clear hw; clear HO_8; clear HO_19; clear BK237; clear HB; have HO_8 := n0_; have HO_19 := n1_; have BK237 := n2_; have HB := n3_; clear n0_ n1_ n2_ n3_; have hcz21_0 : w20.cell? ⟨gb237, 0, none⟩ = some (.int .i64 ((rd_T97 t233 x21_1).f0)) := (blk_cell BK237.out 0).trans rfl; have hcz21_1 : w20.cell? ⟨gb237, 1, none⟩ = some (.int .i64 ((rd_T97 t233 x21_1).f1)) := (blk_cell BK237.out 1).trans rfl; have hcz21_2 : w20.cell? ⟨gb237, 2, none⟩ = some (.int .i64 ((rd_T97 t233 x21_1).f2.f0)) := (blk_cell BK237.out 2).trans rfl; have hcz21_3 : w20.cell? ⟨gb237, 3, none⟩ = some (.int .i64 ((rd_T97 t233 x21_1).f2.f1)) := (blk_cell BK237.out 3).trans rfl; have hcz21_4 : w20.cell? ⟨gb237, 4, none⟩ = some (.int .i64 ((rd_T97 t233 x21_1).f2.f2)) := (blk_cell BK237.out 4).trans rfl; have hcz21_5 : w20.cell? ⟨gb237, 5, none⟩ = some (.int .i64 ((rd_T97 t233 x21_1).f2.f3)) := (blk_cell BK237.out 5).trans rfl; have hcz21_6 : w20.cell? ⟨gb237, 6, none⟩ = some (.int .i64 ((rd_T97 t233 x21_1).f2.f4)) := (blk_cell BK237.out 6).trans rfl; have hfz21_0 := blk_frozen BK237.out 0; have hfz21_1 := blk_frozen BK237.out 1; have hfz21_2 := blk_frozen BK237.out 2; have hfz21_3 := blk_frozen BK237.out 3; have hfz21_4 := blk_frozen BK237.out 4; have hfz21_5 := blk_frozen BK237.out 5; have hfz21_6 := blk_frozen BK237.out 6; have p17 : 0 ≤ (((rd_T97 t233 x21_1).f1) : Int) := of_decide_eq_true (by first | (with_reducible assumption) | assumption); have q17 : (((rd_T97 t233 x21_1).f1) : Int) < ((x8_1.length : Int) : Int) := of_decide_eq_true (by first | (with_reducible assumption) | assumption); obtain ⟨go17, co17, eo17, gb17, gl17, cl17, HG17⟩ := Kd.R_form HO_8.out (by omega); (first | cases eo17 | (injection eo17 with ea_ en_ ec_; (first | subst ea_ | (injection ea_ with ea_; subst ea_)); subst ec_; clear en_)); have GB17 := Aside0.mk gb17; have GG17 := Aside0.mk HG17; clear gb17 gl17 HG17; obtain ⟨ce17, hcl17, hM17, hcc17, hfr17⟩ := Kd.R_elem HO_8.out z71 (((rd_T97 t233 x21_1).f1) : Int) p17 q17; obtain rfl := k71_openM hM17; have hx17_0 : w20.cell? ⟨go17, (((rd_T97 t233 x21_1).f1) : Int).toNat * 5, none⟩ = some (.int .i64 ((rd_T71 x8_1 ((rd_T97 t233 x21_1).f1)).f0)) := hcc17 0 _ rfl; have hx17_1 : w20.cell? ⟨go17, (((rd_T97 t233 x21_1).f1) : Int).toNat * 5 + 1, none⟩ = some (.int .i64 ((rd_T71 x8_1 ((rd_T97 t233 x21_1).f1)).f1)) := hcc17 1 _ rfl; have hx17_2 : w20.cell? ⟨go17, (((rd_T97 t233 x21_1).f1) : Int).toNat * 5 + 2, none⟩ = some (.int .i64 ((rd_T71 x8_1 ((rd_T97 t233 x21_1).f1)).f2)) := hcc17 2 _ rfl; have hx17_3 : w20.cell? ⟨go17, (((rd_T97 t233 x21_1).f1) : Int).toNat * 5 + 3, none⟩ = some (.int .i64 ((rd_T71 x8_1 ((rd_T97 t233 x21_1).f1)).f3)) := hcc17 3 _ rfl; have hx17_4 : w20.cell? ⟨go17, (((rd_T97 t233 x21_1).f1) : Int).toNat * 5 + 4, none⟩ = some (.int .i64 ((rd_T71 x8_1 ((rd_T97 t233 x21_1).f1)).f4)) := hcc17 4 _ rfl; have hf17_0 : w20.frozen? ⟨go17, (((rd_T97 t233 x21_1).f1) : Int).toNat * 5, none⟩ = false := hfr17 0; have hf17_1 : w20.frozen? ⟨go17, (((rd_T97 t233 x21_1).f1) : Int).toNat * 5 + 1, none⟩ = false := hfr17 1; have hf17_2 : w20.frozen? ⟨go17, (((rd_T97 t233 x21_1).f1) : Int).toNat * 5 + 2, none⟩ = false := hfr17 2; have hf17_3 : w20.frozen? ⟨go17, (((rd_T97 t233 x21_1).f1) : Int).toNat * 5 + 3, none⟩ = false := hfr17 3; have hf17_4 : w20.frozen? ⟨go17, (((rd_T97 t233 x21_1).f1) : Int).toNat * 5 + 4, none⟩ = false := hfr17 4; clear hcl17 hcc17 hfr17 hM17; replace p17 := eq_true p17; replace q17 := eq_true q17; have HX22 := Aside0.mk (show Kd.R k71 71 w20 w.heap.size (fun _ => True) (.slice (some ⟨go17, 0, none⟩) x8_1.length co17) x8_1 from (by (with_reducible repeat (first | apply Kd.R_alloc | apply Kd.R_drewN | apply Kd.R_drew)); exact HO_8.out)); obtain ⟨ce22, hcl22, hM22, hcc22, hfr22⟩ := Kd.R_elem HX22.out z71 (((rd_T97 t233 x21_1).f1) : Int) (of_decide_eq_true (by first | (with_reducible assumption) | assumption)) (by have h_ : (((rd_T97 t233 x21_1).f1) : Int) < ((x8_1.length : Int) : Int) := of_decide_eq_true (by first | (with_reducible assumption) | assumption); first | exact h_ | (have e_ := (Kd.R_reads' HO_8.out).1; omega) | simpa using h_); obtain rfl := k71_openM hM22; have HP22 := Kd.R_seg HX22.out (((rd_T97 t233 x21_1).f1) : Int) (of_decide_eq_true (by first | (with_reducible assumption) | assumption)) (by have h_ : (((rd_T97 t233 x21_1).f1) : Int) < ((x8_1.length : Int) : Int) := of_decide_eq_true (by first | (with_reducible assumption) | assumption); first | exact h_ | (have e_ := (Kd.R_reads' HO_8.out).1; omega) | simpa using h_) (seg := [.int .i64 ((rd_T97 t233 x21_1).f2.f0), .int .i64 ((rd_T97 t233 x21_1).f2.f1), .int .i64 ((rd_T97 t233 x21_1).f2.f2), .int .i64 ((rd_T97 t233 x21_1).f2.f3), .int .i64 ((rd_T97 t233 x21_1).f2.f4)]) (j := 0) hcl22 hcc22 (show 5 ≤ 5 from by decide) (x' := (⟨(rd_T97 t233 x21_1).f2.f0, (rd_T97 t233 x21_1).f2.f1, (rd_T97 t233 x21_1).f2.f2, (rd_T97 t233 x21_1).f2.f3, (rd_T97 t233 x21_1).f2.f4⟩ : S71)) (k71_mkM _ _ _ (⟨(rd_T97 t233 x21_1).f2.f0, (rd_T97 t233 x21_1).f2.f1, (rd_T97 t233 x21_1).f2.f2, (rd_T97 t233 x21_1).f2.f3, (rd_T97 t233 x21_1).f2.f4⟩ : S71) ) (fun _ hk => hk); have hx22_0 := hcc22 0 _ rfl; (try simp only [show (k71).sz = 5 from rfl, Nat.mul_one, Nat.add_zero] at hx22_0); have hf22_0 := hfr22 0; (try simp only [show (k71).sz = 5 from rfl, Nat.mul_one, Nat.add_zero] at hf22_0); have hx22_1 := hcc22 1 _ rfl; (try simp only [show (k71).sz = 5 from rfl, Nat.mul_one, Nat.add_zero] at hx22_1); have hf22_1 := hfr22 1; (try simp only [show (k71).sz = 5 from rfl, Nat.mul_one, Nat.add_zero] at hf22_1); have hx22_2 := hcc22 2 _ rfl; (try simp only [show (k71).sz = 5 from rfl, Nat.mul_one, Nat.add_zero] at hx22_2); have hf22_2 := hfr22 2; (try simp only [show (k71).sz = 5 from rfl, Nat.mul_one, Nat.add_zero] at hf22_2); have hx22_3 := hcc22 3 _ rfl; (try simp only [show (k71).sz = 5 from rfl, Nat.mul_one, Nat.add_zero] at hx22_3); have hf22_3 := hfr22 3; (try simp only [show (k71).sz = 5 from rfl, Nat.mul_one, Nat.add_zero] at hf22_3); have hx22_4 := hcc22 4 _ rfl; (try simp only [show (k71).sz = 5 from rfl, Nat.mul_one, Nat.add_zero] at hx22_4); have hf22_4 := hfr22 4; (try simp only [show (k71).sz = 5 from rfl, Nat.mul_one, Nat.add_zero] at hf22_4); clear hcl22 hcc22 hfr22 hM22) | ((with_reducible refine gate_store (t := 71) (p := 30) rfl ?_); refine store_event (t := 71) (p := 30) (v := ?vo_w23) (w1 := (((((w20.setCell ⟨go17, (((rd_T97 t233 x21_1).f1) : Int).toNat * 5, none⟩ (.int .i64 ((rd_T97 t233 x21_1).f2.f0))).setCell ⟨go17, (((rd_T97 t233 x21_1).f1) : Int).toNat * 5 + 1, none⟩ (.int .i64 ((rd_T97 t233 x21_1).f2.f1))).setCell ⟨go17, (((rd_T97 t233 x21_1).f1) : Int).toNat * 5 + 2, none⟩ (.int .i64 ((rd_T97 t233 x21_1).f2.f2))).setCell ⟨go17, (((rd_T97 t233 x21_1).f1) : Int).toNat * 5 + 3, none⟩ (.int .i64 ((rd_T97 t233 x21_1).f2.f3))).setCell ⟨go17, (((rd_T97 t233 x21_1).f1) : Int).toNat * 5 + 4, none⟩ (.int .i64 ((rd_T97 t233 x21_1).f2.f4)))) ?hg ?ho ?hn ?hr ?_; (case ho => rfl); (case hg => rfl); (case hn => rfl); (case hr => first | (go_simp; done) | (go_simp; rfl)); intro w23 hw; have hg : w20.grownBy w23 (some go17) := (by rw [hw]; exact HP22.2); have hp_ : Kd.R k71 71 w23 w.heap.size (fun _ => True) (.slice (some ⟨go17, 0, none⟩) x8_1.length co17) y238 := (by rw [hw, Ny238.out]; exact HP22.1); clear HP22; have n0_ := Aside0.mk (hp_); have n1_ := Aside0.mk (Kd.R_over' (v := (.slice (some ⟨go17, 0, none⟩) x8_1.length co17)) (by (with_reducible repeat (first | apply Kd.R_alloc | apply Kd.R_drewN | apply Kd.R_drew)); exact HO_19.out) (Kd.R_typed HO_8.out) (by decide) hg); have n2_ := Aside0.mk (blk_grown (g := gb237) (o := .cells #[.int .i64 ((rd_T97 t233 x21_1).f0), .int .i64 ((rd_T97 t233 x21_1).f1), .int .i64 ((rd_T97 t233 x21_1).f2.f0), .int .i64 ((rd_T97 t233 x21_1).f2.f1), .int .i64 ((rd_T97 t233 x21_1).f2.f2), .int .i64 ((rd_T97 t233 x21_1).f2.f3), .int .i64 ((rd_T97 t233 x21_1).f2.f4)] 97 (0, 0)) (by (with_reducible repeat (first | refine blk_drewN ?_ _ | refine blk_drew ?_ | refine blk_alloc ?_ _)); exact BK237.out) hg (Kd.R_ne HO_8.out BK237.out (by decide))); have n3_ := Aside0.mk ((by rw [hw]; exact below_set (below_set (below_set (below_set (below_set (HB.out) GB17.out) GB17.out) GB17.out) GB17.out) GB17.out : Below w.heap.size w w23)); clear HO_8; clear HO_19; clear BK237; clear HB; have HO_8 := n0_; have HO_19 := n1_; have BK237 := n2_; have HB := n3_; clear n0_ n1_ n2_ n3_; clear hg hw hp_))
                  go_roundg k1
                  case measure => have := HK1.out; omega
                  case rel => exact ⟨(y238), (wrap64 (x21_1 + 1)), (by first | rfl | (simp; done) | (simp [*]; done)), H', ⟨by have := HK1.out; omega⟩, ⟨by (with_reducible repeat (first | apply Kd.R_alloc | apply Kd.R_drewN | apply Kd.R_drew)); exact HO_8.out⟩, ⟨by (with_reducible repeat (first | apply Kd.R_alloc | apply Kd.R_drewN | apply Kd.R_drew)); exact Kd.R_mono HO_19.out (fun _ hk => trivial)⟩, ⟨by repeat (first | (with_reducible first | exact HB.out | apply below_alloc | apply pw_below_drewN | apply below_drew1 | refine below_set ?_ GE237.out) | exact HB.out)⟩⟩
                · rw [if_neg c16] at H
                  exact absurd H (by simp)
              · rw [if_neg c15] at H
                exact absurd H (by simp)
            · rw [if_neg c14] at H
              exact absurd H (by simp)
          · rw [if_neg c13] at H
            exact absurd H (by simp)
        · rw [if_neg c12] at H
          have c12b0 : decide (x21_1 < (t233.length : Int)) = false := decide_eq_false c12
          clear c12
          simp only [Option.some.injEq, Prod.mk.injEq] at H
          obtain ⟨rfl, rfl⟩ := H
          go_wp2
          go_ret2
          exact ⟨_, by first | rfl | (simp [errW_none, errW_some] <;> rfl) | (simp [*, errW_none, errW_some] <;> rfl), by (with_reducible repeat (first | apply Kd.R_alloc | apply Kd.R_drewN | apply Kd.R_drew)); exact HO_8.out, by repeat (first | (with_reducible first | exact HB.out | apply below_alloc | apply pw_below_drewN | apply below_drew1) | exact HB.out)⟩
  · replace c5 := Bool.eq_false_iff.mpr c5
    subst c5
    have H1 : (some (([] : List (S71)), false)) = some (r1, r2) := by rw [if_neg (show ¬ (false = true) by decide)] at H; exact H
    clear H
    have H := H1
    clear H1
    simp only [Option.some.injEq, Prod.mk.injEq] at H
    obtain ⟨rfl, rfl⟩ := H
    go_enter Try.func28, Try.ntmps28
    go_wp2_with (first | ((with_reducible refine gate_callee (f := 78) rfl ?_); refine goesL_ (some 14) rfl rfl Try.func78 (by kernel_rfl) rfl #[.int .i64 a0, .slice A1 l1.length c1, .slice A2 l2.length c2] rfl (by (try simp only [List.map_toArray, List.map_cons, List.map_nil]); first | done | rfl | (simp only [List.length_drop, List.length_take]; rfl)) ?_; (with_reducible refine (impl_NotesOk.calls k a0 _ _ l1 _ _ l2 false _ ?side1 ?side2 ?side3 ?side4 A4.out).mono ?_); (case side1 => repeat (first | exact HR1.out | (with_reducible refine Kd.C_alloc ?_ _) | (with_reducible refine Kd.C_drewN ?_ _) | (with_reducible refine Kd.C_drew ?_))); (case side2 => exact HC1.out); (case side3 => repeat (first | exact HR2.out | (with_reducible refine Kd.C_alloc ?_ _) | (with_reducible refine Kd.C_drewN ?_ _) | (with_reducible refine Kd.C_drew ?_))); (case side4 => exact HC2.out); rintro e w24 ⟨rfl, hb⟩; refine ⟨_, rfl, ?_⟩; have n0_ := Aside0.mk (below_step (by repeat (first | (with_reducible first | exact HB.out | apply below_alloc | apply pw_below_drewN | apply below_drew1) | exact HB.out)) hb); clear HB; have HB := n0_; clear n0_; (try clear hb); (try clear hb2); (try clear hk); (try clear hi)))
    go_ret2
    exact ⟨_, by first | rfl | (simp [errW_none, errW_some] <;> rfl) | (simp [*, errW_none, errW_some] <;> rfl), by first | exact Kd.R_nil _ _ _ _ _ | exact Kd.N_nil _ _ _ _ _ | exact Kd.V_nil _ _ _ _ _ | exact Kd.Q_nil _ _ _ _ _ | exact Kd.S_nil _ _ _ _ _, by repeat (first | (with_reducible first | exact HB.out | apply below_alloc | apply pw_below_drewN | apply below_drew1) | exact HB.out)⟩

end Go.Proofs.Ytikfdjgigeggjaa.MFnExactApplyNotes
