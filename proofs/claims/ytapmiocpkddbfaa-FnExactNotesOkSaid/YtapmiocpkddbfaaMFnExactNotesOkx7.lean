/- The functions that FnExactNotesOk reaches, each with its contract: the print's form, by wip/tools/myprint.py; no condition of its own. -/
import Derived.Test.YtapmiocpkddbfaaMFnExactNotesOkx0
import Derived.Test.YtapmiocpkddbfaaMFnExactNotesOkx1
import Derived.Test.YtapmiocpkddbfaaMFnExactNotesOkx2
import Derived.Test.YtapmiocpkddbfaaMFnExactNotesOkx3
import Derived.Test.YtapmiocpkddbfaaMFnExactNotesOkx4
import Derived.Test.YtapmiocpkddbfaaMFnExactNotesOkx5
import Derived.Test.YtapmiocpkddbfaaMFnExactNotesOkx6
namespace Go.Proofs.Ytapmiocpkddbfaa.MFnExactNotesOk
open Go.RowKit Go.Proofs.YtapmiocpkddbfaaW.PrintWords Go.Proofs.YtapmiocpkddbfaaW.PrintLast Go.Proofs.YtapmiocpkddbfaaW.PrintMore
attribute [local go_sem] max2_int min2_int max_two min_two max_three min_three max_four min_four   -- for this text's walks alone
set_option linter.unusedVariables false
set_option linter.unusedSimpArgs false

/-! ### impl_noteFits: function 107 -/
def impl_noteFits.j0 : Nat → Int → List (S61) → Bool → Int → Int → Int → Int → Int → Int → Int → Option (Bool)
  | 0, _, _, _, _, _, _, _, _, _, _ => none
  | k + 1, x0, x1, x20, x193000, x193001, x193002, x193003, x193004, x193005, x193006 => if x20 = true then (some false) else (if 0 ≤ x193001 then (if x193001 < (x1.length : Int) then ((impl_GameOk.f k x0 x193002 x193003 x193004 x193005 x193006).bind fun t197 => (if t197 = true then (if x193002 = ((rd_T61 x1 x193001).f0) then (if x193003 = ((rd_T61 x1 x193001).f1) then ((impl_IsOpen.f x193002 x193003 x193004 x193005 x193006).bind fun t198 => (some (!t198))) else (some false)) else (some false)) else (some false))) else (none)) else (none))
def impl_noteFits.f (k : Nat) (a0 : Int) (l1 : List (S61)) (a2_0 : Int) (a2_1 : Int) (a2_2 : Int) (a2_3 : Int) (a2_4 : Int) (a2_5 : Int) (a2_6 : Int) : Option (Bool) := (impl_within.f a2_0 1 100000).bind fun t193 => (if t193 = true then ((impl_within.f a2_1 0 (wrap64 ((l1.length : Int) - 1))).bind fun t194 => (impl_noteFits.j0 k a0 l1 (!t194) a2_0 a2_1 a2_2 a2_3 a2_4 a2_5 a2_6)) else (impl_noteFits.j0 k a0 l1 true a2_0 a2_1 a2_2 a2_3 a2_4 a2_5 a2_6))
theorem impl_noteFits.mono_l : ∀ k, (∀ y0 y1 y2 y3 y4 y5 y6 y7 y8 y9, LeO (impl_noteFits.j0 k y0 y1 y2 y3 y4 y5 y6 y7 y8 y9) (impl_noteFits.j0 (k + 1) y0 y1 y2 y3 y4 y5 y6 y7 y8 y9))
  | 0 => fun _ _ _ _ _ _ _ _ _ _ r h => by simp [impl_noteFits.j0] at h
  | k + 1 => by
    have ih0 := impl_noteFits.mono_l k
    · intro y0 y1 y2 y3 y4 y5 y6 y7 y8 y9
      unfold impl_noteFits.j0
      repeat' first
      | (with_reducible exact ih0 _ _ _ _ _ _ _ _ _ _)
      | (with_reducible exact impl_GameOk.mono _ _ _ _ _ _ _)
      | (with_reducible exact LeO.refl _)
      | (with_reducible exact LeO.none _)
      | (with_reducible refine LeO.ite ?_ ?_)
      | (with_reducible refine LeO.bind ?_ (fun _ => ?_))
      | exact ih0 _ _ _ _ _ _ _ _ _ _
      | exact impl_GameOk.mono _ _ _ _ _ _ _
      | exact LeO.none _
      | refine LeO.ite ?_ ?_
      | refine LeO.bind ?_ (fun _ => ?_)
theorem impl_noteFits.mono : ∀ a0 a1 a2 a3 a4 a5 a6 a7 a8 k, LeO (impl_noteFits.f k a0 a1 a2 a3 a4 a5 a6 a7 a8) (impl_noteFits.f (k + 1) a0 a1 a2 a3 a4 a5 a6 a7 a8) := by
  intro a0 a1 a2 a3 a4 a5 a6 a7 a8 k
  have ih0 := impl_noteFits.mono_l k
  unfold impl_noteFits.f
  repeat' first
      | (with_reducible exact ih0 _ _ _ _ _ _ _ _ _ _)
      | (with_reducible exact impl_GameOk.mono _ _ _ _ _ _ _)
      | (with_reducible exact LeO.refl _)
      | (with_reducible exact LeO.none _)
      | (with_reducible refine LeO.ite ?_ ?_)
      | (with_reducible refine LeO.bind ?_ (fun _ => ?_))
      | exact ih0 _ _ _ _ _ _ _ _ _ _
      | exact impl_GameOk.mono _ _ _ _ _ _ _
      | exact LeO.none _
      | refine LeO.ite ?_ ?_
      | refine LeO.bind ?_ (fun _ => ?_)
set_option maxHeartbeats 8000000 in
set_option maxRecDepth 100000 in
theorem impl_noteFits.calls (k : Nat) (a0 : Int) (A1 : Option Addr) (c1 : Nat) (l1 : List (S61)) (a2_0 : Int) (a2_1 : Int) (a2_2 : Int) (a2_3 : Int) (a2_4 : Int) (a2_5 : Int) (a2_6 : Int) (r : Bool) (w : World) (hr1 : Kd.C k61 w A1 l1.length l1) (hc1 : l1.length ≤ c1) (h : impl_noteFits.f k a0 l1 a2_0 a2_1 a2_2 a2_3 a2_4 a2_5 a2_6 = some r) :
    Calls Try.prog 107 #[.int .i64 a0, .slice A1 l1.length c1, .agg #[.int .i64 a2_0, .int .i64 a2_1, .int .i64 a2_2, .int .i64 a2_3, .int .i64 a2_4, .int .i64 a2_5, .int .i64 a2_6]] w fun e w' => e = .returned (.bool r) ∧ Below w.heap.size w w' := by
  have hu63 := Try.underlying63
  have hu61 := Try.underlying61
  have HR1 := Aside0.mk hr1
  have HC1 := Aside0.mk hc1
  clear hr1 hc1
  have HB := Aside0.mk (Below.refl w.heap.size w)
  have H : ((impl_within.f a2_0 1 100000).bind fun t193 => (if t193 = true then ((impl_within.f a2_1 0 (wrap64 ((l1.length : Int) - 1))).bind fun t194 => (impl_noteFits.j0 k a0 l1 (!t194) a2_0 a2_1 a2_2 a2_3 a2_4 a2_5 a2_6)) else (impl_noteFits.j0 k a0 l1 true a2_0 a2_1 a2_2 a2_3 a2_4 a2_5 a2_6))) = some r := h
  clear h
  have HC4 := Aside0.mk H
  clear H
  go_enter Try.func107, Try.ntmps107
  go_upto_region 1 with (first | ((with_reducible refine gate_dst (N := 5) rfl ?_); (try (refine gate_guard (by rfl) ?_; dsimp only)); refine box_event ?hg (N := 5) ?hd (cs := #[.int .i64 a2_0, .int .i64 a2_1, .int .i64 a2_2, .int .i64 a2_3, .int .i64 a2_4, .int .i64 a2_5, .int .i64 a2_6]) (t := 63) ?hr ?_; (case hd => rfl); (case hg => rfl); (case hr => first | (go_simp; done) | (go_simp; rfl)); intro gb192 hg w5 hbox hb; have n0_ := Aside0.mk (below_step (by repeat (first | (with_reducible first | exact HB.out | apply below_alloc | apply pw_below_drewN | apply below_drew1) | exact HB.out)) hb); have n1_ := Aside0.mk (hbox); have n2_ := Aside0.mk ((by rw [hg]; exact (below_size (by repeat (first | (with_reducible first | exact HB.out | apply below_alloc | apply pw_below_drewN | apply below_drew1) | exact HB.out))) : w.heap.size ≤ gb192)); have n3_ := Aside0.mk ((by rw [hg]; exact (below_size (by repeat (first | (with_reducible first | exact HB.out | apply below_alloc | apply pw_below_drewN | apply below_drew1) | exact HB.out))) : w.heap.size ≤ gb192)); clear HB; have HB := n0_; have BK192 := n1_; have GW192 := n2_; have GE192 := n3_; clear n0_ n1_ n2_ n3_; clear hb hbox hg))
  (try simp only [Act.put, List.setIfInBounds_toArray, List.set_cons_zero, List.set_cons_succ])
  go_cut [20] (fun v20 wc => ∃ (kq : Nat) (x20_3 : Bool), v20 = .bool x20_3 ∧ Aside0 (impl_noteFits.j0 kq a0 l1 x20_3 a2_0 a2_1 a2_2 a2_3 a2_4 a2_5 a2_6 = some r) ∧ Aside0 (kq ≤ k) ∧ Aside0 (wc.heap[gb192]? = some (.cells #[.int .i64 a2_0, .int .i64 a2_1, .int .i64 a2_2, .int .i64 a2_3, .int .i64 a2_4, .int .i64 a2_5, .int .i64 a2_6] 63 (0, 0))) ∧ Aside0 (Below w.heap.size w wc))
  case first =>
    have H := HC4.out
    clear HC4
    replace H := Option.bind_eq_some_iff.mp H
    obtain ⟨t193, A60, H⟩ := H
    replace H : (if t193 = true then ((impl_within.f a2_1 0 (wrap64 ((l1.length : Int) - 1))).bind fun t194 => (impl_noteFits.j0 k a0 l1 (!t194) a2_0 a2_1 a2_2 a2_3 a2_4 a2_5 a2_6)) else (impl_noteFits.j0 k a0 l1 true a2_0 a2_1 a2_2 a2_3 a2_4 a2_5 a2_6)) = some r := H
    have A6 := Aside0.mk A60
    clear A60
    by_cases c7 : t193 = true
    · subst c7
      have H1 : ((impl_within.f a2_1 0 (wrap64 ((l1.length : Int) - 1))).bind fun t194 => (impl_noteFits.j0 k a0 l1 (!t194) a2_0 a2_1 a2_2 a2_3 a2_4 a2_5 a2_6)) = some r := by rw [if_pos rfl] at H; exact H
      clear H
      have H := H1
      clear H1
      replace H := Option.bind_eq_some_iff.mp H
      obtain ⟨t194, A80, H⟩ := H
      replace H : (impl_noteFits.j0 k a0 l1 (!t194) a2_0 a2_1 a2_2 a2_3 a2_4 a2_5 a2_6) = some r := H
      have A8 := Aside0.mk A80
      clear A80
      have H' := Aside0.mk H
      clear H
      have hcz9_0 : w5.cell? ⟨gb192, 0, none⟩ = some (.int .i64 a2_0) := (blk_cell BK192.out 0).trans rfl
      have hcz9_1 : w5.cell? ⟨gb192, 1, none⟩ = some (.int .i64 a2_1) := (blk_cell BK192.out 1).trans rfl
      have hcz9_2 : w5.cell? ⟨gb192, 2, none⟩ = some (.int .i64 a2_2) := (blk_cell BK192.out 2).trans rfl
      have hcz9_3 : w5.cell? ⟨gb192, 3, none⟩ = some (.int .i64 a2_3) := (blk_cell BK192.out 3).trans rfl
      have hcz9_4 : w5.cell? ⟨gb192, 4, none⟩ = some (.int .i64 a2_4) := (blk_cell BK192.out 4).trans rfl
      have hcz9_5 : w5.cell? ⟨gb192, 5, none⟩ = some (.int .i64 a2_5) := (blk_cell BK192.out 5).trans rfl
      have hcz9_6 : w5.cell? ⟨gb192, 6, none⟩ = some (.int .i64 a2_6) := (blk_cell BK192.out 6).trans rfl
      have hfz9_0 := blk_frozen BK192.out 0
      have hfz9_1 := blk_frozen BK192.out 1
      have hfz9_2 := blk_frozen BK192.out 2
      have hfz9_3 := blk_frozen BK192.out 3
      have hfz9_4 := blk_frozen BK192.out 4
      have hfz9_5 := blk_frozen BK192.out 5
      have hfz9_6 := blk_frozen BK192.out 6
      go_wp2_with (first | ((with_reducible refine gate_callee (f := 81) rfl ?_); refine goesL_ (some 10) rfl rfl Try.func81 (by kernel_rfl) rfl #[.int .i64 a2_0, .int .i64 1, .int .i64 100000] rfl (by (try simp only [List.map_toArray, List.map_cons, List.map_nil]); first | done | rfl | (simp only [List.length_drop, List.length_take]; rfl)) ?_; (with_reducible refine (impl_within.calls a2_0 1 100000 true _ A6.out).mono ?_); rintro e w' ⟨rfl, ⟨nd, rfl⟩⟩; refine ⟨_, rfl, ?_⟩) | (go_at_call 81; (with_reducible refine (impl_within.calls a2_1 0 (wrap64 ((l1.length : Int) - 1)) t194 _ A8.out).mono ?_); rintro e w' ⟨rfl, ⟨nd, rfl⟩⟩))
      go_meet
      case rel => exact ⟨_, (!t194), (by first | rfl | (simp; done) | (simp [*]; done)), H', ⟨by first | omega | exact Nat.le_refl _⟩, ⟨by (with_reducible repeat (first | refine blk_drewN ?_ _ | refine blk_drew ?_ | refine blk_alloc ?_ _)); exact BK192.out⟩, ⟨by repeat (first | (with_reducible first | exact HB.out | apply below_alloc | apply pw_below_drewN | apply below_drew1 | refine below_set ?_ GE192.out) | exact HB.out)⟩⟩
    · replace c7 := Bool.eq_false_iff.mpr c7
      subst c7
      have H1 : (impl_noteFits.j0 k a0 l1 true a2_0 a2_1 a2_2 a2_3 a2_4 a2_5 a2_6) = some r := by rw [if_neg (show ¬ (false = true) by decide)] at H; exact H
      clear H
      have H := H1
      clear H1
      have H' := Aside0.mk H
      clear H
      have hcz10_0 : w5.cell? ⟨gb192, 0, none⟩ = some (.int .i64 a2_0) := (blk_cell BK192.out 0).trans rfl
      have hcz10_1 : w5.cell? ⟨gb192, 1, none⟩ = some (.int .i64 a2_1) := (blk_cell BK192.out 1).trans rfl
      have hcz10_2 : w5.cell? ⟨gb192, 2, none⟩ = some (.int .i64 a2_2) := (blk_cell BK192.out 2).trans rfl
      have hcz10_3 : w5.cell? ⟨gb192, 3, none⟩ = some (.int .i64 a2_3) := (blk_cell BK192.out 3).trans rfl
      have hcz10_4 : w5.cell? ⟨gb192, 4, none⟩ = some (.int .i64 a2_4) := (blk_cell BK192.out 4).trans rfl
      have hcz10_5 : w5.cell? ⟨gb192, 5, none⟩ = some (.int .i64 a2_5) := (blk_cell BK192.out 5).trans rfl
      have hcz10_6 : w5.cell? ⟨gb192, 6, none⟩ = some (.int .i64 a2_6) := (blk_cell BK192.out 6).trans rfl
      have hfz10_0 := blk_frozen BK192.out 0
      have hfz10_1 := blk_frozen BK192.out 1
      have hfz10_2 := blk_frozen BK192.out 2
      have hfz10_3 := blk_frozen BK192.out 3
      have hfz10_4 := blk_frozen BK192.out 4
      have hfz10_5 := blk_frozen BK192.out 5
      have hfz10_6 := blk_frozen BK192.out 6
      go_wp2_with (first | ((with_reducible refine gate_callee (f := 81) rfl ?_); refine goesL_ (some 10) rfl rfl Try.func81 (by kernel_rfl) rfl #[.int .i64 a2_0, .int .i64 1, .int .i64 100000] rfl (by (try simp only [List.map_toArray, List.map_cons, List.map_nil]); first | done | rfl | (simp only [List.length_drop, List.length_take]; rfl)) ?_; (with_reducible refine (impl_within.calls a2_0 1 100000 false _ A6.out).mono ?_); rintro e w' ⟨rfl, ⟨nd, rfl⟩⟩; refine ⟨_, rfl, ?_⟩))
      go_meet
      case rel => exact ⟨_, (true), (by first | rfl | (simp; done) | (simp [*]; done)), H', ⟨by first | omega | exact Nat.le_refl _⟩, ⟨by (with_reducible repeat (first | refine blk_drewN ?_ _ | refine blk_drew ?_ | refine blk_alloc ?_ _)); exact BK192.out⟩, ⟨by repeat (first | (with_reducible first | exact HB.out | apply below_alloc | apply pw_below_drewN | apply below_drew1 | refine below_set ?_ GE192.out) | exact HB.out)⟩⟩
  case rest =>
    clear HC4
    try clear c1
    try clear p2
    try clear p6
    try clear c7
    try clear c8
    try clear c10
    try clear hcz10_0
    try clear hcz10_1
    try clear hcz10_2
    try clear hcz10_3
    try clear hcz10_4
    try clear hcz10_5
    try clear hcz10_6
    try clear hcz9_0
    try clear hcz9_1
    try clear hcz9_2
    try clear hcz9_3
    try clear hcz9_4
    try clear hcz9_5
    try clear hcz9_6
    try clear hfz10_0
    try clear hfz10_1
    try clear hfz10_2
    try clear hfz10_3
    try clear hfz10_4
    try clear hfz10_5
    try clear hfz10_6
    try clear hfz9_0
    try clear hfz9_1
    try clear hfz9_2
    try clear hfz9_3
    try clear hfz9_4
    try clear hfz9_5
    try clear hfz9_6
    obtain ⟨kq, x20_3, rfl, HA, HJ3, BK192, HB⟩ := hcut
    cases kq with
    | zero => exact absurd HA.out (by simp [impl_noteFits.j0])
    | succ kj3 =>
      have H := HA.out
      clear HA
      simp only [impl_noteFits.j0] at H
      by_cases c11 : x20_3 = true
      · subst c11
        have H1 : (some false) = some r := by rw [if_pos rfl] at H; exact H
        clear H
        have H := H1
        clear H1
        obtain rfl := Option.some.inj H
        go_wp2
        go_ret
        exact ⟨by first | rfl | (simp [errW_none, errW_some] <;> rfl) | (simp [*, errW_none, errW_some] <;> rfl), by repeat (first | (with_reducible first | exact HB.out | apply below_alloc | apply pw_below_drewN | apply below_drew1 | refine below_set ?_ GE192.out) | exact HB.out)⟩
      · replace c11 := Bool.eq_false_iff.mpr c11
        subst c11
        have H1 : (if 0 ≤ a2_1 then (if a2_1 < (l1.length : Int) then ((impl_GameOk.f kj3 a0 a2_2 a2_3 a2_4 a2_5 a2_6).bind fun t197 => (if t197 = true then (if a2_2 = ((rd_T61 l1 a2_1).f0) then (if a2_3 = ((rd_T61 l1 a2_1).f1) then ((impl_IsOpen.f a2_2 a2_3 a2_4 a2_5 a2_6).bind fun t198 => (some (!t198))) else (some false)) else (some false)) else (some false))) else (none)) else (none)) = some r := by rw [if_neg (show ¬ (false = true) by decide)] at H; exact H
        clear H
        have H := H1
        clear H1
        by_cases c12 : 0 ≤ a2_1
        · rw [if_pos c12] at H
          have c12b0 : decide (0 ≤ a2_1) = true := decide_eq_true c12
          clear c12
          by_cases c13 : a2_1 < (l1.length : Int)
          · rw [if_pos c13] at H
            have c13b0 : decide (a2_1 < (l1.length : Int)) = true := decide_eq_true c13
            clear c13
            replace H := Option.bind_eq_some_iff.mp H
            obtain ⟨t197, A140, H⟩ := H
            replace H : (if t197 = true then (if a2_2 = ((rd_T61 l1 a2_1).f0) then (if a2_3 = ((rd_T61 l1 a2_1).f1) then ((impl_IsOpen.f a2_2 a2_3 a2_4 a2_5 a2_6).bind fun t198 => (some (!t198))) else (some false)) else (some false)) else (some false)) = some r := H
            have A14 := Aside0.mk A140
            clear A140
            by_cases c15 : t197 = true
            · subst c15
              have H1 : (if a2_2 = ((rd_T61 l1 a2_1).f0) then (if a2_3 = ((rd_T61 l1 a2_1).f1) then ((impl_IsOpen.f a2_2 a2_3 a2_4 a2_5 a2_6).bind fun t198 => (some (!t198))) else (some false)) else (some false)) = some r := by rw [if_pos rfl] at H; exact H
              clear H
              have H := H1
              clear H1
              by_cases c16 : a2_2 = ((rd_T61 l1 a2_1).f0)
              · rw [if_pos c16] at H
                have c16b0 : (a2_2 == ((rd_T61 l1 a2_1).f0)) = true := beq_iff_eq.mpr c16
                have c16b1 : (a2_2 != ((rd_T61 l1 a2_1).f0)) = false := bne_eq_false_iff_eq.mpr c16
                clear c16
                by_cases c17 : a2_3 = ((rd_T61 l1 a2_1).f1)
                · rw [if_pos c17] at H
                  have c17b0 : (a2_3 == ((rd_T61 l1 a2_1).f1)) = true := beq_iff_eq.mpr c17
                  have c17b1 : (a2_3 != ((rd_T61 l1 a2_1).f1)) = false := bne_eq_false_iff_eq.mpr c17
                  clear c17
                  replace H := Option.bind_eq_some_iff.mp H
                  obtain ⟨t198, A180, H⟩ := H
                  replace H : (some (!t198)) = some r := H
                  have A18 := Aside0.mk A180
                  clear A180
                  obtain rfl := Option.some.inj H
                  have hcz19_0 : wc.cell? ⟨gb192, 0, none⟩ = some (.int .i64 a2_0) := (blk_cell BK192.out 0).trans rfl
                  have hcz19_1 : wc.cell? ⟨gb192, 1, none⟩ = some (.int .i64 a2_1) := (blk_cell BK192.out 1).trans rfl
                  have hcz19_2 : wc.cell? ⟨gb192, 2, none⟩ = some (.int .i64 a2_2) := (blk_cell BK192.out 2).trans rfl
                  have hcz19_3 : wc.cell? ⟨gb192, 3, none⟩ = some (.int .i64 a2_3) := (blk_cell BK192.out 3).trans rfl
                  have hcz19_4 : wc.cell? ⟨gb192, 4, none⟩ = some (.int .i64 a2_4) := (blk_cell BK192.out 4).trans rfl
                  have hcz19_5 : wc.cell? ⟨gb192, 5, none⟩ = some (.int .i64 a2_5) := (blk_cell BK192.out 5).trans rfl
                  have hcz19_6 : wc.cell? ⟨gb192, 6, none⟩ = some (.int .i64 a2_6) := (blk_cell BK192.out 6).trans rfl
                  have hfz19_0 := blk_frozen BK192.out 0
                  have hfz19_1 := blk_frozen BK192.out 1
                  have hfz19_2 := blk_frozen BK192.out 2
                  have hfz19_3 := blk_frozen BK192.out 3
                  have hfz19_4 := blk_frozen BK192.out 4
                  have hfz19_5 := blk_frozen BK192.out 5
                  have hfz19_6 := blk_frozen BK192.out 6
                  have p195 : 0 ≤ (a2_1 : Int) := of_decide_eq_true (by first | (with_reducible assumption) | assumption)
                  have q195 : a2_1 < (l1.length : Int) := of_decide_eq_true (by first | (with_reducible assumption) | assumption)
                  obtain ⟨ad195, e195, hx195_0, hx195_1, hx195_2, hx195_3, hx195_4⟩ := at_T61 HR1.out a2_1 p195 q195
                  cases e195
                  replace hx195_0 := (HB.out.cell (World.block_lt_of_cell? w _ hx195_0)).trans hx195_0
                  replace hx195_1 := (HB.out.cell (World.block_lt_of_cell? w _ hx195_1)).trans hx195_1
                  replace hx195_2 := (HB.out.cell (World.block_lt_of_cell? w _ hx195_2)).trans hx195_2
                  replace hx195_3 := (HB.out.cell (World.block_lt_of_cell? w _ hx195_3)).trans hx195_3
                  replace hx195_4 := (HB.out.cell (World.block_lt_of_cell? w _ hx195_4)).trans hx195_4
                  replace p195 := eq_true p195
                  replace q195 := eq_true q195
                  go_wp2_with (first | ((with_reducible refine gate_dst (N := 7) rfl ?_); (try (refine gate_guard (by rfl) ?_; dsimp only)); refine box_event ?hg (N := 7) ?hd (cs := #[.int .i64 0, .int .i64 0, .int .i64 0, .int .i64 0, .int .i64 0]) (t := 61) ?hr ?_; (case hd => rfl); (case hg => rfl); (case hr => first | (go_simp; done) | (go_simp; rfl)); intro gb196 hg w20 hbox hb; have n0_ := Aside0.mk (blk_below (g := gb192) (o := .cells #[.int .i64 a2_0, .int .i64 a2_1, .int .i64 a2_2, .int .i64 a2_3, .int .i64 a2_4, .int .i64 a2_5, .int .i64 a2_6] 63 (0, 0)) (by (with_reducible repeat (first | refine blk_drewN ?_ _ | refine blk_drew ?_ | refine blk_alloc ?_ _)); exact BK192.out) hb); have n1_ := Aside0.mk (below_step (by repeat (first | (with_reducible first | exact HB.out | apply below_alloc | apply pw_below_drewN | apply below_drew1 | refine below_set ?_ GE192.out) | exact HB.out)) hb); have n2_ := Aside0.mk (hbox); have n3_ := Aside0.mk ((by rw [hg]; exact (below_size (by repeat (first | (with_reducible first | exact HB.out | apply below_alloc | apply pw_below_drewN | apply below_drew1 | refine below_set ?_ GE192.out) | exact HB.out))) : w.heap.size ≤ gb196)); have n4_ := Aside0.mk ((by rw [hg]; exact (below_size (by repeat (first | (with_reducible first | exact HB.out | apply below_alloc | apply pw_below_drewN | apply below_drew1 | refine below_set ?_ GE192.out) | exact HB.out))) : w.heap.size ≤ gb196)); have n5_ := Aside0.mk ((by rw [hg]; exact Nat.ne_of_lt (blk_lt (g := gb192) (o := .cells #[.int .i64 a2_0, .int .i64 a2_1, .int .i64 a2_2, .int .i64 a2_3, .int .i64 a2_4, .int .i64 a2_5, .int .i64 a2_6] 63 (0, 0)) (by (with_reducible repeat (first | refine blk_drewN ?_ _ | refine blk_drew ?_ | refine blk_alloc ?_ _)); exact BK192.out)) : gb192 ≠ gb196)); have n6_ := Aside0.mk ((by rw [hg]; exact Nat.ne_of_gt (blk_lt (g := gb192) (o := .cells #[.int .i64 a2_0, .int .i64 a2_1, .int .i64 a2_2, .int .i64 a2_3, .int .i64 a2_4, .int .i64 a2_5, .int .i64 a2_6] 63 (0, 0)) (by (with_reducible repeat (first | refine blk_drewN ?_ _ | refine blk_drew ?_ | refine blk_alloc ?_ _)); exact BK192.out)) : gb196 ≠ gb192)); clear BK192; clear HB; have BK192 := n0_; have HB := n1_; have BK196 := n2_; have GW196 := n3_; have GE196 := n4_; have NB192_196 := n5_; have NB196_192 := n6_; clear n0_ n1_ n2_ n3_ n4_ n5_ n6_; clear hb hbox hg; have hnb21 := NB196_192.out; have hnc21 := NB192_196.out; have hcz22_0 : w20.cell? ⟨gb196, 0, none⟩ = some (.int .i64 0) := (blk_cell BK196.out 0).trans rfl; have hcz22_1 : w20.cell? ⟨gb196, 1, none⟩ = some (.int .i64 0) := (blk_cell BK196.out 1).trans rfl; have hcz22_2 : w20.cell? ⟨gb196, 2, none⟩ = some (.int .i64 0) := (blk_cell BK196.out 2).trans rfl; have hcz22_3 : w20.cell? ⟨gb196, 3, none⟩ = some (.int .i64 0) := (blk_cell BK196.out 3).trans rfl; have hcz22_4 : w20.cell? ⟨gb196, 4, none⟩ = some (.int .i64 0) := (blk_cell BK196.out 4).trans rfl; have hfz22_0 := blk_frozen BK196.out 0; have hfz22_1 := blk_frozen BK196.out 1; have hfz22_2 := blk_frozen BK196.out 2; have hfz22_3 := blk_frozen BK196.out 3; have hfz22_4 := blk_frozen BK196.out 4; have hcz23_0 : w20.cell? ⟨gb192, 0, none⟩ = some (.int .i64 a2_0) := (blk_cell BK192.out 0).trans rfl; have hcz23_1 : w20.cell? ⟨gb192, 1, none⟩ = some (.int .i64 a2_1) := (blk_cell BK192.out 1).trans rfl; have hcz23_2 : w20.cell? ⟨gb192, 2, none⟩ = some (.int .i64 a2_2) := (blk_cell BK192.out 2).trans rfl; have hcz23_3 : w20.cell? ⟨gb192, 3, none⟩ = some (.int .i64 a2_3) := (blk_cell BK192.out 3).trans rfl; have hcz23_4 : w20.cell? ⟨gb192, 4, none⟩ = some (.int .i64 a2_4) := (blk_cell BK192.out 4).trans rfl; have hcz23_5 : w20.cell? ⟨gb192, 5, none⟩ = some (.int .i64 a2_5) := (blk_cell BK192.out 5).trans rfl; have hcz23_6 : w20.cell? ⟨gb192, 6, none⟩ = some (.int .i64 a2_6) := (blk_cell BK192.out 6).trans rfl; have hfz23_0 := blk_frozen BK192.out 0; have hfz23_1 := blk_frozen BK192.out 1; have hfz23_2 := blk_frozen BK192.out 2; have hfz23_3 := blk_frozen BK192.out 3; have hfz23_4 := blk_frozen BK192.out 4; have hfz23_5 := blk_frozen BK192.out 5; have hfz23_6 := blk_frozen BK192.out 6) | ((with_reducible refine gate_callee (f := 52) rfl ?_); refine goesL_ (some 29) rfl rfl Try.func52 (by kernel_rfl) rfl #[.int .i64 a0, .agg #[.int .i64 a2_2, .int .i64 a2_3, .int .i64 a2_4, .int .i64 a2_5, .int .i64 a2_6]] rfl (by (try simp only [List.map_toArray, List.map_cons, List.map_nil]); first | done | rfl | (simp only [List.length_drop, List.length_take]; rfl)) ?_; (with_reducible refine (impl_GameOk.calls kj3 a0 a2_2 a2_3 a2_4 a2_5 a2_6 true _ A14.out).mono ?_); rintro e w24 ⟨rfl, hb⟩; refine ⟨_, rfl, ?_⟩; have n0_ := Aside0.mk (blk_below (g := gb192) (o := .cells #[.int .i64 a2_0, .int .i64 a2_1, .int .i64 a2_2, .int .i64 a2_3, .int .i64 a2_4, .int .i64 a2_5, .int .i64 a2_6] 63 (0, 0)) (by (with_reducible repeat (first | refine blk_drewN ?_ _ | refine blk_drew ?_ | refine blk_alloc ?_ _)); refine blk_far ?_ NB192_196.out _; (with_reducible repeat (first | refine blk_drewN ?_ _ | refine blk_drew ?_ | refine blk_alloc ?_ _)); refine blk_far ?_ NB192_196.out _; (with_reducible repeat (first | refine blk_drewN ?_ _ | refine blk_drew ?_ | refine blk_alloc ?_ _)); refine blk_far ?_ NB192_196.out _; (with_reducible repeat (first | refine blk_drewN ?_ _ | refine blk_drew ?_ | refine blk_alloc ?_ _)); refine blk_far ?_ NB192_196.out _; (with_reducible repeat (first | refine blk_drewN ?_ _ | refine blk_drew ?_ | refine blk_alloc ?_ _)); refine blk_far ?_ NB192_196.out _; (with_reducible repeat (first | refine blk_drewN ?_ _ | refine blk_drew ?_ | refine blk_alloc ?_ _)); exact BK192.out) hb); have n1_ := Aside0.mk (blk_below (g := gb196) (o := .cells #[.int .i64 ((rd_T61 l1 a2_1).f0), .int .i64 ((rd_T61 l1 a2_1).f1), .int .i64 ((rd_T61 l1 a2_1).f2), .int .i64 ((rd_T61 l1 a2_1).f3), .int .i64 ((rd_T61 l1 a2_1).f4)] 61 (0, 0)) (by (with_reducible repeat (first | refine blk_drewN ?_ _ | refine blk_drew ?_ | refine blk_alloc ?_ _)); refine blk_put (cs := #[.int .i64 ((rd_T61 l1 a2_1).f0), .int .i64 ((rd_T61 l1 a2_1).f1), .int .i64 ((rd_T61 l1 a2_1).f2), .int .i64 ((rd_T61 l1 a2_1).f3), .int .i64 0]) ?_ 4 _ rfl; (with_reducible repeat (first | refine blk_drewN ?_ _ | refine blk_drew ?_ | refine blk_alloc ?_ _)); refine blk_put (cs := #[.int .i64 ((rd_T61 l1 a2_1).f0), .int .i64 ((rd_T61 l1 a2_1).f1), .int .i64 ((rd_T61 l1 a2_1).f2), .int .i64 0, .int .i64 0]) ?_ 3 _ rfl; (with_reducible repeat (first | refine blk_drewN ?_ _ | refine blk_drew ?_ | refine blk_alloc ?_ _)); refine blk_put (cs := #[.int .i64 ((rd_T61 l1 a2_1).f0), .int .i64 ((rd_T61 l1 a2_1).f1), .int .i64 0, .int .i64 0, .int .i64 0]) ?_ 2 _ rfl; (with_reducible repeat (first | refine blk_drewN ?_ _ | refine blk_drew ?_ | refine blk_alloc ?_ _)); refine blk_put (cs := #[.int .i64 ((rd_T61 l1 a2_1).f0), .int .i64 0, .int .i64 0, .int .i64 0, .int .i64 0]) ?_ 1 _ rfl; (with_reducible repeat (first | refine blk_drewN ?_ _ | refine blk_drew ?_ | refine blk_alloc ?_ _)); refine blk_put (cs := #[.int .i64 0, .int .i64 0, .int .i64 0, .int .i64 0, .int .i64 0]) ?_ 0 _ rfl; (with_reducible repeat (first | refine blk_drewN ?_ _ | refine blk_drew ?_ | refine blk_alloc ?_ _)); exact BK196.out) hb); have n2_ := Aside0.mk (below_step (by repeat (first | (with_reducible first | exact HB.out | apply below_alloc | apply pw_below_drewN | apply below_drew1 | refine below_set ?_ GE192.out | refine below_set ?_ GE196.out) | exact HB.out)) hb); clear BK192; clear BK196; clear HB; have BK192 := n0_; have BK196 := n1_; have HB := n2_; clear n0_ n1_ n2_; (try clear hb); (try clear hb2); (try clear hk); (try clear hi); have hcz25_0 : w24.cell? ⟨gb192, 0, none⟩ = some (.int .i64 a2_0) := (blk_cell BK192.out 0).trans rfl; have hcz25_1 : w24.cell? ⟨gb192, 1, none⟩ = some (.int .i64 a2_1) := (blk_cell BK192.out 1).trans rfl; have hcz25_2 : w24.cell? ⟨gb192, 2, none⟩ = some (.int .i64 a2_2) := (blk_cell BK192.out 2).trans rfl; have hcz25_3 : w24.cell? ⟨gb192, 3, none⟩ = some (.int .i64 a2_3) := (blk_cell BK192.out 3).trans rfl; have hcz25_4 : w24.cell? ⟨gb192, 4, none⟩ = some (.int .i64 a2_4) := (blk_cell BK192.out 4).trans rfl; have hcz25_5 : w24.cell? ⟨gb192, 5, none⟩ = some (.int .i64 a2_5) := (blk_cell BK192.out 5).trans rfl; have hcz25_6 : w24.cell? ⟨gb192, 6, none⟩ = some (.int .i64 a2_6) := (blk_cell BK192.out 6).trans rfl; have hfz25_0 := blk_frozen BK192.out 0; have hfz25_1 := blk_frozen BK192.out 1; have hfz25_2 := blk_frozen BK192.out 2; have hfz25_3 := blk_frozen BK192.out 3; have hfz25_4 := blk_frozen BK192.out 4; have hfz25_5 := blk_frozen BK192.out 5; have hfz25_6 := blk_frozen BK192.out 6; have hcz26_0 : w24.cell? ⟨gb196, 0, none⟩ = some (.int .i64 ((rd_T61 l1 a2_1).f0)) := (blk_cell BK196.out 0).trans rfl; have hcz26_1 : w24.cell? ⟨gb196, 1, none⟩ = some (.int .i64 ((rd_T61 l1 a2_1).f1)) := (blk_cell BK196.out 1).trans rfl; have hcz26_2 : w24.cell? ⟨gb196, 2, none⟩ = some (.int .i64 ((rd_T61 l1 a2_1).f2)) := (blk_cell BK196.out 2).trans rfl; have hcz26_3 : w24.cell? ⟨gb196, 3, none⟩ = some (.int .i64 ((rd_T61 l1 a2_1).f3)) := (blk_cell BK196.out 3).trans rfl; have hcz26_4 : w24.cell? ⟨gb196, 4, none⟩ = some (.int .i64 ((rd_T61 l1 a2_1).f4)) := (blk_cell BK196.out 4).trans rfl; have hfz26_0 := blk_frozen BK196.out 0; have hfz26_1 := blk_frozen BK196.out 1; have hfz26_2 := blk_frozen BK196.out 2; have hfz26_3 := blk_frozen BK196.out 3; have hfz26_4 := blk_frozen BK196.out 4) | (go_at_call 53; (with_reducible refine (impl_IsOpen.calls a2_2 a2_3 a2_4 a2_5 a2_6 t198 _ A18.out).mono ?_); rintro e w27 ⟨rfl, hb⟩; have n0_ := Aside0.mk (blk_below (g := gb192) (o := .cells #[.int .i64 a2_0, .int .i64 a2_1, .int .i64 a2_2, .int .i64 a2_3, .int .i64 a2_4, .int .i64 a2_5, .int .i64 a2_6] 63 (0, 0)) (by (with_reducible repeat (first | refine blk_drewN ?_ _ | refine blk_drew ?_ | refine blk_alloc ?_ _)); exact BK192.out) hb); have n1_ := Aside0.mk (blk_below (g := gb196) (o := .cells #[.int .i64 ((rd_T61 l1 a2_1).f0), .int .i64 ((rd_T61 l1 a2_1).f1), .int .i64 ((rd_T61 l1 a2_1).f2), .int .i64 ((rd_T61 l1 a2_1).f3), .int .i64 ((rd_T61 l1 a2_1).f4)] 61 (0, 0)) (by (with_reducible repeat (first | refine blk_drewN ?_ _ | refine blk_drew ?_ | refine blk_alloc ?_ _)); exact BK196.out) hb); have n2_ := Aside0.mk (below_step (by repeat (first | (with_reducible first | exact HB.out | apply below_alloc | apply pw_below_drewN | apply below_drew1 | refine below_set ?_ GE192.out | refine below_set ?_ GE196.out) | exact HB.out)) hb); clear BK192; clear BK196; clear HB; have BK192 := n0_; have BK196 := n1_; have HB := n2_; clear n0_ n1_ n2_; (try clear hb); (try clear hb2); (try clear hk); (try clear hi)))
                  go_ret
                  exact ⟨by first | rfl | (simp [errW_none, errW_some] <;> rfl) | (simp [*, errW_none, errW_some] <;> rfl), by repeat (first | (with_reducible first | exact HB.out | apply below_alloc | apply pw_below_drewN | apply below_drew1 | refine below_set ?_ GE192.out | refine below_set ?_ GE196.out) | exact HB.out)⟩
                · rw [if_neg c17] at H
                  have c17b0 : (a2_3 == ((rd_T61 l1 a2_1).f1)) = false := beq_eq_false_iff_ne.mpr c17
                  have c17b1 : (a2_3 != ((rd_T61 l1 a2_1).f1)) = true := bne_iff_ne.mpr c17
                  obtain rfl := Option.some.inj H
                  have hcz28_0 : wc.cell? ⟨gb192, 0, none⟩ = some (.int .i64 a2_0) := (blk_cell BK192.out 0).trans rfl
                  have hcz28_1 : wc.cell? ⟨gb192, 1, none⟩ = some (.int .i64 a2_1) := (blk_cell BK192.out 1).trans rfl
                  have hcz28_2 : wc.cell? ⟨gb192, 2, none⟩ = some (.int .i64 a2_2) := (blk_cell BK192.out 2).trans rfl
                  have hcz28_3 : wc.cell? ⟨gb192, 3, none⟩ = some (.int .i64 a2_3) := (blk_cell BK192.out 3).trans rfl
                  have hcz28_4 : wc.cell? ⟨gb192, 4, none⟩ = some (.int .i64 a2_4) := (blk_cell BK192.out 4).trans rfl
                  have hcz28_5 : wc.cell? ⟨gb192, 5, none⟩ = some (.int .i64 a2_5) := (blk_cell BK192.out 5).trans rfl
                  have hcz28_6 : wc.cell? ⟨gb192, 6, none⟩ = some (.int .i64 a2_6) := (blk_cell BK192.out 6).trans rfl
                  have hfz28_0 := blk_frozen BK192.out 0
                  have hfz28_1 := blk_frozen BK192.out 1
                  have hfz28_2 := blk_frozen BK192.out 2
                  have hfz28_3 := blk_frozen BK192.out 3
                  have hfz28_4 := blk_frozen BK192.out 4
                  have hfz28_5 := blk_frozen BK192.out 5
                  have hfz28_6 := blk_frozen BK192.out 6
                  have p195 : 0 ≤ (a2_1 : Int) := of_decide_eq_true (by first | (with_reducible assumption) | assumption)
                  have q195 : a2_1 < (l1.length : Int) := of_decide_eq_true (by first | (with_reducible assumption) | assumption)
                  obtain ⟨ad195, e195, hx195_0, hx195_1, hx195_2, hx195_3, hx195_4⟩ := at_T61 HR1.out a2_1 p195 q195
                  cases e195
                  replace hx195_0 := (HB.out.cell (World.block_lt_of_cell? w _ hx195_0)).trans hx195_0
                  replace hx195_1 := (HB.out.cell (World.block_lt_of_cell? w _ hx195_1)).trans hx195_1
                  replace hx195_2 := (HB.out.cell (World.block_lt_of_cell? w _ hx195_2)).trans hx195_2
                  replace hx195_3 := (HB.out.cell (World.block_lt_of_cell? w _ hx195_3)).trans hx195_3
                  replace hx195_4 := (HB.out.cell (World.block_lt_of_cell? w _ hx195_4)).trans hx195_4
                  replace p195 := eq_true p195
                  replace q195 := eq_true q195
                  go_wp2_with (first | ((with_reducible refine gate_dst (N := 7) rfl ?_); (try (refine gate_guard (by rfl) ?_; dsimp only)); refine box_event ?hg (N := 7) ?hd (cs := #[.int .i64 0, .int .i64 0, .int .i64 0, .int .i64 0, .int .i64 0]) (t := 61) ?hr ?_; (case hd => rfl); (case hg => rfl); (case hr => first | (go_simp; done) | (go_simp; rfl)); intro gb196 hg w29 hbox hb; have n0_ := Aside0.mk (blk_below (g := gb192) (o := .cells #[.int .i64 a2_0, .int .i64 a2_1, .int .i64 a2_2, .int .i64 a2_3, .int .i64 a2_4, .int .i64 a2_5, .int .i64 a2_6] 63 (0, 0)) (by (with_reducible repeat (first | refine blk_drewN ?_ _ | refine blk_drew ?_ | refine blk_alloc ?_ _)); exact BK192.out) hb); have n1_ := Aside0.mk (below_step (by repeat (first | (with_reducible first | exact HB.out | apply below_alloc | apply pw_below_drewN | apply below_drew1 | refine below_set ?_ GE192.out) | exact HB.out)) hb); have n2_ := Aside0.mk (hbox); have n3_ := Aside0.mk ((by rw [hg]; exact (below_size (by repeat (first | (with_reducible first | exact HB.out | apply below_alloc | apply pw_below_drewN | apply below_drew1 | refine below_set ?_ GE192.out) | exact HB.out))) : w.heap.size ≤ gb196)); have n4_ := Aside0.mk ((by rw [hg]; exact (below_size (by repeat (first | (with_reducible first | exact HB.out | apply below_alloc | apply pw_below_drewN | apply below_drew1 | refine below_set ?_ GE192.out) | exact HB.out))) : w.heap.size ≤ gb196)); have n5_ := Aside0.mk ((by rw [hg]; exact Nat.ne_of_lt (blk_lt (g := gb192) (o := .cells #[.int .i64 a2_0, .int .i64 a2_1, .int .i64 a2_2, .int .i64 a2_3, .int .i64 a2_4, .int .i64 a2_5, .int .i64 a2_6] 63 (0, 0)) (by (with_reducible repeat (first | refine blk_drewN ?_ _ | refine blk_drew ?_ | refine blk_alloc ?_ _)); exact BK192.out)) : gb192 ≠ gb196)); have n6_ := Aside0.mk ((by rw [hg]; exact Nat.ne_of_gt (blk_lt (g := gb192) (o := .cells #[.int .i64 a2_0, .int .i64 a2_1, .int .i64 a2_2, .int .i64 a2_3, .int .i64 a2_4, .int .i64 a2_5, .int .i64 a2_6] 63 (0, 0)) (by (with_reducible repeat (first | refine blk_drewN ?_ _ | refine blk_drew ?_ | refine blk_alloc ?_ _)); exact BK192.out)) : gb196 ≠ gb192)); clear BK192; clear HB; have BK192 := n0_; have HB := n1_; have BK196 := n2_; have GW196 := n3_; have GE196 := n4_; have NB192_196 := n5_; have NB196_192 := n6_; clear n0_ n1_ n2_ n3_ n4_ n5_ n6_; clear hb hbox hg; have hnb30 := NB196_192.out; have hnc30 := NB192_196.out; have hcz31_0 : w29.cell? ⟨gb196, 0, none⟩ = some (.int .i64 0) := (blk_cell BK196.out 0).trans rfl; have hcz31_1 : w29.cell? ⟨gb196, 1, none⟩ = some (.int .i64 0) := (blk_cell BK196.out 1).trans rfl; have hcz31_2 : w29.cell? ⟨gb196, 2, none⟩ = some (.int .i64 0) := (blk_cell BK196.out 2).trans rfl; have hcz31_3 : w29.cell? ⟨gb196, 3, none⟩ = some (.int .i64 0) := (blk_cell BK196.out 3).trans rfl; have hcz31_4 : w29.cell? ⟨gb196, 4, none⟩ = some (.int .i64 0) := (blk_cell BK196.out 4).trans rfl; have hfz31_0 := blk_frozen BK196.out 0; have hfz31_1 := blk_frozen BK196.out 1; have hfz31_2 := blk_frozen BK196.out 2; have hfz31_3 := blk_frozen BK196.out 3; have hfz31_4 := blk_frozen BK196.out 4; have hcz32_0 : w29.cell? ⟨gb192, 0, none⟩ = some (.int .i64 a2_0) := (blk_cell BK192.out 0).trans rfl; have hcz32_1 : w29.cell? ⟨gb192, 1, none⟩ = some (.int .i64 a2_1) := (blk_cell BK192.out 1).trans rfl; have hcz32_2 : w29.cell? ⟨gb192, 2, none⟩ = some (.int .i64 a2_2) := (blk_cell BK192.out 2).trans rfl; have hcz32_3 : w29.cell? ⟨gb192, 3, none⟩ = some (.int .i64 a2_3) := (blk_cell BK192.out 3).trans rfl; have hcz32_4 : w29.cell? ⟨gb192, 4, none⟩ = some (.int .i64 a2_4) := (blk_cell BK192.out 4).trans rfl; have hcz32_5 : w29.cell? ⟨gb192, 5, none⟩ = some (.int .i64 a2_5) := (blk_cell BK192.out 5).trans rfl; have hcz32_6 : w29.cell? ⟨gb192, 6, none⟩ = some (.int .i64 a2_6) := (blk_cell BK192.out 6).trans rfl; have hfz32_0 := blk_frozen BK192.out 0; have hfz32_1 := blk_frozen BK192.out 1; have hfz32_2 := blk_frozen BK192.out 2; have hfz32_3 := blk_frozen BK192.out 3; have hfz32_4 := blk_frozen BK192.out 4; have hfz32_5 := blk_frozen BK192.out 5; have hfz32_6 := blk_frozen BK192.out 6) | ((with_reducible refine gate_callee (f := 52) rfl ?_); refine goesL_ (some 29) rfl rfl Try.func52 (by kernel_rfl) rfl #[.int .i64 a0, .agg #[.int .i64 a2_2, .int .i64 a2_3, .int .i64 a2_4, .int .i64 a2_5, .int .i64 a2_6]] rfl (by (try simp only [List.map_toArray, List.map_cons, List.map_nil]); first | done | rfl | (simp only [List.length_drop, List.length_take]; rfl)) ?_; (with_reducible refine (impl_GameOk.calls kj3 a0 a2_2 a2_3 a2_4 a2_5 a2_6 true _ A14.out).mono ?_); rintro e w33 ⟨rfl, hb⟩; refine ⟨_, rfl, ?_⟩; have n0_ := Aside0.mk (blk_below (g := gb192) (o := .cells #[.int .i64 a2_0, .int .i64 a2_1, .int .i64 a2_2, .int .i64 a2_3, .int .i64 a2_4, .int .i64 a2_5, .int .i64 a2_6] 63 (0, 0)) (by (with_reducible repeat (first | refine blk_drewN ?_ _ | refine blk_drew ?_ | refine blk_alloc ?_ _)); refine blk_far ?_ NB192_196.out _; (with_reducible repeat (first | refine blk_drewN ?_ _ | refine blk_drew ?_ | refine blk_alloc ?_ _)); refine blk_far ?_ NB192_196.out _; (with_reducible repeat (first | refine blk_drewN ?_ _ | refine blk_drew ?_ | refine blk_alloc ?_ _)); refine blk_far ?_ NB192_196.out _; (with_reducible repeat (first | refine blk_drewN ?_ _ | refine blk_drew ?_ | refine blk_alloc ?_ _)); refine blk_far ?_ NB192_196.out _; (with_reducible repeat (first | refine blk_drewN ?_ _ | refine blk_drew ?_ | refine blk_alloc ?_ _)); refine blk_far ?_ NB192_196.out _; (with_reducible repeat (first | refine blk_drewN ?_ _ | refine blk_drew ?_ | refine blk_alloc ?_ _)); exact BK192.out) hb); have n1_ := Aside0.mk (blk_below (g := gb196) (o := .cells #[.int .i64 ((rd_T61 l1 a2_1).f0), .int .i64 ((rd_T61 l1 a2_1).f1), .int .i64 ((rd_T61 l1 a2_1).f2), .int .i64 ((rd_T61 l1 a2_1).f3), .int .i64 ((rd_T61 l1 a2_1).f4)] 61 (0, 0)) (by (with_reducible repeat (first | refine blk_drewN ?_ _ | refine blk_drew ?_ | refine blk_alloc ?_ _)); refine blk_put (cs := #[.int .i64 ((rd_T61 l1 a2_1).f0), .int .i64 ((rd_T61 l1 a2_1).f1), .int .i64 ((rd_T61 l1 a2_1).f2), .int .i64 ((rd_T61 l1 a2_1).f3), .int .i64 0]) ?_ 4 _ rfl; (with_reducible repeat (first | refine blk_drewN ?_ _ | refine blk_drew ?_ | refine blk_alloc ?_ _)); refine blk_put (cs := #[.int .i64 ((rd_T61 l1 a2_1).f0), .int .i64 ((rd_T61 l1 a2_1).f1), .int .i64 ((rd_T61 l1 a2_1).f2), .int .i64 0, .int .i64 0]) ?_ 3 _ rfl; (with_reducible repeat (first | refine blk_drewN ?_ _ | refine blk_drew ?_ | refine blk_alloc ?_ _)); refine blk_put (cs := #[.int .i64 ((rd_T61 l1 a2_1).f0), .int .i64 ((rd_T61 l1 a2_1).f1), .int .i64 0, .int .i64 0, .int .i64 0]) ?_ 2 _ rfl; (with_reducible repeat (first | refine blk_drewN ?_ _ | refine blk_drew ?_ | refine blk_alloc ?_ _)); refine blk_put (cs := #[.int .i64 ((rd_T61 l1 a2_1).f0), .int .i64 0, .int .i64 0, .int .i64 0, .int .i64 0]) ?_ 1 _ rfl; (with_reducible repeat (first | refine blk_drewN ?_ _ | refine blk_drew ?_ | refine blk_alloc ?_ _)); refine blk_put (cs := #[.int .i64 0, .int .i64 0, .int .i64 0, .int .i64 0, .int .i64 0]) ?_ 0 _ rfl; (with_reducible repeat (first | refine blk_drewN ?_ _ | refine blk_drew ?_ | refine blk_alloc ?_ _)); exact BK196.out) hb); have n2_ := Aside0.mk (below_step (by repeat (first | (with_reducible first | exact HB.out | apply below_alloc | apply pw_below_drewN | apply below_drew1 | refine below_set ?_ GE192.out | refine below_set ?_ GE196.out) | exact HB.out)) hb); clear BK192; clear BK196; clear HB; have BK192 := n0_; have BK196 := n1_; have HB := n2_; clear n0_ n1_ n2_; (try clear hb); (try clear hb2); (try clear hk); (try clear hi); have hcz34_0 : w33.cell? ⟨gb192, 0, none⟩ = some (.int .i64 a2_0) := (blk_cell BK192.out 0).trans rfl; have hcz34_1 : w33.cell? ⟨gb192, 1, none⟩ = some (.int .i64 a2_1) := (blk_cell BK192.out 1).trans rfl; have hcz34_2 : w33.cell? ⟨gb192, 2, none⟩ = some (.int .i64 a2_2) := (blk_cell BK192.out 2).trans rfl; have hcz34_3 : w33.cell? ⟨gb192, 3, none⟩ = some (.int .i64 a2_3) := (blk_cell BK192.out 3).trans rfl; have hcz34_4 : w33.cell? ⟨gb192, 4, none⟩ = some (.int .i64 a2_4) := (blk_cell BK192.out 4).trans rfl; have hcz34_5 : w33.cell? ⟨gb192, 5, none⟩ = some (.int .i64 a2_5) := (blk_cell BK192.out 5).trans rfl; have hcz34_6 : w33.cell? ⟨gb192, 6, none⟩ = some (.int .i64 a2_6) := (blk_cell BK192.out 6).trans rfl; have hfz34_0 := blk_frozen BK192.out 0; have hfz34_1 := blk_frozen BK192.out 1; have hfz34_2 := blk_frozen BK192.out 2; have hfz34_3 := blk_frozen BK192.out 3; have hfz34_4 := blk_frozen BK192.out 4; have hfz34_5 := blk_frozen BK192.out 5; have hfz34_6 := blk_frozen BK192.out 6; have hcz35_0 : w33.cell? ⟨gb196, 0, none⟩ = some (.int .i64 ((rd_T61 l1 a2_1).f0)) := (blk_cell BK196.out 0).trans rfl; have hcz35_1 : w33.cell? ⟨gb196, 1, none⟩ = some (.int .i64 ((rd_T61 l1 a2_1).f1)) := (blk_cell BK196.out 1).trans rfl; have hcz35_2 : w33.cell? ⟨gb196, 2, none⟩ = some (.int .i64 ((rd_T61 l1 a2_1).f2)) := (blk_cell BK196.out 2).trans rfl; have hcz35_3 : w33.cell? ⟨gb196, 3, none⟩ = some (.int .i64 ((rd_T61 l1 a2_1).f3)) := (blk_cell BK196.out 3).trans rfl; have hcz35_4 : w33.cell? ⟨gb196, 4, none⟩ = some (.int .i64 ((rd_T61 l1 a2_1).f4)) := (blk_cell BK196.out 4).trans rfl; have hfz35_0 := blk_frozen BK196.out 0; have hfz35_1 := blk_frozen BK196.out 1; have hfz35_2 := blk_frozen BK196.out 2; have hfz35_3 := blk_frozen BK196.out 3; have hfz35_4 := blk_frozen BK196.out 4))
                  go_ret
                  exact ⟨by first | rfl | (simp [errW_none, errW_some] <;> rfl) | (simp [*, errW_none, errW_some] <;> rfl), by repeat (first | (with_reducible first | exact HB.out | apply below_alloc | apply pw_below_drewN | apply below_drew1 | refine below_set ?_ GE192.out | refine below_set ?_ GE196.out) | exact HB.out)⟩
              · rw [if_neg c16] at H
                have c16b0 : (a2_2 == ((rd_T61 l1 a2_1).f0)) = false := beq_eq_false_iff_ne.mpr c16
                have c16b1 : (a2_2 != ((rd_T61 l1 a2_1).f0)) = true := bne_iff_ne.mpr c16
                obtain rfl := Option.some.inj H
                have hcz36_0 : wc.cell? ⟨gb192, 0, none⟩ = some (.int .i64 a2_0) := (blk_cell BK192.out 0).trans rfl
                have hcz36_1 : wc.cell? ⟨gb192, 1, none⟩ = some (.int .i64 a2_1) := (blk_cell BK192.out 1).trans rfl
                have hcz36_2 : wc.cell? ⟨gb192, 2, none⟩ = some (.int .i64 a2_2) := (blk_cell BK192.out 2).trans rfl
                have hcz36_3 : wc.cell? ⟨gb192, 3, none⟩ = some (.int .i64 a2_3) := (blk_cell BK192.out 3).trans rfl
                have hcz36_4 : wc.cell? ⟨gb192, 4, none⟩ = some (.int .i64 a2_4) := (blk_cell BK192.out 4).trans rfl
                have hcz36_5 : wc.cell? ⟨gb192, 5, none⟩ = some (.int .i64 a2_5) := (blk_cell BK192.out 5).trans rfl
                have hcz36_6 : wc.cell? ⟨gb192, 6, none⟩ = some (.int .i64 a2_6) := (blk_cell BK192.out 6).trans rfl
                have hfz36_0 := blk_frozen BK192.out 0
                have hfz36_1 := blk_frozen BK192.out 1
                have hfz36_2 := blk_frozen BK192.out 2
                have hfz36_3 := blk_frozen BK192.out 3
                have hfz36_4 := blk_frozen BK192.out 4
                have hfz36_5 := blk_frozen BK192.out 5
                have hfz36_6 := blk_frozen BK192.out 6
                have p195 : 0 ≤ (a2_1 : Int) := of_decide_eq_true (by first | (with_reducible assumption) | assumption)
                have q195 : a2_1 < (l1.length : Int) := of_decide_eq_true (by first | (with_reducible assumption) | assumption)
                obtain ⟨ad195, e195, hx195_0, hx195_1, hx195_2, hx195_3, hx195_4⟩ := at_T61 HR1.out a2_1 p195 q195
                cases e195
                replace hx195_0 := (HB.out.cell (World.block_lt_of_cell? w _ hx195_0)).trans hx195_0
                replace hx195_1 := (HB.out.cell (World.block_lt_of_cell? w _ hx195_1)).trans hx195_1
                replace hx195_2 := (HB.out.cell (World.block_lt_of_cell? w _ hx195_2)).trans hx195_2
                replace hx195_3 := (HB.out.cell (World.block_lt_of_cell? w _ hx195_3)).trans hx195_3
                replace hx195_4 := (HB.out.cell (World.block_lt_of_cell? w _ hx195_4)).trans hx195_4
                replace p195 := eq_true p195
                replace q195 := eq_true q195
                go_wp2_with (first | ((with_reducible refine gate_dst (N := 7) rfl ?_); (try (refine gate_guard (by rfl) ?_; dsimp only)); refine box_event ?hg (N := 7) ?hd (cs := #[.int .i64 0, .int .i64 0, .int .i64 0, .int .i64 0, .int .i64 0]) (t := 61) ?hr ?_; (case hd => rfl); (case hg => rfl); (case hr => first | (go_simp; done) | (go_simp; rfl)); intro gb196 hg w37 hbox hb; have n0_ := Aside0.mk (blk_below (g := gb192) (o := .cells #[.int .i64 a2_0, .int .i64 a2_1, .int .i64 a2_2, .int .i64 a2_3, .int .i64 a2_4, .int .i64 a2_5, .int .i64 a2_6] 63 (0, 0)) (by (with_reducible repeat (first | refine blk_drewN ?_ _ | refine blk_drew ?_ | refine blk_alloc ?_ _)); exact BK192.out) hb); have n1_ := Aside0.mk (below_step (by repeat (first | (with_reducible first | exact HB.out | apply below_alloc | apply pw_below_drewN | apply below_drew1 | refine below_set ?_ GE192.out) | exact HB.out)) hb); have n2_ := Aside0.mk (hbox); have n3_ := Aside0.mk ((by rw [hg]; exact (below_size (by repeat (first | (with_reducible first | exact HB.out | apply below_alloc | apply pw_below_drewN | apply below_drew1 | refine below_set ?_ GE192.out) | exact HB.out))) : w.heap.size ≤ gb196)); have n4_ := Aside0.mk ((by rw [hg]; exact (below_size (by repeat (first | (with_reducible first | exact HB.out | apply below_alloc | apply pw_below_drewN | apply below_drew1 | refine below_set ?_ GE192.out) | exact HB.out))) : w.heap.size ≤ gb196)); have n5_ := Aside0.mk ((by rw [hg]; exact Nat.ne_of_lt (blk_lt (g := gb192) (o := .cells #[.int .i64 a2_0, .int .i64 a2_1, .int .i64 a2_2, .int .i64 a2_3, .int .i64 a2_4, .int .i64 a2_5, .int .i64 a2_6] 63 (0, 0)) (by (with_reducible repeat (first | refine blk_drewN ?_ _ | refine blk_drew ?_ | refine blk_alloc ?_ _)); exact BK192.out)) : gb192 ≠ gb196)); have n6_ := Aside0.mk ((by rw [hg]; exact Nat.ne_of_gt (blk_lt (g := gb192) (o := .cells #[.int .i64 a2_0, .int .i64 a2_1, .int .i64 a2_2, .int .i64 a2_3, .int .i64 a2_4, .int .i64 a2_5, .int .i64 a2_6] 63 (0, 0)) (by (with_reducible repeat (first | refine blk_drewN ?_ _ | refine blk_drew ?_ | refine blk_alloc ?_ _)); exact BK192.out)) : gb196 ≠ gb192)); clear BK192; clear HB; have BK192 := n0_; have HB := n1_; have BK196 := n2_; have GW196 := n3_; have GE196 := n4_; have NB192_196 := n5_; have NB196_192 := n6_; clear n0_ n1_ n2_ n3_ n4_ n5_ n6_; clear hb hbox hg; have hnb38 := NB196_192.out; have hnc38 := NB192_196.out; have hcz39_0 : w37.cell? ⟨gb196, 0, none⟩ = some (.int .i64 0) := (blk_cell BK196.out 0).trans rfl; have hcz39_1 : w37.cell? ⟨gb196, 1, none⟩ = some (.int .i64 0) := (blk_cell BK196.out 1).trans rfl; have hcz39_2 : w37.cell? ⟨gb196, 2, none⟩ = some (.int .i64 0) := (blk_cell BK196.out 2).trans rfl; have hcz39_3 : w37.cell? ⟨gb196, 3, none⟩ = some (.int .i64 0) := (blk_cell BK196.out 3).trans rfl; have hcz39_4 : w37.cell? ⟨gb196, 4, none⟩ = some (.int .i64 0) := (blk_cell BK196.out 4).trans rfl; have hfz39_0 := blk_frozen BK196.out 0; have hfz39_1 := blk_frozen BK196.out 1; have hfz39_2 := blk_frozen BK196.out 2; have hfz39_3 := blk_frozen BK196.out 3; have hfz39_4 := blk_frozen BK196.out 4; have hcz40_0 : w37.cell? ⟨gb192, 0, none⟩ = some (.int .i64 a2_0) := (blk_cell BK192.out 0).trans rfl; have hcz40_1 : w37.cell? ⟨gb192, 1, none⟩ = some (.int .i64 a2_1) := (blk_cell BK192.out 1).trans rfl; have hcz40_2 : w37.cell? ⟨gb192, 2, none⟩ = some (.int .i64 a2_2) := (blk_cell BK192.out 2).trans rfl; have hcz40_3 : w37.cell? ⟨gb192, 3, none⟩ = some (.int .i64 a2_3) := (blk_cell BK192.out 3).trans rfl; have hcz40_4 : w37.cell? ⟨gb192, 4, none⟩ = some (.int .i64 a2_4) := (blk_cell BK192.out 4).trans rfl; have hcz40_5 : w37.cell? ⟨gb192, 5, none⟩ = some (.int .i64 a2_5) := (blk_cell BK192.out 5).trans rfl; have hcz40_6 : w37.cell? ⟨gb192, 6, none⟩ = some (.int .i64 a2_6) := (blk_cell BK192.out 6).trans rfl; have hfz40_0 := blk_frozen BK192.out 0; have hfz40_1 := blk_frozen BK192.out 1; have hfz40_2 := blk_frozen BK192.out 2; have hfz40_3 := blk_frozen BK192.out 3; have hfz40_4 := blk_frozen BK192.out 4; have hfz40_5 := blk_frozen BK192.out 5; have hfz40_6 := blk_frozen BK192.out 6) | ((with_reducible refine gate_callee (f := 52) rfl ?_); refine goesL_ (some 29) rfl rfl Try.func52 (by kernel_rfl) rfl #[.int .i64 a0, .agg #[.int .i64 a2_2, .int .i64 a2_3, .int .i64 a2_4, .int .i64 a2_5, .int .i64 a2_6]] rfl (by (try simp only [List.map_toArray, List.map_cons, List.map_nil]); first | done | rfl | (simp only [List.length_drop, List.length_take]; rfl)) ?_; (with_reducible refine (impl_GameOk.calls kj3 a0 a2_2 a2_3 a2_4 a2_5 a2_6 true _ A14.out).mono ?_); rintro e w41 ⟨rfl, hb⟩; refine ⟨_, rfl, ?_⟩; have n0_ := Aside0.mk (blk_below (g := gb192) (o := .cells #[.int .i64 a2_0, .int .i64 a2_1, .int .i64 a2_2, .int .i64 a2_3, .int .i64 a2_4, .int .i64 a2_5, .int .i64 a2_6] 63 (0, 0)) (by (with_reducible repeat (first | refine blk_drewN ?_ _ | refine blk_drew ?_ | refine blk_alloc ?_ _)); refine blk_far ?_ NB192_196.out _; (with_reducible repeat (first | refine blk_drewN ?_ _ | refine blk_drew ?_ | refine blk_alloc ?_ _)); refine blk_far ?_ NB192_196.out _; (with_reducible repeat (first | refine blk_drewN ?_ _ | refine blk_drew ?_ | refine blk_alloc ?_ _)); refine blk_far ?_ NB192_196.out _; (with_reducible repeat (first | refine blk_drewN ?_ _ | refine blk_drew ?_ | refine blk_alloc ?_ _)); refine blk_far ?_ NB192_196.out _; (with_reducible repeat (first | refine blk_drewN ?_ _ | refine blk_drew ?_ | refine blk_alloc ?_ _)); refine blk_far ?_ NB192_196.out _; (with_reducible repeat (first | refine blk_drewN ?_ _ | refine blk_drew ?_ | refine blk_alloc ?_ _)); exact BK192.out) hb); have n1_ := Aside0.mk (blk_below (g := gb196) (o := .cells #[.int .i64 ((rd_T61 l1 a2_1).f0), .int .i64 ((rd_T61 l1 a2_1).f1), .int .i64 ((rd_T61 l1 a2_1).f2), .int .i64 ((rd_T61 l1 a2_1).f3), .int .i64 ((rd_T61 l1 a2_1).f4)] 61 (0, 0)) (by (with_reducible repeat (first | refine blk_drewN ?_ _ | refine blk_drew ?_ | refine blk_alloc ?_ _)); refine blk_put (cs := #[.int .i64 ((rd_T61 l1 a2_1).f0), .int .i64 ((rd_T61 l1 a2_1).f1), .int .i64 ((rd_T61 l1 a2_1).f2), .int .i64 ((rd_T61 l1 a2_1).f3), .int .i64 0]) ?_ 4 _ rfl; (with_reducible repeat (first | refine blk_drewN ?_ _ | refine blk_drew ?_ | refine blk_alloc ?_ _)); refine blk_put (cs := #[.int .i64 ((rd_T61 l1 a2_1).f0), .int .i64 ((rd_T61 l1 a2_1).f1), .int .i64 ((rd_T61 l1 a2_1).f2), .int .i64 0, .int .i64 0]) ?_ 3 _ rfl; (with_reducible repeat (first | refine blk_drewN ?_ _ | refine blk_drew ?_ | refine blk_alloc ?_ _)); refine blk_put (cs := #[.int .i64 ((rd_T61 l1 a2_1).f0), .int .i64 ((rd_T61 l1 a2_1).f1), .int .i64 0, .int .i64 0, .int .i64 0]) ?_ 2 _ rfl; (with_reducible repeat (first | refine blk_drewN ?_ _ | refine blk_drew ?_ | refine blk_alloc ?_ _)); refine blk_put (cs := #[.int .i64 ((rd_T61 l1 a2_1).f0), .int .i64 0, .int .i64 0, .int .i64 0, .int .i64 0]) ?_ 1 _ rfl; (with_reducible repeat (first | refine blk_drewN ?_ _ | refine blk_drew ?_ | refine blk_alloc ?_ _)); refine blk_put (cs := #[.int .i64 0, .int .i64 0, .int .i64 0, .int .i64 0, .int .i64 0]) ?_ 0 _ rfl; (with_reducible repeat (first | refine blk_drewN ?_ _ | refine blk_drew ?_ | refine blk_alloc ?_ _)); exact BK196.out) hb); have n2_ := Aside0.mk (below_step (by repeat (first | (with_reducible first | exact HB.out | apply below_alloc | apply pw_below_drewN | apply below_drew1 | refine below_set ?_ GE192.out | refine below_set ?_ GE196.out) | exact HB.out)) hb); clear BK192; clear BK196; clear HB; have BK192 := n0_; have BK196 := n1_; have HB := n2_; clear n0_ n1_ n2_; (try clear hb); (try clear hb2); (try clear hk); (try clear hi); have hcz42_0 : w41.cell? ⟨gb192, 0, none⟩ = some (.int .i64 a2_0) := (blk_cell BK192.out 0).trans rfl; have hcz42_1 : w41.cell? ⟨gb192, 1, none⟩ = some (.int .i64 a2_1) := (blk_cell BK192.out 1).trans rfl; have hcz42_2 : w41.cell? ⟨gb192, 2, none⟩ = some (.int .i64 a2_2) := (blk_cell BK192.out 2).trans rfl; have hcz42_3 : w41.cell? ⟨gb192, 3, none⟩ = some (.int .i64 a2_3) := (blk_cell BK192.out 3).trans rfl; have hcz42_4 : w41.cell? ⟨gb192, 4, none⟩ = some (.int .i64 a2_4) := (blk_cell BK192.out 4).trans rfl; have hcz42_5 : w41.cell? ⟨gb192, 5, none⟩ = some (.int .i64 a2_5) := (blk_cell BK192.out 5).trans rfl; have hcz42_6 : w41.cell? ⟨gb192, 6, none⟩ = some (.int .i64 a2_6) := (blk_cell BK192.out 6).trans rfl; have hfz42_0 := blk_frozen BK192.out 0; have hfz42_1 := blk_frozen BK192.out 1; have hfz42_2 := blk_frozen BK192.out 2; have hfz42_3 := blk_frozen BK192.out 3; have hfz42_4 := blk_frozen BK192.out 4; have hfz42_5 := blk_frozen BK192.out 5; have hfz42_6 := blk_frozen BK192.out 6; have hcz43_0 : w41.cell? ⟨gb196, 0, none⟩ = some (.int .i64 ((rd_T61 l1 a2_1).f0)) := (blk_cell BK196.out 0).trans rfl; have hcz43_1 : w41.cell? ⟨gb196, 1, none⟩ = some (.int .i64 ((rd_T61 l1 a2_1).f1)) := (blk_cell BK196.out 1).trans rfl; have hcz43_2 : w41.cell? ⟨gb196, 2, none⟩ = some (.int .i64 ((rd_T61 l1 a2_1).f2)) := (blk_cell BK196.out 2).trans rfl; have hcz43_3 : w41.cell? ⟨gb196, 3, none⟩ = some (.int .i64 ((rd_T61 l1 a2_1).f3)) := (blk_cell BK196.out 3).trans rfl; have hcz43_4 : w41.cell? ⟨gb196, 4, none⟩ = some (.int .i64 ((rd_T61 l1 a2_1).f4)) := (blk_cell BK196.out 4).trans rfl; have hfz43_0 := blk_frozen BK196.out 0; have hfz43_1 := blk_frozen BK196.out 1; have hfz43_2 := blk_frozen BK196.out 2; have hfz43_3 := blk_frozen BK196.out 3; have hfz43_4 := blk_frozen BK196.out 4))
                go_ret
                exact ⟨by first | rfl | (simp [errW_none, errW_some] <;> rfl) | (simp [*, errW_none, errW_some] <;> rfl), by repeat (first | (with_reducible first | exact HB.out | apply below_alloc | apply pw_below_drewN | apply below_drew1 | refine below_set ?_ GE192.out | refine below_set ?_ GE196.out) | exact HB.out)⟩
            · replace c15 := Bool.eq_false_iff.mpr c15
              subst c15
              have H1 : (some false) = some r := by rw [if_neg (show ¬ (false = true) by decide)] at H; exact H
              clear H
              have H := H1
              clear H1
              obtain rfl := Option.some.inj H
              have hcz44_0 : wc.cell? ⟨gb192, 0, none⟩ = some (.int .i64 a2_0) := (blk_cell BK192.out 0).trans rfl
              have hcz44_1 : wc.cell? ⟨gb192, 1, none⟩ = some (.int .i64 a2_1) := (blk_cell BK192.out 1).trans rfl
              have hcz44_2 : wc.cell? ⟨gb192, 2, none⟩ = some (.int .i64 a2_2) := (blk_cell BK192.out 2).trans rfl
              have hcz44_3 : wc.cell? ⟨gb192, 3, none⟩ = some (.int .i64 a2_3) := (blk_cell BK192.out 3).trans rfl
              have hcz44_4 : wc.cell? ⟨gb192, 4, none⟩ = some (.int .i64 a2_4) := (blk_cell BK192.out 4).trans rfl
              have hcz44_5 : wc.cell? ⟨gb192, 5, none⟩ = some (.int .i64 a2_5) := (blk_cell BK192.out 5).trans rfl
              have hcz44_6 : wc.cell? ⟨gb192, 6, none⟩ = some (.int .i64 a2_6) := (blk_cell BK192.out 6).trans rfl
              have hfz44_0 := blk_frozen BK192.out 0
              have hfz44_1 := blk_frozen BK192.out 1
              have hfz44_2 := blk_frozen BK192.out 2
              have hfz44_3 := blk_frozen BK192.out 3
              have hfz44_4 := blk_frozen BK192.out 4
              have hfz44_5 := blk_frozen BK192.out 5
              have hfz44_6 := blk_frozen BK192.out 6
              have p195 : 0 ≤ (a2_1 : Int) := of_decide_eq_true (by first | (with_reducible assumption) | assumption)
              have q195 : a2_1 < (l1.length : Int) := of_decide_eq_true (by first | (with_reducible assumption) | assumption)
              obtain ⟨ad195, e195, hx195_0, hx195_1, hx195_2, hx195_3, hx195_4⟩ := at_T61 HR1.out a2_1 p195 q195
              cases e195
              replace hx195_0 := (HB.out.cell (World.block_lt_of_cell? w _ hx195_0)).trans hx195_0
              replace hx195_1 := (HB.out.cell (World.block_lt_of_cell? w _ hx195_1)).trans hx195_1
              replace hx195_2 := (HB.out.cell (World.block_lt_of_cell? w _ hx195_2)).trans hx195_2
              replace hx195_3 := (HB.out.cell (World.block_lt_of_cell? w _ hx195_3)).trans hx195_3
              replace hx195_4 := (HB.out.cell (World.block_lt_of_cell? w _ hx195_4)).trans hx195_4
              replace p195 := eq_true p195
              replace q195 := eq_true q195
              go_wp2_with (first | ((with_reducible refine gate_dst (N := 7) rfl ?_); (try (refine gate_guard (by rfl) ?_; dsimp only)); refine box_event ?hg (N := 7) ?hd (cs := #[.int .i64 0, .int .i64 0, .int .i64 0, .int .i64 0, .int .i64 0]) (t := 61) ?hr ?_; (case hd => rfl); (case hg => rfl); (case hr => first | (go_simp; done) | (go_simp; rfl)); intro gb196 hg w45 hbox hb; have n0_ := Aside0.mk (blk_below (g := gb192) (o := .cells #[.int .i64 a2_0, .int .i64 a2_1, .int .i64 a2_2, .int .i64 a2_3, .int .i64 a2_4, .int .i64 a2_5, .int .i64 a2_6] 63 (0, 0)) (by (with_reducible repeat (first | refine blk_drewN ?_ _ | refine blk_drew ?_ | refine blk_alloc ?_ _)); exact BK192.out) hb); have n1_ := Aside0.mk (below_step (by repeat (first | (with_reducible first | exact HB.out | apply below_alloc | apply pw_below_drewN | apply below_drew1 | refine below_set ?_ GE192.out) | exact HB.out)) hb); have n2_ := Aside0.mk (hbox); have n3_ := Aside0.mk ((by rw [hg]; exact (below_size (by repeat (first | (with_reducible first | exact HB.out | apply below_alloc | apply pw_below_drewN | apply below_drew1 | refine below_set ?_ GE192.out) | exact HB.out))) : w.heap.size ≤ gb196)); have n4_ := Aside0.mk ((by rw [hg]; exact (below_size (by repeat (first | (with_reducible first | exact HB.out | apply below_alloc | apply pw_below_drewN | apply below_drew1 | refine below_set ?_ GE192.out) | exact HB.out))) : w.heap.size ≤ gb196)); have n5_ := Aside0.mk ((by rw [hg]; exact Nat.ne_of_lt (blk_lt (g := gb192) (o := .cells #[.int .i64 a2_0, .int .i64 a2_1, .int .i64 a2_2, .int .i64 a2_3, .int .i64 a2_4, .int .i64 a2_5, .int .i64 a2_6] 63 (0, 0)) (by (with_reducible repeat (first | refine blk_drewN ?_ _ | refine blk_drew ?_ | refine blk_alloc ?_ _)); exact BK192.out)) : gb192 ≠ gb196)); have n6_ := Aside0.mk ((by rw [hg]; exact Nat.ne_of_gt (blk_lt (g := gb192) (o := .cells #[.int .i64 a2_0, .int .i64 a2_1, .int .i64 a2_2, .int .i64 a2_3, .int .i64 a2_4, .int .i64 a2_5, .int .i64 a2_6] 63 (0, 0)) (by (with_reducible repeat (first | refine blk_drewN ?_ _ | refine blk_drew ?_ | refine blk_alloc ?_ _)); exact BK192.out)) : gb196 ≠ gb192)); clear BK192; clear HB; have BK192 := n0_; have HB := n1_; have BK196 := n2_; have GW196 := n3_; have GE196 := n4_; have NB192_196 := n5_; have NB196_192 := n6_; clear n0_ n1_ n2_ n3_ n4_ n5_ n6_; clear hb hbox hg; have hnb46 := NB196_192.out; have hnc46 := NB192_196.out; have hcz47_0 : w45.cell? ⟨gb196, 0, none⟩ = some (.int .i64 0) := (blk_cell BK196.out 0).trans rfl; have hcz47_1 : w45.cell? ⟨gb196, 1, none⟩ = some (.int .i64 0) := (blk_cell BK196.out 1).trans rfl; have hcz47_2 : w45.cell? ⟨gb196, 2, none⟩ = some (.int .i64 0) := (blk_cell BK196.out 2).trans rfl; have hcz47_3 : w45.cell? ⟨gb196, 3, none⟩ = some (.int .i64 0) := (blk_cell BK196.out 3).trans rfl; have hcz47_4 : w45.cell? ⟨gb196, 4, none⟩ = some (.int .i64 0) := (blk_cell BK196.out 4).trans rfl; have hfz47_0 := blk_frozen BK196.out 0; have hfz47_1 := blk_frozen BK196.out 1; have hfz47_2 := blk_frozen BK196.out 2; have hfz47_3 := blk_frozen BK196.out 3; have hfz47_4 := blk_frozen BK196.out 4; have hcz48_0 : w45.cell? ⟨gb192, 0, none⟩ = some (.int .i64 a2_0) := (blk_cell BK192.out 0).trans rfl; have hcz48_1 : w45.cell? ⟨gb192, 1, none⟩ = some (.int .i64 a2_1) := (blk_cell BK192.out 1).trans rfl; have hcz48_2 : w45.cell? ⟨gb192, 2, none⟩ = some (.int .i64 a2_2) := (blk_cell BK192.out 2).trans rfl; have hcz48_3 : w45.cell? ⟨gb192, 3, none⟩ = some (.int .i64 a2_3) := (blk_cell BK192.out 3).trans rfl; have hcz48_4 : w45.cell? ⟨gb192, 4, none⟩ = some (.int .i64 a2_4) := (blk_cell BK192.out 4).trans rfl; have hcz48_5 : w45.cell? ⟨gb192, 5, none⟩ = some (.int .i64 a2_5) := (blk_cell BK192.out 5).trans rfl; have hcz48_6 : w45.cell? ⟨gb192, 6, none⟩ = some (.int .i64 a2_6) := (blk_cell BK192.out 6).trans rfl; have hfz48_0 := blk_frozen BK192.out 0; have hfz48_1 := blk_frozen BK192.out 1; have hfz48_2 := blk_frozen BK192.out 2; have hfz48_3 := blk_frozen BK192.out 3; have hfz48_4 := blk_frozen BK192.out 4; have hfz48_5 := blk_frozen BK192.out 5; have hfz48_6 := blk_frozen BK192.out 6) | ((with_reducible refine gate_callee (f := 52) rfl ?_); refine goesL_ (some 29) rfl rfl Try.func52 (by kernel_rfl) rfl #[.int .i64 a0, .agg #[.int .i64 a2_2, .int .i64 a2_3, .int .i64 a2_4, .int .i64 a2_5, .int .i64 a2_6]] rfl (by (try simp only [List.map_toArray, List.map_cons, List.map_nil]); first | done | rfl | (simp only [List.length_drop, List.length_take]; rfl)) ?_; (with_reducible refine (impl_GameOk.calls kj3 a0 a2_2 a2_3 a2_4 a2_5 a2_6 false _ A14.out).mono ?_); rintro e w49 ⟨rfl, hb⟩; refine ⟨_, rfl, ?_⟩; have n0_ := Aside0.mk (blk_below (g := gb192) (o := .cells #[.int .i64 a2_0, .int .i64 a2_1, .int .i64 a2_2, .int .i64 a2_3, .int .i64 a2_4, .int .i64 a2_5, .int .i64 a2_6] 63 (0, 0)) (by (with_reducible repeat (first | refine blk_drewN ?_ _ | refine blk_drew ?_ | refine blk_alloc ?_ _)); refine blk_far ?_ NB192_196.out _; (with_reducible repeat (first | refine blk_drewN ?_ _ | refine blk_drew ?_ | refine blk_alloc ?_ _)); refine blk_far ?_ NB192_196.out _; (with_reducible repeat (first | refine blk_drewN ?_ _ | refine blk_drew ?_ | refine blk_alloc ?_ _)); refine blk_far ?_ NB192_196.out _; (with_reducible repeat (first | refine blk_drewN ?_ _ | refine blk_drew ?_ | refine blk_alloc ?_ _)); refine blk_far ?_ NB192_196.out _; (with_reducible repeat (first | refine blk_drewN ?_ _ | refine blk_drew ?_ | refine blk_alloc ?_ _)); refine blk_far ?_ NB192_196.out _; (with_reducible repeat (first | refine blk_drewN ?_ _ | refine blk_drew ?_ | refine blk_alloc ?_ _)); exact BK192.out) hb); have n1_ := Aside0.mk (blk_below (g := gb196) (o := .cells #[.int .i64 ((rd_T61 l1 a2_1).f0), .int .i64 ((rd_T61 l1 a2_1).f1), .int .i64 ((rd_T61 l1 a2_1).f2), .int .i64 ((rd_T61 l1 a2_1).f3), .int .i64 ((rd_T61 l1 a2_1).f4)] 61 (0, 0)) (by (with_reducible repeat (first | refine blk_drewN ?_ _ | refine blk_drew ?_ | refine blk_alloc ?_ _)); refine blk_put (cs := #[.int .i64 ((rd_T61 l1 a2_1).f0), .int .i64 ((rd_T61 l1 a2_1).f1), .int .i64 ((rd_T61 l1 a2_1).f2), .int .i64 ((rd_T61 l1 a2_1).f3), .int .i64 0]) ?_ 4 _ rfl; (with_reducible repeat (first | refine blk_drewN ?_ _ | refine blk_drew ?_ | refine blk_alloc ?_ _)); refine blk_put (cs := #[.int .i64 ((rd_T61 l1 a2_1).f0), .int .i64 ((rd_T61 l1 a2_1).f1), .int .i64 ((rd_T61 l1 a2_1).f2), .int .i64 0, .int .i64 0]) ?_ 3 _ rfl; (with_reducible repeat (first | refine blk_drewN ?_ _ | refine blk_drew ?_ | refine blk_alloc ?_ _)); refine blk_put (cs := #[.int .i64 ((rd_T61 l1 a2_1).f0), .int .i64 ((rd_T61 l1 a2_1).f1), .int .i64 0, .int .i64 0, .int .i64 0]) ?_ 2 _ rfl; (with_reducible repeat (first | refine blk_drewN ?_ _ | refine blk_drew ?_ | refine blk_alloc ?_ _)); refine blk_put (cs := #[.int .i64 ((rd_T61 l1 a2_1).f0), .int .i64 0, .int .i64 0, .int .i64 0, .int .i64 0]) ?_ 1 _ rfl; (with_reducible repeat (first | refine blk_drewN ?_ _ | refine blk_drew ?_ | refine blk_alloc ?_ _)); refine blk_put (cs := #[.int .i64 0, .int .i64 0, .int .i64 0, .int .i64 0, .int .i64 0]) ?_ 0 _ rfl; (with_reducible repeat (first | refine blk_drewN ?_ _ | refine blk_drew ?_ | refine blk_alloc ?_ _)); exact BK196.out) hb); have n2_ := Aside0.mk (below_step (by repeat (first | (with_reducible first | exact HB.out | apply below_alloc | apply pw_below_drewN | apply below_drew1 | refine below_set ?_ GE192.out | refine below_set ?_ GE196.out) | exact HB.out)) hb); clear BK192; clear BK196; clear HB; have BK192 := n0_; have BK196 := n1_; have HB := n2_; clear n0_ n1_ n2_; (try clear hb); (try clear hb2); (try clear hk); (try clear hi)))
              go_ret
              exact ⟨by first | rfl | (simp [errW_none, errW_some] <;> rfl) | (simp [*, errW_none, errW_some] <;> rfl), by repeat (first | (with_reducible first | exact HB.out | apply below_alloc | apply pw_below_drewN | apply below_drew1 | refine below_set ?_ GE192.out | refine below_set ?_ GE196.out) | exact HB.out)⟩
          · rw [if_neg c13] at H
            exact absurd H (by simp)
        · rw [if_neg c12] at H
          exact absurd H (by simp)

/-! ### impl_NotesOk: function 66 -/
theorem blk_new2 (w : World) (o o' : Obj) : ((w.alloc o).alloc o').heap[w.heap.size + 1]? = some o' := by
  have h := blk_new (w.alloc o) o'
  have e : (w.alloc o).heap.size = w.heap.size + 1 := Array.size_push _
  rwa [e] at h
attribute [local go_sem high] eqA63
def impl_NotesOk.dN (x : S63) : DataW Unit := .agg [.lit (.int .i64 x.f0), .lit (.int .i64 x.f1), .lit (.int .i64 x.f2.f0), .lit (.int .i64 x.f2.f1), .lit (.int .i64 x.f2.f2), .lit (.int .i64 x.f2.f3), .lit (.int .i64 x.f2.f4)]
def impl_NotesOk.vN (x : S63) : Value := .agg #[.int .i64 x.f0, .int .i64 x.f1, .int .i64 x.f2.f0, .int .i64 x.f2.f1, .int .i64 x.f2.f2, .int .i64 x.f2.f3, .int .i64 x.f2.f4]
theorem impl_NotesOk.dN_inj {x y : S63} (h : impl_NotesOk.dN x = impl_NotesOk.dN y) : impl_NotesOk.vN x = impl_NotesOk.vN y := by
  unfold impl_NotesOk.dN at h
  simp only [DataW.agg.injEq, List.cons.injEq, DataW.lit.injEq, Lit.int.injEq, true_and, and_true] at h
  obtain ⟨h0, h1, h2, h3, h4, h5, h6⟩ := h
  unfold impl_NotesOk.vN
  rw [h0, h1, h2, h3, h4, h5, h6]
open Classical in
noncomputable def impl_NotesOk.R (v : Value) : Option (DataW Unit × List MemPlace) := if h : ∃ x : S63, v = impl_NotesOk.vN x then some (impl_NotesOk.dN h.choose, []) else none
theorem impl_NotesOk.dN_of {x y : S63} (e : impl_NotesOk.vN x = impl_NotesOk.vN y) : impl_NotesOk.dN x = impl_NotesOk.dN y := by
  unfold impl_NotesOk.vN at e
  simp only [Value.agg.injEq, Array.mk.injEq, List.cons.injEq, Value.int.injEq, true_and, and_true] at e
  obtain ⟨h0, h1, h2, h3, h4, h5, h6⟩ := e
  unfold impl_NotesOk.dN
  rw [h0, h1, h2, h3, h4, h5, h6]
theorem impl_NotesOk.R_mk (x : S63) : impl_NotesOk.R (impl_NotesOk.vN x) = some (impl_NotesOk.dN x, []) := by
  have h : ∃ y : S63, impl_NotesOk.vN x = impl_NotesOk.vN y := ⟨x, rfl⟩
  unfold impl_NotesOk.R
  rw [dif_pos h, ← impl_NotesOk.dN_of h.choose_spec]
theorem impl_NotesOk.R_inv {v : Value} {y : S63} {ps : List MemPlace} (h : impl_NotesOk.R v = some (impl_NotesOk.dN y, ps)) : v = impl_NotesOk.vN y := by
  unfold impl_NotesOk.R at h
  by_cases hx : ∃ x : S63, v = impl_NotesOk.vN x
  · rw [dif_pos hx] at h
    simp only [Option.some.injEq, Prod.mk.injEq] at h
    exact hx.choose_spec.trans (impl_NotesOk.dN_inj h.1)
  · rw [dif_neg hx] at h; cases h
def impl_NotesOk.dat (l : List S63) : DataW Unit := l.foldl (fun m x => m.put (.int .i64 x.f0) (impl_NotesOk.dN x)) (.map [])
theorem impl_NotesOk.dat_snoc (l : List S63) (x : S63) : impl_NotesOk.dat (l ++ [x]) = (impl_NotesOk.dat l).put (.int .i64 x.f0) (impl_NotesOk.dN x) := by simp [impl_NotesOk.dat, List.foldl_append]
/-- The last of the first i notes with this serial. -/
def impl_NotesOk.seen (l : List S63) (i : Nat) (s : Int) : Option S63 := (l.take i).reverse.find? (fun x => x.f0 == s)
theorem impl_NotesOk.dat_at (r : List S63) (s : Int) (z : DataW Unit) : Go.Maps.IsMap (impl_NotesOk.dat r.reverse) ∧ (impl_NotesOk.dat r.reverse).atKey (.int .i64 s) z = (match r.find? (fun x => x.f0 == s) with | some y => impl_NotesOk.dN y | none => z) ∧ Go.Maps.has (impl_NotesOk.dat r.reverse) (.int .i64 s) = (r.find? (fun x => x.f0 == s)).isSome := by
  induction r with
  | nil => exact ⟨Go.Maps.isMap_empty, rfl, rfl⟩
  | cons x r ih =>
    rw [List.reverse_cons, impl_NotesOk.dat_snoc, List.find?_cons]
    refine ⟨ih.1.put _ _, ?_, ?_⟩
    · by_cases e : x.f0 = s
      · subst e
        rw [Go.Maps.atKey_put_same ih.1 (show Go.WideAt.IsKeyLit (.int .i64 x.f0) from trivial)]
        rw [beq_self_eq_true]
        try rfl
      · rw [Go.Maps.atKey_put_other (by intro h; injection h with _ h; exact e h.symm), ih.2.1]
        have e' : (x.f0 == s) = false := by simpa using e
        rw [e']
    · by_cases e : x.f0 = s
      · subst e
        rw [Go.Maps.has_put_same ih.1 (show Go.WideAt.IsKeyLit (.int .i64 x.f0) from trivial)]
        rw [beq_self_eq_true]
        try rfl
      · rw [Go.Maps.has_put_other (by intro h; injection h with _ h; exact e h.symm), ih.2.2]
        have e' : (x.f0 == s) = false := by simpa using e
        rw [e']
theorem impl_NotesOk.look {P : Program} (w : World) {ops : Array Oper} {rest : List Oper} {o : Oper} {a : Act} {Q : Exit → Act → World → Prop} (hg : o.guard = none) (m x : Operand) (t : TypeId) (hop : o.op = Op.lookup t m x true)
    (k e : TypeId) (K : Go.Maps.Keyed P k) (ht : P.underlying t = some (.map k e)) (hz : (zeroValue e).run P w = .ok (impl_NotesOk.vN z63) w) (b n : Nat) (D : DataW Unit)
    (hm : a.eval m = .map (some b)) (hown : w.ownsMap P k impl_NotesOk.R b n D) (s : Int) (hx : a.eval x = .int .i64 s) (hkey : keyOf P k (.int .i64 s) = some (.int .i64 s)) (y : S63) (q : Bool)
    (hat : D.atKey (.int .i64 s) (impl_NotesOk.dN z63) = impl_NotesOk.dN y) (hhas : Go.Maps.has D (.int .i64 s) = q)
    (hK : wpList P ops Q rest (a.put o.dst (.tuple #[.agg #[.int .i64 y.f0, .int .i64 y.f1, .int .i64 y.f2.f0, .int .i64 y.f2.f1, .int .i64 y.f2.f2, .int .i64 y.f2.f3, .int .i64 y.f2.f4], .bool q])) w) : wpList P ops Q (o :: rest) a w :=
  wpList_lookup_own_ok w hg m x t hop k e K ht impl_NotesOk.R hz (impl_NotesOk.dN z63) [] (impl_NotesOk.R_mk _) b n D hm hown _ _ hx hkey (fun v ps hv => by
    rw [hat] at hv
    have e := impl_NotesOk.R_inv hv
    unfold impl_NotesOk.vN at e
    rw [e, hhas]
    exact hK)
def impl_NotesOk.same (y x : S63) : Bool := (y.f0 == x.f0 && (y.f1 == x.f1 && ((y.f2.f0 == x.f2.f0 && (y.f2.f1 == x.f2.f1 && (y.f2.f2 == x.f2.f2 && (y.f2.f3 == x.f2.f3 && (y.f2.f4 == x.f2.f4))))))))
def impl_NotesOk.l0 (k : Nat) (n : Int) (gs : List S61) (l : List S63) : Nat → Nat → Option Bool
  | 0, _ => some true
  | d + 1, i => (impl_noteFits.f k n gs (rd_T63 l i).f0 (rd_T63 l i).f1 (rd_T63 l i).f2.f0 (rd_T63 l i).f2.f1 (rd_T63 l i).f2.f2 (rd_T63 l i).f2.f3 (rd_T63 l i).f2.f4).bind fun b => if b = true then (if (Lit.int .i64 (rd_T63 l i).f0).wf = true then (match impl_NotesOk.seen l i (rd_T63 l i).f0 with | some y => if impl_NotesOk.same y (rd_T63 l i) = true then impl_NotesOk.l0 k n gs l d (i + 1) else some false | none => impl_NotesOk.l0 k n gs l d (i + 1)) else none) else (if (Lit.int .i64 (rd_T63 l i).f0).wf = true then some false else none)
def impl_NotesOk.f (k : Nat) (n : Int) (gs : List (S61)) (l : List (S63)) : Option (Bool) := (impl_SeasonOk.f k n gs).bind fun b => if b = true then (if l.length ≤ 80 then impl_NotesOk.l0 k n gs l l.length 0 else some false) else some false
theorem impl_NotesOk.mono_l (n : Int) (gs : List S61) (l : List S63) (k : Nat) (d : Nat) : ∀ i, LeO (impl_NotesOk.l0 k n gs l d i) (impl_NotesOk.l0 (k + 1) n gs l d i) := by
  induction d with
  | zero => intro i; exact LeO.refl _
  | succ d ih =>
    intro i
    simp only [impl_NotesOk.l0]
    refine LeO.bind (impl_noteFits.mono _ _ _ _ _ _ _ _ _ k) (fun b => ?_)
    refine LeO.ite (LeO.ite ?_ (LeO.refl _)) (LeO.refl _)
    split
    · exact LeO.ite (ih (i + 1)) (LeO.refl _)
    · exact ih (i + 1)
theorem impl_NotesOk.mono : ∀ a0 a1 a2 k, LeO (impl_NotesOk.f k a0 a1 a2) (impl_NotesOk.f (k + 1) a0 a1 a2) := fun a0 a1 a2 k =>
  LeO.bind (impl_SeasonOk.mono a0 a1 k) (fun b => LeO.ite (LeO.ite (impl_NotesOk.mono_l a0 a1 a2 k a2.length 0) (LeO.refl _)) (LeO.refl _))
set_option maxHeartbeats 8000000 in
set_option maxRecDepth 100000 in
theorem impl_NotesOk.calls (k : Nat) (a0 : Int) (A1 : Option Addr) (c1 : Nat) (l1 : List (S61)) (A2 : Option Addr) (c2 : Nat) (l2 : List (S63)) (r : Bool) (w : World) (hr1 : Kd.C k61 w A1 l1.length l1) (hc1 : l1.length ≤ c1) (hr2 : Kd.C k63 w A2 l2.length l2) (hc2 : l2.length ≤ c2) (h : impl_NotesOk.f k a0 l1 l2 = some r) :
    Calls Try.prog 66 #[.int .i64 a0, .slice A1 l1.length c1, .slice A2 l2.length c2] w fun e w' => e = .returned (.bool r) ∧ Below w.heap.size w w' := by
  obtain ⟨b, hA, h⟩ := Option.bind_eq_some_iff.mp h
  have hu90 := Try.underlying63
  have HR1 := Aside0.mk hr1
  have HC1 := Aside0.mk hc1
  have HR2 := Aside0.mk hr2
  have HA := Aside0.mk hA
  have hmax : l2.length ≤ 9223372036854775807 := hr2.2.1
  have H := Aside0.mk h
  clear hr1 hc1 hr2 hc2 hA h
  have HB0 := Aside0.mk (Below.refl w.heap.size w)
  cases b with
  | false =>
    have hr := H.out
    rw [if_neg (by simp)] at hr
    obtain rfl := Option.some.inj hr
    clear hr H
    go_enter Try.func66, Try.ntmps66
    go_wp2_with fail
    refine (impl_SeasonOk.calls k a0 A1 c1 l1 false _ HR1.out HC1.out HA.out).mono ?_
    rintro e w2 ⟨rfl, hb⟩
    have HB := Aside0.mk hb
    clear hb HB0
    go_wp2
    go_ret
    exact ⟨rfl, HB.out⟩
  | true =>
    have hr := H.out
    rw [if_pos rfl] at hr
    clear H
    by_cases h80 : l2.length ≤ 80
    · rw [if_pos h80] at hr
      have h80z : decide (80 < (l2.length : Int)) = false := decide_eq_false (by omega)
      have HH := Aside0.mk hr
      clear hr h80
      have hmm := @run_makeMap Try.prog
      go_enter Try.func66, Try.ntmps66
      go_wp2_with fail
      refine (impl_SeasonOk.calls k a0 A1 c1 l1 true _ HR1.out HC1.out HA.out).mono ?_
      rintro e w2 ⟨rfl, hb⟩
      have HB := Aside0.mk hb
      have HSZ := Aside0.mk hb.size
      clear hb HB0
      go_wp2
      go_loopg [24] l2.length (fun gk v24 w' => ∃ i : Nat, v24 = .int .i64 i ∧ Aside0 (i ≤ l2.length) ∧ Aside0 (l2.length - i ≤ gk) ∧ Aside0 (impl_NotesOk.l0 k a0 l1 l2 (l2.length - i) i = some r) ∧ Aside0 (w'.ownsMap Try.prog 3 impl_NotesOk.R w2.heap.size i (impl_NotesOk.dat (l2.take i))) ∧ Aside0 (Below w.heap.size w w'))
      case atStart => exact ⟨0, rfl, ⟨Nat.zero_le _⟩, ⟨by omega⟩, HH, ⟨World.ownsMap_made _ _ _ _⟩, ⟨(HB.out.alloc HSZ.out _)⟩⟩
      case round =>
        obtain ⟨i, rfl, HI, HG, HS, HM, HB⟩ := hrel
        clear HH
        by_cases hlt : i < l2.length
        · have hltz : decide ((i : Int) < (l2.length : Int)) = true := decide_eq_true (by omega)
          have H := HS.out
          rw [show l2.length - i = (l2.length - (i + 1)) + 1 by omega] at H
          simp only [impl_NotesOk.l0] at H
          obtain ⟨ad, ea, hx0, hx1, hx2, hx3, hx4, hx5, hx6⟩ := at_T63 HR2.out (i : Int) (by omega) (by omega)
          cases ea
          rw [Int.toNat_natCast] at hx0 hx1 hx2 hx3 hx4 hx5 hx6
          have HY : Aside0 (l2[i]? = some (rd_T63 l2 i)) := ⟨by rw [List.getElem?_eq_getElem hlt]; simp [rd_T63, List.getD_eq_getElem?_getD, hlt]⟩
          generalize hx : rd_T63 l2 i = x at H HY hx0 hx1 hx2 hx3 hx4 hx5 hx6
          clear hx
          have up : ∀ (a : Addr) (v : Value), w.cell? a = some v → wr.cell? a = some v := fun a v h => (HB.out.cell (World.block_lt_of_cell? w _ h)).trans h
          replace hx0 := up _ _ hx0; replace hx1 := up _ _ hx1; replace hx2 := up _ _ hx2; replace hx3 := up _ _ hx3; replace hx4 := up _ _ hx4; replace hx5 := up _ _ hx5; replace hx6 := up _ _ hx6
          clear up
          have h0 : decide (0 ≤ (i : Int)) = true := decide_eq_true (by omega)
          obtain ⟨b, A1_, H⟩ := Option.bind_eq_some_iff.mp H
          have A := Aside0.mk A1_
          clear A1_ HS
          have hwf : (Lit.int .i64 x.f0).wf = true := by
            by_cases hw : (Lit.int .i64 x.f0).wf = true
            · exact hw
            · cases b <;> simp [hw] at H
          have hdat := impl_NotesOk.dat_at (l2.take i).reverse x.f0 (impl_NotesOk.dN z63)
          rw [List.reverse_reverse] at hdat
          have hkey : keyOf Try.prog 3 (.int .i64 x.f0) = some (.int .i64 x.f0) := Go.Maps.keyOf_int_mk Try.underlying3 hwf
          rw [if_pos hwf, if_pos hwf] at H
          have HK := Aside0.mk hkey
          have HD := Aside0.mk hdat.2
          have HSN := Aside0.mk H
          clear H hkey hdat hwf
          have HSEEN : Aside0 (∃ (y : S63) (q : Bool), (impl_NotesOk.dat (l2.take i)).atKey (.int .i64 x.f0) (impl_NotesOk.dN z63) = impl_NotesOk.dN y ∧ Go.Maps.has (impl_NotesOk.dat (l2.take i)) (.int .i64 x.f0) = q ∧ ((q = true ∧ impl_NotesOk.seen l2 i x.f0 = some y) ∨ (q = false ∧ impl_NotesOk.seen l2 i x.f0 = none))) := ⟨by
            have h1 := HD.out
            unfold impl_NotesOk.seen
            cases hs : (l2.take i).reverse.find? (fun x_1 => x_1.f0 == x.f0) with
            | some y => rw [hs] at h1; exact ⟨y, true, h1.1, h1.2, .inl ⟨rfl, rfl⟩⟩
            | none => rw [hs] at h1; exact ⟨z63, false, h1.1, h1.2, .inr ⟨rfl, rfl⟩⟩⟩
          obtain ⟨y, q, hat_, hhas_, hcase⟩ := HSEEN.out
          have HAT := Aside0.mk hat_
          have HHAS := Aside0.mk hhas_
          have HCASE := Aside0.mk hcase
          clear hat_ hhas_ hcase HSEEN HD
          cases b with
          | false =>
            have H := HSN.out
            rw [if_neg (by simp)] at H
            obtain rfl := Option.some.inj H
            clear H HSN HCASE
            go_wp2_with (first | (at_lookup; refine impl_NotesOk.look _ rfl _ _ 133 rfl 3 63 (Go.Maps.int_keyed Try.underlying3) Try.underlying133 (Try.zeroValue63 _) w2.heap.size i _ rfl (HM.out.alloc _) x.f0 rfl HK.out y q HAT.out HHAS.out ?_) | fail)
            refine (impl_noteFits.calls k a0 A1 c1 l1 x.f0 x.f1 x.f2.f0 x.f2.f1 x.f2.f2 x.f2.f3 x.f2.f4 false _ (Kd.C_below HR1.out (below_alloc (below_alloc HB.out _) _)) HC1.out A.out).mono ?_
            rintro e w12 ⟨rfl, hb⟩
            have n1_ := Aside0.mk (show Below w.heap.size w w12 from below_then (below_alloc (below_alloc HB.out _) _) (below_size (below_alloc (below_alloc HB.out _) _)) hb)
            have n2_ := Aside0.mk (show w12.ownsMap Try.prog 3 impl_NotesOk.R w2.heap.size i (impl_NotesOk.dat (l2.take i)) from ((HM.out.alloc _).alloc _).kept (grown_of_below hb none) (by simp))
            have BX := Aside0.mk (blk_below (blk_alloc (blk_new wr _) _) hb)
            have BY := Aside0.mk (blk_below (blk_new2 wr _ _) hb)
            clear hb HB HM
            have HB := n1_
            have HM := n2_
            clear n1_ n2_
            clear BX BY
            go_wp2
            go_ret
            exact ⟨rfl, HB.out⟩
          | true =>
            have H := HSN.out
            rw [if_pos rfl] at H
            rcases HCASE.out with ⟨hq, hs⟩ | ⟨hq, hs⟩
            · subst hq
              rw [hs] at H
              simp only [] at H
              by_cases hsame : impl_NotesOk.same y x = true
              · rw [if_pos hsame] at H
                have HNX := Aside0.mk H
                clear H HSN HCASE hs
                have HSM := Aside0.mk hsame
                clear hsame
                go_wp2_with (first | (at_lookup; refine impl_NotesOk.look _ rfl _ _ 133 rfl 3 63 (Go.Maps.int_keyed Try.underlying3) Try.underlying133 (Try.zeroValue63 _) w2.heap.size i _ rfl (HM.out.alloc _) x.f0 rfl HK.out y true HAT.out HHAS.out ?_) | fail)
                refine (impl_noteFits.calls k a0 A1 c1 l1 x.f0 x.f1 x.f2.f0 x.f2.f1 x.f2.f2 x.f2.f3 x.f2.f4 true _ (Kd.C_below HR1.out (below_alloc (below_alloc HB.out _) _)) HC1.out A.out).mono ?_
                rintro e w12 ⟨rfl, hb⟩
                have n1_ := Aside0.mk (show Below w.heap.size w w12 from below_then (below_alloc (below_alloc HB.out _) _) (below_size (below_alloc (below_alloc HB.out _) _)) hb)
                have n2_ := Aside0.mk (show w12.ownsMap Try.prog 3 impl_NotesOk.R w2.heap.size i (impl_NotesOk.dat (l2.take i)) from ((HM.out.alloc _).alloc _).kept (grown_of_below hb none) (by simp))
                have BX := Aside0.mk (blk_below (blk_alloc (blk_new wr _) _) hb)
                have BY := Aside0.mk (blk_below (blk_new2 wr _ _) hb)
                clear hb HB HM
                have HB := n1_
                have HM := n2_
                clear n1_ n2_
                have hcx_0 : w12.cell? ⟨wr.heap.size, 0, none⟩ = some (.int .i64 x.f0) := (blk_cell BX.out 0).trans rfl
                have hcy_0 : w12.cell? ⟨wr.heap.size + 1, 0, none⟩ = some (.int .i64 y.f0) := (blk_cell BY.out 0).trans rfl
                have hcx_1 : w12.cell? ⟨wr.heap.size, 1, none⟩ = some (.int .i64 x.f1) := (blk_cell BX.out 1).trans rfl
                have hcy_1 : w12.cell? ⟨wr.heap.size + 1, 1, none⟩ = some (.int .i64 y.f1) := (blk_cell BY.out 1).trans rfl
                have hcx_2 : w12.cell? ⟨wr.heap.size, 2, none⟩ = some (.int .i64 x.f2.f0) := (blk_cell BX.out 2).trans rfl
                have hcy_2 : w12.cell? ⟨wr.heap.size + 1, 2, none⟩ = some (.int .i64 y.f2.f0) := (blk_cell BY.out 2).trans rfl
                have hcx_3 : w12.cell? ⟨wr.heap.size, 3, none⟩ = some (.int .i64 x.f2.f1) := (blk_cell BX.out 3).trans rfl
                have hcy_3 : w12.cell? ⟨wr.heap.size + 1, 3, none⟩ = some (.int .i64 y.f2.f1) := (blk_cell BY.out 3).trans rfl
                have hcx_4 : w12.cell? ⟨wr.heap.size, 4, none⟩ = some (.int .i64 x.f2.f2) := (blk_cell BX.out 4).trans rfl
                have hcy_4 : w12.cell? ⟨wr.heap.size + 1, 4, none⟩ = some (.int .i64 y.f2.f2) := (blk_cell BY.out 4).trans rfl
                have hcx_5 : w12.cell? ⟨wr.heap.size, 5, none⟩ = some (.int .i64 x.f2.f3) := (blk_cell BX.out 5).trans rfl
                have hcy_5 : w12.cell? ⟨wr.heap.size + 1, 5, none⟩ = some (.int .i64 y.f2.f3) := (blk_cell BY.out 5).trans rfl
                have hcx_6 : w12.cell? ⟨wr.heap.size, 6, none⟩ = some (.int .i64 x.f2.f4) := (blk_cell BX.out 6).trans rfl
                have hcy_6 : w12.cell? ⟨wr.heap.size + 1, 6, none⟩ = some (.int .i64 y.f2.f4) := (blk_cell BY.out 6).trans rfl
                have hsm := HSM.out
                unfold impl_NotesOk.same at hsm
                go_wp2_with (first | (at_mapUpdate; refine wpList_mapUpdate_own _ rfl _ _ _ 133 rfl 3 63 (Go.Maps.int_keyed Try.underlying3) Try.underlying133 impl_NotesOk.R w2.heap.size i _ rfl HM.out (by unfold maxLen; omega) _ _ _ rfl rfl HK.out _ [] (impl_NotesOk.R_mk x) ?_; intro w1 hown1 hgrow1; have HM1 := Aside0.mk hown1; have HG1 := Aside0.mk hgrow1; clear hown1 hgrow1))
                go_roundg (l2.length - (i + 1))
                case measure => have := HG.out; omega
                case rel => exact ⟨i + 1, by go_num, ⟨by omega⟩, ⟨Nat.le_refl _⟩, HNX, ⟨by rw [List.take_add_one, HY.out]; show World.ownsMap _ _ _ _ _ _ (impl_NotesOk.dat (l2.take i ++ [x])); rw [impl_NotesOk.dat_snoc]; exact HM1.out⟩, ⟨HB.out.grown HG1.out HB.out.size (fun j hj => by injection hj with hj; rw [← hj]; exact HSZ.out)⟩⟩
              · rw [if_neg hsame] at H
                obtain rfl := Option.some.inj H
                clear H HSN HCASE hs
                have HSM := Aside0.mk (Bool.eq_false_iff.mpr hsame)
                clear hsame
                go_wp2_with (first | (at_lookup; refine impl_NotesOk.look _ rfl _ _ 133 rfl 3 63 (Go.Maps.int_keyed Try.underlying3) Try.underlying133 (Try.zeroValue63 _) w2.heap.size i _ rfl (HM.out.alloc _) x.f0 rfl HK.out y true HAT.out HHAS.out ?_) | fail)
                refine (impl_noteFits.calls k a0 A1 c1 l1 x.f0 x.f1 x.f2.f0 x.f2.f1 x.f2.f2 x.f2.f3 x.f2.f4 true _ (Kd.C_below HR1.out (below_alloc (below_alloc HB.out _) _)) HC1.out A.out).mono ?_
                rintro e w12 ⟨rfl, hb⟩
                have n1_ := Aside0.mk (show Below w.heap.size w w12 from below_then (below_alloc (below_alloc HB.out _) _) (below_size (below_alloc (below_alloc HB.out _) _)) hb)
                have n2_ := Aside0.mk (show w12.ownsMap Try.prog 3 impl_NotesOk.R w2.heap.size i (impl_NotesOk.dat (l2.take i)) from ((HM.out.alloc _).alloc _).kept (grown_of_below hb none) (by simp))
                have BX := Aside0.mk (blk_below (blk_alloc (blk_new wr _) _) hb)
                have BY := Aside0.mk (blk_below (blk_new2 wr _ _) hb)
                clear hb HB HM
                have HB := n1_
                have HM := n2_
                clear n1_ n2_
                have hcx_0 : w12.cell? ⟨wr.heap.size, 0, none⟩ = some (.int .i64 x.f0) := (blk_cell BX.out 0).trans rfl
                have hcy_0 : w12.cell? ⟨wr.heap.size + 1, 0, none⟩ = some (.int .i64 y.f0) := (blk_cell BY.out 0).trans rfl
                have hcx_1 : w12.cell? ⟨wr.heap.size, 1, none⟩ = some (.int .i64 x.f1) := (blk_cell BX.out 1).trans rfl
                have hcy_1 : w12.cell? ⟨wr.heap.size + 1, 1, none⟩ = some (.int .i64 y.f1) := (blk_cell BY.out 1).trans rfl
                have hcx_2 : w12.cell? ⟨wr.heap.size, 2, none⟩ = some (.int .i64 x.f2.f0) := (blk_cell BX.out 2).trans rfl
                have hcy_2 : w12.cell? ⟨wr.heap.size + 1, 2, none⟩ = some (.int .i64 y.f2.f0) := (blk_cell BY.out 2).trans rfl
                have hcx_3 : w12.cell? ⟨wr.heap.size, 3, none⟩ = some (.int .i64 x.f2.f1) := (blk_cell BX.out 3).trans rfl
                have hcy_3 : w12.cell? ⟨wr.heap.size + 1, 3, none⟩ = some (.int .i64 y.f2.f1) := (blk_cell BY.out 3).trans rfl
                have hcx_4 : w12.cell? ⟨wr.heap.size, 4, none⟩ = some (.int .i64 x.f2.f2) := (blk_cell BX.out 4).trans rfl
                have hcy_4 : w12.cell? ⟨wr.heap.size + 1, 4, none⟩ = some (.int .i64 y.f2.f2) := (blk_cell BY.out 4).trans rfl
                have hcx_5 : w12.cell? ⟨wr.heap.size, 5, none⟩ = some (.int .i64 x.f2.f3) := (blk_cell BX.out 5).trans rfl
                have hcy_5 : w12.cell? ⟨wr.heap.size + 1, 5, none⟩ = some (.int .i64 y.f2.f3) := (blk_cell BY.out 5).trans rfl
                have hcx_6 : w12.cell? ⟨wr.heap.size, 6, none⟩ = some (.int .i64 x.f2.f4) := (blk_cell BX.out 6).trans rfl
                have hcy_6 : w12.cell? ⟨wr.heap.size + 1, 6, none⟩ = some (.int .i64 y.f2.f4) := (blk_cell BY.out 6).trans rfl
                have hsm := HSM.out
                unfold impl_NotesOk.same at hsm
                go_wp2
                go_ret
                exact ⟨rfl, HB.out⟩
            · subst hq
              rw [hs] at H
              simp only [] at H
              have HNX := Aside0.mk H
              clear H HSN HCASE hs
              go_wp2_with (first | (at_lookup; refine impl_NotesOk.look _ rfl _ _ 133 rfl 3 63 (Go.Maps.int_keyed Try.underlying3) Try.underlying133 (Try.zeroValue63 _) w2.heap.size i _ rfl (HM.out.alloc _) x.f0 rfl HK.out y false HAT.out HHAS.out ?_) | fail)
              refine (impl_noteFits.calls k a0 A1 c1 l1 x.f0 x.f1 x.f2.f0 x.f2.f1 x.f2.f2 x.f2.f3 x.f2.f4 true _ (Kd.C_below HR1.out (below_alloc (below_alloc HB.out _) _)) HC1.out A.out).mono ?_
              rintro e w12 ⟨rfl, hb⟩
              have n1_ := Aside0.mk (show Below w.heap.size w w12 from below_then (below_alloc (below_alloc HB.out _) _) (below_size (below_alloc (below_alloc HB.out _) _)) hb)
              have n2_ := Aside0.mk (show w12.ownsMap Try.prog 3 impl_NotesOk.R w2.heap.size i (impl_NotesOk.dat (l2.take i)) from ((HM.out.alloc _).alloc _).kept (grown_of_below hb none) (by simp))
              have BX := Aside0.mk (blk_below (blk_alloc (blk_new wr _) _) hb)
              have BY := Aside0.mk (blk_below (blk_new2 wr _ _) hb)
              clear hb HB HM
              have HB := n1_
              have HM := n2_
              clear n1_ n2_
              have hcx_0 : w12.cell? ⟨wr.heap.size, 0, none⟩ = some (.int .i64 x.f0) := (blk_cell BX.out 0).trans rfl
              have hcy_0 : w12.cell? ⟨wr.heap.size + 1, 0, none⟩ = some (.int .i64 y.f0) := (blk_cell BY.out 0).trans rfl
              have hcx_1 : w12.cell? ⟨wr.heap.size, 1, none⟩ = some (.int .i64 x.f1) := (blk_cell BX.out 1).trans rfl
              have hcy_1 : w12.cell? ⟨wr.heap.size + 1, 1, none⟩ = some (.int .i64 y.f1) := (blk_cell BY.out 1).trans rfl
              have hcx_2 : w12.cell? ⟨wr.heap.size, 2, none⟩ = some (.int .i64 x.f2.f0) := (blk_cell BX.out 2).trans rfl
              have hcy_2 : w12.cell? ⟨wr.heap.size + 1, 2, none⟩ = some (.int .i64 y.f2.f0) := (blk_cell BY.out 2).trans rfl
              have hcx_3 : w12.cell? ⟨wr.heap.size, 3, none⟩ = some (.int .i64 x.f2.f1) := (blk_cell BX.out 3).trans rfl
              have hcy_3 : w12.cell? ⟨wr.heap.size + 1, 3, none⟩ = some (.int .i64 y.f2.f1) := (blk_cell BY.out 3).trans rfl
              have hcx_4 : w12.cell? ⟨wr.heap.size, 4, none⟩ = some (.int .i64 x.f2.f2) := (blk_cell BX.out 4).trans rfl
              have hcy_4 : w12.cell? ⟨wr.heap.size + 1, 4, none⟩ = some (.int .i64 y.f2.f2) := (blk_cell BY.out 4).trans rfl
              have hcx_5 : w12.cell? ⟨wr.heap.size, 5, none⟩ = some (.int .i64 x.f2.f3) := (blk_cell BX.out 5).trans rfl
              have hcy_5 : w12.cell? ⟨wr.heap.size + 1, 5, none⟩ = some (.int .i64 y.f2.f3) := (blk_cell BY.out 5).trans rfl
              have hcx_6 : w12.cell? ⟨wr.heap.size, 6, none⟩ = some (.int .i64 x.f2.f4) := (blk_cell BX.out 6).trans rfl
              have hcy_6 : w12.cell? ⟨wr.heap.size + 1, 6, none⟩ = some (.int .i64 y.f2.f4) := (blk_cell BY.out 6).trans rfl
              go_wp2_with (first | (at_mapUpdate; refine wpList_mapUpdate_own _ rfl _ _ _ 133 rfl 3 63 (Go.Maps.int_keyed Try.underlying3) Try.underlying133 impl_NotesOk.R w2.heap.size i _ rfl HM.out (by unfold maxLen; omega) _ _ _ rfl rfl HK.out _ [] (impl_NotesOk.R_mk x) ?_; intro w1 hown1 hgrow1; have HM1 := Aside0.mk hown1; have HG1 := Aside0.mk hgrow1; clear hown1 hgrow1))
              go_roundg (l2.length - (i + 1))
              case measure => have := HG.out; omega
              case rel => exact ⟨i + 1, by go_num, ⟨by omega⟩, ⟨Nat.le_refl _⟩, HNX, ⟨by rw [List.take_add_one, HY.out]; show World.ownsMap _ _ _ _ _ _ (impl_NotesOk.dat (l2.take i ++ [x])); rw [impl_NotesOk.dat_snoc]; exact HM1.out⟩, ⟨HB.out.grown HG1.out HB.out.size (fun j hj => by injection hj with hj; rw [← hj]; exact HSZ.out)⟩⟩
        · have hltz : decide ((i : Int) < (l2.length : Int)) = false := decide_eq_false (by omega)
          have hi : l2.length - i = 0 := by omega
          have H := HS.out
          rw [hi] at H
          simp only [impl_NotesOk.l0] at H
          obtain rfl := Option.some.inj H
          clear H hi HS
          go_wp2
          go_ret
          exact ⟨rfl, HB.out⟩
    · rw [if_neg h80] at hr
      obtain rfl := Option.some.inj hr
      have h80z : decide (80 < (l2.length : Int)) = true := decide_eq_true (by omega)
      clear hr h80
      go_enter Try.func66, Try.ntmps66
      go_wp2_with fail
      refine (impl_SeasonOk.calls k a0 A1 c1 l1 true _ HR1.out HC1.out HA.out).mono ?_
      rintro e w2 ⟨rfl, hb⟩
      have HB := Aside0.mk hb
      clear hb HB0
      go_wp2
      go_ret
      exact ⟨rfl, HB.out⟩

/-! ### laws_FnExactNotesOk: function 12 -/
def laws_FnExactNotesOk.f (k : Nat) (a0 : Int) (l1 : List (S54)) (l2 : List (S56)) : Option (Bool) := (laws_szGameS.f l1 1048576).bind fun t199 => (if t199 < 0 then (some true) else ((laws_szNoteS.f l2 t199).bind fun t200 => (if t200 < 0 then (some true) else ((laws_toGameS.f k l1).bind fun t201 => ((laws_toNoteS.f k l2).bind fun t204 => ((spec_NotesOk.f k a0 t201 t204).bind fun t207 => ((laws_toGameS.f k l1).bind fun t208 => ((laws_toNoteS.f k l2).bind fun t211 => ((impl_NotesOk.f k a0 t208 t211).bind fun t214 => (if (t214 != t207) = true then (some false) else ((laws_toGameS.f k l1).bind fun t215 => ((laws_eqGameS.f k t208 t215).bind fun t218 => (if t218 = true then ((laws_toNoteS.f k l2).bind fun t219 => ((laws_eqNoteS.f k t211 t219).bind fun t222 => (if t222 = true then (some true) else (some false)))) else (some false))))))))))))))
theorem laws_FnExactNotesOk.mono : ∀ a0 a1 a2 k, LeO (laws_FnExactNotesOk.f k a0 a1 a2) (laws_FnExactNotesOk.f (k + 1) a0 a1 a2) := by
  intro a0 a1 a2 k
  unfold laws_FnExactNotesOk.f
  repeat' first
      | (with_reducible exact impl_NotesOk.mono _ _ _ _)
      | (with_reducible exact laws_eqGameS.mono _ _ _)
      | (with_reducible exact laws_eqNoteS.mono _ _ _)
      | (with_reducible exact laws_toGameS.mono _ _)
      | (with_reducible exact laws_toNoteS.mono _ _)
      | (with_reducible exact spec_NotesOk.mono _ _ _ _)
      | (with_reducible exact LeO.refl _)
      | (with_reducible exact LeO.none _)
      | (with_reducible refine LeO.ite ?_ ?_)
      | (with_reducible refine LeO.bind ?_ (fun _ => ?_))
      | exact impl_NotesOk.mono _ _ _ _
      | exact laws_eqGameS.mono _ _ _
      | exact laws_eqNoteS.mono _ _ _
      | exact laws_toGameS.mono _ _
      | exact laws_toNoteS.mono _ _
      | exact spec_NotesOk.mono _ _ _ _
      | exact LeO.none _
      | refine LeO.ite ?_ ?_
      | refine LeO.bind ?_ (fun _ => ?_)
set_option maxHeartbeats 8000000 in
set_option maxRecDepth 100000 in
theorem laws_FnExactNotesOk.calls (k : Nat) (a0 : Int) (A1 : Option Addr) (c1 : Nat) (l1 : List (S54)) (A2 : Option Addr) (c2 : Nat) (l2 : List (S56)) (r : Bool) (w : World) (hr_ : r = true) (hr1 : Kd.C k54 w A1 l1.length l1) (hc1 : l1.length ≤ c1) (hr2 : Kd.C k56 w A2 l2.length l2) (hc2 : l2.length ≤ c2) (h : laws_FnExactNotesOk.f k a0 l1 l2 = some r) :
    Calls Try.prog 12 #[.int .i64 a0, .slice A1 l1.length c1, .slice A2 l2.length c2] w fun e w' => e = .returned (.bool r) ∧ Below w.heap.size w w' := by
  have HR_ := Aside0.mk hr_
  clear hr_
  have HR1 := Aside0.mk hr1
  have HC1 := Aside0.mk hc1
  clear hr1 hc1
  have HR2 := Aside0.mk hr2
  have HC2 := Aside0.mk hc2
  clear hr2 hc2
  have HB := Aside0.mk (Below.refl w.heap.size w)
  have H : ((laws_szGameS.f l1 1048576).bind fun t199 => (if t199 < 0 then (some true) else ((laws_szNoteS.f l2 t199).bind fun t200 => (if t200 < 0 then (some true) else ((laws_toGameS.f k l1).bind fun t201 => ((laws_toNoteS.f k l2).bind fun t204 => ((spec_NotesOk.f k a0 t201 t204).bind fun t207 => ((laws_toGameS.f k l1).bind fun t208 => ((laws_toNoteS.f k l2).bind fun t211 => ((impl_NotesOk.f k a0 t208 t211).bind fun t214 => (if (t214 != t207) = true then (some false) else ((laws_toGameS.f k l1).bind fun t215 => ((laws_eqGameS.f k t208 t215).bind fun t218 => (if t218 = true then ((laws_toNoteS.f k l2).bind fun t219 => ((laws_eqNoteS.f k t211 t219).bind fun t222 => (if t222 = true then (some true) else (some false)))) else (some false))))))))))))))) = some r := h
  clear h
  replace H := Option.bind_eq_some_iff.mp H
  obtain ⟨t199, A40, H⟩ := H
  replace H : (if t199 < 0 then (some true) else ((laws_szNoteS.f l2 t199).bind fun t200 => (if t200 < 0 then (some true) else ((laws_toGameS.f k l1).bind fun t201 => ((laws_toNoteS.f k l2).bind fun t204 => ((spec_NotesOk.f k a0 t201 t204).bind fun t207 => ((laws_toGameS.f k l1).bind fun t208 => ((laws_toNoteS.f k l2).bind fun t211 => ((impl_NotesOk.f k a0 t208 t211).bind fun t214 => (if (t214 != t207) = true then (some false) else ((laws_toGameS.f k l1).bind fun t215 => ((laws_eqGameS.f k t208 t215).bind fun t218 => (if t218 = true then ((laws_toNoteS.f k l2).bind fun t219 => ((laws_eqNoteS.f k t211 t219).bind fun t222 => (if t222 = true then (some true) else (some false)))) else (some false)))))))))))))) = some r := H
  have A4 := Aside0.mk A40
  clear A40
  by_cases c5 : t199 < 0
  · rw [if_pos c5] at H
    have c5b0 : decide (t199 < 0) = true := decide_eq_true c5
    clear c5
    obtain rfl := Option.some.inj H
    go_enter Try.func12, Try.ntmps12
    go_wp2_with (first | ((with_reducible refine gate_callee (f := 42) rfl ?_); refine goesL_ (some 14) rfl rfl Try.func42 (by kernel_rfl) rfl #[.slice A1 l1.length c1, .int .i64 1048576] rfl (by (try simp only [List.map_toArray, List.map_cons, List.map_nil]); first | done | rfl | (simp only [List.length_drop, List.length_take]; rfl)) ?_; (with_reducible refine (laws_szGameS.calls _ _ l1 1048576 t199 _ ?side1 ?side2 A4.out).mono ?_); (case side1 => repeat (first | exact HR1.out | (with_reducible refine Kd.C_alloc ?_ _) | (with_reducible refine Kd.C_drewN ?_ _) | (with_reducible refine Kd.C_drew ?_))); (case side2 => exact HC1.out); rintro e w' ⟨rfl, ⟨nd, rfl⟩⟩; refine ⟨_, rfl, ?_⟩))
    go_ret
    exact ⟨by first | rfl | (simp [errW_none, errW_some] <;> rfl) | (simp [*, errW_none, errW_some] <;> rfl), by repeat (first | (with_reducible first | exact HB.out | apply below_alloc | apply pw_below_drewN | apply below_drew1) | exact HB.out)⟩
  · rw [if_neg c5] at H
    have c5b0 : decide (t199 < 0) = false := decide_eq_false c5
    clear c5
    replace H := Option.bind_eq_some_iff.mp H
    obtain ⟨t200, A60, H⟩ := H
    replace H : (if t200 < 0 then (some true) else ((laws_toGameS.f k l1).bind fun t201 => ((laws_toNoteS.f k l2).bind fun t204 => ((spec_NotesOk.f k a0 t201 t204).bind fun t207 => ((laws_toGameS.f k l1).bind fun t208 => ((laws_toNoteS.f k l2).bind fun t211 => ((impl_NotesOk.f k a0 t208 t211).bind fun t214 => (if (t214 != t207) = true then (some false) else ((laws_toGameS.f k l1).bind fun t215 => ((laws_eqGameS.f k t208 t215).bind fun t218 => (if t218 = true then ((laws_toNoteS.f k l2).bind fun t219 => ((laws_eqNoteS.f k t211 t219).bind fun t222 => (if t222 = true then (some true) else (some false)))) else (some false)))))))))))) = some r := H
    have A6 := Aside0.mk A60
    clear A60
    by_cases c7 : t200 < 0
    · rw [if_pos c7] at H
      have c7b0 : decide (t200 < 0) = true := decide_eq_true c7
      clear c7
      obtain rfl := Option.some.inj H
      go_enter Try.func12, Try.ntmps12
      go_wp2_with (first | ((with_reducible refine gate_callee (f := 42) rfl ?_); refine goesL_ (some 14) rfl rfl Try.func42 (by kernel_rfl) rfl #[.slice A1 l1.length c1, .int .i64 1048576] rfl (by (try simp only [List.map_toArray, List.map_cons, List.map_nil]); first | done | rfl | (simp only [List.length_drop, List.length_take]; rfl)) ?_; (with_reducible refine (laws_szGameS.calls _ _ l1 1048576 t199 _ ?side1 ?side2 A4.out).mono ?_); (case side1 => repeat (first | exact HR1.out | (with_reducible refine Kd.C_alloc ?_ _) | (with_reducible refine Kd.C_drewN ?_ _) | (with_reducible refine Kd.C_drew ?_))); (case side2 => exact HC1.out); rintro e w' ⟨rfl, ⟨nd, rfl⟩⟩; refine ⟨_, rfl, ?_⟩) | ((with_reducible refine gate_callee (f := 58) rfl ?_); refine goesL_ (some 19) rfl rfl Try.func58 (by kernel_rfl) rfl #[.slice A2 l2.length c2, .int .i64 t199] rfl (by (try simp only [List.map_toArray, List.map_cons, List.map_nil]); first | done | rfl | (simp only [List.length_drop, List.length_take]; rfl)) ?_; (with_reducible refine (laws_szNoteS.calls _ _ l2 t199 t200 _ ?side1 ?side2 A6.out).mono ?_); (case side1 => repeat (first | exact HR2.out | (with_reducible refine Kd.C_alloc ?_ _) | (with_reducible refine Kd.C_drewN ?_ _) | (with_reducible refine Kd.C_drew ?_))); (case side2 => exact HC2.out); rintro e w' ⟨rfl, ⟨nd, rfl⟩⟩; refine ⟨_, rfl, ?_⟩))
      go_ret
      exact ⟨by first | rfl | (simp [errW_none, errW_some] <;> rfl) | (simp [*, errW_none, errW_some] <;> rfl), by repeat (first | (with_reducible first | exact HB.out | apply below_alloc | apply pw_below_drewN | apply below_drew1) | exact HB.out)⟩
    · rw [if_neg c7] at H
      have c7b0 : decide (t200 < 0) = false := decide_eq_false c7
      clear c7
      replace H := Option.bind_eq_some_iff.mp H
      obtain ⟨t201, A80, H⟩ := H
      replace H : ((laws_toNoteS.f k l2).bind fun t204 => ((spec_NotesOk.f k a0 t201 t204).bind fun t207 => ((laws_toGameS.f k l1).bind fun t208 => ((laws_toNoteS.f k l2).bind fun t211 => ((impl_NotesOk.f k a0 t208 t211).bind fun t214 => (if (t214 != t207) = true then (some false) else ((laws_toGameS.f k l1).bind fun t215 => ((laws_eqGameS.f k t208 t215).bind fun t218 => (if t218 = true then ((laws_toNoteS.f k l2).bind fun t219 => ((laws_eqNoteS.f k t211 t219).bind fun t222 => (if t222 = true then (some true) else (some false)))) else (some false)))))))))) = some r := H
      have A8 := Aside0.mk A80
      clear A80
      replace H := Option.bind_eq_some_iff.mp H
      obtain ⟨t204, A90, H⟩ := H
      replace H : ((spec_NotesOk.f k a0 t201 t204).bind fun t207 => ((laws_toGameS.f k l1).bind fun t208 => ((laws_toNoteS.f k l2).bind fun t211 => ((impl_NotesOk.f k a0 t208 t211).bind fun t214 => (if (t214 != t207) = true then (some false) else ((laws_toGameS.f k l1).bind fun t215 => ((laws_eqGameS.f k t208 t215).bind fun t218 => (if t218 = true then ((laws_toNoteS.f k l2).bind fun t219 => ((laws_eqNoteS.f k t211 t219).bind fun t222 => (if t222 = true then (some true) else (some false)))) else (some false))))))))) = some r := H
      have A9 := Aside0.mk A90
      clear A90
      replace H := Option.bind_eq_some_iff.mp H
      obtain ⟨t207, A100, H⟩ := H
      replace H : ((laws_toGameS.f k l1).bind fun t208 => ((laws_toNoteS.f k l2).bind fun t211 => ((impl_NotesOk.f k a0 t208 t211).bind fun t214 => (if (t214 != t207) = true then (some false) else ((laws_toGameS.f k l1).bind fun t215 => ((laws_eqGameS.f k t208 t215).bind fun t218 => (if t218 = true then ((laws_toNoteS.f k l2).bind fun t219 => ((laws_eqNoteS.f k t211 t219).bind fun t222 => (if t222 = true then (some true) else (some false)))) else (some false)))))))) = some r := H
      have A10 := Aside0.mk A100
      clear A100
      replace H := Option.bind_eq_some_iff.mp H
      obtain ⟨t208, A110, H⟩ := H
      replace H : ((laws_toNoteS.f k l2).bind fun t211 => ((impl_NotesOk.f k a0 t208 t211).bind fun t214 => (if (t214 != t207) = true then (some false) else ((laws_toGameS.f k l1).bind fun t215 => ((laws_eqGameS.f k t208 t215).bind fun t218 => (if t218 = true then ((laws_toNoteS.f k l2).bind fun t219 => ((laws_eqNoteS.f k t211 t219).bind fun t222 => (if t222 = true then (some true) else (some false)))) else (some false))))))) = some r := H
      have A11 := Aside0.mk A110
      clear A110
      replace H := Option.bind_eq_some_iff.mp H
      obtain ⟨t211, A120, H⟩ := H
      replace H : ((impl_NotesOk.f k a0 t208 t211).bind fun t214 => (if (t214 != t207) = true then (some false) else ((laws_toGameS.f k l1).bind fun t215 => ((laws_eqGameS.f k t208 t215).bind fun t218 => (if t218 = true then ((laws_toNoteS.f k l2).bind fun t219 => ((laws_eqNoteS.f k t211 t219).bind fun t222 => (if t222 = true then (some true) else (some false)))) else (some false)))))) = some r := H
      have A12 := Aside0.mk A120
      clear A120
      replace H := Option.bind_eq_some_iff.mp H
      obtain ⟨t214, A130, H⟩ := H
      replace H : (if (t214 != t207) = true then (some false) else ((laws_toGameS.f k l1).bind fun t215 => ((laws_eqGameS.f k t208 t215).bind fun t218 => (if t218 = true then ((laws_toNoteS.f k l2).bind fun t219 => ((laws_eqNoteS.f k t211 t219).bind fun t222 => (if t222 = true then (some true) else (some false)))) else (some false))))) = some r := H
      have A13 := Aside0.mk A130
      clear A130
      by_cases c14 : (t214 != t207) = true
      · rw [if_pos c14] at H
        have c14b0 : (t214 != t207) = true := c14
        (try (have c14b1 : decide (t214 = t207) = false := by simpa using c14))
        (try (have c14b2 : (t214 == t207) = false := by simpa using c14))
        (try (have c14b3 : ¬ (t214 = t207) := by simpa using c14))
        clear c14
        exact absurd ((Option.some.inj H).trans HR_.out) (by decide)
      · rw [if_neg c14] at H
        have c14b0 : (t214 != t207) = false := by simpa using c14
        (try (have c14b1 : decide (t214 = t207) = true := by simpa using c14))
        (try (have c14b2 : (t214 == t207) = true := by simpa using c14))
        clear c14
        replace H := Option.bind_eq_some_iff.mp H
        obtain ⟨t215, A150, H⟩ := H
        replace H : ((laws_eqGameS.f k t208 t215).bind fun t218 => (if t218 = true then ((laws_toNoteS.f k l2).bind fun t219 => ((laws_eqNoteS.f k t211 t219).bind fun t222 => (if t222 = true then (some true) else (some false)))) else (some false))) = some r := H
        have A15 := Aside0.mk A150
        clear A150
        replace H := Option.bind_eq_some_iff.mp H
        obtain ⟨t218, A160, H⟩ := H
        replace H : (if t218 = true then ((laws_toNoteS.f k l2).bind fun t219 => ((laws_eqNoteS.f k t211 t219).bind fun t222 => (if t222 = true then (some true) else (some false)))) else (some false)) = some r := H
        have A16 := Aside0.mk A160
        clear A160
        by_cases c17 : t218 = true
        · subst c17
          have H1 : ((laws_toNoteS.f k l2).bind fun t219 => ((laws_eqNoteS.f k t211 t219).bind fun t222 => (if t222 = true then (some true) else (some false)))) = some r := by rw [if_pos rfl] at H; exact H
          clear H
          have H := H1
          clear H1
          replace H := Option.bind_eq_some_iff.mp H
          obtain ⟨t219, A180, H⟩ := H
          replace H : ((laws_eqNoteS.f k t211 t219).bind fun t222 => (if t222 = true then (some true) else (some false))) = some r := H
          have A18 := Aside0.mk A180
          clear A180
          replace H := Option.bind_eq_some_iff.mp H
          obtain ⟨t222, A190, H⟩ := H
          replace H : (if t222 = true then (some true) else (some false)) = some r := H
          have A19 := Aside0.mk A190
          clear A190
          by_cases c20 : t222 = true
          · subst c20
            have H1 : (some true) = some r := by rw [if_pos rfl] at H; exact H
            clear H
            have H := H1
            clear H1
            obtain rfl := Option.some.inj H
            go_enter Try.func12, Try.ntmps12
            go_wp2_with (first | ((with_reducible refine gate_callee (f := 42) rfl ?_); refine goesL_ (some 14) rfl rfl Try.func42 (by kernel_rfl) rfl #[.slice A1 l1.length c1, .int .i64 1048576] rfl (by (try simp only [List.map_toArray, List.map_cons, List.map_nil]); first | done | rfl | (simp only [List.length_drop, List.length_take]; rfl)) ?_; (with_reducible refine (laws_szGameS.calls _ _ l1 1048576 t199 _ ?side1 ?side2 A4.out).mono ?_); (case side1 => repeat (first | exact HR1.out | (with_reducible refine Kd.C_alloc ?_ _) | (with_reducible refine Kd.C_drewN ?_ _) | (with_reducible refine Kd.C_drew ?_))); (case side2 => exact HC1.out); rintro e w' ⟨rfl, ⟨nd, rfl⟩⟩; refine ⟨_, rfl, ?_⟩) | ((with_reducible refine gate_callee (f := 58) rfl ?_); refine goesL_ (some 19) rfl rfl Try.func58 (by kernel_rfl) rfl #[.slice A2 l2.length c2, .int .i64 t199] rfl (by (try simp only [List.map_toArray, List.map_cons, List.map_nil]); first | done | rfl | (simp only [List.length_drop, List.length_take]; rfl)) ?_; (with_reducible refine (laws_szNoteS.calls _ _ l2 t199 t200 _ ?side1 ?side2 A6.out).mono ?_); (case side1 => repeat (first | exact HR2.out | (with_reducible refine Kd.C_alloc ?_ _) | (with_reducible refine Kd.C_drewN ?_ _) | (with_reducible refine Kd.C_drew ?_))); (case side2 => exact HC2.out); rintro e w' ⟨rfl, ⟨nd, rfl⟩⟩; refine ⟨_, rfl, ?_⟩) | ((with_reducible refine gate_callee (f := 44) rfl ?_); refine goesL_ (some 24) rfl rfl Try.func44 (by kernel_rfl) rfl #[.slice A1 l1.length c1] rfl (by (try simp only [List.map_toArray, List.map_cons, List.map_nil]); first | done | rfl | (simp only [List.length_drop, List.length_take]; rfl)) ?_; (with_reducible refine (laws_toGameS.calls k _ _ l1 t201 _ ?side1 ?side2 A8.out).mono ?_); (case side1 => repeat (first | exact HR1.out | (with_reducible refine Kd.C_alloc ?_ _) | (with_reducible refine Kd.C_drewN ?_ _) | (with_reducible refine Kd.C_drew ?_))); (case side2 => exact HC1.out); rintro e w21 ⟨v202, rfl, ho0, hb⟩; refine ⟨_, rfl, ?_⟩; have n0_ := Aside0.mk (Kd.R_lower ho0 (below_size (by repeat (first | (with_reducible first | exact HB.out | apply below_alloc | apply pw_below_drewN | apply below_drew1) | exact HB.out)))); have n1_ := Aside0.mk (below_step (by repeat (first | (with_reducible first | exact HB.out | apply below_alloc | apply pw_below_drewN | apply below_drew1) | exact HB.out)) hb); clear HB; have HO203 := n0_; have HB := n1_; clear n0_ n1_; (try clear hb); (try clear hb2); (try clear hk); (try clear hi); (try clear ho0)) | ((with_reducible refine gate_callee (f := 60) rfl ?_); refine goesL_ (some 26) rfl rfl Try.func60 (by kernel_rfl) rfl #[.slice A2 l2.length c2] rfl (by (try simp only [List.map_toArray, List.map_cons, List.map_nil]); first | done | rfl | (simp only [List.length_drop, List.length_take]; rfl)) ?_; (with_reducible refine (laws_toNoteS.calls k _ _ l2 t204 _ ?side1 ?side2 A9.out).mono ?_); (case side1 => repeat (first | exact (Kd.C_below HR2.out HB.out) | (with_reducible refine Kd.C_alloc ?_ _) | (with_reducible refine Kd.C_drewN ?_ _) | (with_reducible refine Kd.C_drew ?_))); (case side2 => exact HC2.out); rintro e w22 ⟨v205, rfl, ho0, hb⟩; refine ⟨_, rfl, ?_⟩; have n0_ := Aside0.mk (Kd.R_below (by (with_reducible repeat (first | apply Kd.R_alloc | apply Kd.R_drewN | apply Kd.R_drew)); exact HO203.out) hb); have n1_ := Aside0.mk (Kd.R_lower ho0 (below_size (by repeat (first | (with_reducible first | exact HB.out | apply below_alloc | apply pw_below_drewN | apply below_drew1) | exact HB.out)))); have n2_ := Aside0.mk (below_step (by repeat (first | (with_reducible first | exact HB.out | apply below_alloc | apply pw_below_drewN | apply below_drew1) | exact HB.out)) hb); clear HO203; clear HB; have HO203 := n0_; have HO206 := n1_; have HB := n2_; clear n0_ n1_ n2_; (try clear hb); (try clear hb2); (try clear hk); (try clear hi); (try clear ho0); obtain ⟨Ao23, co23, eo23⟩ := Kd.R_slice HO203.out; subst eo23; obtain ⟨Ao24, co24, eo24⟩ := Kd.R_slice HO206.out; subst eo24) | ((with_reducible refine gate_callee (f := 65) rfl ?_); refine goesL_ (some 27) rfl rfl Try.func65 (by kernel_rfl) rfl #[.int .i64 a0, .slice Ao23 t201.length co23, .slice Ao24 t204.length co24] rfl (by (try simp only [List.map_toArray, List.map_cons, List.map_nil]); first | done | rfl | (simp only [List.length_drop, List.length_take]; rfl)) ?_; (with_reducible refine (spec_NotesOk.calls k a0 _ _ t201 _ _ t204 t207 _ ?side1 ?side2 ?side3 ?side4 A10.out).mono ?_); (case side1 => repeat (first | exact (Kd.R_reads' HO203.out).2.2 | (with_reducible refine Kd.C_alloc ?_ _) | (with_reducible refine Kd.C_drewN ?_ _) | (with_reducible refine Kd.C_drew ?_))); (case side2 => exact (Kd.R_reads' HO203.out).2.1); (case side3 => repeat (first | exact (Kd.R_reads' HO206.out).2.2 | (with_reducible refine Kd.C_alloc ?_ _) | (with_reducible refine Kd.C_drewN ?_ _) | (with_reducible refine Kd.C_drew ?_))); (case side4 => exact (Kd.R_reads' HO206.out).2.1); rintro e w25 ⟨rfl, hb⟩; refine ⟨_, rfl, ?_⟩; have n0_ := Aside0.mk (Kd.R_below (by (with_reducible repeat (first | apply Kd.R_alloc | apply Kd.R_drewN | apply Kd.R_drew)); exact HO203.out) hb); have n1_ := Aside0.mk (Kd.R_below (by (with_reducible repeat (first | apply Kd.R_alloc | apply Kd.R_drewN | apply Kd.R_drew)); exact HO206.out) hb); have n2_ := Aside0.mk (below_step (by repeat (first | (with_reducible first | exact HB.out | apply below_alloc | apply pw_below_drewN | apply below_drew1) | exact HB.out)) hb); clear HO203; clear HO206; clear HB; have HO203 := n0_; have HO206 := n1_; have HB := n2_; clear n0_ n1_ n2_; (try clear hb); (try clear hb2); (try clear hk); (try clear hi)) | ((with_reducible refine gate_callee (f := 44) rfl ?_); refine goesL_ (some 29) rfl rfl Try.func44 (by kernel_rfl) rfl #[.slice A1 l1.length c1] rfl (by (try simp only [List.map_toArray, List.map_cons, List.map_nil]); first | done | rfl | (simp only [List.length_drop, List.length_take]; rfl)) ?_; (with_reducible refine (laws_toGameS.calls k _ _ l1 t208 _ ?side1 ?side2 A11.out).mono ?_); (case side1 => repeat (first | exact (Kd.C_below HR1.out HB.out) | (with_reducible refine Kd.C_alloc ?_ _) | (with_reducible refine Kd.C_drewN ?_ _) | (with_reducible refine Kd.C_drew ?_))); (case side2 => exact HC1.out); rintro e w26 ⟨v209, rfl, ho0, hb⟩; refine ⟨_, rfl, ?_⟩; have n0_ := Aside0.mk (Kd.R_elder' (by (with_reducible repeat (first | apply Kd.R_alloc | apply Kd.R_drewN | apply Kd.R_drew)); exact HO203.out) (Kd.R_base ho0) hb); have n1_ := Aside0.mk (Kd.R_below (by (with_reducible repeat (first | apply Kd.R_alloc | apply Kd.R_drewN | apply Kd.R_drew)); exact HO206.out) hb); have n2_ := Aside0.mk (Kd.R_lower (Kd.R_new' ho0 (Kd.R_lt (by (with_reducible repeat (first | apply Kd.R_alloc | apply Kd.R_drewN | apply Kd.R_drew)); exact HO203.out))) (below_size (by repeat (first | (with_reducible first | exact HB.out | apply below_alloc | apply pw_below_drewN | apply below_drew1) | exact HB.out)))); have n3_ := Aside0.mk (below_step (by repeat (first | (with_reducible first | exact HB.out | apply below_alloc | apply pw_below_drewN | apply below_drew1) | exact HB.out)) hb); clear HO203; clear HO206; clear HB; have HO203 := n0_; have HO206 := n1_; have HO210 := n2_; have HB := n3_; clear n0_ n1_ n2_ n3_; (try clear hb); (try clear hb2); (try clear hk); (try clear hi); (try clear ho0)) | ((with_reducible refine gate_callee (f := 60) rfl ?_); refine goesL_ (some 31) rfl rfl Try.func60 (by kernel_rfl) rfl #[.slice A2 l2.length c2] rfl (by (try simp only [List.map_toArray, List.map_cons, List.map_nil]); first | done | rfl | (simp only [List.length_drop, List.length_take]; rfl)) ?_; (with_reducible refine (laws_toNoteS.calls k _ _ l2 t211 _ ?side1 ?side2 A12.out).mono ?_); (case side1 => repeat (first | exact (Kd.C_below HR2.out HB.out) | (with_reducible refine Kd.C_alloc ?_ _) | (with_reducible refine Kd.C_drewN ?_ _) | (with_reducible refine Kd.C_drew ?_))); (case side2 => exact HC2.out); rintro e w27 ⟨v212, rfl, ho0, hb⟩; refine ⟨_, rfl, ?_⟩; have n0_ := Aside0.mk (Kd.R_below (by (with_reducible repeat (first | apply Kd.R_alloc | apply Kd.R_drewN | apply Kd.R_drew)); exact HO203.out) hb); have n1_ := Aside0.mk (Kd.R_elder' (by (with_reducible repeat (first | apply Kd.R_alloc | apply Kd.R_drewN | apply Kd.R_drew)); exact HO206.out) (Kd.R_base ho0) hb); have n2_ := Aside0.mk (Kd.R_below (by (with_reducible repeat (first | apply Kd.R_alloc | apply Kd.R_drewN | apply Kd.R_drew)); exact HO210.out) hb); have n3_ := Aside0.mk (Kd.R_lower (Kd.R_new' ho0 (Kd.R_lt (by (with_reducible repeat (first | apply Kd.R_alloc | apply Kd.R_drewN | apply Kd.R_drew)); exact HO206.out))) (below_size (by repeat (first | (with_reducible first | exact HB.out | apply below_alloc | apply pw_below_drewN | apply below_drew1) | exact HB.out)))); have n4_ := Aside0.mk (below_step (by repeat (first | (with_reducible first | exact HB.out | apply below_alloc | apply pw_below_drewN | apply below_drew1) | exact HB.out)) hb); clear HO203; clear HO206; clear HO210; clear HB; have HO203 := n0_; have HO206 := n1_; have HO210 := n2_; have HO213 := n3_; have HB := n4_; clear n0_ n1_ n2_ n3_ n4_; (try clear hb); (try clear hb2); (try clear hk); (try clear hi); (try clear ho0); obtain ⟨Ao28, co28, eo28⟩ := Kd.R_slice HO210.out; subst eo28; obtain ⟨Ao29, co29, eo29⟩ := Kd.R_slice HO213.out; subst eo29) | ((with_reducible refine gate_callee (f := 66) rfl ?_); refine goesL_ (some 35) rfl rfl Try.func66 (by kernel_rfl) rfl #[.int .i64 a0, .slice Ao28 t208.length co28, .slice Ao29 t211.length co29] rfl (by (try simp only [List.map_toArray, List.map_cons, List.map_nil]); first | done | rfl | (simp only [List.length_drop, List.length_take]; rfl)) ?_; (with_reducible refine (impl_NotesOk.calls k a0 _ _ t208 _ _ t211 t214 _ ?side1 ?side2 ?side3 ?side4 A13.out).mono ?_); (case side1 => repeat (first | exact (Kd.R_reads' HO210.out).2.2 | (with_reducible refine Kd.C_alloc ?_ _) | (with_reducible refine Kd.C_drewN ?_ _) | (with_reducible refine Kd.C_drew ?_))); (case side2 => exact (Kd.R_reads' HO210.out).2.1); (case side3 => repeat (first | exact (Kd.R_reads' HO213.out).2.2 | (with_reducible refine Kd.C_alloc ?_ _) | (with_reducible refine Kd.C_drewN ?_ _) | (with_reducible refine Kd.C_drew ?_))); (case side4 => exact (Kd.R_reads' HO213.out).2.1); rintro e w30 ⟨rfl, hb⟩; refine ⟨_, rfl, ?_⟩; have n0_ := Aside0.mk (Kd.R_below (by (with_reducible repeat (first | apply Kd.R_alloc | apply Kd.R_drewN | apply Kd.R_drew)); exact HO203.out) hb); have n1_ := Aside0.mk (Kd.R_below (by (with_reducible repeat (first | apply Kd.R_alloc | apply Kd.R_drewN | apply Kd.R_drew)); exact HO206.out) hb); have n2_ := Aside0.mk (Kd.R_below (by (with_reducible repeat (first | apply Kd.R_alloc | apply Kd.R_drewN | apply Kd.R_drew)); exact HO210.out) hb); have n3_ := Aside0.mk (Kd.R_below (by (with_reducible repeat (first | apply Kd.R_alloc | apply Kd.R_drewN | apply Kd.R_drew)); exact HO213.out) hb); have n4_ := Aside0.mk (below_step (by repeat (first | (with_reducible first | exact HB.out | apply below_alloc | apply pw_below_drewN | apply below_drew1) | exact HB.out)) hb); clear HO203; clear HO206; clear HO210; clear HO213; clear HB; have HO203 := n0_; have HO206 := n1_; have HO210 := n2_; have HO213 := n3_; have HB := n4_; clear n0_ n1_ n2_ n3_ n4_; (try clear hb); (try clear hb2); (try clear hk); (try clear hi)) | ((with_reducible refine gate_callee (f := 44) rfl ?_); refine goesL_ (some 41) rfl rfl Try.func44 (by kernel_rfl) rfl #[.slice A1 l1.length c1] rfl (by (try simp only [List.map_toArray, List.map_cons, List.map_nil]); first | done | rfl | (simp only [List.length_drop, List.length_take]; rfl)) ?_; (with_reducible refine (laws_toGameS.calls k _ _ l1 t215 _ ?side1 ?side2 A15.out).mono ?_); (case side1 => repeat (first | exact (Kd.C_below HR1.out HB.out) | (with_reducible refine Kd.C_alloc ?_ _) | (with_reducible refine Kd.C_drewN ?_ _) | (with_reducible refine Kd.C_drew ?_))); (case side2 => exact HC1.out); rintro e w31 ⟨v216, rfl, ho0, hb⟩; refine ⟨_, rfl, ?_⟩; have n0_ := Aside0.mk (Kd.R_elder' (by (with_reducible repeat (first | apply Kd.R_alloc | apply Kd.R_drewN | apply Kd.R_drew)); exact HO203.out) (Kd.R_base ho0) hb); have n1_ := Aside0.mk (Kd.R_below (by (with_reducible repeat (first | apply Kd.R_alloc | apply Kd.R_drewN | apply Kd.R_drew)); exact HO206.out) hb); have n2_ := Aside0.mk (Kd.R_elder' (by (with_reducible repeat (first | apply Kd.R_alloc | apply Kd.R_drewN | apply Kd.R_drew)); exact HO210.out) (Kd.R_base ho0) hb); have n3_ := Aside0.mk (Kd.R_below (by (with_reducible repeat (first | apply Kd.R_alloc | apply Kd.R_drewN | apply Kd.R_drew)); exact HO213.out) hb); have n4_ := Aside0.mk (Kd.R_lower (Kd.R_new' (Kd.R_new' ho0 (Kd.R_lt (by (with_reducible repeat (first | apply Kd.R_alloc | apply Kd.R_drewN | apply Kd.R_drew)); exact HO203.out))) (Kd.R_lt (by (with_reducible repeat (first | apply Kd.R_alloc | apply Kd.R_drewN | apply Kd.R_drew)); exact HO210.out))) (below_size (by repeat (first | (with_reducible first | exact HB.out | apply below_alloc | apply pw_below_drewN | apply below_drew1) | exact HB.out)))); have n5_ := Aside0.mk (below_step (by repeat (first | (with_reducible first | exact HB.out | apply below_alloc | apply pw_below_drewN | apply below_drew1) | exact HB.out)) hb); clear HO203; clear HO206; clear HO210; clear HO213; clear HB; have HO203 := n0_; have HO206 := n1_; have HO210 := n2_; have HO213 := n3_; have HO217 := n4_; have HB := n5_; clear n0_ n1_ n2_ n3_ n4_ n5_; (try clear hb); (try clear hb2); (try clear hk); (try clear hi); (try clear ho0); obtain ⟨Ao32, co32, eo32⟩ := Kd.R_slice HO217.out; subst eo32) | ((with_reducible refine gate_callee (f := 47) rfl ?_); refine goesL_ (some 42) rfl rfl Try.func47 (by kernel_rfl) rfl #[.slice Ao28 t208.length co28, .slice Ao32 t215.length co32] rfl (by (try simp only [List.map_toArray, List.map_cons, List.map_nil]); first | done | rfl | (simp only [List.length_drop, List.length_take]; rfl)) ?_; (with_reducible refine (laws_eqGameS.calls k _ _ t208 _ _ t215 true _ rfl ?side1 ?side2 ?side3 ?side4 A16.out).mono ?_); (case side1 => repeat (first | exact (Kd.R_reads' HO210.out).2.2 | (with_reducible refine Kd.C_alloc ?_ _) | (with_reducible refine Kd.C_drewN ?_ _) | (with_reducible refine Kd.C_drew ?_))); (case side2 => exact (Kd.R_reads' HO210.out).2.1); (case side3 => repeat (first | exact (Kd.R_reads' HO217.out).2.2 | (with_reducible refine Kd.C_alloc ?_ _) | (with_reducible refine Kd.C_drewN ?_ _) | (with_reducible refine Kd.C_drew ?_))); (case side4 => exact (Kd.R_reads' HO217.out).2.1); rintro e w33 ⟨rfl, hb⟩; refine ⟨_, rfl, ?_⟩; have n0_ := Aside0.mk (Kd.R_below (by (with_reducible repeat (first | apply Kd.R_alloc | apply Kd.R_drewN | apply Kd.R_drew)); exact HO203.out) hb); have n1_ := Aside0.mk (Kd.R_below (by (with_reducible repeat (first | apply Kd.R_alloc | apply Kd.R_drewN | apply Kd.R_drew)); exact HO206.out) hb); have n2_ := Aside0.mk (Kd.R_below (by (with_reducible repeat (first | apply Kd.R_alloc | apply Kd.R_drewN | apply Kd.R_drew)); exact HO210.out) hb); have n3_ := Aside0.mk (Kd.R_below (by (with_reducible repeat (first | apply Kd.R_alloc | apply Kd.R_drewN | apply Kd.R_drew)); exact HO213.out) hb); have n4_ := Aside0.mk (Kd.R_below (by (with_reducible repeat (first | apply Kd.R_alloc | apply Kd.R_drewN | apply Kd.R_drew)); exact HO217.out) hb); have n5_ := Aside0.mk (below_step (by repeat (first | (with_reducible first | exact HB.out | apply below_alloc | apply pw_below_drewN | apply below_drew1) | exact HB.out)) hb); clear HO203; clear HO206; clear HO210; clear HO213; clear HO217; clear HB; have HO203 := n0_; have HO206 := n1_; have HO210 := n2_; have HO213 := n3_; have HO217 := n4_; have HB := n5_; clear n0_ n1_ n2_ n3_ n4_ n5_; (try clear hb); (try clear hb2); (try clear hk); (try clear hi)) | ((with_reducible refine gate_callee (f := 60) rfl ?_); refine goesL_ (some 46) rfl rfl Try.func60 (by kernel_rfl) rfl #[.slice A2 l2.length c2] rfl (by (try simp only [List.map_toArray, List.map_cons, List.map_nil]); first | done | rfl | (simp only [List.length_drop, List.length_take]; rfl)) ?_; (with_reducible refine (laws_toNoteS.calls k _ _ l2 t219 _ ?side1 ?side2 A18.out).mono ?_); (case side1 => repeat (first | exact (Kd.C_below HR2.out HB.out) | (with_reducible refine Kd.C_alloc ?_ _) | (with_reducible refine Kd.C_drewN ?_ _) | (with_reducible refine Kd.C_drew ?_))); (case side2 => exact HC2.out); rintro e w34 ⟨v220, rfl, ho0, hb⟩; refine ⟨_, rfl, ?_⟩; have n0_ := Aside0.mk (Kd.R_below (by (with_reducible repeat (first | apply Kd.R_alloc | apply Kd.R_drewN | apply Kd.R_drew)); exact HO203.out) hb); have n1_ := Aside0.mk (Kd.R_elder' (by (with_reducible repeat (first | apply Kd.R_alloc | apply Kd.R_drewN | apply Kd.R_drew)); exact HO206.out) (Kd.R_base ho0) hb); have n2_ := Aside0.mk (Kd.R_below (by (with_reducible repeat (first | apply Kd.R_alloc | apply Kd.R_drewN | apply Kd.R_drew)); exact HO210.out) hb); have n3_ := Aside0.mk (Kd.R_elder' (by (with_reducible repeat (first | apply Kd.R_alloc | apply Kd.R_drewN | apply Kd.R_drew)); exact HO213.out) (Kd.R_base ho0) hb); have n4_ := Aside0.mk (Kd.R_below (by (with_reducible repeat (first | apply Kd.R_alloc | apply Kd.R_drewN | apply Kd.R_drew)); exact HO217.out) hb); have n5_ := Aside0.mk (Kd.R_lower (Kd.R_new' (Kd.R_new' ho0 (Kd.R_lt (by (with_reducible repeat (first | apply Kd.R_alloc | apply Kd.R_drewN | apply Kd.R_drew)); exact HO206.out))) (Kd.R_lt (by (with_reducible repeat (first | apply Kd.R_alloc | apply Kd.R_drewN | apply Kd.R_drew)); exact HO213.out))) (below_size (by repeat (first | (with_reducible first | exact HB.out | apply below_alloc | apply pw_below_drewN | apply below_drew1) | exact HB.out)))); have n6_ := Aside0.mk (below_step (by repeat (first | (with_reducible first | exact HB.out | apply below_alloc | apply pw_below_drewN | apply below_drew1) | exact HB.out)) hb); clear HO203; clear HO206; clear HO210; clear HO213; clear HO217; clear HB; have HO203 := n0_; have HO206 := n1_; have HO210 := n2_; have HO213 := n3_; have HO217 := n4_; have HO221 := n5_; have HB := n6_; clear n0_ n1_ n2_ n3_ n4_ n5_ n6_; (try clear hb); (try clear hb2); (try clear hk); (try clear hi); (try clear ho0); obtain ⟨Ao35, co35, eo35⟩ := Kd.R_slice HO221.out; subst eo35) | ((with_reducible refine gate_callee (f := 62) rfl ?_); refine goesL_ (some 47) rfl rfl Try.func62 (by kernel_rfl) rfl #[.slice Ao29 t211.length co29, .slice Ao35 t219.length co35] rfl (by (try simp only [List.map_toArray, List.map_cons, List.map_nil]); first | done | rfl | (simp only [List.length_drop, List.length_take]; rfl)) ?_; (with_reducible refine (laws_eqNoteS.calls k _ _ t211 _ _ t219 true _ rfl ?side1 ?side2 ?side3 ?side4 A19.out).mono ?_); (case side1 => repeat (first | exact (Kd.R_reads' HO213.out).2.2 | (with_reducible refine Kd.C_alloc ?_ _) | (with_reducible refine Kd.C_drewN ?_ _) | (with_reducible refine Kd.C_drew ?_))); (case side2 => exact (Kd.R_reads' HO213.out).2.1); (case side3 => repeat (first | exact (Kd.R_reads' HO221.out).2.2 | (with_reducible refine Kd.C_alloc ?_ _) | (with_reducible refine Kd.C_drewN ?_ _) | (with_reducible refine Kd.C_drew ?_))); (case side4 => exact (Kd.R_reads' HO221.out).2.1); rintro e w36 ⟨rfl, hb⟩; refine ⟨_, rfl, ?_⟩; have n0_ := Aside0.mk (Kd.R_below (by (with_reducible repeat (first | apply Kd.R_alloc | apply Kd.R_drewN | apply Kd.R_drew)); exact HO203.out) hb); have n1_ := Aside0.mk (Kd.R_below (by (with_reducible repeat (first | apply Kd.R_alloc | apply Kd.R_drewN | apply Kd.R_drew)); exact HO206.out) hb); have n2_ := Aside0.mk (Kd.R_below (by (with_reducible repeat (first | apply Kd.R_alloc | apply Kd.R_drewN | apply Kd.R_drew)); exact HO210.out) hb); have n3_ := Aside0.mk (Kd.R_below (by (with_reducible repeat (first | apply Kd.R_alloc | apply Kd.R_drewN | apply Kd.R_drew)); exact HO213.out) hb); have n4_ := Aside0.mk (Kd.R_below (by (with_reducible repeat (first | apply Kd.R_alloc | apply Kd.R_drewN | apply Kd.R_drew)); exact HO217.out) hb); have n5_ := Aside0.mk (Kd.R_below (by (with_reducible repeat (first | apply Kd.R_alloc | apply Kd.R_drewN | apply Kd.R_drew)); exact HO221.out) hb); have n6_ := Aside0.mk (below_step (by repeat (first | (with_reducible first | exact HB.out | apply below_alloc | apply pw_below_drewN | apply below_drew1) | exact HB.out)) hb); clear HO203; clear HO206; clear HO210; clear HO213; clear HO217; clear HO221; clear HB; have HO203 := n0_; have HO206 := n1_; have HO210 := n2_; have HO213 := n3_; have HO217 := n4_; have HO221 := n5_; have HB := n6_; clear n0_ n1_ n2_ n3_ n4_ n5_ n6_; (try clear hb); (try clear hb2); (try clear hk); (try clear hi)))
            go_ret
            exact ⟨by first | rfl | (simp [errW_none, errW_some] <;> rfl) | (simp [*, errW_none, errW_some] <;> rfl), by repeat (first | (with_reducible first | exact HB.out | apply below_alloc | apply pw_below_drewN | apply below_drew1) | exact HB.out)⟩
          · replace c20 := Bool.eq_false_iff.mpr c20
            subst c20
            have H1 : (some false) = some r := by rw [if_neg (show ¬ (false = true) by decide)] at H; exact H
            clear H
            have H := H1
            clear H1
            exact absurd ((Option.some.inj H).trans HR_.out) (by decide)
        · replace c17 := Bool.eq_false_iff.mpr c17
          subst c17
          have H1 : (some false) = some r := by rw [if_neg (show ¬ (false = true) by decide)] at H; exact H
          clear H
          have H := H1
          clear H1
          exact absurd ((Option.some.inj H).trans HR_.out) (by decide)

end Go.Proofs.Ytapmiocpkddbfaa.MFnExactNotesOk
