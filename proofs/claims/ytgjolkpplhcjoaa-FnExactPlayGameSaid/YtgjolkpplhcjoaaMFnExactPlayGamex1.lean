/- The functions that FnExactPlayGame reaches, each with its contract: the print's form, by wip/tools/myprint.py; no condition of its own. -/
import Derived.Test.YtgjolkpplhcjoaaMFnExactPlayGamex0
namespace Go.Proofs.Ytgjolkpplhcjoaa.MFnExactPlayGame
open Go.RowKit Go.Proofs.YtgjolkpplhcjoaaW.PrintWords Go.Proofs.YtgjolkpplhcjoaaW.PrintLast Go.Proofs.YtgjolkpplhcjoaaW.PrintMore
attribute [local go_sem] max2_int min2_int max_two min_two max_three min_three max_four min_four   -- for this text's walks alone
set_option linter.unusedVariables false
set_option linter.unusedSimpArgs false

/-! ### laws_toGame: function 20 -/
def laws_toGame.f (a0_0 : Int) (a0_1 : Int) (a0_2 : Int) (a0_3 : Int) (a0_4 : Int) : Option (Int × Int × Int × Int × Int) := some (a0_0, a0_1, a0_2, a0_3, a0_4)
set_option maxHeartbeats 8000000 in
set_option maxRecDepth 100000 in
theorem laws_toGame.calls (a0_0 : Int) (a0_1 : Int) (a0_2 : Int) (a0_3 : Int) (a0_4 : Int) (r1 : Int) (r2 : Int) (r3 : Int) (r4 : Int) (r5 : Int) (w : World) (h : laws_toGame.f a0_0 a0_1 a0_2 a0_3 a0_4 = some (r1, r2, r3, r4, r5)) :
    Calls Try.prog 20 #[.agg #[.int .i64 a0_0, .int .i64 a0_1, .int .i64 a0_2, .int .i64 a0_3, .int .i64 a0_4]] w fun e w' => e = .returned (.agg #[.int .i64 r1, .int .i64 r2, .int .i64 r3, .int .i64 r4, .int .i64 r5]) ∧ Below w.heap.size w w' := by
  have hu27 := Try.underlying27
  have hu29 := Try.underlying29
  have HB := Aside0.mk (Below.refl w.heap.size w)
  have H : (some (a0_0, a0_1, a0_2, a0_3, a0_4)) = some (r1, r2, r3, r4, r5) := h
  clear h
  simp only [Option.some.injEq, Prod.mk.injEq] at H
  obtain ⟨rfl, rfl, rfl, rfl, rfl⟩ := H
  go_enter Try.func20, Try.ntmps20
  go_wp2_with (first | ((with_reducible refine gate_dst (N := 1) rfl ?_); refine box_event ?hg (N := 1) ?hd (cs := #[.int .i64 a0_0, .int .i64 a0_1, .int .i64 a0_2, .int .i64 a0_3, .int .i64 a0_4]) (t := 27) ?hr ?_; (case hd => rfl); (case hg => rfl); (case hr => first | (go_simp; done) | (go_simp; rfl)); intro gb101 hg w2 hbox hb; have n0_ := Aside0.mk (below_step (by repeat (first | (with_reducible first | exact HB.out | apply below_alloc | apply pw_below_drewN | apply below_drew1) | exact HB.out)) hb); have n1_ := Aside0.mk (hbox); have n2_ := Aside0.mk ((by rw [hg]; exact (below_size (by repeat (first | (with_reducible first | exact HB.out | apply below_alloc | apply pw_below_drewN | apply below_drew1) | exact HB.out))) : w.heap.size ≤ gb101)); have n3_ := Aside0.mk ((by rw [hg]; exact (below_size (by repeat (first | (with_reducible first | exact HB.out | apply below_alloc | apply pw_below_drewN | apply below_drew1) | exact HB.out))) : w.heap.size ≤ gb101)); clear HB; have HB := n0_; have BK101 := n1_; have GW101 := n2_; have GE101 := n3_; clear n0_ n1_ n2_ n3_; clear hb hbox hg) | ((with_reducible refine gate_dst (N := 2) rfl ?_); refine box_event ?hg (N := 2) ?hd (cs := #[.int .i64 0, .int .i64 0, .int .i64 0, .int .i64 0, .int .i64 0]) (t := 29) ?hr ?_; (case hd => rfl); (case hg => rfl); (case hr => first | (go_simp; done) | (go_simp; rfl)); intro gb102 hg w3 hbox hb; have n0_ := Aside0.mk (blk_below (g := gb101) (o := .cells #[.int .i64 a0_0, .int .i64 a0_1, .int .i64 a0_2, .int .i64 a0_3, .int .i64 a0_4] 27 (0, 0)) (by (with_reducible repeat (first | refine blk_drewN ?_ _ | refine blk_drew ?_ | refine blk_alloc ?_ _)); exact BK101.out) hb); have n1_ := Aside0.mk (below_step (by repeat (first | (with_reducible first | exact HB.out | apply below_alloc | apply pw_below_drewN | apply below_drew1 | refine below_set ?_ GE101.out) | exact HB.out)) hb); have n2_ := Aside0.mk (hbox); have n3_ := Aside0.mk ((by rw [hg]; exact (below_size (by repeat (first | (with_reducible first | exact HB.out | apply below_alloc | apply pw_below_drewN | apply below_drew1 | refine below_set ?_ GE101.out) | exact HB.out))) : w.heap.size ≤ gb102)); have n4_ := Aside0.mk ((by rw [hg]; exact (below_size (by repeat (first | (with_reducible first | exact HB.out | apply below_alloc | apply pw_below_drewN | apply below_drew1 | refine below_set ?_ GE101.out) | exact HB.out))) : w.heap.size ≤ gb102)); have n5_ := Aside0.mk ((by rw [hg]; exact Nat.ne_of_lt (blk_lt (g := gb101) (o := .cells #[.int .i64 a0_0, .int .i64 a0_1, .int .i64 a0_2, .int .i64 a0_3, .int .i64 a0_4] 27 (0, 0)) (by (with_reducible repeat (first | refine blk_drewN ?_ _ | refine blk_drew ?_ | refine blk_alloc ?_ _)); exact BK101.out)) : gb101 ≠ gb102)); have n6_ := Aside0.mk ((by rw [hg]; exact Nat.ne_of_gt (blk_lt (g := gb101) (o := .cells #[.int .i64 a0_0, .int .i64 a0_1, .int .i64 a0_2, .int .i64 a0_3, .int .i64 a0_4] 27 (0, 0)) (by (with_reducible repeat (first | refine blk_drewN ?_ _ | refine blk_drew ?_ | refine blk_alloc ?_ _)); exact BK101.out)) : gb102 ≠ gb101)); clear BK101; clear HB; have BK101 := n0_; have HB := n1_; have BK102 := n2_; have GW102 := n3_; have GE102 := n4_; have NB101_102 := n5_; have NB102_101 := n6_; clear n0_ n1_ n2_ n3_ n4_ n5_ n6_; clear hb hbox hg) | ((with_reducible refine gate_dst (N := 3) rfl ?_); refine box_event ?hg (N := 3) ?hd (cs := #[.int .i64 0, .int .i64 0, .int .i64 0, .int .i64 0, .int .i64 0]) (t := 29) ?hr ?_; (case hd => rfl); (case hg => rfl); (case hr => first | (go_simp; done) | (go_simp; rfl)); intro gb103 hg w4 hbox hb; have n0_ := Aside0.mk (blk_below (g := gb101) (o := .cells #[.int .i64 a0_0, .int .i64 a0_1, .int .i64 a0_2, .int .i64 a0_3, .int .i64 a0_4] 27 (0, 0)) (by (with_reducible repeat (first | refine blk_drewN ?_ _ | refine blk_drew ?_ | refine blk_alloc ?_ _)); exact BK101.out) hb); have n1_ := Aside0.mk (blk_below (g := gb102) (o := .cells #[.int .i64 0, .int .i64 0, .int .i64 0, .int .i64 0, .int .i64 0] 29 (0, 0)) (by (with_reducible repeat (first | refine blk_drewN ?_ _ | refine blk_drew ?_ | refine blk_alloc ?_ _)); exact BK102.out) hb); have n2_ := Aside0.mk (below_step (by repeat (first | (with_reducible first | exact HB.out | apply below_alloc | apply pw_below_drewN | apply below_drew1 | refine below_set ?_ GE101.out | refine below_set ?_ GE102.out) | exact HB.out)) hb); have n3_ := Aside0.mk (hbox); have n4_ := Aside0.mk ((by rw [hg]; exact (below_size (by repeat (first | (with_reducible first | exact HB.out | apply below_alloc | apply pw_below_drewN | apply below_drew1 | refine below_set ?_ GE101.out | refine below_set ?_ GE102.out) | exact HB.out))) : w.heap.size ≤ gb103)); have n5_ := Aside0.mk ((by rw [hg]; exact (below_size (by repeat (first | (with_reducible first | exact HB.out | apply below_alloc | apply pw_below_drewN | apply below_drew1 | refine below_set ?_ GE101.out | refine below_set ?_ GE102.out) | exact HB.out))) : w.heap.size ≤ gb103)); have n6_ := Aside0.mk ((by rw [hg]; exact Nat.ne_of_lt (blk_lt (g := gb101) (o := .cells #[.int .i64 a0_0, .int .i64 a0_1, .int .i64 a0_2, .int .i64 a0_3, .int .i64 a0_4] 27 (0, 0)) (by (with_reducible repeat (first | refine blk_drewN ?_ _ | refine blk_drew ?_ | refine blk_alloc ?_ _)); exact BK101.out)) : gb101 ≠ gb103)); have n7_ := Aside0.mk ((by rw [hg]; exact Nat.ne_of_gt (blk_lt (g := gb101) (o := .cells #[.int .i64 a0_0, .int .i64 a0_1, .int .i64 a0_2, .int .i64 a0_3, .int .i64 a0_4] 27 (0, 0)) (by (with_reducible repeat (first | refine blk_drewN ?_ _ | refine blk_drew ?_ | refine blk_alloc ?_ _)); exact BK101.out)) : gb103 ≠ gb101)); have n8_ := Aside0.mk ((by rw [hg]; exact Nat.ne_of_lt (blk_lt (g := gb102) (o := .cells #[.int .i64 0, .int .i64 0, .int .i64 0, .int .i64 0, .int .i64 0] 29 (0, 0)) (by (with_reducible repeat (first | refine blk_drewN ?_ _ | refine blk_drew ?_ | refine blk_alloc ?_ _)); exact BK102.out)) : gb102 ≠ gb103)); have n9_ := Aside0.mk ((by rw [hg]; exact Nat.ne_of_gt (blk_lt (g := gb102) (o := .cells #[.int .i64 0, .int .i64 0, .int .i64 0, .int .i64 0, .int .i64 0] 29 (0, 0)) (by (with_reducible repeat (first | refine blk_drewN ?_ _ | refine blk_drew ?_ | refine blk_alloc ?_ _)); exact BK102.out)) : gb103 ≠ gb102)); clear BK101; clear BK102; clear HB; have BK101 := n0_; have BK102 := n1_; have HB := n2_; have BK103 := n3_; have GW103 := n4_; have GE103 := n5_; have NB101_103 := n6_; have NB103_101 := n7_; have NB102_103 := n8_; have NB103_102 := n9_; clear n0_ n1_ n2_ n3_ n4_ n5_ n6_ n7_ n8_ n9_; clear hb hbox hg; have hnb5 := NB101_102.out; have hnc5 := NB102_101.out; have hnb6 := NB101_103.out; have hnc6 := NB103_101.out; have hcz7_0 : w4.cell? ⟨gb101, 0, none⟩ = some (.int .i64 a0_0) := (blk_cell BK101.out 0).trans rfl; have hcz7_1 : w4.cell? ⟨gb101, 1, none⟩ = some (.int .i64 a0_1) := (blk_cell BK101.out 1).trans rfl; have hcz7_2 : w4.cell? ⟨gb101, 2, none⟩ = some (.int .i64 a0_2) := (blk_cell BK101.out 2).trans rfl; have hcz7_3 : w4.cell? ⟨gb101, 3, none⟩ = some (.int .i64 a0_3) := (blk_cell BK101.out 3).trans rfl; have hcz7_4 : w4.cell? ⟨gb101, 4, none⟩ = some (.int .i64 a0_4) := (blk_cell BK101.out 4).trans rfl; have hfz7_0 := blk_frozen BK101.out 0; have hfz7_1 := blk_frozen BK101.out 1; have hfz7_2 := blk_frozen BK101.out 2; have hfz7_3 := blk_frozen BK101.out 3; have hfz7_4 := blk_frozen BK101.out 4; have hnb8 := NB103_102.out; have hnc8 := NB102_103.out; have hcz9_0 : w4.cell? ⟨gb103, 0, none⟩ = some (.int .i64 0) := (blk_cell BK103.out 0).trans rfl; have hcz9_1 : w4.cell? ⟨gb103, 1, none⟩ = some (.int .i64 0) := (blk_cell BK103.out 1).trans rfl; have hcz9_2 : w4.cell? ⟨gb103, 2, none⟩ = some (.int .i64 0) := (blk_cell BK103.out 2).trans rfl; have hcz9_3 : w4.cell? ⟨gb103, 3, none⟩ = some (.int .i64 0) := (blk_cell BK103.out 3).trans rfl; have hcz9_4 : w4.cell? ⟨gb103, 4, none⟩ = some (.int .i64 0) := (blk_cell BK103.out 4).trans rfl; have hfz9_0 := blk_frozen BK103.out 0; have hfz9_1 := blk_frozen BK103.out 1; have hfz9_2 := blk_frozen BK103.out 2; have hfz9_3 := blk_frozen BK103.out 3; have hfz9_4 := blk_frozen BK103.out 4; have hcz10_0 : w4.cell? ⟨gb102, 0, none⟩ = some (.int .i64 0) := (blk_cell BK102.out 0).trans rfl; have hcz10_1 : w4.cell? ⟨gb102, 1, none⟩ = some (.int .i64 0) := (blk_cell BK102.out 1).trans rfl; have hcz10_2 : w4.cell? ⟨gb102, 2, none⟩ = some (.int .i64 0) := (blk_cell BK102.out 2).trans rfl; have hcz10_3 : w4.cell? ⟨gb102, 3, none⟩ = some (.int .i64 0) := (blk_cell BK102.out 3).trans rfl; have hcz10_4 : w4.cell? ⟨gb102, 4, none⟩ = some (.int .i64 0) := (blk_cell BK102.out 4).trans rfl; have hfz10_0 := blk_frozen BK102.out 0; have hfz10_1 := blk_frozen BK102.out 1; have hfz10_2 := blk_frozen BK102.out 2; have hfz10_3 := blk_frozen BK102.out 3; have hfz10_4 := blk_frozen BK102.out 4))
  refine bodyPost_ret (results_cell_row rfl _ _ gb102 29 #[.int .i64 a0_0, .int .i64 a0_1, .int .i64 a0_2, .int .i64 a0_3, .int .i64 a0_4] (0, 0) _ rfl (by (with_reducible repeat (first | refine blk_drewN ?_ _ | refine blk_drew ?_ | refine blk_alloc ?_ _)); refine blk_put (cs := #[.int .i64 a0_0, .int .i64 a0_1, .int .i64 a0_2, .int .i64 a0_3, .int .i64 0]) ?_ 4 _ rfl; (with_reducible repeat (first | refine blk_drewN ?_ _ | refine blk_drew ?_ | refine blk_alloc ?_ _)); refine blk_put (cs := #[.int .i64 a0_0, .int .i64 a0_1, .int .i64 a0_2, .int .i64 0, .int .i64 0]) ?_ 3 _ rfl; (with_reducible repeat (first | refine blk_drewN ?_ _ | refine blk_drew ?_ | refine blk_alloc ?_ _)); refine blk_put (cs := #[.int .i64 a0_0, .int .i64 a0_1, .int .i64 0, .int .i64 0, .int .i64 0]) ?_ 2 _ rfl; (with_reducible repeat (first | refine blk_drewN ?_ _ | refine blk_drew ?_ | refine blk_alloc ?_ _)); refine blk_put (cs := #[.int .i64 a0_0, .int .i64 0, .int .i64 0, .int .i64 0, .int .i64 0]) ?_ 1 _ rfl; (with_reducible repeat (first | refine blk_drewN ?_ _ | refine blk_drew ?_ | refine blk_alloc ?_ _)); refine blk_put (cs := #[.int .i64 0, .int .i64 0, .int .i64 0, .int .i64 0, .int .i64 0]) ?_ 0 _ rfl; (with_reducible repeat (first | refine blk_drewN ?_ _ | refine blk_drew ?_ | refine blk_alloc ?_ _)); refine blk_far ?_ NB102_103.out _; (with_reducible repeat (first | refine blk_drewN ?_ _ | refine blk_drew ?_ | refine blk_alloc ?_ _)); refine blk_far ?_ NB102_103.out _; (with_reducible repeat (first | refine blk_drewN ?_ _ | refine blk_drew ?_ | refine blk_alloc ?_ _)); refine blk_far ?_ NB102_103.out _; (with_reducible repeat (first | refine blk_drewN ?_ _ | refine blk_drew ?_ | refine blk_alloc ?_ _)); refine blk_far ?_ NB102_103.out _; (with_reducible repeat (first | refine blk_drewN ?_ _ | refine blk_drew ?_ | refine blk_alloc ?_ _)); refine blk_far ?_ NB102_103.out _; (with_reducible repeat (first | refine blk_drewN ?_ _ | refine blk_drew ?_ | refine blk_alloc ?_ _)); exact BK102.out) Try.underlying29 rfl (by kernel_rfl)) rfl ?_
  exact ⟨by first | rfl | (simp [errW_none, errW_some] <;> rfl) | (simp [*, errW_none, errW_some] <;> rfl), by repeat (first | (with_reducible first | exact HB.out | apply below_alloc | apply pw_below_drewN | apply below_drew1 | refine below_set ?_ GE101.out | refine below_set ?_ GE102.out | refine below_set ?_ GE103.out) | exact HB.out)⟩

/-! ### spec_l01In: function 56 -/
def spec_l01In.f (a0 : Int) (a1 : Int) (a2 : Int) : Option (Bool) := if a0 ≥ a1 then (some (decide (a0 ≤ a2))) else (some false)
set_option maxHeartbeats 8000000 in
set_option maxRecDepth 100000 in
theorem spec_l01In.calls (a0 : Int) (a1 : Int) (a2 : Int) (r : Bool) (w : World) (h : spec_l01In.f a0 a1 a2 = some r) :
    Calls Try.prog 56 #[.int .i64 a0, .int .i64 a1, .int .i64 a2] w fun e w' => e = .returned (.bool r) ∧ Drawn0 w w' := by
  have H : (if a0 ≥ a1 then (some (decide (a0 ≤ a2))) else (some false)) = some r := h
  clear h
  by_cases c4 : a0 ≥ a1
  · rw [if_pos c4] at H
    have c4b0 : decide (a1 ≤ a0) = true := decide_eq_true c4
    clear c4
    obtain rfl := Option.some.inj H
    go_enter Try.func56, Try.ntmps56
    go_wp2
    go_ret
    exact ⟨by first | rfl | (simp; done) | (simp [*]; done), by repeat (first | exact Drawn0.refl _ | apply Drawn0.step)⟩
  · rw [if_neg c4] at H
    have c4b0 : decide (a1 ≤ a0) = false := decide_eq_false c4
    clear c4
    obtain rfl := Option.some.inj H
    go_enter Try.func56, Try.ntmps56
    go_wp2
    go_ret
    exact ⟨by first | rfl | (simp; done) | (simp [*]; done), by repeat (first | exact Drawn0.refl _ | apply Drawn0.step)⟩

/-! ### spec_PlayGame: function 38 -/
def spec_PlayGame.f (a0_0 : Int) (a0_1 : Int) (a0_2 : Int) (a0_3 : Int) (a0_4 : Int) (a1 : Int) : Option (Int × Int × Int × Int × Int) := (spec_l01In.f a1 1 3).bind fun t106 => (if t106 = true then (if a1 = 1 then (if a1 = 3 then (some (a0_0, a0_1, 1, 1, 1)) else (some (a0_0, a0_1, 1, 0, 1))) else (if a1 = 3 then (some (a0_0, a0_1, 0, 1, 1)) else (some (a0_0, a0_1, 0, 0, 1)))) else (some (a0_0, a0_1, a0_2, a0_3, a0_4)))
theorem set_over (w : World) (g i : Nat) (v v' : Value) : (w.setCell ⟨g, i, none⟩ v).setCell ⟨g, i, none⟩ v' = w.setCell ⟨g, i, none⟩ v' := by
  simp only [Go.Sort.setCell_eq, Go.Sort.mapBlock_mapBlock]
  congr 1
  funext c
  simp
theorem set_back (w : World) (g i j : Nat) (h : i ≠ j) (v u v' : Value) : ((w.setCell ⟨g, i, none⟩ v).setCell ⟨g, j, none⟩ u).setCell ⟨g, i, none⟩ v' = (w.setCell ⟨g, i, none⟩ v').setCell ⟨g, j, none⟩ u := by
  simp only [Go.Sort.setCell_eq, Go.Sort.mapBlock_mapBlock]
  congr 1
  funext c
  apply Array.ext_getElem?
  intro k
  simp only [Array.getElem?_setIfInBounds, Array.size_setIfInBounds]
  by_cases ci : i = k
  · subst ci
    simp [Ne.symm h]
  · simp [ci]
theorem blk_new2 (w : World) (o o' : Obj) : ((w.alloc o).alloc o').heap[w.heap.size + 1]? = some o' := by
  have h := blk_new (w.alloc o) o'
  have e : (w.alloc o).heap.size = w.heap.size + 1 := Array.size_push _
  rwa [e] at h
set_option maxHeartbeats 8000000 in
set_option maxRecDepth 100000 in
theorem spec_PlayGame.yes (a0_0 a0_1 a0_2 a0_3 a0_4 a1 : Int) (b1 b3 : Bool) (h1 : (a1 == 1) = b1) (h3 : (a1 == 3) = b3) (w : World) (A3 : spec_l01In.f a1 1 3 = some true) :
    Calls Try.prog 38 #[.agg #[.int .i64 a0_0, .int .i64 a0_1, .int .i64 a0_2, .int .i64 a0_3, .int .i64 a0_4], .int .i64 a1] w fun e w' => e = .returned (.agg #[.int .i64 a0_0, .int .i64 a0_1, .int .i64 (if b1 = true then 1 else 0), .int .i64 (if b3 = true then 1 else 0), .int .i64 1]) ∧ Below w.heap.size w w' := by
  have hu29 := Try.underlying29
  have A3 := Aside0.mk A3
  go_enter Try.func38, Try.ntmps38
  cases b1 <;> cases b3
  case false.false =>
    go_wp2_with fail
    refine (spec_l01In.calls a1 1 3 true _ A3.out).mono ?_
    rintro e w' ⟨rfl, ⟨nd, rfl⟩⟩
    generalize hW : World.drewN _ nd = W
    have HB := Aside0.mk (show Below w.heap.size w W by rw [← hW]; exact pw_below_drewN (below_alloc (below_alloc (Below.refl _ _) _) _) _)
    have B4 := Aside0.mk (show W.heap[w.heap.size]? = some (.cells #[.int .i64 a0_0, .int .i64 a0_1, .int .i64 a0_2, .int .i64 a0_3, .int .i64 a0_4] 29 (0, 0)) by rw [← hW]; exact blk_drewN (blk_alloc (blk_new w _) _) _)
    have B5 := Aside0.mk (show W.heap[w.heap.size + 1]? = some (.cells #[.int .i64 0, .int .i64 0, .int .i64 0, .int .i64 0, .int .i64 0] 29 (0, 0)) by rw [← hW]; exact blk_drewN (blk_new2 w _ _) _)
    clear hW
    have hn45 : w.heap.size ≠ w.heap.size + 1 := by omega
    have hn54 := Ne.symm hn45
    have G5 := Aside0.mk (show w.heap.size ≤ w.heap.size + 1 by omega)
    have G4 := Aside0.mk (Nat.le_refl w.heap.size)
    generalize w.heap.size + 1 = g5 at hn45 hn54 B5 G5 ⊢
    generalize hg4 : w.heap.size = g4 at hn45 hn54 B4 G4 G5 ⊢
    have hc4_0 : W.cell? ⟨g4, 0, none⟩ = some (.int .i64 a0_0) := (blk_cell B4.out 0).trans rfl
    have hf4_0 := blk_frozen B4.out 0
    have hc5_0 : W.cell? ⟨g5, 0, none⟩ = some (.int .i64 0) := (blk_cell B5.out 0).trans rfl
    have hf5_0 := blk_frozen B5.out 0
    have hc4_1 : W.cell? ⟨g4, 1, none⟩ = some (.int .i64 a0_1) := (blk_cell B4.out 1).trans rfl
    have hf4_1 := blk_frozen B4.out 1
    have hc5_1 : W.cell? ⟨g5, 1, none⟩ = some (.int .i64 0) := (blk_cell B5.out 1).trans rfl
    have hf5_1 := blk_frozen B5.out 1
    have hc4_2 : W.cell? ⟨g4, 2, none⟩ = some (.int .i64 a0_2) := (blk_cell B4.out 2).trans rfl
    have hf4_2 := blk_frozen B4.out 2
    have hc5_2 : W.cell? ⟨g5, 2, none⟩ = some (.int .i64 0) := (blk_cell B5.out 2).trans rfl
    have hf5_2 := blk_frozen B5.out 2
    have hc4_3 : W.cell? ⟨g4, 3, none⟩ = some (.int .i64 a0_3) := (blk_cell B4.out 3).trans rfl
    have hf4_3 := blk_frozen B4.out 3
    have hc5_3 : W.cell? ⟨g5, 3, none⟩ = some (.int .i64 0) := (blk_cell B5.out 3).trans rfl
    have hf5_3 := blk_frozen B5.out 3
    have hc4_4 : W.cell? ⟨g4, 4, none⟩ = some (.int .i64 a0_4) := (blk_cell B4.out 4).trans rfl
    have hf4_4 := blk_frozen B4.out 4
    have hc5_4 : W.cell? ⟨g5, 4, none⟩ = some (.int .i64 0) := (blk_cell B5.out 4).trans rfl
    have hf5_4 := blk_frozen B5.out 4
    have hso3 : ∀ (X : World) (v v' : Value), (X.setCell ⟨g4, 3, none⟩ v).setCell ⟨g4, 3, none⟩ v' = X.setCell ⟨g4, 3, none⟩ v' := fun X => set_over X g4 3
    have hsb2 : ∀ (X : World) (v u v' : Value), ((X.setCell ⟨g4, 2, none⟩ v).setCell ⟨g4, 3, none⟩ u).setCell ⟨g4, 2, none⟩ v' = (X.setCell ⟨g4, 2, none⟩ v').setCell ⟨g4, 3, none⟩ u := fun X => set_back X g4 2 3 (by decide)
    go_wp2_with fail
    refine bodyPost_ret (results_cell_row rfl _ _ g5 29 #[.int .i64 a0_0, .int .i64 a0_1, .int .i64 0, .int .i64 0, .int .i64 1] (0, 0) _ rfl (by refine blk_put (cs := #[.int .i64 a0_0, .int .i64 a0_1, .int .i64 0, .int .i64 0, .int .i64 0]) ?_ 4 _ rfl; refine blk_put (cs := #[.int .i64 a0_0, .int .i64 a0_1, .int .i64 0, .int .i64 0, .int .i64 0]) ?_ 3 _ rfl; refine blk_put (cs := #[.int .i64 a0_0, .int .i64 a0_1, .int .i64 0, .int .i64 0, .int .i64 0]) ?_ 2 _ rfl; refine blk_put (cs := #[.int .i64 a0_0, .int .i64 0, .int .i64 0, .int .i64 0, .int .i64 0]) ?_ 1 _ rfl; refine blk_put (cs := #[.int .i64 0, .int .i64 0, .int .i64 0, .int .i64 0, .int .i64 0]) ?_ 0 _ rfl; refine blk_far ?_ hn54 _; refine blk_far ?_ hn54 _; refine blk_far ?_ hn54 _; exact B5.out) Try.underlying29 rfl (by kernel_rfl)) rfl ?_
    refine ⟨rfl, ?_⟩
    subst hg4
    exact below_set (below_set (below_set (below_set (below_set (below_set (below_set (below_set HB.out G4.out) G4.out) G4.out) G5.out) G5.out) G5.out) G5.out) G5.out
  case false.true =>
    go_wp2_with fail
    refine (spec_l01In.calls a1 1 3 true _ A3.out).mono ?_
    rintro e w' ⟨rfl, ⟨nd, rfl⟩⟩
    generalize hW : World.drewN _ nd = W
    have HB := Aside0.mk (show Below w.heap.size w W by rw [← hW]; exact pw_below_drewN (below_alloc (below_alloc (Below.refl _ _) _) _) _)
    have B4 := Aside0.mk (show W.heap[w.heap.size]? = some (.cells #[.int .i64 a0_0, .int .i64 a0_1, .int .i64 a0_2, .int .i64 a0_3, .int .i64 a0_4] 29 (0, 0)) by rw [← hW]; exact blk_drewN (blk_alloc (blk_new w _) _) _)
    have B5 := Aside0.mk (show W.heap[w.heap.size + 1]? = some (.cells #[.int .i64 0, .int .i64 0, .int .i64 0, .int .i64 0, .int .i64 0] 29 (0, 0)) by rw [← hW]; exact blk_drewN (blk_new2 w _ _) _)
    clear hW
    have hn45 : w.heap.size ≠ w.heap.size + 1 := by omega
    have hn54 := Ne.symm hn45
    have G5 := Aside0.mk (show w.heap.size ≤ w.heap.size + 1 by omega)
    have G4 := Aside0.mk (Nat.le_refl w.heap.size)
    generalize w.heap.size + 1 = g5 at hn45 hn54 B5 G5 ⊢
    generalize hg4 : w.heap.size = g4 at hn45 hn54 B4 G4 G5 ⊢
    have hc4_0 : W.cell? ⟨g4, 0, none⟩ = some (.int .i64 a0_0) := (blk_cell B4.out 0).trans rfl
    have hf4_0 := blk_frozen B4.out 0
    have hc5_0 : W.cell? ⟨g5, 0, none⟩ = some (.int .i64 0) := (blk_cell B5.out 0).trans rfl
    have hf5_0 := blk_frozen B5.out 0
    have hc4_1 : W.cell? ⟨g4, 1, none⟩ = some (.int .i64 a0_1) := (blk_cell B4.out 1).trans rfl
    have hf4_1 := blk_frozen B4.out 1
    have hc5_1 : W.cell? ⟨g5, 1, none⟩ = some (.int .i64 0) := (blk_cell B5.out 1).trans rfl
    have hf5_1 := blk_frozen B5.out 1
    have hc4_2 : W.cell? ⟨g4, 2, none⟩ = some (.int .i64 a0_2) := (blk_cell B4.out 2).trans rfl
    have hf4_2 := blk_frozen B4.out 2
    have hc5_2 : W.cell? ⟨g5, 2, none⟩ = some (.int .i64 0) := (blk_cell B5.out 2).trans rfl
    have hf5_2 := blk_frozen B5.out 2
    have hc4_3 : W.cell? ⟨g4, 3, none⟩ = some (.int .i64 a0_3) := (blk_cell B4.out 3).trans rfl
    have hf4_3 := blk_frozen B4.out 3
    have hc5_3 : W.cell? ⟨g5, 3, none⟩ = some (.int .i64 0) := (blk_cell B5.out 3).trans rfl
    have hf5_3 := blk_frozen B5.out 3
    have hc4_4 : W.cell? ⟨g4, 4, none⟩ = some (.int .i64 a0_4) := (blk_cell B4.out 4).trans rfl
    have hf4_4 := blk_frozen B4.out 4
    have hc5_4 : W.cell? ⟨g5, 4, none⟩ = some (.int .i64 0) := (blk_cell B5.out 4).trans rfl
    have hf5_4 := blk_frozen B5.out 4
    have hso3 : ∀ (X : World) (v v' : Value), (X.setCell ⟨g4, 3, none⟩ v).setCell ⟨g4, 3, none⟩ v' = X.setCell ⟨g4, 3, none⟩ v' := fun X => set_over X g4 3
    have hsb2 : ∀ (X : World) (v u v' : Value), ((X.setCell ⟨g4, 2, none⟩ v).setCell ⟨g4, 3, none⟩ u).setCell ⟨g4, 2, none⟩ v' = (X.setCell ⟨g4, 2, none⟩ v').setCell ⟨g4, 3, none⟩ u := fun X => set_back X g4 2 3 (by decide)
    go_wp2_with fail
    refine bodyPost_ret (results_cell_row rfl _ _ g5 29 #[.int .i64 a0_0, .int .i64 a0_1, .int .i64 0, .int .i64 1, .int .i64 1] (0, 0) _ rfl (by refine blk_put (cs := #[.int .i64 a0_0, .int .i64 a0_1, .int .i64 0, .int .i64 1, .int .i64 0]) ?_ 4 _ rfl; refine blk_put (cs := #[.int .i64 a0_0, .int .i64 a0_1, .int .i64 0, .int .i64 0, .int .i64 0]) ?_ 3 _ rfl; refine blk_put (cs := #[.int .i64 a0_0, .int .i64 a0_1, .int .i64 0, .int .i64 0, .int .i64 0]) ?_ 2 _ rfl; refine blk_put (cs := #[.int .i64 a0_0, .int .i64 0, .int .i64 0, .int .i64 0, .int .i64 0]) ?_ 1 _ rfl; refine blk_put (cs := #[.int .i64 0, .int .i64 0, .int .i64 0, .int .i64 0, .int .i64 0]) ?_ 0 _ rfl; refine blk_far ?_ hn54 _; refine blk_far ?_ hn54 _; refine blk_far ?_ hn54 _; exact B5.out) Try.underlying29 rfl (by kernel_rfl)) rfl ?_
    refine ⟨rfl, ?_⟩
    subst hg4
    exact below_set (below_set (below_set (below_set (below_set (below_set (below_set (below_set HB.out G4.out) G4.out) G4.out) G5.out) G5.out) G5.out) G5.out) G5.out
  case true.false =>
    go_wp2_with fail
    refine (spec_l01In.calls a1 1 3 true _ A3.out).mono ?_
    rintro e w' ⟨rfl, ⟨nd, rfl⟩⟩
    generalize hW : World.drewN _ nd = W
    have HB := Aside0.mk (show Below w.heap.size w W by rw [← hW]; exact pw_below_drewN (below_alloc (below_alloc (Below.refl _ _) _) _) _)
    have B4 := Aside0.mk (show W.heap[w.heap.size]? = some (.cells #[.int .i64 a0_0, .int .i64 a0_1, .int .i64 a0_2, .int .i64 a0_3, .int .i64 a0_4] 29 (0, 0)) by rw [← hW]; exact blk_drewN (blk_alloc (blk_new w _) _) _)
    have B5 := Aside0.mk (show W.heap[w.heap.size + 1]? = some (.cells #[.int .i64 0, .int .i64 0, .int .i64 0, .int .i64 0, .int .i64 0] 29 (0, 0)) by rw [← hW]; exact blk_drewN (blk_new2 w _ _) _)
    clear hW
    have hn45 : w.heap.size ≠ w.heap.size + 1 := by omega
    have hn54 := Ne.symm hn45
    have G5 := Aside0.mk (show w.heap.size ≤ w.heap.size + 1 by omega)
    have G4 := Aside0.mk (Nat.le_refl w.heap.size)
    generalize w.heap.size + 1 = g5 at hn45 hn54 B5 G5 ⊢
    generalize hg4 : w.heap.size = g4 at hn45 hn54 B4 G4 G5 ⊢
    have hc4_0 : W.cell? ⟨g4, 0, none⟩ = some (.int .i64 a0_0) := (blk_cell B4.out 0).trans rfl
    have hf4_0 := blk_frozen B4.out 0
    have hc5_0 : W.cell? ⟨g5, 0, none⟩ = some (.int .i64 0) := (blk_cell B5.out 0).trans rfl
    have hf5_0 := blk_frozen B5.out 0
    have hc4_1 : W.cell? ⟨g4, 1, none⟩ = some (.int .i64 a0_1) := (blk_cell B4.out 1).trans rfl
    have hf4_1 := blk_frozen B4.out 1
    have hc5_1 : W.cell? ⟨g5, 1, none⟩ = some (.int .i64 0) := (blk_cell B5.out 1).trans rfl
    have hf5_1 := blk_frozen B5.out 1
    have hc4_2 : W.cell? ⟨g4, 2, none⟩ = some (.int .i64 a0_2) := (blk_cell B4.out 2).trans rfl
    have hf4_2 := blk_frozen B4.out 2
    have hc5_2 : W.cell? ⟨g5, 2, none⟩ = some (.int .i64 0) := (blk_cell B5.out 2).trans rfl
    have hf5_2 := blk_frozen B5.out 2
    have hc4_3 : W.cell? ⟨g4, 3, none⟩ = some (.int .i64 a0_3) := (blk_cell B4.out 3).trans rfl
    have hf4_3 := blk_frozen B4.out 3
    have hc5_3 : W.cell? ⟨g5, 3, none⟩ = some (.int .i64 0) := (blk_cell B5.out 3).trans rfl
    have hf5_3 := blk_frozen B5.out 3
    have hc4_4 : W.cell? ⟨g4, 4, none⟩ = some (.int .i64 a0_4) := (blk_cell B4.out 4).trans rfl
    have hf4_4 := blk_frozen B4.out 4
    have hc5_4 : W.cell? ⟨g5, 4, none⟩ = some (.int .i64 0) := (blk_cell B5.out 4).trans rfl
    have hf5_4 := blk_frozen B5.out 4
    have hso3 : ∀ (X : World) (v v' : Value), (X.setCell ⟨g4, 3, none⟩ v).setCell ⟨g4, 3, none⟩ v' = X.setCell ⟨g4, 3, none⟩ v' := fun X => set_over X g4 3
    have hsb2 : ∀ (X : World) (v u v' : Value), ((X.setCell ⟨g4, 2, none⟩ v).setCell ⟨g4, 3, none⟩ u).setCell ⟨g4, 2, none⟩ v' = (X.setCell ⟨g4, 2, none⟩ v').setCell ⟨g4, 3, none⟩ u := fun X => set_back X g4 2 3 (by decide)
    go_wp2_with fail
    refine bodyPost_ret (results_cell_row rfl _ _ g5 29 #[.int .i64 a0_0, .int .i64 a0_1, .int .i64 1, .int .i64 0, .int .i64 1] (0, 0) _ rfl (by refine blk_put (cs := #[.int .i64 a0_0, .int .i64 a0_1, .int .i64 1, .int .i64 0, .int .i64 0]) ?_ 4 _ rfl; refine blk_put (cs := #[.int .i64 a0_0, .int .i64 a0_1, .int .i64 1, .int .i64 0, .int .i64 0]) ?_ 3 _ rfl; refine blk_put (cs := #[.int .i64 a0_0, .int .i64 a0_1, .int .i64 0, .int .i64 0, .int .i64 0]) ?_ 2 _ rfl; refine blk_put (cs := #[.int .i64 a0_0, .int .i64 0, .int .i64 0, .int .i64 0, .int .i64 0]) ?_ 1 _ rfl; refine blk_put (cs := #[.int .i64 0, .int .i64 0, .int .i64 0, .int .i64 0, .int .i64 0]) ?_ 0 _ rfl; refine blk_far ?_ hn54 _; refine blk_far ?_ hn54 _; refine blk_far ?_ hn54 _; exact B5.out) Try.underlying29 rfl (by kernel_rfl)) rfl ?_
    refine ⟨rfl, ?_⟩
    subst hg4
    exact below_set (below_set (below_set (below_set (below_set (below_set (below_set (below_set HB.out G4.out) G4.out) G4.out) G5.out) G5.out) G5.out) G5.out) G5.out
  case true.true =>
    go_wp2_with fail
    refine (spec_l01In.calls a1 1 3 true _ A3.out).mono ?_
    rintro e w' ⟨rfl, ⟨nd, rfl⟩⟩
    generalize hW : World.drewN _ nd = W
    have HB := Aside0.mk (show Below w.heap.size w W by rw [← hW]; exact pw_below_drewN (below_alloc (below_alloc (Below.refl _ _) _) _) _)
    have B4 := Aside0.mk (show W.heap[w.heap.size]? = some (.cells #[.int .i64 a0_0, .int .i64 a0_1, .int .i64 a0_2, .int .i64 a0_3, .int .i64 a0_4] 29 (0, 0)) by rw [← hW]; exact blk_drewN (blk_alloc (blk_new w _) _) _)
    have B5 := Aside0.mk (show W.heap[w.heap.size + 1]? = some (.cells #[.int .i64 0, .int .i64 0, .int .i64 0, .int .i64 0, .int .i64 0] 29 (0, 0)) by rw [← hW]; exact blk_drewN (blk_new2 w _ _) _)
    clear hW
    have hn45 : w.heap.size ≠ w.heap.size + 1 := by omega
    have hn54 := Ne.symm hn45
    have G5 := Aside0.mk (show w.heap.size ≤ w.heap.size + 1 by omega)
    have G4 := Aside0.mk (Nat.le_refl w.heap.size)
    generalize w.heap.size + 1 = g5 at hn45 hn54 B5 G5 ⊢
    generalize hg4 : w.heap.size = g4 at hn45 hn54 B4 G4 G5 ⊢
    have hc4_0 : W.cell? ⟨g4, 0, none⟩ = some (.int .i64 a0_0) := (blk_cell B4.out 0).trans rfl
    have hf4_0 := blk_frozen B4.out 0
    have hc5_0 : W.cell? ⟨g5, 0, none⟩ = some (.int .i64 0) := (blk_cell B5.out 0).trans rfl
    have hf5_0 := blk_frozen B5.out 0
    have hc4_1 : W.cell? ⟨g4, 1, none⟩ = some (.int .i64 a0_1) := (blk_cell B4.out 1).trans rfl
    have hf4_1 := blk_frozen B4.out 1
    have hc5_1 : W.cell? ⟨g5, 1, none⟩ = some (.int .i64 0) := (blk_cell B5.out 1).trans rfl
    have hf5_1 := blk_frozen B5.out 1
    have hc4_2 : W.cell? ⟨g4, 2, none⟩ = some (.int .i64 a0_2) := (blk_cell B4.out 2).trans rfl
    have hf4_2 := blk_frozen B4.out 2
    have hc5_2 : W.cell? ⟨g5, 2, none⟩ = some (.int .i64 0) := (blk_cell B5.out 2).trans rfl
    have hf5_2 := blk_frozen B5.out 2
    have hc4_3 : W.cell? ⟨g4, 3, none⟩ = some (.int .i64 a0_3) := (blk_cell B4.out 3).trans rfl
    have hf4_3 := blk_frozen B4.out 3
    have hc5_3 : W.cell? ⟨g5, 3, none⟩ = some (.int .i64 0) := (blk_cell B5.out 3).trans rfl
    have hf5_3 := blk_frozen B5.out 3
    have hc4_4 : W.cell? ⟨g4, 4, none⟩ = some (.int .i64 a0_4) := (blk_cell B4.out 4).trans rfl
    have hf4_4 := blk_frozen B4.out 4
    have hc5_4 : W.cell? ⟨g5, 4, none⟩ = some (.int .i64 0) := (blk_cell B5.out 4).trans rfl
    have hf5_4 := blk_frozen B5.out 4
    have hso3 : ∀ (X : World) (v v' : Value), (X.setCell ⟨g4, 3, none⟩ v).setCell ⟨g4, 3, none⟩ v' = X.setCell ⟨g4, 3, none⟩ v' := fun X => set_over X g4 3
    have hsb2 : ∀ (X : World) (v u v' : Value), ((X.setCell ⟨g4, 2, none⟩ v).setCell ⟨g4, 3, none⟩ u).setCell ⟨g4, 2, none⟩ v' = (X.setCell ⟨g4, 2, none⟩ v').setCell ⟨g4, 3, none⟩ u := fun X => set_back X g4 2 3 (by decide)
    go_wp2_with fail
    refine bodyPost_ret (results_cell_row rfl _ _ g5 29 #[.int .i64 a0_0, .int .i64 a0_1, .int .i64 1, .int .i64 1, .int .i64 1] (0, 0) _ rfl (by refine blk_put (cs := #[.int .i64 a0_0, .int .i64 a0_1, .int .i64 1, .int .i64 1, .int .i64 0]) ?_ 4 _ rfl; refine blk_put (cs := #[.int .i64 a0_0, .int .i64 a0_1, .int .i64 1, .int .i64 0, .int .i64 0]) ?_ 3 _ rfl; refine blk_put (cs := #[.int .i64 a0_0, .int .i64 a0_1, .int .i64 0, .int .i64 0, .int .i64 0]) ?_ 2 _ rfl; refine blk_put (cs := #[.int .i64 a0_0, .int .i64 0, .int .i64 0, .int .i64 0, .int .i64 0]) ?_ 1 _ rfl; refine blk_put (cs := #[.int .i64 0, .int .i64 0, .int .i64 0, .int .i64 0, .int .i64 0]) ?_ 0 _ rfl; refine blk_far ?_ hn54 _; refine blk_far ?_ hn54 _; refine blk_far ?_ hn54 _; exact B5.out) Try.underlying29 rfl (by kernel_rfl)) rfl ?_
    refine ⟨rfl, ?_⟩
    subst hg4
    exact below_set (below_set (below_set (below_set (below_set (below_set (below_set (below_set HB.out G4.out) G4.out) G4.out) G5.out) G5.out) G5.out) G5.out) G5.out
set_option maxHeartbeats 8000000 in
set_option maxRecDepth 100000 in
theorem spec_PlayGame.no (a0_0 a0_1 a0_2 a0_3 a0_4 a1 : Int) (w : World) (A3 : spec_l01In.f a1 1 3 = some false) :
    Calls Try.prog 38 #[.agg #[.int .i64 a0_0, .int .i64 a0_1, .int .i64 a0_2, .int .i64 a0_3, .int .i64 a0_4], .int .i64 a1] w fun e w' => e = .returned (.agg #[.int .i64 a0_0, .int .i64 a0_1, .int .i64 a0_2, .int .i64 a0_3, .int .i64 a0_4]) ∧ Below w.heap.size w w' := by
  have hu29 := Try.underlying29
  have A3 := Aside0.mk A3
  go_enter Try.func38, Try.ntmps38
  go_wp2_with fail
  refine (spec_l01In.calls a1 1 3 false _ A3.out).mono ?_
  rintro e w' ⟨rfl, ⟨nd, rfl⟩⟩
  generalize hW : World.drewN _ nd = W
  have HB := Aside0.mk (show Below w.heap.size w W by rw [← hW]; exact pw_below_drewN (below_alloc (below_alloc (Below.refl _ _) _) _) _)
  have B4 := Aside0.mk (show W.heap[w.heap.size]? = some (.cells #[.int .i64 a0_0, .int .i64 a0_1, .int .i64 a0_2, .int .i64 a0_3, .int .i64 a0_4] 29 (0, 0)) by rw [← hW]; exact blk_drewN (blk_alloc (blk_new w _) _) _)
  have B5 := Aside0.mk (show W.heap[w.heap.size + 1]? = some (.cells #[.int .i64 0, .int .i64 0, .int .i64 0, .int .i64 0, .int .i64 0] 29 (0, 0)) by rw [← hW]; exact blk_drewN (blk_new2 w _ _) _)
  clear hW
  have hn45 : w.heap.size ≠ w.heap.size + 1 := by omega
  have hn54 := Ne.symm hn45
  have G5 := Aside0.mk (show w.heap.size ≤ w.heap.size + 1 by omega)
  have G4 := Aside0.mk (Nat.le_refl w.heap.size)
  generalize w.heap.size + 1 = g5 at hn45 hn54 B5 G5 ⊢
  generalize hg4 : w.heap.size = g4 at hn45 hn54 B4 G4 G5 ⊢
  have hc4_0 : W.cell? ⟨g4, 0, none⟩ = some (.int .i64 a0_0) := (blk_cell B4.out 0).trans rfl
  have hf4_0 := blk_frozen B4.out 0
  have hc5_0 : W.cell? ⟨g5, 0, none⟩ = some (.int .i64 0) := (blk_cell B5.out 0).trans rfl
  have hf5_0 := blk_frozen B5.out 0
  have hc4_1 : W.cell? ⟨g4, 1, none⟩ = some (.int .i64 a0_1) := (blk_cell B4.out 1).trans rfl
  have hf4_1 := blk_frozen B4.out 1
  have hc5_1 : W.cell? ⟨g5, 1, none⟩ = some (.int .i64 0) := (blk_cell B5.out 1).trans rfl
  have hf5_1 := blk_frozen B5.out 1
  have hc4_2 : W.cell? ⟨g4, 2, none⟩ = some (.int .i64 a0_2) := (blk_cell B4.out 2).trans rfl
  have hf4_2 := blk_frozen B4.out 2
  have hc5_2 : W.cell? ⟨g5, 2, none⟩ = some (.int .i64 0) := (blk_cell B5.out 2).trans rfl
  have hf5_2 := blk_frozen B5.out 2
  have hc4_3 : W.cell? ⟨g4, 3, none⟩ = some (.int .i64 a0_3) := (blk_cell B4.out 3).trans rfl
  have hf4_3 := blk_frozen B4.out 3
  have hc5_3 : W.cell? ⟨g5, 3, none⟩ = some (.int .i64 0) := (blk_cell B5.out 3).trans rfl
  have hf5_3 := blk_frozen B5.out 3
  have hc4_4 : W.cell? ⟨g4, 4, none⟩ = some (.int .i64 a0_4) := (blk_cell B4.out 4).trans rfl
  have hf4_4 := blk_frozen B4.out 4
  have hc5_4 : W.cell? ⟨g5, 4, none⟩ = some (.int .i64 0) := (blk_cell B5.out 4).trans rfl
  have hf5_4 := blk_frozen B5.out 4
  go_wp2_with fail
  refine bodyPost_ret (results_cell_row rfl _ _ g5 29 #[.int .i64 a0_0, .int .i64 a0_1, .int .i64 a0_2, .int .i64 a0_3, .int .i64 a0_4] (0, 0) _ rfl (by refine blk_put (cs := #[.int .i64 a0_0, .int .i64 a0_1, .int .i64 a0_2, .int .i64 a0_3, .int .i64 0]) ?_ 4 _ rfl; refine blk_put (cs := #[.int .i64 a0_0, .int .i64 a0_1, .int .i64 a0_2, .int .i64 0, .int .i64 0]) ?_ 3 _ rfl; refine blk_put (cs := #[.int .i64 a0_0, .int .i64 a0_1, .int .i64 0, .int .i64 0, .int .i64 0]) ?_ 2 _ rfl; refine blk_put (cs := #[.int .i64 a0_0, .int .i64 0, .int .i64 0, .int .i64 0, .int .i64 0]) ?_ 1 _ rfl; refine blk_put (cs := #[.int .i64 0, .int .i64 0, .int .i64 0, .int .i64 0, .int .i64 0]) ?_ 0 _ rfl; exact B5.out) Try.underlying29 rfl (by kernel_rfl)) rfl ?_
  refine ⟨rfl, ?_⟩
  subst hg4
  exact below_set (below_set (below_set (below_set (below_set HB.out G5.out) G5.out) G5.out) G5.out) G5.out
theorem spec_PlayGame.calls (a0_0 : Int) (a0_1 : Int) (a0_2 : Int) (a0_3 : Int) (a0_4 : Int) (a1 : Int) (r1 : Int) (r2 : Int) (r3 : Int) (r4 : Int) (r5 : Int) (w : World) (h : spec_PlayGame.f a0_0 a0_1 a0_2 a0_3 a0_4 a1 = some (r1, r2, r3, r4, r5)) :
    Calls Try.prog 38 #[.agg #[.int .i64 a0_0, .int .i64 a0_1, .int .i64 a0_2, .int .i64 a0_3, .int .i64 a0_4], .int .i64 a1] w fun e w' => e = .returned (.agg #[.int .i64 r1, .int .i64 r2, .int .i64 r3, .int .i64 r4, .int .i64 r5]) ∧ Below w.heap.size w w' := by
  unfold spec_PlayGame.f at h
  obtain ⟨b, A3, h⟩ := Option.bind_eq_some_iff.mp h
  cases b with
  | false =>
    simp only [Bool.false_eq_true, if_false, Option.some.injEq, Prod.mk.injEq] at h
    obtain ⟨rfl, rfl, rfl, rfl, rfl⟩ := h
    exact spec_PlayGame.no _ _ _ _ _ _ w A3
  | true =>
    rw [if_pos rfl] at h
    by_cases c1 : a1 = 1
    · rw [if_pos c1, if_neg (by omega)] at h
      simp only [Option.some.injEq, Prod.mk.injEq] at h
      obtain ⟨rfl, rfl, rfl, rfl, rfl⟩ := h
      exact spec_PlayGame.yes _ _ _ _ _ _ true false (by simp [c1]) (by simp [c1]) w A3
    · rw [if_neg c1] at h
      by_cases c3 : a1 = 3
      · rw [if_pos c3] at h
        simp only [Option.some.injEq, Prod.mk.injEq] at h
        obtain ⟨rfl, rfl, rfl, rfl, rfl⟩ := h
        exact spec_PlayGame.yes _ _ _ _ _ _ false true (by simp [c1]) (by simp [c3]) w A3
      · rw [if_neg c3] at h
        simp only [Option.some.injEq, Prod.mk.injEq] at h
        obtain ⟨rfl, rfl, rfl, rfl, rfl⟩ := h
        exact spec_PlayGame.yes _ _ _ _ _ _ false false (by simp [c1]) (by simp [c3]) w A3

/-! ### impl_within: function 61 -/
def impl_within.f (a0 : Int) (a1 : Int) (a2 : Int) : Option (Bool) := if a1 ≤ a0 then (some (decide (a0 ≤ a2))) else (some false)
set_option maxHeartbeats 8000000 in
set_option maxRecDepth 100000 in
theorem impl_within.calls (a0 : Int) (a1 : Int) (a2 : Int) (r : Bool) (w : World) (h : impl_within.f a0 a1 a2 = some r) :
    Calls Try.prog 61 #[.int .i64 a0, .int .i64 a1, .int .i64 a2] w fun e w' => e = .returned (.bool r) ∧ Drawn0 w w' := by
  have H : (if a1 ≤ a0 then (some (decide (a0 ≤ a2))) else (some false)) = some r := h
  clear h
  by_cases c4 : a1 ≤ a0
  · rw [if_pos c4] at H
    have c4b0 : decide (a1 ≤ a0) = true := decide_eq_true c4
    clear c4
    obtain rfl := Option.some.inj H
    go_enter Try.func61, Try.ntmps61
    go_wp2
    go_ret
    exact ⟨by first | rfl | (simp; done) | (simp [*]; done), by repeat (first | exact Drawn0.refl _ | apply Drawn0.step)⟩
  · rw [if_neg c4] at H
    have c4b0 : decide (a1 ≤ a0) = false := decide_eq_false c4
    clear c4
    obtain rfl := Option.some.inj H
    go_enter Try.func61, Try.ntmps61
    go_wp2
    go_ret
    exact ⟨by first | rfl | (simp; done) | (simp [*]; done), by repeat (first | exact Drawn0.refl _ | apply Drawn0.step)⟩

/-! ### impl_PlayGame: function 39 -/
def impl_PlayGame.f (a0_0 : Int) (a0_1 : Int) (a0_2 : Int) (a0_3 : Int) (a0_4 : Int) (a1 : Int) : Option (Int × Int × Int × Int × Int) := (impl_within.f a1 1 3).bind fun t106 => (if t106 = true then (if a1 = 1 then (if a1 = 3 then (some (a0_0, a0_1, 1, 1, 1)) else (some (a0_0, a0_1, 1, 0, 1))) else (if a1 = 3 then (some (a0_0, a0_1, 0, 1, 1)) else (some (a0_0, a0_1, 0, 0, 1)))) else (some (a0_0, a0_1, a0_2, a0_3, a0_4)))
set_option maxHeartbeats 8000000 in
set_option maxRecDepth 100000 in
theorem impl_PlayGame.yes (a0_0 a0_1 a0_2 a0_3 a0_4 a1 : Int) (b1 b3 : Bool) (h1 : (a1 == 1) = b1) (h3 : (a1 == 3) = b3) (w : World) (A3 : impl_within.f a1 1 3 = some true) :
    Calls Try.prog 39 #[.agg #[.int .i64 a0_0, .int .i64 a0_1, .int .i64 a0_2, .int .i64 a0_3, .int .i64 a0_4], .int .i64 a1] w fun e w' => e = .returned (.agg #[.int .i64 a0_0, .int .i64 a0_1, .int .i64 (if b1 = true then 1 else 0), .int .i64 (if b3 = true then 1 else 0), .int .i64 1]) ∧ Below w.heap.size w w' := by
  have hu29 := Try.underlying29
  have A3 := Aside0.mk A3
  go_enter Try.func39, Try.ntmps39
  cases b1 <;> cases b3
  case false.false =>
    go_wp2_with fail
    refine (impl_within.calls a1 1 3 true _ A3.out).mono ?_
    rintro e w' ⟨rfl, ⟨nd, rfl⟩⟩
    generalize hW : World.drewN _ nd = W
    have HB := Aside0.mk (show Below w.heap.size w W by rw [← hW]; exact pw_below_drewN (below_alloc (below_alloc (Below.refl _ _) _) _) _)
    have B4 := Aside0.mk (show W.heap[w.heap.size]? = some (.cells #[.int .i64 a0_0, .int .i64 a0_1, .int .i64 a0_2, .int .i64 a0_3, .int .i64 a0_4] 29 (0, 0)) by rw [← hW]; exact blk_drewN (blk_alloc (blk_new w _) _) _)
    have B5 := Aside0.mk (show W.heap[w.heap.size + 1]? = some (.cells #[.int .i64 0, .int .i64 0, .int .i64 0, .int .i64 0, .int .i64 0] 29 (0, 0)) by rw [← hW]; exact blk_drewN (blk_new2 w _ _) _)
    clear hW
    have hn45 : w.heap.size ≠ w.heap.size + 1 := by omega
    have hn54 := Ne.symm hn45
    have G5 := Aside0.mk (show w.heap.size ≤ w.heap.size + 1 by omega)
    have G4 := Aside0.mk (Nat.le_refl w.heap.size)
    generalize w.heap.size + 1 = g5 at hn45 hn54 B5 G5 ⊢
    generalize hg4 : w.heap.size = g4 at hn45 hn54 B4 G4 G5 ⊢
    have hc4_0 : W.cell? ⟨g4, 0, none⟩ = some (.int .i64 a0_0) := (blk_cell B4.out 0).trans rfl
    have hf4_0 := blk_frozen B4.out 0
    have hc5_0 : W.cell? ⟨g5, 0, none⟩ = some (.int .i64 0) := (blk_cell B5.out 0).trans rfl
    have hf5_0 := blk_frozen B5.out 0
    have hc4_1 : W.cell? ⟨g4, 1, none⟩ = some (.int .i64 a0_1) := (blk_cell B4.out 1).trans rfl
    have hf4_1 := blk_frozen B4.out 1
    have hc5_1 : W.cell? ⟨g5, 1, none⟩ = some (.int .i64 0) := (blk_cell B5.out 1).trans rfl
    have hf5_1 := blk_frozen B5.out 1
    have hc4_2 : W.cell? ⟨g4, 2, none⟩ = some (.int .i64 a0_2) := (blk_cell B4.out 2).trans rfl
    have hf4_2 := blk_frozen B4.out 2
    have hc5_2 : W.cell? ⟨g5, 2, none⟩ = some (.int .i64 0) := (blk_cell B5.out 2).trans rfl
    have hf5_2 := blk_frozen B5.out 2
    have hc4_3 : W.cell? ⟨g4, 3, none⟩ = some (.int .i64 a0_3) := (blk_cell B4.out 3).trans rfl
    have hf4_3 := blk_frozen B4.out 3
    have hc5_3 : W.cell? ⟨g5, 3, none⟩ = some (.int .i64 0) := (blk_cell B5.out 3).trans rfl
    have hf5_3 := blk_frozen B5.out 3
    have hc4_4 : W.cell? ⟨g4, 4, none⟩ = some (.int .i64 a0_4) := (blk_cell B4.out 4).trans rfl
    have hf4_4 := blk_frozen B4.out 4
    have hc5_4 : W.cell? ⟨g5, 4, none⟩ = some (.int .i64 0) := (blk_cell B5.out 4).trans rfl
    have hf5_4 := blk_frozen B5.out 4
    have hl4 := blk_lt B4.out
    have hl5 := blk_lt B5.out
    go_wp2_with fail
    refine bodyPost_ret (results_cell_row rfl _ _ g5 29 #[.int .i64 a0_0, .int .i64 a0_1, .int .i64 0, .int .i64 0, .int .i64 1] (0, 0) _ rfl (by refine blk_alloc ?_ _; refine blk_put (cs := #[.int .i64 a0_0, .int .i64 a0_1, .int .i64 0, .int .i64 0, .int .i64 0]) ?_ 4 _ rfl; refine blk_put (cs := #[.int .i64 a0_0, .int .i64 a0_1, .int .i64 0, .int .i64 0, .int .i64 0]) ?_ 3 _ rfl; refine blk_put (cs := #[.int .i64 a0_0, .int .i64 a0_1, .int .i64 0, .int .i64 0, .int .i64 0]) ?_ 2 _ rfl; refine blk_put (cs := #[.int .i64 a0_0, .int .i64 0, .int .i64 0, .int .i64 0, .int .i64 0]) ?_ 1 _ rfl; refine blk_put (cs := #[.int .i64 0, .int .i64 0, .int .i64 0, .int .i64 0, .int .i64 0]) ?_ 0 _ rfl; exact B5.out) Try.underlying29 rfl (by kernel_rfl)) rfl ?_
    refine ⟨rfl, ?_⟩
    subst hg4
    exact below_alloc (below_set (below_set (below_set (below_set (below_set HB.out G5.out) G5.out) G5.out) G5.out) G5.out) _
  case false.true =>
    go_wp2_with fail
    refine (impl_within.calls a1 1 3 true _ A3.out).mono ?_
    rintro e w' ⟨rfl, ⟨nd, rfl⟩⟩
    generalize hW : World.drewN _ nd = W
    have HB := Aside0.mk (show Below w.heap.size w W by rw [← hW]; exact pw_below_drewN (below_alloc (below_alloc (Below.refl _ _) _) _) _)
    have B4 := Aside0.mk (show W.heap[w.heap.size]? = some (.cells #[.int .i64 a0_0, .int .i64 a0_1, .int .i64 a0_2, .int .i64 a0_3, .int .i64 a0_4] 29 (0, 0)) by rw [← hW]; exact blk_drewN (blk_alloc (blk_new w _) _) _)
    have B5 := Aside0.mk (show W.heap[w.heap.size + 1]? = some (.cells #[.int .i64 0, .int .i64 0, .int .i64 0, .int .i64 0, .int .i64 0] 29 (0, 0)) by rw [← hW]; exact blk_drewN (blk_new2 w _ _) _)
    clear hW
    have hn45 : w.heap.size ≠ w.heap.size + 1 := by omega
    have hn54 := Ne.symm hn45
    have G5 := Aside0.mk (show w.heap.size ≤ w.heap.size + 1 by omega)
    have G4 := Aside0.mk (Nat.le_refl w.heap.size)
    generalize w.heap.size + 1 = g5 at hn45 hn54 B5 G5 ⊢
    generalize hg4 : w.heap.size = g4 at hn45 hn54 B4 G4 G5 ⊢
    have hc4_0 : W.cell? ⟨g4, 0, none⟩ = some (.int .i64 a0_0) := (blk_cell B4.out 0).trans rfl
    have hf4_0 := blk_frozen B4.out 0
    have hc5_0 : W.cell? ⟨g5, 0, none⟩ = some (.int .i64 0) := (blk_cell B5.out 0).trans rfl
    have hf5_0 := blk_frozen B5.out 0
    have hc4_1 : W.cell? ⟨g4, 1, none⟩ = some (.int .i64 a0_1) := (blk_cell B4.out 1).trans rfl
    have hf4_1 := blk_frozen B4.out 1
    have hc5_1 : W.cell? ⟨g5, 1, none⟩ = some (.int .i64 0) := (blk_cell B5.out 1).trans rfl
    have hf5_1 := blk_frozen B5.out 1
    have hc4_2 : W.cell? ⟨g4, 2, none⟩ = some (.int .i64 a0_2) := (blk_cell B4.out 2).trans rfl
    have hf4_2 := blk_frozen B4.out 2
    have hc5_2 : W.cell? ⟨g5, 2, none⟩ = some (.int .i64 0) := (blk_cell B5.out 2).trans rfl
    have hf5_2 := blk_frozen B5.out 2
    have hc4_3 : W.cell? ⟨g4, 3, none⟩ = some (.int .i64 a0_3) := (blk_cell B4.out 3).trans rfl
    have hf4_3 := blk_frozen B4.out 3
    have hc5_3 : W.cell? ⟨g5, 3, none⟩ = some (.int .i64 0) := (blk_cell B5.out 3).trans rfl
    have hf5_3 := blk_frozen B5.out 3
    have hc4_4 : W.cell? ⟨g4, 4, none⟩ = some (.int .i64 a0_4) := (blk_cell B4.out 4).trans rfl
    have hf4_4 := blk_frozen B4.out 4
    have hc5_4 : W.cell? ⟨g5, 4, none⟩ = some (.int .i64 0) := (blk_cell B5.out 4).trans rfl
    have hf5_4 := blk_frozen B5.out 4
    have hl4 := blk_lt B4.out
    have hl5 := blk_lt B5.out
    go_wp2_with fail
    refine bodyPost_ret (results_cell_row rfl _ _ g5 29 #[.int .i64 a0_0, .int .i64 a0_1, .int .i64 0, .int .i64 1, .int .i64 1] (0, 0) _ rfl (by refine blk_alloc ?_ _; refine blk_put (cs := #[.int .i64 a0_0, .int .i64 a0_1, .int .i64 0, .int .i64 1, .int .i64 0]) ?_ 4 _ rfl; refine blk_put (cs := #[.int .i64 a0_0, .int .i64 a0_1, .int .i64 0, .int .i64 0, .int .i64 0]) ?_ 3 _ rfl; refine blk_put (cs := #[.int .i64 a0_0, .int .i64 a0_1, .int .i64 0, .int .i64 0, .int .i64 0]) ?_ 2 _ rfl; refine blk_put (cs := #[.int .i64 a0_0, .int .i64 0, .int .i64 0, .int .i64 0, .int .i64 0]) ?_ 1 _ rfl; refine blk_put (cs := #[.int .i64 0, .int .i64 0, .int .i64 0, .int .i64 0, .int .i64 0]) ?_ 0 _ rfl; exact B5.out) Try.underlying29 rfl (by kernel_rfl)) rfl ?_
    refine ⟨rfl, ?_⟩
    subst hg4
    exact below_alloc (below_set (below_set (below_set (below_set (below_set HB.out G5.out) G5.out) G5.out) G5.out) G5.out) _
  case true.false =>
    go_wp2_with fail
    refine (impl_within.calls a1 1 3 true _ A3.out).mono ?_
    rintro e w' ⟨rfl, ⟨nd, rfl⟩⟩
    generalize hW : World.drewN _ nd = W
    have HB := Aside0.mk (show Below w.heap.size w W by rw [← hW]; exact pw_below_drewN (below_alloc (below_alloc (Below.refl _ _) _) _) _)
    have B4 := Aside0.mk (show W.heap[w.heap.size]? = some (.cells #[.int .i64 a0_0, .int .i64 a0_1, .int .i64 a0_2, .int .i64 a0_3, .int .i64 a0_4] 29 (0, 0)) by rw [← hW]; exact blk_drewN (blk_alloc (blk_new w _) _) _)
    have B5 := Aside0.mk (show W.heap[w.heap.size + 1]? = some (.cells #[.int .i64 0, .int .i64 0, .int .i64 0, .int .i64 0, .int .i64 0] 29 (0, 0)) by rw [← hW]; exact blk_drewN (blk_new2 w _ _) _)
    clear hW
    have hn45 : w.heap.size ≠ w.heap.size + 1 := by omega
    have hn54 := Ne.symm hn45
    have G5 := Aside0.mk (show w.heap.size ≤ w.heap.size + 1 by omega)
    have G4 := Aside0.mk (Nat.le_refl w.heap.size)
    generalize w.heap.size + 1 = g5 at hn45 hn54 B5 G5 ⊢
    generalize hg4 : w.heap.size = g4 at hn45 hn54 B4 G4 G5 ⊢
    have hc4_0 : W.cell? ⟨g4, 0, none⟩ = some (.int .i64 a0_0) := (blk_cell B4.out 0).trans rfl
    have hf4_0 := blk_frozen B4.out 0
    have hc5_0 : W.cell? ⟨g5, 0, none⟩ = some (.int .i64 0) := (blk_cell B5.out 0).trans rfl
    have hf5_0 := blk_frozen B5.out 0
    have hc4_1 : W.cell? ⟨g4, 1, none⟩ = some (.int .i64 a0_1) := (blk_cell B4.out 1).trans rfl
    have hf4_1 := blk_frozen B4.out 1
    have hc5_1 : W.cell? ⟨g5, 1, none⟩ = some (.int .i64 0) := (blk_cell B5.out 1).trans rfl
    have hf5_1 := blk_frozen B5.out 1
    have hc4_2 : W.cell? ⟨g4, 2, none⟩ = some (.int .i64 a0_2) := (blk_cell B4.out 2).trans rfl
    have hf4_2 := blk_frozen B4.out 2
    have hc5_2 : W.cell? ⟨g5, 2, none⟩ = some (.int .i64 0) := (blk_cell B5.out 2).trans rfl
    have hf5_2 := blk_frozen B5.out 2
    have hc4_3 : W.cell? ⟨g4, 3, none⟩ = some (.int .i64 a0_3) := (blk_cell B4.out 3).trans rfl
    have hf4_3 := blk_frozen B4.out 3
    have hc5_3 : W.cell? ⟨g5, 3, none⟩ = some (.int .i64 0) := (blk_cell B5.out 3).trans rfl
    have hf5_3 := blk_frozen B5.out 3
    have hc4_4 : W.cell? ⟨g4, 4, none⟩ = some (.int .i64 a0_4) := (blk_cell B4.out 4).trans rfl
    have hf4_4 := blk_frozen B4.out 4
    have hc5_4 : W.cell? ⟨g5, 4, none⟩ = some (.int .i64 0) := (blk_cell B5.out 4).trans rfl
    have hf5_4 := blk_frozen B5.out 4
    have hl4 := blk_lt B4.out
    have hl5 := blk_lt B5.out
    go_wp2_with fail
    refine bodyPost_ret (results_cell_row rfl _ _ g5 29 #[.int .i64 a0_0, .int .i64 a0_1, .int .i64 1, .int .i64 0, .int .i64 1] (0, 0) _ rfl (by refine blk_alloc ?_ _; refine blk_put (cs := #[.int .i64 a0_0, .int .i64 a0_1, .int .i64 1, .int .i64 0, .int .i64 0]) ?_ 4 _ rfl; refine blk_put (cs := #[.int .i64 a0_0, .int .i64 a0_1, .int .i64 1, .int .i64 0, .int .i64 0]) ?_ 3 _ rfl; refine blk_put (cs := #[.int .i64 a0_0, .int .i64 a0_1, .int .i64 0, .int .i64 0, .int .i64 0]) ?_ 2 _ rfl; refine blk_put (cs := #[.int .i64 a0_0, .int .i64 0, .int .i64 0, .int .i64 0, .int .i64 0]) ?_ 1 _ rfl; refine blk_put (cs := #[.int .i64 0, .int .i64 0, .int .i64 0, .int .i64 0, .int .i64 0]) ?_ 0 _ rfl; exact B5.out) Try.underlying29 rfl (by kernel_rfl)) rfl ?_
    refine ⟨rfl, ?_⟩
    subst hg4
    exact below_alloc (below_set (below_set (below_set (below_set (below_set HB.out G5.out) G5.out) G5.out) G5.out) G5.out) _
  case true.true =>
    go_wp2_with fail
    refine (impl_within.calls a1 1 3 true _ A3.out).mono ?_
    rintro e w' ⟨rfl, ⟨nd, rfl⟩⟩
    generalize hW : World.drewN _ nd = W
    have HB := Aside0.mk (show Below w.heap.size w W by rw [← hW]; exact pw_below_drewN (below_alloc (below_alloc (Below.refl _ _) _) _) _)
    have B4 := Aside0.mk (show W.heap[w.heap.size]? = some (.cells #[.int .i64 a0_0, .int .i64 a0_1, .int .i64 a0_2, .int .i64 a0_3, .int .i64 a0_4] 29 (0, 0)) by rw [← hW]; exact blk_drewN (blk_alloc (blk_new w _) _) _)
    have B5 := Aside0.mk (show W.heap[w.heap.size + 1]? = some (.cells #[.int .i64 0, .int .i64 0, .int .i64 0, .int .i64 0, .int .i64 0] 29 (0, 0)) by rw [← hW]; exact blk_drewN (blk_new2 w _ _) _)
    clear hW
    have hn45 : w.heap.size ≠ w.heap.size + 1 := by omega
    have hn54 := Ne.symm hn45
    have G5 := Aside0.mk (show w.heap.size ≤ w.heap.size + 1 by omega)
    have G4 := Aside0.mk (Nat.le_refl w.heap.size)
    generalize w.heap.size + 1 = g5 at hn45 hn54 B5 G5 ⊢
    generalize hg4 : w.heap.size = g4 at hn45 hn54 B4 G4 G5 ⊢
    have hc4_0 : W.cell? ⟨g4, 0, none⟩ = some (.int .i64 a0_0) := (blk_cell B4.out 0).trans rfl
    have hf4_0 := blk_frozen B4.out 0
    have hc5_0 : W.cell? ⟨g5, 0, none⟩ = some (.int .i64 0) := (blk_cell B5.out 0).trans rfl
    have hf5_0 := blk_frozen B5.out 0
    have hc4_1 : W.cell? ⟨g4, 1, none⟩ = some (.int .i64 a0_1) := (blk_cell B4.out 1).trans rfl
    have hf4_1 := blk_frozen B4.out 1
    have hc5_1 : W.cell? ⟨g5, 1, none⟩ = some (.int .i64 0) := (blk_cell B5.out 1).trans rfl
    have hf5_1 := blk_frozen B5.out 1
    have hc4_2 : W.cell? ⟨g4, 2, none⟩ = some (.int .i64 a0_2) := (blk_cell B4.out 2).trans rfl
    have hf4_2 := blk_frozen B4.out 2
    have hc5_2 : W.cell? ⟨g5, 2, none⟩ = some (.int .i64 0) := (blk_cell B5.out 2).trans rfl
    have hf5_2 := blk_frozen B5.out 2
    have hc4_3 : W.cell? ⟨g4, 3, none⟩ = some (.int .i64 a0_3) := (blk_cell B4.out 3).trans rfl
    have hf4_3 := blk_frozen B4.out 3
    have hc5_3 : W.cell? ⟨g5, 3, none⟩ = some (.int .i64 0) := (blk_cell B5.out 3).trans rfl
    have hf5_3 := blk_frozen B5.out 3
    have hc4_4 : W.cell? ⟨g4, 4, none⟩ = some (.int .i64 a0_4) := (blk_cell B4.out 4).trans rfl
    have hf4_4 := blk_frozen B4.out 4
    have hc5_4 : W.cell? ⟨g5, 4, none⟩ = some (.int .i64 0) := (blk_cell B5.out 4).trans rfl
    have hf5_4 := blk_frozen B5.out 4
    have hl4 := blk_lt B4.out
    have hl5 := blk_lt B5.out
    go_wp2_with fail
    refine bodyPost_ret (results_cell_row rfl _ _ g5 29 #[.int .i64 a0_0, .int .i64 a0_1, .int .i64 1, .int .i64 1, .int .i64 1] (0, 0) _ rfl (by refine blk_alloc ?_ _; refine blk_put (cs := #[.int .i64 a0_0, .int .i64 a0_1, .int .i64 1, .int .i64 1, .int .i64 0]) ?_ 4 _ rfl; refine blk_put (cs := #[.int .i64 a0_0, .int .i64 a0_1, .int .i64 1, .int .i64 0, .int .i64 0]) ?_ 3 _ rfl; refine blk_put (cs := #[.int .i64 a0_0, .int .i64 a0_1, .int .i64 0, .int .i64 0, .int .i64 0]) ?_ 2 _ rfl; refine blk_put (cs := #[.int .i64 a0_0, .int .i64 0, .int .i64 0, .int .i64 0, .int .i64 0]) ?_ 1 _ rfl; refine blk_put (cs := #[.int .i64 0, .int .i64 0, .int .i64 0, .int .i64 0, .int .i64 0]) ?_ 0 _ rfl; exact B5.out) Try.underlying29 rfl (by kernel_rfl)) rfl ?_
    refine ⟨rfl, ?_⟩
    subst hg4
    exact below_alloc (below_set (below_set (below_set (below_set (below_set HB.out G5.out) G5.out) G5.out) G5.out) G5.out) _
set_option maxHeartbeats 8000000 in
set_option maxRecDepth 100000 in
theorem impl_PlayGame.no (a0_0 a0_1 a0_2 a0_3 a0_4 a1 : Int) (w : World) (A3 : impl_within.f a1 1 3 = some false) :
    Calls Try.prog 39 #[.agg #[.int .i64 a0_0, .int .i64 a0_1, .int .i64 a0_2, .int .i64 a0_3, .int .i64 a0_4], .int .i64 a1] w fun e w' => e = .returned (.agg #[.int .i64 a0_0, .int .i64 a0_1, .int .i64 a0_2, .int .i64 a0_3, .int .i64 a0_4]) ∧ Below w.heap.size w w' := by
  have hu29 := Try.underlying29
  have A3 := Aside0.mk A3
  go_enter Try.func39, Try.ntmps39
  go_wp2_with fail
  refine (impl_within.calls a1 1 3 false _ A3.out).mono ?_
  rintro e w' ⟨rfl, ⟨nd, rfl⟩⟩
  generalize hW : World.drewN _ nd = W
  have HB := Aside0.mk (show Below w.heap.size w W by rw [← hW]; exact pw_below_drewN (below_alloc (below_alloc (Below.refl _ _) _) _) _)
  have B4 := Aside0.mk (show W.heap[w.heap.size]? = some (.cells #[.int .i64 a0_0, .int .i64 a0_1, .int .i64 a0_2, .int .i64 a0_3, .int .i64 a0_4] 29 (0, 0)) by rw [← hW]; exact blk_drewN (blk_alloc (blk_new w _) _) _)
  have B5 := Aside0.mk (show W.heap[w.heap.size + 1]? = some (.cells #[.int .i64 0, .int .i64 0, .int .i64 0, .int .i64 0, .int .i64 0] 29 (0, 0)) by rw [← hW]; exact blk_drewN (blk_new2 w _ _) _)
  clear hW
  have hn45 : w.heap.size ≠ w.heap.size + 1 := by omega
  have hn54 := Ne.symm hn45
  have G5 := Aside0.mk (show w.heap.size ≤ w.heap.size + 1 by omega)
  have G4 := Aside0.mk (Nat.le_refl w.heap.size)
  generalize w.heap.size + 1 = g5 at hn45 hn54 B5 G5 ⊢
  generalize hg4 : w.heap.size = g4 at hn45 hn54 B4 G4 G5 ⊢
  have hc4_0 : W.cell? ⟨g4, 0, none⟩ = some (.int .i64 a0_0) := (blk_cell B4.out 0).trans rfl
  have hf4_0 := blk_frozen B4.out 0
  have hc5_0 : W.cell? ⟨g5, 0, none⟩ = some (.int .i64 0) := (blk_cell B5.out 0).trans rfl
  have hf5_0 := blk_frozen B5.out 0
  have hc4_1 : W.cell? ⟨g4, 1, none⟩ = some (.int .i64 a0_1) := (blk_cell B4.out 1).trans rfl
  have hf4_1 := blk_frozen B4.out 1
  have hc5_1 : W.cell? ⟨g5, 1, none⟩ = some (.int .i64 0) := (blk_cell B5.out 1).trans rfl
  have hf5_1 := blk_frozen B5.out 1
  have hc4_2 : W.cell? ⟨g4, 2, none⟩ = some (.int .i64 a0_2) := (blk_cell B4.out 2).trans rfl
  have hf4_2 := blk_frozen B4.out 2
  have hc5_2 : W.cell? ⟨g5, 2, none⟩ = some (.int .i64 0) := (blk_cell B5.out 2).trans rfl
  have hf5_2 := blk_frozen B5.out 2
  have hc4_3 : W.cell? ⟨g4, 3, none⟩ = some (.int .i64 a0_3) := (blk_cell B4.out 3).trans rfl
  have hf4_3 := blk_frozen B4.out 3
  have hc5_3 : W.cell? ⟨g5, 3, none⟩ = some (.int .i64 0) := (blk_cell B5.out 3).trans rfl
  have hf5_3 := blk_frozen B5.out 3
  have hc4_4 : W.cell? ⟨g4, 4, none⟩ = some (.int .i64 a0_4) := (blk_cell B4.out 4).trans rfl
  have hf4_4 := blk_frozen B4.out 4
  have hc5_4 : W.cell? ⟨g5, 4, none⟩ = some (.int .i64 0) := (blk_cell B5.out 4).trans rfl
  have hf5_4 := blk_frozen B5.out 4
  go_wp2_with fail
  refine bodyPost_ret (results_cell_row rfl _ _ g5 29 #[.int .i64 a0_0, .int .i64 a0_1, .int .i64 a0_2, .int .i64 a0_3, .int .i64 a0_4] (0, 0) _ rfl (by refine blk_put (cs := #[.int .i64 a0_0, .int .i64 a0_1, .int .i64 a0_2, .int .i64 a0_3, .int .i64 0]) ?_ 4 _ rfl; refine blk_put (cs := #[.int .i64 a0_0, .int .i64 a0_1, .int .i64 a0_2, .int .i64 0, .int .i64 0]) ?_ 3 _ rfl; refine blk_put (cs := #[.int .i64 a0_0, .int .i64 a0_1, .int .i64 0, .int .i64 0, .int .i64 0]) ?_ 2 _ rfl; refine blk_put (cs := #[.int .i64 a0_0, .int .i64 0, .int .i64 0, .int .i64 0, .int .i64 0]) ?_ 1 _ rfl; refine blk_put (cs := #[.int .i64 0, .int .i64 0, .int .i64 0, .int .i64 0, .int .i64 0]) ?_ 0 _ rfl; exact B5.out) Try.underlying29 rfl (by kernel_rfl)) rfl ?_
  refine ⟨rfl, ?_⟩
  subst hg4
  exact below_set (below_set (below_set (below_set (below_set HB.out G5.out) G5.out) G5.out) G5.out) G5.out
theorem impl_PlayGame.calls (a0_0 : Int) (a0_1 : Int) (a0_2 : Int) (a0_3 : Int) (a0_4 : Int) (a1 : Int) (r1 : Int) (r2 : Int) (r3 : Int) (r4 : Int) (r5 : Int) (w : World) (h : impl_PlayGame.f a0_0 a0_1 a0_2 a0_3 a0_4 a1 = some (r1, r2, r3, r4, r5)) :
    Calls Try.prog 39 #[.agg #[.int .i64 a0_0, .int .i64 a0_1, .int .i64 a0_2, .int .i64 a0_3, .int .i64 a0_4], .int .i64 a1] w fun e w' => e = .returned (.agg #[.int .i64 r1, .int .i64 r2, .int .i64 r3, .int .i64 r4, .int .i64 r5]) ∧ Below w.heap.size w w' := by
  unfold impl_PlayGame.f at h
  obtain ⟨b, A3, h⟩ := Option.bind_eq_some_iff.mp h
  cases b with
  | false =>
    simp only [Bool.false_eq_true, if_false, Option.some.injEq, Prod.mk.injEq] at h
    obtain ⟨rfl, rfl, rfl, rfl, rfl⟩ := h
    exact impl_PlayGame.no _ _ _ _ _ _ w A3
  | true =>
    rw [if_pos rfl] at h
    by_cases c1 : a1 = 1
    · rw [if_pos c1, if_neg (by omega)] at h
      simp only [Option.some.injEq, Prod.mk.injEq] at h
      obtain ⟨rfl, rfl, rfl, rfl, rfl⟩ := h
      exact impl_PlayGame.yes _ _ _ _ _ _ true false (by simp [c1]) (by simp [c1]) w A3
    · rw [if_neg c1] at h
      by_cases c3 : a1 = 3
      · rw [if_pos c3] at h
        simp only [Option.some.injEq, Prod.mk.injEq] at h
        obtain ⟨rfl, rfl, rfl, rfl, rfl⟩ := h
        exact impl_PlayGame.yes _ _ _ _ _ _ false true (by simp [c1]) (by simp [c3]) w A3
      · rw [if_neg c3] at h
        simp only [Option.some.injEq, Prod.mk.injEq] at h
        obtain ⟨rfl, rfl, rfl, rfl, rfl⟩ := h
        exact impl_PlayGame.yes _ _ _ _ _ _ false false (by simp [c1]) (by simp [c3]) w A3

/-! ### laws_eqGame: function 40 -/
def laws_eqGame.f (a0_0 : Int) (a0_1 : Int) (a0_2 : Int) (a0_3 : Int) (a0_4 : Int) (a1_0 : Int) (a1_1 : Int) (a1_2 : Int) (a1_3 : Int) (a1_4 : Int) : Option (Bool) := if a0_0 = a1_0 then (if a0_1 = a1_1 then (if a0_2 = a1_2 then (if a0_3 = a1_3 then (if a0_4 = a1_4 then (some true) else (some false)) else (some false)) else (some false)) else (some false)) else (some false)
set_option maxHeartbeats 8000000 in
set_option maxRecDepth 100000 in
theorem laws_eqGame.calls (a0_0 : Int) (a0_1 : Int) (a0_2 : Int) (a0_3 : Int) (a0_4 : Int) (a1_0 : Int) (a1_1 : Int) (a1_2 : Int) (a1_3 : Int) (a1_4 : Int) (r : Bool) (w : World) (hr_ : r = true) (h : laws_eqGame.f a0_0 a0_1 a0_2 a0_3 a0_4 a1_0 a1_1 a1_2 a1_3 a1_4 = some r) :
    Calls Try.prog 40 #[.agg #[.int .i64 a0_0, .int .i64 a0_1, .int .i64 a0_2, .int .i64 a0_3, .int .i64 a0_4], .agg #[.int .i64 a1_0, .int .i64 a1_1, .int .i64 a1_2, .int .i64 a1_3, .int .i64 a1_4]] w fun e w' => e = .returned (.bool r) ∧ Below w.heap.size w w' := by
  have HR_ := Aside0.mk hr_
  clear hr_
  have hu29 := Try.underlying29
  have HB := Aside0.mk (Below.refl w.heap.size w)
  have H : (if a0_0 = a1_0 then (if a0_1 = a1_1 then (if a0_2 = a1_2 then (if a0_3 = a1_3 then (if a0_4 = a1_4 then (some true) else (some false)) else (some false)) else (some false)) else (some false)) else (some false)) = some r := h
  clear h
  by_cases c3 : a0_0 = a1_0
  · rw [if_pos c3] at H
    have c3b0 : (a0_0 == a1_0) = true := beq_iff_eq.mpr c3
    have c3b1 : (a0_0 != a1_0) = false := bne_eq_false_iff_eq.mpr c3
    clear c3
    by_cases c4 : a0_1 = a1_1
    · rw [if_pos c4] at H
      have c4b0 : (a0_1 == a1_1) = true := beq_iff_eq.mpr c4
      have c4b1 : (a0_1 != a1_1) = false := bne_eq_false_iff_eq.mpr c4
      clear c4
      by_cases c5 : a0_2 = a1_2
      · rw [if_pos c5] at H
        have c5b0 : (a0_2 == a1_2) = true := beq_iff_eq.mpr c5
        have c5b1 : (a0_2 != a1_2) = false := bne_eq_false_iff_eq.mpr c5
        clear c5
        by_cases c6 : a0_3 = a1_3
        · rw [if_pos c6] at H
          have c6b0 : (a0_3 == a1_3) = true := beq_iff_eq.mpr c6
          have c6b1 : (a0_3 != a1_3) = false := bne_eq_false_iff_eq.mpr c6
          clear c6
          by_cases c7 : a0_4 = a1_4
          · rw [if_pos c7] at H
            have c7b0 : (a0_4 == a1_4) = true := beq_iff_eq.mpr c7
            have c7b1 : (a0_4 != a1_4) = false := bne_eq_false_iff_eq.mpr c7
            clear c7
            obtain rfl := Option.some.inj H
            go_enter Try.func40, Try.ntmps40
            go_wp2_with (first | ((with_reducible refine gate_dst (N := 2) rfl ?_); refine box_event ?hg (N := 2) ?hd (cs := #[.int .i64 a0_0, .int .i64 a0_1, .int .i64 a0_2, .int .i64 a0_3, .int .i64 a0_4]) (t := 29) ?hr ?_; (case hd => rfl); (case hg => rfl); (case hr => first | (go_simp; done) | (go_simp; rfl)); intro gb104 hg w8 hbox hb; have n0_ := Aside0.mk (below_step (by repeat (first | (with_reducible first | exact HB.out | apply below_alloc | apply pw_below_drewN | apply below_drew1) | exact HB.out)) hb); have n1_ := Aside0.mk (hbox); have n2_ := Aside0.mk ((by rw [hg]; exact (below_size (by repeat (first | (with_reducible first | exact HB.out | apply below_alloc | apply pw_below_drewN | apply below_drew1) | exact HB.out))) : w.heap.size ≤ gb104)); have n3_ := Aside0.mk ((by rw [hg]; exact (below_size (by repeat (first | (with_reducible first | exact HB.out | apply below_alloc | apply pw_below_drewN | apply below_drew1) | exact HB.out))) : w.heap.size ≤ gb104)); clear HB; have HB := n0_; have BK104 := n1_; have GW104 := n2_; have GE104 := n3_; clear n0_ n1_ n2_ n3_; clear hb hbox hg) | ((with_reducible refine gate_dst (N := 3) rfl ?_); refine box_event ?hg (N := 3) ?hd (cs := #[.int .i64 a1_0, .int .i64 a1_1, .int .i64 a1_2, .int .i64 a1_3, .int .i64 a1_4]) (t := 29) ?hr ?_; (case hd => rfl); (case hg => rfl); (case hr => first | (go_simp; done) | (go_simp; rfl)); intro gb105 hg w9 hbox hb; have n0_ := Aside0.mk (blk_below (g := gb104) (o := .cells #[.int .i64 a0_0, .int .i64 a0_1, .int .i64 a0_2, .int .i64 a0_3, .int .i64 a0_4] 29 (0, 0)) (by (with_reducible repeat (first | refine blk_drewN ?_ _ | refine blk_drew ?_ | refine blk_alloc ?_ _)); exact BK104.out) hb); have n1_ := Aside0.mk (below_step (by repeat (first | (with_reducible first | exact HB.out | apply below_alloc | apply pw_below_drewN | apply below_drew1 | refine below_set ?_ GE104.out) | exact HB.out)) hb); have n2_ := Aside0.mk (hbox); have n3_ := Aside0.mk ((by rw [hg]; exact (below_size (by repeat (first | (with_reducible first | exact HB.out | apply below_alloc | apply pw_below_drewN | apply below_drew1 | refine below_set ?_ GE104.out) | exact HB.out))) : w.heap.size ≤ gb105)); have n4_ := Aside0.mk ((by rw [hg]; exact (below_size (by repeat (first | (with_reducible first | exact HB.out | apply below_alloc | apply pw_below_drewN | apply below_drew1 | refine below_set ?_ GE104.out) | exact HB.out))) : w.heap.size ≤ gb105)); have n5_ := Aside0.mk ((by rw [hg]; exact Nat.ne_of_lt (blk_lt (g := gb104) (o := .cells #[.int .i64 a0_0, .int .i64 a0_1, .int .i64 a0_2, .int .i64 a0_3, .int .i64 a0_4] 29 (0, 0)) (by (with_reducible repeat (first | refine blk_drewN ?_ _ | refine blk_drew ?_ | refine blk_alloc ?_ _)); exact BK104.out)) : gb104 ≠ gb105)); have n6_ := Aside0.mk ((by rw [hg]; exact Nat.ne_of_gt (blk_lt (g := gb104) (o := .cells #[.int .i64 a0_0, .int .i64 a0_1, .int .i64 a0_2, .int .i64 a0_3, .int .i64 a0_4] 29 (0, 0)) (by (with_reducible repeat (first | refine blk_drewN ?_ _ | refine blk_drew ?_ | refine blk_alloc ?_ _)); exact BK104.out)) : gb105 ≠ gb104)); clear BK104; clear HB; have BK104 := n0_; have HB := n1_; have BK105 := n2_; have GW105 := n3_; have GE105 := n4_; have NB104_105 := n5_; have NB105_104 := n6_; clear n0_ n1_ n2_ n3_ n4_ n5_ n6_; clear hb hbox hg; have hnb10 := NB104_105.out; have hnc10 := NB105_104.out; have hcz11_0 : w9.cell? ⟨gb104, 0, none⟩ = some (.int .i64 a0_0) := (blk_cell BK104.out 0).trans rfl; have hcz11_1 : w9.cell? ⟨gb104, 1, none⟩ = some (.int .i64 a0_1) := (blk_cell BK104.out 1).trans rfl; have hcz11_2 : w9.cell? ⟨gb104, 2, none⟩ = some (.int .i64 a0_2) := (blk_cell BK104.out 2).trans rfl; have hcz11_3 : w9.cell? ⟨gb104, 3, none⟩ = some (.int .i64 a0_3) := (blk_cell BK104.out 3).trans rfl; have hcz11_4 : w9.cell? ⟨gb104, 4, none⟩ = some (.int .i64 a0_4) := (blk_cell BK104.out 4).trans rfl; have hfz11_0 := blk_frozen BK104.out 0; have hfz11_1 := blk_frozen BK104.out 1; have hfz11_2 := blk_frozen BK104.out 2; have hfz11_3 := blk_frozen BK104.out 3; have hfz11_4 := blk_frozen BK104.out 4; have hcz12_0 : w9.cell? ⟨gb105, 0, none⟩ = some (.int .i64 a1_0) := (blk_cell BK105.out 0).trans rfl; have hcz12_1 : w9.cell? ⟨gb105, 1, none⟩ = some (.int .i64 a1_1) := (blk_cell BK105.out 1).trans rfl; have hcz12_2 : w9.cell? ⟨gb105, 2, none⟩ = some (.int .i64 a1_2) := (blk_cell BK105.out 2).trans rfl; have hcz12_3 : w9.cell? ⟨gb105, 3, none⟩ = some (.int .i64 a1_3) := (blk_cell BK105.out 3).trans rfl; have hcz12_4 : w9.cell? ⟨gb105, 4, none⟩ = some (.int .i64 a1_4) := (blk_cell BK105.out 4).trans rfl; have hfz12_0 := blk_frozen BK105.out 0; have hfz12_1 := blk_frozen BK105.out 1; have hfz12_2 := blk_frozen BK105.out 2; have hfz12_3 := blk_frozen BK105.out 3; have hfz12_4 := blk_frozen BK105.out 4))
            go_ret
            exact ⟨by first | rfl | (simp [errW_none, errW_some] <;> rfl) | (simp [*, errW_none, errW_some] <;> rfl), by repeat (first | (with_reducible first | exact HB.out | apply below_alloc | apply pw_below_drewN | apply below_drew1 | refine below_set ?_ GE104.out | refine below_set ?_ GE105.out) | exact HB.out)⟩
          · rw [if_neg c7] at H
            have c7b0 : (a0_4 == a1_4) = false := beq_eq_false_iff_ne.mpr c7
            have c7b1 : (a0_4 != a1_4) = true := bne_iff_ne.mpr c7
            exact absurd ((Option.some.inj H).trans HR_.out) (by decide)
        · rw [if_neg c6] at H
          have c6b0 : (a0_3 == a1_3) = false := beq_eq_false_iff_ne.mpr c6
          have c6b1 : (a0_3 != a1_3) = true := bne_iff_ne.mpr c6
          exact absurd ((Option.some.inj H).trans HR_.out) (by decide)
      · rw [if_neg c5] at H
        have c5b0 : (a0_2 == a1_2) = false := beq_eq_false_iff_ne.mpr c5
        have c5b1 : (a0_2 != a1_2) = true := bne_iff_ne.mpr c5
        exact absurd ((Option.some.inj H).trans HR_.out) (by decide)
    · rw [if_neg c4] at H
      have c4b0 : (a0_1 == a1_1) = false := beq_eq_false_iff_ne.mpr c4
      have c4b1 : (a0_1 != a1_1) = true := bne_iff_ne.mpr c4
      exact absurd ((Option.some.inj H).trans HR_.out) (by decide)
  · rw [if_neg c3] at H
    have c3b0 : (a0_0 == a1_0) = false := beq_eq_false_iff_ne.mpr c3
    have c3b1 : (a0_0 != a1_0) = true := bne_iff_ne.mpr c3
    exact absurd ((Option.some.inj H).trans HR_.out) (by decide)

/-! ### laws_FnExactPlayGame: function 11 -/
def laws_FnExactPlayGame.f (a0_0 : Int) (a0_1 : Int) (a0_2 : Int) (a0_3 : Int) (a0_4 : Int) (a1 : Int) : Option (Bool) := (laws_toGame.f a0_0 a0_1 a0_2 a0_3 a0_4).bind fun bt107 => ((spec_PlayGame.f bt107.1 bt107.2.1 bt107.2.2.1 bt107.2.2.2.1 bt107.2.2.2.2 a1).bind fun bt112 => ((laws_toGame.f a0_0 a0_1 a0_2 a0_3 a0_4).bind fun bt118 => ((impl_PlayGame.f bt118.1 bt118.2.1 bt118.2.2.1 bt118.2.2.2.1 bt118.2.2.2.2 a1).bind fun bt123 => ((laws_eqGame.f bt123.1 bt123.2.1 bt123.2.2.1 bt123.2.2.2.1 bt123.2.2.2.2 bt112.1 bt112.2.1 bt112.2.2.1 bt112.2.2.2.1 bt112.2.2.2.2).bind fun t129 => (if t129 = true then (some true) else (some false))))))
set_option maxHeartbeats 8000000 in
set_option maxRecDepth 100000 in
theorem laws_FnExactPlayGame.calls (a0_0 : Int) (a0_1 : Int) (a0_2 : Int) (a0_3 : Int) (a0_4 : Int) (a1 : Int) (r : Bool) (w : World) (hr_ : r = true) (h : laws_FnExactPlayGame.f a0_0 a0_1 a0_2 a0_3 a0_4 a1 = some r) :
    Calls Try.prog 11 #[.agg #[.int .i64 a0_0, .int .i64 a0_1, .int .i64 a0_2, .int .i64 a0_3, .int .i64 a0_4], .int .i64 a1] w fun e w' => e = .returned (.bool r) ∧ Below w.heap.size w w' := by
  have HR_ := Aside0.mk hr_
  clear hr_
  have hu27 := Try.underlying27
  have hu29 := Try.underlying29
  have HB := Aside0.mk (Below.refl w.heap.size w)
  have H : ((laws_toGame.f a0_0 a0_1 a0_2 a0_3 a0_4).bind fun bt107 => ((spec_PlayGame.f bt107.1 bt107.2.1 bt107.2.2.1 bt107.2.2.2.1 bt107.2.2.2.2 a1).bind fun bt112 => ((laws_toGame.f a0_0 a0_1 a0_2 a0_3 a0_4).bind fun bt118 => ((impl_PlayGame.f bt118.1 bt118.2.1 bt118.2.2.1 bt118.2.2.2.1 bt118.2.2.2.2 a1).bind fun bt123 => ((laws_eqGame.f bt123.1 bt123.2.1 bt123.2.2.1 bt123.2.2.2.1 bt123.2.2.2.2 bt112.1 bt112.2.1 bt112.2.2.1 bt112.2.2.2.1 bt112.2.2.2.2).bind fun t129 => (if t129 = true then (some true) else (some false))))))) = some r := h
  clear h
  replace H := Option.bind_eq_some_iff.mp H
  obtain ⟨⟨t107, t108, t109, t110, t111⟩, A30, H⟩ := H
  replace H : ((spec_PlayGame.f t107 t108 t109 t110 t111 a1).bind fun bt112 => ((laws_toGame.f a0_0 a0_1 a0_2 a0_3 a0_4).bind fun bt118 => ((impl_PlayGame.f bt118.1 bt118.2.1 bt118.2.2.1 bt118.2.2.2.1 bt118.2.2.2.2 a1).bind fun bt123 => ((laws_eqGame.f bt123.1 bt123.2.1 bt123.2.2.1 bt123.2.2.2.1 bt123.2.2.2.2 bt112.1 bt112.2.1 bt112.2.2.1 bt112.2.2.2.1 bt112.2.2.2.2).bind fun t129 => (if t129 = true then (some true) else (some false)))))) = some r := H
  have A3 := Aside0.mk A30
  clear A30
  replace H := Option.bind_eq_some_iff.mp H
  obtain ⟨⟨t112, t113, t114, t115, t116⟩, A40, H⟩ := H
  replace H : ((laws_toGame.f a0_0 a0_1 a0_2 a0_3 a0_4).bind fun bt118 => ((impl_PlayGame.f bt118.1 bt118.2.1 bt118.2.2.1 bt118.2.2.2.1 bt118.2.2.2.2 a1).bind fun bt123 => ((laws_eqGame.f bt123.1 bt123.2.1 bt123.2.2.1 bt123.2.2.2.1 bt123.2.2.2.2 t112 t113 t114 t115 t116).bind fun t129 => (if t129 = true then (some true) else (some false))))) = some r := H
  have A4 := Aside0.mk A40
  clear A40
  replace H := Option.bind_eq_some_iff.mp H
  obtain ⟨⟨t118, t119, t120, t121, t122⟩, A50, H⟩ := H
  replace H : ((impl_PlayGame.f t118 t119 t120 t121 t122 a1).bind fun bt123 => ((laws_eqGame.f bt123.1 bt123.2.1 bt123.2.2.1 bt123.2.2.2.1 bt123.2.2.2.2 t112 t113 t114 t115 t116).bind fun t129 => (if t129 = true then (some true) else (some false)))) = some r := H
  have A5 := Aside0.mk A50
  clear A50
  replace H := Option.bind_eq_some_iff.mp H
  obtain ⟨⟨t123, t124, t125, t126, t127⟩, A60, H⟩ := H
  replace H : ((laws_eqGame.f t123 t124 t125 t126 t127 t112 t113 t114 t115 t116).bind fun t129 => (if t129 = true then (some true) else (some false))) = some r := H
  have A6 := Aside0.mk A60
  clear A60
  replace H := Option.bind_eq_some_iff.mp H
  obtain ⟨t129, A70, H⟩ := H
  replace H : (if t129 = true then (some true) else (some false)) = some r := H
  have A7 := Aside0.mk A70
  clear A70
  by_cases c8 : t129 = true
  · subst c8
    have H1 : (some true) = some r := by rw [if_pos rfl] at H; exact H
    clear H
    have H := H1
    clear H1
    obtain rfl := Option.some.inj H
    go_enter Try.func11, Try.ntmps11
    go_wp2_with (first | ((with_reducible refine gate_dst (N := 2) rfl ?_); refine box_event ?hg (N := 2) ?hd (cs := #[.int .i64 a0_0, .int .i64 a0_1, .int .i64 a0_2, .int .i64 a0_3, .int .i64 a0_4]) (t := 27) ?hr ?_; (case hd => rfl); (case hg => rfl); (case hr => first | (go_simp; done) | (go_simp; rfl)); intro gb106 hg w9 hbox hb; have n0_ := Aside0.mk (below_step (by repeat (first | (with_reducible first | exact HB.out | apply below_alloc | apply pw_below_drewN | apply below_drew1) | exact HB.out)) hb); have n1_ := Aside0.mk (hbox); have n2_ := Aside0.mk ((by rw [hg]; exact (below_size (by repeat (first | (with_reducible first | exact HB.out | apply below_alloc | apply pw_below_drewN | apply below_drew1) | exact HB.out))) : w.heap.size ≤ gb106)); have n3_ := Aside0.mk ((by rw [hg]; exact (below_size (by repeat (first | (with_reducible first | exact HB.out | apply below_alloc | apply pw_below_drewN | apply below_drew1) | exact HB.out))) : w.heap.size ≤ gb106)); clear HB; have HB := n0_; have BK106 := n1_; have GW106 := n2_; have GE106 := n3_; clear n0_ n1_ n2_ n3_; clear hb hbox hg; have hcz10_0 : w9.cell? ⟨gb106, 0, none⟩ = some (.int .i64 a0_0) := (blk_cell BK106.out 0).trans rfl; have hcz10_1 : w9.cell? ⟨gb106, 1, none⟩ = some (.int .i64 a0_1) := (blk_cell BK106.out 1).trans rfl; have hcz10_2 : w9.cell? ⟨gb106, 2, none⟩ = some (.int .i64 a0_2) := (blk_cell BK106.out 2).trans rfl; have hcz10_3 : w9.cell? ⟨gb106, 3, none⟩ = some (.int .i64 a0_3) := (blk_cell BK106.out 3).trans rfl; have hcz10_4 : w9.cell? ⟨gb106, 4, none⟩ = some (.int .i64 a0_4) := (blk_cell BK106.out 4).trans rfl; have hfz10_0 := blk_frozen BK106.out 0; have hfz10_1 := blk_frozen BK106.out 1; have hfz10_2 := blk_frozen BK106.out 2; have hfz10_3 := blk_frozen BK106.out 3; have hfz10_4 := blk_frozen BK106.out 4) | ((with_reducible refine gate_callee (f := 20) rfl ?_); refine goesL_ (some 8) rfl rfl Try.func20 (by kernel_rfl) rfl #[.agg #[.int .i64 a0_0, .int .i64 a0_1, .int .i64 a0_2, .int .i64 a0_3, .int .i64 a0_4]] rfl (by (try simp only [List.map_toArray, List.map_cons, List.map_nil]); first | done | rfl | (simp only [List.length_drop, List.length_take]; rfl)) ?_; (with_reducible refine (laws_toGame.calls a0_0 a0_1 a0_2 a0_3 a0_4 t107 t108 t109 t110 t111 _ A3.out).mono ?_); rintro e w11 ⟨rfl, hb⟩; refine ⟨_, rfl, ?_⟩; have n0_ := Aside0.mk (blk_below (g := gb106) (o := .cells #[.int .i64 a0_0, .int .i64 a0_1, .int .i64 a0_2, .int .i64 a0_3, .int .i64 a0_4] 27 (0, 0)) (by (with_reducible repeat (first | refine blk_drewN ?_ _ | refine blk_drew ?_ | refine blk_alloc ?_ _)); exact BK106.out) hb); have n1_ := Aside0.mk (below_step (by repeat (first | (with_reducible first | exact HB.out | apply below_alloc | apply pw_below_drewN | apply below_drew1 | refine below_set ?_ GE106.out) | exact HB.out)) hb); clear BK106; clear HB; have BK106 := n0_; have HB := n1_; clear n0_ n1_; (try clear hb); (try clear hb2); (try clear hk); (try clear hi)) | ((with_reducible refine gate_callee (f := 38) rfl ?_); refine goesL_ (some 10) rfl rfl Try.func38 (by kernel_rfl) rfl #[.agg #[.int .i64 t107, .int .i64 t108, .int .i64 t109, .int .i64 t110, .int .i64 t111], .int .i64 a1] rfl (by (try simp only [List.map_toArray, List.map_cons, List.map_nil]); first | done | rfl | (simp only [List.length_drop, List.length_take]; rfl)) ?_; (with_reducible refine (spec_PlayGame.calls t107 t108 t109 t110 t111 a1 t112 t113 t114 t115 t116 _ A4.out).mono ?_); rintro e w12 ⟨rfl, hb⟩; refine ⟨_, rfl, ?_⟩; have n0_ := Aside0.mk (blk_below (g := gb106) (o := .cells #[.int .i64 a0_0, .int .i64 a0_1, .int .i64 a0_2, .int .i64 a0_3, .int .i64 a0_4] 27 (0, 0)) (by (with_reducible repeat (first | refine blk_drewN ?_ _ | refine blk_drew ?_ | refine blk_alloc ?_ _)); exact BK106.out) hb); have n1_ := Aside0.mk (below_step (by repeat (first | (with_reducible first | exact HB.out | apply below_alloc | apply pw_below_drewN | apply below_drew1 | refine below_set ?_ GE106.out) | exact HB.out)) hb); clear BK106; clear HB; have BK106 := n0_; have HB := n1_; clear n0_ n1_; (try clear hb); (try clear hb2); (try clear hk); (try clear hi)) | ((with_reducible refine gate_dst (N := 5) rfl ?_); refine box_event ?hg (N := 5) ?hd (cs := #[.int .i64 0, .int .i64 0, .int .i64 0, .int .i64 0, .int .i64 0]) (t := 29) ?hr ?_; (case hd => rfl); (case hg => rfl); (case hr => first | (go_simp; done) | (go_simp; rfl)); intro gb117 hg w13 hbox hb; have n0_ := Aside0.mk (blk_below (g := gb106) (o := .cells #[.int .i64 a0_0, .int .i64 a0_1, .int .i64 a0_2, .int .i64 a0_3, .int .i64 a0_4] 27 (0, 0)) (by (with_reducible repeat (first | refine blk_drewN ?_ _ | refine blk_drew ?_ | refine blk_alloc ?_ _)); exact BK106.out) hb); have n1_ := Aside0.mk (below_step (by repeat (first | (with_reducible first | exact HB.out | apply below_alloc | apply pw_below_drewN | apply below_drew1 | refine below_set ?_ GE106.out) | exact HB.out)) hb); have n2_ := Aside0.mk (hbox); have n3_ := Aside0.mk ((by rw [hg]; exact (below_size (by repeat (first | (with_reducible first | exact HB.out | apply below_alloc | apply pw_below_drewN | apply below_drew1 | refine below_set ?_ GE106.out) | exact HB.out))) : w.heap.size ≤ gb117)); have n4_ := Aside0.mk ((by rw [hg]; exact (below_size (by repeat (first | (with_reducible first | exact HB.out | apply below_alloc | apply pw_below_drewN | apply below_drew1 | refine below_set ?_ GE106.out) | exact HB.out))) : w.heap.size ≤ gb117)); have n5_ := Aside0.mk ((by rw [hg]; exact Nat.ne_of_lt (blk_lt (g := gb106) (o := .cells #[.int .i64 a0_0, .int .i64 a0_1, .int .i64 a0_2, .int .i64 a0_3, .int .i64 a0_4] 27 (0, 0)) (by (with_reducible repeat (first | refine blk_drewN ?_ _ | refine blk_drew ?_ | refine blk_alloc ?_ _)); exact BK106.out)) : gb106 ≠ gb117)); have n6_ := Aside0.mk ((by rw [hg]; exact Nat.ne_of_gt (blk_lt (g := gb106) (o := .cells #[.int .i64 a0_0, .int .i64 a0_1, .int .i64 a0_2, .int .i64 a0_3, .int .i64 a0_4] 27 (0, 0)) (by (with_reducible repeat (first | refine blk_drewN ?_ _ | refine blk_drew ?_ | refine blk_alloc ?_ _)); exact BK106.out)) : gb117 ≠ gb106)); clear BK106; clear HB; have BK106 := n0_; have HB := n1_; have BK117 := n2_; have GW117 := n3_; have GE117 := n4_; have NB106_117 := n5_; have NB117_106 := n6_; clear n0_ n1_ n2_ n3_ n4_ n5_ n6_; clear hb hbox hg; have hnb14 := NB117_106.out; have hnc14 := NB106_117.out; have hcz15_0 : w13.cell? ⟨gb117, 0, none⟩ = some (.int .i64 0) := (blk_cell BK117.out 0).trans rfl; have hcz15_1 : w13.cell? ⟨gb117, 1, none⟩ = some (.int .i64 0) := (blk_cell BK117.out 1).trans rfl; have hcz15_2 : w13.cell? ⟨gb117, 2, none⟩ = some (.int .i64 0) := (blk_cell BK117.out 2).trans rfl; have hcz15_3 : w13.cell? ⟨gb117, 3, none⟩ = some (.int .i64 0) := (blk_cell BK117.out 3).trans rfl; have hcz15_4 : w13.cell? ⟨gb117, 4, none⟩ = some (.int .i64 0) := (blk_cell BK117.out 4).trans rfl; have hfz15_0 := blk_frozen BK117.out 0; have hfz15_1 := blk_frozen BK117.out 1; have hfz15_2 := blk_frozen BK117.out 2; have hfz15_3 := blk_frozen BK117.out 3; have hfz15_4 := blk_frozen BK117.out 4; have hcz16_0 : w13.cell? ⟨gb106, 0, none⟩ = some (.int .i64 a0_0) := (blk_cell BK106.out 0).trans rfl; have hcz16_1 : w13.cell? ⟨gb106, 1, none⟩ = some (.int .i64 a0_1) := (blk_cell BK106.out 1).trans rfl; have hcz16_2 : w13.cell? ⟨gb106, 2, none⟩ = some (.int .i64 a0_2) := (blk_cell BK106.out 2).trans rfl; have hcz16_3 : w13.cell? ⟨gb106, 3, none⟩ = some (.int .i64 a0_3) := (blk_cell BK106.out 3).trans rfl; have hcz16_4 : w13.cell? ⟨gb106, 4, none⟩ = some (.int .i64 a0_4) := (blk_cell BK106.out 4).trans rfl; have hfz16_0 := blk_frozen BK106.out 0; have hfz16_1 := blk_frozen BK106.out 1; have hfz16_2 := blk_frozen BK106.out 2; have hfz16_3 := blk_frozen BK106.out 3; have hfz16_4 := blk_frozen BK106.out 4) | ((with_reducible refine gate_callee (f := 20) rfl ?_); refine goesL_ (some 12) rfl rfl Try.func20 (by kernel_rfl) rfl #[.agg #[.int .i64 a0_0, .int .i64 a0_1, .int .i64 a0_2, .int .i64 a0_3, .int .i64 a0_4]] rfl (by (try simp only [List.map_toArray, List.map_cons, List.map_nil]); first | done | rfl | (simp only [List.length_drop, List.length_take]; rfl)) ?_; (with_reducible refine (laws_toGame.calls a0_0 a0_1 a0_2 a0_3 a0_4 t118 t119 t120 t121 t122 _ A5.out).mono ?_); rintro e w17 ⟨rfl, hb⟩; refine ⟨_, rfl, ?_⟩; have n0_ := Aside0.mk (blk_below (g := gb106) (o := .cells #[.int .i64 a0_0, .int .i64 a0_1, .int .i64 a0_2, .int .i64 a0_3, .int .i64 a0_4] 27 (0, 0)) (by (with_reducible repeat (first | refine blk_drewN ?_ _ | refine blk_drew ?_ | refine blk_alloc ?_ _)); refine blk_far ?_ NB106_117.out _; (with_reducible repeat (first | refine blk_drewN ?_ _ | refine blk_drew ?_ | refine blk_alloc ?_ _)); refine blk_far ?_ NB106_117.out _; (with_reducible repeat (first | refine blk_drewN ?_ _ | refine blk_drew ?_ | refine blk_alloc ?_ _)); refine blk_far ?_ NB106_117.out _; (with_reducible repeat (first | refine blk_drewN ?_ _ | refine blk_drew ?_ | refine blk_alloc ?_ _)); refine blk_far ?_ NB106_117.out _; (with_reducible repeat (first | refine blk_drewN ?_ _ | refine blk_drew ?_ | refine blk_alloc ?_ _)); refine blk_far ?_ NB106_117.out _; (with_reducible repeat (first | refine blk_drewN ?_ _ | refine blk_drew ?_ | refine blk_alloc ?_ _)); exact BK106.out) hb); have n1_ := Aside0.mk (blk_below (g := gb117) (o := .cells #[.int .i64 t112, .int .i64 t113, .int .i64 t114, .int .i64 t115, .int .i64 t116] 29 (0, 0)) (by (with_reducible repeat (first | refine blk_drewN ?_ _ | refine blk_drew ?_ | refine blk_alloc ?_ _)); refine blk_put (cs := #[.int .i64 t112, .int .i64 t113, .int .i64 t114, .int .i64 t115, .int .i64 0]) ?_ 4 _ rfl; (with_reducible repeat (first | refine blk_drewN ?_ _ | refine blk_drew ?_ | refine blk_alloc ?_ _)); refine blk_put (cs := #[.int .i64 t112, .int .i64 t113, .int .i64 t114, .int .i64 0, .int .i64 0]) ?_ 3 _ rfl; (with_reducible repeat (first | refine blk_drewN ?_ _ | refine blk_drew ?_ | refine blk_alloc ?_ _)); refine blk_put (cs := #[.int .i64 t112, .int .i64 t113, .int .i64 0, .int .i64 0, .int .i64 0]) ?_ 2 _ rfl; (with_reducible repeat (first | refine blk_drewN ?_ _ | refine blk_drew ?_ | refine blk_alloc ?_ _)); refine blk_put (cs := #[.int .i64 t112, .int .i64 0, .int .i64 0, .int .i64 0, .int .i64 0]) ?_ 1 _ rfl; (with_reducible repeat (first | refine blk_drewN ?_ _ | refine blk_drew ?_ | refine blk_alloc ?_ _)); refine blk_put (cs := #[.int .i64 0, .int .i64 0, .int .i64 0, .int .i64 0, .int .i64 0]) ?_ 0 _ rfl; (with_reducible repeat (first | refine blk_drewN ?_ _ | refine blk_drew ?_ | refine blk_alloc ?_ _)); exact BK117.out) hb); have n2_ := Aside0.mk (below_step (by repeat (first | (with_reducible first | exact HB.out | apply below_alloc | apply pw_below_drewN | apply below_drew1 | refine below_set ?_ GE106.out | refine below_set ?_ GE117.out) | exact HB.out)) hb); clear BK106; clear BK117; clear HB; have BK106 := n0_; have BK117 := n1_; have HB := n2_; clear n0_ n1_ n2_; (try clear hb); (try clear hb2); (try clear hk); (try clear hi)) | ((with_reducible refine gate_callee (f := 39) rfl ?_); refine goesL_ (some 14) rfl rfl Try.func39 (by kernel_rfl) rfl #[.agg #[.int .i64 t118, .int .i64 t119, .int .i64 t120, .int .i64 t121, .int .i64 t122], .int .i64 a1] rfl (by (try simp only [List.map_toArray, List.map_cons, List.map_nil]); first | done | rfl | (simp only [List.length_drop, List.length_take]; rfl)) ?_; (with_reducible refine (impl_PlayGame.calls t118 t119 t120 t121 t122 a1 t123 t124 t125 t126 t127 _ A6.out).mono ?_); rintro e w18 ⟨rfl, hb⟩; refine ⟨_, rfl, ?_⟩; have n0_ := Aside0.mk (blk_below (g := gb106) (o := .cells #[.int .i64 a0_0, .int .i64 a0_1, .int .i64 a0_2, .int .i64 a0_3, .int .i64 a0_4] 27 (0, 0)) (by (with_reducible repeat (first | refine blk_drewN ?_ _ | refine blk_drew ?_ | refine blk_alloc ?_ _)); exact BK106.out) hb); have n1_ := Aside0.mk (blk_below (g := gb117) (o := .cells #[.int .i64 t112, .int .i64 t113, .int .i64 t114, .int .i64 t115, .int .i64 t116] 29 (0, 0)) (by (with_reducible repeat (first | refine blk_drewN ?_ _ | refine blk_drew ?_ | refine blk_alloc ?_ _)); exact BK117.out) hb); have n2_ := Aside0.mk (below_step (by repeat (first | (with_reducible first | exact HB.out | apply below_alloc | apply pw_below_drewN | apply below_drew1 | refine below_set ?_ GE106.out | refine below_set ?_ GE117.out) | exact HB.out)) hb); clear BK106; clear BK117; clear HB; have BK106 := n0_; have BK117 := n1_; have HB := n2_; clear n0_ n1_ n2_; (try clear hb); (try clear hb2); (try clear hk); (try clear hi)) | ((with_reducible refine gate_dst (N := 6) rfl ?_); refine box_event ?hg (N := 6) ?hd (cs := #[.int .i64 0, .int .i64 0, .int .i64 0, .int .i64 0, .int .i64 0]) (t := 29) ?hr ?_; (case hd => rfl); (case hg => rfl); (case hr => first | (go_simp; done) | (go_simp; rfl)); intro gb128 hg w19 hbox hb; have n0_ := Aside0.mk (blk_below (g := gb106) (o := .cells #[.int .i64 a0_0, .int .i64 a0_1, .int .i64 a0_2, .int .i64 a0_3, .int .i64 a0_4] 27 (0, 0)) (by (with_reducible repeat (first | refine blk_drewN ?_ _ | refine blk_drew ?_ | refine blk_alloc ?_ _)); exact BK106.out) hb); have n1_ := Aside0.mk (blk_below (g := gb117) (o := .cells #[.int .i64 t112, .int .i64 t113, .int .i64 t114, .int .i64 t115, .int .i64 t116] 29 (0, 0)) (by (with_reducible repeat (first | refine blk_drewN ?_ _ | refine blk_drew ?_ | refine blk_alloc ?_ _)); exact BK117.out) hb); have n2_ := Aside0.mk (below_step (by repeat (first | (with_reducible first | exact HB.out | apply below_alloc | apply pw_below_drewN | apply below_drew1 | refine below_set ?_ GE106.out | refine below_set ?_ GE117.out) | exact HB.out)) hb); have n3_ := Aside0.mk (hbox); have n4_ := Aside0.mk ((by rw [hg]; exact (below_size (by repeat (first | (with_reducible first | exact HB.out | apply below_alloc | apply pw_below_drewN | apply below_drew1 | refine below_set ?_ GE106.out | refine below_set ?_ GE117.out) | exact HB.out))) : w.heap.size ≤ gb128)); have n5_ := Aside0.mk ((by rw [hg]; exact (below_size (by repeat (first | (with_reducible first | exact HB.out | apply below_alloc | apply pw_below_drewN | apply below_drew1 | refine below_set ?_ GE106.out | refine below_set ?_ GE117.out) | exact HB.out))) : w.heap.size ≤ gb128)); have n6_ := Aside0.mk ((by rw [hg]; exact Nat.ne_of_lt (blk_lt (g := gb106) (o := .cells #[.int .i64 a0_0, .int .i64 a0_1, .int .i64 a0_2, .int .i64 a0_3, .int .i64 a0_4] 27 (0, 0)) (by (with_reducible repeat (first | refine blk_drewN ?_ _ | refine blk_drew ?_ | refine blk_alloc ?_ _)); exact BK106.out)) : gb106 ≠ gb128)); have n7_ := Aside0.mk ((by rw [hg]; exact Nat.ne_of_gt (blk_lt (g := gb106) (o := .cells #[.int .i64 a0_0, .int .i64 a0_1, .int .i64 a0_2, .int .i64 a0_3, .int .i64 a0_4] 27 (0, 0)) (by (with_reducible repeat (first | refine blk_drewN ?_ _ | refine blk_drew ?_ | refine blk_alloc ?_ _)); exact BK106.out)) : gb128 ≠ gb106)); have n8_ := Aside0.mk ((by rw [hg]; exact Nat.ne_of_lt (blk_lt (g := gb117) (o := .cells #[.int .i64 t112, .int .i64 t113, .int .i64 t114, .int .i64 t115, .int .i64 t116] 29 (0, 0)) (by (with_reducible repeat (first | refine blk_drewN ?_ _ | refine blk_drew ?_ | refine blk_alloc ?_ _)); exact BK117.out)) : gb117 ≠ gb128)); have n9_ := Aside0.mk ((by rw [hg]; exact Nat.ne_of_gt (blk_lt (g := gb117) (o := .cells #[.int .i64 t112, .int .i64 t113, .int .i64 t114, .int .i64 t115, .int .i64 t116] 29 (0, 0)) (by (with_reducible repeat (first | refine blk_drewN ?_ _ | refine blk_drew ?_ | refine blk_alloc ?_ _)); exact BK117.out)) : gb128 ≠ gb117)); clear BK106; clear BK117; clear HB; have BK106 := n0_; have BK117 := n1_; have HB := n2_; have BK128 := n3_; have GW128 := n4_; have GE128 := n5_; have NB106_128 := n6_; have NB128_106 := n7_; have NB117_128 := n8_; have NB128_117 := n9_; clear n0_ n1_ n2_ n3_ n4_ n5_ n6_ n7_ n8_ n9_; clear hb hbox hg; have hnb20 := NB128_106.out; have hnc20 := NB106_128.out; have hnb21 := NB128_117.out; have hnc21 := NB117_128.out; have hcz22_0 : w19.cell? ⟨gb128, 0, none⟩ = some (.int .i64 0) := (blk_cell BK128.out 0).trans rfl; have hcz22_1 : w19.cell? ⟨gb128, 1, none⟩ = some (.int .i64 0) := (blk_cell BK128.out 1).trans rfl; have hcz22_2 : w19.cell? ⟨gb128, 2, none⟩ = some (.int .i64 0) := (blk_cell BK128.out 2).trans rfl; have hcz22_3 : w19.cell? ⟨gb128, 3, none⟩ = some (.int .i64 0) := (blk_cell BK128.out 3).trans rfl; have hcz22_4 : w19.cell? ⟨gb128, 4, none⟩ = some (.int .i64 0) := (blk_cell BK128.out 4).trans rfl; have hfz22_0 := blk_frozen BK128.out 0; have hfz22_1 := blk_frozen BK128.out 1; have hfz22_2 := blk_frozen BK128.out 2; have hfz22_3 := blk_frozen BK128.out 3; have hfz22_4 := blk_frozen BK128.out 4; have hcz23_0 : w19.cell? ⟨gb117, 0, none⟩ = some (.int .i64 t112) := (blk_cell BK117.out 0).trans rfl; have hcz23_1 : w19.cell? ⟨gb117, 1, none⟩ = some (.int .i64 t113) := (blk_cell BK117.out 1).trans rfl; have hcz23_2 : w19.cell? ⟨gb117, 2, none⟩ = some (.int .i64 t114) := (blk_cell BK117.out 2).trans rfl; have hcz23_3 : w19.cell? ⟨gb117, 3, none⟩ = some (.int .i64 t115) := (blk_cell BK117.out 3).trans rfl; have hcz23_4 : w19.cell? ⟨gb117, 4, none⟩ = some (.int .i64 t116) := (blk_cell BK117.out 4).trans rfl; have hfz23_0 := blk_frozen BK117.out 0; have hfz23_1 := blk_frozen BK117.out 1; have hfz23_2 := blk_frozen BK117.out 2; have hfz23_3 := blk_frozen BK117.out 3; have hfz23_4 := blk_frozen BK117.out 4) | ((with_reducible refine gate_callee (f := 40) rfl ?_); refine goesL_ (some 17) rfl rfl Try.func40 (by kernel_rfl) rfl #[.agg #[.int .i64 t123, .int .i64 t124, .int .i64 t125, .int .i64 t126, .int .i64 t127], .agg #[.int .i64 t112, .int .i64 t113, .int .i64 t114, .int .i64 t115, .int .i64 t116]] rfl (by (try simp only [List.map_toArray, List.map_cons, List.map_nil]); first | done | rfl | (simp only [List.length_drop, List.length_take]; rfl)) ?_; (with_reducible refine (laws_eqGame.calls t123 t124 t125 t126 t127 t112 t113 t114 t115 t116 true _ rfl A7.out).mono ?_); rintro e w24 ⟨rfl, hb⟩; refine ⟨_, rfl, ?_⟩; have n0_ := Aside0.mk (blk_below (g := gb106) (o := .cells #[.int .i64 a0_0, .int .i64 a0_1, .int .i64 a0_2, .int .i64 a0_3, .int .i64 a0_4] 27 (0, 0)) (by (with_reducible repeat (first | refine blk_drewN ?_ _ | refine blk_drew ?_ | refine blk_alloc ?_ _)); refine blk_far ?_ NB106_128.out _; (with_reducible repeat (first | refine blk_drewN ?_ _ | refine blk_drew ?_ | refine blk_alloc ?_ _)); refine blk_far ?_ NB106_128.out _; (with_reducible repeat (first | refine blk_drewN ?_ _ | refine blk_drew ?_ | refine blk_alloc ?_ _)); refine blk_far ?_ NB106_128.out _; (with_reducible repeat (first | refine blk_drewN ?_ _ | refine blk_drew ?_ | refine blk_alloc ?_ _)); refine blk_far ?_ NB106_128.out _; (with_reducible repeat (first | refine blk_drewN ?_ _ | refine blk_drew ?_ | refine blk_alloc ?_ _)); refine blk_far ?_ NB106_128.out _; (with_reducible repeat (first | refine blk_drewN ?_ _ | refine blk_drew ?_ | refine blk_alloc ?_ _)); exact BK106.out) hb); have n1_ := Aside0.mk (blk_below (g := gb117) (o := .cells #[.int .i64 t112, .int .i64 t113, .int .i64 t114, .int .i64 t115, .int .i64 t116] 29 (0, 0)) (by (with_reducible repeat (first | refine blk_drewN ?_ _ | refine blk_drew ?_ | refine blk_alloc ?_ _)); refine blk_far ?_ NB117_128.out _; (with_reducible repeat (first | refine blk_drewN ?_ _ | refine blk_drew ?_ | refine blk_alloc ?_ _)); refine blk_far ?_ NB117_128.out _; (with_reducible repeat (first | refine blk_drewN ?_ _ | refine blk_drew ?_ | refine blk_alloc ?_ _)); refine blk_far ?_ NB117_128.out _; (with_reducible repeat (first | refine blk_drewN ?_ _ | refine blk_drew ?_ | refine blk_alloc ?_ _)); refine blk_far ?_ NB117_128.out _; (with_reducible repeat (first | refine blk_drewN ?_ _ | refine blk_drew ?_ | refine blk_alloc ?_ _)); refine blk_far ?_ NB117_128.out _; (with_reducible repeat (first | refine blk_drewN ?_ _ | refine blk_drew ?_ | refine blk_alloc ?_ _)); exact BK117.out) hb); have n2_ := Aside0.mk (blk_below (g := gb128) (o := .cells #[.int .i64 t123, .int .i64 t124, .int .i64 t125, .int .i64 t126, .int .i64 t127] 29 (0, 0)) (by (with_reducible repeat (first | refine blk_drewN ?_ _ | refine blk_drew ?_ | refine blk_alloc ?_ _)); refine blk_put (cs := #[.int .i64 t123, .int .i64 t124, .int .i64 t125, .int .i64 t126, .int .i64 0]) ?_ 4 _ rfl; (with_reducible repeat (first | refine blk_drewN ?_ _ | refine blk_drew ?_ | refine blk_alloc ?_ _)); refine blk_put (cs := #[.int .i64 t123, .int .i64 t124, .int .i64 t125, .int .i64 0, .int .i64 0]) ?_ 3 _ rfl; (with_reducible repeat (first | refine blk_drewN ?_ _ | refine blk_drew ?_ | refine blk_alloc ?_ _)); refine blk_put (cs := #[.int .i64 t123, .int .i64 t124, .int .i64 0, .int .i64 0, .int .i64 0]) ?_ 2 _ rfl; (with_reducible repeat (first | refine blk_drewN ?_ _ | refine blk_drew ?_ | refine blk_alloc ?_ _)); refine blk_put (cs := #[.int .i64 t123, .int .i64 0, .int .i64 0, .int .i64 0, .int .i64 0]) ?_ 1 _ rfl; (with_reducible repeat (first | refine blk_drewN ?_ _ | refine blk_drew ?_ | refine blk_alloc ?_ _)); refine blk_put (cs := #[.int .i64 0, .int .i64 0, .int .i64 0, .int .i64 0, .int .i64 0]) ?_ 0 _ rfl; (with_reducible repeat (first | refine blk_drewN ?_ _ | refine blk_drew ?_ | refine blk_alloc ?_ _)); exact BK128.out) hb); have n3_ := Aside0.mk (below_step (by repeat (first | (with_reducible first | exact HB.out | apply below_alloc | apply pw_below_drewN | apply below_drew1 | refine below_set ?_ GE106.out | refine below_set ?_ GE117.out | refine below_set ?_ GE128.out) | exact HB.out)) hb); clear BK106; clear BK117; clear BK128; clear HB; have BK106 := n0_; have BK117 := n1_; have BK128 := n2_; have HB := n3_; clear n0_ n1_ n2_ n3_; (try clear hb); (try clear hb2); (try clear hk); (try clear hi)))
    go_ret
    exact ⟨by first | rfl | (simp [errW_none, errW_some] <;> rfl) | (simp [*, errW_none, errW_some] <;> rfl), by repeat (first | (with_reducible first | exact HB.out | apply below_alloc | apply pw_below_drewN | apply below_drew1 | refine below_set ?_ GE106.out | refine below_set ?_ GE117.out | refine below_set ?_ GE128.out) | exact HB.out)⟩
  · replace c8 := Bool.eq_false_iff.mpr c8
    subst c8
    have H1 : (some false) = some r := by rw [if_neg (show ¬ (false = true) by decide)] at H; exact H
    clear H
    have H := H1
    clear H1
    exact absurd ((Option.some.inj H).trans HR_.out) (by decide)

end Go.Proofs.Ytgjolkpplhcjoaa.MFnExactPlayGame
