/- The functions that FnExactKeyValue reaches, each with its contract: the print's form, by wip/tools/myprint.py; no condition of its own. -/
import Derived.Test.YtikfdjgigeggjaaMFnExactKeyValuex0
import Derived.Test.YtikfdjgigeggjaaMFnExactKeyValuex1
import Derived.Test.YtikfdjgigeggjaaMFnExactKeyValuex3
namespace Go.Proofs.Ytikfdjgigeggjaa.MFnExactKeyValue
open Go.RowKit Go.Proofs.YtikfdjgigeggjaaW.PrintWords Go.Proofs.YtikfdjgigeggjaaW.PrintLast Go.Proofs.YtikfdjgigeggjaaW.PrintMore
attribute [local go_sem] max2_int min2_int max_two min_two max_three min_three max_four min_four   -- for this text's walks alone
set_option linter.unusedVariables false
set_option linter.unusedSimpArgs false

/-! ### spec_FieldOk: function 119 -/
mutual
def spec_FieldOk.l0 : Nat → List (S151) → List (S151) → Int → Int → Option (Bool)
  | 0, _, _, _, _ => none
  | k + 1, x0, x11, x12, x13 => if x13 < x12 then (if 0 ≤ x13 then (if x13 < (x11.length : Int) then ((spec_TeamOk.f k ((rd_T151 x11 x13).f0) ((rd_T151 x11 x13).f1) ((rd_T151 x11 x13).f2)).bind fun t150 => (if t150 = true then (if x13 ≤ (x0.length : Int) then ((some (x0.take (x13 : Int).toNat : List (S151))).bind fun y151 => (spec_FieldOk.l1 k x0 x11 x12 x13 y151 (y151.length : Int) 0 ((rd_T151 x11 x13).f0) ((rd_T151 x11 x13).f1) ((rd_T151 x11 x13).f2))) else (none)) else (some false))) else (none)) else (none)) else (some true)
def spec_FieldOk.l1 : Nat → List (S151) → List (S151) → Int → Int → List (S151) → Int → Int → ByteArray → Int → Int → Option (Bool)
  | 0, _, _, _, _, _, _, _, _, _, _ => none
  | k + 1, x0, x11, x12, x13, x23, x24, x25, x150000, x150001, x150002 => if x25 < x24 then (if 0 ≤ x25 then (if x25 < (x23.length : Int) then (if ((rd_T151 x23 x25).f0).toList = x150000.toList then (some false) else (if ((rd_T151 x23 x25).f2) = x150002 then (some false) else (spec_FieldOk.l1 k x0 x11 x12 x13 x23 x24 (wrap64 (x25 + 1)) x150000 x150001 x150002))) else (none)) else (none)) else (spec_FieldOk.l0 k x0 x11 x12 (wrap64 (x13 + 1)))
end
def spec_FieldOk.f (k : Nat) (l0 : List (S151)) : Option (Bool) := (spec_l01In.f (l0.length : Int) 2 8).bind fun t147 => (if t147 = true then (spec_FieldOk.l0 k l0 l0 (l0.length : Int) 0) else (some false))
theorem spec_FieldOk.mono_l : ∀ k, (∀ y0 y1 y2 y3, LeO (spec_FieldOk.l0 k y0 y1 y2 y3) (spec_FieldOk.l0 (k + 1) y0 y1 y2 y3)) ∧ (∀ y0 y1 y2 y3 y4 y5 y6 y7 y8 y9, LeO (spec_FieldOk.l1 k y0 y1 y2 y3 y4 y5 y6 y7 y8 y9) (spec_FieldOk.l1 (k + 1) y0 y1 y2 y3 y4 y5 y6 y7 y8 y9))
  | 0 => ⟨fun _ _ _ _ r h => by simp [spec_FieldOk.l0] at h, fun _ _ _ _ _ _ _ _ _ _ r h => by simp [spec_FieldOk.l1] at h⟩
  | k + 1 => by
    obtain ⟨ih0, ih1⟩ := spec_FieldOk.mono_l k
    refine ⟨?_, ?_⟩
    · intro y0 y1 y2 y3
      unfold spec_FieldOk.l0
      repeat' first
      | (with_reducible exact ih0 _ _ _ _)
      | (with_reducible exact ih1 _ _ _ _ _ _ _ _ _ _)
      | (with_reducible exact spec_TeamOk.mono _ _ _ _)
      | (with_reducible exact LeO.refl _)
      | (with_reducible exact LeO.none _)
      | (with_reducible refine LeO.ite ?_ ?_)
      | (with_reducible refine LeO.bind ?_ (fun _ => ?_))
      | exact ih0 _ _ _ _
      | exact ih1 _ _ _ _ _ _ _ _ _ _
      | exact spec_TeamOk.mono _ _ _ _
      | exact LeO.none _
      | refine LeO.ite ?_ ?_
      | refine LeO.bind ?_ (fun _ => ?_)
    · intro y0 y1 y2 y3 y4 y5 y6 y7 y8 y9
      unfold spec_FieldOk.l1
      repeat' first
      | (with_reducible exact ih0 _ _ _ _)
      | (with_reducible exact ih1 _ _ _ _ _ _ _ _ _ _)
      | (with_reducible exact spec_TeamOk.mono _ _ _ _)
      | (with_reducible exact LeO.refl _)
      | (with_reducible exact LeO.none _)
      | (with_reducible refine LeO.ite ?_ ?_)
      | (with_reducible refine LeO.bind ?_ (fun _ => ?_))
      | exact ih0 _ _ _ _
      | exact ih1 _ _ _ _ _ _ _ _ _ _
      | exact spec_TeamOk.mono _ _ _ _
      | exact LeO.none _
      | refine LeO.ite ?_ ?_
      | refine LeO.bind ?_ (fun _ => ?_)
theorem spec_FieldOk.mono : ∀ a0 k, LeO (spec_FieldOk.f k a0) (spec_FieldOk.f (k + 1) a0) := by
  intro a0 k
  obtain ⟨ih0, ih1⟩ := spec_FieldOk.mono_l k
  unfold spec_FieldOk.f
  repeat' first
      | (with_reducible exact ih0 _ _ _ _)
      | (with_reducible exact ih1 _ _ _ _ _ _ _ _ _ _)
      | (with_reducible exact spec_TeamOk.mono _ _ _ _)
      | (with_reducible exact LeO.refl _)
      | (with_reducible exact LeO.none _)
      | (with_reducible refine LeO.ite ?_ ?_)
      | (with_reducible refine LeO.bind ?_ (fun _ => ?_))
      | exact ih0 _ _ _ _
      | exact ih1 _ _ _ _ _ _ _ _ _ _
      | exact spec_TeamOk.mono _ _ _ _
      | exact LeO.none _
      | refine LeO.ite ?_ ?_
      | refine LeO.bind ?_ (fun _ => ?_)
set_option maxHeartbeats 8000000 in
set_option maxRecDepth 100000 in
theorem spec_FieldOk.calls (k : Nat) (A0 : Option Addr) (c0 : Nat) (l0 : List (S151)) (r : Bool) (w : World) (hr0 : Kd.C k151 w A0 l0.length l0) (hc0 : l0.length ≤ c0) (h : spec_FieldOk.f k l0 = some r) :
    Calls Try.prog 119 #[.slice A0 l0.length c0] w fun e w' => e = .returned (.bool r) ∧ Below w.heap.size w w' := by
  have hu151 := Try.underlying151
  have HR0 := Aside0.mk hr0
  have HC0 := Aside0.mk hc0
  clear hr0 hc0
  have HB := Aside0.mk (Below.refl w.heap.size w)
  have H : ((spec_l01In.f (l0.length : Int) 2 8).bind fun t147 => (if t147 = true then (spec_FieldOk.l0 k l0 l0 (l0.length : Int) 0) else (some false))) = some r := h
  clear h
  replace H := Option.bind_eq_some_iff.mp H
  obtain ⟨t147, A20, H⟩ := H
  try dsimp only at H
  have A2 := Aside0.mk A20
  clear A20
  by_cases c3 : t147 = true
  · subst c3
    have H1 : (spec_FieldOk.l0 k l0 l0 (l0.length : Int) 0) = some r := by rw [if_pos rfl] at H; exact H
    clear H
    have H := H1
    clear H1
    have H' := Aside0.mk H
    clear H
    go_enter Try.func119, Try.ntmps119
    go_wp2_with (first | ((with_reducible refine gate_callee (f := 83) rfl ?_); refine goesL_ (some 9) rfl rfl Try.func83 (by kernel_rfl) rfl #[.int .i64 (l0.length : Int), .int .i64 2, .int .i64 8] rfl qM ?_; (with_reducible refine (spec_l01In.calls (l0.length : Int) 2 8 true _ A2.out).mono ?_); rintro e w' ⟨rfl, ⟨nd, rfl⟩⟩; refine ⟨_, rfl, ?_⟩))
    go_loopg [13] k (fun kq v13 w' => ∃ (x13_1 : Int), v13 = .int .i64 x13_1 ∧ Aside0 (spec_FieldOk.l0 kq l0 l0 (l0.length : Int) x13_1 = some r) ∧ Aside0 (kq ≤ k) ∧ Aside0 (Below w.heap.size w w'))
    case atStart => exact ⟨(0), qS, H', ⟨Nat.le_refl _⟩, ⟨qB⟩⟩
    case round =>
      clear H'
      try clear c1
      try clear p2
      try clear c3
      obtain ⟨x13_1, rfl, HA, HK1, HB⟩ := hrel
      cases gk with
      | zero => exact absurd HA.out (by simp [spec_FieldOk.l0])
      | succ k1 =>
        have H := HA.out
        clear HA
        simp only [spec_FieldOk.l0] at H
        by_cases c4 : x13_1 < (l0.length : Int)
        · rw [if_pos c4] at H
          have c4b0 : decide (x13_1 < (l0.length : Int)) = true := decide_eq_true c4
          clear c4
          by_cases c5 : 0 ≤ x13_1
          · rw [if_pos c5] at H
            have c5b0 : decide (0 ≤ x13_1) = true := decide_eq_true c5
            clear c5
            by_cases c6 : x13_1 < (l0.length : Int)
            · rw [if_pos c6] at H
              have c6b0 : decide (x13_1 < (l0.length : Int)) = true := decide_eq_true c6
              clear c6
              replace H := Option.bind_eq_some_iff.mp H
              obtain ⟨t150, A70, H⟩ := H
              try dsimp only at H
              have A7 := Aside0.mk A70
              clear A70
              by_cases c8 : t150 = true
              · subst c8
                have H1 : (if x13_1 ≤ (l0.length : Int) then ((some (l0.take (x13_1 : Int).toNat : List (S151))).bind fun y151 => (spec_FieldOk.l1 k1 l0 l0 (l0.length : Int) x13_1 y151 (y151.length : Int) 0 ((rd_T151 l0 x13_1).f0) ((rd_T151 l0 x13_1).f1) ((rd_T151 l0 x13_1).f2))) else (none)) = some r := by rw [if_pos rfl] at H; exact H
                clear H
                have H := H1
                clear H1
                have c9b0 := eq_true (qD : 0 ≤ x13_1)
                by_cases c10 : x13_1 ≤ (l0.length : Int)
                · rw [if_pos c10] at H
                  have c10b0 := eq_true c10
                  have c10b1 : decide (x13_1 ≤ (l0.length : Int)) = true := decide_eq_true c10
                  clear c10
                  obtain ⟨y151, hy151⟩ : ∃ y_ : List (S151), y_ = (l0.take (x13_1 : Int).toNat) := ⟨_, rfl⟩
                  replace H : (spec_FieldOk.l1 k1 l0 l0 (l0.length : Int) x13_1 y151 (y151.length : Int) 0 ((rd_T151 l0 x13_1).f0) ((rd_T151 l0 x13_1).f1) ((rd_T151 l0 x13_1).f2)) = some r := by first | (rw [hy151]; with_reducible exact H) | (have H2_ := (Option.bind_some _ _).symm.trans H; rw [hy151]; with_reducible exact H2_) | (have H2_ := (Option.bind_some _ _).symm.trans H; with_reducible exact H2_) | with_reducible exact H | (rw [hy151]; exact H) | exact H
                  have Ny151 := Aside0.mk hy151
                  clear hy151
                  have H' := Aside0.mk H
                  clear H
                  have p148 : 0 ≤ (x13_1 : Int) := qD
                  have q148 : x13_1 < (l0.length : Int) := qD
                  obtain ⟨ad148, e148, hx148_0, hx148_1, hx148_2⟩ := at_T151 HR0.out x13_1 p148 q148
                  cases e148
                  replace hx148_0 := (HB.out.cell (World.block_lt_of_cell? w _ hx148_0)).trans hx148_0
                  replace hx148_1 := (HB.out.cell (World.block_lt_of_cell? w _ hx148_1)).trans hx148_1
                  replace hx148_2 := (HB.out.cell (World.block_lt_of_cell? w _ hx148_2)).trans hx148_2
                  replace p148 := eq_true p148
                  replace q148 := eq_true q148
                  go_wp2_with (first | ((with_reducible refine gate_dst (N := 4) rfl ?_); refine box_event ?hg (N := 4) ?hd (cs := #[.string (⟨#[]⟩ : ByteArray), .int .i64 0, .int .i64 0]) (t := 151) ?hr ?_; (case hd => rfl); (case hg => rfl); (case hr => first | (go_simp; done) | (go_simp; rfl)); intro gb149 hg w11 hbox hb; have n0_ := Aside0.mk (below_step qB hb); have n1_ := Aside0.mk (hbox); have n2_ := Aside0.mk ((qG hg : w.heap.size ≤ gb149)); have n3_ := Aside0.mk ((qG hg : w.heap.size ≤ gb149)); clear HB; have HB := n0_; have BK149 := n1_; have GW149 := n2_; have GE149 := n3_; clear n0_ n1_ n2_ n3_; clear hb hbox hg; have ⟨hcz12_0, hcz12_1, hcz12_2⟩ := qc3 BK149.out; have ⟨hfz12_0, hfz12_1, hfz12_2⟩ := qf3 BK149.out) | ((with_reducible refine gate_callee (f := 137) rfl ?_); refine goesL_ (some 19) rfl rfl Try.func137 (by kernel_rfl) rfl #[.agg #[.string ((rd_T151 l0 x13_1).f0), .int .i64 ((rd_T151 l0 x13_1).f1), .int .i64 ((rd_T151 l0 x13_1).f2)]] rfl qM ?_; (with_reducible refine (spec_TeamOk.calls k1 ((rd_T151 l0 x13_1).f0) ((rd_T151 l0 x13_1).f1) ((rd_T151 l0 x13_1).f2) true _ A7.out).mono ?_); rintro e w13 ⟨rfl, hb⟩; refine ⟨_, rfl, ?_⟩; have n0_ := Aside0.mk (blk_below (g := gb149) (o := .cells #[.string ((rd_T151 l0 x13_1).f0), .int .i64 ((rd_T151 l0 x13_1).f1), .int .i64 ((rd_T151 l0 x13_1).f2)] 151 (0, 0)) (by (with_reducible repeat (first | refine blk_drewN ?_ _ | refine blk_drew ?_ | refine blk_alloc ?_ _)); refine blk_put (cs := #[.string ((rd_T151 l0 x13_1).f0), .int .i64 ((rd_T151 l0 x13_1).f1), .int .i64 0]) ?_ 2 _ rfl; refine blk_put (cs := #[.string ((rd_T151 l0 x13_1).f0), .int .i64 0, .int .i64 0]) ?_ 1 _ rfl; refine blk_put (cs := #[.string (⟨#[]⟩ : ByteArray), .int .i64 0, .int .i64 0]) ?_ 0 _ rfl; (with_reducible repeat (first | refine blk_drewN ?_ _ | refine blk_drew ?_ | refine blk_alloc ?_ _)); exact BK149.out) hb); have n1_ := Aside0.mk (below_step qB hb); clear BK149; clear HB; have BK149 := n0_; have HB := n1_; clear n0_ n1_; (try clear hb); (try clear hb2); (try clear hk); (try clear hi); have q14 : (x13_1 : Int) ≤ ((l0.length : Int) : Int) := qD; obtain ⟨i014, hi014, _, hsz14, _⟩ := info_parts info151; have hroom14 : l0.length ≤ c0 := HC0.out; have hC14 : Kd.C k151 _ (some ad148) l0.length l0 := HR0.out; have hcut14 := cut_to (P := Try.prog) 65 151 .i64 Try.underlying65 hi014 (some ad148) l0.length c0 x13_1 (qD) q14 hroom14; have hr14 := Kd.C_take (m := (x13_1 : Int).toNat) hC14 (by omega); have hy14 : y151.length = (x13_1 : Int).toNat := (by rw [Ny151.out, List.length_take]; omega); rw [← Ny151.out] at hr14; rw [← hy14] at hcut14; have HR154 := Aside0.mk hr14; have HC154 := Aside0.mk (show y151.length ≤ c0 from by omega); clear hr14 hC14 hroom14 hi014 hsz14; have KY14 := Aside0.mk hy14; clear hy14; replace q14 := eq_true q14))
                  go_loopg [25] k1 (fun kq v25 w' => ∃ (x25_2 : Int), v25 = .int .i64 x25_2 ∧ Aside0 (spec_FieldOk.l1 kq l0 l0 (l0.length : Int) x13_1 y151 (y151.length : Int) x25_2 ((rd_T151 l0 x13_1).f0) ((rd_T151 l0 x13_1).f1) ((rd_T151 l0 x13_1).f2) = some r) ∧ Aside0 (kq ≤ k1) ∧ Aside0 (w'.heap[gb149]? = some (.cells #[.string ((rd_T151 l0 x13_1).f0), .int .i64 ((rd_T151 l0 x13_1).f1), .int .i64 ((rd_T151 l0 x13_1).f2)] 151 (0, 0))) ∧ Aside0 (Below w.heap.size w w'))
                  case atStart => exact ⟨(0), qS, H', ⟨Nat.le_refl _⟩, ⟨qK BK149.out⟩, ⟨qB⟩⟩
                  case round =>
                    clear H'
                    try clear c1
                    try clear p1
                    try clear q1
                    try clear hx1
                    try clear p2
                    try clear c3
                    try clear c4
                    try clear c4b0
                    try clear c5
                    try clear c5b0
                    try clear c6
                    try clear c6b0
                    try clear c8
                    try clear c9
                    try clear c9b0
                    try clear c10
                    try clear c10b0
                    try clear c10b1
                    try clear c11
                    try clear c13
                    try clear p14
                    try clear q14
                    try clear hx14
                    try clear hcz12_0
                    try clear hcz12_1
                    try clear hcz12_2
                    try clear hfz12_0
                    try clear hfz12_1
                    try clear hfz12_2
                    try clear hx148_0
                    try clear hx148_1
                    try clear hx148_2
                    try clear p148
                    try clear p2
                    try clear q14
                    try clear q148
                    obtain ⟨x25_2, rfl, HA, HK2, BK149, HB⟩ := hrel
                    cases gk with
                    | zero => exact absurd HA.out (by simp [spec_FieldOk.l1])
                    | succ k2 =>
                      have H := HA.out
                      clear HA
                      simp only [spec_FieldOk.l1] at H
                      by_cases c15 : x25_2 < (y151.length : Int)
                      · rw [if_pos c15] at H
                        have c15b0 : decide (x25_2 < (y151.length : Int)) = true := decide_eq_true c15
                        clear c15
                        by_cases c16 : 0 ≤ x25_2
                        · rw [if_pos c16] at H
                          have c16b0 : decide (0 ≤ x25_2) = true := decide_eq_true c16
                          clear c16
                          by_cases c17 : x25_2 < (y151.length : Int)
                          · rw [if_pos c17] at H
                            have c17b0 : decide (x25_2 < (y151.length : Int)) = true := decide_eq_true c17
                            clear c17
                            by_cases c18 : ((rd_T151 y151 x25_2).f0).toList = ((rd_T151 l0 x13_1).f0).toList
                            · rw [if_pos c18] at H
                              have c18b0 : (((rd_T151 y151 x25_2).f0).toList == ((rd_T151 l0 x13_1).f0).toList) = true := beq_iff_eq.mpr c18
                              have c18b1 : (((rd_T151 y151 x25_2).f0).toList != ((rd_T151 l0 x13_1).f0).toList) = false := bne_eq_false_iff_eq.mpr c18
                              clear c18
                              obtain rfl := Option.some.inj H
                              have p155 : 0 ≤ (x25_2 : Int) := qD
                              have q155 : x25_2 < (y151.length : Int) := qD
                              obtain ⟨ad155, e155, hx155_0, hx155_1, hx155_2⟩ := at_T151 HR154.out x25_2 p155 q155
                              obtain rfl : ad148 = ad155 := (by injection e155)
                              replace hx155_0 := (HB.out.cell (World.block_lt_of_cell? w _ hx155_0)).trans hx155_0
                              replace hx155_1 := (HB.out.cell (World.block_lt_of_cell? w _ hx155_1)).trans hx155_1
                              replace hx155_2 := (HB.out.cell (World.block_lt_of_cell? w _ hx155_2)).trans hx155_2
                              replace p155 := eq_true p155
                              replace q155 := eq_true q155
                              go_wp2_with (first | ((with_reducible refine gate_dst (N := 6) rfl ?_); refine box_event ?hg (N := 6) ?hd (cs := #[.string (⟨#[]⟩ : ByteArray), .int .i64 0, .int .i64 0]) (t := 151) ?hr ?_; (case hd => rfl); (case hg => rfl); (case hr => first | (go_simp; done) | (go_simp; rfl)); intro gb156 hg w19 hbox hb; have n0_ := Aside0.mk (qL BK149.out hb); have n1_ := Aside0.mk (below_step qB hb); have n2_ := Aside0.mk (hbox); have n3_ := Aside0.mk ((qG hg : w.heap.size ≤ gb156)); have n4_ := Aside0.mk ((qG hg : w.heap.size ≤ gb156)); have n5_ := Aside0.mk ((qN hg BK149.out : gb149 ≠ gb156)); have n6_ := Aside0.mk ((qO hg BK149.out : gb156 ≠ gb149)); clear BK149; clear HB; have BK149 := n0_; have HB := n1_; have BK156 := n2_; have GW156 := n3_; have GE156 := n4_; have NB149_156 := n5_; have NB156_149 := n6_; clear n0_ n1_ n2_ n3_ n4_ n5_ n6_; clear hb hbox hg; have hnb20 := NB156_149.out; have hnc20 := NB149_156.out; have ⟨hcz21_0, hcz21_1, hcz21_2⟩ := qc3 BK156.out; have ⟨hfz21_0, hfz21_1, hfz21_2⟩ := qf3 BK156.out; have ⟨hcz22_0, hcz22_1, hcz22_2⟩ := qc3 BK149.out; have ⟨hfz22_0, hfz22_1, hfz22_2⟩ := qf3 BK149.out))
                              go_ret
                              exact ⟨by first | rfl | (simp [errW_none, errW_some] <;> rfl) | (simp [*, errW_none, errW_some] <;> rfl), qB⟩
                            · rw [if_neg c18] at H
                              have c18b0 : (((rd_T151 y151 x25_2).f0).toList == ((rd_T151 l0 x13_1).f0).toList) = false := beq_eq_false_iff_ne.mpr c18
                              have c18b1 : (((rd_T151 y151 x25_2).f0).toList != ((rd_T151 l0 x13_1).f0).toList) = true := bne_iff_ne.mpr c18
                              by_cases c23 : ((rd_T151 y151 x25_2).f2) = ((rd_T151 l0 x13_1).f2)
                              · rw [if_pos c23] at H
                                have c23b0 : (((rd_T151 y151 x25_2).f2) == ((rd_T151 l0 x13_1).f2)) = true := beq_iff_eq.mpr c23
                                have c23b1 : (((rd_T151 y151 x25_2).f2) != ((rd_T151 l0 x13_1).f2)) = false := bne_eq_false_iff_eq.mpr c23
                                clear c23
                                obtain rfl := Option.some.inj H
                                have p155 : 0 ≤ (x25_2 : Int) := qD
                                have q155 : x25_2 < (y151.length : Int) := qD
                                obtain ⟨ad155, e155, hx155_0, hx155_1, hx155_2⟩ := at_T151 HR154.out x25_2 p155 q155
                                obtain rfl : ad148 = ad155 := (by injection e155)
                                replace hx155_0 := (HB.out.cell (World.block_lt_of_cell? w _ hx155_0)).trans hx155_0
                                replace hx155_1 := (HB.out.cell (World.block_lt_of_cell? w _ hx155_1)).trans hx155_1
                                replace hx155_2 := (HB.out.cell (World.block_lt_of_cell? w _ hx155_2)).trans hx155_2
                                replace p155 := eq_true p155
                                replace q155 := eq_true q155
                                go_wp2_with (first | ((with_reducible refine gate_dst (N := 6) rfl ?_); refine box_event ?hg (N := 6) ?hd (cs := #[.string (⟨#[]⟩ : ByteArray), .int .i64 0, .int .i64 0]) (t := 151) ?hr ?_; (case hd => rfl); (case hg => rfl); (case hr => first | (go_simp; done) | (go_simp; rfl)); intro gb156 hg w24 hbox hb; have n0_ := Aside0.mk (qL BK149.out hb); have n1_ := Aside0.mk (below_step qB hb); have n2_ := Aside0.mk (hbox); have n3_ := Aside0.mk ((qG hg : w.heap.size ≤ gb156)); have n4_ := Aside0.mk ((qG hg : w.heap.size ≤ gb156)); have n5_ := Aside0.mk ((qN hg BK149.out : gb149 ≠ gb156)); have n6_ := Aside0.mk ((qO hg BK149.out : gb156 ≠ gb149)); clear BK149; clear HB; have BK149 := n0_; have HB := n1_; have BK156 := n2_; have GW156 := n3_; have GE156 := n4_; have NB149_156 := n5_; have NB156_149 := n6_; clear n0_ n1_ n2_ n3_ n4_ n5_ n6_; clear hb hbox hg; have hnb25 := NB156_149.out; have hnc25 := NB149_156.out; have ⟨hcz26_0, hcz26_1, hcz26_2⟩ := qc3 BK156.out; have ⟨hfz26_0, hfz26_1, hfz26_2⟩ := qf3 BK156.out; have ⟨hcz27_0, hcz27_1, hcz27_2⟩ := qc3 BK149.out; have ⟨hfz27_0, hfz27_1, hfz27_2⟩ := qf3 BK149.out))
                                go_ret
                                exact ⟨by first | rfl | (simp [errW_none, errW_some] <;> rfl) | (simp [*, errW_none, errW_some] <;> rfl), qB⟩
                              · rw [if_neg c23] at H
                                have c23b0 : (((rd_T151 y151 x25_2).f2) == ((rd_T151 l0 x13_1).f2)) = false := beq_eq_false_iff_ne.mpr c23
                                have c23b1 : (((rd_T151 y151 x25_2).f2) != ((rd_T151 l0 x13_1).f2)) = true := bne_iff_ne.mpr c23
                                have H' := Aside0.mk H
                                clear H
                                have p155 : 0 ≤ (x25_2 : Int) := qD
                                have q155 : x25_2 < (y151.length : Int) := qD
                                obtain ⟨ad155, e155, hx155_0, hx155_1, hx155_2⟩ := at_T151 HR154.out x25_2 p155 q155
                                obtain rfl : ad148 = ad155 := (by injection e155)
                                replace hx155_0 := (HB.out.cell (World.block_lt_of_cell? w _ hx155_0)).trans hx155_0
                                replace hx155_1 := (HB.out.cell (World.block_lt_of_cell? w _ hx155_1)).trans hx155_1
                                replace hx155_2 := (HB.out.cell (World.block_lt_of_cell? w _ hx155_2)).trans hx155_2
                                replace p155 := eq_true p155
                                replace q155 := eq_true q155
                                go_wp2_with (first | ((with_reducible refine gate_dst (N := 6) rfl ?_); refine box_event ?hg (N := 6) ?hd (cs := #[.string (⟨#[]⟩ : ByteArray), .int .i64 0, .int .i64 0]) (t := 151) ?hr ?_; (case hd => rfl); (case hg => rfl); (case hr => first | (go_simp; done) | (go_simp; rfl)); intro gb156 hg w28 hbox hb; have n0_ := Aside0.mk (qL BK149.out hb); have n1_ := Aside0.mk (below_step qB hb); have n2_ := Aside0.mk (hbox); have n3_ := Aside0.mk ((qG hg : w.heap.size ≤ gb156)); have n4_ := Aside0.mk ((qG hg : w.heap.size ≤ gb156)); have n5_ := Aside0.mk ((qN hg BK149.out : gb149 ≠ gb156)); have n6_ := Aside0.mk ((qO hg BK149.out : gb156 ≠ gb149)); clear BK149; clear HB; have BK149 := n0_; have HB := n1_; have BK156 := n2_; have GW156 := n3_; have GE156 := n4_; have NB149_156 := n5_; have NB156_149 := n6_; clear n0_ n1_ n2_ n3_ n4_ n5_ n6_; clear hb hbox hg; have hnb29 := NB156_149.out; have hnc29 := NB149_156.out; have ⟨hcz30_0, hcz30_1, hcz30_2⟩ := qc3 BK156.out; have ⟨hfz30_0, hfz30_1, hfz30_2⟩ := qf3 BK156.out; have ⟨hcz31_0, hcz31_1, hcz31_2⟩ := qc3 BK149.out; have ⟨hfz31_0, hfz31_1, hfz31_2⟩ := qf3 BK149.out))
                                go_roundg k2
                                case measure => have := HK1.out; have := HK2.out; omega
                                case rel => exact ⟨(wrap64 (x25_2 + 1)), qS, H', ⟨by have := HK1.out; have := HK2.out; omega⟩, ⟨qK BK149.out⟩, ⟨qB⟩⟩
                          · rw [if_neg c17] at H
                            exact absurd H (by simp)
                        · rw [if_neg c16] at H
                          exact absurd H (by simp)
                      · rw [if_neg c15] at H
                        have c15b0 : decide (x25_2 < (y151.length : Int)) = false := decide_eq_false c15
                        clear c15
                        have H' := Aside0.mk H
                        clear H
                        go_wp2
                        go_roundg k2
                        case measure => have := HK1.out; have := HK2.out; omega
                        case rel => exact ⟨(wrap64 (x13_1 + 1)), qS, H', ⟨by have := HK1.out; have := HK2.out; omega⟩, ⟨qB⟩⟩
                · rw [if_neg c10] at H
                  exact absurd H (by simp)
              · replace c8 := Bool.eq_false_iff.mpr c8
                subst c8
                have H1 : (some false) = some r := by rw [if_neg (show ¬ (false = true) by decide)] at H; exact H
                clear H
                have H := H1
                clear H1
                obtain rfl := Option.some.inj H
                have p148 : 0 ≤ (x13_1 : Int) := qD
                have q148 : x13_1 < (l0.length : Int) := qD
                obtain ⟨ad148, e148, hx148_0, hx148_1, hx148_2⟩ := at_T151 HR0.out x13_1 p148 q148
                cases e148
                replace hx148_0 := (HB.out.cell (World.block_lt_of_cell? w _ hx148_0)).trans hx148_0
                replace hx148_1 := (HB.out.cell (World.block_lt_of_cell? w _ hx148_1)).trans hx148_1
                replace hx148_2 := (HB.out.cell (World.block_lt_of_cell? w _ hx148_2)).trans hx148_2
                replace p148 := eq_true p148
                replace q148 := eq_true q148
                go_wp2_with (first | ((with_reducible refine gate_dst (N := 4) rfl ?_); refine box_event ?hg (N := 4) ?hd (cs := #[.string (⟨#[]⟩ : ByteArray), .int .i64 0, .int .i64 0]) (t := 151) ?hr ?_; (case hd => rfl); (case hg => rfl); (case hr => first | (go_simp; done) | (go_simp; rfl)); intro gb149 hg w32 hbox hb; have n0_ := Aside0.mk (below_step qB hb); have n1_ := Aside0.mk (hbox); have n2_ := Aside0.mk ((qG hg : w.heap.size ≤ gb149)); have n3_ := Aside0.mk ((qG hg : w.heap.size ≤ gb149)); clear HB; have HB := n0_; have BK149 := n1_; have GW149 := n2_; have GE149 := n3_; clear n0_ n1_ n2_ n3_; clear hb hbox hg; have ⟨hcz33_0, hcz33_1, hcz33_2⟩ := qc3 BK149.out; have ⟨hfz33_0, hfz33_1, hfz33_2⟩ := qf3 BK149.out) | ((with_reducible refine gate_callee (f := 137) rfl ?_); refine goesL_ (some 19) rfl rfl Try.func137 (by kernel_rfl) rfl #[.agg #[.string ((rd_T151 l0 x13_1).f0), .int .i64 ((rd_T151 l0 x13_1).f1), .int .i64 ((rd_T151 l0 x13_1).f2)]] rfl qM ?_; (with_reducible refine (spec_TeamOk.calls k1 ((rd_T151 l0 x13_1).f0) ((rd_T151 l0 x13_1).f1) ((rd_T151 l0 x13_1).f2) false _ A7.out).mono ?_); rintro e w34 ⟨rfl, hb⟩; refine ⟨_, rfl, ?_⟩; have n0_ := Aside0.mk (blk_below (g := gb149) (o := .cells #[.string ((rd_T151 l0 x13_1).f0), .int .i64 ((rd_T151 l0 x13_1).f1), .int .i64 ((rd_T151 l0 x13_1).f2)] 151 (0, 0)) (by (with_reducible repeat (first | refine blk_drewN ?_ _ | refine blk_drew ?_ | refine blk_alloc ?_ _)); refine blk_put (cs := #[.string ((rd_T151 l0 x13_1).f0), .int .i64 ((rd_T151 l0 x13_1).f1), .int .i64 0]) ?_ 2 _ rfl; refine blk_put (cs := #[.string ((rd_T151 l0 x13_1).f0), .int .i64 0, .int .i64 0]) ?_ 1 _ rfl; refine blk_put (cs := #[.string (⟨#[]⟩ : ByteArray), .int .i64 0, .int .i64 0]) ?_ 0 _ rfl; (with_reducible repeat (first | refine blk_drewN ?_ _ | refine blk_drew ?_ | refine blk_alloc ?_ _)); exact BK149.out) hb); have n1_ := Aside0.mk (below_step qB hb); clear BK149; clear HB; have BK149 := n0_; have HB := n1_; clear n0_ n1_; (try clear hb); (try clear hb2); (try clear hk); (try clear hi)))
                go_ret
                exact ⟨by first | rfl | (simp [errW_none, errW_some] <;> rfl) | (simp [*, errW_none, errW_some] <;> rfl), qB⟩
            · rw [if_neg c6] at H
              exact absurd H (by simp)
          · rw [if_neg c5] at H
            exact absurd H (by simp)
        · rw [if_neg c4] at H
          have c4b0 : decide (x13_1 < (l0.length : Int)) = false := decide_eq_false c4
          clear c4
          obtain rfl := Option.some.inj H
          go_wp2
          go_ret
          exact ⟨by first | rfl | (simp [errW_none, errW_some] <;> rfl) | (simp [*, errW_none, errW_some] <;> rfl), qB⟩
  · replace c3 := Bool.eq_false_iff.mpr c3
    subst c3
    have H1 : (some false) = some r := by rw [if_neg (show ¬ (false = true) by decide)] at H; exact H
    clear H
    have H := H1
    clear H1
    obtain rfl := Option.some.inj H
    go_enter Try.func119, Try.ntmps119
    go_wp2_with (first | ((with_reducible refine gate_callee (f := 83) rfl ?_); refine goesL_ (some 9) rfl rfl Try.func83 (by kernel_rfl) rfl #[.int .i64 (l0.length : Int), .int .i64 2, .int .i64 8] rfl qM ?_; (with_reducible refine (spec_l01In.calls (l0.length : Int) 2 8 false _ A2.out).mono ?_); rintro e w' ⟨rfl, ⟨nd, rfl⟩⟩; refine ⟨_, rfl, ?_⟩))
    go_ret
    exact ⟨by first | rfl | (simp [errW_none, errW_some] <;> rfl) | (simp [*, errW_none, errW_some] <;> rfl), qB⟩

end Go.Proofs.Ytikfdjgigeggjaa.MFnExactKeyValue
