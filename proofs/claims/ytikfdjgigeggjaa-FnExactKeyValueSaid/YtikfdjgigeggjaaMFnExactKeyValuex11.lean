/- The functions that FnExactKeyValue reaches, each with its contract: the print's form, by wip/tools/myprint.py; no condition of its own. -/
import Derived.Test.YtikfdjgigeggjaaMFnExactKeyValuex0
import Derived.Test.YtikfdjgigeggjaaMFnExactKeyValuex10
namespace Go.Proofs.Ytikfdjgigeggjaa.MFnExactKeyValue
open Go.RowKit Go.Proofs.YtikfdjgigeggjaaW.PrintWords Go.Proofs.YtikfdjgigeggjaaW.PrintLast Go.Proofs.YtikfdjgigeggjaaW.PrintMore
attribute [local go_sem] max2_int min2_int max_two min_two max_three min_three max_four min_four   -- for this text's walks alone
set_option linter.unusedVariables false
set_option linter.unusedSimpArgs false

/-! ### impl_RulesOk: function 11 -/
def impl_RulesOk.l0 : Nat → List Int → Int → Int → Int → Int → Int → List Int → Bool → Option (Bool)
  | 0, _, _, _, _, _, _, _, _ => none
  | k + 1, x6, x7, x8, x285000, x285001, x285002, x285003, x285004 => if x8 < x7 then (if 0 ≤ x8 then (if x8 < (x6.length : Int) then ((impl_isKey.f (rd x6 x8)).bind fun t287 => (if t287 = true then (if x8 ≤ (x285003.length : Int) then ((slices_Contains_int_int.f k (x285003.take (x8 : Int).toNat) (rd x6 x8)).bind fun t289 => (if t289 = true then (some false) else (impl_RulesOk.l0 k x6 x7 (wrap64 (x8 + 1)) x285000 x285001 x285002 x285003 x285004))) else (none)) else (some false))) else (none)) else (none)) else (if 0 ≤ x285002 then (if x285002 ≤ x285001 then (if x285001 ≤ x285000 then (if x285000 ≤ 10 then ((impl_within.f (x285003.length : Int) 1 8).bind fun t285 => (some t285)) else (some false)) else (some false)) else (some false)) else (some false))
def impl_RulesOk.f (k : Nat) (a0_0 : Int) (a0_1 : Int) (a0_2 : Int) (l0_3 : List Int) (a0_4 : Bool) : Option (Bool) := impl_RulesOk.l0 k l0_3 (l0_3.length : Int) 0 a0_0 a0_1 a0_2 l0_3 a0_4
theorem impl_RulesOk.mono_l : ∀ k, (∀ y0 y1 y2 y3 y4 y5 y6 y7, LeO (impl_RulesOk.l0 k y0 y1 y2 y3 y4 y5 y6 y7) (impl_RulesOk.l0 (k + 1) y0 y1 y2 y3 y4 y5 y6 y7))
  | 0 => fun _ _ _ _ _ _ _ _ r h => by simp [impl_RulesOk.l0] at h
  | k + 1 => by
    have ih0 := impl_RulesOk.mono_l k
    · intro y0 y1 y2 y3 y4 y5 y6 y7
      unfold impl_RulesOk.l0
      repeat' first
      | (with_reducible exact ih0 _ _ _ _ _ _ _ _)
      | (with_reducible exact slices_Contains_int_int.mono _ _ _)
      | (with_reducible exact LeO.refl _)
      | (with_reducible exact LeO.none _)
      | (with_reducible refine LeO.ite ?_ ?_)
      | (with_reducible refine LeO.bind ?_ (fun _ => ?_))
      | exact ih0 _ _ _ _ _ _ _ _
      | exact slices_Contains_int_int.mono _ _ _
      | exact LeO.none _
      | refine LeO.ite ?_ ?_
      | refine LeO.bind ?_ (fun _ => ?_)
theorem impl_RulesOk.mono : ∀ a0 a1 a2 a3 a4 k, LeO (impl_RulesOk.f k a0 a1 a2 a3 a4) (impl_RulesOk.f (k + 1) a0 a1 a2 a3 a4) := by
  intro a0 a1 a2 a3 a4 k
  have ih0 := impl_RulesOk.mono_l k
  unfold impl_RulesOk.f
  repeat' first
      | (with_reducible exact ih0 _ _ _ _ _ _ _ _)
      | (with_reducible exact slices_Contains_int_int.mono _ _ _)
      | (with_reducible exact LeO.refl _)
      | (with_reducible exact LeO.none _)
      | (with_reducible refine LeO.ite ?_ ?_)
      | (with_reducible refine LeO.bind ?_ (fun _ => ?_))
      | exact ih0 _ _ _ _ _ _ _ _
      | exact slices_Contains_int_int.mono _ _ _
      | exact LeO.none _
      | refine LeO.ite ?_ ?_
      | refine LeO.bind ?_ (fun _ => ?_)
set_option maxHeartbeats 8000000 in
set_option maxRecDepth 100000 in
theorem impl_RulesOk.calls (k : Nat) (a0_0 : Int) (a0_1 : Int) (a0_2 : Int) (A0_3 : Option Addr) (c0_3 : Nat) (l0_3 : List Int) (a0_4 : Bool) (r : Bool) (w : World) (hr0_3 : Kd.C (Kd.int .i64) w A0_3 l0_3.length l0_3) (hc0_3 : l0_3.length ≤ c0_3) (h : impl_RulesOk.f k a0_0 a0_1 a0_2 l0_3 a0_4 = some r) :
    Calls Try.prog 11 #[.agg #[.int .i64 a0_0, .int .i64 a0_1, .int .i64 a0_2, .slice A0_3 l0_3.length c0_3, .bool a0_4]] w fun e w' => e = .returned (.bool r) ∧ Below w.heap.size w w' := by
  have hu25 := Try.underlying25
  have HR0_3 := Aside0.mk hr0_3
  have HC0_3 := Aside0.mk hc0_3
  clear hr0_3 hc0_3
  have HB := Aside0.mk (Below.refl w.heap.size w)
  have H : (impl_RulesOk.l0 k l0_3 (l0_3.length : Int) 0 a0_0 a0_1 a0_2 l0_3 a0_4) = some r := h
  clear h
  have H' := Aside0.mk H
  clear H
  go_enter Try.func11, Try.ntmps11
  go_wp2_with (first | ((with_reducible refine gate_dst (N := 1) rfl ?_); (try (refine gate_guard (by rfl) ?_; dsimp only)); refine box_event ?hg (N := 1) ?hd (cs := #[.int .i64 a0_0, .int .i64 a0_1, .int .i64 a0_2, .slice A0_3 l0_3.length c0_3, .bool a0_4]) (t := 25) ?hr ?_; (case hd => rfl); (case hg => rfl); (case hr => first | (go_simp; done) | (go_simp; rfl)); intro gb284 hg w2 hbox hb; have n0_ := Aside0.mk (below_step qB hb); have n1_ := Aside0.mk (hbox); have n2_ := Aside0.mk ((qG hg : w.heap.size ≤ gb284)); have n3_ := Aside0.mk ((qG hg : w.heap.size ≤ gb284)); clear HB; have HB := n0_; have BK284 := n1_; have GW284 := n2_; have GE284 := n3_; clear n0_ n1_ n2_ n3_; clear hb hbox hg; have ⟨hcz3_0, hcz3_1, hcz3_2, hcz3_3, hcz3_4⟩ := qc5 BK284.out; have ⟨hfz3_0, hfz3_1, hfz3_2, hfz3_3, hfz3_4⟩ := qf5 BK284.out))
  go_loopg [8] k (fun kq v8 w' => ∃ (x8_1 : Int), v8 = .int .i64 x8_1 ∧ Aside0 (impl_RulesOk.l0 kq l0_3 (l0_3.length : Int) x8_1 a0_0 a0_1 a0_2 l0_3 a0_4 = some r) ∧ Aside0 (kq ≤ k) ∧ Aside0 (w'.heap[gb284]? = some (.cells #[.int .i64 a0_0, .int .i64 a0_1, .int .i64 a0_2, (.slice A0_3 l0_3.length c0_3), .bool a0_4] 25 (0, 0))) ∧ Aside0 (Below w.heap.size w w'))
  case atStart => exact ⟨(0), qS, H', ⟨Nat.le_refl _⟩, ⟨qK BK284.out⟩, ⟨qB⟩⟩
  case round =>
    clear H'
    try clear c1
    try clear p2
    try clear hcz3_0
    try clear hcz3_1
    try clear hcz3_2
    try clear hcz3_3
    try clear hcz3_4
    try clear hfz3_0
    try clear hfz3_1
    try clear hfz3_2
    try clear hfz3_3
    try clear hfz3_4
    obtain ⟨x8_1, rfl, HA, HK1, BK284, HB⟩ := hrel
    cases gk with
    | zero => exact absurd HA.out (by simp [impl_RulesOk.l0])
    | succ k1 =>
      have H := HA.out
      clear HA
      simp only [impl_RulesOk.l0] at H
      by_cases c4 : x8_1 < (l0_3.length : Int)
      · rw [if_pos c4] at H
        have c4b0 : decide (x8_1 < (l0_3.length : Int)) = true := decide_eq_true c4
        clear c4
        by_cases c5 : 0 ≤ x8_1
        · rw [if_pos c5] at H
          have c5b0 : decide (0 ≤ x8_1) = true := decide_eq_true c5
          clear c5
          by_cases c6 : x8_1 < (l0_3.length : Int)
          · rw [if_pos c6] at H
            have c6b0 : decide (x8_1 < (l0_3.length : Int)) = true := decide_eq_true c6
            clear c6
            replace H := Option.bind_eq_some_iff.mp H
            obtain ⟨t287, A70, H⟩ := H
            try dsimp only at H
            have A7 := Aside0.mk A70
            clear A70
            by_cases c8 : t287 = true
            · subst c8
              have H1 : (if x8_1 ≤ (l0_3.length : Int) then ((slices_Contains_int_int.f k1 (l0_3.take (x8_1 : Int).toNat) (rd l0_3 x8_1)).bind fun t289 => (if t289 = true then (some false) else (impl_RulesOk.l0 k1 l0_3 (l0_3.length : Int) (wrap64 (x8_1 + 1)) a0_0 a0_1 a0_2 l0_3 a0_4))) else (none)) = some r := by rw [if_pos rfl] at H; exact H
              clear H
              have H := H1
              clear H1
              have c9b0 := eq_true (qD : 0 ≤ x8_1)
              by_cases c10 : x8_1 ≤ (l0_3.length : Int)
              · rw [if_pos c10] at H
                have c10b0 := eq_true c10
                have c10b1 : decide (x8_1 ≤ (l0_3.length : Int)) = true := decide_eq_true c10
                clear c10
                replace H := Option.bind_eq_some_iff.mp H
                obtain ⟨t289, A110, H⟩ := H
                try dsimp only at H
                have A11 := Aside0.mk A110
                clear A110
                by_cases c12 : t289 = true
                · subst c12
                  have H1 : (some false) = some r := by rw [if_pos rfl] at H; exact H
                  clear H
                  have H := H1
                  clear H1
                  obtain rfl := Option.some.inj H
                  have p286 : 0 ≤ (x8_1 : Int) := qD
                  have q286 : x8_1 < (l0_3.length : Int) := qD
                  obtain ⟨ad286, e286, hx286_0⟩ := Kd.at_int HR0_3.out x8_1 p286 q286
                  cases e286
                  replace hx286_0 := (HB.out.cell (World.block_lt_of_cell? w _ hx286_0)).trans hx286_0
                  replace p286 := eq_true p286
                  replace q286 := eq_true q286
                  go_wp2_with (first | ((with_reducible refine gate_callee (f := 60) rfl ?_); refine goesL_ (some 14) rfl rfl Try.func60 (by kernel_rfl) rfl #[.int .i64 (rd l0_3 x8_1)] rfl qM ?_; (with_reducible refine (impl_isKey.calls (rd l0_3 x8_1) true _ A7.out).mono ?_); rintro e w' ⟨rfl, ⟨nd, rfl⟩⟩; refine ⟨_, rfl, ?_⟩; have ⟨hcz13_0, hcz13_1, hcz13_2, hcz13_3, hcz13_4⟩ := qc5 BK284.out; have ⟨hfz13_0, hfz13_1, hfz13_2, hfz13_3, hfz13_4⟩ := qf5 BK284.out; obtain ⟨i014, hi014, _, hsz14, _⟩ := info_parts info3; obtain ⟨hcut14, hA14, hC14⟩ := print_take_of (P := Try.prog) (Value.int .i64) 0 23 3 .i64 Try.underlying23 hi014 hsz14 (some ad286) c0_3 l0_3 x8_1 (qD) (qD) HC0_3.out; have HR288 := Aside0.mk (Kd.C_of_reads (h1 := fun _ => rfl) (hA14 _ (Kd.reads_of_C HR0_3.out))); have HC288 := Aside0.mk hC14; clear hA14 hC14 hi014 hsz14) | (go_at_call 61; refine calls_of_args (args' := #[.slice (some ad286) (l0_3.take (x8_1 : Int).toNat).length c0_3, .int .i64 (rd l0_3 x8_1)]) (by first | rfl | (rw [show (l0_3.take (x8_1 : Int).toNat).length = (x8_1 : Int).toNat from by rw [List.length_take]; have h_ := of_decide_eq_true (p := x8_1 ≤ (l0_3.length : Int)) (by first | (with_reducible assumption) | assumption); omega]) | rfl) ?_; (with_reducible refine (slices_Contains_int_int.calls k1 _ _ (l0_3.take (x8_1 : Int).toNat) (rd l0_3 x8_1) true _ ?side1 ?side2 A11.out).mono ?_); (case side1 => repeat (first | exact (Kd.C_below HR288.out qB) | (with_reducible refine Kd.C_alloc ?_ _) | (with_reducible refine Kd.C_drewN ?_ _) | (with_reducible refine Kd.C_drew ?_))); (case side2 => exact HC288.out); rintro e w' ⟨rfl, ⟨nd, rfl⟩⟩))
                  go_ret
                  exact ⟨by first | rfl | (simp [errW_none, errW_some] <;> rfl) | (simp [*, errW_none, errW_some] <;> rfl), qB⟩
                · replace c12 := Bool.eq_false_iff.mpr c12
                  subst c12
                  have H1 : (impl_RulesOk.l0 k1 l0_3 (l0_3.length : Int) (wrap64 (x8_1 + 1)) a0_0 a0_1 a0_2 l0_3 a0_4) = some r := by rw [if_neg (show ¬ (false = true) by decide)] at H; exact H
                  clear H
                  have H := H1
                  clear H1
                  have H' := Aside0.mk H
                  clear H
                  have p286 : 0 ≤ (x8_1 : Int) := qD
                  have q286 : x8_1 < (l0_3.length : Int) := qD
                  obtain ⟨ad286, e286, hx286_0⟩ := Kd.at_int HR0_3.out x8_1 p286 q286
                  cases e286
                  replace hx286_0 := (HB.out.cell (World.block_lt_of_cell? w _ hx286_0)).trans hx286_0
                  replace p286 := eq_true p286
                  replace q286 := eq_true q286
                  go_wp2_with (first | ((with_reducible refine gate_callee (f := 60) rfl ?_); refine goesL_ (some 14) rfl rfl Try.func60 (by kernel_rfl) rfl #[.int .i64 (rd l0_3 x8_1)] rfl qM ?_; (with_reducible refine (impl_isKey.calls (rd l0_3 x8_1) true _ A7.out).mono ?_); rintro e w' ⟨rfl, ⟨nd, rfl⟩⟩; refine ⟨_, rfl, ?_⟩; have ⟨hcz15_0, hcz15_1, hcz15_2, hcz15_3, hcz15_4⟩ := qc5 BK284.out; have ⟨hfz15_0, hfz15_1, hfz15_2, hfz15_3, hfz15_4⟩ := qf5 BK284.out; obtain ⟨i016, hi016, _, hsz16, _⟩ := info_parts info3; obtain ⟨hcut16, hA16, hC16⟩ := print_take_of (P := Try.prog) (Value.int .i64) 0 23 3 .i64 Try.underlying23 hi016 hsz16 (some ad286) c0_3 l0_3 x8_1 (qD) (qD) HC0_3.out; have HR288 := Aside0.mk (Kd.C_of_reads (h1 := fun _ => rfl) (hA16 _ (Kd.reads_of_C HR0_3.out))); have HC288 := Aside0.mk hC16; clear hA16 hC16 hi016 hsz16) | (go_at_call 61; refine calls_of_args (args' := #[.slice (some ad286) (l0_3.take (x8_1 : Int).toNat).length c0_3, .int .i64 (rd l0_3 x8_1)]) (by first | rfl | (rw [show (l0_3.take (x8_1 : Int).toNat).length = (x8_1 : Int).toNat from by rw [List.length_take]; have h_ := of_decide_eq_true (p := x8_1 ≤ (l0_3.length : Int)) (by first | (with_reducible assumption) | assumption); omega]) | rfl) ?_; (with_reducible refine (slices_Contains_int_int.calls k1 _ _ (l0_3.take (x8_1 : Int).toNat) (rd l0_3 x8_1) false _ ?side1 ?side2 A11.out).mono ?_); (case side1 => repeat (first | exact (Kd.C_below HR288.out qB) | (with_reducible refine Kd.C_alloc ?_ _) | (with_reducible refine Kd.C_drewN ?_ _) | (with_reducible refine Kd.C_drew ?_))); (case side2 => exact HC288.out); rintro e w' ⟨rfl, ⟨nd, rfl⟩⟩))
                  go_roundg k1
                  case measure => have := HK1.out; omega
                  case rel => exact ⟨(wrap64 (x8_1 + 1)), qS, H', ⟨by have := HK1.out; omega⟩, ⟨qK BK284.out⟩, ⟨qB⟩⟩
              · rw [if_neg c10] at H
                exact absurd H (by simp)
            · replace c8 := Bool.eq_false_iff.mpr c8
              subst c8
              have H1 : (some false) = some r := by rw [if_neg (show ¬ (false = true) by decide)] at H; exact H
              clear H
              have H := H1
              clear H1
              obtain rfl := Option.some.inj H
              have p286 : 0 ≤ (x8_1 : Int) := qD
              have q286 : x8_1 < (l0_3.length : Int) := qD
              obtain ⟨ad286, e286, hx286_0⟩ := Kd.at_int HR0_3.out x8_1 p286 q286
              cases e286
              replace hx286_0 := (HB.out.cell (World.block_lt_of_cell? w _ hx286_0)).trans hx286_0
              replace p286 := eq_true p286
              replace q286 := eq_true q286
              go_wp2_with (first | ((with_reducible refine gate_callee (f := 60) rfl ?_); refine goesL_ (some 14) rfl rfl Try.func60 (by kernel_rfl) rfl #[.int .i64 (rd l0_3 x8_1)] rfl qM ?_; (with_reducible refine (impl_isKey.calls (rd l0_3 x8_1) false _ A7.out).mono ?_); rintro e w' ⟨rfl, ⟨nd, rfl⟩⟩; refine ⟨_, rfl, ?_⟩))
              go_ret
              exact ⟨by first | rfl | (simp [errW_none, errW_some] <;> rfl) | (simp [*, errW_none, errW_some] <;> rfl), qB⟩
          · rw [if_neg c6] at H
            exact absurd H (by simp)
        · rw [if_neg c5] at H
          exact absurd H (by simp)
      · rw [if_neg c4] at H
        have c4b0 : decide (x8_1 < (l0_3.length : Int)) = false := decide_eq_false c4
        clear c4
        by_cases c17 : 0 ≤ a0_2
        · rw [if_pos c17] at H
          have c17b0 : decide (0 ≤ a0_2) = true := decide_eq_true c17
          clear c17
          by_cases c18 : a0_2 ≤ a0_1
          · rw [if_pos c18] at H
            have c18b0 : decide (a0_2 ≤ a0_1) = true := decide_eq_true c18
            clear c18
            by_cases c19 : a0_1 ≤ a0_0
            · rw [if_pos c19] at H
              have c19b0 : decide (a0_1 ≤ a0_0) = true := decide_eq_true c19
              clear c19
              by_cases c20 : a0_0 ≤ 10
              · rw [if_pos c20] at H
                have c20b0 : decide (a0_0 ≤ 10) = true := decide_eq_true c20
                clear c20
                replace H := Option.bind_eq_some_iff.mp H
                obtain ⟨t285, A210, H⟩ := H
                try dsimp only at H
                have A21 := Aside0.mk A210
                clear A210
                obtain rfl := Option.some.inj H
                have hcz22_0 : wr.cell? ⟨gb284, 0, none⟩ = some (.int .i64 a0_0) := (blk_cell BK284.out 0).trans rfl
                have hcz22_1 : wr.cell? ⟨gb284, 1, none⟩ = some (.int .i64 a0_1) := (blk_cell BK284.out 1).trans rfl
                have hcz22_2 : wr.cell? ⟨gb284, 2, none⟩ = some (.int .i64 a0_2) := (blk_cell BK284.out 2).trans rfl
                have hcz22_3 : wr.cell? ⟨gb284, 3, none⟩ = some (.slice A0_3 l0_3.length c0_3) := (blk_cell BK284.out 3).trans rfl
                have hcz22_4 : wr.cell? ⟨gb284, 4, none⟩ = some (.bool a0_4) := (blk_cell BK284.out 4).trans rfl
                have hfz22_0 := blk_frozen BK284.out 0
                have hfz22_1 := blk_frozen BK284.out 1
                have hfz22_2 := blk_frozen BK284.out 2
                have hfz22_3 := blk_frozen BK284.out 3
                have hfz22_4 := blk_frozen BK284.out 4
                go_wp2_with (first | (go_at_call 62; (with_reducible refine (impl_within.calls (l0_3.length : Int) 1 8 t285 _ A21.out).mono ?_); rintro e w' ⟨rfl, ⟨nd, rfl⟩⟩))
                go_ret
                exact ⟨by first | rfl | (simp [errW_none, errW_some] <;> rfl) | (simp [*, errW_none, errW_some] <;> rfl), qB⟩
              · rw [if_neg c20] at H
                have c20b0 : decide (a0_0 ≤ 10) = false := decide_eq_false c20
                clear c20
                obtain rfl := Option.some.inj H
                have hcz23_0 : wr.cell? ⟨gb284, 0, none⟩ = some (.int .i64 a0_0) := (blk_cell BK284.out 0).trans rfl
                have hcz23_1 : wr.cell? ⟨gb284, 1, none⟩ = some (.int .i64 a0_1) := (blk_cell BK284.out 1).trans rfl
                have hcz23_2 : wr.cell? ⟨gb284, 2, none⟩ = some (.int .i64 a0_2) := (blk_cell BK284.out 2).trans rfl
                have hcz23_3 : wr.cell? ⟨gb284, 3, none⟩ = some (.slice A0_3 l0_3.length c0_3) := (blk_cell BK284.out 3).trans rfl
                have hcz23_4 : wr.cell? ⟨gb284, 4, none⟩ = some (.bool a0_4) := (blk_cell BK284.out 4).trans rfl
                have hfz23_0 := blk_frozen BK284.out 0
                have hfz23_1 := blk_frozen BK284.out 1
                have hfz23_2 := blk_frozen BK284.out 2
                have hfz23_3 := blk_frozen BK284.out 3
                have hfz23_4 := blk_frozen BK284.out 4
                go_wp2
                go_ret
                exact ⟨by first | rfl | (simp [errW_none, errW_some] <;> rfl) | (simp [*, errW_none, errW_some] <;> rfl), qB⟩
            · rw [if_neg c19] at H
              have c19b0 : decide (a0_1 ≤ a0_0) = false := decide_eq_false c19
              clear c19
              obtain rfl := Option.some.inj H
              have hcz24_0 : wr.cell? ⟨gb284, 0, none⟩ = some (.int .i64 a0_0) := (blk_cell BK284.out 0).trans rfl
              have hcz24_1 : wr.cell? ⟨gb284, 1, none⟩ = some (.int .i64 a0_1) := (blk_cell BK284.out 1).trans rfl
              have hcz24_2 : wr.cell? ⟨gb284, 2, none⟩ = some (.int .i64 a0_2) := (blk_cell BK284.out 2).trans rfl
              have hcz24_3 : wr.cell? ⟨gb284, 3, none⟩ = some (.slice A0_3 l0_3.length c0_3) := (blk_cell BK284.out 3).trans rfl
              have hcz24_4 : wr.cell? ⟨gb284, 4, none⟩ = some (.bool a0_4) := (blk_cell BK284.out 4).trans rfl
              have hfz24_0 := blk_frozen BK284.out 0
              have hfz24_1 := blk_frozen BK284.out 1
              have hfz24_2 := blk_frozen BK284.out 2
              have hfz24_3 := blk_frozen BK284.out 3
              have hfz24_4 := blk_frozen BK284.out 4
              go_wp2
              go_ret
              exact ⟨by first | rfl | (simp [errW_none, errW_some] <;> rfl) | (simp [*, errW_none, errW_some] <;> rfl), qB⟩
          · rw [if_neg c18] at H
            have c18b0 : decide (a0_2 ≤ a0_1) = false := decide_eq_false c18
            clear c18
            obtain rfl := Option.some.inj H
            have hcz25_0 : wr.cell? ⟨gb284, 0, none⟩ = some (.int .i64 a0_0) := (blk_cell BK284.out 0).trans rfl
            have hcz25_1 : wr.cell? ⟨gb284, 1, none⟩ = some (.int .i64 a0_1) := (blk_cell BK284.out 1).trans rfl
            have hcz25_2 : wr.cell? ⟨gb284, 2, none⟩ = some (.int .i64 a0_2) := (blk_cell BK284.out 2).trans rfl
            have hcz25_3 : wr.cell? ⟨gb284, 3, none⟩ = some (.slice A0_3 l0_3.length c0_3) := (blk_cell BK284.out 3).trans rfl
            have hcz25_4 : wr.cell? ⟨gb284, 4, none⟩ = some (.bool a0_4) := (blk_cell BK284.out 4).trans rfl
            have hfz25_0 := blk_frozen BK284.out 0
            have hfz25_1 := blk_frozen BK284.out 1
            have hfz25_2 := blk_frozen BK284.out 2
            have hfz25_3 := blk_frozen BK284.out 3
            have hfz25_4 := blk_frozen BK284.out 4
            go_wp2
            go_ret
            exact ⟨by first | rfl | (simp [errW_none, errW_some] <;> rfl) | (simp [*, errW_none, errW_some] <;> rfl), qB⟩
        · rw [if_neg c17] at H
          have c17b0 : decide (0 ≤ a0_2) = false := decide_eq_false c17
          clear c17
          obtain rfl := Option.some.inj H
          have hcz26_0 : wr.cell? ⟨gb284, 0, none⟩ = some (.int .i64 a0_0) := (blk_cell BK284.out 0).trans rfl
          have hcz26_1 : wr.cell? ⟨gb284, 1, none⟩ = some (.int .i64 a0_1) := (blk_cell BK284.out 1).trans rfl
          have hcz26_2 : wr.cell? ⟨gb284, 2, none⟩ = some (.int .i64 a0_2) := (blk_cell BK284.out 2).trans rfl
          have hcz26_3 : wr.cell? ⟨gb284, 3, none⟩ = some (.slice A0_3 l0_3.length c0_3) := (blk_cell BK284.out 3).trans rfl
          have hcz26_4 : wr.cell? ⟨gb284, 4, none⟩ = some (.bool a0_4) := (blk_cell BK284.out 4).trans rfl
          have hfz26_0 := blk_frozen BK284.out 0
          have hfz26_1 := blk_frozen BK284.out 1
          have hfz26_2 := blk_frozen BK284.out 2
          have hfz26_3 := blk_frozen BK284.out 3
          have hfz26_4 := blk_frozen BK284.out 4
          go_wp2
          go_ret
          exact ⟨by first | rfl | (simp [errW_none, errW_some] <;> rfl) | (simp [*, errW_none, errW_some] <;> rfl), qB⟩

/-! ### impl_GameOk: function 130 -/
def impl_GameOk.j0 : Nat → Int → Int → Int → Int → Int → Int → Int → Option (Bool)
  | 0, _, _, _, _, _, _, _ => none
  | k + 1, x0, x5, x291000, x291001, x291002, x291003, x291004 => (impl_within.f x0 2 8).bind fun t291 => (if t291 = true then (if x291000 = x291001 then (some false) else ((impl_within.f x291000 0 (wrap64 (x0 - 1))).bind fun t292 => (if t292 = true then ((impl_within.f x291001 0 (wrap64 (x0 - 1))).bind fun t293 => (if t293 = true then ((impl_within.f x291004 0 4).bind fun t294 => (if t294 = true then ((impl_within.f x291002 0 x5).bind fun t295 => (if t295 = true then ((impl_within.f x291003 0 x5).bind fun t296 => (some t296)) else (some false))) else (some false))) else (some false))) else (some false)))) else (some false))
def impl_GameOk.f (k : Nat) (a0 : Int) (a1_0 : Int) (a1_1 : Int) (a1_2 : Int) (a1_3 : Int) (a1_4 : Int) : Option (Bool) := if a1_4 = 1 then (impl_GameOk.j0 k a0 99 a1_0 a1_1 a1_2 a1_3 a1_4) else (impl_GameOk.j0 k a0 0 a1_0 a1_1 a1_2 a1_3 a1_4)
theorem impl_GameOk.mono_l : ∀ k, (∀ y0 y1 y2 y3 y4 y5 y6, LeO (impl_GameOk.j0 k y0 y1 y2 y3 y4 y5 y6) (impl_GameOk.j0 (k + 1) y0 y1 y2 y3 y4 y5 y6))
  | 0 => fun _ _ _ _ _ _ _ r h => by simp [impl_GameOk.j0] at h
  | k + 1 => by
    have ih0 := impl_GameOk.mono_l k
    · intro y0 y1 y2 y3 y4 y5 y6
      unfold impl_GameOk.j0
      repeat' first
      | (with_reducible exact ih0 _ _ _ _ _ _ _)
      | (with_reducible exact LeO.refl _)
      | (with_reducible exact LeO.none _)
      | (with_reducible refine LeO.ite ?_ ?_)
      | (with_reducible refine LeO.bind ?_ (fun _ => ?_))
      | exact ih0 _ _ _ _ _ _ _
      | exact LeO.none _
      | refine LeO.ite ?_ ?_
      | refine LeO.bind ?_ (fun _ => ?_)
theorem impl_GameOk.mono : ∀ a0 a1 a2 a3 a4 a5 k, LeO (impl_GameOk.f k a0 a1 a2 a3 a4 a5) (impl_GameOk.f (k + 1) a0 a1 a2 a3 a4 a5) := by
  intro a0 a1 a2 a3 a4 a5 k
  have ih0 := impl_GameOk.mono_l k
  unfold impl_GameOk.f
  repeat' first
      | (with_reducible exact ih0 _ _ _ _ _ _ _)
      | (with_reducible exact LeO.refl _)
      | (with_reducible exact LeO.none _)
      | (with_reducible refine LeO.ite ?_ ?_)
      | (with_reducible refine LeO.bind ?_ (fun _ => ?_))
      | exact ih0 _ _ _ _ _ _ _
      | exact LeO.none _
      | refine LeO.ite ?_ ?_
      | refine LeO.bind ?_ (fun _ => ?_)
set_option maxHeartbeats 8000000 in
set_option maxRecDepth 100000 in
theorem impl_GameOk.calls (k : Nat) (a0 : Int) (a1_0 : Int) (a1_1 : Int) (a1_2 : Int) (a1_3 : Int) (a1_4 : Int) (r : Bool) (w : World) (h : impl_GameOk.f k a0 a1_0 a1_1 a1_2 a1_3 a1_4 = some r) :
    Calls Try.prog 130 #[.int .i64 a0, .agg #[.int .i64 a1_0, .int .i64 a1_1, .int .i64 a1_2, .int .i64 a1_3, .int .i64 a1_4]] w fun e w' => e = .returned (.bool r) ∧ Below w.heap.size w w' := by
  have hu71 := Try.underlying71
  have HB := Aside0.mk (Below.refl w.heap.size w)
  have H : (if a1_4 = 1 then (impl_GameOk.j0 k a0 99 a1_0 a1_1 a1_2 a1_3 a1_4) else (impl_GameOk.j0 k a0 0 a1_0 a1_1 a1_2 a1_3 a1_4)) = some r := h
  clear h
  have HC3 := Aside0.mk H
  clear H
  go_enter Try.func130, Try.ntmps130
  go_upto_if 8 with (first | ((with_reducible refine gate_dst (N := 3) rfl ?_); refine box_event ?hg (N := 3) ?hd (cs := #[.int .i64 a1_0, .int .i64 a1_1, .int .i64 a1_2, .int .i64 a1_3, .int .i64 a1_4]) (t := 71) ?hr ?_; (case hd => rfl); (case hg => rfl); (case hr => first | (go_simp; done) | (go_simp; rfl)); intro gb290 hg w4 hbox hb; have n0_ := Aside0.mk (below_step qB hb); have n1_ := Aside0.mk (hbox); have n2_ := Aside0.mk ((qG hg : w.heap.size ≤ gb290)); have n3_ := Aside0.mk ((qG hg : w.heap.size ≤ gb290)); clear HB; have HB := n0_; have BK290 := n1_; have GW290 := n2_; have GE290 := n3_; clear n0_ n1_ n2_ n3_; clear hb hbox hg; have ⟨hcz5_0, hcz5_1, hcz5_2, hcz5_3, hcz5_4⟩ := qc5 BK290.out; have ⟨hfz5_0, hfz5_1, hfz5_2, hfz5_3, hfz5_4⟩ := qf5 BK290.out))
  (try simp only [Act.put, List.setIfInBounds_toArray, List.set_cons_zero, List.set_cons_succ])
  go_cut [5] (fun v5 wc => ∃ (kq : Nat) (x5_2 : Int), v5 = .int .i64 x5_2 ∧ Aside0 (impl_GameOk.j0 kq a0 x5_2 a1_0 a1_1 a1_2 a1_3 a1_4 = some r) ∧ Aside0 (kq ≤ k) ∧ Aside0 (wc.heap[gb290]? = some (.cells #[.int .i64 a1_0, .int .i64 a1_1, .int .i64 a1_2, .int .i64 a1_3, .int .i64 a1_4] 71 (0, 0))) ∧ Aside0 (Below w.heap.size w wc))
  case first =>
    have H := HC3.out
    clear HC3
    by_cases c6 : a1_4 = 1
    · rw [if_pos c6] at H
      have c6b0 : (a1_4 == 1) = true := beq_iff_eq.mpr c6
      have c6b1 : (a1_4 != 1) = false := bne_eq_false_iff_eq.mpr c6
      clear c6
      (first | rw [c6b0] | (simp only [i64_w, i32_w]; rw [c6b0]) | skip)
      have H' := Aside0.mk H
      clear H
      go_wp2
      go_meet
      case rel => exact ⟨_, (99), qS, H', ⟨by first | omega | exact Nat.le_refl _⟩, ⟨qK BK290.out⟩, ⟨qB⟩⟩
    · rw [if_neg c6] at H
      have c6b0 : (a1_4 == 1) = false := beq_eq_false_iff_ne.mpr c6
      have c6b1 : (a1_4 != 1) = true := bne_iff_ne.mpr c6
      (first | rw [c6b0] | (simp only [i64_w, i32_w]; rw [c6b0]) | skip)
      have H' := Aside0.mk H
      clear H
      go_wp2
      go_meet
      case rel => exact ⟨_, (0), qS, H', ⟨by first | omega | exact Nat.le_refl _⟩, ⟨qK BK290.out⟩, ⟨qB⟩⟩
  case rest =>
    clear HC3
    try clear c1
    try clear p2
    try clear c6
    try clear c6b0
    try clear c6b1
    try clear hcz5_0
    try clear hcz5_1
    try clear hcz5_2
    try clear hcz5_3
    try clear hcz5_4
    try clear hfz5_0
    try clear hfz5_1
    try clear hfz5_2
    try clear hfz5_3
    try clear hfz5_4
    obtain ⟨kq, x5_2, rfl, HA, HJ2, BK290, HB⟩ := hcut
    cases kq with
    | zero => exact absurd HA.out (by simp [impl_GameOk.j0])
    | succ kj2 =>
      have H := HA.out
      clear HA
      simp only [impl_GameOk.j0] at H
      replace H := Option.bind_eq_some_iff.mp H
      obtain ⟨t291, A70, H⟩ := H
      try dsimp only at H
      have A7 := Aside0.mk A70
      clear A70
      by_cases c8 : t291 = true
      · subst c8
        have H1 : (if a1_0 = a1_1 then (some false) else ((impl_within.f a1_0 0 (wrap64 (a0 - 1))).bind fun t292 => (if t292 = true then ((impl_within.f a1_1 0 (wrap64 (a0 - 1))).bind fun t293 => (if t293 = true then ((impl_within.f a1_4 0 4).bind fun t294 => (if t294 = true then ((impl_within.f a1_2 0 x5_2).bind fun t295 => (if t295 = true then ((impl_within.f a1_3 0 x5_2).bind fun t296 => (some t296)) else (some false))) else (some false))) else (some false))) else (some false)))) = some r := by rw [if_pos rfl] at H; exact H
        clear H
        have H := H1
        clear H1
        by_cases c9 : a1_0 = a1_1
        · rw [if_pos c9] at H
          have c9b0 : (a1_0 == a1_1) = true := beq_iff_eq.mpr c9
          have c9b1 : (a1_0 != a1_1) = false := bne_eq_false_iff_eq.mpr c9
          clear c9
          obtain rfl := Option.some.inj H
          go_wp2_with (first | ((with_reducible refine gate_callee (f := 62) rfl ?_); refine goesL_ (some 10) rfl rfl Try.func62 (by kernel_rfl) rfl #[.int .i64 a0, .int .i64 2, .int .i64 8] rfl qM ?_; (with_reducible refine (impl_within.calls a0 2 8 true _ A7.out).mono ?_); rintro e w' ⟨rfl, ⟨nd, rfl⟩⟩; refine ⟨_, rfl, ?_⟩; have ⟨hcz10_0, hcz10_1, hcz10_2, hcz10_3, hcz10_4⟩ := qc5 BK290.out; have ⟨hfz10_0, hfz10_1, hfz10_2, hfz10_3, hfz10_4⟩ := qf5 BK290.out))
          go_ret
          exact ⟨by first | rfl | (simp [errW_none, errW_some] <;> rfl) | (simp [*, errW_none, errW_some] <;> rfl), qB⟩
        · rw [if_neg c9] at H
          have c9b0 : (a1_0 == a1_1) = false := beq_eq_false_iff_ne.mpr c9
          have c9b1 : (a1_0 != a1_1) = true := bne_iff_ne.mpr c9
          replace H := Option.bind_eq_some_iff.mp H
          obtain ⟨t292, A110, H⟩ := H
          try dsimp only at H
          have A11 := Aside0.mk A110
          clear A110
          by_cases c12 : t292 = true
          · subst c12
            have H1 : ((impl_within.f a1_1 0 (wrap64 (a0 - 1))).bind fun t293 => (if t293 = true then ((impl_within.f a1_4 0 4).bind fun t294 => (if t294 = true then ((impl_within.f a1_2 0 x5_2).bind fun t295 => (if t295 = true then ((impl_within.f a1_3 0 x5_2).bind fun t296 => (some t296)) else (some false))) else (some false))) else (some false))) = some r := by rw [if_pos rfl] at H; exact H
            clear H
            have H := H1
            clear H1
            replace H := Option.bind_eq_some_iff.mp H
            obtain ⟨t293, A130, H⟩ := H
            try dsimp only at H
            have A13 := Aside0.mk A130
            clear A130
            by_cases c14 : t293 = true
            · subst c14
              have H1 : ((impl_within.f a1_4 0 4).bind fun t294 => (if t294 = true then ((impl_within.f a1_2 0 x5_2).bind fun t295 => (if t295 = true then ((impl_within.f a1_3 0 x5_2).bind fun t296 => (some t296)) else (some false))) else (some false))) = some r := by rw [if_pos rfl] at H; exact H
              clear H
              have H := H1
              clear H1
              replace H := Option.bind_eq_some_iff.mp H
              obtain ⟨t294, A150, H⟩ := H
              try dsimp only at H
              have A15 := Aside0.mk A150
              clear A150
              by_cases c16 : t294 = true
              · subst c16
                have H1 : ((impl_within.f a1_2 0 x5_2).bind fun t295 => (if t295 = true then ((impl_within.f a1_3 0 x5_2).bind fun t296 => (some t296)) else (some false))) = some r := by rw [if_pos rfl] at H; exact H
                clear H
                have H := H1
                clear H1
                replace H := Option.bind_eq_some_iff.mp H
                obtain ⟨t295, A170, H⟩ := H
                try dsimp only at H
                have A17 := Aside0.mk A170
                clear A170
                by_cases c18 : t295 = true
                · subst c18
                  have H1 : ((impl_within.f a1_3 0 x5_2).bind fun t296 => (some t296)) = some r := by rw [if_pos rfl] at H; exact H
                  clear H
                  have H := H1
                  clear H1
                  replace H := Option.bind_eq_some_iff.mp H
                  obtain ⟨t296, A190, H⟩ := H
                  try dsimp only at H
                  have A19 := Aside0.mk A190
                  clear A190
                  obtain rfl := Option.some.inj H
                  go_wp2_with (first | ((with_reducible refine gate_callee (f := 62) rfl ?_); refine goesL_ (some 10) rfl rfl Try.func62 (by kernel_rfl) rfl #[.int .i64 a0, .int .i64 2, .int .i64 8] rfl qM ?_; (with_reducible refine (impl_within.calls a0 2 8 true _ A7.out).mono ?_); rintro e w' ⟨rfl, ⟨nd, rfl⟩⟩; refine ⟨_, rfl, ?_⟩; have ⟨hcz20_0, hcz20_1, hcz20_2, hcz20_3, hcz20_4⟩ := qc5 BK290.out; have ⟨hfz20_0, hfz20_1, hfz20_2, hfz20_3, hfz20_4⟩ := qf5 BK290.out) | (go_at_call 62; (with_reducible refine (impl_within.calls a1_0 0 (wrap64 (a0 - 1)) true _ A11.out).mono ?_); rintro e w' ⟨rfl, ⟨nd, rfl⟩⟩) | (go_at_call 62; (with_reducible refine (impl_within.calls a1_1 0 (wrap64 (a0 - 1)) true _ A13.out).mono ?_); rintro e w' ⟨rfl, ⟨nd, rfl⟩⟩) | (go_at_call 62; (with_reducible refine (impl_within.calls a1_4 0 4 true _ A15.out).mono ?_); rintro e w' ⟨rfl, ⟨nd, rfl⟩⟩) | (go_at_call 62; (with_reducible refine (impl_within.calls a1_2 0 x5_2 true _ A17.out).mono ?_); rintro e w' ⟨rfl, ⟨nd, rfl⟩⟩) | (go_at_call 62; (with_reducible refine (impl_within.calls a1_3 0 x5_2 t296 _ A19.out).mono ?_); rintro e w' ⟨rfl, ⟨nd, rfl⟩⟩))
                  go_ret
                  exact ⟨by first | rfl | (simp [errW_none, errW_some] <;> rfl) | (simp [*, errW_none, errW_some] <;> rfl), qB⟩
                · replace c18 := Bool.eq_false_iff.mpr c18
                  subst c18
                  have H1 : (some false) = some r := by rw [if_neg (show ¬ (false = true) by decide)] at H; exact H
                  clear H
                  have H := H1
                  clear H1
                  obtain rfl := Option.some.inj H
                  go_wp2_with (first | ((with_reducible refine gate_callee (f := 62) rfl ?_); refine goesL_ (some 10) rfl rfl Try.func62 (by kernel_rfl) rfl #[.int .i64 a0, .int .i64 2, .int .i64 8] rfl qM ?_; (with_reducible refine (impl_within.calls a0 2 8 true _ A7.out).mono ?_); rintro e w' ⟨rfl, ⟨nd, rfl⟩⟩; refine ⟨_, rfl, ?_⟩; have ⟨hcz21_0, hcz21_1, hcz21_2, hcz21_3, hcz21_4⟩ := qc5 BK290.out; have ⟨hfz21_0, hfz21_1, hfz21_2, hfz21_3, hfz21_4⟩ := qf5 BK290.out) | (go_at_call 62; (with_reducible refine (impl_within.calls a1_0 0 (wrap64 (a0 - 1)) true _ A11.out).mono ?_); rintro e w' ⟨rfl, ⟨nd, rfl⟩⟩) | (go_at_call 62; (with_reducible refine (impl_within.calls a1_1 0 (wrap64 (a0 - 1)) true _ A13.out).mono ?_); rintro e w' ⟨rfl, ⟨nd, rfl⟩⟩) | (go_at_call 62; (with_reducible refine (impl_within.calls a1_4 0 4 true _ A15.out).mono ?_); rintro e w' ⟨rfl, ⟨nd, rfl⟩⟩) | (go_at_call 62; (with_reducible refine (impl_within.calls a1_2 0 x5_2 false _ A17.out).mono ?_); rintro e w' ⟨rfl, ⟨nd, rfl⟩⟩))
                  go_ret
                  exact ⟨by first | rfl | (simp [errW_none, errW_some] <;> rfl) | (simp [*, errW_none, errW_some] <;> rfl), qB⟩
              · replace c16 := Bool.eq_false_iff.mpr c16
                subst c16
                have H1 : (some false) = some r := by rw [if_neg (show ¬ (false = true) by decide)] at H; exact H
                clear H
                have H := H1
                clear H1
                obtain rfl := Option.some.inj H
                go_wp2_with (first | ((with_reducible refine gate_callee (f := 62) rfl ?_); refine goesL_ (some 10) rfl rfl Try.func62 (by kernel_rfl) rfl #[.int .i64 a0, .int .i64 2, .int .i64 8] rfl qM ?_; (with_reducible refine (impl_within.calls a0 2 8 true _ A7.out).mono ?_); rintro e w' ⟨rfl, ⟨nd, rfl⟩⟩; refine ⟨_, rfl, ?_⟩; have ⟨hcz22_0, hcz22_1, hcz22_2, hcz22_3, hcz22_4⟩ := qc5 BK290.out; have ⟨hfz22_0, hfz22_1, hfz22_2, hfz22_3, hfz22_4⟩ := qf5 BK290.out) | (go_at_call 62; (with_reducible refine (impl_within.calls a1_0 0 (wrap64 (a0 - 1)) true _ A11.out).mono ?_); rintro e w' ⟨rfl, ⟨nd, rfl⟩⟩) | (go_at_call 62; (with_reducible refine (impl_within.calls a1_1 0 (wrap64 (a0 - 1)) true _ A13.out).mono ?_); rintro e w' ⟨rfl, ⟨nd, rfl⟩⟩) | (go_at_call 62; (with_reducible refine (impl_within.calls a1_4 0 4 false _ A15.out).mono ?_); rintro e w' ⟨rfl, ⟨nd, rfl⟩⟩))
                go_ret
                exact ⟨by first | rfl | (simp [errW_none, errW_some] <;> rfl) | (simp [*, errW_none, errW_some] <;> rfl), qB⟩
            · replace c14 := Bool.eq_false_iff.mpr c14
              subst c14
              have H1 : (some false) = some r := by rw [if_neg (show ¬ (false = true) by decide)] at H; exact H
              clear H
              have H := H1
              clear H1
              obtain rfl := Option.some.inj H
              go_wp2_with (first | ((with_reducible refine gate_callee (f := 62) rfl ?_); refine goesL_ (some 10) rfl rfl Try.func62 (by kernel_rfl) rfl #[.int .i64 a0, .int .i64 2, .int .i64 8] rfl qM ?_; (with_reducible refine (impl_within.calls a0 2 8 true _ A7.out).mono ?_); rintro e w' ⟨rfl, ⟨nd, rfl⟩⟩; refine ⟨_, rfl, ?_⟩; have ⟨hcz23_0, hcz23_1, hcz23_2, hcz23_3, hcz23_4⟩ := qc5 BK290.out; have ⟨hfz23_0, hfz23_1, hfz23_2, hfz23_3, hfz23_4⟩ := qf5 BK290.out) | (go_at_call 62; (with_reducible refine (impl_within.calls a1_0 0 (wrap64 (a0 - 1)) true _ A11.out).mono ?_); rintro e w' ⟨rfl, ⟨nd, rfl⟩⟩) | (go_at_call 62; (with_reducible refine (impl_within.calls a1_1 0 (wrap64 (a0 - 1)) false _ A13.out).mono ?_); rintro e w' ⟨rfl, ⟨nd, rfl⟩⟩))
              go_ret
              exact ⟨by first | rfl | (simp [errW_none, errW_some] <;> rfl) | (simp [*, errW_none, errW_some] <;> rfl), qB⟩
          · replace c12 := Bool.eq_false_iff.mpr c12
            subst c12
            have H1 : (some false) = some r := by rw [if_neg (show ¬ (false = true) by decide)] at H; exact H
            clear H
            have H := H1
            clear H1
            obtain rfl := Option.some.inj H
            go_wp2_with (first | ((with_reducible refine gate_callee (f := 62) rfl ?_); refine goesL_ (some 10) rfl rfl Try.func62 (by kernel_rfl) rfl #[.int .i64 a0, .int .i64 2, .int .i64 8] rfl qM ?_; (with_reducible refine (impl_within.calls a0 2 8 true _ A7.out).mono ?_); rintro e w' ⟨rfl, ⟨nd, rfl⟩⟩; refine ⟨_, rfl, ?_⟩; have ⟨hcz24_0, hcz24_1, hcz24_2, hcz24_3, hcz24_4⟩ := qc5 BK290.out; have ⟨hfz24_0, hfz24_1, hfz24_2, hfz24_3, hfz24_4⟩ := qf5 BK290.out) | (go_at_call 62; (with_reducible refine (impl_within.calls a1_0 0 (wrap64 (a0 - 1)) false _ A11.out).mono ?_); rintro e w' ⟨rfl, ⟨nd, rfl⟩⟩))
            go_ret
            exact ⟨by first | rfl | (simp [errW_none, errW_some] <;> rfl) | (simp [*, errW_none, errW_some] <;> rfl), qB⟩
      · replace c8 := Bool.eq_false_iff.mpr c8
        subst c8
        have H1 : (some false) = some r := by rw [if_neg (show ¬ (false = true) by decide)] at H; exact H
        clear H
        have H := H1
        clear H1
        obtain rfl := Option.some.inj H
        go_wp2_with (first | ((with_reducible refine gate_callee (f := 62) rfl ?_); refine goesL_ (some 10) rfl rfl Try.func62 (by kernel_rfl) rfl #[.int .i64 a0, .int .i64 2, .int .i64 8] rfl qM ?_; (with_reducible refine (impl_within.calls a0 2 8 false _ A7.out).mono ?_); rintro e w' ⟨rfl, ⟨nd, rfl⟩⟩; refine ⟨_, rfl, ?_⟩))
        go_ret
        exact ⟨by first | rfl | (simp [errW_none, errW_some] <;> rfl) | (simp [*, errW_none, errW_some] <;> rfl), qB⟩

-- NOT PRINTED: function 144 (impl_Game)

/-! ### impl_GameOf: function 131 -/
/-- The index of the first element for which p holds, or -1. -/
def idxP {α : Type} (p : α → Bool) (l : List α) : Int := match l.findIdx? p with | some i => (i : Int) | none => -1
theorem idxP_hit {α : Type} (p : α → Bool) (l : List α) (i : Nat) (y : α) (h : l[i]? = some y) (hp : p y = true) (hb : ∀ j z, j < i → l[j]? = some z → p z = false) : idxP p l = i := by
  have hi : i < l.length := (List.getElem?_eq_some_iff.1 h).1
  have hy : l[i] = y := (List.getElem?_eq_some_iff.1 h).2
  have : l.findIdx? p = some i := by
    rw [List.findIdx?_eq_some_iff_getElem]
    exact ⟨hi, by rw [hy]; exact hp, fun j hj => by simp [hb j _ hj (List.getElem?_eq_getElem (by omega))]⟩
  simp [idxP, this]
theorem idxP_miss {α : Type} (p : α → Bool) (l : List α) (hb : ∀ j z, j < l.length → l[j]? = some z → p z = false) : idxP p l = -1 := by
  have : l.findIdx? p = none := by
    rw [List.findIdx?_eq_none_iff]
    intro x hx
    obtain ⟨j, hj, rfl⟩ := List.mem_iff_getElem.1 hx
    exact hb j _ hj (List.getElem?_eq_getElem hj)
  simp [idxP, this]
set_option maxHeartbeats 2000000 in
/-- slices.IndexFunc over structs: whatever the function value says of each element. -/
theorem impl_GameOf.idx.calls (p : S71 → Bool) (lb : Array Value) (A0 : Option Addr) (c0 : Nat) (l0 : List S71) (w : World) (hr0 : Kd.C k71 w A0 l0.length l0) (hc0 : l0.length ≤ c0)
    (hp : ∀ (W : World) (x : S71), Below w.heap.size w W → Calls Try.prog 145 (#[.agg #[.int .i64 x.f0, .int .i64 x.f1, .int .i64 x.f2, .int .i64 x.f3, .int .i64 x.f4]] ++ lb) W fun e w' => e = .returned (.bool (p x)) ∧ Below W.heap.size W w') :
    Calls Try.prog 144 #[.slice A0 l0.length c0, .func (.func 145) #[] lb] w fun e w' => e = .returned (.int .i64 (idxP p l0)) ∧ Below w.heap.size w w' := by
  have hu90 := Try.underlying71
  have HR0 := Aside0.mk hr0
  have HC0 := Aside0.mk hc0
  have HP := Aside0.mk hp
  have hmax : l0.length ≤ 9223372036854775807 := hr0.2.1
  clear hr0 hc0 hp
  have HB := Aside0.mk (Below.refl w.heap.size w)
  go_enter Try.func144, Try.ntmps144
  go_wp2
  go_loopg [8] l0.length (fun gk v8 w' => ∃ i : Nat, v8 = .int .i64 i ∧ Aside0 (i ≤ l0.length) ∧ Aside0 (l0.length - i ≤ gk) ∧ Aside0 (Below w.heap.size w w') ∧ Aside0 (∀ j z, j < i → l0[j]? = some z → p z = false))
  case atStart => exact ⟨0, rfl, ⟨Nat.zero_le _⟩, ⟨by omega⟩, HB, ⟨fun j z hj => absurd hj (Nat.not_lt_zero _)⟩⟩
  case round =>
    obtain ⟨i, rfl, HI, HG, HB1, HF⟩ := hrel
    by_cases hlt : i < l0.length
    · have hltz : decide ((i : Int) < (l0.length : Int)) = true := decide_eq_true (by omega)
      obtain ⟨ad, ea, hx0, hx1, hx2, hx3, hx4⟩ := at_T71 HR0.out (i : Int) (by omega) (by omega)
      cases ea
      rw [Int.toNat_natCast] at hx0 hx1 hx2 hx3 hx4
      obtain ⟨y, hy⟩ : ∃ y, l0[i]? = some y := ⟨_, List.getElem?_eq_getElem hlt⟩
      have hrd : rd_T71 l0 (i : Int) = y := by simp [rd_T71, List.getD_eq_getElem?_getD, hy]
      have HY := Aside0.mk hy
      rw [hrd] at hx0 hx1 hx2 hx3 hx4
      clear hrd hy
      have up : ∀ (a : Addr) (v : Value), w.cell? a = some v → wr.cell? a = some v := fun a v h => (HB1.out.cell (World.block_lt_of_cell? w _ h)).trans h
      replace hx0 := up _ _ hx0; replace hx1 := up _ _ hx1; replace hx2 := up _ _ hx2; replace hx3 := up _ _ hx3; replace hx4 := up _ _ hx4
      clear up
      have h0 : decide (0 ≤ (i : Int)) = true := decide_eq_true (by omega)
      rcases Bool.eq_false_or_eq_true (p y) with hq | hq
      · have hcall := HP.out wr y HB1.out
        rw [hq] at hcall
        have HQ := Aside0.mk hq
        have HC := Aside0.mk hcall
        clear hq hcall
        go_wp2_with fail
        refine HC.out.mono ?_
        rintro e w2 ⟨rfl, hb2⟩
        have HB2 := Aside0.mk (HB1.out.trans (hb2.mono HB1.out.size))
        clear hb2
        go_wp2
        go_ret
        exact ⟨by rw [idxP_hit p l0 i y HY.out HQ.out HF.out]; rfl, HB2.out⟩
      · have hcall := HP.out wr y HB1.out
        rw [hq] at hcall
        have HQ := Aside0.mk hq
        have HC := Aside0.mk hcall
        clear hq hcall
        go_wp2_with fail
        refine HC.out.mono ?_
        rintro e w2 ⟨rfl, hb2⟩
        have HB2 := Aside0.mk (HB1.out.trans (hb2.mono HB1.out.size))
        clear hb2
        go_wp2
        go_roundg (l0.length - (i + 1))
        case measure => have := HG.out; omega
        case rel =>
          refine ⟨i + 1, by go_num, ⟨by omega⟩, ⟨Nat.le_refl _⟩, HB2, ⟨fun j z hj hz => ?_⟩⟩
          by_cases e : j = i
          · subst e
            rw [HY.out] at hz
            cases hz
            exact HQ.out
          · exact HF.out j z (by omega) hz
    · have hltz : decide ((i : Int) < (l0.length : Int)) = false := decide_eq_false (by omega)
      go_wp2
      go_ret
      exact ⟨by rw [idxP_miss p l0 (fun j z hj hz => HF.out j z (by omega) hz)]; rfl, HB1.out⟩
set_option maxHeartbeats 800000 in
theorem impl_GameOf.lit (x : S71) (b1 b2 : Nat) (a1 a2 : Int) (w : World) (h1 : w.cell? ⟨b1, 0, none⟩ = some (.int .i64 a1)) (h2 : w.cell? ⟨b2, 0, none⟩ = some (.int .i64 a2)) :
    Calls Try.prog 145 #[.agg #[.int .i64 x.f0, .int .i64 x.f1, .int .i64 x.f2, .int .i64 x.f3, .int .i64 x.f4], .pointer (some ⟨b1, 0, none⟩), .pointer (some ⟨b2, 0, none⟩)] w
      fun e w' => e = .returned (.bool ((x.f0 == a1) && (x.f1 == a2))) ∧ Below w.heap.size w w' := by
  have hu90 := Try.underlying71
  have l1 : b1 < w.heap.size := World.block_lt_of_cell? w _ h1
  have l2 : b2 < w.heap.size := World.block_lt_of_cell? w _ h2
  by_cases c1 : x.f0 = a1
  · have d1 : (x.f0 == a1) = true := beq_iff_eq.mpr c1
    clear c1
    go_enter Try.func145, Try.ntmps145
    go_wp2
    go_ret
    exact ⟨by simp [d1], (Below.refl _ _).alloc (Nat.le_refl _) _⟩
  · have d1 : (x.f0 == a1) = false := beq_eq_false_iff_ne.mpr c1
    clear c1
    go_enter Try.func145, Try.ntmps145
    go_wp2
    go_ret
    exact ⟨by simp [d1], (Below.refl _ _).alloc (Nat.le_refl _) _⟩
def impl_GameOf.f (l0 : List (S71)) (a1 : Int) (a2 : Int) : Option (Int) := some (idxP (fun x => (x.f0 == a1) && (x.f1 == a2)) l0)
set_option maxHeartbeats 800000 in
theorem impl_GameOf.calls (A0 : Option Addr) (c0 : Nat) (l0 : List (S71)) (a1 : Int) (a2 : Int) (r : Int) (w : World) (hr0 : Kd.C k71 w A0 l0.length l0) (hc0 : l0.length ≤ c0) (h : impl_GameOf.f l0 a1 a2 = some r) :
    Calls Try.prog 131 #[.slice A0 l0.length c0, .int .i64 a1, .int .i64 a2] w fun e w' => e = .returned (.int .i64 r) ∧ Below w.heap.size w w' := by
  obtain rfl := Option.some.inj h
  clear h
  have HR := Aside0.mk hr0
  have HC := Aside0.mk hc0
  clear hr0 hc0
  go_enter Try.func131, Try.ntmps131
  go_wp2_with fail
  refine (impl_GameOf.idx.calls (fun x => (x.f0 == a1) && (x.f1 == a2)) #[.pointer (some ⟨w.heap.size, 0, none⟩), .pointer (some ⟨w.heap.size + 1, 0, none⟩)] A0 c0 l0 _ ?_ HC.out ?_).mono ?_
  · exact Kd.C_below HR.out (((Below.refl _ _).alloc (Nat.le_refl _) _).alloc (by simp) _)
  · intro W x hW
    refine impl_GameOf.lit x _ _ a1 a2 W ?_ ?_
    · rw [hW.cell (by simp; omega)]; simp
    · rw [hW.cell (by simp)]; simp
  · rintro e w2 ⟨rfl, hb2⟩
    have HB2 := Aside0.mk hb2
    clear hb2
    go_wp2
    go_ret
    exact ⟨rfl, (((Below.refl _ _).alloc (Nat.le_refl _) _).alloc (by simp) _).trans (HB2.out.mono (by simp; omega))⟩

end Go.Proofs.Ytikfdjgigeggjaa.MFnExactKeyValue
