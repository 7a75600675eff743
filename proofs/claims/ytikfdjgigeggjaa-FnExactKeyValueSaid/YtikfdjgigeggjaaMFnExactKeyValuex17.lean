/- The functions that FnExactKeyValue reaches, each with its contract: the print's form, by wip/tools/myprint.py; no condition of its own. -/
import Derived.Test.YtikfdjgigeggjaaMFnExactKeyValuex0
import Derived.Test.YtikfdjgigeggjaaMFnExactKeyValuex1
import Derived.Test.YtikfdjgigeggjaaMFnExactKeyValuex10
import Derived.Test.YtikfdjgigeggjaaMFnExactKeyValuex15
import Derived.Test.YtikfdjgigeggjaaMFnExactKeyValuex16
namespace Go.Proofs.Ytikfdjgigeggjaa.MFnExactKeyValue
open Go.RowKit Go.Proofs.YtikfdjgigeggjaaW.PrintWords Go.Proofs.YtikfdjgigeggjaaW.PrintLast Go.Proofs.YtikfdjgigeggjaaW.PrintMore
attribute [local go_sem] max2_int min2_int max_two min_two max_three min_three max_four min_four   -- for this text's walks alone
set_option linter.unusedVariables false
set_option linter.unusedSimpArgs false

/-! ### laws_FnExactKeyValue: function 9 -/
def laws_FnExactKeyValue.f (k : Nat) (l0_0 : List (S149)) (a0_1 : Int) (a0_2 : Int) (a0_3 : Int) (l0_4 : List Int) (a0_5 : Bool) (l0_6 : List (S99)) (l0_7 : List Int) (l0_8 : List Int) (a1 : Int) (a2 : Int) (l3 : List Int) : Option (Bool) := if (l3.length : Int) > 1048576 then (some true) else ((laws_szBook.f k l0_0 a0_1 a0_2 a0_3 l0_4 a0_5 l0_6 l0_7 l0_8 1048576).bind fun t350 => (if t350 < 0 then (some true) else ((laws_toBook.f k l0_0 a0_1 a0_2 a0_3 l0_4 a0_5 l0_6 l0_7 l0_8).bind fun bt351 => ((laws_toIntS.f k l3).bind fun t370 => ((spec_KeyValue.f k bt351.1 bt351.2.1 bt351.2.2.1 bt351.2.2.2.1 bt351.2.2.2.2.1 bt351.2.2.2.2.2.1 bt351.2.2.2.2.2.2.1 bt351.2.2.2.2.2.2.2.1 bt351.2.2.2.2.2.2.2.2 a1 a2 t370).bind fun t373 => ((laws_toBook.f k l0_0 a0_1 a0_2 a0_3 l0_4 a0_5 l0_6 l0_7 l0_8).bind fun bt374 => ((laws_toIntS.f k l3).bind fun t394 => ((impl_KeyValue.f k bt374.1 bt374.2.1 bt374.2.2.1 bt374.2.2.2.1 bt374.2.2.2.2.1 bt374.2.2.2.2.2.1 bt374.2.2.2.2.2.2.1 bt374.2.2.2.2.2.2.2.1 bt374.2.2.2.2.2.2.2.2 a1 a2 t394).bind fun t397 => (if t397 = t373 then ((laws_toBook.f k l0_0 a0_1 a0_2 a0_3 l0_4 a0_5 l0_6 l0_7 l0_8).bind fun bt398 => ((laws_eqBook.f k bt374.1 bt374.2.1 bt374.2.2.1 bt374.2.2.2.1 bt374.2.2.2.2.1 bt374.2.2.2.2.2.1 bt374.2.2.2.2.2.2.1 bt374.2.2.2.2.2.2.2.1 bt374.2.2.2.2.2.2.2.2 bt398.1 bt398.2.1 bt398.2.2.1 bt398.2.2.2.1 bt398.2.2.2.2.1 bt398.2.2.2.2.2.1 bt398.2.2.2.2.2.2.1 bt398.2.2.2.2.2.2.2.1 bt398.2.2.2.2.2.2.2.2).bind fun t417 => (if t417 = true then ((laws_toIntS.f k l3).bind fun t418 => ((laws_eqIntS.f k t394 t418).bind fun t421 => (if t421 = true then (some true) else (some false)))) else (some false)))) else (some false))))))))))
theorem laws_FnExactKeyValue.mono : ∀ a0 a1 a2 a3 a4 a5 a6 a7 a8 a9 a10 a11 k, LeO (laws_FnExactKeyValue.f k a0 a1 a2 a3 a4 a5 a6 a7 a8 a9 a10 a11) (laws_FnExactKeyValue.f (k + 1) a0 a1 a2 a3 a4 a5 a6 a7 a8 a9 a10 a11) := by
  intro a0 a1 a2 a3 a4 a5 a6 a7 a8 a9 a10 a11 k
  unfold laws_FnExactKeyValue.f
  repeat' first
      | (with_reducible exact impl_KeyValue.mono _ _ _ _ _ _ _ _ _ _ _ _ _)
      | (with_reducible exact laws_eqBook.mono _ _ _ _ _ _ _ _ _ _ _ _ _ _ _ _ _ _ _)
      | (with_reducible exact laws_eqIntS.mono _ _ _)
      | (with_reducible exact laws_szBook.mono _ _ _ _ _ _ _ _ _ _ _)
      | (with_reducible exact laws_toBook.mono _ _ _ _ _ _ _ _ _ _)
      | (with_reducible exact laws_toIntS.mono _ _)
      | (with_reducible exact spec_KeyValue.mono _ _ _ _ _ _ _ _ _ _ _ _ _)
      | (with_reducible exact LeO.refl _)
      | (with_reducible exact LeO.none _)
      | (with_reducible refine LeO.ite ?_ ?_)
      | (with_reducible refine LeO.bind ?_ (fun _ => ?_))
      | exact impl_KeyValue.mono _ _ _ _ _ _ _ _ _ _ _ _ _
      | exact laws_eqBook.mono _ _ _ _ _ _ _ _ _ _ _ _ _ _ _ _ _ _ _
      | exact laws_eqIntS.mono _ _ _
      | exact laws_szBook.mono _ _ _ _ _ _ _ _ _ _ _
      | exact laws_toBook.mono _ _ _ _ _ _ _ _ _ _
      | exact laws_toIntS.mono _ _
      | exact spec_KeyValue.mono _ _ _ _ _ _ _ _ _ _ _ _ _
      | exact LeO.none _
      | refine LeO.ite ?_ ?_
      | refine LeO.bind ?_ (fun _ => ?_)
set_option maxHeartbeats 8000000 in
set_option maxRecDepth 100000 in
theorem laws_FnExactKeyValue.calls (k : Nat) (A0_0 : Option Addr) (c0_0 : Nat) (l0_0 : List (S149)) (a0_1 : Int) (a0_2 : Int) (a0_3 : Int) (A0_4 : Option Addr) (c0_4 : Nat) (l0_4 : List Int) (a0_5 : Bool) (A0_6 : Option Addr) (c0_6 : Nat) (l0_6 : List (S99)) (A0_7 : Option Addr) (c0_7 : Nat) (l0_7 : List Int) (A0_8 : Option Addr) (c0_8 : Nat) (l0_8 : List Int) (a1 : Int) (a2 : Int) (A3 : Option Addr) (c3 : Nat) (l3 : List Int) (r : Bool) (w : World) (hr_ : r = true) (hr0_0 : Kd.C k149 w A0_0 l0_0.length l0_0) (hc0_0 : l0_0.length ≤ c0_0) (hr0_4 : Kd.C (Kd.int .i64) w A0_4 l0_4.length l0_4) (hc0_4 : l0_4.length ≤ c0_4) (hr0_6 : Kd.C k99 w A0_6 l0_6.length l0_6) (hc0_6 : l0_6.length ≤ c0_6) (hr0_7 : Kd.C (Kd.int .i64) w A0_7 l0_7.length l0_7) (hc0_7 : l0_7.length ≤ c0_7) (hr0_8 : Kd.C (Kd.int .i64) w A0_8 l0_8.length l0_8) (hc0_8 : l0_8.length ≤ c0_8) (hr3 : Kd.C (Kd.int .i64) w A3 l3.length l3) (hc3 : l3.length ≤ c3) (h : laws_FnExactKeyValue.f k l0_0 a0_1 a0_2 a0_3 l0_4 a0_5 l0_6 l0_7 l0_8 a1 a2 l3 = some r) :
    Calls Try.prog 9 #[.agg #[.slice A0_0 l0_0.length c0_0, .int .i64 a0_1, .int .i64 a0_2, .int .i64 a0_3, .slice A0_4 l0_4.length c0_4, .bool a0_5, .slice A0_6 l0_6.length c0_6, .slice A0_7 l0_7.length c0_7, .slice A0_8 l0_8.length c0_8], .int .i64 a1, .int .i64 a2, .slice A3 l3.length c3] w fun e w' => e = .returned (.bool r) ∧ Below w.heap.size w w' := by
  have HR_ := Aside0.mk hr_
  clear hr_
  have hu80 := Try.underlying80
  have hu67 := Try.underlying67
  have HR0_0 := Aside0.mk hr0_0
  have HC0_0 := Aside0.mk hc0_0
  clear hr0_0 hc0_0
  have HR0_4 := Aside0.mk hr0_4
  have HC0_4 := Aside0.mk hc0_4
  clear hr0_4 hc0_4
  have HR0_6 := Aside0.mk hr0_6
  have HC0_6 := Aside0.mk hc0_6
  clear hr0_6 hc0_6
  have HR0_7 := Aside0.mk hr0_7
  have HC0_7 := Aside0.mk hc0_7
  clear hr0_7 hc0_7
  have HR0_8 := Aside0.mk hr0_8
  have HC0_8 := Aside0.mk hc0_8
  clear hr0_8 hc0_8
  have HR3 := Aside0.mk hr3
  have HC3 := Aside0.mk hc3
  clear hr3 hc3
  have HB := Aside0.mk (Below.refl w.heap.size w)
  have H : (if (l3.length : Int) > 1048576 then (some true) else ((laws_szBook.f k l0_0 a0_1 a0_2 a0_3 l0_4 a0_5 l0_6 l0_7 l0_8 1048576).bind fun t350 => (if t350 < 0 then (some true) else ((laws_toBook.f k l0_0 a0_1 a0_2 a0_3 l0_4 a0_5 l0_6 l0_7 l0_8).bind fun bt351 => ((laws_toIntS.f k l3).bind fun t370 => ((spec_KeyValue.f k bt351.1 bt351.2.1 bt351.2.2.1 bt351.2.2.2.1 bt351.2.2.2.2.1 bt351.2.2.2.2.2.1 bt351.2.2.2.2.2.2.1 bt351.2.2.2.2.2.2.2.1 bt351.2.2.2.2.2.2.2.2 a1 a2 t370).bind fun t373 => ((laws_toBook.f k l0_0 a0_1 a0_2 a0_3 l0_4 a0_5 l0_6 l0_7 l0_8).bind fun bt374 => ((laws_toIntS.f k l3).bind fun t394 => ((impl_KeyValue.f k bt374.1 bt374.2.1 bt374.2.2.1 bt374.2.2.2.1 bt374.2.2.2.2.1 bt374.2.2.2.2.2.1 bt374.2.2.2.2.2.2.1 bt374.2.2.2.2.2.2.2.1 bt374.2.2.2.2.2.2.2.2 a1 a2 t394).bind fun t397 => (if t397 = t373 then ((laws_toBook.f k l0_0 a0_1 a0_2 a0_3 l0_4 a0_5 l0_6 l0_7 l0_8).bind fun bt398 => ((laws_eqBook.f k bt374.1 bt374.2.1 bt374.2.2.1 bt374.2.2.2.1 bt374.2.2.2.2.1 bt374.2.2.2.2.2.1 bt374.2.2.2.2.2.2.1 bt374.2.2.2.2.2.2.2.1 bt374.2.2.2.2.2.2.2.2 bt398.1 bt398.2.1 bt398.2.2.1 bt398.2.2.2.1 bt398.2.2.2.2.1 bt398.2.2.2.2.2.1 bt398.2.2.2.2.2.2.1 bt398.2.2.2.2.2.2.2.1 bt398.2.2.2.2.2.2.2.2).bind fun t417 => (if t417 = true then ((laws_toIntS.f k l3).bind fun t418 => ((laws_eqIntS.f k t394 t418).bind fun t421 => (if t421 = true then (some true) else (some false)))) else (some false)))) else (some false))))))))))) = some r := h
  clear h
  by_cases c5 : (l3.length : Int) > 1048576
  · rw [if_pos c5] at H
    have c5b0 : decide (1048576 < (l3.length : Int)) = true := decide_eq_true c5
    have c5b1 : decide (1048576 < l3.length) = true := decide_eq_true (by omega)
    clear c5
    obtain rfl := Option.some.inj H
    go_enter Try.func9, Try.ntmps9
    go_wp2_with (first | ((with_reducible refine gate_dst (N := 4) rfl ?_); refine box_event ?hg (N := 4) ?hd (cs := #[.slice A0_0 l0_0.length c0_0, .int .i64 a0_1, .int .i64 a0_2, .int .i64 a0_3, .slice A0_4 l0_4.length c0_4, .bool a0_5, .slice A0_6 l0_6.length c0_6, .slice A0_7 l0_7.length c0_7, .slice A0_8 l0_8.length c0_8]) (t := 80) ?hr ?_; (case hd => rfl); (case hg => rfl); (case hr => first | (go_simp; done) | (go_simp; rfl)); intro gb349 hg w6 hbox hb; have n0_ := Aside0.mk (below_step qB hb); have n1_ := Aside0.mk (hbox); have n2_ := Aside0.mk ((qG hg : w.heap.size ≤ gb349)); have n3_ := Aside0.mk ((qG hg : w.heap.size ≤ gb349)); clear HB; have HB := n0_; have BK349 := n1_; have GW349 := n2_; have GE349 := n3_; clear n0_ n1_ n2_ n3_; clear hb hbox hg))
    go_ret
    exact ⟨by first | rfl | (simp [errW_none, errW_some] <;> rfl) | (simp [*, errW_none, errW_some] <;> rfl), qB⟩
  · rw [if_neg c5] at H
    have c5b0 : decide (1048576 < (l3.length : Int)) = false := decide_eq_false c5
    have c5b1 : decide (1048576 < l3.length) = false := decide_eq_false (by omega)
    clear c5
    replace H := Option.bind_eq_some_iff.mp H
    obtain ⟨t350, A70, H⟩ := H
    try dsimp only at H
    have A7 := Aside0.mk A70
    clear A70
    by_cases c8 : t350 < 0
    · rw [if_pos c8] at H
      have c8b0 : decide (t350 < 0) = true := decide_eq_true c8
      clear c8
      obtain rfl := Option.some.inj H
      go_enter Try.func9, Try.ntmps9
      go_wp2_with (first | ((with_reducible refine gate_dst (N := 4) rfl ?_); refine box_event ?hg (N := 4) ?hd (cs := #[.slice A0_0 l0_0.length c0_0, .int .i64 a0_1, .int .i64 a0_2, .int .i64 a0_3, .slice A0_4 l0_4.length c0_4, .bool a0_5, .slice A0_6 l0_6.length c0_6, .slice A0_7 l0_7.length c0_7, .slice A0_8 l0_8.length c0_8]) (t := 80) ?hr ?_; (case hd => rfl); (case hg => rfl); (case hr => first | (go_simp; done) | (go_simp; rfl)); intro gb349 hg w9 hbox hb; have n0_ := Aside0.mk (below_step qB hb); have n1_ := Aside0.mk (hbox); have n2_ := Aside0.mk ((qG hg : w.heap.size ≤ gb349)); have n3_ := Aside0.mk ((qG hg : w.heap.size ≤ gb349)); clear HB; have HB := n0_; have BK349 := n1_; have GW349 := n2_; have GE349 := n3_; clear n0_ n1_ n2_ n3_; clear hb hbox hg; have ⟨hcz10_0, hcz10_1, hcz10_2, hcz10_3, hcz10_4, hcz10_5, hcz10_6, hcz10_7, hcz10_8⟩ := qc9 BK349.out; have ⟨hfz10_0, hfz10_1, hfz10_2, hfz10_3, hfz10_4, hfz10_5, hfz10_6, hfz10_7, hfz10_8⟩ := qf9 BK349.out) | ((with_reducible refine gate_callee (f := 53) rfl ?_); refine goesL_ (some 19) rfl rfl Try.func53 (by kernel_rfl) rfl #[.agg #[.slice A0_0 l0_0.length c0_0, .int .i64 a0_1, .int .i64 a0_2, .int .i64 a0_3, .slice A0_4 l0_4.length c0_4, .bool a0_5, .slice A0_6 l0_6.length c0_6, .slice A0_7 l0_7.length c0_7, .slice A0_8 l0_8.length c0_8], .int .i64 1048576] rfl qM ?_; (with_reducible refine (laws_szBook.calls k _ _ l0_0 a0_1 a0_2 a0_3 _ _ l0_4 a0_5 _ _ l0_6 _ _ l0_7 _ _ l0_8 1048576 t350 _ ?side1 ?side2 ?side3 ?side4 ?side5 ?side6 ?side7 ?side8 ?side9 ?side10 A7.out).mono ?_); (case side1 => exact qC HR0_0.out); (case side2 => exact HC0_0.out); (case side3 => exact qC HR0_4.out); (case side4 => exact HC0_4.out); (case side5 => exact qC HR0_6.out); (case side6 => exact HC0_6.out); (case side7 => exact qC HR0_7.out); (case side8 => exact HC0_7.out); (case side9 => exact qC HR0_8.out); (case side10 => exact HC0_8.out); rintro e w11 ⟨rfl, hb⟩; refine ⟨_, rfl, ?_⟩; have n0_ := Aside0.mk (qL BK349.out hb); have n1_ := Aside0.mk (below_step qB hb); clear BK349; clear HB; have BK349 := n0_; have HB := n1_; clear n0_ n1_; (try clear hb); (try clear hb2); (try clear hk); (try clear hi)))
      go_ret
      exact ⟨by first | rfl | (simp [errW_none, errW_some] <;> rfl) | (simp [*, errW_none, errW_some] <;> rfl), qB⟩
    · rw [if_neg c8] at H
      have c8b0 : decide (t350 < 0) = false := decide_eq_false c8
      clear c8
      replace H := Option.bind_eq_some_iff.mp H
      obtain ⟨⟨t351, t354, t355, t356, t357, t360, t361, t364, t367⟩, A120, H⟩ := H
      try dsimp only at H
      have A12 := Aside0.mk A120
      clear A120
      replace H := Option.bind_eq_some_iff.mp H
      obtain ⟨t370, A130, H⟩ := H
      try dsimp only at H
      have A13 := Aside0.mk A130
      clear A130
      replace H := Option.bind_eq_some_iff.mp H
      obtain ⟨t373, A140, H⟩ := H
      try dsimp only at H
      have A14 := Aside0.mk A140
      clear A140
      replace H := Option.bind_eq_some_iff.mp H
      obtain ⟨⟨t374, t377, t378, t379, t380, t383, t384, t387, t390⟩, A150, H⟩ := H
      try dsimp only at H
      have A15 := Aside0.mk A150
      clear A150
      replace H := Option.bind_eq_some_iff.mp H
      obtain ⟨t394, A160, H⟩ := H
      try dsimp only at H
      have A16 := Aside0.mk A160
      clear A160
      replace H := Option.bind_eq_some_iff.mp H
      obtain ⟨t397, A170, H⟩ := H
      try dsimp only at H
      have A17 := Aside0.mk A170
      clear A170
      by_cases c18 : t397 = t373
      · rw [if_pos c18] at H
        have c18b0 : (t397 == t373) = true := beq_iff_eq.mpr c18
        have c18b1 : (t397 != t373) = false := bne_eq_false_iff_eq.mpr c18
        clear c18
        replace H := Option.bind_eq_some_iff.mp H
        obtain ⟨⟨t398, t401, t402, t403, t404, t407, t408, t411, t414⟩, A190, H⟩ := H
        try dsimp only at H
        have A19 := Aside0.mk A190
        clear A190
        replace H := Option.bind_eq_some_iff.mp H
        obtain ⟨t417, A200, H⟩ := H
        try dsimp only at H
        have A20 := Aside0.mk A200
        clear A200
        by_cases c21 : t417 = true
        · subst c21
          have H1 : ((laws_toIntS.f k l3).bind fun t418 => ((laws_eqIntS.f k t394 t418).bind fun t421 => (if t421 = true then (some true) else (some false)))) = some r := by rw [if_pos rfl] at H; exact H
          clear H
          have H := H1
          clear H1
          replace H := Option.bind_eq_some_iff.mp H
          obtain ⟨t418, A220, H⟩ := H
          try dsimp only at H
          have A22 := Aside0.mk A220
          clear A220
          replace H := Option.bind_eq_some_iff.mp H
          obtain ⟨t421, A230, H⟩ := H
          try dsimp only at H
          have A23 := Aside0.mk A230
          clear A230
          by_cases c24 : t421 = true
          · subst c24
            have H1 : (some true) = some r := by rw [if_pos rfl] at H; exact H
            clear H
            have H := H1
            clear H1
            obtain rfl := Option.some.inj H
            go_enter Try.func9, Try.ntmps9
            try go_wp2_with (first | ((with_reducible refine gate_dst (N := 4) rfl ?_); refine box_event ?hg (N := 4) ?hd (cs := #[.slice A0_0 l0_0.length c0_0, .int .i64 a0_1, .int .i64 a0_2, .int .i64 a0_3, .slice A0_4 l0_4.length c0_4, .bool a0_5, .slice A0_6 l0_6.length c0_6, .slice A0_7 l0_7.length c0_7, .slice A0_8 l0_8.length c0_8]) (t := 80) ?hr ?_; (case hd => rfl); (case hg => rfl); (case hr => first | (go_simp; done) | (go_simp; rfl)); intro gb349 hg w25 hbox hb; have n0_ := Aside0.mk (below_step qB hb); have n1_ := Aside0.mk (hbox); have n2_ := Aside0.mk ((qG hg : w.heap.size ≤ gb349)); have n3_ := Aside0.mk ((qG hg : w.heap.size ≤ gb349)); clear HB; have HB := n0_; have BK349 := n1_; have GW349 := n2_; have GE349 := n3_; clear n0_ n1_ n2_ n3_; clear hb hbox hg; have ⟨hcz26_0, hcz26_1, hcz26_2, hcz26_3, hcz26_4, hcz26_5, hcz26_6, hcz26_7, hcz26_8⟩ := qc9 BK349.out; have ⟨hfz26_0, hfz26_1, hfz26_2, hfz26_3, hfz26_4, hfz26_5, hfz26_6, hfz26_7, hfz26_8⟩ := qf9 BK349.out) | ((with_reducible refine gate_callee (f := 53) rfl ?_); refine goesL_ (some 19) rfl rfl Try.func53 (by kernel_rfl) rfl #[.agg #[.slice A0_0 l0_0.length c0_0, .int .i64 a0_1, .int .i64 a0_2, .int .i64 a0_3, .slice A0_4 l0_4.length c0_4, .bool a0_5, .slice A0_6 l0_6.length c0_6, .slice A0_7 l0_7.length c0_7, .slice A0_8 l0_8.length c0_8], .int .i64 1048576] rfl qM ?_; (with_reducible refine (laws_szBook.calls k _ _ l0_0 a0_1 a0_2 a0_3 _ _ l0_4 a0_5 _ _ l0_6 _ _ l0_7 _ _ l0_8 1048576 t350 _ ?side1 ?side2 ?side3 ?side4 ?side5 ?side6 ?side7 ?side8 ?side9 ?side10 A7.out).mono ?_); (case side1 => exact qC HR0_0.out); (case side2 => exact HC0_0.out); (case side3 => exact qC HR0_4.out); (case side4 => exact HC0_4.out); (case side5 => exact qC HR0_6.out); (case side6 => exact HC0_6.out); (case side7 => exact qC HR0_7.out); (case side8 => exact HC0_7.out); (case side9 => exact qC HR0_8.out); (case side10 => exact HC0_8.out); rintro e w27 ⟨rfl, hb⟩; refine ⟨_, rfl, ?_⟩; have n0_ := Aside0.mk (qL BK349.out hb); have n1_ := Aside0.mk (below_step qB hb); clear BK349; clear HB; have BK349 := n0_; have HB := n1_; clear n0_ n1_; (try clear hb); (try clear hb2); (try clear hk); (try clear hi); have ⟨hcz28_0, hcz28_1, hcz28_2, hcz28_3, hcz28_4, hcz28_5, hcz28_6, hcz28_7, hcz28_8⟩ := qc9 BK349.out; have ⟨hfz28_0, hfz28_1, hfz28_2, hfz28_3, hfz28_4, hfz28_5, hfz28_6, hfz28_7, hfz28_8⟩ := qf9 BK349.out) | ((with_reducible refine gate_callee (f := 55) rfl ?_); refine goesL_ (some 23) rfl rfl Try.func55 (by kernel_rfl) rfl #[.agg #[.slice A0_0 l0_0.length c0_0, .int .i64 a0_1, .int .i64 a0_2, .int .i64 a0_3, .slice A0_4 l0_4.length c0_4, .bool a0_5, .slice A0_6 l0_6.length c0_6, .slice A0_7 l0_7.length c0_7, .slice A0_8 l0_8.length c0_8]] rfl qM ?_; (with_reducible refine (laws_toBook.calls k _ _ l0_0 a0_1 a0_2 a0_3 _ _ l0_4 a0_5 _ _ l0_6 _ _ l0_7 _ _ l0_8 t351 t354 t355 t356 t357 t360 t361 t364 t367 _ ?side1 ?side2 ?side3 ?side4 ?side5 ?side6 ?side7 ?side8 ?side9 ?side10 A12.out).mono ?_); (case side1 => exact qC HR0_0.out); (case side2 => exact HC0_0.out); (case side3 => exact qC HR0_4.out); (case side4 => exact HC0_4.out); (case side5 => exact qC HR0_6.out); (case side6 => exact HC0_6.out); (case side7 => exact qC HR0_7.out); (case side8 => exact HC0_7.out); (case side9 => exact qC HR0_8.out); (case side10 => exact HC0_8.out); rintro e w29 ⟨v352, v358, v362, v365, v368, rfl, ho0, ho1, ho2, ho3, ho4, hb⟩; refine ⟨_, rfl, ?_⟩; have n0_ := Aside0.mk (Kd.R_lower ho0 (below_size qB)); have n1_ := Aside0.mk (Kd.R_lower ho1 (below_size qB)); have n2_ := Aside0.mk (Kd.R_lower ho2 (below_size qB)); have n3_ := Aside0.mk (Kd.R_lower ho3 (below_size qB)); have n4_ := Aside0.mk (Kd.R_lower ho4 (below_size qB)); have n5_ := Aside0.mk (qL BK349.out hb); have n6_ := Aside0.mk (below_step qB hb); clear BK349; clear HB; have HO353 := n0_; have HO359 := n1_; have HO363 := n2_; have HO366 := n3_; have HO369 := n4_; have BK349 := n5_; have HB := n6_; clear n0_ n1_ n2_ n3_ n4_ n5_ n6_; (try clear hb); (try clear hb2); (try clear hk); (try clear hi); (try clear ho0); (try clear ho1); (try clear ho2); (try clear ho3); (try clear ho4)) | ((with_reducible refine gate_callee (f := 42) rfl ?_); refine goesL_ (some 27) rfl rfl Try.func42 (by kernel_rfl) rfl #[.slice A3 l3.length c3] rfl qM ?_; (with_reducible refine (laws_toIntS.calls k _ _ l3 t370 _ ?side1 ?side2 A13.out).mono ?_); (case side1 => exact qC HR3.out); (case side2 => exact HC3.out); rintro e w30 ⟨v371, rfl, ho0, hb⟩; refine ⟨_, rfl, ?_⟩; have n0_ := Aside0.mk (Kd.R_below (qR HO353.out) hb); have n1_ := Aside0.mk (Kd.R_elder' (qR HO359.out) (Kd.R_base ho0) hb); have n2_ := Aside0.mk (Kd.R_below (qR HO363.out) hb); have n3_ := Aside0.mk (Kd.R_elder' (qR HO366.out) (Kd.R_base ho0) hb); have n4_ := Aside0.mk (Kd.R_elder' (qR HO369.out) (Kd.R_base ho0) hb); have n5_ := Aside0.mk (Kd.R_lower (Kd.R_new' (Kd.R_new' (Kd.R_new' ho0 (Kd.R_lt (qR HO359.out))) (Kd.R_lt (qR HO366.out))) (Kd.R_lt (qR HO369.out))) (below_size qB)); have n6_ := Aside0.mk (qL BK349.out hb); have n7_ := Aside0.mk (below_step qB hb); clear HO353; clear HO359; clear HO363; clear HO366; clear HO369; clear BK349; clear HB; have HO353 := n0_; have HO359 := n1_; have HO363 := n2_; have HO366 := n3_; have HO369 := n4_; have HO372 := n5_; have BK349 := n6_; have HB := n7_; clear n0_ n1_ n2_ n3_ n4_ n5_ n6_ n7_; (try clear hb); (try clear hb2); (try clear hk); (try clear hi); (try clear ho0); obtain ⟨Ao31, co31, eo31⟩ := Kd.R_slice HO353.out; subst eo31; obtain ⟨Ao32, co32, eo32⟩ := Kd.R_slice HO359.out; subst eo32; obtain ⟨Ao33, co33, eo33⟩ := Kd.R_slice HO363.out; subst eo33; obtain ⟨Ao34, co34, eo34⟩ := Kd.R_slice HO366.out; subst eo34; obtain ⟨Ao35, co35, eo35⟩ := Kd.R_slice HO369.out; subst eo35; obtain ⟨Ao36, co36, eo36⟩ := Kd.R_slice HO372.out; subst eo36) | ((with_reducible refine gate_callee (f := 54) rfl ?_); refine goesL_ (some 28) rfl rfl Try.func54 (by kernel_rfl) rfl #[.agg #[.slice Ao31 t351.length co31, .int .i64 t354, .int .i64 t355, .int .i64 t356, .slice Ao32 t357.length co32, .bool t360, .slice Ao33 t361.length co33, .slice Ao34 t364.length co34, .slice Ao35 t367.length co35], .int .i64 a1, .int .i64 a2, .slice Ao36 t370.length co36] rfl qM ?_; (with_reducible refine (spec_KeyValue.calls k _ _ t351 t354 t355 t356 _ _ t357 t360 _ _ t361 _ _ t364 _ _ t367 a1 a2 _ _ t370 t373 _ ?side1 ?side2 ?side3 ?side4 ?side5 ?side6 ?side7 ?side8 ?side9 ?side10 ?side11 ?side12 A14.out).mono ?_); (case side1 => repeat (first | exact (Kd.R_reads' HO353.out).2.2 | (with_reducible refine Kd.C_alloc ?_ _) | (with_reducible refine Kd.C_drewN ?_ _) | (with_reducible refine Kd.C_drew ?_))); (case side2 => exact (Kd.R_reads' HO353.out).2.1); (case side3 => repeat (first | exact (Kd.R_reads' HO359.out).2.2 | (with_reducible refine Kd.C_alloc ?_ _) | (with_reducible refine Kd.C_drewN ?_ _) | (with_reducible refine Kd.C_drew ?_))); (case side4 => exact (Kd.R_reads' HO359.out).2.1); (case side5 => repeat (first | exact (Kd.R_reads' HO363.out).2.2 | (with_reducible refine Kd.C_alloc ?_ _) | (with_reducible refine Kd.C_drewN ?_ _) | (with_reducible refine Kd.C_drew ?_))); (case side6 => exact (Kd.R_reads' HO363.out).2.1); (case side7 => repeat (first | exact (Kd.R_reads' HO366.out).2.2 | (with_reducible refine Kd.C_alloc ?_ _) | (with_reducible refine Kd.C_drewN ?_ _) | (with_reducible refine Kd.C_drew ?_))); (case side8 => exact (Kd.R_reads' HO366.out).2.1); (case side9 => repeat (first | exact (Kd.R_reads' HO369.out).2.2 | (with_reducible refine Kd.C_alloc ?_ _) | (with_reducible refine Kd.C_drewN ?_ _) | (with_reducible refine Kd.C_drew ?_))); (case side10 => exact (Kd.R_reads' HO369.out).2.1); (case side11 => repeat (first | exact (Kd.R_reads' HO372.out).2.2 | (with_reducible refine Kd.C_alloc ?_ _) | (with_reducible refine Kd.C_drewN ?_ _) | (with_reducible refine Kd.C_drew ?_))); (case side12 => exact (Kd.R_reads' HO372.out).2.1); rintro e w37 ⟨rfl, hb⟩; refine ⟨_, rfl, ?_⟩; have n0_ := Aside0.mk (Kd.R_below (qR HO353.out) hb); have n1_ := Aside0.mk (Kd.R_below (qR HO359.out) hb); have n2_ := Aside0.mk (Kd.R_below (qR HO363.out) hb); have n3_ := Aside0.mk (Kd.R_below (qR HO366.out) hb); have n4_ := Aside0.mk (Kd.R_below (qR HO369.out) hb); have n5_ := Aside0.mk (Kd.R_below (qR HO372.out) hb); have n6_ := Aside0.mk (qL BK349.out hb); have n7_ := Aside0.mk (below_step qB hb); clear HO353; clear HO359; clear HO363; clear HO366; clear HO369; clear HO372; clear BK349; clear HB; have HO353 := n0_; have HO359 := n1_; have HO363 := n2_; have HO366 := n3_; have HO369 := n4_; have HO372 := n5_; have BK349 := n6_; have HB := n7_; clear n0_ n1_ n2_ n3_ n4_ n5_ n6_ n7_; (try clear hb); (try clear hb2); (try clear hk); (try clear hi); have ⟨hcz38_0, hcz38_1, hcz38_2, hcz38_3, hcz38_4, hcz38_5, hcz38_6, hcz38_7, hcz38_8⟩ := qc9 BK349.out; have ⟨hfz38_0, hfz38_1, hfz38_2, hfz38_3, hfz38_4, hfz38_5, hfz38_6, hfz38_7, hfz38_8⟩ := qf9 BK349.out) | ((with_reducible refine gate_callee (f := 55) rfl ?_); refine goesL_ (some 30) rfl rfl Try.func55 (by kernel_rfl) rfl #[.agg #[.slice A0_0 l0_0.length c0_0, .int .i64 a0_1, .int .i64 a0_2, .int .i64 a0_3, .slice A0_4 l0_4.length c0_4, .bool a0_5, .slice A0_6 l0_6.length c0_6, .slice A0_7 l0_7.length c0_7, .slice A0_8 l0_8.length c0_8]] rfl qM ?_; (with_reducible refine (laws_toBook.calls k _ _ l0_0 a0_1 a0_2 a0_3 _ _ l0_4 a0_5 _ _ l0_6 _ _ l0_7 _ _ l0_8 t374 t377 t378 t379 t380 t383 t384 t387 t390 _ ?side1 ?side2 ?side3 ?side4 ?side5 ?side6 ?side7 ?side8 ?side9 ?side10 A15.out).mono ?_); (case side1 => exact qC HR0_0.out); (case side2 => exact HC0_0.out); (case side3 => exact qC HR0_4.out); (case side4 => exact HC0_4.out); (case side5 => exact qC HR0_6.out); (case side6 => exact HC0_6.out); (case side7 => exact qC HR0_7.out); (case side8 => exact HC0_7.out); (case side9 => exact qC HR0_8.out); (case side10 => exact HC0_8.out); rintro e w39 ⟨v375, v381, v385, v388, v391, rfl, ho0, ho1, ho2, ho3, ho4, hb⟩; refine ⟨_, rfl, ?_⟩; have n0_ := Aside0.mk (Kd.R_elder' (qR HO353.out) (Kd.R_base ho0) hb); have n1_ := Aside0.mk (Kd.R_mono (Kd.R_told (Kd.R_told (Kd.R_told (Kd.R_old (qR HO359.out) hb) (Kd.R_base ho1)) (Kd.R_base ho3)) (Kd.R_base ho4)) (fun _ h_ => h_.1)); have n2_ := Aside0.mk (Kd.R_elder' (qR HO363.out) (Kd.R_base ho2) hb); have n3_ := Aside0.mk (Kd.R_mono (Kd.R_told (Kd.R_told (Kd.R_told (Kd.R_old (qR HO366.out) hb) (Kd.R_base ho1)) (Kd.R_base ho3)) (Kd.R_base ho4)) (fun _ h_ => h_.1)); have n4_ := Aside0.mk (Kd.R_mono (Kd.R_told (Kd.R_told (Kd.R_told (Kd.R_old (qR HO369.out) hb) (Kd.R_base ho1)) (Kd.R_base ho3)) (Kd.R_base ho4)) (fun _ h_ => h_.1)); have n5_ := Aside0.mk (Kd.R_mono (Kd.R_told (Kd.R_told (Kd.R_told (Kd.R_old (qR HO372.out) hb) (Kd.R_base ho1)) (Kd.R_base ho3)) (Kd.R_base ho4)) (fun _ h_ => h_.1)); have n6_ := Aside0.mk (Kd.R_lower (Kd.R_new' ho0 (Kd.R_lt (qR HO353.out))) (below_size qB)); have n7_ := Aside0.mk (Kd.R_lower (Kd.R_new' (Kd.R_new' (Kd.R_new' (Kd.R_new' ho1 (Kd.R_lt (qR HO359.out))) (Kd.R_lt (qR HO366.out))) (Kd.R_lt (qR HO369.out))) (Kd.R_lt (qR HO372.out))) (below_size qB)); have n8_ := Aside0.mk (Kd.R_lower (Kd.R_new' ho2 (Kd.R_lt (qR HO363.out))) (below_size qB)); have n9_ := Aside0.mk (Kd.R_lower (Kd.R_new' (Kd.R_new' (Kd.R_new' (Kd.R_new' ho3 (Kd.R_lt (qR HO359.out))) (Kd.R_lt (qR HO366.out))) (Kd.R_lt (qR HO369.out))) (Kd.R_lt (qR HO372.out))) (below_size qB)); have n10_ := Aside0.mk (Kd.R_lower (Kd.R_new' (Kd.R_new' (Kd.R_new' (Kd.R_new' ho4 (Kd.R_lt (qR HO359.out))) (Kd.R_lt (qR HO366.out))) (Kd.R_lt (qR HO369.out))) (Kd.R_lt (qR HO372.out))) (below_size qB)); have n11_ := Aside0.mk (qL BK349.out hb); have n12_ := Aside0.mk (below_step qB hb); clear HO353; clear HO359; clear HO363; clear HO366; clear HO369; clear HO372; clear BK349; clear HB; have HO353 := n0_; have HO359 := n1_; have HO363 := n2_; have HO366 := n3_; have HO369 := n4_; have HO372 := n5_; have HO376 := n6_; have HO382 := n7_; have HO386 := n8_; have HO389 := n9_; have HO392 := n10_; have BK349 := n11_; have HB := n12_; clear n0_ n1_ n2_ n3_ n4_ n5_ n6_ n7_ n8_ n9_ n10_ n11_ n12_; (try clear hb); (try clear hb2); (try clear hk); (try clear hi); (try clear ho0); (try clear ho1); (try clear ho2); (try clear ho3); (try clear ho4)) | ((with_reducible refine gate_dst (N := 11) rfl ?_); refine box_event ?hg (N := 11) ?hd (cs := #[.slice none 0 0, .int .i64 0, .int .i64 0, .int .i64 0, .slice none 0 0, .bool false, .slice none 0 0, .slice none 0 0, .slice none 0 0]) (t := 67) ?hr ?_; (case hd => rfl); (case hg => rfl); (case hr => first | (go_simp; done) | (go_simp; rfl)); intro gb393 hg w40 hbox hb; have n0_ := Aside0.mk (Kd.R_below (qR HO353.out) hb); have n1_ := Aside0.mk (Kd.R_below (qR HO359.out) hb); have n2_ := Aside0.mk (Kd.R_below (qR HO363.out) hb); have n3_ := Aside0.mk (Kd.R_below (qR HO366.out) hb); have n4_ := Aside0.mk (Kd.R_below (qR HO369.out) hb); have n5_ := Aside0.mk (Kd.R_below (qR HO372.out) hb); have n6_ := Aside0.mk (Kd.R_below (qR HO376.out) hb); have n7_ := Aside0.mk (Kd.R_below (qR HO382.out) hb); have n8_ := Aside0.mk (Kd.R_below (qR HO386.out) hb); have n9_ := Aside0.mk (Kd.R_below (qR HO389.out) hb); have n10_ := Aside0.mk (Kd.R_below (qR HO392.out) hb); have n11_ := Aside0.mk (qL BK349.out hb); have n12_ := Aside0.mk (below_step qB hb); have n13_ := Aside0.mk (hbox); have n14_ := Aside0.mk ((qG hg : w.heap.size ≤ gb393)); have n15_ := Aside0.mk ((qG hg : w.heap.size ≤ gb393)); have n16_ := Aside0.mk ((qN hg BK349.out : gb349 ≠ gb393)); have n17_ := Aside0.mk ((qO hg BK349.out : gb393 ≠ gb349)); clear HO353; clear HO359; clear HO363; clear HO366; clear HO369; clear HO372; clear HO376; clear HO382; clear HO386; clear HO389; clear HO392; clear BK349; clear HB; have HO353 := n0_; have HO359 := n1_; have HO363 := n2_; have HO366 := n3_; have HO369 := n4_; have HO372 := n5_; have HO376 := n6_; have HO382 := n7_; have HO386 := n8_; have HO389 := n9_; have HO392 := n10_; have BK349 := n11_; have HB := n12_; have BK393 := n13_; have GW393 := n14_; have GE393 := n15_; have NB349_393 := n16_; have NB393_349 := n17_; clear n0_ n1_ n2_ n3_ n4_ n5_ n6_ n7_ n8_ n9_ n10_ n11_ n12_ n13_ n14_ n15_ n16_ n17_; clear hb hbox hg; obtain ⟨Ao41, co41, eo41⟩ := Kd.R_slice HO376.out; subst eo41; have hnb42 := NB393_349.out; have hnc42 := NB349_393.out; have ⟨hcz43_0, hcz43_1, hcz43_2, hcz43_3, hcz43_4, hcz43_5, hcz43_6, hcz43_7, hcz43_8⟩ := qc9 BK393.out; have ⟨hfz43_0, hfz43_1, hfz43_2, hfz43_3, hfz43_4, hfz43_5, hfz43_6, hfz43_7, hfz43_8⟩ := qf9 BK393.out; obtain ⟨Ao44, co44, eo44⟩ := Kd.R_slice HO382.out; subst eo44; obtain ⟨Ao45, co45, eo45⟩ := Kd.R_slice HO386.out; subst eo45; obtain ⟨Ao46, co46, eo46⟩ := Kd.R_slice HO389.out; subst eo46; obtain ⟨Ao47, co47, eo47⟩ := Kd.R_slice HO392.out; subst eo47) | ((with_reducible refine gate_callee (f := 42) rfl ?_); refine goesL_ (some 32) rfl rfl Try.func42 (by kernel_rfl) rfl #[.slice A3 l3.length c3] rfl qM ?_; (with_reducible refine (laws_toIntS.calls k _ _ l3 t394 _ ?side1 ?side2 A16.out).mono ?_); (case side1 => exact Kd.C_below HR3.out qB); (case side2 => exact HC3.out); rintro e w48 ⟨v395, rfl, ho0, hb⟩; refine ⟨_, rfl, ?_⟩; have n0_ := Aside0.mk (Kd.R_below (by (with_reducible repeat (first | apply Kd.R_alloc | apply Kd.R_drewN | apply Kd.R_drew)); exact (Kd.R_mono (Kd.R_far (p := ⟨gb393, 8, none⟩) (Kd.R_far (p := ⟨gb393, 7, none⟩) (Kd.R_far (p := ⟨gb393, 6, none⟩) (Kd.R_far (p := ⟨gb393, 5, none⟩) (Kd.R_far (p := ⟨gb393, 4, none⟩) (Kd.R_far (p := ⟨gb393, 3, none⟩) (Kd.R_far (p := ⟨gb393, 2, none⟩) (Kd.R_far (p := ⟨gb393, 1, none⟩) (Kd.R_far (p := ⟨gb393, 0, none⟩) (Kd.R_types HO353.out BK393.out (by decide)) (fun _ hk => hk.2) (.slice Ao41 t374.length co41)) (fun _ hk => hk.2) (.int .i64 t377)) (fun _ hk => hk.2) (.int .i64 t378)) (fun _ hk => hk.2) (.int .i64 t379)) (fun _ hk => hk.2) (.slice Ao44 t380.length co44)) (fun _ hk => hk.2) (.bool t383)) (fun _ hk => hk.2) (.slice Ao45 t384.length co45)) (fun _ hk => hk.2) (.slice Ao46 t387.length co46)) (fun _ hk => hk.2) (.slice Ao47 t390.length co47)) (fun _ h_ => h_.1))) hb); have n1_ := Aside0.mk (Kd.R_elder' (by (with_reducible repeat (first | apply Kd.R_alloc | apply Kd.R_drewN | apply Kd.R_drew)); exact (Kd.R_mono (Kd.R_far (p := ⟨gb393, 8, none⟩) (Kd.R_far (p := ⟨gb393, 7, none⟩) (Kd.R_far (p := ⟨gb393, 6, none⟩) (Kd.R_far (p := ⟨gb393, 5, none⟩) (Kd.R_far (p := ⟨gb393, 4, none⟩) (Kd.R_far (p := ⟨gb393, 3, none⟩) (Kd.R_far (p := ⟨gb393, 2, none⟩) (Kd.R_far (p := ⟨gb393, 1, none⟩) (Kd.R_far (p := ⟨gb393, 0, none⟩) (Kd.R_types HO359.out BK393.out (by decide)) (fun _ hk => hk.2) (.slice Ao41 t374.length co41)) (fun _ hk => hk.2) (.int .i64 t377)) (fun _ hk => hk.2) (.int .i64 t378)) (fun _ hk => hk.2) (.int .i64 t379)) (fun _ hk => hk.2) (.slice Ao44 t380.length co44)) (fun _ hk => hk.2) (.bool t383)) (fun _ hk => hk.2) (.slice Ao45 t384.length co45)) (fun _ hk => hk.2) (.slice Ao46 t387.length co46)) (fun _ hk => hk.2) (.slice Ao47 t390.length co47)) (fun _ h_ => h_.1))) (Kd.R_base ho0) hb); have n2_ := Aside0.mk (Kd.R_below (by (with_reducible repeat (first | apply Kd.R_alloc | apply Kd.R_drewN | apply Kd.R_drew)); exact (Kd.R_mono (Kd.R_far (p := ⟨gb393, 8, none⟩) (Kd.R_far (p := ⟨gb393, 7, none⟩) (Kd.R_far (p := ⟨gb393, 6, none⟩) (Kd.R_far (p := ⟨gb393, 5, none⟩) (Kd.R_far (p := ⟨gb393, 4, none⟩) (Kd.R_far (p := ⟨gb393, 3, none⟩) (Kd.R_far (p := ⟨gb393, 2, none⟩) (Kd.R_far (p := ⟨gb393, 1, none⟩) (Kd.R_far (p := ⟨gb393, 0, none⟩) (Kd.R_types HO363.out BK393.out (by decide)) (fun _ hk => hk.2) (.slice Ao41 t374.length co41)) (fun _ hk => hk.2) (.int .i64 t377)) (fun _ hk => hk.2) (.int .i64 t378)) (fun _ hk => hk.2) (.int .i64 t379)) (fun _ hk => hk.2) (.slice Ao44 t380.length co44)) (fun _ hk => hk.2) (.bool t383)) (fun _ hk => hk.2) (.slice Ao45 t384.length co45)) (fun _ hk => hk.2) (.slice Ao46 t387.length co46)) (fun _ hk => hk.2) (.slice Ao47 t390.length co47)) (fun _ h_ => h_.1))) hb); have n3_ := Aside0.mk (Kd.R_elder' (by (with_reducible repeat (first | apply Kd.R_alloc | apply Kd.R_drewN | apply Kd.R_drew)); exact (Kd.R_mono (Kd.R_far (p := ⟨gb393, 8, none⟩) (Kd.R_far (p := ⟨gb393, 7, none⟩) (Kd.R_far (p := ⟨gb393, 6, none⟩) (Kd.R_far (p := ⟨gb393, 5, none⟩) (Kd.R_far (p := ⟨gb393, 4, none⟩) (Kd.R_far (p := ⟨gb393, 3, none⟩) (Kd.R_far (p := ⟨gb393, 2, none⟩) (Kd.R_far (p := ⟨gb393, 1, none⟩) (Kd.R_far (p := ⟨gb393, 0, none⟩) (Kd.R_types HO366.out BK393.out (by decide)) (fun _ hk => hk.2) (.slice Ao41 t374.length co41)) (fun _ hk => hk.2) (.int .i64 t377)) (fun _ hk => hk.2) (.int .i64 t378)) (fun _ hk => hk.2) (.int .i64 t379)) (fun _ hk => hk.2) (.slice Ao44 t380.length co44)) (fun _ hk => hk.2) (.bool t383)) (fun _ hk => hk.2) (.slice Ao45 t384.length co45)) (fun _ hk => hk.2) (.slice Ao46 t387.length co46)) (fun _ hk => hk.2) (.slice Ao47 t390.length co47)) (fun _ h_ => h_.1))) (Kd.R_base ho0) hb); have n4_ := Aside0.mk (Kd.R_elder' (by (with_reducible repeat (first | apply Kd.R_alloc | apply Kd.R_drewN | apply Kd.R_drew)); exact (Kd.R_mono (Kd.R_far (p := ⟨gb393, 8, none⟩) (Kd.R_far (p := ⟨gb393, 7, none⟩) (Kd.R_far (p := ⟨gb393, 6, none⟩) (Kd.R_far (p := ⟨gb393, 5, none⟩) (Kd.R_far (p := ⟨gb393, 4, none⟩) (Kd.R_far (p := ⟨gb393, 3, none⟩) (Kd.R_far (p := ⟨gb393, 2, none⟩) (Kd.R_far (p := ⟨gb393, 1, none⟩) (Kd.R_far (p := ⟨gb393, 0, none⟩) (Kd.R_types HO369.out BK393.out (by decide)) (fun _ hk => hk.2) (.slice Ao41 t374.length co41)) (fun _ hk => hk.2) (.int .i64 t377)) (fun _ hk => hk.2) (.int .i64 t378)) (fun _ hk => hk.2) (.int .i64 t379)) (fun _ hk => hk.2) (.slice Ao44 t380.length co44)) (fun _ hk => hk.2) (.bool t383)) (fun _ hk => hk.2) (.slice Ao45 t384.length co45)) (fun _ hk => hk.2) (.slice Ao46 t387.length co46)) (fun _ hk => hk.2) (.slice Ao47 t390.length co47)) (fun _ h_ => h_.1))) (Kd.R_base ho0) hb); have n5_ := Aside0.mk (Kd.R_elder' (by (with_reducible repeat (first | apply Kd.R_alloc | apply Kd.R_drewN | apply Kd.R_drew)); exact (Kd.R_mono (Kd.R_far (p := ⟨gb393, 8, none⟩) (Kd.R_far (p := ⟨gb393, 7, none⟩) (Kd.R_far (p := ⟨gb393, 6, none⟩) (Kd.R_far (p := ⟨gb393, 5, none⟩) (Kd.R_far (p := ⟨gb393, 4, none⟩) (Kd.R_far (p := ⟨gb393, 3, none⟩) (Kd.R_far (p := ⟨gb393, 2, none⟩) (Kd.R_far (p := ⟨gb393, 1, none⟩) (Kd.R_far (p := ⟨gb393, 0, none⟩) (Kd.R_types HO372.out BK393.out (by decide)) (fun _ hk => hk.2) (.slice Ao41 t374.length co41)) (fun _ hk => hk.2) (.int .i64 t377)) (fun _ hk => hk.2) (.int .i64 t378)) (fun _ hk => hk.2) (.int .i64 t379)) (fun _ hk => hk.2) (.slice Ao44 t380.length co44)) (fun _ hk => hk.2) (.bool t383)) (fun _ hk => hk.2) (.slice Ao45 t384.length co45)) (fun _ hk => hk.2) (.slice Ao46 t387.length co46)) (fun _ hk => hk.2) (.slice Ao47 t390.length co47)) (fun _ h_ => h_.1))) (Kd.R_base ho0) hb); have n6_ := Aside0.mk (Kd.R_below (by (with_reducible repeat (first | apply Kd.R_alloc | apply Kd.R_drewN | apply Kd.R_drew)); exact (Kd.R_mono (Kd.R_far (p := ⟨gb393, 8, none⟩) (Kd.R_far (p := ⟨gb393, 7, none⟩) (Kd.R_far (p := ⟨gb393, 6, none⟩) (Kd.R_far (p := ⟨gb393, 5, none⟩) (Kd.R_far (p := ⟨gb393, 4, none⟩) (Kd.R_far (p := ⟨gb393, 3, none⟩) (Kd.R_far (p := ⟨gb393, 2, none⟩) (Kd.R_far (p := ⟨gb393, 1, none⟩) (Kd.R_far (p := ⟨gb393, 0, none⟩) (Kd.R_types HO376.out BK393.out (by decide)) (fun _ hk => hk.2) (.slice Ao41 t374.length co41)) (fun _ hk => hk.2) (.int .i64 t377)) (fun _ hk => hk.2) (.int .i64 t378)) (fun _ hk => hk.2) (.int .i64 t379)) (fun _ hk => hk.2) (.slice Ao44 t380.length co44)) (fun _ hk => hk.2) (.bool t383)) (fun _ hk => hk.2) (.slice Ao45 t384.length co45)) (fun _ hk => hk.2) (.slice Ao46 t387.length co46)) (fun _ hk => hk.2) (.slice Ao47 t390.length co47)) (fun _ h_ => h_.1))) hb); have n7_ := Aside0.mk (Kd.R_elder' (by (with_reducible repeat (first | apply Kd.R_alloc | apply Kd.R_drewN | apply Kd.R_drew)); exact (Kd.R_mono (Kd.R_far (p := ⟨gb393, 8, none⟩) (Kd.R_far (p := ⟨gb393, 7, none⟩) (Kd.R_far (p := ⟨gb393, 6, none⟩) (Kd.R_far (p := ⟨gb393, 5, none⟩) (Kd.R_far (p := ⟨gb393, 4, none⟩) (Kd.R_far (p := ⟨gb393, 3, none⟩) (Kd.R_far (p := ⟨gb393, 2, none⟩) (Kd.R_far (p := ⟨gb393, 1, none⟩) (Kd.R_far (p := ⟨gb393, 0, none⟩) (Kd.R_types HO382.out BK393.out (by decide)) (fun _ hk => hk.2) (.slice Ao41 t374.length co41)) (fun _ hk => hk.2) (.int .i64 t377)) (fun _ hk => hk.2) (.int .i64 t378)) (fun _ hk => hk.2) (.int .i64 t379)) (fun _ hk => hk.2) (.slice Ao44 t380.length co44)) (fun _ hk => hk.2) (.bool t383)) (fun _ hk => hk.2) (.slice Ao45 t384.length co45)) (fun _ hk => hk.2) (.slice Ao46 t387.length co46)) (fun _ hk => hk.2) (.slice Ao47 t390.length co47)) (fun _ h_ => h_.1))) (Kd.R_base ho0) hb); have n8_ := Aside0.mk (Kd.R_below (by (with_reducible repeat (first | apply Kd.R_alloc | apply Kd.R_drewN | apply Kd.R_drew)); exact (Kd.R_mono (Kd.R_far (p := ⟨gb393, 8, none⟩) (Kd.R_far (p := ⟨gb393, 7, none⟩) (Kd.R_far (p := ⟨gb393, 6, none⟩) (Kd.R_far (p := ⟨gb393, 5, none⟩) (Kd.R_far (p := ⟨gb393, 4, none⟩) (Kd.R_far (p := ⟨gb393, 3, none⟩) (Kd.R_far (p := ⟨gb393, 2, none⟩) (Kd.R_far (p := ⟨gb393, 1, none⟩) (Kd.R_far (p := ⟨gb393, 0, none⟩) (Kd.R_types HO386.out BK393.out (by decide)) (fun _ hk => hk.2) (.slice Ao41 t374.length co41)) (fun _ hk => hk.2) (.int .i64 t377)) (fun _ hk => hk.2) (.int .i64 t378)) (fun _ hk => hk.2) (.int .i64 t379)) (fun _ hk => hk.2) (.slice Ao44 t380.length co44)) (fun _ hk => hk.2) (.bool t383)) (fun _ hk => hk.2) (.slice Ao45 t384.length co45)) (fun _ hk => hk.2) (.slice Ao46 t387.length co46)) (fun _ hk => hk.2) (.slice Ao47 t390.length co47)) (fun _ h_ => h_.1))) hb); have n9_ := Aside0.mk (Kd.R_elder' (by (with_reducible repeat (first | apply Kd.R_alloc | apply Kd.R_drewN | apply Kd.R_drew)); exact (Kd.R_mono (Kd.R_far (p := ⟨gb393, 8, none⟩) (Kd.R_far (p := ⟨gb393, 7, none⟩) (Kd.R_far (p := ⟨gb393, 6, none⟩) (Kd.R_far (p := ⟨gb393, 5, none⟩) (Kd.R_far (p := ⟨gb393, 4, none⟩) (Kd.R_far (p := ⟨gb393, 3, none⟩) (Kd.R_far (p := ⟨gb393, 2, none⟩) (Kd.R_far (p := ⟨gb393, 1, none⟩) (Kd.R_far (p := ⟨gb393, 0, none⟩) (Kd.R_types HO389.out BK393.out (by decide)) (fun _ hk => hk.2) (.slice Ao41 t374.length co41)) (fun _ hk => hk.2) (.int .i64 t377)) (fun _ hk => hk.2) (.int .i64 t378)) (fun _ hk => hk.2) (.int .i64 t379)) (fun _ hk => hk.2) (.slice Ao44 t380.length co44)) (fun _ hk => hk.2) (.bool t383)) (fun _ hk => hk.2) (.slice Ao45 t384.length co45)) (fun _ hk => hk.2) (.slice Ao46 t387.length co46)) (fun _ hk => hk.2) (.slice Ao47 t390.length co47)) (fun _ h_ => h_.1))) (Kd.R_base ho0) hb); have n10_ := Aside0.mk (Kd.R_elder' (by (with_reducible repeat (first | apply Kd.R_alloc | apply Kd.R_drewN | apply Kd.R_drew)); exact (Kd.R_mono (Kd.R_far (p := ⟨gb393, 8, none⟩) (Kd.R_far (p := ⟨gb393, 7, none⟩) (Kd.R_far (p := ⟨gb393, 6, none⟩) (Kd.R_far (p := ⟨gb393, 5, none⟩) (Kd.R_far (p := ⟨gb393, 4, none⟩) (Kd.R_far (p := ⟨gb393, 3, none⟩) (Kd.R_far (p := ⟨gb393, 2, none⟩) (Kd.R_far (p := ⟨gb393, 1, none⟩) (Kd.R_far (p := ⟨gb393, 0, none⟩) (Kd.R_types HO392.out BK393.out (by decide)) (fun _ hk => hk.2) (.slice Ao41 t374.length co41)) (fun _ hk => hk.2) (.int .i64 t377)) (fun _ hk => hk.2) (.int .i64 t378)) (fun _ hk => hk.2) (.int .i64 t379)) (fun _ hk => hk.2) (.slice Ao44 t380.length co44)) (fun _ hk => hk.2) (.bool t383)) (fun _ hk => hk.2) (.slice Ao45 t384.length co45)) (fun _ hk => hk.2) (.slice Ao46 t387.length co46)) (fun _ hk => hk.2) (.slice Ao47 t390.length co47)) (fun _ h_ => h_.1))) (Kd.R_base ho0) hb); have n11_ := Aside0.mk (Kd.R_lower (Kd.R_new' (Kd.R_new' (Kd.R_new' (Kd.R_new' (Kd.R_new' (Kd.R_new' (Kd.R_new' ho0 (Kd.R_lt (by (with_reducible repeat (first | apply Kd.R_alloc | apply Kd.R_drewN | apply Kd.R_drew)); exact (Kd.R_mono (Kd.R_far (p := ⟨gb393, 8, none⟩) (Kd.R_far (p := ⟨gb393, 7, none⟩) (Kd.R_far (p := ⟨gb393, 6, none⟩) (Kd.R_far (p := ⟨gb393, 5, none⟩) (Kd.R_far (p := ⟨gb393, 4, none⟩) (Kd.R_far (p := ⟨gb393, 3, none⟩) (Kd.R_far (p := ⟨gb393, 2, none⟩) (Kd.R_far (p := ⟨gb393, 1, none⟩) (Kd.R_far (p := ⟨gb393, 0, none⟩) (Kd.R_types HO359.out BK393.out (by decide)) (fun _ hk => hk.2) (.slice Ao41 t374.length co41)) (fun _ hk => hk.2) (.int .i64 t377)) (fun _ hk => hk.2) (.int .i64 t378)) (fun _ hk => hk.2) (.int .i64 t379)) (fun _ hk => hk.2) (.slice Ao44 t380.length co44)) (fun _ hk => hk.2) (.bool t383)) (fun _ hk => hk.2) (.slice Ao45 t384.length co45)) (fun _ hk => hk.2) (.slice Ao46 t387.length co46)) (fun _ hk => hk.2) (.slice Ao47 t390.length co47)) (fun _ h_ => h_.1))))) (Kd.R_lt (by (with_reducible repeat (first | apply Kd.R_alloc | apply Kd.R_drewN | apply Kd.R_drew)); exact (Kd.R_mono (Kd.R_far (p := ⟨gb393, 8, none⟩) (Kd.R_far (p := ⟨gb393, 7, none⟩) (Kd.R_far (p := ⟨gb393, 6, none⟩) (Kd.R_far (p := ⟨gb393, 5, none⟩) (Kd.R_far (p := ⟨gb393, 4, none⟩) (Kd.R_far (p := ⟨gb393, 3, none⟩) (Kd.R_far (p := ⟨gb393, 2, none⟩) (Kd.R_far (p := ⟨gb393, 1, none⟩) (Kd.R_far (p := ⟨gb393, 0, none⟩) (Kd.R_types HO366.out BK393.out (by decide)) (fun _ hk => hk.2) (.slice Ao41 t374.length co41)) (fun _ hk => hk.2) (.int .i64 t377)) (fun _ hk => hk.2) (.int .i64 t378)) (fun _ hk => hk.2) (.int .i64 t379)) (fun _ hk => hk.2) (.slice Ao44 t380.length co44)) (fun _ hk => hk.2) (.bool t383)) (fun _ hk => hk.2) (.slice Ao45 t384.length co45)) (fun _ hk => hk.2) (.slice Ao46 t387.length co46)) (fun _ hk => hk.2) (.slice Ao47 t390.length co47)) (fun _ h_ => h_.1))))) (Kd.R_lt (by (with_reducible repeat (first | apply Kd.R_alloc | apply Kd.R_drewN | apply Kd.R_drew)); exact (Kd.R_mono (Kd.R_far (p := ⟨gb393, 8, none⟩) (Kd.R_far (p := ⟨gb393, 7, none⟩) (Kd.R_far (p := ⟨gb393, 6, none⟩) (Kd.R_far (p := ⟨gb393, 5, none⟩) (Kd.R_far (p := ⟨gb393, 4, none⟩) (Kd.R_far (p := ⟨gb393, 3, none⟩) (Kd.R_far (p := ⟨gb393, 2, none⟩) (Kd.R_far (p := ⟨gb393, 1, none⟩) (Kd.R_far (p := ⟨gb393, 0, none⟩) (Kd.R_types HO369.out BK393.out (by decide)) (fun _ hk => hk.2) (.slice Ao41 t374.length co41)) (fun _ hk => hk.2) (.int .i64 t377)) (fun _ hk => hk.2) (.int .i64 t378)) (fun _ hk => hk.2) (.int .i64 t379)) (fun _ hk => hk.2) (.slice Ao44 t380.length co44)) (fun _ hk => hk.2) (.bool t383)) (fun _ hk => hk.2) (.slice Ao45 t384.length co45)) (fun _ hk => hk.2) (.slice Ao46 t387.length co46)) (fun _ hk => hk.2) (.slice Ao47 t390.length co47)) (fun _ h_ => h_.1))))) (Kd.R_lt (by (with_reducible repeat (first | apply Kd.R_alloc | apply Kd.R_drewN | apply Kd.R_drew)); exact (Kd.R_mono (Kd.R_far (p := ⟨gb393, 8, none⟩) (Kd.R_far (p := ⟨gb393, 7, none⟩) (Kd.R_far (p := ⟨gb393, 6, none⟩) (Kd.R_far (p := ⟨gb393, 5, none⟩) (Kd.R_far (p := ⟨gb393, 4, none⟩) (Kd.R_far (p := ⟨gb393, 3, none⟩) (Kd.R_far (p := ⟨gb393, 2, none⟩) (Kd.R_far (p := ⟨gb393, 1, none⟩) (Kd.R_far (p := ⟨gb393, 0, none⟩) (Kd.R_types HO372.out BK393.out (by decide)) (fun _ hk => hk.2) (.slice Ao41 t374.length co41)) (fun _ hk => hk.2) (.int .i64 t377)) (fun _ hk => hk.2) (.int .i64 t378)) (fun _ hk => hk.2) (.int .i64 t379)) (fun _ hk => hk.2) (.slice Ao44 t380.length co44)) (fun _ hk => hk.2) (.bool t383)) (fun _ hk => hk.2) (.slice Ao45 t384.length co45)) (fun _ hk => hk.2) (.slice Ao46 t387.length co46)) (fun _ hk => hk.2) (.slice Ao47 t390.length co47)) (fun _ h_ => h_.1))))) (Kd.R_lt (by (with_reducible repeat (first | apply Kd.R_alloc | apply Kd.R_drewN | apply Kd.R_drew)); exact (Kd.R_mono (Kd.R_far (p := ⟨gb393, 8, none⟩) (Kd.R_far (p := ⟨gb393, 7, none⟩) (Kd.R_far (p := ⟨gb393, 6, none⟩) (Kd.R_far (p := ⟨gb393, 5, none⟩) (Kd.R_far (p := ⟨gb393, 4, none⟩) (Kd.R_far (p := ⟨gb393, 3, none⟩) (Kd.R_far (p := ⟨gb393, 2, none⟩) (Kd.R_far (p := ⟨gb393, 1, none⟩) (Kd.R_far (p := ⟨gb393, 0, none⟩) (Kd.R_types HO382.out BK393.out (by decide)) (fun _ hk => hk.2) (.slice Ao41 t374.length co41)) (fun _ hk => hk.2) (.int .i64 t377)) (fun _ hk => hk.2) (.int .i64 t378)) (fun _ hk => hk.2) (.int .i64 t379)) (fun _ hk => hk.2) (.slice Ao44 t380.length co44)) (fun _ hk => hk.2) (.bool t383)) (fun _ hk => hk.2) (.slice Ao45 t384.length co45)) (fun _ hk => hk.2) (.slice Ao46 t387.length co46)) (fun _ hk => hk.2) (.slice Ao47 t390.length co47)) (fun _ h_ => h_.1))))) (Kd.R_lt (by (with_reducible repeat (first | apply Kd.R_alloc | apply Kd.R_drewN | apply Kd.R_drew)); exact (Kd.R_mono (Kd.R_far (p := ⟨gb393, 8, none⟩) (Kd.R_far (p := ⟨gb393, 7, none⟩) (Kd.R_far (p := ⟨gb393, 6, none⟩) (Kd.R_far (p := ⟨gb393, 5, none⟩) (Kd.R_far (p := ⟨gb393, 4, none⟩) (Kd.R_far (p := ⟨gb393, 3, none⟩) (Kd.R_far (p := ⟨gb393, 2, none⟩) (Kd.R_far (p := ⟨gb393, 1, none⟩) (Kd.R_far (p := ⟨gb393, 0, none⟩) (Kd.R_types HO389.out BK393.out (by decide)) (fun _ hk => hk.2) (.slice Ao41 t374.length co41)) (fun _ hk => hk.2) (.int .i64 t377)) (fun _ hk => hk.2) (.int .i64 t378)) (fun _ hk => hk.2) (.int .i64 t379)) (fun _ hk => hk.2) (.slice Ao44 t380.length co44)) (fun _ hk => hk.2) (.bool t383)) (fun _ hk => hk.2) (.slice Ao45 t384.length co45)) (fun _ hk => hk.2) (.slice Ao46 t387.length co46)) (fun _ hk => hk.2) (.slice Ao47 t390.length co47)) (fun _ h_ => h_.1))))) (Kd.R_lt (by (with_reducible repeat (first | apply Kd.R_alloc | apply Kd.R_drewN | apply Kd.R_drew)); exact (Kd.R_mono (Kd.R_far (p := ⟨gb393, 8, none⟩) (Kd.R_far (p := ⟨gb393, 7, none⟩) (Kd.R_far (p := ⟨gb393, 6, none⟩) (Kd.R_far (p := ⟨gb393, 5, none⟩) (Kd.R_far (p := ⟨gb393, 4, none⟩) (Kd.R_far (p := ⟨gb393, 3, none⟩) (Kd.R_far (p := ⟨gb393, 2, none⟩) (Kd.R_far (p := ⟨gb393, 1, none⟩) (Kd.R_far (p := ⟨gb393, 0, none⟩) (Kd.R_types HO392.out BK393.out (by decide)) (fun _ hk => hk.2) (.slice Ao41 t374.length co41)) (fun _ hk => hk.2) (.int .i64 t377)) (fun _ hk => hk.2) (.int .i64 t378)) (fun _ hk => hk.2) (.int .i64 t379)) (fun _ hk => hk.2) (.slice Ao44 t380.length co44)) (fun _ hk => hk.2) (.bool t383)) (fun _ hk => hk.2) (.slice Ao45 t384.length co45)) (fun _ hk => hk.2) (.slice Ao46 t387.length co46)) (fun _ hk => hk.2) (.slice Ao47 t390.length co47)) (fun _ h_ => h_.1))))) (below_size qB)); have n12_ := Aside0.mk (qL BK349.out hb); have n13_ := Aside0.mk (blk_below (g := gb393) (o := .cells #[.slice Ao41 t374.length co41, .int .i64 t377, .int .i64 t378, .int .i64 t379, .slice Ao44 t380.length co44, .bool t383, .slice Ao45 t384.length co45, .slice Ao46 t387.length co46, .slice Ao47 t390.length co47] 67 (0, 0)) (by (with_reducible repeat (first | refine blk_drewN ?_ _ | refine blk_drew ?_ | refine blk_alloc ?_ _)); refine blk_put (cs := #[.slice Ao41 t374.length co41, .int .i64 t377, .int .i64 t378, .int .i64 t379, .slice Ao44 t380.length co44, .bool t383, .slice Ao45 t384.length co45, .slice Ao46 t387.length co46, .slice none 0 0]) ?_ 8 _ rfl; refine blk_put (cs := #[.slice Ao41 t374.length co41, .int .i64 t377, .int .i64 t378, .int .i64 t379, .slice Ao44 t380.length co44, .bool t383, .slice Ao45 t384.length co45, .slice none 0 0, .slice none 0 0]) ?_ 7 _ rfl; refine blk_put (cs := #[.slice Ao41 t374.length co41, .int .i64 t377, .int .i64 t378, .int .i64 t379, .slice Ao44 t380.length co44, .bool t383, .slice none 0 0, .slice none 0 0, .slice none 0 0]) ?_ 6 _ rfl; refine blk_put (cs := #[.slice Ao41 t374.length co41, .int .i64 t377, .int .i64 t378, .int .i64 t379, .slice Ao44 t380.length co44, .bool false, .slice none 0 0, .slice none 0 0, .slice none 0 0]) ?_ 5 _ rfl; refine blk_put (cs := #[.slice Ao41 t374.length co41, .int .i64 t377, .int .i64 t378, .int .i64 t379, .slice none 0 0, .bool false, .slice none 0 0, .slice none 0 0, .slice none 0 0]) ?_ 4 _ rfl; refine blk_put (cs := #[.slice Ao41 t374.length co41, .int .i64 t377, .int .i64 t378, .int .i64 0, .slice none 0 0, .bool false, .slice none 0 0, .slice none 0 0, .slice none 0 0]) ?_ 3 _ rfl; refine blk_put (cs := #[.slice Ao41 t374.length co41, .int .i64 t377, .int .i64 0, .int .i64 0, .slice none 0 0, .bool false, .slice none 0 0, .slice none 0 0, .slice none 0 0]) ?_ 2 _ rfl; refine blk_put (cs := #[.slice Ao41 t374.length co41, .int .i64 0, .int .i64 0, .int .i64 0, .slice none 0 0, .bool false, .slice none 0 0, .slice none 0 0, .slice none 0 0]) ?_ 1 _ rfl; refine blk_put (cs := #[.slice none 0 0, .int .i64 0, .int .i64 0, .int .i64 0, .slice none 0 0, .bool false, .slice none 0 0, .slice none 0 0, .slice none 0 0]) ?_ 0 _ rfl; (with_reducible repeat (first | refine blk_drewN ?_ _ | refine blk_drew ?_ | refine blk_alloc ?_ _)); exact BK393.out) hb); have n14_ := Aside0.mk (below_step qB hb); clear HO353; clear HO359; clear HO363; clear HO366; clear HO369; clear HO372; clear HO376; clear HO382; clear HO386; clear HO389; clear HO392; clear BK349; clear BK393; clear HB; have HO353 := n0_; have HO359 := n1_; have HO363 := n2_; have HO366 := n3_; have HO369 := n4_; have HO372 := n5_; have HO376 := n6_; have HO382 := n7_; have HO386 := n8_; have HO389 := n9_; have HO392 := n10_; have HO396 := n11_; have BK349 := n12_; have BK393 := n13_; have HB := n14_; clear n0_ n1_ n2_ n3_ n4_ n5_ n6_ n7_ n8_ n9_ n10_ n11_ n12_ n13_ n14_; (try clear hb); (try clear hb2); (try clear hk); (try clear hi); (try clear ho0); have ⟨hcz49_0, hcz49_1, hcz49_2, hcz49_3, hcz49_4, hcz49_5, hcz49_6, hcz49_7, hcz49_8⟩ := qc9 BK393.out; have ⟨hfz49_0, hfz49_1, hfz49_2, hfz49_3, hfz49_4, hfz49_5, hfz49_6, hfz49_7, hfz49_8⟩ := qf9 BK393.out; obtain ⟨Ao50, co50, eo50⟩ := Kd.R_slice HO396.out; subst eo50) | ((with_reducible refine gate_callee (f := 56) rfl ?_); refine goesL_ (some 37) rfl rfl Try.func56 (by kernel_rfl) rfl #[.agg #[.slice Ao41 t374.length co41, .int .i64 t377, .int .i64 t378, .int .i64 t379, .slice Ao44 t380.length co44, .bool t383, .slice Ao45 t384.length co45, .slice Ao46 t387.length co46, .slice Ao47 t390.length co47], .int .i64 a1, .int .i64 a2, .slice Ao50 t394.length co50] rfl qM ?_; (with_reducible refine (impl_KeyValue.calls k _ _ t374 t377 t378 t379 _ _ t380 t383 _ _ t384 _ _ t387 _ _ t390 a1 a2 _ _ t394 t397 _ ?side1 ?side2 ?side3 ?side4 ?side5 ?side6 ?side7 ?side8 ?side9 ?side10 ?side11 ?side12 A17.out).mono ?_); (case side1 => repeat (first | exact (Kd.R_reads' HO376.out).2.2 | (with_reducible refine Kd.C_alloc ?_ _) | (with_reducible refine Kd.C_drewN ?_ _) | (with_reducible refine Kd.C_drew ?_))); (case side2 => exact (Kd.R_reads' HO376.out).2.1); (case side3 => repeat (first | exact (Kd.R_reads' HO382.out).2.2 | (with_reducible refine Kd.C_alloc ?_ _) | (with_reducible refine Kd.C_drewN ?_ _) | (with_reducible refine Kd.C_drew ?_))); (case side4 => exact (Kd.R_reads' HO382.out).2.1); (case side5 => repeat (first | exact (Kd.R_reads' HO386.out).2.2 | (with_reducible refine Kd.C_alloc ?_ _) | (with_reducible refine Kd.C_drewN ?_ _) | (with_reducible refine Kd.C_drew ?_))); (case side6 => exact (Kd.R_reads' HO386.out).2.1); (case side7 => repeat (first | exact (Kd.R_reads' HO389.out).2.2 | (with_reducible refine Kd.C_alloc ?_ _) | (with_reducible refine Kd.C_drewN ?_ _) | (with_reducible refine Kd.C_drew ?_))); (case side8 => exact (Kd.R_reads' HO389.out).2.1); (case side9 => repeat (first | exact (Kd.R_reads' HO392.out).2.2 | (with_reducible refine Kd.C_alloc ?_ _) | (with_reducible refine Kd.C_drewN ?_ _) | (with_reducible refine Kd.C_drew ?_))); (case side10 => exact (Kd.R_reads' HO392.out).2.1); (case side11 => repeat (first | exact (Kd.R_reads' HO396.out).2.2 | (with_reducible refine Kd.C_alloc ?_ _) | (with_reducible refine Kd.C_drewN ?_ _) | (with_reducible refine Kd.C_drew ?_))); (case side12 => exact (Kd.R_reads' HO396.out).2.1); rintro e w51 ⟨rfl, hb⟩; refine ⟨_, rfl, ?_⟩; have n0_ := Aside0.mk (Kd.R_below (qR HO353.out) hb); have n1_ := Aside0.mk (Kd.R_below (qR HO359.out) hb); have n2_ := Aside0.mk (Kd.R_below (qR HO363.out) hb); have n3_ := Aside0.mk (Kd.R_below (qR HO366.out) hb); have n4_ := Aside0.mk (Kd.R_below (qR HO369.out) hb); have n5_ := Aside0.mk (Kd.R_below (qR HO372.out) hb); have n6_ := Aside0.mk (Kd.R_below (qR HO376.out) hb); have n7_ := Aside0.mk (Kd.R_below (qR HO382.out) hb); have n8_ := Aside0.mk (Kd.R_below (qR HO386.out) hb); have n9_ := Aside0.mk (Kd.R_below (qR HO389.out) hb); have n10_ := Aside0.mk (Kd.R_below (qR HO392.out) hb); have n11_ := Aside0.mk (Kd.R_below (qR HO396.out) hb); have n12_ := Aside0.mk (qL BK349.out hb); have n13_ := Aside0.mk (qL BK393.out hb); have n14_ := Aside0.mk (below_step qB hb); clear HO353; clear HO359; clear HO363; clear HO366; clear HO369; clear HO372; clear HO376; clear HO382; clear HO386; clear HO389; clear HO392; clear HO396; clear BK349; clear BK393; clear HB; have HO353 := n0_; have HO359 := n1_; have HO363 := n2_; have HO366 := n3_; have HO369 := n4_; have HO372 := n5_; have HO376 := n6_; have HO382 := n7_; have HO386 := n8_; have HO389 := n9_; have HO392 := n10_; have HO396 := n11_; have BK349 := n12_; have BK393 := n13_; have HB := n14_; clear n0_ n1_ n2_ n3_ n4_ n5_ n6_ n7_ n8_ n9_ n10_ n11_ n12_ n13_ n14_; (try clear hb); (try clear hb2); (try clear hk); (try clear hi)))
            have n0_ := Aside0.mk (Kd.R_drew HO353.out)
            have n1_ := Aside0.mk (Kd.R_drew HO359.out)
            have n2_ := Aside0.mk (Kd.R_drew HO363.out)
            have n3_ := Aside0.mk (Kd.R_drew HO366.out)
            have n4_ := Aside0.mk (Kd.R_drew HO369.out)
            have n5_ := Aside0.mk (Kd.R_drew HO372.out)
            have n6_ := Aside0.mk (Kd.R_drew HO376.out)
            have n7_ := Aside0.mk (Kd.R_drew HO382.out)
            have n8_ := Aside0.mk (Kd.R_drew HO386.out)
            have n9_ := Aside0.mk (Kd.R_drew HO389.out)
            have n10_ := Aside0.mk (Kd.R_drew HO392.out)
            have n11_ := Aside0.mk (Kd.R_drew HO396.out)
            have n12_ := Aside0.mk (blk_drew BK349.out)
            have n13_ := Aside0.mk (blk_drew BK393.out)
            have n14_ := Aside0.mk (below_drew1 HB.out)
            clear HO353
            clear HO359
            clear HO363
            clear HO366
            clear HO369
            clear HO372
            clear HO376
            clear HO382
            clear HO386
            clear HO389
            clear HO392
            clear HO396
            clear BK349
            clear BK393
            clear HB
            have HO353 := n0_
            have HO359 := n1_
            have HO363 := n2_
            have HO366 := n3_
            have HO369 := n4_
            have HO372 := n5_
            have HO376 := n6_
            have HO382 := n7_
            have HO386 := n8_
            have HO389 := n9_
            have HO392 := n10_
            have HO396 := n11_
            have BK349 := n12_
            have BK393 := n13_
            have HB := n14_
            clear n0_ n1_ n2_ n3_ n4_ n5_ n6_ n7_ n8_ n9_ n10_ n11_ n12_ n13_ n14_
            refine start_ (n := 5) (S := fun w' => w'.cell? ⟨gb393, 0, none⟩ = some (.slice Ao41 t374.length co41) ∧ w'.cell? ⟨gb393, 1, none⟩ = some (.int .i64 t377) ∧ w'.cell? ⟨gb393, 2, none⟩ = some (.int .i64 t378) ∧ w'.cell? ⟨gb393, 3, none⟩ = some (.int .i64 t379) ∧ w'.cell? ⟨gb393, 4, none⟩ = some (.slice Ao44 t380.length co44) ∧ w'.cell? ⟨gb393, 5, none⟩ = some (.bool t383) ∧ w'.cell? ⟨gb393, 6, none⟩ = some (.slice Ao45 t384.length co45) ∧ w'.cell? ⟨gb393, 7, none⟩ = some (.slice Ao46 t387.length co46) ∧ w'.cell? ⟨gb393, 8, none⟩ = some (.slice Ao47 t390.length co47) ∧ w'.cell? ⟨gb349, 0, none⟩ = some (.slice A0_0 l0_0.length c0_0) ∧ w'.cell? ⟨gb349, 1, none⟩ = some (.int .i64 a0_1) ∧ w'.cell? ⟨gb349, 2, none⟩ = some (.int .i64 a0_2) ∧ w'.cell? ⟨gb349, 3, none⟩ = some (.int .i64 a0_3) ∧ w'.cell? ⟨gb349, 4, none⟩ = some (.slice A0_4 l0_4.length c0_4) ∧ w'.cell? ⟨gb349, 5, none⟩ = some (.bool a0_5) ∧ w'.cell? ⟨gb349, 6, none⟩ = some (.slice A0_6 l0_6.length c0_6) ∧ w'.cell? ⟨gb349, 7, none⟩ = some (.slice A0_7 l0_7.length c0_7) ∧ w'.cell? ⟨gb349, 8, none⟩ = some (.slice A0_8 l0_8.length c0_8)) (ds := []) #[false, false, false, false, false] (by kernel_rfl) rfl rfl ⟨(blk_cell BK393.out 0).trans rfl, (blk_cell BK393.out 1).trans rfl, (blk_cell BK393.out 2).trans rfl, (blk_cell BK393.out 3).trans rfl, (blk_cell BK393.out 4).trans rfl, (blk_cell BK393.out 5).trans rfl, (blk_cell BK393.out 6).trans rfl, (blk_cell BK393.out 7).trans rfl, (blk_cell BK393.out 8).trans rfl, (blk_cell BK349.out 0).trans rfl, (blk_cell BK349.out 1).trans rfl, (blk_cell BK349.out 2).trans rfl, (blk_cell BK349.out 3).trans rfl, (blk_cell BK349.out 4).trans rfl, (blk_cell BK349.out 5).trans rfl, (blk_cell BK349.out 6).trans rfl, (blk_cell BK349.out 7).trans rfl, (blk_cell BK349.out 8).trans rfl⟩ (fun hHeld => ?_)
            generalize w51.drew = w52 at HO353 HO359 HO363 HO366 HO369 HO372 HO376 HO382 HO386 HO389 HO392 HO396 BK349 BK393 HB hHeld ⊢
            refine take_ (i := 0) (N := some 41) (v := ?_) (a' := ?_) #[true, false, false, false, false] rfl rfl (by kernel_rfl) (fun _ _ _ h => h) (Or.inl ⟨by rfl, ?_⟩) hHeld ?_ ?_
            rotate_left
            · rintro w' ⟨s0, s1, s2, s3, s4, s5, s6, s7, s8, s9, s10, s11, s12, s13, s14, s15, s16, s17⟩
              go_simp
              with_reducible rfl
            rotate_left
            · simp only [Act.put, List.setIfInBounds_toArray, List.set_cons_zero, List.set_cons_succ, i64_w, i32_w]
              rfl
            refine take_ (i := 1) (N := some 42) (v := ?_) (a' := ?_) #[true, true, false, false, false] rfl rfl (by kernel_rfl) (fun _ _ _ h => h) (Or.inl ⟨by rfl, ?_⟩) hHeld ?_ ?_
            rotate_left
            · rintro w' ⟨s0, s1, s2, s3, s4, s5, s6, s7, s8, s9, s10, s11, s12, s13, s14, s15, s16, s17⟩
              go_simp
              with_reducible rfl
            rotate_left
            · simp only [Act.put, List.setIfInBounds_toArray, List.set_cons_zero, List.set_cons_succ, i64_w, i32_w]
              rfl
            refine one_ (i := 2) (N := some 43) #[true, true, true, false, false] rfl rfl (by kernel_rfl) (by decide) (fun K hK => ?_)
            refine goes_ Try.func55 (by kernel_rfl) rfl #[.agg #[.slice A0_0 l0_0.length c0_0, .int .i64 a0_1, .int .i64 a0_2, .int .i64 a0_3, .slice A0_4 l0_4.length c0_4, .bool a0_5, .slice A0_6 l0_6.length c0_6, .slice A0_7 l0_7.length c0_7, .slice A0_8 l0_8.length c0_8]] (by rfl) rfl rfl qM ?_
            with_reducible refine (laws_toBook.calls k _ _ l0_0 a0_1 a0_2 a0_3 _ _ l0_4 a0_5 _ _ l0_6 _ _ l0_7 _ _ l0_8 t398 t401 t402 t403 t404 t407 t408 t411 t414 _ ?side1 ?side2 ?side3 ?side4 ?side5 ?side6 ?side7 ?side8 ?side9 ?side10 A19.out).mono ?_
            (case side1 => exact qC HR0_0.out)
            (case side2 => exact HC0_0.out)
            (case side3 => exact qC HR0_4.out)
            (case side4 => exact HC0_4.out)
            (case side5 => exact qC HR0_6.out)
            (case side6 => exact HC0_6.out)
            (case side7 => exact qC HR0_7.out)
            (case side8 => exact HC0_7.out)
            (case side9 => exact qC HR0_8.out)
            (case side10 => exact HC0_8.out)
            rintro e w53 ⟨v399, v405, v409, v412, v415, rfl, ho0, ho1, ho2, ho3, ho4, hb⟩
            refine ⟨_, rfl, ?_⟩
            have n0_ := Aside0.mk (Kd.R_elder' (qR HO353.out) (Kd.R_base ho0) hb)
            have n1_ := Aside0.mk (Kd.R_mono (Kd.R_told (Kd.R_told (Kd.R_told (Kd.R_old (qR HO359.out) hb) (Kd.R_base ho1)) (Kd.R_base ho3)) (Kd.R_base ho4)) (fun _ h_ => h_.1))
            have n2_ := Aside0.mk (Kd.R_elder' (qR HO363.out) (Kd.R_base ho2) hb)
            have n3_ := Aside0.mk (Kd.R_mono (Kd.R_told (Kd.R_told (Kd.R_told (Kd.R_old (qR HO366.out) hb) (Kd.R_base ho1)) (Kd.R_base ho3)) (Kd.R_base ho4)) (fun _ h_ => h_.1))
            have n4_ := Aside0.mk (Kd.R_mono (Kd.R_told (Kd.R_told (Kd.R_told (Kd.R_old (qR HO369.out) hb) (Kd.R_base ho1)) (Kd.R_base ho3)) (Kd.R_base ho4)) (fun _ h_ => h_.1))
            have n5_ := Aside0.mk (Kd.R_mono (Kd.R_told (Kd.R_told (Kd.R_told (Kd.R_old (qR HO372.out) hb) (Kd.R_base ho1)) (Kd.R_base ho3)) (Kd.R_base ho4)) (fun _ h_ => h_.1))
            have n6_ := Aside0.mk (Kd.R_elder' (qR HO376.out) (Kd.R_base ho0) hb)
            have n7_ := Aside0.mk (Kd.R_mono (Kd.R_told (Kd.R_told (Kd.R_told (Kd.R_old (qR HO382.out) hb) (Kd.R_base ho1)) (Kd.R_base ho3)) (Kd.R_base ho4)) (fun _ h_ => h_.1))
            have n8_ := Aside0.mk (Kd.R_elder' (qR HO386.out) (Kd.R_base ho2) hb)
            have n9_ := Aside0.mk (Kd.R_mono (Kd.R_told (Kd.R_told (Kd.R_told (Kd.R_old (qR HO389.out) hb) (Kd.R_base ho1)) (Kd.R_base ho3)) (Kd.R_base ho4)) (fun _ h_ => h_.1))
            have n10_ := Aside0.mk (Kd.R_mono (Kd.R_told (Kd.R_told (Kd.R_told (Kd.R_old (qR HO392.out) hb) (Kd.R_base ho1)) (Kd.R_base ho3)) (Kd.R_base ho4)) (fun _ h_ => h_.1))
            have n11_ := Aside0.mk (Kd.R_mono (Kd.R_told (Kd.R_told (Kd.R_told (Kd.R_old (qR HO396.out) hb) (Kd.R_base ho1)) (Kd.R_base ho3)) (Kd.R_base ho4)) (fun _ h_ => h_.1))
            have n12_ := Aside0.mk (Kd.R_lower (Kd.R_new' (Kd.R_new' ho0 (Kd.R_lt (qR HO353.out))) (Kd.R_lt (qR HO376.out))) (below_size qB))
            have n13_ := Aside0.mk (Kd.R_lower (Kd.R_new' (Kd.R_new' (Kd.R_new' (Kd.R_new' (Kd.R_new' (Kd.R_new' (Kd.R_new' (Kd.R_new' ho1 (Kd.R_lt (qR HO359.out))) (Kd.R_lt (qR HO366.out))) (Kd.R_lt (qR HO369.out))) (Kd.R_lt (qR HO372.out))) (Kd.R_lt (qR HO382.out))) (Kd.R_lt (qR HO389.out))) (Kd.R_lt (qR HO392.out))) (Kd.R_lt (qR HO396.out))) (below_size qB))
            have n14_ := Aside0.mk (Kd.R_lower (Kd.R_new' (Kd.R_new' ho2 (Kd.R_lt (qR HO363.out))) (Kd.R_lt (qR HO386.out))) (below_size qB))
            have n15_ := Aside0.mk (Kd.R_lower (Kd.R_new' (Kd.R_new' (Kd.R_new' (Kd.R_new' (Kd.R_new' (Kd.R_new' (Kd.R_new' (Kd.R_new' ho3 (Kd.R_lt (qR HO359.out))) (Kd.R_lt (qR HO366.out))) (Kd.R_lt (qR HO369.out))) (Kd.R_lt (qR HO372.out))) (Kd.R_lt (qR HO382.out))) (Kd.R_lt (qR HO389.out))) (Kd.R_lt (qR HO392.out))) (Kd.R_lt (qR HO396.out))) (below_size qB))
            have n16_ := Aside0.mk (Kd.R_lower (Kd.R_new' (Kd.R_new' (Kd.R_new' (Kd.R_new' (Kd.R_new' (Kd.R_new' (Kd.R_new' (Kd.R_new' ho4 (Kd.R_lt (qR HO359.out))) (Kd.R_lt (qR HO366.out))) (Kd.R_lt (qR HO369.out))) (Kd.R_lt (qR HO372.out))) (Kd.R_lt (qR HO382.out))) (Kd.R_lt (qR HO389.out))) (Kd.R_lt (qR HO392.out))) (Kd.R_lt (qR HO396.out))) (below_size qB))
            have n17_ := Aside0.mk (qL BK349.out hb)
            have n18_ := Aside0.mk (qL BK393.out hb)
            have n19_ := Aside0.mk (below_step qB hb)
            clear HO353
            clear HO359
            clear HO363
            clear HO366
            clear HO369
            clear HO372
            clear HO376
            clear HO382
            clear HO386
            clear HO389
            clear HO392
            clear HO396
            clear BK349
            clear BK393
            clear HB
            have HO353 := n0_
            have HO359 := n1_
            have HO363 := n2_
            have HO366 := n3_
            have HO369 := n4_
            have HO372 := n5_
            have HO376 := n6_
            have HO382 := n7_
            have HO386 := n8_
            have HO389 := n9_
            have HO392 := n10_
            have HO396 := n11_
            have HO400 := n12_
            have HO406 := n13_
            have HO410 := n14_
            have HO413 := n15_
            have HO416 := n16_
            have BK349 := n17_
            have BK393 := n18_
            have HB := n19_
            clear n0_ n1_ n2_ n3_ n4_ n5_ n6_ n7_ n8_ n9_ n10_ n11_ n12_ n13_ n14_ n15_ n16_ n17_ n18_ n19_
            (try clear hb)
            (try clear hb2)
            (try clear hk)
            (try clear hi)
            (try clear ho0)
            (try clear ho1)
            (try clear ho2)
            (try clear ho3)
            (try clear ho4)
            obtain ⟨Ao54, co54, eo54⟩ := Kd.R_slice HO400.out
            (first | subst eo54 | (injection eo54 with f1_ f2_ f3_; have f4_ := f1_.symm; have f5_ := f3_.symm; clear f1_ f2_ f3_; subst f4_; subst f5_))
            obtain ⟨Ao55, co55, eo55⟩ := Kd.R_slice HO406.out
            (first | subst eo55 | (injection eo55 with f1_ f2_ f3_; have f4_ := f1_.symm; have f5_ := f3_.symm; clear f1_ f2_ f3_; subst f4_; subst f5_))
            obtain ⟨Ao56, co56, eo56⟩ := Kd.R_slice HO410.out
            (first | subst eo56 | (injection eo56 with f1_ f2_ f3_; have f4_ := f1_.symm; have f5_ := f3_.symm; clear f1_ f2_ f3_; subst f4_; subst f5_))
            obtain ⟨Ao57, co57, eo57⟩ := Kd.R_slice HO413.out
            (first | subst eo57 | (injection eo57 with f1_ f2_ f3_; have f4_ := f1_.symm; have f5_ := f3_.symm; clear f1_ f2_ f3_; subst f4_; subst f5_))
            obtain ⟨Ao58, co58, eo58⟩ := Kd.R_slice HO416.out
            (first | subst eo58 | (injection eo58 with f1_ f2_ f3_; have f4_ := f1_.symm; have f5_ := f3_.symm; clear f1_ f2_ f3_; subst f4_; subst f5_))
            refine hK.out _ _ ⟨(blk_cell BK393.out 0).trans rfl, (blk_cell BK393.out 1).trans rfl, (blk_cell BK393.out 2).trans rfl, (blk_cell BK393.out 3).trans rfl, (blk_cell BK393.out 4).trans rfl, (blk_cell BK393.out 5).trans rfl, (blk_cell BK393.out 6).trans rfl, (blk_cell BK393.out 7).trans rfl, (blk_cell BK393.out 8).trans rfl, (blk_cell BK349.out 0).trans rfl, (blk_cell BK349.out 1).trans rfl, (blk_cell BK349.out 2).trans rfl, (blk_cell BK349.out 3).trans rfl, (blk_cell BK349.out 4).trans rfl, (blk_cell BK349.out 5).trans rfl, (blk_cell BK349.out 6).trans rfl, (blk_cell BK349.out 7).trans rfl, (blk_cell BK349.out 8).trans rfl⟩ (fun hHeld => ?_)
            clear hK K
            refine norm_ (a' := ?_) ?_ ?_
            rotate_left
            · show Act.put _ (some 43) _ = _
              simp only [Act.put, List.setIfInBounds_toArray, List.set_cons_zero, List.set_cons_succ, i64_w, i32_w]
              rfl
            refine one_ (i := 3) (N := some 44) #[true, true, true, true, false] rfl rfl (by kernel_rfl) (by decide) (fun K hK => ?_)
            refine goes_ Try.func57 (by kernel_rfl) rfl #[.agg #[.slice Ao41 t374.length co41, .int .i64 t377, .int .i64 t378, .int .i64 t379, .slice Ao44 t380.length co44, .bool t383, .slice Ao45 t384.length co45, .slice Ao46 t387.length co46, .slice Ao47 t390.length co47], .agg #[.slice Ao54 t398.length co54, .int .i64 t401, .int .i64 t402, .int .i64 t403, .slice Ao55 t404.length co55, .bool t407, .slice Ao56 t408.length co56, .slice Ao57 t411.length co57, .slice Ao58 t414.length co58]] (by rfl) rfl rfl qM ?_
            with_reducible refine (laws_eqBook.calls k _ _ t374 t377 t378 t379 _ _ t380 t383 _ _ t384 _ _ t387 _ _ t390 _ _ t398 t401 t402 t403 _ _ t404 t407 _ _ t408 _ _ t411 _ _ t414 true _ rfl ?side1 ?side2 ?side3 ?side4 ?side5 ?side6 ?side7 ?side8 ?side9 ?side10 ?side11 ?side12 ?side13 ?side14 ?side15 ?side16 ?side17 ?side18 ?side19 ?side20 A20.out).mono ?_
            (case side1 => repeat (first | exact (Kd.R_reads' HO376.out).2.2 | (with_reducible refine Kd.C_alloc ?_ _) | (with_reducible refine Kd.C_drewN ?_ _) | (with_reducible refine Kd.C_drew ?_)))
            (case side2 => exact (Kd.R_reads' HO376.out).2.1)
            (case side3 => repeat (first | exact (Kd.R_reads' HO382.out).2.2 | (with_reducible refine Kd.C_alloc ?_ _) | (with_reducible refine Kd.C_drewN ?_ _) | (with_reducible refine Kd.C_drew ?_)))
            (case side4 => exact (Kd.R_reads' HO382.out).2.1)
            (case side5 => repeat (first | exact (Kd.R_reads' HO386.out).2.2 | (with_reducible refine Kd.C_alloc ?_ _) | (with_reducible refine Kd.C_drewN ?_ _) | (with_reducible refine Kd.C_drew ?_)))
            (case side6 => exact (Kd.R_reads' HO386.out).2.1)
            (case side7 => repeat (first | exact (Kd.R_reads' HO389.out).2.2 | (with_reducible refine Kd.C_alloc ?_ _) | (with_reducible refine Kd.C_drewN ?_ _) | (with_reducible refine Kd.C_drew ?_)))
            (case side8 => exact (Kd.R_reads' HO389.out).2.1)
            (case side9 => repeat (first | exact (Kd.R_reads' HO392.out).2.2 | (with_reducible refine Kd.C_alloc ?_ _) | (with_reducible refine Kd.C_drewN ?_ _) | (with_reducible refine Kd.C_drew ?_)))
            (case side10 => exact (Kd.R_reads' HO392.out).2.1)
            (case side11 => repeat (first | exact (Kd.R_reads' HO400.out).2.2 | (with_reducible refine Kd.C_alloc ?_ _) | (with_reducible refine Kd.C_drewN ?_ _) | (with_reducible refine Kd.C_drew ?_)))
            (case side12 => exact (Kd.R_reads' HO400.out).2.1)
            (case side13 => repeat (first | exact (Kd.R_reads' HO406.out).2.2 | (with_reducible refine Kd.C_alloc ?_ _) | (with_reducible refine Kd.C_drewN ?_ _) | (with_reducible refine Kd.C_drew ?_)))
            (case side14 => exact (Kd.R_reads' HO406.out).2.1)
            (case side15 => repeat (first | exact (Kd.R_reads' HO410.out).2.2 | (with_reducible refine Kd.C_alloc ?_ _) | (with_reducible refine Kd.C_drewN ?_ _) | (with_reducible refine Kd.C_drew ?_)))
            (case side16 => exact (Kd.R_reads' HO410.out).2.1)
            (case side17 => repeat (first | exact (Kd.R_reads' HO413.out).2.2 | (with_reducible refine Kd.C_alloc ?_ _) | (with_reducible refine Kd.C_drewN ?_ _) | (with_reducible refine Kd.C_drew ?_)))
            (case side18 => exact (Kd.R_reads' HO413.out).2.1)
            (case side19 => repeat (first | exact (Kd.R_reads' HO416.out).2.2 | (with_reducible refine Kd.C_alloc ?_ _) | (with_reducible refine Kd.C_drewN ?_ _) | (with_reducible refine Kd.C_drew ?_)))
            (case side20 => exact (Kd.R_reads' HO416.out).2.1)
            rintro e w59 ⟨rfl, hb⟩
            refine ⟨_, rfl, ?_⟩
            have n0_ := Aside0.mk (Kd.R_below (qR HO353.out) hb)
            have n1_ := Aside0.mk (Kd.R_below (qR HO359.out) hb)
            have n2_ := Aside0.mk (Kd.R_below (qR HO363.out) hb)
            have n3_ := Aside0.mk (Kd.R_below (qR HO366.out) hb)
            have n4_ := Aside0.mk (Kd.R_below (qR HO369.out) hb)
            have n5_ := Aside0.mk (Kd.R_below (qR HO372.out) hb)
            have n6_ := Aside0.mk (Kd.R_below (qR HO376.out) hb)
            have n7_ := Aside0.mk (Kd.R_below (qR HO382.out) hb)
            have n8_ := Aside0.mk (Kd.R_below (qR HO386.out) hb)
            have n9_ := Aside0.mk (Kd.R_below (qR HO389.out) hb)
            have n10_ := Aside0.mk (Kd.R_below (qR HO392.out) hb)
            have n11_ := Aside0.mk (Kd.R_below (qR HO396.out) hb)
            have n12_ := Aside0.mk (Kd.R_below (qR HO400.out) hb)
            have n13_ := Aside0.mk (Kd.R_below (qR HO406.out) hb)
            have n14_ := Aside0.mk (Kd.R_below (qR HO410.out) hb)
            have n15_ := Aside0.mk (Kd.R_below (qR HO413.out) hb)
            have n16_ := Aside0.mk (Kd.R_below (qR HO416.out) hb)
            have n17_ := Aside0.mk (qL BK349.out hb)
            have n18_ := Aside0.mk (qL BK393.out hb)
            have n19_ := Aside0.mk (below_step qB hb)
            clear HO353
            clear HO359
            clear HO363
            clear HO366
            clear HO369
            clear HO372
            clear HO376
            clear HO382
            clear HO386
            clear HO389
            clear HO392
            clear HO396
            clear HO400
            clear HO406
            clear HO410
            clear HO413
            clear HO416
            clear BK349
            clear BK393
            clear HB
            have HO353 := n0_
            have HO359 := n1_
            have HO363 := n2_
            have HO366 := n3_
            have HO369 := n4_
            have HO372 := n5_
            have HO376 := n6_
            have HO382 := n7_
            have HO386 := n8_
            have HO389 := n9_
            have HO392 := n10_
            have HO396 := n11_
            have HO400 := n12_
            have HO406 := n13_
            have HO410 := n14_
            have HO413 := n15_
            have HO416 := n16_
            have BK349 := n17_
            have BK393 := n18_
            have HB := n19_
            clear n0_ n1_ n2_ n3_ n4_ n5_ n6_ n7_ n8_ n9_ n10_ n11_ n12_ n13_ n14_ n15_ n16_ n17_ n18_ n19_
            (try clear hb)
            (try clear hb2)
            (try clear hk)
            (try clear hi)
            refine hK.out _ _ ⟨(blk_cell BK393.out 0).trans rfl, (blk_cell BK393.out 1).trans rfl, (blk_cell BK393.out 2).trans rfl, (blk_cell BK393.out 3).trans rfl, (blk_cell BK393.out 4).trans rfl, (blk_cell BK393.out 5).trans rfl, (blk_cell BK393.out 6).trans rfl, (blk_cell BK393.out 7).trans rfl, (blk_cell BK393.out 8).trans rfl, (blk_cell BK349.out 0).trans rfl, (blk_cell BK349.out 1).trans rfl, (blk_cell BK349.out 2).trans rfl, (blk_cell BK349.out 3).trans rfl, (blk_cell BK349.out 4).trans rfl, (blk_cell BK349.out 5).trans rfl, (blk_cell BK349.out 6).trans rfl, (blk_cell BK349.out 7).trans rfl, (blk_cell BK349.out 8).trans rfl⟩ (fun hHeld => ?_)
            clear hK K
            refine norm_ (a' := ?_) ?_ ?_
            rotate_left
            · show Act.put _ (some 44) _ = _
              simp only [Act.put, List.setIfInBounds_toArray, List.set_cons_zero, List.set_cons_succ, i64_w, i32_w]
              rfl
            refine pure_ (i := 4) (N := some 45) (v := ?_) (a' := ?_) #[true, true, true, true, true] rfl rfl (by kernel_rfl) (fun _ _ _ h => h) (Or.inl ⟨by rfl, ?_⟩) ?_ ?_
            rotate_left
            · intro w'
              go_simp
              with_reducible rfl
            rotate_left
            · simp only [Act.put, List.setIfInBounds_toArray, List.set_cons_zero, List.set_cons_succ, i64_w, i32_w]
              rfl
            refine done_ (by kernel_rfl) ?_
            try go_wp2_with (first | ((with_reducible refine gate_callee (f := 42) rfl ?_); refine goesL_ (some 48) rfl rfl Try.func42 (by kernel_rfl) rfl #[.slice A3 l3.length c3] rfl qM ?_; (with_reducible refine (laws_toIntS.calls k _ _ l3 t418 _ ?side1 ?side2 A22.out).mono ?_); (case side1 => exact qC HR3.out); (case side2 => exact HC3.out); rintro e w60 ⟨v419, rfl, ho0, hb⟩; refine ⟨_, rfl, ?_⟩; have n0_ := Aside0.mk (Kd.R_below (qR HO353.out) hb); have n1_ := Aside0.mk (Kd.R_elder' (qR HO359.out) (Kd.R_base ho0) hb); have n2_ := Aside0.mk (Kd.R_below (qR HO363.out) hb); have n3_ := Aside0.mk (Kd.R_elder' (qR HO366.out) (Kd.R_base ho0) hb); have n4_ := Aside0.mk (Kd.R_elder' (qR HO369.out) (Kd.R_base ho0) hb); have n5_ := Aside0.mk (Kd.R_elder' (qR HO372.out) (Kd.R_base ho0) hb); have n6_ := Aside0.mk (Kd.R_below (qR HO376.out) hb); have n7_ := Aside0.mk (Kd.R_elder' (qR HO382.out) (Kd.R_base ho0) hb); have n8_ := Aside0.mk (Kd.R_below (qR HO386.out) hb); have n9_ := Aside0.mk (Kd.R_elder' (qR HO389.out) (Kd.R_base ho0) hb); have n10_ := Aside0.mk (Kd.R_elder' (qR HO392.out) (Kd.R_base ho0) hb); have n11_ := Aside0.mk (Kd.R_elder' (qR HO396.out) (Kd.R_base ho0) hb); have n12_ := Aside0.mk (Kd.R_below (qR HO400.out) hb); have n13_ := Aside0.mk (Kd.R_elder' (qR HO406.out) (Kd.R_base ho0) hb); have n14_ := Aside0.mk (Kd.R_below (qR HO410.out) hb); have n15_ := Aside0.mk (Kd.R_elder' (qR HO413.out) (Kd.R_base ho0) hb); have n16_ := Aside0.mk (Kd.R_elder' (qR HO416.out) (Kd.R_base ho0) hb); have n17_ := Aside0.mk (Kd.R_lower (Kd.R_new' (Kd.R_new' (Kd.R_new' (Kd.R_new' (Kd.R_new' (Kd.R_new' (Kd.R_new' (Kd.R_new' (Kd.R_new' (Kd.R_new' (Kd.R_new' ho0 (Kd.R_lt (qR HO359.out))) (Kd.R_lt (qR HO366.out))) (Kd.R_lt (qR HO369.out))) (Kd.R_lt (qR HO372.out))) (Kd.R_lt (qR HO382.out))) (Kd.R_lt (qR HO389.out))) (Kd.R_lt (qR HO392.out))) (Kd.R_lt (qR HO396.out))) (Kd.R_lt (qR HO406.out))) (Kd.R_lt (qR HO413.out))) (Kd.R_lt (qR HO416.out))) (below_size qB)); have n18_ := Aside0.mk (qL BK349.out hb); have n19_ := Aside0.mk (qL BK393.out hb); have n20_ := Aside0.mk (below_step qB hb); clear HO353; clear HO359; clear HO363; clear HO366; clear HO369; clear HO372; clear HO376; clear HO382; clear HO386; clear HO389; clear HO392; clear HO396; clear HO400; clear HO406; clear HO410; clear HO413; clear HO416; clear BK349; clear BK393; clear HB; have HO353 := n0_; have HO359 := n1_; have HO363 := n2_; have HO366 := n3_; have HO369 := n4_; have HO372 := n5_; have HO376 := n6_; have HO382 := n7_; have HO386 := n8_; have HO389 := n9_; have HO392 := n10_; have HO396 := n11_; have HO400 := n12_; have HO406 := n13_; have HO410 := n14_; have HO413 := n15_; have HO416 := n16_; have HO420 := n17_; have BK349 := n18_; have BK393 := n19_; have HB := n20_; clear n0_ n1_ n2_ n3_ n4_ n5_ n6_ n7_ n8_ n9_ n10_ n11_ n12_ n13_ n14_ n15_ n16_ n17_ n18_ n19_ n20_; (try clear hb); (try clear hb2); (try clear hk); (try clear hi); (try clear ho0); obtain ⟨Ao61, co61, eo61⟩ := Kd.R_slice HO420.out; subst eo61) | ((with_reducible refine gate_callee (f := 44) rfl ?_); refine goesL_ (some 49) rfl rfl Try.func44 (by kernel_rfl) rfl #[.slice Ao50 t394.length co50, .slice Ao61 t418.length co61] rfl qM ?_; (with_reducible refine (laws_eqIntS.calls k _ _ t394 _ _ t418 true _ rfl ?side1 ?side2 ?side3 ?side4 A23.out).mono ?_); (case side1 => repeat (first | exact (Kd.R_reads' HO396.out).2.2 | (with_reducible refine Kd.C_alloc ?_ _) | (with_reducible refine Kd.C_drewN ?_ _) | (with_reducible refine Kd.C_drew ?_))); (case side2 => exact (Kd.R_reads' HO396.out).2.1); (case side3 => repeat (first | exact (Kd.R_reads' HO420.out).2.2 | (with_reducible refine Kd.C_alloc ?_ _) | (with_reducible refine Kd.C_drewN ?_ _) | (with_reducible refine Kd.C_drew ?_))); (case side4 => exact (Kd.R_reads' HO420.out).2.1); rintro e w' ⟨rfl, ⟨nd, rfl⟩⟩; refine ⟨_, rfl, ?_⟩))
            go_ret
            exact ⟨by first | rfl | (simp [errW_none, errW_some] <;> rfl) | (simp [*, errW_none, errW_some] <;> rfl), qB⟩
          · replace c24 := Bool.eq_false_iff.mpr c24
            subst c24
            have H1 : (some false) = some r := by rw [if_neg (show ¬ (false = true) by decide)] at H; exact H
            clear H
            have H := H1
            clear H1
            exact absurd ((Option.some.inj H).trans HR_.out) (by decide)
        · replace c21 := Bool.eq_false_iff.mpr c21
          subst c21
          have H1 : (some false) = some r := by rw [if_neg (show ¬ (false = true) by decide)] at H; exact H
          clear H
          have H := H1
          clear H1
          exact absurd ((Option.some.inj H).trans HR_.out) (by decide)
      · rw [if_neg c18] at H
        have c18b0 : (t397 == t373) = false := beq_eq_false_iff_ne.mpr c18
        have c18b1 : (t397 != t373) = true := bne_iff_ne.mpr c18
        exact absurd ((Option.some.inj H).trans HR_.out) (by decide)

end Go.Proofs.Ytikfdjgigeggjaa.MFnExactKeyValue
