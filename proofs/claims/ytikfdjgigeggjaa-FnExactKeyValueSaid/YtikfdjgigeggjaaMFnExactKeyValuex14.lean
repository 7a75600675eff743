/- The functions that FnExactKeyValue reaches, each with its contract: the print's form, by wip/tools/myprint.py; no condition of its own. -/
import Derived.Test.YtikfdjgigeggjaaMFnExactKeyValuex0
import Derived.Test.YtikfdjgigeggjaaMFnExactKeyValuex10
import Derived.Test.YtikfdjgigeggjaaMFnExactKeyValuex11
import Derived.Test.YtikfdjgigeggjaaMFnExactKeyValuex12
import Derived.Test.YtikfdjgigeggjaaMFnExactKeyValuex13
namespace Go.Proofs.Ytikfdjgigeggjaa.MFnExactKeyValue
open Go.RowKit Go.Proofs.YtikfdjgigeggjaaW.PrintWords Go.Proofs.YtikfdjgigeggjaaW.PrintLast Go.Proofs.YtikfdjgigeggjaaW.PrintMore
attribute [local go_sem] max2_int min2_int max_two min_two max_three min_three max_four min_four   -- for this text's walks alone
set_option linter.unusedVariables false
set_option linter.unusedSimpArgs false

/-! ### impl_BookOk: function 99 -/
def impl_BookOk.f (k : Nat) (l0_0 : List (S151)) (a0_1 : Int) (a0_2 : Int) (a0_3 : Int) (l0_4 : List Int) (a0_5 : Bool) (l0_6 : List (S71)) (l0_7 : List Int) (l0_8 : List Int) : Option (Bool) := (impl_FieldOk.f k l0_0).bind fun t312 => (if t312 = true then ((impl_RulesOk.f k a0_1 a0_2 a0_3 l0_4 a0_5).bind fun t313 => (if t313 = true then ((impl_SeasonOk.f k (l0_0.length : Int) l0_6).bind fun t314 => (if t314 = true then ((impl_arePenalties.f l0_7 (l0_0.length : Int)).bind fun t315 => (if t315 = true then ((impl_arePenalties.f l0_8 (l0_0.length : Int)).bind fun t316 => (some t316)) else (some false))) else (some false))) else (some false))) else (some false))
theorem impl_BookOk.mono : ∀ a0 a1 a2 a3 a4 a5 a6 a7 a8 k, LeO (impl_BookOk.f k a0 a1 a2 a3 a4 a5 a6 a7 a8) (impl_BookOk.f (k + 1) a0 a1 a2 a3 a4 a5 a6 a7 a8) := by
  intro a0 a1 a2 a3 a4 a5 a6 a7 a8 k
  unfold impl_BookOk.f
  repeat' first
      | (with_reducible exact impl_FieldOk.mono _ _)
      | (with_reducible exact impl_RulesOk.mono _ _ _ _ _ _)
      | (with_reducible exact impl_SeasonOk.mono _ _ _)
      | (with_reducible exact LeO.refl _)
      | (with_reducible exact LeO.none _)
      | (with_reducible refine LeO.ite ?_ ?_)
      | (with_reducible refine LeO.bind ?_ (fun _ => ?_))
      | exact impl_FieldOk.mono _ _
      | exact impl_RulesOk.mono _ _ _ _ _ _
      | exact impl_SeasonOk.mono _ _ _
      | exact LeO.none _
      | refine LeO.ite ?_ ?_
      | refine LeO.bind ?_ (fun _ => ?_)
set_option maxHeartbeats 8000000 in
set_option maxRecDepth 100000 in
theorem impl_BookOk.calls (k : Nat) (A0_0 : Option Addr) (c0_0 : Nat) (l0_0 : List (S151)) (a0_1 : Int) (a0_2 : Int) (a0_3 : Int) (A0_4 : Option Addr) (c0_4 : Nat) (l0_4 : List Int) (a0_5 : Bool) (A0_6 : Option Addr) (c0_6 : Nat) (l0_6 : List (S71)) (A0_7 : Option Addr) (c0_7 : Nat) (l0_7 : List Int) (A0_8 : Option Addr) (c0_8 : Nat) (l0_8 : List Int) (r : Bool) (w : World) (hr0_0 : Kd.C k151 w A0_0 l0_0.length l0_0) (hc0_0 : l0_0.length ≤ c0_0) (hr0_4 : Kd.C (Kd.int .i64) w A0_4 l0_4.length l0_4) (hc0_4 : l0_4.length ≤ c0_4) (hr0_6 : Kd.C k71 w A0_6 l0_6.length l0_6) (hc0_6 : l0_6.length ≤ c0_6) (hr0_7 : Kd.C (Kd.int .i64) w A0_7 l0_7.length l0_7) (hc0_7 : l0_7.length ≤ c0_7) (hr0_8 : Kd.C (Kd.int .i64) w A0_8 l0_8.length l0_8) (hc0_8 : l0_8.length ≤ c0_8) (h : impl_BookOk.f k l0_0 a0_1 a0_2 a0_3 l0_4 a0_5 l0_6 l0_7 l0_8 = some r) :
    Calls Try.prog 99 #[.agg #[.slice A0_0 l0_0.length c0_0, .int .i64 a0_1, .int .i64 a0_2, .int .i64 a0_3, .slice A0_4 l0_4.length c0_4, .bool a0_5, .slice A0_6 l0_6.length c0_6, .slice A0_7 l0_7.length c0_7, .slice A0_8 l0_8.length c0_8]] w fun e w' => e = .returned (.bool r) ∧ Below w.heap.size w w' := by
  have hu67 := Try.underlying67
  have hu25 := Try.underlying25
  have HR0_0 := Aside0.mk hr0_0
  have HC0_0 := Aside0.mk hc0_0
  clear hr0_0 hc0_0
  have HR0_4 := Aside0.mk hr0_4
  have HC0_4 := Aside0.mk hc0_4
  clear hr0_4 hc0_4
  have HR0_6 := Aside0.mk hr0_6
  have HC0_6 := Aside0.mk hc0_6
  clear hr0_6 hc0_6
  have HR0_7 := Aside0.mk hr0_7
  have HC0_7 := Aside0.mk hc0_7
  clear hr0_7 hc0_7
  have HR0_8 := Aside0.mk hr0_8
  have HC0_8 := Aside0.mk hc0_8
  clear hr0_8 hc0_8
  have HB := Aside0.mk (Below.refl w.heap.size w)
  have H : ((impl_FieldOk.f k l0_0).bind fun t312 => (if t312 = true then ((impl_RulesOk.f k a0_1 a0_2 a0_3 l0_4 a0_5).bind fun t313 => (if t313 = true then ((impl_SeasonOk.f k (l0_0.length : Int) l0_6).bind fun t314 => (if t314 = true then ((impl_arePenalties.f l0_7 (l0_0.length : Int)).bind fun t315 => (if t315 = true then ((impl_arePenalties.f l0_8 (l0_0.length : Int)).bind fun t316 => (some t316)) else (some false))) else (some false))) else (some false))) else (some false))) = some r := h
  clear h
  replace H := Option.bind_eq_some_iff.mp H
  obtain ⟨t312, A20, H⟩ := H
  try dsimp only at H
  have A2 := Aside0.mk A20
  clear A20
  by_cases c3 : t312 = true
  · subst c3
    have H1 : ((impl_RulesOk.f k a0_1 a0_2 a0_3 l0_4 a0_5).bind fun t313 => (if t313 = true then ((impl_SeasonOk.f k (l0_0.length : Int) l0_6).bind fun t314 => (if t314 = true then ((impl_arePenalties.f l0_7 (l0_0.length : Int)).bind fun t315 => (if t315 = true then ((impl_arePenalties.f l0_8 (l0_0.length : Int)).bind fun t316 => (some t316)) else (some false))) else (some false))) else (some false))) = some r := by rw [if_pos rfl] at H; exact H
    clear H
    have H := H1
    clear H1
    replace H := Option.bind_eq_some_iff.mp H
    obtain ⟨t313, A40, H⟩ := H
    try dsimp only at H
    have A4 := Aside0.mk A40
    clear A40
    by_cases c5 : t313 = true
    · subst c5
      have H1 : ((impl_SeasonOk.f k (l0_0.length : Int) l0_6).bind fun t314 => (if t314 = true then ((impl_arePenalties.f l0_7 (l0_0.length : Int)).bind fun t315 => (if t315 = true then ((impl_arePenalties.f l0_8 (l0_0.length : Int)).bind fun t316 => (some t316)) else (some false))) else (some false))) = some r := by rw [if_pos rfl] at H; exact H
      clear H
      have H := H1
      clear H1
      replace H := Option.bind_eq_some_iff.mp H
      obtain ⟨t314, A60, H⟩ := H
      try dsimp only at H
      have A6 := Aside0.mk A60
      clear A60
      by_cases c7 : t314 = true
      · subst c7
        have H1 : ((impl_arePenalties.f l0_7 (l0_0.length : Int)).bind fun t315 => (if t315 = true then ((impl_arePenalties.f l0_8 (l0_0.length : Int)).bind fun t316 => (some t316)) else (some false))) = some r := by rw [if_pos rfl] at H; exact H
        clear H
        have H := H1
        clear H1
        replace H := Option.bind_eq_some_iff.mp H
        obtain ⟨t315, A80, H⟩ := H
        try dsimp only at H
        have A8 := Aside0.mk A80
        clear A80
        by_cases c9 : t315 = true
        · subst c9
          have H1 : ((impl_arePenalties.f l0_8 (l0_0.length : Int)).bind fun t316 => (some t316)) = some r := by rw [if_pos rfl] at H; exact H
          clear H
          have H := H1
          clear H1
          replace H := Option.bind_eq_some_iff.mp H
          obtain ⟨t316, A100, H⟩ := H
          try dsimp only at H
          have A10 := Aside0.mk A100
          clear A100
          obtain rfl := Option.some.inj H
          go_enter Try.func99, Try.ntmps99
          go_wp2_with (first | ((with_reducible refine gate_dst (N := 1) rfl ?_); refine box_event ?hg (N := 1) ?hd (cs := #[.slice A0_0 l0_0.length c0_0, .int .i64 a0_1, .int .i64 a0_2, .int .i64 a0_3, .slice A0_4 l0_4.length c0_4, .bool a0_5, .slice A0_6 l0_6.length c0_6, .slice A0_7 l0_7.length c0_7, .slice A0_8 l0_8.length c0_8]) (t := 67) ?hr ?_; (case hd => rfl); (case hg => rfl); (case hr => first | (go_simp; done) | (go_simp; rfl)); intro gb311 hg w11 hbox hb; have n0_ := Aside0.mk (below_step qB hb); have n1_ := Aside0.mk (hbox); have n2_ := Aside0.mk ((qG hg : w.heap.size ≤ gb311)); have n3_ := Aside0.mk ((qG hg : w.heap.size ≤ gb311)); clear HB; have HB := n0_; have BK311 := n1_; have GW311 := n2_; have GE311 := n3_; clear n0_ n1_ n2_ n3_; clear hb hbox hg; have ⟨hcz12_0, hcz12_1, hcz12_2, hcz12_3, hcz12_4, hcz12_5, hcz12_6, hcz12_7, hcz12_8⟩ := qc9 BK311.out; have ⟨hfz12_0, hfz12_1, hfz12_2, hfz12_3, hfz12_4, hfz12_5, hfz12_6, hfz12_7, hfz12_8⟩ := qf9 BK311.out) | ((with_reducible refine gate_callee (f := 123) rfl ?_); refine goesL_ (some 9) rfl rfl Try.func123 (by kernel_rfl) rfl #[.slice A0_0 l0_0.length c0_0] rfl qM ?_; (with_reducible refine (impl_FieldOk.calls k _ _ l0_0 true _ ?side1 ?side2 A2.out).mono ?_); (case side1 => exact qC HR0_0.out); (case side2 => exact HC0_0.out); rintro e w13 ⟨rfl, hb⟩; refine ⟨_, rfl, ?_⟩; have n0_ := Aside0.mk (qL BK311.out hb); have n1_ := Aside0.mk (below_step qB hb); clear BK311; clear HB; have BK311 := n0_; have HB := n1_; clear n0_ n1_; (try clear hb); (try clear hb2); (try clear hk); (try clear hi); have ⟨hcz14_0, hcz14_1, hcz14_2, hcz14_3, hcz14_4, hcz14_5, hcz14_6, hcz14_7, hcz14_8⟩ := qc9 BK311.out; have ⟨hfz14_0, hfz14_1, hfz14_2, hfz14_3, hfz14_4, hfz14_5, hfz14_6, hfz14_7, hfz14_8⟩ := qf9 BK311.out) | (go_at_call 11; (with_reducible refine (impl_RulesOk.calls k a0_1 a0_2 a0_3 _ _ l0_4 a0_5 true _ ?side1 ?side2 A4.out).mono ?_); (case side1 => exact qC HR0_4.out); (case side2 => exact HC0_4.out); rintro e w15 ⟨rfl, hb⟩; have n0_ := Aside0.mk (qL BK311.out hb); have n1_ := Aside0.mk (below_step qB hb); clear BK311; clear HB; have BK311 := n0_; have HB := n1_; clear n0_ n1_; (try clear hb); (try clear hb2); (try clear hk); (try clear hi); have ⟨hcz16_0, hcz16_1, hcz16_2, hcz16_3, hcz16_4, hcz16_5, hcz16_6, hcz16_7, hcz16_8⟩ := qc9 BK311.out; have ⟨hfz16_0, hfz16_1, hfz16_2, hfz16_3, hfz16_4, hfz16_5, hfz16_6, hfz16_7, hfz16_8⟩ := qf9 BK311.out) | (go_at_call 108; (with_reducible refine (impl_SeasonOk.calls k (l0_0.length : Int) _ _ l0_6 true _ ?side1 ?side2 A6.out).mono ?_); (case side1 => exact qC HR0_6.out); (case side2 => exact HC0_6.out); rintro e w17 ⟨rfl, hb⟩; have n0_ := Aside0.mk (qL BK311.out hb); have n1_ := Aside0.mk (below_step qB hb); clear BK311; clear HB; have BK311 := n0_; have HB := n1_; clear n0_ n1_; (try clear hb); (try clear hb2); (try clear hk); (try clear hi); have ⟨hcz18_0, hcz18_1, hcz18_2, hcz18_3, hcz18_4, hcz18_5, hcz18_6, hcz18_7, hcz18_8⟩ := qc9 BK311.out; have ⟨hfz18_0, hfz18_1, hfz18_2, hfz18_3, hfz18_4, hfz18_5, hfz18_6, hfz18_7, hfz18_8⟩ := qf9 BK311.out) | (go_at_call 124; (with_reducible refine (impl_arePenalties.calls _ _ l0_7 (l0_0.length : Int) true _ ?side1 ?side2 A8.out).mono ?_); (case side1 => exact qC HR0_7.out); (case side2 => exact HC0_7.out); rintro e w19 ⟨rfl, hb⟩; have n0_ := Aside0.mk (qL BK311.out hb); have n1_ := Aside0.mk (below_step qB hb); clear BK311; clear HB; have BK311 := n0_; have HB := n1_; clear n0_ n1_; (try clear hb); (try clear hb2); (try clear hk); (try clear hi); have ⟨hcz20_0, hcz20_1, hcz20_2, hcz20_3, hcz20_4, hcz20_5, hcz20_6, hcz20_7, hcz20_8⟩ := qc9 BK311.out; have ⟨hfz20_0, hfz20_1, hfz20_2, hfz20_3, hfz20_4, hfz20_5, hfz20_6, hfz20_7, hfz20_8⟩ := qf9 BK311.out) | (go_at_call 124; (with_reducible refine (impl_arePenalties.calls _ _ l0_8 (l0_0.length : Int) t316 _ ?side1 ?side2 A10.out).mono ?_); (case side1 => exact qC HR0_8.out); (case side2 => exact HC0_8.out); rintro e w21 ⟨rfl, hb⟩; have n0_ := Aside0.mk (qL BK311.out hb); have n1_ := Aside0.mk (below_step qB hb); clear BK311; clear HB; have BK311 := n0_; have HB := n1_; clear n0_ n1_; (try clear hb); (try clear hb2); (try clear hk); (try clear hi)))
          go_ret
          exact ⟨by first | rfl | (simp [errW_none, errW_some] <;> rfl) | (simp [*, errW_none, errW_some] <;> rfl), qB⟩
        · replace c9 := Bool.eq_false_iff.mpr c9
          subst c9
          have H1 : (some false) = some r := by rw [if_neg (show ¬ (false = true) by decide)] at H; exact H
          clear H
          have H := H1
          clear H1
          obtain rfl := Option.some.inj H
          go_enter Try.func99, Try.ntmps99
          go_wp2_with (first | ((with_reducible refine gate_dst (N := 1) rfl ?_); refine box_event ?hg (N := 1) ?hd (cs := #[.slice A0_0 l0_0.length c0_0, .int .i64 a0_1, .int .i64 a0_2, .int .i64 a0_3, .slice A0_4 l0_4.length c0_4, .bool a0_5, .slice A0_6 l0_6.length c0_6, .slice A0_7 l0_7.length c0_7, .slice A0_8 l0_8.length c0_8]) (t := 67) ?hr ?_; (case hd => rfl); (case hg => rfl); (case hr => first | (go_simp; done) | (go_simp; rfl)); intro gb311 hg w22 hbox hb; have n0_ := Aside0.mk (below_step qB hb); have n1_ := Aside0.mk (hbox); have n2_ := Aside0.mk ((qG hg : w.heap.size ≤ gb311)); have n3_ := Aside0.mk ((qG hg : w.heap.size ≤ gb311)); clear HB; have HB := n0_; have BK311 := n1_; have GW311 := n2_; have GE311 := n3_; clear n0_ n1_ n2_ n3_; clear hb hbox hg; have ⟨hcz23_0, hcz23_1, hcz23_2, hcz23_3, hcz23_4, hcz23_5, hcz23_6, hcz23_7, hcz23_8⟩ := qc9 BK311.out; have ⟨hfz23_0, hfz23_1, hfz23_2, hfz23_3, hfz23_4, hfz23_5, hfz23_6, hfz23_7, hfz23_8⟩ := qf9 BK311.out) | ((with_reducible refine gate_callee (f := 123) rfl ?_); refine goesL_ (some 9) rfl rfl Try.func123 (by kernel_rfl) rfl #[.slice A0_0 l0_0.length c0_0] rfl qM ?_; (with_reducible refine (impl_FieldOk.calls k _ _ l0_0 true _ ?side1 ?side2 A2.out).mono ?_); (case side1 => exact qC HR0_0.out); (case side2 => exact HC0_0.out); rintro e w24 ⟨rfl, hb⟩; refine ⟨_, rfl, ?_⟩; have n0_ := Aside0.mk (qL BK311.out hb); have n1_ := Aside0.mk (below_step qB hb); clear BK311; clear HB; have BK311 := n0_; have HB := n1_; clear n0_ n1_; (try clear hb); (try clear hb2); (try clear hk); (try clear hi); have ⟨hcz25_0, hcz25_1, hcz25_2, hcz25_3, hcz25_4, hcz25_5, hcz25_6, hcz25_7, hcz25_8⟩ := qc9 BK311.out; have ⟨hfz25_0, hfz25_1, hfz25_2, hfz25_3, hfz25_4, hfz25_5, hfz25_6, hfz25_7, hfz25_8⟩ := qf9 BK311.out) | (go_at_call 11; (with_reducible refine (impl_RulesOk.calls k a0_1 a0_2 a0_3 _ _ l0_4 a0_5 true _ ?side1 ?side2 A4.out).mono ?_); (case side1 => exact qC HR0_4.out); (case side2 => exact HC0_4.out); rintro e w26 ⟨rfl, hb⟩; have n0_ := Aside0.mk (qL BK311.out hb); have n1_ := Aside0.mk (below_step qB hb); clear BK311; clear HB; have BK311 := n0_; have HB := n1_; clear n0_ n1_; (try clear hb); (try clear hb2); (try clear hk); (try clear hi); have ⟨hcz27_0, hcz27_1, hcz27_2, hcz27_3, hcz27_4, hcz27_5, hcz27_6, hcz27_7, hcz27_8⟩ := qc9 BK311.out; have ⟨hfz27_0, hfz27_1, hfz27_2, hfz27_3, hfz27_4, hfz27_5, hfz27_6, hfz27_7, hfz27_8⟩ := qf9 BK311.out) | (go_at_call 108; (with_reducible refine (impl_SeasonOk.calls k (l0_0.length : Int) _ _ l0_6 true _ ?side1 ?side2 A6.out).mono ?_); (case side1 => exact qC HR0_6.out); (case side2 => exact HC0_6.out); rintro e w28 ⟨rfl, hb⟩; have n0_ := Aside0.mk (qL BK311.out hb); have n1_ := Aside0.mk (below_step qB hb); clear BK311; clear HB; have BK311 := n0_; have HB := n1_; clear n0_ n1_; (try clear hb); (try clear hb2); (try clear hk); (try clear hi); have ⟨hcz29_0, hcz29_1, hcz29_2, hcz29_3, hcz29_4, hcz29_5, hcz29_6, hcz29_7, hcz29_8⟩ := qc9 BK311.out; have ⟨hfz29_0, hfz29_1, hfz29_2, hfz29_3, hfz29_4, hfz29_5, hfz29_6, hfz29_7, hfz29_8⟩ := qf9 BK311.out) | (go_at_call 124; (with_reducible refine (impl_arePenalties.calls _ _ l0_7 (l0_0.length : Int) false _ ?side1 ?side2 A8.out).mono ?_); (case side1 => exact qC HR0_7.out); (case side2 => exact HC0_7.out); rintro e w30 ⟨rfl, hb⟩; have n0_ := Aside0.mk (qL BK311.out hb); have n1_ := Aside0.mk (below_step qB hb); clear BK311; clear HB; have BK311 := n0_; have HB := n1_; clear n0_ n1_; (try clear hb); (try clear hb2); (try clear hk); (try clear hi)))
          go_ret
          exact ⟨by first | rfl | (simp [errW_none, errW_some] <;> rfl) | (simp [*, errW_none, errW_some] <;> rfl), qB⟩
      · replace c7 := Bool.eq_false_iff.mpr c7
        subst c7
        have H1 : (some false) = some r := by rw [if_neg (show ¬ (false = true) by decide)] at H; exact H
        clear H
        have H := H1
        clear H1
        obtain rfl := Option.some.inj H
        go_enter Try.func99, Try.ntmps99
        go_wp2_with (first | ((with_reducible refine gate_dst (N := 1) rfl ?_); refine box_event ?hg (N := 1) ?hd (cs := #[.slice A0_0 l0_0.length c0_0, .int .i64 a0_1, .int .i64 a0_2, .int .i64 a0_3, .slice A0_4 l0_4.length c0_4, .bool a0_5, .slice A0_6 l0_6.length c0_6, .slice A0_7 l0_7.length c0_7, .slice A0_8 l0_8.length c0_8]) (t := 67) ?hr ?_; (case hd => rfl); (case hg => rfl); (case hr => first | (go_simp; done) | (go_simp; rfl)); intro gb311 hg w31 hbox hb; have n0_ := Aside0.mk (below_step qB hb); have n1_ := Aside0.mk (hbox); have n2_ := Aside0.mk ((qG hg : w.heap.size ≤ gb311)); have n3_ := Aside0.mk ((qG hg : w.heap.size ≤ gb311)); clear HB; have HB := n0_; have BK311 := n1_; have GW311 := n2_; have GE311 := n3_; clear n0_ n1_ n2_ n3_; clear hb hbox hg; have ⟨hcz32_0, hcz32_1, hcz32_2, hcz32_3, hcz32_4, hcz32_5, hcz32_6, hcz32_7, hcz32_8⟩ := qc9 BK311.out; have ⟨hfz32_0, hfz32_1, hfz32_2, hfz32_3, hfz32_4, hfz32_5, hfz32_6, hfz32_7, hfz32_8⟩ := qf9 BK311.out) | ((with_reducible refine gate_callee (f := 123) rfl ?_); refine goesL_ (some 9) rfl rfl Try.func123 (by kernel_rfl) rfl #[.slice A0_0 l0_0.length c0_0] rfl qM ?_; (with_reducible refine (impl_FieldOk.calls k _ _ l0_0 true _ ?side1 ?side2 A2.out).mono ?_); (case side1 => exact qC HR0_0.out); (case side2 => exact HC0_0.out); rintro e w33 ⟨rfl, hb⟩; refine ⟨_, rfl, ?_⟩; have n0_ := Aside0.mk (qL BK311.out hb); have n1_ := Aside0.mk (below_step qB hb); clear BK311; clear HB; have BK311 := n0_; have HB := n1_; clear n0_ n1_; (try clear hb); (try clear hb2); (try clear hk); (try clear hi); have ⟨hcz34_0, hcz34_1, hcz34_2, hcz34_3, hcz34_4, hcz34_5, hcz34_6, hcz34_7, hcz34_8⟩ := qc9 BK311.out; have ⟨hfz34_0, hfz34_1, hfz34_2, hfz34_3, hfz34_4, hfz34_5, hfz34_6, hfz34_7, hfz34_8⟩ := qf9 BK311.out) | (go_at_call 11; (with_reducible refine (impl_RulesOk.calls k a0_1 a0_2 a0_3 _ _ l0_4 a0_5 true _ ?side1 ?side2 A4.out).mono ?_); (case side1 => exact qC HR0_4.out); (case side2 => exact HC0_4.out); rintro e w35 ⟨rfl, hb⟩; have n0_ := Aside0.mk (qL BK311.out hb); have n1_ := Aside0.mk (below_step qB hb); clear BK311; clear HB; have BK311 := n0_; have HB := n1_; clear n0_ n1_; (try clear hb); (try clear hb2); (try clear hk); (try clear hi); have ⟨hcz36_0, hcz36_1, hcz36_2, hcz36_3, hcz36_4, hcz36_5, hcz36_6, hcz36_7, hcz36_8⟩ := qc9 BK311.out; have ⟨hfz36_0, hfz36_1, hfz36_2, hfz36_3, hfz36_4, hfz36_5, hfz36_6, hfz36_7, hfz36_8⟩ := qf9 BK311.out) | (go_at_call 108; (with_reducible refine (impl_SeasonOk.calls k (l0_0.length : Int) _ _ l0_6 false _ ?side1 ?side2 A6.out).mono ?_); (case side1 => exact qC HR0_6.out); (case side2 => exact HC0_6.out); rintro e w37 ⟨rfl, hb⟩; have n0_ := Aside0.mk (qL BK311.out hb); have n1_ := Aside0.mk (below_step qB hb); clear BK311; clear HB; have BK311 := n0_; have HB := n1_; clear n0_ n1_; (try clear hb); (try clear hb2); (try clear hk); (try clear hi)))
        go_ret
        exact ⟨by first | rfl | (simp [errW_none, errW_some] <;> rfl) | (simp [*, errW_none, errW_some] <;> rfl), qB⟩
    · replace c5 := Bool.eq_false_iff.mpr c5
      subst c5
      have H1 : (some false) = some r := by rw [if_neg (show ¬ (false = true) by decide)] at H; exact H
      clear H
      have H := H1
      clear H1
      obtain rfl := Option.some.inj H
      go_enter Try.func99, Try.ntmps99
      go_wp2_with (first | ((with_reducible refine gate_dst (N := 1) rfl ?_); refine box_event ?hg (N := 1) ?hd (cs := #[.slice A0_0 l0_0.length c0_0, .int .i64 a0_1, .int .i64 a0_2, .int .i64 a0_3, .slice A0_4 l0_4.length c0_4, .bool a0_5, .slice A0_6 l0_6.length c0_6, .slice A0_7 l0_7.length c0_7, .slice A0_8 l0_8.length c0_8]) (t := 67) ?hr ?_; (case hd => rfl); (case hg => rfl); (case hr => first | (go_simp; done) | (go_simp; rfl)); intro gb311 hg w38 hbox hb; have n0_ := Aside0.mk (below_step qB hb); have n1_ := Aside0.mk (hbox); have n2_ := Aside0.mk ((qG hg : w.heap.size ≤ gb311)); have n3_ := Aside0.mk ((qG hg : w.heap.size ≤ gb311)); clear HB; have HB := n0_; have BK311 := n1_; have GW311 := n2_; have GE311 := n3_; clear n0_ n1_ n2_ n3_; clear hb hbox hg; have ⟨hcz39_0, hcz39_1, hcz39_2, hcz39_3, hcz39_4, hcz39_5, hcz39_6, hcz39_7, hcz39_8⟩ := qc9 BK311.out; have ⟨hfz39_0, hfz39_1, hfz39_2, hfz39_3, hfz39_4, hfz39_5, hfz39_6, hfz39_7, hfz39_8⟩ := qf9 BK311.out) | ((with_reducible refine gate_callee (f := 123) rfl ?_); refine goesL_ (some 9) rfl rfl Try.func123 (by kernel_rfl) rfl #[.slice A0_0 l0_0.length c0_0] rfl qM ?_; (with_reducible refine (impl_FieldOk.calls k _ _ l0_0 true _ ?side1 ?side2 A2.out).mono ?_); (case side1 => exact qC HR0_0.out); (case side2 => exact HC0_0.out); rintro e w40 ⟨rfl, hb⟩; refine ⟨_, rfl, ?_⟩; have n0_ := Aside0.mk (qL BK311.out hb); have n1_ := Aside0.mk (below_step qB hb); clear BK311; clear HB; have BK311 := n0_; have HB := n1_; clear n0_ n1_; (try clear hb); (try clear hb2); (try clear hk); (try clear hi); have ⟨hcz41_0, hcz41_1, hcz41_2, hcz41_3, hcz41_4, hcz41_5, hcz41_6, hcz41_7, hcz41_8⟩ := qc9 BK311.out; have ⟨hfz41_0, hfz41_1, hfz41_2, hfz41_3, hfz41_4, hfz41_5, hfz41_6, hfz41_7, hfz41_8⟩ := qf9 BK311.out) | (go_at_call 11; (with_reducible refine (impl_RulesOk.calls k a0_1 a0_2 a0_3 _ _ l0_4 a0_5 false _ ?side1 ?side2 A4.out).mono ?_); (case side1 => exact qC HR0_4.out); (case side2 => exact HC0_4.out); rintro e w42 ⟨rfl, hb⟩; have n0_ := Aside0.mk (qL BK311.out hb); have n1_ := Aside0.mk (below_step qB hb); clear BK311; clear HB; have BK311 := n0_; have HB := n1_; clear n0_ n1_; (try clear hb); (try clear hb2); (try clear hk); (try clear hi)))
      go_ret
      exact ⟨by first | rfl | (simp [errW_none, errW_some] <;> rfl) | (simp [*, errW_none, errW_some] <;> rfl), qB⟩
  · replace c3 := Bool.eq_false_iff.mpr c3
    subst c3
    have H1 : (some false) = some r := by rw [if_neg (show ¬ (false = true) by decide)] at H; exact H
    clear H
    have H := H1
    clear H1
    obtain rfl := Option.some.inj H
    go_enter Try.func99, Try.ntmps99
    go_wp2_with (first | ((with_reducible refine gate_dst (N := 1) rfl ?_); refine box_event ?hg (N := 1) ?hd (cs := #[.slice A0_0 l0_0.length c0_0, .int .i64 a0_1, .int .i64 a0_2, .int .i64 a0_3, .slice A0_4 l0_4.length c0_4, .bool a0_5, .slice A0_6 l0_6.length c0_6, .slice A0_7 l0_7.length c0_7, .slice A0_8 l0_8.length c0_8]) (t := 67) ?hr ?_; (case hd => rfl); (case hg => rfl); (case hr => first | (go_simp; done) | (go_simp; rfl)); intro gb311 hg w43 hbox hb; have n0_ := Aside0.mk (below_step qB hb); have n1_ := Aside0.mk (hbox); have n2_ := Aside0.mk ((qG hg : w.heap.size ≤ gb311)); have n3_ := Aside0.mk ((qG hg : w.heap.size ≤ gb311)); clear HB; have HB := n0_; have BK311 := n1_; have GW311 := n2_; have GE311 := n3_; clear n0_ n1_ n2_ n3_; clear hb hbox hg; have ⟨hcz44_0, hcz44_1, hcz44_2, hcz44_3, hcz44_4, hcz44_5, hcz44_6, hcz44_7, hcz44_8⟩ := qc9 BK311.out; have ⟨hfz44_0, hfz44_1, hfz44_2, hfz44_3, hfz44_4, hfz44_5, hfz44_6, hfz44_7, hfz44_8⟩ := qf9 BK311.out) | ((with_reducible refine gate_callee (f := 123) rfl ?_); refine goesL_ (some 9) rfl rfl Try.func123 (by kernel_rfl) rfl #[.slice A0_0 l0_0.length c0_0] rfl qM ?_; (with_reducible refine (impl_FieldOk.calls k _ _ l0_0 false _ ?side1 ?side2 A2.out).mono ?_); (case side1 => exact qC HR0_0.out); (case side2 => exact HC0_0.out); rintro e w45 ⟨rfl, hb⟩; refine ⟨_, rfl, ?_⟩; have n0_ := Aside0.mk (qL BK311.out hb); have n1_ := Aside0.mk (below_step qB hb); clear BK311; clear HB; have BK311 := n0_; have HB := n1_; clear n0_ n1_; (try clear hb); (try clear hb2); (try clear hk); (try clear hi)))
    go_ret
    exact ⟨by first | rfl | (simp [errW_none, errW_some] <;> rfl) | (simp [*, errW_none, errW_some] <;> rfl), qB⟩

/-! ### impl_isTeam: function 100 -/
def impl_isTeam.f (l0_0 : List (S151)) (a0_1 : Int) (a0_2 : Int) (a0_3 : Int) (l0_4 : List Int) (a0_5 : Bool) (l0_6 : List (S71)) (l0_7 : List Int) (l0_8 : List Int) (a1 : Int) : Option (Bool) := (impl_within.f a1 0 (wrap64 ((l0_0.length : Int) - 1))).bind fun t318 => (some t318)
set_option maxHeartbeats 8000000 in
set_option maxRecDepth 100000 in
theorem impl_isTeam.calls (A0_0 : Option Addr) (c0_0 : Nat) (l0_0 : List (S151)) (a0_1 : Int) (a0_2 : Int) (a0_3 : Int) (A0_4 : Option Addr) (c0_4 : Nat) (l0_4 : List Int) (a0_5 : Bool) (A0_6 : Option Addr) (c0_6 : Nat) (l0_6 : List (S71)) (A0_7 : Option Addr) (c0_7 : Nat) (l0_7 : List Int) (A0_8 : Option Addr) (c0_8 : Nat) (l0_8 : List Int) (a1 : Int) (r : Bool) (w : World) (hr0_0 : Kd.C k151 w A0_0 l0_0.length l0_0) (hc0_0 : l0_0.length ≤ c0_0) (hr0_4 : Kd.C (Kd.int .i64) w A0_4 l0_4.length l0_4) (hc0_4 : l0_4.length ≤ c0_4) (hr0_6 : Kd.C k71 w A0_6 l0_6.length l0_6) (hc0_6 : l0_6.length ≤ c0_6) (hr0_7 : Kd.C (Kd.int .i64) w A0_7 l0_7.length l0_7) (hc0_7 : l0_7.length ≤ c0_7) (hr0_8 : Kd.C (Kd.int .i64) w A0_8 l0_8.length l0_8) (hc0_8 : l0_8.length ≤ c0_8) (h : impl_isTeam.f l0_0 a0_1 a0_2 a0_3 l0_4 a0_5 l0_6 l0_7 l0_8 a1 = some r) :
    Calls Try.prog 100 #[.agg #[.slice A0_0 l0_0.length c0_0, .int .i64 a0_1, .int .i64 a0_2, .int .i64 a0_3, .slice A0_4 l0_4.length c0_4, .bool a0_5, .slice A0_6 l0_6.length c0_6, .slice A0_7 l0_7.length c0_7, .slice A0_8 l0_8.length c0_8], .int .i64 a1] w fun e w' => e = .returned (.bool r) ∧ Below w.heap.size w w' := by
  have hu67 := Try.underlying67
  have HR0_0 := Aside0.mk hr0_0
  have HC0_0 := Aside0.mk hc0_0
  clear hr0_0 hc0_0
  have HR0_4 := Aside0.mk hr0_4
  have HC0_4 := Aside0.mk hc0_4
  clear hr0_4 hc0_4
  have HR0_6 := Aside0.mk hr0_6
  have HC0_6 := Aside0.mk hc0_6
  clear hr0_6 hc0_6
  have HR0_7 := Aside0.mk hr0_7
  have HC0_7 := Aside0.mk hc0_7
  clear hr0_7 hc0_7
  have HR0_8 := Aside0.mk hr0_8
  have HC0_8 := Aside0.mk hc0_8
  clear hr0_8 hc0_8
  have HB := Aside0.mk (Below.refl w.heap.size w)
  have H : ((impl_within.f a1 0 (wrap64 ((l0_0.length : Int) - 1))).bind fun t318 => (some t318)) = some r := h
  clear h
  replace H := Option.bind_eq_some_iff.mp H
  obtain ⟨t318, A30, H⟩ := H
  try dsimp only at H
  have A3 := Aside0.mk A30
  clear A30
  obtain rfl := Option.some.inj H
  go_enter Try.func100, Try.ntmps100
  go_wp2_with (first | ((with_reducible refine gate_dst (N := 2) rfl ?_); refine box_event ?hg (N := 2) ?hd (cs := #[.slice A0_0 l0_0.length c0_0, .int .i64 a0_1, .int .i64 a0_2, .int .i64 a0_3, .slice A0_4 l0_4.length c0_4, .bool a0_5, .slice A0_6 l0_6.length c0_6, .slice A0_7 l0_7.length c0_7, .slice A0_8 l0_8.length c0_8]) (t := 67) ?hr ?_; (case hd => rfl); (case hg => rfl); (case hr => first | (go_simp; done) | (go_simp; rfl)); intro gb317 hg w4 hbox hb; have n0_ := Aside0.mk (below_step qB hb); have n1_ := Aside0.mk (hbox); have n2_ := Aside0.mk ((qG hg : w.heap.size ≤ gb317)); have n3_ := Aside0.mk ((qG hg : w.heap.size ≤ gb317)); clear HB; have HB := n0_; have BK317 := n1_; have GW317 := n2_; have GE317 := n3_; clear n0_ n1_ n2_ n3_; clear hb hbox hg; have ⟨hcz5_0, hcz5_1, hcz5_2, hcz5_3, hcz5_4, hcz5_5, hcz5_6, hcz5_7, hcz5_8⟩ := qc9 BK317.out; have ⟨hfz5_0, hfz5_1, hfz5_2, hfz5_3, hfz5_4, hfz5_5, hfz5_6, hfz5_7, hfz5_8⟩ := qf9 BK317.out) | ((with_reducible refine gate_callee (f := 62) rfl ?_); refine goesL_ (some 10) rfl rfl Try.func62 (by kernel_rfl) rfl #[.int .i64 a1, .int .i64 0, .int .i64 (wrap64 ((l0_0.length : Int) - 1))] rfl qM ?_; (with_reducible refine (impl_within.calls a1 0 (wrap64 ((l0_0.length : Int) - 1)) t318 _ A3.out).mono ?_); rintro e w' ⟨rfl, ⟨nd, rfl⟩⟩; refine ⟨_, rfl, ?_⟩))
  go_ret
  exact ⟨by first | rfl | (simp [errW_none, errW_some] <;> rfl) | (simp [*, errW_none, errW_some] <;> rfl), qB⟩

/-! ### impl_GoalsOf: function 94 -/
def impl_GoalsOf.f (a0_0 : Int) (a0_1 : Int) (a0_2 : Int) (a0_3 : Int) (a0_4 : Int) : Option (Int × Int × Bool) := if a0_4 = 1 then (some (a0_2, a0_3, true)) else (if a0_4 = 2 then (some (3, 0, true)) else (if a0_4 = 3 then (some (0, 3, true)) else (some (0, 0, false))))
set_option maxHeartbeats 8000000 in
set_option maxRecDepth 100000 in
theorem impl_GoalsOf.calls (a0_0 : Int) (a0_1 : Int) (a0_2 : Int) (a0_3 : Int) (a0_4 : Int) (r1 : Int) (r2 : Int) (r3 : Bool) (w : World) (h : impl_GoalsOf.f a0_0 a0_1 a0_2 a0_3 a0_4 = some (r1, r2, r3)) :
    Calls Try.prog 94 #[.agg #[.int .i64 a0_0, .int .i64 a0_1, .int .i64 a0_2, .int .i64 a0_3, .int .i64 a0_4]] w fun e w' => e = .returned (.tuple #[.int .i64 r1, .int .i64 r2, .bool r3]) ∧ Below w.heap.size w w' := by
  have hu71 := Try.underlying71
  have HB := Aside0.mk (Below.refl w.heap.size w)
  have H : (if a0_4 = 1 then (some (a0_2, a0_3, true)) else (if a0_4 = 2 then (some (3, 0, true)) else (if a0_4 = 3 then (some (0, 3, true)) else (some (0, 0, false))))) = some (r1, r2, r3) := h
  clear h
  by_cases c2 : a0_4 = 1
  · rw [if_pos c2] at H
    have c2b0 : (a0_4 == 1) = true := beq_iff_eq.mpr c2
    have c2b1 : (a0_4 != 1) = false := bne_eq_false_iff_eq.mpr c2
    clear c2
    simp only [Option.some.injEq, Prod.mk.injEq] at H
    obtain ⟨rfl, rfl, rfl⟩ := H
    go_enter Try.func94, Try.ntmps94
    go_wp2_with (first | ((with_reducible refine gate_dst (N := 1) rfl ?_); refine box_event ?hg (N := 1) ?hd (cs := #[.int .i64 a0_0, .int .i64 a0_1, .int .i64 a0_2, .int .i64 a0_3, .int .i64 a0_4]) (t := 71) ?hr ?_; (case hd => rfl); (case hg => rfl); (case hr => first | (go_simp; done) | (go_simp; rfl)); intro gb319 hg w3 hbox hb; have n0_ := Aside0.mk (below_step qB hb); have n1_ := Aside0.mk (hbox); have n2_ := Aside0.mk ((qG hg : w.heap.size ≤ gb319)); have n3_ := Aside0.mk ((qG hg : w.heap.size ≤ gb319)); clear HB; have HB := n0_; have BK319 := n1_; have GW319 := n2_; have GE319 := n3_; clear n0_ n1_ n2_ n3_; clear hb hbox hg; have ⟨hcz4_0, hcz4_1, hcz4_2, hcz4_3, hcz4_4⟩ := qc5 BK319.out; have ⟨hfz4_0, hfz4_1, hfz4_2, hfz4_3, hfz4_4⟩ := qf5 BK319.out))
    repeat (go_quiet (first | ((with_reducible refine gate_dst (N := 1) rfl ?_); refine box_event ?hg (N := 1) ?hd (cs := #[.int .i64 a0_0, .int .i64 a0_1, .int .i64 a0_2, .int .i64 a0_3, .int .i64 a0_4]) (t := 71) ?hr ?_; (case hd => rfl); (case hg => rfl); (case hr => first | (go_simp; done) | (go_simp; rfl)); intro gb319 hg w3 hbox hb; have n0_ := Aside0.mk (below_step qB hb); have n1_ := Aside0.mk (hbox); have n2_ := Aside0.mk ((qG hg : w.heap.size ≤ gb319)); have n3_ := Aside0.mk ((qG hg : w.heap.size ≤ gb319)); clear HB; have HB := n0_; have BK319 := n1_; have GW319 := n2_; have GE319 := n3_; clear n0_ n1_ n2_ n3_; clear hb hbox hg; have ⟨hcz4_0, hcz4_1, hcz4_2, hcz4_3, hcz4_4⟩ := qc5 BK319.out; have ⟨hfz4_0, hfz4_1, hfz4_2, hfz4_3, hfz4_4⟩ := qf5 BK319.out)); try go_wp2_with (first | ((with_reducible refine gate_dst (N := 1) rfl ?_); refine box_event ?hg (N := 1) ?hd (cs := #[.int .i64 a0_0, .int .i64 a0_1, .int .i64 a0_2, .int .i64 a0_3, .int .i64 a0_4]) (t := 71) ?hr ?_; (case hd => rfl); (case hg => rfl); (case hr => first | (go_simp; done) | (go_simp; rfl)); intro gb319 hg w3 hbox hb; have n0_ := Aside0.mk (below_step qB hb); have n1_ := Aside0.mk (hbox); have n2_ := Aside0.mk ((qG hg : w.heap.size ≤ gb319)); have n3_ := Aside0.mk ((qG hg : w.heap.size ≤ gb319)); clear HB; have HB := n0_; have BK319 := n1_; have GW319 := n2_; have GE319 := n3_; clear n0_ n1_ n2_ n3_; clear hb hbox hg; have ⟨hcz4_0, hcz4_1, hcz4_2, hcz4_3, hcz4_4⟩ := qc5 BK319.out; have ⟨hfz4_0, hfz4_1, hfz4_2, hfz4_3, hfz4_4⟩ := qf5 BK319.out)))
    go_ret3
    exact ⟨by first | rfl | (simp [errW_none, errW_some] <;> rfl) | (simp [*, errW_none, errW_some] <;> rfl), qB⟩
  · rw [if_neg c2] at H
    have c2b0 : (a0_4 == 1) = false := beq_eq_false_iff_ne.mpr c2
    have c2b1 : (a0_4 != 1) = true := bne_iff_ne.mpr c2
    by_cases c5 : a0_4 = 2
    · rw [if_pos c5] at H
      have c5b0 : (a0_4 == 2) = true := beq_iff_eq.mpr c5
      have c5b1 : (a0_4 != 2) = false := bne_eq_false_iff_eq.mpr c5
      clear c5
      simp only [Option.some.injEq, Prod.mk.injEq] at H
      obtain ⟨rfl, rfl, rfl⟩ := H
      go_enter Try.func94, Try.ntmps94
      go_wp2_with (first | ((with_reducible refine gate_dst (N := 1) rfl ?_); refine box_event ?hg (N := 1) ?hd (cs := #[.int .i64 a0_0, .int .i64 a0_1, .int .i64 a0_2, .int .i64 a0_3, .int .i64 a0_4]) (t := 71) ?hr ?_; (case hd => rfl); (case hg => rfl); (case hr => first | (go_simp; done) | (go_simp; rfl)); intro gb319 hg w6 hbox hb; have n0_ := Aside0.mk (below_step qB hb); have n1_ := Aside0.mk (hbox); have n2_ := Aside0.mk ((qG hg : w.heap.size ≤ gb319)); have n3_ := Aside0.mk ((qG hg : w.heap.size ≤ gb319)); clear HB; have HB := n0_; have BK319 := n1_; have GW319 := n2_; have GE319 := n3_; clear n0_ n1_ n2_ n3_; clear hb hbox hg; have ⟨hcz7_0, hcz7_1, hcz7_2, hcz7_3, hcz7_4⟩ := qc5 BK319.out; have ⟨hfz7_0, hfz7_1, hfz7_2, hfz7_3, hfz7_4⟩ := qf5 BK319.out))
      repeat (go_quiet (first | ((with_reducible refine gate_dst (N := 1) rfl ?_); refine box_event ?hg (N := 1) ?hd (cs := #[.int .i64 a0_0, .int .i64 a0_1, .int .i64 a0_2, .int .i64 a0_3, .int .i64 a0_4]) (t := 71) ?hr ?_; (case hd => rfl); (case hg => rfl); (case hr => first | (go_simp; done) | (go_simp; rfl)); intro gb319 hg w6 hbox hb; have n0_ := Aside0.mk (below_step qB hb); have n1_ := Aside0.mk (hbox); have n2_ := Aside0.mk ((qG hg : w.heap.size ≤ gb319)); have n3_ := Aside0.mk ((qG hg : w.heap.size ≤ gb319)); clear HB; have HB := n0_; have BK319 := n1_; have GW319 := n2_; have GE319 := n3_; clear n0_ n1_ n2_ n3_; clear hb hbox hg; have ⟨hcz7_0, hcz7_1, hcz7_2, hcz7_3, hcz7_4⟩ := qc5 BK319.out; have ⟨hfz7_0, hfz7_1, hfz7_2, hfz7_3, hfz7_4⟩ := qf5 BK319.out)); try go_wp2_with (first | ((with_reducible refine gate_dst (N := 1) rfl ?_); refine box_event ?hg (N := 1) ?hd (cs := #[.int .i64 a0_0, .int .i64 a0_1, .int .i64 a0_2, .int .i64 a0_3, .int .i64 a0_4]) (t := 71) ?hr ?_; (case hd => rfl); (case hg => rfl); (case hr => first | (go_simp; done) | (go_simp; rfl)); intro gb319 hg w6 hbox hb; have n0_ := Aside0.mk (below_step qB hb); have n1_ := Aside0.mk (hbox); have n2_ := Aside0.mk ((qG hg : w.heap.size ≤ gb319)); have n3_ := Aside0.mk ((qG hg : w.heap.size ≤ gb319)); clear HB; have HB := n0_; have BK319 := n1_; have GW319 := n2_; have GE319 := n3_; clear n0_ n1_ n2_ n3_; clear hb hbox hg; have ⟨hcz7_0, hcz7_1, hcz7_2, hcz7_3, hcz7_4⟩ := qc5 BK319.out; have ⟨hfz7_0, hfz7_1, hfz7_2, hfz7_3, hfz7_4⟩ := qf5 BK319.out)))
      go_ret3
      exact ⟨by first | rfl | (simp [errW_none, errW_some] <;> rfl) | (simp [*, errW_none, errW_some] <;> rfl), qB⟩
    · rw [if_neg c5] at H
      have c5b0 : (a0_4 == 2) = false := beq_eq_false_iff_ne.mpr c5
      have c5b1 : (a0_4 != 2) = true := bne_iff_ne.mpr c5
      by_cases c8 : a0_4 = 3
      · rw [if_pos c8] at H
        have c8b0 : (a0_4 == 3) = true := beq_iff_eq.mpr c8
        have c8b1 : (a0_4 != 3) = false := bne_eq_false_iff_eq.mpr c8
        clear c8
        simp only [Option.some.injEq, Prod.mk.injEq] at H
        obtain ⟨rfl, rfl, rfl⟩ := H
        go_enter Try.func94, Try.ntmps94
        go_wp2_with (first | ((with_reducible refine gate_dst (N := 1) rfl ?_); refine box_event ?hg (N := 1) ?hd (cs := #[.int .i64 a0_0, .int .i64 a0_1, .int .i64 a0_2, .int .i64 a0_3, .int .i64 a0_4]) (t := 71) ?hr ?_; (case hd => rfl); (case hg => rfl); (case hr => first | (go_simp; done) | (go_simp; rfl)); intro gb319 hg w9 hbox hb; have n0_ := Aside0.mk (below_step qB hb); have n1_ := Aside0.mk (hbox); have n2_ := Aside0.mk ((qG hg : w.heap.size ≤ gb319)); have n3_ := Aside0.mk ((qG hg : w.heap.size ≤ gb319)); clear HB; have HB := n0_; have BK319 := n1_; have GW319 := n2_; have GE319 := n3_; clear n0_ n1_ n2_ n3_; clear hb hbox hg; have ⟨hcz10_0, hcz10_1, hcz10_2, hcz10_3, hcz10_4⟩ := qc5 BK319.out; have ⟨hfz10_0, hfz10_1, hfz10_2, hfz10_3, hfz10_4⟩ := qf5 BK319.out))
        repeat (go_quiet (first | ((with_reducible refine gate_dst (N := 1) rfl ?_); refine box_event ?hg (N := 1) ?hd (cs := #[.int .i64 a0_0, .int .i64 a0_1, .int .i64 a0_2, .int .i64 a0_3, .int .i64 a0_4]) (t := 71) ?hr ?_; (case hd => rfl); (case hg => rfl); (case hr => first | (go_simp; done) | (go_simp; rfl)); intro gb319 hg w9 hbox hb; have n0_ := Aside0.mk (below_step qB hb); have n1_ := Aside0.mk (hbox); have n2_ := Aside0.mk ((qG hg : w.heap.size ≤ gb319)); have n3_ := Aside0.mk ((qG hg : w.heap.size ≤ gb319)); clear HB; have HB := n0_; have BK319 := n1_; have GW319 := n2_; have GE319 := n3_; clear n0_ n1_ n2_ n3_; clear hb hbox hg; have ⟨hcz10_0, hcz10_1, hcz10_2, hcz10_3, hcz10_4⟩ := qc5 BK319.out; have ⟨hfz10_0, hfz10_1, hfz10_2, hfz10_3, hfz10_4⟩ := qf5 BK319.out)); try go_wp2_with (first | ((with_reducible refine gate_dst (N := 1) rfl ?_); refine box_event ?hg (N := 1) ?hd (cs := #[.int .i64 a0_0, .int .i64 a0_1, .int .i64 a0_2, .int .i64 a0_3, .int .i64 a0_4]) (t := 71) ?hr ?_; (case hd => rfl); (case hg => rfl); (case hr => first | (go_simp; done) | (go_simp; rfl)); intro gb319 hg w9 hbox hb; have n0_ := Aside0.mk (below_step qB hb); have n1_ := Aside0.mk (hbox); have n2_ := Aside0.mk ((qG hg : w.heap.size ≤ gb319)); have n3_ := Aside0.mk ((qG hg : w.heap.size ≤ gb319)); clear HB; have HB := n0_; have BK319 := n1_; have GW319 := n2_; have GE319 := n3_; clear n0_ n1_ n2_ n3_; clear hb hbox hg; have ⟨hcz10_0, hcz10_1, hcz10_2, hcz10_3, hcz10_4⟩ := qc5 BK319.out; have ⟨hfz10_0, hfz10_1, hfz10_2, hfz10_3, hfz10_4⟩ := qf5 BK319.out)))
        go_ret3
        exact ⟨by first | rfl | (simp [errW_none, errW_some] <;> rfl) | (simp [*, errW_none, errW_some] <;> rfl), qB⟩
      · rw [if_neg c8] at H
        have c8b0 : (a0_4 == 3) = false := beq_eq_false_iff_ne.mpr c8
        have c8b1 : (a0_4 != 3) = true := bne_iff_ne.mpr c8
        simp only [Option.some.injEq, Prod.mk.injEq] at H
        obtain ⟨rfl, rfl, rfl⟩ := H
        go_enter Try.func94, Try.ntmps94
        go_wp2_with (first | ((with_reducible refine gate_dst (N := 1) rfl ?_); refine box_event ?hg (N := 1) ?hd (cs := #[.int .i64 a0_0, .int .i64 a0_1, .int .i64 a0_2, .int .i64 a0_3, .int .i64 a0_4]) (t := 71) ?hr ?_; (case hd => rfl); (case hg => rfl); (case hr => first | (go_simp; done) | (go_simp; rfl)); intro gb319 hg w11 hbox hb; have n0_ := Aside0.mk (below_step qB hb); have n1_ := Aside0.mk (hbox); have n2_ := Aside0.mk ((qG hg : w.heap.size ≤ gb319)); have n3_ := Aside0.mk ((qG hg : w.heap.size ≤ gb319)); clear HB; have HB := n0_; have BK319 := n1_; have GW319 := n2_; have GE319 := n3_; clear n0_ n1_ n2_ n3_; clear hb hbox hg; have ⟨hcz12_0, hcz12_1, hcz12_2, hcz12_3, hcz12_4⟩ := qc5 BK319.out; have ⟨hfz12_0, hfz12_1, hfz12_2, hfz12_3, hfz12_4⟩ := qf5 BK319.out))
        repeat (go_quiet (first | ((with_reducible refine gate_dst (N := 1) rfl ?_); refine box_event ?hg (N := 1) ?hd (cs := #[.int .i64 a0_0, .int .i64 a0_1, .int .i64 a0_2, .int .i64 a0_3, .int .i64 a0_4]) (t := 71) ?hr ?_; (case hd => rfl); (case hg => rfl); (case hr => first | (go_simp; done) | (go_simp; rfl)); intro gb319 hg w11 hbox hb; have n0_ := Aside0.mk (below_step qB hb); have n1_ := Aside0.mk (hbox); have n2_ := Aside0.mk ((qG hg : w.heap.size ≤ gb319)); have n3_ := Aside0.mk ((qG hg : w.heap.size ≤ gb319)); clear HB; have HB := n0_; have BK319 := n1_; have GW319 := n2_; have GE319 := n3_; clear n0_ n1_ n2_ n3_; clear hb hbox hg; have ⟨hcz12_0, hcz12_1, hcz12_2, hcz12_3, hcz12_4⟩ := qc5 BK319.out; have ⟨hfz12_0, hfz12_1, hfz12_2, hfz12_3, hfz12_4⟩ := qf5 BK319.out)); try go_wp2_with (first | ((with_reducible refine gate_dst (N := 1) rfl ?_); refine box_event ?hg (N := 1) ?hd (cs := #[.int .i64 a0_0, .int .i64 a0_1, .int .i64 a0_2, .int .i64 a0_3, .int .i64 a0_4]) (t := 71) ?hr ?_; (case hd => rfl); (case hg => rfl); (case hr => first | (go_simp; done) | (go_simp; rfl)); intro gb319 hg w11 hbox hb; have n0_ := Aside0.mk (below_step qB hb); have n1_ := Aside0.mk (hbox); have n2_ := Aside0.mk ((qG hg : w.heap.size ≤ gb319)); have n3_ := Aside0.mk ((qG hg : w.heap.size ≤ gb319)); clear HB; have HB := n0_; have BK319 := n1_; have GW319 := n2_; have GE319 := n3_; clear n0_ n1_ n2_ n3_; clear hb hbox hg; have ⟨hcz12_0, hcz12_1, hcz12_2, hcz12_3, hcz12_4⟩ := qc5 BK319.out; have ⟨hfz12_0, hfz12_1, hfz12_2, hfz12_3, hfz12_4⟩ := qf5 BK319.out)))
        go_ret3
        exact ⟨by first | rfl | (simp [errW_none, errW_some] <;> rfl) | (simp [*, errW_none, errW_some] <;> rfl), qB⟩

-- NOT PRINTED: function 87 (impl_tableOf)

/-! ### impl_rankerOf: function 101 -/
/-! A table's rows while a game is counted: two rows X and Y, at the places h and a, in a row of the call's own. -/
def tbSet (x : S74) (j : Nat) (v : Int) : S74 := match j with | 0 => { x with f0 := v } | 1 => { x with f1 := v } | 2 => { x with f2 := v } | 3 => { x with f3 := v } | 4 => { x with f4 := v } | 5 => { x with f5 := v } | 6 => { x with f6 := v } | _ => x
def tbGet (x : S74) (j : Nat) : Int := match j with | 0 => x.f0 | 1 => x.f1 | 2 => x.f2 | 3 => x.f3 | 4 => x.f4 | 5 => x.f5 | _ => x.f6
theorem tb_getElem (x : S74) (j : Nat) (hj : j < 7) : ([.int .i64 x.f0, .int .i64 x.f1, .int .i64 x.f2, .int .i64 x.f3, .int .i64 x.f4, .int .i64 x.f5, .int .i64 x.f6] : List Value)[j]? = some (.int .i64 (tbGet x j)) := by
  match j, hj with
  | 0, _ => rfl
  | 1, _ => rfl
  | 2, _ => rfl
  | 3, _ => rfl
  | 4, _ => rfl
  | 5, _ => rfl
  | 6, _ => rfl
theorem tb_seg (w : World) (base : Nat) (ok : Nat → Prop) (x : S74) (j : Nat) (v : Int) (hj : j < 7) : k74.M w base ok (tbSet x j v) ((([.int .i64 x.f0, .int .i64 x.f1, .int .i64 x.f2, .int .i64 x.f3, .int .i64 x.f4, .int .i64 x.f5, .int .i64 x.f6] : List Value).take j ++ [.int .i64 v]) ++ ([.int .i64 x.f0, .int .i64 x.f1, .int .i64 x.f2, .int .i64 x.f3, .int .i64 x.f4, .int .i64 x.f5, .int .i64 x.f6] : List Value).drop (j + 1)) := by
  match j, hj with
  | 0, _ => exact k74_mkM w base ok (tbSet x 0 v)
  | 1, _ => exact k74_mkM w base ok (tbSet x 1 v)
  | 2, _ => exact k74_mkM w base ok (tbSet x 2 v)
  | 3, _ => exact k74_mkM w base ok (tbSet x 3 v)
  | 4, _ => exact k74_mkM w base ok (tbSet x 4 v)
  | 5, _ => exact k74_mkM w base ok (tbSet x 5 v)
  | 6, _ => exact k74_mkM w base ok (tbSet x 6 v)
section
variable {base g n cap : Nat} {ok : Nat → Prop} {W : World} {xs : List S74}
theorem tb_store (h : Kd.R k74 74 W base ok (.slice (some ⟨g, 0, none⟩) n cap) xs) (i : Nat) (hi : i < n) (j : Nat) (hj : j < 7) (v : Int) :
    Kd.R k74 74 (W.setCell ⟨g, i * 7 + j, none⟩ (.int .i64 v)) base ok (.slice (some ⟨g, 0, none⟩) n cap) (xs.set i (tbSet (xs.getD i z74) j v)) ∧ W.grownBy (W.setCell ⟨g, i * 7 + j, none⟩ (.int .i64 v)) (some g) := by
  obtain ⟨c, hcl, hM, hcc, _⟩ := Kd.R_elem h z74 (i : Int) (by omega) (by omega)
  rw [Int.toNat_natCast] at hM hcc
  have hc := k74_openM hM
  rw [hc] at hcc hcl
  have := Kd.R_seg (okp := fun k => ok k ∧ k ≠ g) h (i : Int) (by omega) (by omega) (seg := [.int .i64 v]) (j := j) hcl (by rw [Int.toNat_natCast]; exact hcc) (show j + 1 ≤ 7 by omega) (tb_seg W base _ _ j v hj) (fun k hk => hk)
  rw [Int.toNat_natCast] at this
  exact this
theorem tb_cell (h : Kd.R k74 74 W base ok (.slice (some ⟨g, 0, none⟩) n cap) xs) (i : Nat) (hi : i < n) (j : Nat) (hj : j < 7) :
    W.cell? ⟨g, i * 7 + j, none⟩ = some (.int .i64 (tbGet (xs.getD i z74) j)) ∧ W.frozen? ⟨g, i * 7 + j, none⟩ = false := by
  obtain ⟨c, hcl, hM, hcc, hf⟩ := Kd.R_elem h z74 (i : Int) (by omega) (by omega)
  rw [Int.toNat_natCast] at hM hcc hf
  rw [k74_openM hM] at hcc
  exact ⟨hcc j _ (tb_getElem _ j hj), hf j⟩
end
/-- What holds while a game is counted: rows X at h and Y at a, the box of the rules, what was there before. -/
structure TbS (w : World) (g cap n : Nat) (xs : List S74) (h a b4 : Nat) (rc : Array Value) (W : World) (X Y : S74) : Prop where
  row : Kd.R k74 74 W w.heap.size (fun k_ => k_ = g) (.slice (some ⟨g, 0, none⟩) n cap) ((xs.set h X).set a Y)
  box : W.heap[b4]? = some (.cells rc 25 (0, 0))
  bel : Below w.heap.size w W
  ne : h ≠ a
  hn : h < n
  an : a < n
  len : xs.length = n
  old : w.heap.size ≤ g
section
variable {w : World} {g cap n : Nat} {xs : List S74} {h a b4 : Nat} {rc : Array Value} {W : World} {X Y : S74}
theorem TbS.atH (s : TbS w g cap n xs h a b4 rc W X Y) : ((xs.set h X).set a Y).getD h z74 = X := by
  rw [List.getD_eq_getElem?_getD, List.getElem?_set_ne (Ne.symm s.ne), List.getElem?_set_self (by rw [s.len]; exact s.hn)]; rfl
theorem TbS.atA (s : TbS w g cap n xs h a b4 rc W X Y) : ((xs.set h X).set a Y).getD a z74 = Y := by
  rw [List.getD_eq_getElem?_getD, List.getElem?_set_self (by rw [List.length_set, s.len]; exact s.an)]; rfl
theorem TbS.gne (s : TbS w g cap n xs h a b4 rc W X Y) : b4 ≠ g := by
  intro e
  have ht := Kd.R_typed s.row g rfl
  obtain ⟨cells, hc⟩ := ht
  have hb := s.box
  rw [e, hc] at hb
  injection hb with hb
  injection hb with _ hb _
  exact absurd hb (by decide)
theorem TbS.cellH (s : TbS w g cap n xs h a b4 rc W X Y) (j : Nat) (hj : j < 7) : W.cell? ⟨g, h * 7 + j, none⟩ = some (.int .i64 (tbGet X j)) := by
  have := (tb_cell s.row h s.hn j hj).1; rwa [s.atH] at this
theorem TbS.frzH (s : TbS w g cap n xs h a b4 rc W X Y) (j : Nat) (hj : j < 7) : W.frozen? ⟨g, h * 7 + j, none⟩ = false := (tb_cell s.row h s.hn j hj).2
theorem TbS.cellA (s : TbS w g cap n xs h a b4 rc W X Y) (j : Nat) (hj : j < 7) : W.cell? ⟨g, a * 7 + j, none⟩ = some (.int .i64 (tbGet Y j)) := by
  have := (tb_cell s.row a s.an j hj).1; rwa [s.atA] at this
theorem TbS.frzA (s : TbS w g cap n xs h a b4 rc W X Y) (j : Nat) (hj : j < 7) : W.frozen? ⟨g, a * 7 + j, none⟩ = false := (tb_cell s.row a s.an j hj).2
theorem TbS.setH (s : TbS w g cap n xs h a b4 rc W X Y) (j : Nat) (hj : j < 7) (v : Int) : TbS w g cap n xs h a b4 rc (W.setCell ⟨g, h * 7 + j, none⟩ (.int .i64 v)) (tbSet X j v) Y := by
  obtain ⟨h1, h2⟩ := tb_store s.row h s.hn j hj v
  rw [s.atH, List.set_comm _ _ s.ne.symm, List.set_set] at h1
  exact ⟨h1, (Below.heap_setCell W _ _ b4 s.gne).trans s.box, below_set s.bel s.old, s.ne, s.hn, s.an, s.len, s.old⟩
theorem TbS.setA (s : TbS w g cap n xs h a b4 rc W X Y) (j : Nat) (hj : j < 7) (v : Int) : TbS w g cap n xs h a b4 rc (W.setCell ⟨g, a * 7 + j, none⟩ (.int .i64 v)) X (tbSet Y j v) := by
  obtain ⟨h1, h2⟩ := tb_store s.row a s.an j hj v
  rw [s.atA, List.set_set] at h1
  exact ⟨h1, (Below.heap_setCell W _ _ b4 s.gne).trans s.box, below_set s.bel s.old, s.ne, s.hn, s.an, s.len, s.old⟩
theorem TbS.drewN (s : TbS w g cap n xs h a b4 rc W X Y) (m : Nat) : TbS w g cap n xs h a b4 rc (W.drewN m) X Y :=
  ⟨Kd.R_drewN s.row m, s.box, pw_below_drewN s.bel m, s.ne, s.hn, s.an, s.len, s.old⟩
theorem TbS.drew (s : TbS w g cap n xs h a b4 rc W X Y) : TbS w g cap n xs h a b4 rc W.drew X Y :=
  ⟨Kd.R_drew s.row, s.box, below_drew s.bel, s.ne, s.hn, s.an, s.len, s.old⟩
theorem TbS.start (hr : Kd.R k74 74 W w.heap.size (fun k_ => k_ = g) (.slice (some ⟨g, 0, none⟩) n cap) xs) (hb : W.heap[b4]? = some (.cells rc 25 (0, 0))) (bel : Below w.heap.size w W) (ne : h ≠ a) (hn : h < n) (an : a < n) (len : xs.length = n) (old : w.heap.size ≤ g) :
    TbS w g cap n xs h a b4 rc W (xs.getD h z74) (xs.getD a z74) := by
  refine ⟨?_, hb, bel, ne, hn, an, len, old⟩
  have e1 : xs.set h (xs.getD h z74) = xs := by
    apply List.ext_getElem?
    intro k
    by_cases c : h = k
    · subst c
      rw [List.getElem?_set_self (by omega), List.getD_eq_getElem?_getD, List.getElem?_eq_getElem (by omega)]
      rfl
    · rw [List.getElem?_set_ne c]
  have e2 : xs.set a (xs.getD a z74) = xs := by
    apply List.ext_getElem?
    intro k
    by_cases c : a = k
    · subst c
      rw [List.getElem?_set_self (by omega), List.getD_eq_getElem?_getD, List.getElem?_eq_getElem (by omega)]
      rfl
    · rw [List.getElem?_set_ne c]
  rw [e1, e2]
  exact hr
end
/-! What tableOf makes of games. -/
def tbAdd (x : S74) (j : Nat) (d : Int) : S74 := tbSet x j (wrap64 (tbGet x j + d))
def tbGoals (x : S71) : Int × Int × Bool := if x.f4 = 1 then (x.f2, x.f3, true) else (if x.f4 = 2 then (3, 0, true) else (if x.f4 = 3 then (0, 3, true) else (0, 0, false)))
theorem tbGoals_eq (x : S71) : impl_GoalsOf.f x.f0 x.f1 x.f2 x.f3 x.f4 = some ((tbGoals x).1, (tbGoals x).2.1, (tbGoals x).2.2) := by
  unfold impl_GoalsOf.f tbGoals
  repeat' split
  all_goals rfl
def tbIn (X : S74) (r1 r2 : Int) : S74 := tbAdd (tbAdd (tbAdd X 0 1) 4 r1) 5 r2
def tbPlay (u0 u1 u2 r1 r2 : Int) (X Y : S74) : S74 × S74 :=
  if r1 > r2 then (tbAdd (tbAdd (tbIn X r1 r2) 1 1) 6 u0, tbAdd (tbAdd (tbIn Y r2 r1) 3 1) 6 u2)
  else if r1 < r2 then (tbAdd (tbAdd (tbIn X r1 r2) 3 1) 6 u2, tbAdd (tbAdd (tbIn Y r2 r1) 1 1) 6 u0)
  else (tbAdd (tbAdd (tbIn X r1 r2) 2 1) 6 u1, tbAdd (tbAdd (tbIn Y r2 r1) 2 1) 6 u1)
def tbStep (u0 u1 u2 : Int) (p : S71 → Bool) (rows : List S74) (g : S71) : List S74 :=
  if ((tbGoals g).2.2 && p g) = true then
    (rows.set g.f0.toNat (tbPlay u0 u1 u2 (tbGoals g).1 (tbGoals g).2.1 (rows.getD g.f0.toNat z74) (rows.getD g.f1.toNat z74)).1).set g.f1.toNat (tbPlay u0 u1 u2 (tbGoals g).1 (tbGoals g).2.1 (rows.getD g.f0.toNat z74) (rows.getD g.f1.toNat z74)).2
  else rows
theorem tbStep_len (u0 u1 u2 : Int) (p : S71 → Bool) (rows : List S74) (g : S71) : (tbStep u0 u1 u2 p rows g).length = rows.length := by
  unfold tbStep
  split
  · rw [List.length_set, List.length_set]
  · rfl
def tbTable (u0 u1 u2 : Int) (p : S71 → Bool) (n : Int) (l : List S71) : List S74 := l.foldl (tbStep u0 u1 u2 p) (List.replicate n.toNat z74)
theorem tbFold_len (u0 u1 u2 : Int) (p : S71 → Bool) (l : List S71) : ∀ rows : List S74, (l.foldl (tbStep u0 u1 u2 p) rows).length = rows.length := by
  induction l with
  | nil => intro rows; rfl
  | cons g l ih => intro rows; rw [List.foldl_cons, ih, tbStep_len]
theorem tbTable_len (u0 u1 u2 : Int) (p : S71 → Bool) (n : Int) (l : List S71) : (tbTable u0 u1 u2 p n l).length = n.toNat := by
  unfold tbTable; rw [tbFold_len, List.length_replicate]
theorem tbTable_next (u0 u1 u2 : Int) (p : S71 → Bool) (n : Int) (l : List S71) (i : Nat) (y : S71) (h : l[i]? = some y) : tbTable u0 u1 u2 p n (l.take (i + 1)) = tbStep u0 u1 u2 p (tbTable u0 u1 u2 p n (l.take i)) y := by
  obtain ⟨hi, hy⟩ := List.getElem?_eq_some_iff.1 h
  rw [List.take_succ_eq_append_getElem hi, hy]
  unfold tbTable
  rw [List.foldl_append]; rfl
/-- A game between two teams of n. -/
def tbOk (n : Int) (g : S71) : Bool := decide (0 ≤ g.f0) && decide (g.f0 < n) && decide (0 ≤ g.f1) && decide (g.f1 < n) && decide (g.f0 ≠ g.f1)
theorem tbOk_iff {n : Int} {g : S71} (h : tbOk n g = true) : 0 ≤ g.f0 ∧ g.f0 < n ∧ 0 ≤ g.f1 ∧ g.f1 < n ∧ g.f0 ≠ g.f1 := by
  simp only [tbOk, Bool.and_eq_true, decide_eq_true_eq] at h
  obtain ⟨⟨⟨⟨a, b⟩, c⟩, d⟩, e⟩ := h
  exact ⟨a, b, c, d, e⟩
theorem tb_info : (Try.prog.info? 74).map (fun i => (i.zero, i.size, i.bytes)) = some (some (.agg #[(.int .i64 0), (.int .i64 0), (.int .i64 0), (.int .i64 0), (.int .i64 0), (.int .i64 0), (.int .i64 0)]), 7, 56) := by kernel_rfl
set_option maxHeartbeats 16000000 in
set_option maxRecDepth 100000 in
/-- tableOf: whatever the function value says of each game. -/
theorem tableOfG (p : S71 → Bool) (G : Nat) (lb : Array Value) (u0 u1 u2 : Int) (A3 : Option Addr) (n3 c3 : Nat) (b4 : Bool) (n : Int) (A0 : Option Addr) (c0 : Nat) (l0 : List S71) (w : World) (hr0 : Kd.C k71 w A0 l0.length l0) (hc0 : l0.length ≤ c0)
    (hn1 : 1 ≤ n) (hn2 : n ≤ 100000) (hok : ∀ g ∈ l0, tbOk n g = true) (eg : ∀ args w, (callFunc G args).run Try.prog w = .ok (.enter G args) w)
    (hp : ∀ (W : World) (x : S71), x ∈ l0 → Below w.heap.size w W → Calls Try.prog G (#[.agg #[.int .i64 x.f0, .int .i64 x.f1, .int .i64 x.f2, .int .i64 x.f3, .int .i64 x.f4]] ++ lb) W fun e w' => e = .returned (.bool (p x)) ∧ Below W.heap.size W w') :
    Calls Try.prog 87 #[.agg #[.int .i64 u0, .int .i64 u1, .int .i64 u2, .slice A3 n3 c3, .bool b4], .int .i64 n, .slice A0 l0.length c0, .func (.func G) #[] lb] w fun e w' => ∃ v0_ : Value, e = .returned (v0_) ∧ Kd.R k74 74 w' w.heap.size (fun _ => True) v0_ (tbTable u0 u1 u2 p n l0) ∧ Below w.heap.size w w' := by
  have hu25 := Try.underlying25
  have hu71 := Try.underlying71
  have hu74 := Try.underlying74
  have HR0 := Aside0.mk hr0
  have HC0 := Aside0.mk hc0
  have HP := Aside0.mk hp
  have HOK := Aside0.mk hok
  have HN1 := Aside0.mk hn1
  have HN2 := Aside0.mk hn2
  have hmax : l0.length ≤ 9223372036854775807 := hr0.2.1
  have hn0 : 0 ≤ n := by omega
  clear hr0 hc0 hp hok hn1 hn2
  obtain ⟨N, rfl⟩ := Int.eq_ofNat_of_zero_le hn0
  go_enter Try.func87, Try.ntmps87
  go_wp2_with (first | ((with_reducible refine gate_dst (N := 18) rfl ?_); refine Kd.R_make k74 _ 74 rfl (N := 18) rfl 53 _ _ rfl (N : Int) rfl rfl Try.underlying53 (.agg #[(.int .i64 0), (.int .i64 0), (.int .i64 0), (.int .i64 0), (.int .i64 0), (.int .i64 0), (.int .i64 0)]) 56 tb_info rfl (by decide) (by omega) z74 (ok := fun _ => True) (okp := fun _ => True) (k74_mkM _ _ _ z74) (fun _ hk => hk) trivial hn0 (by have := HN2.out; omega) (Below.refl _ _) (Nat.le_refl _) ?_; intro v18 w4 ho5 hb hg_ hnew_; clear hg_ hnew_; obtain ⟨g, cap, ev, hgb, hgl, _⟩ := Kd.R_form ho5 (by rw [List.length_replicate]; have := HN1.out; omega); rw [List.length_replicate, Int.toNat_natCast] at ev; subst ev; have HO := Aside0.mk (Kd.R_mono (Kd.R_tight rfl (Kd.R_lower (base' := w.heap.size) ho5 (by simp))) (ok' := fun k_ => k_ = g) (fun k_ hk => by have h_ : some k_ = some g := hk; injection h_)); have HB := Aside0.mk (((Below.refl w.heap.size w).alloc (Nat.le_refl _) _).trans (hb.mono (by simp))); have BX := Aside0.mk (blk_below (blk_new w _) hb); have HG := Aside0.mk (show w.heap.size ≤ g by simp at hgb; omega); clear ho5 hb hgb hgl))
  go_loopg [21] l0.length (fun gk v21 w' => ∃ i : Nat, v21 = .int .i64 i ∧ Aside0 (i ≤ l0.length) ∧ Aside0 (l0.length - i ≤ gk) ∧ Aside0 (Kd.R k74 74 w' w.heap.size (fun k_ => k_ = g) (.slice (some ⟨g, 0, none⟩) N cap) (tbTable u0 u1 u2 p (N : Int) (l0.take i))) ∧ Aside0 (w'.heap[w.heap.size]? = some (.cells #[.int .i64 u0, .int .i64 u1, .int .i64 u2, .slice A3 n3 c3, .bool b4] 25 (0, 0))) ∧ Aside0 (Below w.heap.size w w'))
  case atStart => exact ⟨0, rfl, ⟨Nat.zero_le _⟩, ⟨by omega⟩, HO, BX, HB⟩
  case round =>
    clear HO HB BX
    obtain ⟨i, rfl, HI, HGK, HO, BX, HB⟩ := hrel
    by_cases hlt : i < l0.length
    · have hltz : decide ((i : Int) < (l0.length : Int)) = true := decide_eq_true (by omega)
      obtain ⟨ad, ea, hx0, hx1, hx2, hx3, hx4⟩ := at_T71 HR0.out (i : Int) (by omega) (by omega)
      cases ea
      rw [Int.toNat_natCast] at hx0 hx1 hx2 hx3 hx4
      obtain ⟨y, hy⟩ : ∃ y, l0[i]? = some y := ⟨_, List.getElem?_eq_getElem hlt⟩
      have hrd : rd_T71 l0 (i : Int) = y := by simp [rd_T71, List.getD_eq_getElem?_getD, hy]
      have HY := Aside0.mk hy
      rw [hrd] at hx0 hx1 hx2 hx3 hx4
      clear hrd hy
      have up : ∀ (a : Addr) (v : Value), w.cell? a = some v → wr.cell? a = some v := fun a v h => (HB.out.cell (World.block_lt_of_cell? w _ h)).trans h
      replace hx0 := up _ _ hx0; replace hx1 := up _ _ hx1; replace hx2 := up _ _ hx2; replace hx3 := up _ _ hx3; replace hx4 := up _ _ hx4
      clear up
      have h0 : decide (0 ≤ (i : Int)) = true := decide_eq_true (by omega)
      have HYM := Aside0.mk (List.mem_of_getElem? HY.out)
      obtain ⟨q0, q1, q2, q3, q4⟩ := tbOk_iff (HOK.out y HYM.out)
      have hgo := tbGoals_eq y
      have HST := Aside0.mk (tbTable_next u0 u1 u2 p (N : Int) l0 i y HY.out)
      have htl := tbTable_len u0 u1 u2 p (N : Int) (l0.take i)
      obtain ⟨r1, hr1⟩ : ∃ r, r = (tbGoals y).1 := ⟨_, rfl⟩
      obtain ⟨r2, hr2⟩ : ∃ r, r = (tbGoals y).2.1 := ⟨_, rfl⟩
      obtain ⟨r3, hr3⟩ : ∃ r, r = (tbGoals y).2.2 := ⟨_, rfl⟩
      rw [← hr1, ← hr2, ← hr3] at hgo
      have HGO := Aside0.mk hgo
      have HR1 := Aside0.mk hr1
      have HR2 := Aside0.mk hr2
      have HR3 := Aside0.mk hr3
      have HTL := Aside0.mk htl
      have Q := Aside0.mk (And.intro q0 (And.intro q1 (And.intro q2 (And.intro q3 q4))))
      clear hgo hr1 hr2 hr3 htl q0 q1 q2 q3 q4
      generalize tbTable u0 u1 u2 p (N : Int) (l0.take i) = T at HO HST HTL
      cases r3 with
      | false =>
        go_wp2_with fail
        refine (impl_GoalsOf.calls y.f0 y.f1 y.f2 y.f3 y.f4 r1 r2 false _ HGO.out).mono ?_
        rintro e w1 ⟨rfl, hb⟩
        have HO1 := Aside0.mk (Kd.R_below (Kd.R_alloc HO.out _) hb)
        have BX1 := Aside0.mk (blk_below (blk_alloc BX.out _) hb)
        have HB1 := Aside0.mk (below_then (below_alloc HB.out _) (below_size (below_alloc HB.out _)) hb)
        clear hb
        go_wp2
        go_roundg (l0.length - (i + 1))
        case measure => have := HGK.out; omega
        case rel => exact ⟨i + 1, by go_num, ⟨by omega⟩, ⟨Nat.le_refl _⟩, ⟨by rw [HST.out, tbStep, ← HR3.out]; simpa using HO1.out⟩, BX1, HB1⟩
      | true =>
        have hcall : ∀ W, Below w.heap.size w W → Calls Try.prog G (#[.agg #[.int .i64 y.f0, .int .i64 y.f1, .int .i64 y.f2, .int .i64 y.f3, .int .i64 y.f4]] ++ lb) W fun e w' => e = .returned (.bool (p y)) ∧ Below W.heap.size W w' := fun W hW => HP.out W y HYM.out hW
        rcases Bool.eq_false_or_eq_true (p y) with hq | hq
        all_goals
          have HQ := Aside0.mk hq
          rw [hq] at hcall
          have HC := Aside0.mk hcall
          clear hq hcall
          go_wp2_with fail
          refine (impl_GoalsOf.calls y.f0 y.f1 y.f2 y.f3 y.f4 r1 r2 true _ HGO.out).mono ?_
          rintro e w1 ⟨rfl, hb⟩
          have HO1 := Aside0.mk (Kd.R_below (Kd.R_alloc HO.out _) hb)
          have BX1 := Aside0.mk (blk_below (blk_alloc BX.out _) hb)
          have HB1 := Aside0.mk (below_then (below_alloc HB.out _) (below_size (below_alloc HB.out _)) hb)
          have BY1 := Aside0.mk (blk_below (blk_new wr _) hb)
          clear hb
          have hy0 := (blk_cell BY1.out 0).trans rfl; have hy1 := (blk_cell BY1.out 1).trans rfl; have hy2 := (blk_cell BY1.out 2).trans rfl; have hy3 := (blk_cell BY1.out 3).trans rfl; have hy4 := (blk_cell BY1.out 4).trans rfl
          go_wp2_with fail
          refine (HC.out _ HB1.out).mono ?_
          rintro e w2 ⟨rfl, hb⟩
          have HO2 := Aside0.mk (Kd.R_below HO1.out hb)
          have BX2 := Aside0.mk (blk_below BX1.out hb)
          have HB2 := Aside0.mk (below_then HB1.out (below_size HB1.out) hb)
          have BY2 := Aside0.mk (blk_below BY1.out hb)
          clear hb hy0 hy1 hy2 hy3 hy4 HO BX HB HO1 BX1 HB1 BY1 HC
        · have hy0 := (blk_cell BY2.out 0).trans rfl; have hy1 := (blk_cell BY2.out 1).trans rfl
          have b0 := eq_true Q.out.1
          have b1 := eq_true Q.out.2.1
          have b2 := eq_true Q.out.2.2.1
          have b3 := eq_true Q.out.2.2.2.1
          go_wp2_with fail
          go_quiet (fail)
          obtain ⟨W0, hW0⟩ : ∃ W0, W0 = w2.drewN nq := ⟨_, rfl⟩
          have S0 := Aside0.mk ((TbS.start (a := y.f1.toNat) (h := y.f0.toNat) HO2.out BX2.out HB2.out (by have := Q.out; omega) (by have := Q.out; omega) (by have := Q.out; omega) (by rw [HTL.out, Int.toNat_natCast]) HG.out).drewN nq)
          rw [← hW0] at S0
          rw [← hW0]
          clear hW0 HO2 BX2 HB2 BY2 hy0 hy1 b0 b1 b2 b3
          obtain ⟨X0, EX0⟩ : ∃ z, z = T.getD y.f0.toNat z74 := ⟨_, rfl⟩
          obtain ⟨Y0, EY0⟩ : ∃ z, z = T.getD y.f1.toNat z74 := ⟨_, rfl⟩
          rw [← EX0, ← EY0] at S0
          replace EX0 := Aside0.mk EX0
          replace EY0 := Aside0.mk EY0
          go_upto_region 8 with (fail)
          have hcl : W0.cell? ⟨g, y.f0.toNat * 7, none⟩ = some (.int .i64 (tbGet X0 0)) := S0.out.cellH 0 (by decide)
          have hfl : W0.frozen? ⟨g, y.f0.toNat * 7, none⟩ = false := S0.out.frzH 0 (by decide)
          go_upto_region 9 with (fail)
          have S1 := Aside0.mk ((S0.out.setH 0 (by decide) (wrap64 (tbGet X0 0 + 1))))
          clear S0 hcl hfl
          obtain ⟨X1, EX1⟩ : ∃ z, z = tbAdd X0 0 1 := ⟨_, rfl⟩
          replace S1 : Aside0 (TbS w g cap N T y.f0.toNat y.f1.toNat w.heap.size #[.int .i64 u0, .int .i64 u1, .int .i64 u2, .slice A3 n3 c3, .bool b4] (W0.setCell ⟨g, y.f0.toNat * 7, none⟩ (.int .i64 (wrap64 (tbGet X0 0 + 1)))) X1 Y0) := by rw [EX1]; exact S1
          replace EX1 := Aside0.mk EX1
          generalize W0.setCell ⟨g, y.f0.toNat * 7, none⟩ (.int .i64 (wrap64 (tbGet X0 0 + 1))) = W1 at S1 ⊢
          have hcl : W1.cell? ⟨g, y.f1.toNat * 7, none⟩ = some (.int .i64 (tbGet Y0 0)) := S1.out.cellA 0 (by decide)
          have hfl : W1.frozen? ⟨g, y.f1.toNat * 7, none⟩ = false := S1.out.frzA 0 (by decide)
          go_upto_region 10 with (fail)
          have S2 := Aside0.mk ((S1.out.setA 0 (by decide) (wrap64 (tbGet Y0 0 + 1))))
          clear S1 hcl hfl
          obtain ⟨Y1, EY1⟩ : ∃ z, z = tbAdd Y0 0 1 := ⟨_, rfl⟩
          replace S2 : Aside0 (TbS w g cap N T y.f0.toNat y.f1.toNat w.heap.size #[.int .i64 u0, .int .i64 u1, .int .i64 u2, .slice A3 n3 c3, .bool b4] (W1.setCell ⟨g, y.f1.toNat * 7, none⟩ (.int .i64 (wrap64 (tbGet Y0 0 + 1)))) X1 Y1) := by rw [EY1]; exact S2
          replace EY1 := Aside0.mk EY1
          generalize W1.setCell ⟨g, y.f1.toNat * 7, none⟩ (.int .i64 (wrap64 (tbGet Y0 0 + 1))) = W2 at S2 ⊢
          have hcl : W2.cell? ⟨g, y.f0.toNat * 7 + 4, none⟩ = some (.int .i64 (tbGet X1 4)) := S2.out.cellH 4 (by decide)
          have hfl : W2.frozen? ⟨g, y.f0.toNat * 7 + 4, none⟩ = false := S2.out.frzH 4 (by decide)
          go_upto_region 11 with (fail)
          have S3 := Aside0.mk ((S2.out.setH 4 (by decide) (wrap64 (tbGet X1 4 + r1))))
          clear S2 hcl hfl
          obtain ⟨X2, EX2⟩ : ∃ z, z = tbAdd X1 4 r1 := ⟨_, rfl⟩
          replace S3 : Aside0 (TbS w g cap N T y.f0.toNat y.f1.toNat w.heap.size #[.int .i64 u0, .int .i64 u1, .int .i64 u2, .slice A3 n3 c3, .bool b4] (W2.setCell ⟨g, y.f0.toNat * 7 + 4, none⟩ (.int .i64 (wrap64 (tbGet X1 4 + r1)))) X2 Y1) := by rw [EX2]; exact S3
          replace EX2 := Aside0.mk EX2
          generalize W2.setCell ⟨g, y.f0.toNat * 7 + 4, none⟩ (.int .i64 (wrap64 (tbGet X1 4 + r1))) = W3 at S3 ⊢
          have hcl : W3.cell? ⟨g, y.f0.toNat * 7 + 5, none⟩ = some (.int .i64 (tbGet X2 5)) := S3.out.cellH 5 (by decide)
          have hfl : W3.frozen? ⟨g, y.f0.toNat * 7 + 5, none⟩ = false := S3.out.frzH 5 (by decide)
          go_upto_region 12 with (fail)
          have S4 := Aside0.mk ((S3.out.setH 5 (by decide) (wrap64 (tbGet X2 5 + r2))))
          clear S3 hcl hfl
          obtain ⟨X3, EX3⟩ : ∃ z, z = tbAdd X2 5 r2 := ⟨_, rfl⟩
          replace S4 : Aside0 (TbS w g cap N T y.f0.toNat y.f1.toNat w.heap.size #[.int .i64 u0, .int .i64 u1, .int .i64 u2, .slice A3 n3 c3, .bool b4] (W3.setCell ⟨g, y.f0.toNat * 7 + 5, none⟩ (.int .i64 (wrap64 (tbGet X2 5 + r2)))) X3 Y1) := by rw [EX3]; exact S4
          replace EX3 := Aside0.mk EX3
          generalize W3.setCell ⟨g, y.f0.toNat * 7 + 5, none⟩ (.int .i64 (wrap64 (tbGet X2 5 + r2))) = W4 at S4 ⊢
          have hcl : W4.cell? ⟨g, y.f1.toNat * 7 + 4, none⟩ = some (.int .i64 (tbGet Y1 4)) := S4.out.cellA 4 (by decide)
          have hfl : W4.frozen? ⟨g, y.f1.toNat * 7 + 4, none⟩ = false := S4.out.frzA 4 (by decide)
          go_upto_region 13 with (fail)
          have S5 := Aside0.mk ((S4.out.setA 4 (by decide) (wrap64 (tbGet Y1 4 + r2))))
          clear S4 hcl hfl
          obtain ⟨Y2, EY2⟩ : ∃ z, z = tbAdd Y1 4 r2 := ⟨_, rfl⟩
          replace S5 : Aside0 (TbS w g cap N T y.f0.toNat y.f1.toNat w.heap.size #[.int .i64 u0, .int .i64 u1, .int .i64 u2, .slice A3 n3 c3, .bool b4] (W4.setCell ⟨g, y.f1.toNat * 7 + 4, none⟩ (.int .i64 (wrap64 (tbGet Y1 4 + r2)))) X3 Y2) := by rw [EY2]; exact S5
          replace EY2 := Aside0.mk EY2
          generalize W4.setCell ⟨g, y.f1.toNat * 7 + 4, none⟩ (.int .i64 (wrap64 (tbGet Y1 4 + r2))) = W5 at S5 ⊢
          have hcl : W5.cell? ⟨g, y.f1.toNat * 7 + 5, none⟩ = some (.int .i64 (tbGet Y2 5)) := S5.out.cellA 5 (by decide)
          have hfl : W5.frozen? ⟨g, y.f1.toNat * 7 + 5, none⟩ = false := S5.out.frzA 5 (by decide)
          go_upto_region 18 with (fail)
          have S6 := Aside0.mk ((S5.out.setA 5 (by decide) (wrap64 (tbGet Y2 5 + r1))))
          clear S5 hcl hfl
          obtain ⟨Y3, EY3⟩ : ∃ z, z = tbAdd Y2 5 r1 := ⟨_, rfl⟩
          replace S6 : Aside0 (TbS w g cap N T y.f0.toNat y.f1.toNat w.heap.size #[.int .i64 u0, .int .i64 u1, .int .i64 u2, .slice A3 n3 c3, .bool b4] (W5.setCell ⟨g, y.f1.toNat * 7 + 5, none⟩ (.int .i64 (wrap64 (tbGet Y2 5 + r1)))) X3 Y3) := by rw [EY3]; exact S6
          replace EY3 := Aside0.mk EY3
          generalize W5.setCell ⟨g, y.f1.toNat * 7 + 5, none⟩ (.int .i64 (wrap64 (tbGet Y2 5 + r1))) = W6 at S6 ⊢
          rcases (show r2 < r1 ∨ (¬ r2 < r1 ∧ r1 < r2) ∨ (¬ r2 < r1 ∧ ¬ r1 < r2) by omega) with k1 | ⟨k1, k2⟩ | ⟨k1, k2⟩
          · go_upto_region 19 with (fail)
            have hcl : W6.cell? ⟨g, y.f0.toNat * 7 + 1, none⟩ = some (.int .i64 (tbGet X3 1)) := S6.out.cellH 1 (by decide)
            have hfl : W6.frozen? ⟨g, y.f0.toNat * 7 + 1, none⟩ = false := S6.out.frzH 1 (by decide)
            go_upto_region 20 with (fail)
            have S7 := Aside0.mk ((S6.out.setH 1 (by decide) (wrap64 (tbGet X3 1 + 1))))
            clear S6 hcl hfl
            obtain ⟨X4, EX4⟩ : ∃ z, z = tbAdd X3 1 1 := ⟨_, rfl⟩
            replace S7 : Aside0 (TbS w g cap N T y.f0.toNat y.f1.toNat w.heap.size #[.int .i64 u0, .int .i64 u1, .int .i64 u2, .slice A3 n3 c3, .bool b4] (W6.setCell ⟨g, y.f0.toNat * 7 + 1, none⟩ (.int .i64 (wrap64 (tbGet X3 1 + 1)))) X4 Y3) := by rw [EX4]; exact S7
            replace EX4 := Aside0.mk EX4
            generalize W6.setCell ⟨g, y.f0.toNat * 7 + 1, none⟩ (.int .i64 (wrap64 (tbGet X3 1 + 1))) = W7 at S7 ⊢
            have hcl : W7.cell? ⟨g, y.f1.toNat * 7 + 3, none⟩ = some (.int .i64 (tbGet Y3 3)) := S7.out.cellA 3 (by decide)
            have hfl : W7.frozen? ⟨g, y.f1.toNat * 7 + 3, none⟩ = false := S7.out.frzA 3 (by decide)
            go_upto_region 21 with (fail)
            have S8 := Aside0.mk ((S7.out.setA 3 (by decide) (wrap64 (tbGet Y3 3 + 1))))
            clear S7 hcl hfl
            obtain ⟨Y4, EY4⟩ : ∃ z, z = tbAdd Y3 3 1 := ⟨_, rfl⟩
            replace S8 : Aside0 (TbS w g cap N T y.f0.toNat y.f1.toNat w.heap.size #[.int .i64 u0, .int .i64 u1, .int .i64 u2, .slice A3 n3 c3, .bool b4] (W7.setCell ⟨g, y.f1.toNat * 7 + 3, none⟩ (.int .i64 (wrap64 (tbGet Y3 3 + 1)))) X4 Y4) := by rw [EY4]; exact S8
            replace EY4 := Aside0.mk EY4
            generalize W7.setCell ⟨g, y.f1.toNat * 7 + 3, none⟩ (.int .i64 (wrap64 (tbGet Y3 3 + 1))) = W8 at S8 ⊢
            have hcl : W8.cell? ⟨g, y.f0.toNat * 7 + 6, none⟩ = some (.int .i64 (tbGet X4 6)) := S8.out.cellH 6 (by decide)
            have hfl : W8.frozen? ⟨g, y.f0.toNat * 7 + 6, none⟩ = false := S8.out.frzH 6 (by decide)
            have hbl : W8.cell? ⟨w.heap.size, 0, none⟩ = some (.int .i64 u0) := (blk_cell S8.out.box 0).trans rfl
            go_region
            have S9 := Aside0.mk ((S8.out.setH 6 (by decide) (wrap64 (tbGet X4 6 + u0))).drew)
            clear S8 hcl hfl hbl
            obtain ⟨X5, EX5⟩ : ∃ z, z = tbAdd X4 6 u0 := ⟨_, rfl⟩
            replace S9 : Aside0 (TbS w g cap N T y.f0.toNat y.f1.toNat w.heap.size #[.int .i64 u0, .int .i64 u1, .int .i64 u2, .slice A3 n3 c3, .bool b4] ((W8.setCell ⟨g, y.f0.toNat * 7 + 6, none⟩ (.int .i64 (wrap64 (tbGet X4 6 + u0)))).drew) X5 Y4) := by rw [EX5]; exact S9
            replace EX5 := Aside0.mk EX5
            generalize (W8.setCell ⟨g, y.f0.toNat * 7 + 6, none⟩ (.int .i64 (wrap64 (tbGet X4 6 + u0)))).drew = W9 at S9 ⊢
            go_upto_region 22 with (fail)
            have hcl : W9.cell? ⟨g, y.f1.toNat * 7 + 6, none⟩ = some (.int .i64 (tbGet Y4 6)) := S9.out.cellA 6 (by decide)
            have hfl : W9.frozen? ⟨g, y.f1.toNat * 7 + 6, none⟩ = false := S9.out.frzA 6 (by decide)
            have hbl : W9.cell? ⟨w.heap.size, 2, none⟩ = some (.int .i64 u2) := (blk_cell S9.out.box 2).trans rfl
            go_region
            have S10 := Aside0.mk ((S9.out.setA 6 (by decide) (wrap64 (tbGet Y4 6 + u2))).drew)
            clear S9 hcl hfl hbl
            obtain ⟨Y5, EY5⟩ : ∃ z, z = tbAdd Y4 6 u2 := ⟨_, rfl⟩
            replace S10 : Aside0 (TbS w g cap N T y.f0.toNat y.f1.toNat w.heap.size #[.int .i64 u0, .int .i64 u1, .int .i64 u2, .slice A3 n3 c3, .bool b4] ((W9.setCell ⟨g, y.f1.toNat * 7 + 6, none⟩ (.int .i64 (wrap64 (tbGet Y4 6 + u2)))).drew) X5 Y5) := by rw [EY5]; exact S10
            replace EY5 := Aside0.mk EY5
            generalize (W9.setCell ⟨g, y.f1.toNat * 7 + 6, none⟩ (.int .i64 (wrap64 (tbGet Y4 6 + u2)))).drew = W10 at S10 ⊢
            go_wp2
            go_roundg (l0.length - (i + 1))
            case measure => have := HGK.out; omega
            case rel =>
              refine ⟨i + 1, by go_num, ⟨by omega⟩, ⟨Nat.le_refl _⟩, ⟨?_⟩, ⟨S10.out.box⟩, ⟨S10.out.bel⟩⟩
              have e1 : tbStep u0 u1 u2 p T y = (T.set y.f0.toNat X5).set y.f1.toNat Y5 := by
                unfold tbStep tbPlay tbIn
                rw [← HR3.out, HQ.out, ← HR1.out, ← HR2.out, Bool.and_self, if_pos rfl, ← EX0.out, ← EY0.out, if_pos (show r1 > r2 by omega), EX5.out, EX4.out, EX3.out, EX2.out, EX1.out, EY5.out, EY4.out, EY3.out, EY2.out, EY1.out]
              rw [HST.out, e1]
              exact S10.out.row
          · go_upto_region 24 with (fail)
            have hcl : W6.cell? ⟨g, y.f1.toNat * 7 + 1, none⟩ = some (.int .i64 (tbGet Y3 1)) := S6.out.cellA 1 (by decide)
            have hfl : W6.frozen? ⟨g, y.f1.toNat * 7 + 1, none⟩ = false := S6.out.frzA 1 (by decide)
            go_upto_region 25 with (fail)
            have S7 := Aside0.mk ((S6.out.setA 1 (by decide) (wrap64 (tbGet Y3 1 + 1))))
            clear S6 hcl hfl
            obtain ⟨Y4, EY4⟩ : ∃ z, z = tbAdd Y3 1 1 := ⟨_, rfl⟩
            replace S7 : Aside0 (TbS w g cap N T y.f0.toNat y.f1.toNat w.heap.size #[.int .i64 u0, .int .i64 u1, .int .i64 u2, .slice A3 n3 c3, .bool b4] (W6.setCell ⟨g, y.f1.toNat * 7 + 1, none⟩ (.int .i64 (wrap64 (tbGet Y3 1 + 1)))) X3 Y4) := by rw [EY4]; exact S7
            replace EY4 := Aside0.mk EY4
            generalize W6.setCell ⟨g, y.f1.toNat * 7 + 1, none⟩ (.int .i64 (wrap64 (tbGet Y3 1 + 1))) = W7 at S7 ⊢
            have hcl : W7.cell? ⟨g, y.f0.toNat * 7 + 3, none⟩ = some (.int .i64 (tbGet X3 3)) := S7.out.cellH 3 (by decide)
            have hfl : W7.frozen? ⟨g, y.f0.toNat * 7 + 3, none⟩ = false := S7.out.frzH 3 (by decide)
            go_upto_region 26 with (fail)
            have S8 := Aside0.mk ((S7.out.setH 3 (by decide) (wrap64 (tbGet X3 3 + 1))))
            clear S7 hcl hfl
            obtain ⟨X4, EX4⟩ : ∃ z, z = tbAdd X3 3 1 := ⟨_, rfl⟩
            replace S8 : Aside0 (TbS w g cap N T y.f0.toNat y.f1.toNat w.heap.size #[.int .i64 u0, .int .i64 u1, .int .i64 u2, .slice A3 n3 c3, .bool b4] (W7.setCell ⟨g, y.f0.toNat * 7 + 3, none⟩ (.int .i64 (wrap64 (tbGet X3 3 + 1)))) X4 Y4) := by rw [EX4]; exact S8
            replace EX4 := Aside0.mk EX4
            generalize W7.setCell ⟨g, y.f0.toNat * 7 + 3, none⟩ (.int .i64 (wrap64 (tbGet X3 3 + 1))) = W8 at S8 ⊢
            have hcl : W8.cell? ⟨g, y.f1.toNat * 7 + 6, none⟩ = some (.int .i64 (tbGet Y4 6)) := S8.out.cellA 6 (by decide)
            have hfl : W8.frozen? ⟨g, y.f1.toNat * 7 + 6, none⟩ = false := S8.out.frzA 6 (by decide)
            have hbl : W8.cell? ⟨w.heap.size, 0, none⟩ = some (.int .i64 u0) := (blk_cell S8.out.box 0).trans rfl
            go_region
            have S9 := Aside0.mk ((S8.out.setA 6 (by decide) (wrap64 (tbGet Y4 6 + u0))).drew)
            clear S8 hcl hfl hbl
            obtain ⟨Y5, EY5⟩ : ∃ z, z = tbAdd Y4 6 u0 := ⟨_, rfl⟩
            replace S9 : Aside0 (TbS w g cap N T y.f0.toNat y.f1.toNat w.heap.size #[.int .i64 u0, .int .i64 u1, .int .i64 u2, .slice A3 n3 c3, .bool b4] ((W8.setCell ⟨g, y.f1.toNat * 7 + 6, none⟩ (.int .i64 (wrap64 (tbGet Y4 6 + u0)))).drew) X4 Y5) := by rw [EY5]; exact S9
            replace EY5 := Aside0.mk EY5
            generalize (W8.setCell ⟨g, y.f1.toNat * 7 + 6, none⟩ (.int .i64 (wrap64 (tbGet Y4 6 + u0)))).drew = W9 at S9 ⊢
            go_upto_region 27 with (fail)
            have hcl : W9.cell? ⟨g, y.f0.toNat * 7 + 6, none⟩ = some (.int .i64 (tbGet X4 6)) := S9.out.cellH 6 (by decide)
            have hfl : W9.frozen? ⟨g, y.f0.toNat * 7 + 6, none⟩ = false := S9.out.frzH 6 (by decide)
            have hbl : W9.cell? ⟨w.heap.size, 2, none⟩ = some (.int .i64 u2) := (blk_cell S9.out.box 2).trans rfl
            go_region
            have S10 := Aside0.mk ((S9.out.setH 6 (by decide) (wrap64 (tbGet X4 6 + u2))).drew)
            clear S9 hcl hfl hbl
            obtain ⟨X5, EX5⟩ : ∃ z, z = tbAdd X4 6 u2 := ⟨_, rfl⟩
            replace S10 : Aside0 (TbS w g cap N T y.f0.toNat y.f1.toNat w.heap.size #[.int .i64 u0, .int .i64 u1, .int .i64 u2, .slice A3 n3 c3, .bool b4] ((W9.setCell ⟨g, y.f0.toNat * 7 + 6, none⟩ (.int .i64 (wrap64 (tbGet X4 6 + u2)))).drew) X5 Y5) := by rw [EX5]; exact S10
            replace EX5 := Aside0.mk EX5
            generalize (W9.setCell ⟨g, y.f0.toNat * 7 + 6, none⟩ (.int .i64 (wrap64 (tbGet X4 6 + u2)))).drew = W10 at S10 ⊢
            go_wp2
            go_roundg (l0.length - (i + 1))
            case measure => have := HGK.out; omega
            case rel =>
              refine ⟨i + 1, by go_num, ⟨by omega⟩, ⟨Nat.le_refl _⟩, ⟨?_⟩, ⟨S10.out.box⟩, ⟨S10.out.bel⟩⟩
              have e1 : tbStep u0 u1 u2 p T y = (T.set y.f0.toNat X5).set y.f1.toNat Y5 := by
                unfold tbStep tbPlay tbIn
                rw [← HR3.out, HQ.out, ← HR1.out, ← HR2.out, Bool.and_self, if_pos rfl, ← EX0.out, ← EY0.out, if_neg (show ¬ r1 > r2 by omega), if_pos (show r1 < r2 by omega), EX5.out, EX4.out, EX3.out, EX2.out, EX1.out, EY5.out, EY4.out, EY3.out, EY2.out, EY1.out]
              rw [HST.out, e1]
              exact S10.out.row
          · go_upto_region 14 with (fail)
            have hcl : W6.cell? ⟨g, y.f0.toNat * 7 + 2, none⟩ = some (.int .i64 (tbGet X3 2)) := S6.out.cellH 2 (by decide)
            have hfl : W6.frozen? ⟨g, y.f0.toNat * 7 + 2, none⟩ = false := S6.out.frzH 2 (by decide)
            go_upto_region 15 with (fail)
            have S7 := Aside0.mk ((S6.out.setH 2 (by decide) (wrap64 (tbGet X3 2 + 1))))
            clear S6 hcl hfl
            obtain ⟨X4, EX4⟩ : ∃ z, z = tbAdd X3 2 1 := ⟨_, rfl⟩
            replace S7 : Aside0 (TbS w g cap N T y.f0.toNat y.f1.toNat w.heap.size #[.int .i64 u0, .int .i64 u1, .int .i64 u2, .slice A3 n3 c3, .bool b4] (W6.setCell ⟨g, y.f0.toNat * 7 + 2, none⟩ (.int .i64 (wrap64 (tbGet X3 2 + 1)))) X4 Y3) := by rw [EX4]; exact S7
            replace EX4 := Aside0.mk EX4
            generalize W6.setCell ⟨g, y.f0.toNat * 7 + 2, none⟩ (.int .i64 (wrap64 (tbGet X3 2 + 1))) = W7 at S7 ⊢
            have hcl : W7.cell? ⟨g, y.f1.toNat * 7 + 2, none⟩ = some (.int .i64 (tbGet Y3 2)) := S7.out.cellA 2 (by decide)
            have hfl : W7.frozen? ⟨g, y.f1.toNat * 7 + 2, none⟩ = false := S7.out.frzA 2 (by decide)
            go_upto_region 16 with (fail)
            have S8 := Aside0.mk ((S7.out.setA 2 (by decide) (wrap64 (tbGet Y3 2 + 1))))
            clear S7 hcl hfl
            obtain ⟨Y4, EY4⟩ : ∃ z, z = tbAdd Y3 2 1 := ⟨_, rfl⟩
            replace S8 : Aside0 (TbS w g cap N T y.f0.toNat y.f1.toNat w.heap.size #[.int .i64 u0, .int .i64 u1, .int .i64 u2, .slice A3 n3 c3, .bool b4] (W7.setCell ⟨g, y.f1.toNat * 7 + 2, none⟩ (.int .i64 (wrap64 (tbGet Y3 2 + 1)))) X4 Y4) := by rw [EY4]; exact S8
            replace EY4 := Aside0.mk EY4
            generalize W7.setCell ⟨g, y.f1.toNat * 7 + 2, none⟩ (.int .i64 (wrap64 (tbGet Y3 2 + 1))) = W8 at S8 ⊢
            have hcl : W8.cell? ⟨g, y.f0.toNat * 7 + 6, none⟩ = some (.int .i64 (tbGet X4 6)) := S8.out.cellH 6 (by decide)
            have hfl : W8.frozen? ⟨g, y.f0.toNat * 7 + 6, none⟩ = false := S8.out.frzH 6 (by decide)
            have hbl : W8.cell? ⟨w.heap.size, 1, none⟩ = some (.int .i64 u1) := (blk_cell S8.out.box 1).trans rfl
            go_region
            have S9 := Aside0.mk ((S8.out.setH 6 (by decide) (wrap64 (tbGet X4 6 + u1))).drew)
            clear S8 hcl hfl hbl
            obtain ⟨X5, EX5⟩ : ∃ z, z = tbAdd X4 6 u1 := ⟨_, rfl⟩
            replace S9 : Aside0 (TbS w g cap N T y.f0.toNat y.f1.toNat w.heap.size #[.int .i64 u0, .int .i64 u1, .int .i64 u2, .slice A3 n3 c3, .bool b4] ((W8.setCell ⟨g, y.f0.toNat * 7 + 6, none⟩ (.int .i64 (wrap64 (tbGet X4 6 + u1)))).drew) X5 Y4) := by rw [EX5]; exact S9
            replace EX5 := Aside0.mk EX5
            generalize (W8.setCell ⟨g, y.f0.toNat * 7 + 6, none⟩ (.int .i64 (wrap64 (tbGet X4 6 + u1)))).drew = W9 at S9 ⊢
            go_upto_region 17 with (fail)
            have hcl : W9.cell? ⟨g, y.f1.toNat * 7 + 6, none⟩ = some (.int .i64 (tbGet Y4 6)) := S9.out.cellA 6 (by decide)
            have hfl : W9.frozen? ⟨g, y.f1.toNat * 7 + 6, none⟩ = false := S9.out.frzA 6 (by decide)
            have hbl : W9.cell? ⟨w.heap.size, 1, none⟩ = some (.int .i64 u1) := (blk_cell S9.out.box 1).trans rfl
            go_region
            have S10 := Aside0.mk ((S9.out.setA 6 (by decide) (wrap64 (tbGet Y4 6 + u1))).drew)
            clear S9 hcl hfl hbl
            obtain ⟨Y5, EY5⟩ : ∃ z, z = tbAdd Y4 6 u1 := ⟨_, rfl⟩
            replace S10 : Aside0 (TbS w g cap N T y.f0.toNat y.f1.toNat w.heap.size #[.int .i64 u0, .int .i64 u1, .int .i64 u2, .slice A3 n3 c3, .bool b4] ((W9.setCell ⟨g, y.f1.toNat * 7 + 6, none⟩ (.int .i64 (wrap64 (tbGet Y4 6 + u1)))).drew) X5 Y5) := by rw [EY5]; exact S10
            replace EY5 := Aside0.mk EY5
            generalize (W9.setCell ⟨g, y.f1.toNat * 7 + 6, none⟩ (.int .i64 (wrap64 (tbGet Y4 6 + u1)))).drew = W10 at S10 ⊢
            go_wp2
            go_roundg (l0.length - (i + 1))
            case measure => have := HGK.out; omega
            case rel =>
              refine ⟨i + 1, by go_num, ⟨by omega⟩, ⟨Nat.le_refl _⟩, ⟨?_⟩, ⟨S10.out.box⟩, ⟨S10.out.bel⟩⟩
              have e1 : tbStep u0 u1 u2 p T y = (T.set y.f0.toNat X5).set y.f1.toNat Y5 := by
                unfold tbStep tbPlay tbIn
                rw [← HR3.out, HQ.out, ← HR1.out, ← HR2.out, Bool.and_self, if_pos rfl, ← EX0.out, ← EY0.out, if_neg (show ¬ r1 > r2 by omega), if_neg (show ¬ r1 < r2 by omega), EX5.out, EX4.out, EX3.out, EX2.out, EX1.out, EY5.out, EY4.out, EY3.out, EY2.out, EY1.out]
              rw [HST.out, e1]
              exact S10.out.row
        · go_wp2
          go_roundg (l0.length - (i + 1))
          case measure => have := HGK.out; omega
          case rel => exact ⟨i + 1, by go_num, ⟨by omega⟩, ⟨Nat.le_refl _⟩, ⟨by rw [HST.out, tbStep, HQ.out, Bool.and_false]; simpa using HO2.out⟩, BX2, HB2⟩
    · have hltz : decide ((i : Int) < (l0.length : Int)) = false := decide_eq_false (by omega)
      have hi : i = l0.length := by have := HI.out; omega
      have HO' := Aside0.mk (p := Kd.R k74 74 wr w.heap.size (fun _ => True) (.slice (some ⟨g, 0, none⟩) N cap) (tbTable u0 u1 u2 p (N : Int) l0)) (by have h1 := HO.out; rw [hi, List.take_length] at h1; exact Kd.R_mono h1 (fun _ _ => trivial))
      clear hi HO
      go_wp2
      go_ret
      exact ⟨_, rfl, HO'.out, HB.out⟩
/-! A store leaves all but its own block. -/
theorem keep_setg {w W : World} {g j : Nat} {v : Value} (h : KeepBut w W g none) : KeepBut w (W.setCell ⟨g, j, none⟩ v) g none :=
  ⟨by simpa [World.setCell] using h.1, fun i hi hg hr => (Below.heap_setCell W ⟨g, j, none⟩ v i hg).trans (h.2 i hi hg hr)⟩
theorem keep_then {w W W2 : World} {g : Nat} (h : KeepBut w W g none) (hb : Below W.heap.size W W2) : KeepBut w W2 g none :=
  ⟨Nat.le_trans h.1 hb.size, fun i hi hg hr => (hb.block i (Nat.lt_of_lt_of_le hi h.1)).trans (h.2 i hi hg hr)⟩
theorem k74_any {W W' : World} {x : S74} {cs : List Value} (h : k74.K W x cs) : k74.K W' x cs := by
  obtain rfl := k74_open h
  exact k74_mk _ _
set_option maxHeartbeats 1000000 in
theorem impl_rankerOf.lit (x : S71) (w : World) : Calls Try.prog 125 (#[.agg #[.int .i64 x.f0, .int .i64 x.f1, .int .i64 x.f2, .int .i64 x.f3, .int .i64 x.f4]] ++ #[]) w fun e w' => e = .returned (.bool true) ∧ Below w.heap.size w w' := by
  have hu71 := Try.underlying71
  go_enter Try.func125, Try.ntmps125
  go_wp2
  go_ret
  exact ⟨rfl, (Below.refl w.heap.size w).alloc (Nat.le_refl _) _⟩
set_option maxHeartbeats 8000000 in
set_option maxRecDepth 100000 in
theorem impl_rankerOf.calls (A0_0 : Option Addr) (c0_0 : Nat) (l0_0 : List (S151)) (a0_1 : Int) (a0_2 : Int) (a0_3 : Int) (A0_4 : Option Addr) (c0_4 : Nat) (l0_4 : List Int) (a0_5 : Bool) (A0_6 : Option Addr) (c0_6 : Nat) (l0_6 : List (S71)) (A0_7 : Option Addr) (c0_7 : Nat) (l0_7 : List Int) (A0_8 : Option Addr) (c0_8 : Nat) (l0_8 : List Int) (l9 : List S74) (w : World) (hr6 : Kd.C k71 w A0_6 l0_6.length l0_6) (hc6 : l0_6.length ≤ c0_6) (hn : 1 ≤ l0_0.length ∧ l0_0.length ≤ 100000) (hok : ∀ g ∈ l0_6, tbOk (l0_0.length : Int) g = true) (h9 : l9 = (tbTable a0_1 a0_2 a0_3 (fun _ => true) (l0_0.length : Int) l0_6)) :
    Calls Try.prog 101 #[.agg #[.slice A0_0 l0_0.length c0_0, .int .i64 a0_1, .int .i64 a0_2, .int .i64 a0_3, .slice A0_4 l0_4.length c0_4, .bool a0_5, .slice A0_6 l0_6.length c0_6, .slice A0_7 l0_7.length c0_7, .slice A0_8 l0_8.length c0_8]] w fun e w' => ∃ (A9 : Option Addr) (c9 : Nat), e = .returned (.agg #[.slice A0_0 l0_0.length c0_0, .int .i64 a0_1, .int .i64 a0_2, .int .i64 a0_3, .slice A0_4 l0_4.length c0_4, .bool a0_5, .slice A0_6 l0_6.length c0_6, .slice A0_7 l0_7.length c0_7, .slice A0_8 l0_8.length c0_8, .slice A9 l9.length c9]) ∧ Kd.C k74 w' A9 l9.length l9 ∧ l9.length ≤ c9 ∧ Below w.heap.size w w' := by
  have hu67 := Try.underlying67
  have hu128 := Try.underlying128
  have hu25 := Try.underlying25
  have HR6 := Aside0.mk hr6
  have HC6 := Aside0.mk hc6
  have HN := Aside0.mk hn
  have HOK := Aside0.mk hok
  have H9 := Aside0.mk h9
  clear hr6 hc6 hn hok h9
  go_enter Try.func101, Try.ntmps101
  go_wp2_with (first | ((with_reducible refine gate_dst (N := 1) rfl ?_); refine box_event ?hg (N := 1) ?hd (cs := #[.slice A0_0 l0_0.length c0_0, .int .i64 a0_1, .int .i64 a0_2, .int .i64 a0_3, .slice A0_4 l0_4.length c0_4, .bool a0_5, .slice A0_6 l0_6.length c0_6, .slice A0_7 l0_7.length c0_7, .slice A0_8 l0_8.length c0_8]) (t := 67) ?hr ?_; (case hd => rfl); (case hg => rfl); (case hr => first | (go_simp; done) | (go_simp; rfl)); intro g1 hg w1 hbox hb; have BK1 := Aside0.mk hbox; have HB1 := Aside0.mk hb; have E1 := Aside0.mk hg; clear hbox hb hg) | ((with_reducible refine gate_dst (N := 2) rfl ?_); refine box_event ?hg (N := 2) ?hd (cs := #[.slice none 0 0, .int .i64 0, .int .i64 0, .int .i64 0, .slice none 0 0, .bool false, .slice none 0 0, .slice none 0 0, .slice none 0 0, .slice none 0 0]) (t := 128) ?hr ?_; (case hd => rfl); (case hg => rfl); (case hr => first | (go_simp; done) | (go_simp; rfl)); intro g2 hg w2 hbox hb; have BK2 := Aside0.mk hbox; have HB2 := Aside0.mk hb; have E2 := Aside0.mk hg; clear hbox hb hg))
  have NE : Aside0 (g1 ≠ g2) := ⟨by rw [E2.out]; exact Nat.ne_of_lt (blk_lt BK1.out)⟩
  have BA := Aside0.mk (blk_drew (blk_below BK1.out HB2.out))
  have BZ := Aside0.mk (blk_drew BK2.out)
  have HB := Aside0.mk (below_drew1 (below_step HB1.out HB2.out))
  have G2 : Aside0 (w.heap.size ≤ g2) := ⟨by rw [E2.out]; exact below_size HB1.out⟩
  clear BK1 BK2 HB1 HB2 E1 E2
  refine start_ (n := 11) (S := fun w' => w'.cell? ⟨g1, 0, none⟩ = some (.slice A0_0 l0_0.length c0_0) ∧ w'.cell? ⟨g1, 1, none⟩ = some (.int .i64 a0_1) ∧ w'.cell? ⟨g1, 2, none⟩ = some (.int .i64 a0_2) ∧ w'.cell? ⟨g1, 3, none⟩ = some (.int .i64 a0_3) ∧ w'.cell? ⟨g1, 4, none⟩ = some (.slice A0_4 l0_4.length c0_4) ∧ w'.cell? ⟨g1, 5, none⟩ = some (.bool a0_5) ∧ w'.cell? ⟨g1, 6, none⟩ = some (.slice A0_6 l0_6.length c0_6) ∧ w'.cell? ⟨g1, 7, none⟩ = some (.slice A0_7 l0_7.length c0_7) ∧ w'.cell? ⟨g1, 8, none⟩ = some (.slice A0_8 l0_8.length c0_8)) (ds := [10]) #[false, false, false, false, false, false, false, false, false, false, false] (by kernel_rfl) rfl rfl ⟨(blk_cell BA.out 0).trans rfl, (blk_cell BA.out 1).trans rfl, (blk_cell BA.out 2).trans rfl, (blk_cell BA.out 3).trans rfl, (blk_cell BA.out 4).trans rfl, (blk_cell BA.out 5).trans rfl, (blk_cell BA.out 6).trans rfl, (blk_cell BA.out 7).trans rfl, (blk_cell BA.out 8).trans rfl⟩ (fun hHeld => ?_)
  generalize w2.drew = wd at BA BZ HB hHeld ⊢
  refine pure_ (i := 1) (N := some 4) (v := ?_) (a' := ?_) #[false, true, false, false, false, false, false, false, false, false, false] rfl rfl (by kernel_rfl) (fun _ _ _ h => h) (Or.inl ⟨by rfl, ?_⟩) ?_ ?_
  rotate_left
  · (intro w'; go_simp; with_reducible rfl)
  rotate_left
  · (simp only [Act.put, List.setIfInBounds_toArray, List.set_cons_zero, List.set_cons_succ, i64_w, i32_w]; rfl)
  refine pure_ (i := 3) (N := some 6) (v := ?_) (a' := ?_) #[false, true, false, true, false, false, false, false, false, false, false] rfl rfl (by kernel_rfl) (fun _ _ _ h => h) (Or.inl ⟨by rfl, ?_⟩) ?_ ?_
  rotate_left
  · (intro w'; go_simp; with_reducible rfl)
  rotate_left
  · (simp only [Act.put, List.setIfInBounds_toArray, List.set_cons_zero, List.set_cons_succ, i64_w, i32_w]; rfl)
  refine pure_ (i := 6) (N := some 9) (v := ?_) (a' := ?_) #[false, true, false, true, false, false, true, false, false, false, false] rfl rfl (by kernel_rfl) (fun _ _ _ h => h) (Or.inl ⟨by rfl, ?_⟩) ?_ ?_
  rotate_left
  · (intro w'; go_simp; with_reducible rfl)
  rotate_left
  · (simp only [Act.put, List.setIfInBounds_toArray, List.set_cons_zero, List.set_cons_succ, i64_w, i32_w]; rfl)
  refine take_ (i := 0) (N := some 3) (v := ?_) (a' := ?_) #[true, true, false, true, false, false, true, false, false, false, false] rfl rfl (by kernel_rfl) (fun _ _ _ h => h) (Or.inl ⟨by rfl, ?_⟩) hHeld ?_ ?_
  rotate_left
  · (rintro w' ⟨s0, s1, s2, s3, s4, s5, s6, s7, s8⟩; go_simp; with_reducible rfl)
  rotate_left
  · (simp only [Act.put, List.setIfInBounds_toArray, List.set_cons_zero, List.set_cons_succ, i64_w, i32_w]; rfl)
  refine take_ (i := 2) (N := some 5) (v := ?_) (a' := ?_) #[true, true, true, true, false, false, true, false, false, false, false] rfl rfl (by kernel_rfl) (fun _ _ _ h => h) (Or.inl ⟨by rfl, ?_⟩) hHeld ?_ ?_
  rotate_left
  · (rintro w' ⟨s0, s1, s2, s3, s4, s5, s6, s7, s8⟩; go_simp; with_reducible rfl)
  rotate_left
  · (simp only [Act.put, List.setIfInBounds_toArray, List.set_cons_zero, List.set_cons_succ, i64_w, i32_w]; rfl)
  refine take_ (i := 4) (N := some 7) (v := ?_) (a' := ?_) #[true, true, true, true, true, false, true, false, false, false, false] rfl rfl (by kernel_rfl) (fun _ _ _ h => h) (Or.inl ⟨by rfl, ?_⟩) hHeld ?_ ?_
  rotate_left
  · (rintro w' ⟨s0, s1, s2, s3, s4, s5, s6, s7, s8⟩; go_simp; with_reducible rfl)
  rotate_left
  · (simp only [Act.put, List.setIfInBounds_toArray, List.set_cons_zero, List.set_cons_succ, i64_w, i32_w]; rfl)
  refine pure_ (i := 5) (N := some 8) (v := ?_) (a' := ?_) #[true, true, true, true, true, true, true, false, false, false, false] rfl rfl (by kernel_rfl) (fun _ _ _ h => h) (Or.inl ⟨by rfl, ?_⟩) ?_ ?_
  rotate_left
  · (intro w'; go_simp; with_reducible rfl)
  rotate_left
  · (simp only [Act.put, List.setIfInBounds_toArray, List.set_cons_zero, List.set_cons_succ, i64_w, i32_w]; rfl)
  refine take_ (i := 7) (N := some 10) (v := ?_) (a' := ?_) #[true, true, true, true, true, true, true, true, false, false, false] rfl rfl (by kernel_rfl) (fun _ _ _ h => h) (Or.inl ⟨by rfl, ?_⟩) hHeld ?_ ?_
  rotate_left
  · (rintro w' ⟨s0, s1, s2, s3, s4, s5, s6, s7, s8⟩; go_simp; with_reducible rfl)
  rotate_left
  · (simp only [Act.put, List.setIfInBounds_toArray, List.set_cons_zero, List.set_cons_succ, i64_w, i32_w]; rfl)
  refine one_ (i := 8) (N := some 11) #[true, true, true, true, true, true, true, true, true, false, false] rfl rfl (by kernel_rfl) (by decide) (fun K hK => ?_)
  refine goes_ Try.func87 (by kernel_rfl) rfl #[.agg #[.int .i64 a0_1, .int .i64 a0_2, .int .i64 a0_3, .slice A0_4 l0_4.length c0_4, .bool a0_5], .int .i64 (l0_0.length : Int), .slice A0_6 l0_6.length c0_6, .func (.func 125) #[] #[]] (by rfl) rfl rfl (by simp only [List.map_toArray, List.map_cons, List.map_nil]; rfl) ?_
  refine (tableOfG (fun _ => true) 125 #[] a0_1 a0_2 a0_3 A0_4 l0_4.length c0_4 a0_5 (l0_0.length : Int) A0_6 c0_6 l0_6 _ (Kd.C_below HR6.out HB.out) HC6.out (by have := HN.out; omega) (by have := HN.out; omega) HOK.out (by intro args w; kernel_rfl) (fun W x _ _ => impl_rankerOf.lit x W)).mono ?_
  rintro e w4 ⟨v0, rfl, ho, hb⟩
  refine ⟨_, rfl, ?_⟩
  rw [← H9.out] at ho
  obtain ⟨g9, c9, e9, b9, l9', cl, HG⟩ := Kd.R_form ho (by rw [H9.out, tbTable_len]; have := HN.out; omega)
  subst e9
  have R9 := Aside0.mk (Kd.R_reads' ho).2.2
  have C9 := Aside0.mk (Kd.R_reads' ho).2.1
  have N9 : Aside0 (∀ ad, (some (⟨g9, 0, none⟩ : Addr)) = some ad → 0 < l9.length → ad.block ≠ g2) := ⟨fun ad e _ => by cases e; have := blk_lt BZ.out; show g9 ≠ g2; omega⟩
  have BA4 := Aside0.mk (blk_below BA.out hb)
  have BZ4 := Aside0.mk (blk_below BZ.out hb)
  have HB4 := Aside0.mk (below_step HB.out hb)
  clear BA BZ HB hb ho b9 l9' cl HG
  refine hK.out _ _ ⟨(blk_cell BA4.out 0).trans rfl, (blk_cell BA4.out 1).trans rfl, (blk_cell BA4.out 2).trans rfl, (blk_cell BA4.out 3).trans rfl, (blk_cell BA4.out 4).trans rfl, (blk_cell BA4.out 5).trans rfl, (blk_cell BA4.out 6).trans rfl, (blk_cell BA4.out 7).trans rfl, (blk_cell BA4.out 8).trans rfl⟩ (fun hHeld => ?_)
  clear hK K
  refine norm_ (a' := ?_) ?_ ?_
  rotate_left
  · (show Act.put _ (some 11) _ = _; simp only [Act.put, List.setIfInBounds_toArray, List.set_cons_zero, List.set_cons_succ, i64_w, i32_w]; rfl)
  refine pure_ (i := 9) (N := some 12) (v := ?_) (a' := ?_) #[true, true, true, true, true, true, true, true, true, true, false] rfl rfl (by kernel_rfl) (fun _ _ _ h => h) (Or.inl ⟨by rfl, ?_⟩) ?_ ?_
  rotate_left
  · (intro w'; go_simp; with_reducible rfl)
  rotate_left
  · (simp only [Act.put, List.setIfInBounds_toArray, List.set_cons_zero, List.set_cons_succ, i64_w, i32_w]; rfl)
  refine last_ (i := 10) (N := none) #[true, true, true, true, true, true, true, true, true, true, true] rfl rfl (by kernel_rfl) (by decide) (fun K hK => ?_)
  have hs0 : w4.cell? ⟨g2, 0, none⟩ = some (.slice none 0 0) := (blk_cell BZ4.out 0).trans rfl
  have hf0 := blk_frozen BZ4.out 0
  have hs1 : w4.cell? ⟨g2, 1, none⟩ = some (.int .i64 0) := (blk_cell BZ4.out 1).trans rfl
  have hf1 := blk_frozen BZ4.out 1
  have hs2 : w4.cell? ⟨g2, 2, none⟩ = some (.int .i64 0) := (blk_cell BZ4.out 2).trans rfl
  have hf2 := blk_frozen BZ4.out 2
  have hs3 : w4.cell? ⟨g2, 3, none⟩ = some (.int .i64 0) := (blk_cell BZ4.out 3).trans rfl
  have hf3 := blk_frozen BZ4.out 3
  have hs4 : w4.cell? ⟨g2, 4, none⟩ = some (.slice none 0 0) := (blk_cell BZ4.out 4).trans rfl
  have hf4 := blk_frozen BZ4.out 4
  have hs5 : w4.cell? ⟨g2, 5, none⟩ = some (.bool false) := (blk_cell BZ4.out 5).trans rfl
  have hf5 := blk_frozen BZ4.out 5
  have hs6 : w4.cell? ⟨g2, 6, none⟩ = some (.slice none 0 0) := (blk_cell BZ4.out 6).trans rfl
  have hf6 := blk_frozen BZ4.out 6
  have hs7 : w4.cell? ⟨g2, 7, none⟩ = some (.slice none 0 0) := (blk_cell BZ4.out 7).trans rfl
  have hf7 := blk_frozen BZ4.out 7
  have hs8 : w4.cell? ⟨g2, 8, none⟩ = some (.slice none 0 0) := (blk_cell BZ4.out 8).trans rfl
  have hf8 := blk_frozen BZ4.out 8
  have hs9 : w4.cell? ⟨g2, 9, none⟩ = some (.slice none 0 0) := (blk_cell BZ4.out 9).trans rfl
  have hf9 := blk_frozen BZ4.out 9
  refine skip_ (w1 := ?_) (by rfl) rfl ?_ ?_
  rotate_left
  · go_simp
    rfl
  refine hK.out _ _ ?_
  clear hK K
  refine done_ (by kernel_rfl) ?_
  try go_wp2
  refine bodyPost_ret (results_cell_row rfl _ _ g2 128 #[.slice A0_0 l0_0.length c0_0, .int .i64 a0_1, .int .i64 a0_2, .int .i64 a0_3, .slice A0_4 l0_4.length c0_4, .bool a0_5, .slice A0_6 l0_6.length c0_6, .slice A0_7 l0_7.length c0_7, .slice A0_8 l0_8.length c0_8, .slice (some ⟨g9, 0, none⟩) l9.length c9] (0, 0) _ rfl (by exact (blk_put (cs := #[.slice A0_0 l0_0.length c0_0, .int .i64 a0_1, .int .i64 a0_2, .int .i64 a0_3, .slice A0_4 l0_4.length c0_4, .bool a0_5, .slice A0_6 l0_6.length c0_6, .slice A0_7 l0_7.length c0_7, .slice A0_8 l0_8.length c0_8, .slice none 0 0]) (blk_put (cs := #[.slice A0_0 l0_0.length c0_0, .int .i64 a0_1, .int .i64 a0_2, .int .i64 a0_3, .slice A0_4 l0_4.length c0_4, .bool a0_5, .slice A0_6 l0_6.length c0_6, .slice A0_7 l0_7.length c0_7, .slice none 0 0, .slice none 0 0]) (blk_put (cs := #[.slice A0_0 l0_0.length c0_0, .int .i64 a0_1, .int .i64 a0_2, .int .i64 a0_3, .slice A0_4 l0_4.length c0_4, .bool a0_5, .slice A0_6 l0_6.length c0_6, .slice none 0 0, .slice none 0 0, .slice none 0 0]) (blk_put (cs := #[.slice A0_0 l0_0.length c0_0, .int .i64 a0_1, .int .i64 a0_2, .int .i64 a0_3, .slice A0_4 l0_4.length c0_4, .bool a0_5, .slice none 0 0, .slice none 0 0, .slice none 0 0, .slice none 0 0]) (blk_put (cs := #[.slice A0_0 l0_0.length c0_0, .int .i64 a0_1, .int .i64 a0_2, .int .i64 a0_3, .slice A0_4 l0_4.length c0_4, .bool false, .slice none 0 0, .slice none 0 0, .slice none 0 0, .slice none 0 0]) (blk_put (cs := #[.slice A0_0 l0_0.length c0_0, .int .i64 a0_1, .int .i64 a0_2, .int .i64 a0_3, .slice none 0 0, .bool false, .slice none 0 0, .slice none 0 0, .slice none 0 0, .slice none 0 0]) (blk_put (cs := #[.slice A0_0 l0_0.length c0_0, .int .i64 a0_1, .int .i64 a0_2, .int .i64 0, .slice none 0 0, .bool false, .slice none 0 0, .slice none 0 0, .slice none 0 0, .slice none 0 0]) (blk_put (cs := #[.slice A0_0 l0_0.length c0_0, .int .i64 a0_1, .int .i64 0, .int .i64 0, .slice none 0 0, .bool false, .slice none 0 0, .slice none 0 0, .slice none 0 0, .slice none 0 0]) (blk_put (cs := #[.slice A0_0 l0_0.length c0_0, .int .i64 0, .int .i64 0, .int .i64 0, .slice none 0 0, .bool false, .slice none 0 0, .slice none 0 0, .slice none 0 0, .slice none 0 0]) (blk_put (cs := #[.slice none 0 0, .int .i64 0, .int .i64 0, .int .i64 0, .slice none 0 0, .bool false, .slice none 0 0, .slice none 0 0, .slice none 0 0, .slice none 0 0]) BZ4.out 0 (.slice A0_0 l0_0.length c0_0) rfl) 1 (.int .i64 a0_1) rfl) 2 (.int .i64 a0_2) rfl) 3 (.int .i64 a0_3) rfl) 4 (.slice A0_4 l0_4.length c0_4) rfl) 5 (.bool a0_5) rfl) 6 (.slice A0_6 l0_6.length c0_6) rfl) 7 (.slice A0_7 l0_7.length c0_7) rfl) 8 (.slice A0_8 l0_8.length c0_8) rfl) 9 (.slice (some ⟨g9, 0, none⟩) l9.length c9) rfl)) Try.underlying128 rfl (by kernel_rfl)) rfl ?_
  exact ⟨_, _, rfl, Kd.C_foot_ne (d := k74) (g := g2) k74_any R9.out N9.out _ (keep_setg (keep_setg (keep_setg (keep_setg (keep_setg (keep_setg (keep_setg (keep_setg (keep_setg (keep_setg (KeepBut.refl _ _ _))))))))))), C9.out, (below_set (below_set (below_set (below_set (below_set (below_set (below_set (below_set (below_set (below_set HB4.out G2.out) G2.out) G2.out) G2.out) G2.out) G2.out) G2.out) G2.out) G2.out) G2.out)⟩

/-! ### impl_DifferenceOf: function 49 -/
def impl_DifferenceOf.f (a0_0 : Int) (a0_1 : Int) (a0_2 : Int) (a0_3 : Int) (a0_4 : Int) (a0_5 : Int) (a0_6 : Int) : Option (Int) := some (wrap64 (a0_4 - a0_5))
set_option maxHeartbeats 8000000 in
set_option maxRecDepth 100000 in
theorem impl_DifferenceOf.calls (a0_0 : Int) (a0_1 : Int) (a0_2 : Int) (a0_3 : Int) (a0_4 : Int) (a0_5 : Int) (a0_6 : Int) (r : Int) (w : World) (h : impl_DifferenceOf.f a0_0 a0_1 a0_2 a0_3 a0_4 a0_5 a0_6 = some r) :
    Calls Try.prog 49 #[.agg #[.int .i64 a0_0, .int .i64 a0_1, .int .i64 a0_2, .int .i64 a0_3, .int .i64 a0_4, .int .i64 a0_5, .int .i64 a0_6]] w fun e w' => e = .returned (.int .i64 r) ∧ Below w.heap.size w w' := by
  have hu74 := Try.underlying74
  have HB := Aside0.mk (Below.refl w.heap.size w)
  have H : (some (wrap64 (a0_4 - a0_5))) = some r := h
  clear h
  obtain rfl := Option.some.inj H
  go_enter Try.func49, Try.ntmps49
  go_wp2_with (first | ((with_reducible refine gate_dst (N := 1) rfl ?_); refine box_event ?hg (N := 1) ?hd (cs := #[.int .i64 a0_0, .int .i64 a0_1, .int .i64 a0_2, .int .i64 a0_3, .int .i64 a0_4, .int .i64 a0_5, .int .i64 a0_6]) (t := 74) ?hr ?_; (case hd => rfl); (case hg => rfl); (case hr => first | (go_simp; done) | (go_simp; rfl)); intro gb320 hg w2 hbox hb; have n0_ := Aside0.mk (below_step qB hb); have n1_ := Aside0.mk (hbox); have n2_ := Aside0.mk ((qG hg : w.heap.size ≤ gb320)); have n3_ := Aside0.mk ((qG hg : w.heap.size ≤ gb320)); clear HB; have HB := n0_; have BK320 := n1_; have GW320 := n2_; have GE320 := n3_; clear n0_ n1_ n2_ n3_; clear hb hbox hg; have ⟨hcz3_0, hcz3_1, hcz3_2, hcz3_3, hcz3_4, hcz3_5, hcz3_6⟩ := qc7 BK320.out; have ⟨hfz3_0, hfz3_1, hfz3_2, hfz3_3, hfz3_4, hfz3_5, hfz3_6⟩ := qf7 BK320.out))
  go_ret
  exact ⟨by first | rfl | (simp [errW_none, errW_some] <;> rfl) | (simp [*, errW_none, errW_some] <;> rfl), qB⟩

/-! ### impl_IsMutual: function 65 -/
def impl_IsMutual.f (a0 : Int) : Option (Bool) := if a0 = 5 then (some true) else (some (a0 == 6))
set_option maxHeartbeats 8000000 in
set_option maxRecDepth 100000 in
theorem impl_IsMutual.calls (a0 : Int) (r : Bool) (w : World) (h : impl_IsMutual.f a0 = some r) :
    Calls Try.prog 65 #[.int .i64 a0] w fun e w' => e = .returned (.bool r) ∧ Drawn0 w w' := by
  have H : (if a0 = 5 then (some true) else (some (a0 == 6))) = some r := h
  clear h
  by_cases c2 : a0 = 5
  · rw [if_pos c2] at H
    have c2b0 : (a0 == 5) = true := beq_iff_eq.mpr c2
    have c2b1 : (a0 != 5) = false := bne_eq_false_iff_eq.mpr c2
    clear c2
    obtain rfl := Option.some.inj H
    go_enter Try.func65, Try.ntmps65
    go_wp2
    go_ret
    exact ⟨by first | rfl | (simp; done) | (simp [*]; done), by repeat (first | exact Drawn0.refl _ | apply Drawn0.step)⟩
  · rw [if_neg c2] at H
    have c2b0 : (a0 == 5) = false := beq_eq_false_iff_ne.mpr c2
    have c2b1 : (a0 != 5) = true := bne_iff_ne.mpr c2
    obtain rfl := Option.some.inj H
    go_enter Try.func65, Try.ntmps65
    go_wp2
    go_ret
    exact ⟨by first | rfl | (simp; done) | (simp [*]; done), by repeat (first | exact Drawn0.refl _ | apply Drawn0.step)⟩

-- NOT PRINTED: function 90 (impl_among)

end Go.Proofs.Ytikfdjgigeggjaa.MFnExactKeyValue
