/- The functions that FnGames reaches, each with its contract: the print's form, by wip/tools/myprint.py; no condition of its own. -/
import Derived.Test.YtapmiocpkddbfaaMFnGamesx0
import Derived.Test.YtapmiocpkddbfaaMFnGamesx1
import Derived.Test.YtapmiocpkddbfaaMFnGamesx5
import Derived.Test.YtapmiocpkddbfaaMFnGamesx6
import Derived.Test.YtapmiocpkddbfaaMFnGamesx7
import Derived.Test.YtapmiocpkddbfaaMFnGamesx8
namespace Go.Proofs.Ytapmiocpkddbfaa.MFnGames
open Go.RowKit Go.Proofs.YtapmiocpkddbfaaW.PrintWords Go.Proofs.YtapmiocpkddbfaaW.PrintLast Go.Proofs.YtapmiocpkddbfaaW.PrintMore
attribute [local go_sem] max2_int min2_int max_two min_two max_three min_three max_four min_four   -- for this text's walks alone
set_option linter.unusedVariables false
set_option linter.unusedSimpArgs false

attribute [local go_sem high] eqA61
/-! ### laws_FnGames: function 10 -/
mutual
def laws_FnGames.l0 : Nat → List (S61) → Int → Int → List (S102) → Int → Int → Int → List Int → Bool → List (S61) → List Int → List Int → Option (Bool)
  | 0, _, _, _, _, _, _, _, _, _, _, _, _ => none
  | k + 1, x22, x23, x24, x313000, x313001, x313002, x313003, x313004, x313005, x313006, x313007, x313008 => if x24 < x23 then (if 0 ≤ x24 then (if x24 < (x22.length : Int) then (laws_FnGames.l1 k x24 1 x22 x23 x24 x313000 x313001 x313002 x313003 x313004 x313005 x313006 x313007 x313008 ((rd_T61 x22 x24).f0) ((rd_T61 x22 x24).f1) ((rd_T61 x22 x24).f2) ((rd_T61 x22 x24).f3) ((rd_T61 x22 x24).f4)) else (none)) else (none)) else (some true)
def laws_FnGames.l1 : Nat → Int → Int → List (S61) → Int → Int → List (S102) → Int → Int → Int → List Int → Bool → List (S61) → List Int → List Int → Int → Int → Int → Int → Int → Option (Bool)
  | 0, _, _, _, _, _, _, _, _, _, _, _, _, _, _, _, _, _, _, _ => none
  | k + 1, x4, x6, x22, x23, x24, x313000, x313001, x313002, x313003, x313004, x313005, x313006, x313007, x313008, x316000, x316001, x316002, x316003, x316004 => if x6 ≤ 3 then ((impl_PlayGame.f x316000 x316001 x316002 x316003 x316004 x6).bind fun bt316 => ((impl_OutcomeOf.f bt316.1 bt316.2.1 bt316.2.2.1 bt316.2.2.2.1 bt316.2.2.2.2).bind fun t322 => (if t322 = x6 then ((impl_GameOk.f k (x313000.length : Int) bt316.1 bt316.2.1 bt316.2.2.1 bt316.2.2.2.1 bt316.2.2.2.2).bind fun t323 => (if t323 = true then ((impl_IsOpen.f bt316.1 bt316.2.1 bt316.2.2.1 bt316.2.2.2.1 bt316.2.2.2.2).bind fun t324 => (if t324 = true then (some false) else (if bt316.1 = x316000 then (if bt316.2.1 = x316001 then (laws_FnGames.l1 k x4 (wrap64 (x6 + 1)) x22 x23 x24 x313000 x313001 x313002 x313003 x313004 x313005 x313006 x313007 x313008 x316000 x316001 x316002 x316003 x316004) else (some false)) else (some false)))) else (some false))) else (some false)))) else ((impl_GamesBetween.f x313006 x316000 x316001).bind fun t325 => ((impl_GameOf.f x313006 x316000 x316001).bind fun t328 => (if t328 = x4 then ((laws_has.f k t325 x4).bind fun t329 => (if t329 = true then ((impl_PlayGame.f x316000 x316001 x316002 x316003 x316004 0).bind fun bt330 => (if (!(bt330.1 == x316000) || (!(bt330.2.1 == x316001) || (!(bt330.2.2.1 == x316002) || (!(bt330.2.2.2.1 == x316003) || (!(bt330.2.2.2.2 == x316004)))))) = true then (some false) else ((impl_OpenGames.f x313006).bind fun t335 => ((laws_has.f k t335 x4).bind fun t338 => ((impl_IsOpen.f x316000 x316001 x316002 x316003 x316004).bind fun t339 => (if (t338 != t339) = true then (some false) else (laws_FnGames.l0 k x22 x23 (wrap64 (x24 + 1)) x313000 x313001 x313002 x313003 x313004 x313005 x313006 x313007 x313008))))))) else (some false))) else (some false))))
end
def laws_FnGames.f (k : Nat) (l0 : List Int) : Option (Bool) := if (l0.length : Int) > 1048576 then (some true) else ((spec_MakeBook.f k l0).bind fun bt293 => ((impl_SeasonOk.f k (bt293.1.length : Int) bt293.2.2.2.2.2.2.1).bind fun t313 => (if t313 = true then (laws_FnGames.l0 k bt293.2.2.2.2.2.2.1 (bt293.2.2.2.2.2.2.1.length : Int) 0 bt293.1 bt293.2.1 bt293.2.2.1 bt293.2.2.2.1 bt293.2.2.2.2.1 bt293.2.2.2.2.2.1 bt293.2.2.2.2.2.2.1 bt293.2.2.2.2.2.2.2.1 bt293.2.2.2.2.2.2.2.2) else (some false))))
theorem laws_FnGames.mono_l : ∀ k, (∀ y0 y1 y2 y3 y4 y5 y6 y7 y8 y9 y10 y11, LeO (laws_FnGames.l0 k y0 y1 y2 y3 y4 y5 y6 y7 y8 y9 y10 y11) (laws_FnGames.l0 (k + 1) y0 y1 y2 y3 y4 y5 y6 y7 y8 y9 y10 y11)) ∧ (∀ y0 y1 y2 y3 y4 y5 y6 y7 y8 y9 y10 y11 y12 y13 y14 y15 y16 y17 y18, LeO (laws_FnGames.l1 k y0 y1 y2 y3 y4 y5 y6 y7 y8 y9 y10 y11 y12 y13 y14 y15 y16 y17 y18) (laws_FnGames.l1 (k + 1) y0 y1 y2 y3 y4 y5 y6 y7 y8 y9 y10 y11 y12 y13 y14 y15 y16 y17 y18))
  | 0 => ⟨fun _ _ _ _ _ _ _ _ _ _ _ _ r h => by simp [laws_FnGames.l0] at h, fun _ _ _ _ _ _ _ _ _ _ _ _ _ _ _ _ _ _ _ r h => by simp [laws_FnGames.l1] at h⟩
  | k + 1 => by
    obtain ⟨ih0, ih1⟩ := laws_FnGames.mono_l k
    refine ⟨?_, ?_⟩
    · intro y0 y1 y2 y3 y4 y5 y6 y7 y8 y9 y10 y11
      unfold laws_FnGames.l0
      repeat' first
      | (with_reducible exact ih0 _ _ _ _ _ _ _ _ _ _ _ _)
      | (with_reducible exact ih1 _ _ _ _ _ _ _ _ _ _ _ _ _ _ _ _ _ _ _)
      | (with_reducible exact impl_GameOk.mono _ _ _ _ _ _ _)
      | (with_reducible exact impl_SeasonOk.mono _ _ _)
      | (with_reducible exact laws_has.mono _ _ _)
      | (with_reducible exact spec_MakeBook.mono _ _)
      | (with_reducible exact LeO.refl _)
      | (with_reducible exact LeO.none _)
      | (with_reducible refine LeO.ite ?_ ?_)
      | (with_reducible refine LeO.bind ?_ (fun _ => ?_))
      | exact ih0 _ _ _ _ _ _ _ _ _ _ _ _
      | exact ih1 _ _ _ _ _ _ _ _ _ _ _ _ _ _ _ _ _ _ _
      | exact impl_GameOk.mono _ _ _ _ _ _ _
      | exact impl_SeasonOk.mono _ _ _
      | exact laws_has.mono _ _ _
      | exact spec_MakeBook.mono _ _
      | exact LeO.none _
      | refine LeO.ite ?_ ?_
      | refine LeO.bind ?_ (fun _ => ?_)
    · intro y0 y1 y2 y3 y4 y5 y6 y7 y8 y9 y10 y11 y12 y13 y14 y15 y16 y17 y18
      unfold laws_FnGames.l1
      repeat' first
      | (with_reducible exact ih0 _ _ _ _ _ _ _ _ _ _ _ _)
      | (with_reducible exact ih1 _ _ _ _ _ _ _ _ _ _ _ _ _ _ _ _ _ _ _)
      | (with_reducible exact impl_GameOk.mono _ _ _ _ _ _ _)
      | (with_reducible exact impl_SeasonOk.mono _ _ _)
      | (with_reducible exact laws_has.mono _ _ _)
      | (with_reducible exact spec_MakeBook.mono _ _)
      | (with_reducible exact LeO.refl _)
      | (with_reducible exact LeO.none _)
      | (with_reducible refine LeO.ite ?_ ?_)
      | (with_reducible refine LeO.bind ?_ (fun _ => ?_))
      | exact ih0 _ _ _ _ _ _ _ _ _ _ _ _
      | exact ih1 _ _ _ _ _ _ _ _ _ _ _ _ _ _ _ _ _ _ _
      | exact impl_GameOk.mono _ _ _ _ _ _ _
      | exact impl_SeasonOk.mono _ _ _
      | exact laws_has.mono _ _ _
      | exact spec_MakeBook.mono _ _
      | exact LeO.none _
      | refine LeO.ite ?_ ?_
      | refine LeO.bind ?_ (fun _ => ?_)
theorem laws_FnGames.mono : ∀ a0 k, LeO (laws_FnGames.f k a0) (laws_FnGames.f (k + 1) a0) := by
  intro a0 k
  obtain ⟨ih0, ih1⟩ := laws_FnGames.mono_l k
  unfold laws_FnGames.f
  repeat' first
      | (with_reducible exact ih0 _ _ _ _ _ _ _ _ _ _ _ _)
      | (with_reducible exact ih1 _ _ _ _ _ _ _ _ _ _ _ _ _ _ _ _ _ _ _)
      | (with_reducible exact impl_GameOk.mono _ _ _ _ _ _ _)
      | (with_reducible exact impl_SeasonOk.mono _ _ _)
      | (with_reducible exact laws_has.mono _ _ _)
      | (with_reducible exact spec_MakeBook.mono _ _)
      | (with_reducible exact LeO.refl _)
      | (with_reducible exact LeO.none _)
      | (with_reducible refine LeO.ite ?_ ?_)
      | (with_reducible refine LeO.bind ?_ (fun _ => ?_))
      | exact ih0 _ _ _ _ _ _ _ _ _ _ _ _
      | exact ih1 _ _ _ _ _ _ _ _ _ _ _ _ _ _ _ _ _ _ _
      | exact impl_GameOk.mono _ _ _ _ _ _ _
      | exact impl_SeasonOk.mono _ _ _
      | exact laws_has.mono _ _ _
      | exact spec_MakeBook.mono _ _
      | exact LeO.none _
      | refine LeO.ite ?_ ?_
      | refine LeO.bind ?_ (fun _ => ?_)
def laws_FnGames.T16 : Bool × List (List Nat × List Nat) := (true, [([], []), ([0], [0]), ([], []), ([2], [2]), ([], []), ([4], [4]), ([1, 3, 5], [1, 3, 5]), ([], []), ([6, 7], [6, 7]), ([8, 6], [8]), ([9], [9]), ([9], [9]), ([10, 11, 9, 9], [9, 10, 11]), ([12, 9], [9, 12]), ([9, 13], [9, 13]), ([14, 12], [14]), ([15], [15]), ([16, 15, 15], [15, 16]), ([15], [15]), ([17, 18, 15], [15, 17, 18]), ([15, 19], [15, 19]), ([20, 17], [20]), ([21], [21]), ([22, 21], [21, 22]), ([23, 21, 21], [21, 23]), ([21], [21]), ([24, 25, 24, 21], [21, 24, 25]), ([21], [21]), ([27, 26, 21], [21, 27]), ([26, 28, 21], [21, 26, 28]), ([21, 29], [21, 29])])
def laws_FnGames.B16 : List Nat := [0, 1, 0, 4, 0, 16, 63, 0, 255, 511, 1023, 1023, 4095, 8191, 16383, 32767, 65535, 131071, 65535, 524287, 1048575, 2097151, 4194303, 8388607, 16777215, 4194303, 67108863, 4194303, 268435455, 536870911, 1073741823]
theorem laws_FnGames.tab16 : rtab .any (opsOf Try.f10 16) = laws_FnGames.T16 := by kernel_rfl
theorem laws_FnGames.bits16 : waitsOk laws_FnGames.T16.2 laws_FnGames.B16 = true := by kernel_rfl
set_option maxHeartbeats 8000000 in
set_option maxRecDepth 100000 in
theorem laws_FnGames.calls (k : Nat) (A0 : Option Addr) (c0 : Nat) (l0 : List Int) (r : Bool) (w : World) (hr_ : r = true) (hr0 : Kd.C (Kd.int .u8) w A0 l0.length l0) (hc0 : l0.length ≤ c0) (h : laws_FnGames.f k l0 = some r) :
    Calls Try.prog 10 #[.slice A0 l0.length c0] w fun e w' => e = .returned (.bool r) ∧ Below w.heap.size w w' := by
  have HR_ := Aside0.mk hr_
  clear hr_
  have hu68 := Try.underlying68
  have hu61 := Try.underlying61
  have HR0 := Aside0.mk hr0
  have HC0 := Aside0.mk hc0
  clear hr0 hc0
  have HB := Aside0.mk (Below.refl w.heap.size w)
  have H : (if (l0.length : Int) > 1048576 then (some true) else ((spec_MakeBook.f k l0).bind fun bt293 => ((impl_SeasonOk.f k (bt293.1.length : Int) bt293.2.2.2.2.2.2.1).bind fun t313 => (if t313 = true then (laws_FnGames.l0 k bt293.2.2.2.2.2.2.1 (bt293.2.2.2.2.2.2.1.length : Int) 0 bt293.1 bt293.2.1 bt293.2.2.1 bt293.2.2.2.1 bt293.2.2.2.2.1 bt293.2.2.2.2.2.1 bt293.2.2.2.2.2.2.1 bt293.2.2.2.2.2.2.2.1 bt293.2.2.2.2.2.2.2.2) else (some false))))) = some r := h
  clear h
  by_cases c2 : (l0.length : Int) > 1048576
  · rw [if_pos c2] at H
    have c2b0 : decide (1048576 < (l0.length : Int)) = true := decide_eq_true c2
    have c2b1 : decide (1048576 < l0.length) = true := decide_eq_true (by omega)
    clear c2
    obtain rfl := Option.some.inj H
    go_enter Try.func10, Try.ntmps10
    go_wp2
    go_ret
    exact ⟨by first | rfl | (simp [errW_none, errW_some] <;> rfl) | (simp [*, errW_none, errW_some] <;> rfl), by repeat (first | (with_reducible first | exact HB.out | apply below_alloc | apply pw_below_drewN | apply below_drew1) | exact HB.out)⟩
  · rw [if_neg c2] at H
    have c2b0 : decide (1048576 < (l0.length : Int)) = false := decide_eq_false c2
    have c2b1 : decide (1048576 < l0.length) = false := decide_eq_false (by omega)
    clear c2
    replace H := Option.bind_eq_some_iff.mp H
    obtain ⟨⟨t293, t296, t297, t298, t299, t302, t303, t306, t309⟩, A30, H⟩ := H
    replace H : ((impl_SeasonOk.f k (t293.length : Int) t303).bind fun t313 => (if t313 = true then (laws_FnGames.l0 k t303 (t303.length : Int) 0 t293 t296 t297 t298 t299 t302 t303 t306 t309) else (some false))) = some r := H
    have A3 := Aside0.mk A30
    clear A30
    replace H := Option.bind_eq_some_iff.mp H
    obtain ⟨t313, A40, H⟩ := H
    replace H : (if t313 = true then (laws_FnGames.l0 k t303 (t303.length : Int) 0 t293 t296 t297 t298 t299 t302 t303 t306 t309) else (some false)) = some r := H
    have A4 := Aside0.mk A40
    clear A40
    by_cases c5 : t313 = true
    · subst c5
      have H1 : (laws_FnGames.l0 k t303 (t303.length : Int) 0 t293 t296 t297 t298 t299 t302 t303 t306 t309) = some r := by rw [if_pos rfl] at H; exact H
      clear H
      have H := H1
      clear H1
      have H' := Aside0.mk H
      clear H
      go_enter Try.func10, Try.ntmps10
      go_wp2_with (first | ((with_reducible refine gate_callee (f := 48) rfl ?_); refine goesL_ (some 13) rfl rfl Try.func48 (by kernel_rfl) rfl #[.slice A0 l0.length c0] rfl (by (try simp only [List.map_toArray, List.map_cons, List.map_nil]); first | done | rfl | (simp only [List.length_drop, List.length_take]; rfl)) ?_; (with_reducible refine (spec_MakeBook.calls k _ _ l0 t293 t296 t297 t298 t299 t302 t303 t306 t309 _ ?side1 ?side2 A3.out).mono ?_); (case side1 => repeat (first | exact HR0.out | (with_reducible refine Kd.C_alloc ?_ _) | (with_reducible refine Kd.C_drewN ?_ _) | (with_reducible refine Kd.C_drew ?_))); (case side2 => exact HC0.out); rintro e w6 ⟨v294, v300, v304, v307, v310, rfl, ho0, ho1, ho2, ho3, ho4, hb⟩; refine ⟨_, rfl, ?_⟩; have n0_ := Aside0.mk (Kd.R_lower ho0 (below_size (by repeat (first | (with_reducible first | exact HB.out | apply below_alloc | apply pw_below_drewN | apply below_drew1) | exact HB.out)))); have n1_ := Aside0.mk (Kd.R_lower ho1 (below_size (by repeat (first | (with_reducible first | exact HB.out | apply below_alloc | apply pw_below_drewN | apply below_drew1) | exact HB.out)))); have n2_ := Aside0.mk (Kd.R_lower ho2 (below_size (by repeat (first | (with_reducible first | exact HB.out | apply below_alloc | apply pw_below_drewN | apply below_drew1) | exact HB.out)))); have n3_ := Aside0.mk (Kd.R_lower ho3 (below_size (by repeat (first | (with_reducible first | exact HB.out | apply below_alloc | apply pw_below_drewN | apply below_drew1) | exact HB.out)))); have n4_ := Aside0.mk (Kd.R_lower ho4 (below_size (by repeat (first | (with_reducible first | exact HB.out | apply below_alloc | apply pw_below_drewN | apply below_drew1) | exact HB.out)))); have n5_ := Aside0.mk (below_step (by repeat (first | (with_reducible first | exact HB.out | apply below_alloc | apply pw_below_drewN | apply below_drew1) | exact HB.out)) hb); clear HB; have HO295 := n0_; have HO301 := n1_; have HO305 := n2_; have HO308 := n3_; have HO311 := n4_; have HB := n5_; clear n0_ n1_ n2_ n3_ n4_ n5_; (try clear hb); (try clear hb2); (try clear hk); (try clear hi); (try clear ho0); (try clear ho1); (try clear ho2); (try clear ho3); (try clear ho4)) | ((with_reducible refine gate_dst (N := 3) rfl ?_); (try (refine gate_guard (by rfl) ?_; dsimp only)); refine box_event ?hg (N := 3) ?hd (cs := #[.slice none 0 0, .int .i64 0, .int .i64 0, .int .i64 0, .slice none 0 0, .bool false, .slice none 0 0, .slice none 0 0, .slice none 0 0]) (t := 68) ?hr ?_; (case hd => rfl); (case hg => rfl); (case hr => first | (go_simp; done) | (go_simp; rfl)); intro gb312 hg w7 hbox hb; have n0_ := Aside0.mk (Kd.R_below (by (with_reducible repeat (first | apply Kd.R_alloc | apply Kd.R_drewN | apply Kd.R_drew)); exact HO295.out) hb); have n1_ := Aside0.mk (Kd.R_below (by (with_reducible repeat (first | apply Kd.R_alloc | apply Kd.R_drewN | apply Kd.R_drew)); exact HO301.out) hb); have n2_ := Aside0.mk (Kd.R_below (by (with_reducible repeat (first | apply Kd.R_alloc | apply Kd.R_drewN | apply Kd.R_drew)); exact HO305.out) hb); have n3_ := Aside0.mk (Kd.R_below (by (with_reducible repeat (first | apply Kd.R_alloc | apply Kd.R_drewN | apply Kd.R_drew)); exact HO308.out) hb); have n4_ := Aside0.mk (Kd.R_below (by (with_reducible repeat (first | apply Kd.R_alloc | apply Kd.R_drewN | apply Kd.R_drew)); exact HO311.out) hb); have n5_ := Aside0.mk (below_step (by repeat (first | (with_reducible first | exact HB.out | apply below_alloc | apply pw_below_drewN | apply below_drew1) | exact HB.out)) hb); have n6_ := Aside0.mk (hbox); have n7_ := Aside0.mk ((by rw [hg]; exact (below_size (by repeat (first | (with_reducible first | exact HB.out | apply below_alloc | apply pw_below_drewN | apply below_drew1) | exact HB.out))) : w.heap.size ≤ gb312)); have n8_ := Aside0.mk ((by rw [hg]; exact (below_size (by repeat (first | (with_reducible first | exact HB.out | apply below_alloc | apply pw_below_drewN | apply below_drew1) | exact HB.out))) : w.heap.size ≤ gb312)); clear HO295; clear HO301; clear HO305; clear HO308; clear HO311; clear HB; have HO295 := n0_; have HO301 := n1_; have HO305 := n2_; have HO308 := n3_; have HO311 := n4_; have HB := n5_; have BK312 := n6_; have GW312 := n7_; have GE312 := n8_; clear n0_ n1_ n2_ n3_ n4_ n5_ n6_ n7_ n8_; clear hb hbox hg; obtain ⟨Ao8, co8, eo8⟩ := Kd.R_slice HO295.out; subst eo8; have hcz9_0 : w7.cell? ⟨gb312, 0, none⟩ = some (.slice none 0 0) := (blk_cell BK312.out 0).trans rfl; have hcz9_1 : w7.cell? ⟨gb312, 1, none⟩ = some (.int .i64 0) := (blk_cell BK312.out 1).trans rfl; have hcz9_2 : w7.cell? ⟨gb312, 2, none⟩ = some (.int .i64 0) := (blk_cell BK312.out 2).trans rfl; have hcz9_3 : w7.cell? ⟨gb312, 3, none⟩ = some (.int .i64 0) := (blk_cell BK312.out 3).trans rfl; have hcz9_4 : w7.cell? ⟨gb312, 4, none⟩ = some (.slice none 0 0) := (blk_cell BK312.out 4).trans rfl; have hcz9_5 : w7.cell? ⟨gb312, 5, none⟩ = some (.bool false) := (blk_cell BK312.out 5).trans rfl; have hcz9_6 : w7.cell? ⟨gb312, 6, none⟩ = some (.slice none 0 0) := (blk_cell BK312.out 6).trans rfl; have hcz9_7 : w7.cell? ⟨gb312, 7, none⟩ = some (.slice none 0 0) := (blk_cell BK312.out 7).trans rfl; have hcz9_8 : w7.cell? ⟨gb312, 8, none⟩ = some (.slice none 0 0) := (blk_cell BK312.out 8).trans rfl; have hfz9_0 := blk_frozen BK312.out 0; have hfz9_1 := blk_frozen BK312.out 1; have hfz9_2 := blk_frozen BK312.out 2; have hfz9_3 := blk_frozen BK312.out 3; have hfz9_4 := blk_frozen BK312.out 4; have hfz9_5 := blk_frozen BK312.out 5; have hfz9_6 := blk_frozen BK312.out 6; have hfz9_7 := blk_frozen BK312.out 7; have hfz9_8 := blk_frozen BK312.out 8; obtain ⟨Ao10, co10, eo10⟩ := Kd.R_slice HO301.out; subst eo10; obtain ⟨Ao11, co11, eo11⟩ := Kd.R_slice HO305.out; subst eo11; obtain ⟨Ao12, co12, eo12⟩ := Kd.R_slice HO308.out; subst eo12; obtain ⟨Ao13, co13, eo13⟩ := Kd.R_slice HO311.out; subst eo13) | ((with_reducible refine gate_callee (f := 49) rfl ?_); refine goesL_ (some 19) rfl rfl Try.func49 (by kernel_rfl) rfl #[.int .i64 (t293.length : Int), .slice Ao11 t303.length co11] rfl (by (try simp only [List.map_toArray, List.map_cons, List.map_nil]); first | done | rfl | (simp only [List.length_drop, List.length_take]; rfl)) ?_; (with_reducible refine (impl_SeasonOk.calls k (t293.length : Int) _ _ t303 true _ ?side1 ?side2 A4.out).mono ?_); (case side1 => refine (Kd.R_reads' (e := 61) (base := w.heap.size) (ok := fun k_ => True) (n := t303.length) (c := co11) ?_).2.2; exact (by (with_reducible repeat (first | apply Kd.R_alloc | apply Kd.R_drewN | apply Kd.R_drew)); exact (Kd.R_mono (Kd.R_far (p := ⟨gb312, 8, none⟩) (Kd.R_far (p := ⟨gb312, 7, none⟩) (Kd.R_far (p := ⟨gb312, 6, none⟩) (Kd.R_far (p := ⟨gb312, 5, none⟩) (Kd.R_far (p := ⟨gb312, 4, none⟩) (Kd.R_far (p := ⟨gb312, 3, none⟩) (Kd.R_far (p := ⟨gb312, 2, none⟩) (Kd.R_far (p := ⟨gb312, 1, none⟩) (Kd.R_far (p := ⟨gb312, 0, none⟩) (Kd.R_types HO305.out BK312.out (by decide)) (fun _ hk => hk.2) (.slice Ao8 t293.length co8)) (fun _ hk => hk.2) (.int .i64 t296)) (fun _ hk => hk.2) (.int .i64 t297)) (fun _ hk => hk.2) (.int .i64 t298)) (fun _ hk => hk.2) (.slice Ao10 t299.length co10)) (fun _ hk => hk.2) (.bool t302)) (fun _ hk => hk.2) (.slice Ao11 t303.length co11)) (fun _ hk => hk.2) (.slice Ao12 t306.length co12)) (fun _ hk => hk.2) (.slice Ao13 t309.length co13)) (fun _ h_ => h_.1)))); (case side2 => exact (Kd.R_reads' HO305.out).2.1); rintro e w14 ⟨rfl, hb⟩; refine ⟨_, rfl, ?_⟩; have n0_ := Aside0.mk (Kd.R_below (by (with_reducible repeat (first | apply Kd.R_alloc | apply Kd.R_drewN | apply Kd.R_drew)); exact (Kd.R_mono (Kd.R_far (p := ⟨gb312, 8, none⟩) (Kd.R_far (p := ⟨gb312, 7, none⟩) (Kd.R_far (p := ⟨gb312, 6, none⟩) (Kd.R_far (p := ⟨gb312, 5, none⟩) (Kd.R_far (p := ⟨gb312, 4, none⟩) (Kd.R_far (p := ⟨gb312, 3, none⟩) (Kd.R_far (p := ⟨gb312, 2, none⟩) (Kd.R_far (p := ⟨gb312, 1, none⟩) (Kd.R_far (p := ⟨gb312, 0, none⟩) (Kd.R_types HO295.out BK312.out (by decide)) (fun _ hk => hk.2) (.slice Ao8 t293.length co8)) (fun _ hk => hk.2) (.int .i64 t296)) (fun _ hk => hk.2) (.int .i64 t297)) (fun _ hk => hk.2) (.int .i64 t298)) (fun _ hk => hk.2) (.slice Ao10 t299.length co10)) (fun _ hk => hk.2) (.bool t302)) (fun _ hk => hk.2) (.slice Ao11 t303.length co11)) (fun _ hk => hk.2) (.slice Ao12 t306.length co12)) (fun _ hk => hk.2) (.slice Ao13 t309.length co13)) (fun _ h_ => h_.1))) hb); have n1_ := Aside0.mk (Kd.R_below (by (with_reducible repeat (first | apply Kd.R_alloc | apply Kd.R_drewN | apply Kd.R_drew)); exact (Kd.R_mono (Kd.R_far (p := ⟨gb312, 8, none⟩) (Kd.R_far (p := ⟨gb312, 7, none⟩) (Kd.R_far (p := ⟨gb312, 6, none⟩) (Kd.R_far (p := ⟨gb312, 5, none⟩) (Kd.R_far (p := ⟨gb312, 4, none⟩) (Kd.R_far (p := ⟨gb312, 3, none⟩) (Kd.R_far (p := ⟨gb312, 2, none⟩) (Kd.R_far (p := ⟨gb312, 1, none⟩) (Kd.R_far (p := ⟨gb312, 0, none⟩) (Kd.R_types HO301.out BK312.out (by decide)) (fun _ hk => hk.2) (.slice Ao8 t293.length co8)) (fun _ hk => hk.2) (.int .i64 t296)) (fun _ hk => hk.2) (.int .i64 t297)) (fun _ hk => hk.2) (.int .i64 t298)) (fun _ hk => hk.2) (.slice Ao10 t299.length co10)) (fun _ hk => hk.2) (.bool t302)) (fun _ hk => hk.2) (.slice Ao11 t303.length co11)) (fun _ hk => hk.2) (.slice Ao12 t306.length co12)) (fun _ hk => hk.2) (.slice Ao13 t309.length co13)) (fun _ h_ => h_.1))) hb); have n2_ := Aside0.mk (Kd.R_below (by (with_reducible repeat (first | apply Kd.R_alloc | apply Kd.R_drewN | apply Kd.R_drew)); exact (Kd.R_mono (Kd.R_far (p := ⟨gb312, 8, none⟩) (Kd.R_far (p := ⟨gb312, 7, none⟩) (Kd.R_far (p := ⟨gb312, 6, none⟩) (Kd.R_far (p := ⟨gb312, 5, none⟩) (Kd.R_far (p := ⟨gb312, 4, none⟩) (Kd.R_far (p := ⟨gb312, 3, none⟩) (Kd.R_far (p := ⟨gb312, 2, none⟩) (Kd.R_far (p := ⟨gb312, 1, none⟩) (Kd.R_far (p := ⟨gb312, 0, none⟩) (Kd.R_types HO305.out BK312.out (by decide)) (fun _ hk => hk.2) (.slice Ao8 t293.length co8)) (fun _ hk => hk.2) (.int .i64 t296)) (fun _ hk => hk.2) (.int .i64 t297)) (fun _ hk => hk.2) (.int .i64 t298)) (fun _ hk => hk.2) (.slice Ao10 t299.length co10)) (fun _ hk => hk.2) (.bool t302)) (fun _ hk => hk.2) (.slice Ao11 t303.length co11)) (fun _ hk => hk.2) (.slice Ao12 t306.length co12)) (fun _ hk => hk.2) (.slice Ao13 t309.length co13)) (fun _ h_ => h_.1))) hb); have n3_ := Aside0.mk (Kd.R_below (by (with_reducible repeat (first | apply Kd.R_alloc | apply Kd.R_drewN | apply Kd.R_drew)); exact (Kd.R_mono (Kd.R_far (p := ⟨gb312, 8, none⟩) (Kd.R_far (p := ⟨gb312, 7, none⟩) (Kd.R_far (p := ⟨gb312, 6, none⟩) (Kd.R_far (p := ⟨gb312, 5, none⟩) (Kd.R_far (p := ⟨gb312, 4, none⟩) (Kd.R_far (p := ⟨gb312, 3, none⟩) (Kd.R_far (p := ⟨gb312, 2, none⟩) (Kd.R_far (p := ⟨gb312, 1, none⟩) (Kd.R_far (p := ⟨gb312, 0, none⟩) (Kd.R_types HO308.out BK312.out (by decide)) (fun _ hk => hk.2) (.slice Ao8 t293.length co8)) (fun _ hk => hk.2) (.int .i64 t296)) (fun _ hk => hk.2) (.int .i64 t297)) (fun _ hk => hk.2) (.int .i64 t298)) (fun _ hk => hk.2) (.slice Ao10 t299.length co10)) (fun _ hk => hk.2) (.bool t302)) (fun _ hk => hk.2) (.slice Ao11 t303.length co11)) (fun _ hk => hk.2) (.slice Ao12 t306.length co12)) (fun _ hk => hk.2) (.slice Ao13 t309.length co13)) (fun _ h_ => h_.1))) hb); have n4_ := Aside0.mk (Kd.R_below (by (with_reducible repeat (first | apply Kd.R_alloc | apply Kd.R_drewN | apply Kd.R_drew)); exact (Kd.R_mono (Kd.R_far (p := ⟨gb312, 8, none⟩) (Kd.R_far (p := ⟨gb312, 7, none⟩) (Kd.R_far (p := ⟨gb312, 6, none⟩) (Kd.R_far (p := ⟨gb312, 5, none⟩) (Kd.R_far (p := ⟨gb312, 4, none⟩) (Kd.R_far (p := ⟨gb312, 3, none⟩) (Kd.R_far (p := ⟨gb312, 2, none⟩) (Kd.R_far (p := ⟨gb312, 1, none⟩) (Kd.R_far (p := ⟨gb312, 0, none⟩) (Kd.R_types HO311.out BK312.out (by decide)) (fun _ hk => hk.2) (.slice Ao8 t293.length co8)) (fun _ hk => hk.2) (.int .i64 t296)) (fun _ hk => hk.2) (.int .i64 t297)) (fun _ hk => hk.2) (.int .i64 t298)) (fun _ hk => hk.2) (.slice Ao10 t299.length co10)) (fun _ hk => hk.2) (.bool t302)) (fun _ hk => hk.2) (.slice Ao11 t303.length co11)) (fun _ hk => hk.2) (.slice Ao12 t306.length co12)) (fun _ hk => hk.2) (.slice Ao13 t309.length co13)) (fun _ h_ => h_.1))) hb); have n5_ := Aside0.mk (blk_below (g := gb312) (o := .cells #[.slice Ao8 t293.length co8, .int .i64 t296, .int .i64 t297, .int .i64 t298, .slice Ao10 t299.length co10, .bool t302, .slice Ao11 t303.length co11, .slice Ao12 t306.length co12, .slice Ao13 t309.length co13] 68 (0, 0)) (by (with_reducible repeat (first | refine blk_drewN ?_ _ | refine blk_drew ?_ | refine blk_alloc ?_ _)); refine blk_put (cs := #[.slice Ao8 t293.length co8, .int .i64 t296, .int .i64 t297, .int .i64 t298, .slice Ao10 t299.length co10, .bool t302, .slice Ao11 t303.length co11, .slice Ao12 t306.length co12, .slice none 0 0]) ?_ 8 _ rfl; (with_reducible repeat (first | refine blk_drewN ?_ _ | refine blk_drew ?_ | refine blk_alloc ?_ _)); refine blk_put (cs := #[.slice Ao8 t293.length co8, .int .i64 t296, .int .i64 t297, .int .i64 t298, .slice Ao10 t299.length co10, .bool t302, .slice Ao11 t303.length co11, .slice none 0 0, .slice none 0 0]) ?_ 7 _ rfl; (with_reducible repeat (first | refine blk_drewN ?_ _ | refine blk_drew ?_ | refine blk_alloc ?_ _)); refine blk_put (cs := #[.slice Ao8 t293.length co8, .int .i64 t296, .int .i64 t297, .int .i64 t298, .slice Ao10 t299.length co10, .bool t302, .slice none 0 0, .slice none 0 0, .slice none 0 0]) ?_ 6 _ rfl; (with_reducible repeat (first | refine blk_drewN ?_ _ | refine blk_drew ?_ | refine blk_alloc ?_ _)); refine blk_put (cs := #[.slice Ao8 t293.length co8, .int .i64 t296, .int .i64 t297, .int .i64 t298, .slice Ao10 t299.length co10, .bool false, .slice none 0 0, .slice none 0 0, .slice none 0 0]) ?_ 5 _ rfl; (with_reducible repeat (first | refine blk_drewN ?_ _ | refine blk_drew ?_ | refine blk_alloc ?_ _)); refine blk_put (cs := #[.slice Ao8 t293.length co8, .int .i64 t296, .int .i64 t297, .int .i64 t298, .slice none 0 0, .bool false, .slice none 0 0, .slice none 0 0, .slice none 0 0]) ?_ 4 _ rfl; (with_reducible repeat (first | refine blk_drewN ?_ _ | refine blk_drew ?_ | refine blk_alloc ?_ _)); refine blk_put (cs := #[.slice Ao8 t293.length co8, .int .i64 t296, .int .i64 t297, .int .i64 0, .slice none 0 0, .bool false, .slice none 0 0, .slice none 0 0, .slice none 0 0]) ?_ 3 _ rfl; (with_reducible repeat (first | refine blk_drewN ?_ _ | refine blk_drew ?_ | refine blk_alloc ?_ _)); refine blk_put (cs := #[.slice Ao8 t293.length co8, .int .i64 t296, .int .i64 0, .int .i64 0, .slice none 0 0, .bool false, .slice none 0 0, .slice none 0 0, .slice none 0 0]) ?_ 2 _ rfl; (with_reducible repeat (first | refine blk_drewN ?_ _ | refine blk_drew ?_ | refine blk_alloc ?_ _)); refine blk_put (cs := #[.slice Ao8 t293.length co8, .int .i64 0, .int .i64 0, .int .i64 0, .slice none 0 0, .bool false, .slice none 0 0, .slice none 0 0, .slice none 0 0]) ?_ 1 _ rfl; (with_reducible repeat (first | refine blk_drewN ?_ _ | refine blk_drew ?_ | refine blk_alloc ?_ _)); refine blk_put (cs := #[.slice none 0 0, .int .i64 0, .int .i64 0, .int .i64 0, .slice none 0 0, .bool false, .slice none 0 0, .slice none 0 0, .slice none 0 0]) ?_ 0 _ rfl; (with_reducible repeat (first | refine blk_drewN ?_ _ | refine blk_drew ?_ | refine blk_alloc ?_ _)); exact BK312.out) hb); have n6_ := Aside0.mk (below_step (by repeat (first | (with_reducible first | exact HB.out | apply below_alloc | apply pw_below_drewN | apply below_drew1 | refine below_set ?_ GE312.out) | exact HB.out)) hb); clear HO295; clear HO301; clear HO305; clear HO308; clear HO311; clear BK312; clear HB; have HO295 := n0_; have HO301 := n1_; have HO305 := n2_; have HO308 := n3_; have HO311 := n4_; have BK312 := n5_; have HB := n6_; clear n0_ n1_ n2_ n3_ n4_ n5_ n6_; (try clear hb); (try clear hb2); (try clear hk); (try clear hi); have hcz15_0 : w14.cell? ⟨gb312, 0, none⟩ = some (.slice Ao8 t293.length co8) := (blk_cell BK312.out 0).trans rfl; have hcz15_1 : w14.cell? ⟨gb312, 1, none⟩ = some (.int .i64 t296) := (blk_cell BK312.out 1).trans rfl; have hcz15_2 : w14.cell? ⟨gb312, 2, none⟩ = some (.int .i64 t297) := (blk_cell BK312.out 2).trans rfl; have hcz15_3 : w14.cell? ⟨gb312, 3, none⟩ = some (.int .i64 t298) := (blk_cell BK312.out 3).trans rfl; have hcz15_4 : w14.cell? ⟨gb312, 4, none⟩ = some (.slice Ao10 t299.length co10) := (blk_cell BK312.out 4).trans rfl; have hcz15_5 : w14.cell? ⟨gb312, 5, none⟩ = some (.bool t302) := (blk_cell BK312.out 5).trans rfl; have hcz15_6 : w14.cell? ⟨gb312, 6, none⟩ = some (.slice Ao11 t303.length co11) := (blk_cell BK312.out 6).trans rfl; have hcz15_7 : w14.cell? ⟨gb312, 7, none⟩ = some (.slice Ao12 t306.length co12) := (blk_cell BK312.out 7).trans rfl; have hcz15_8 : w14.cell? ⟨gb312, 8, none⟩ = some (.slice Ao13 t309.length co13) := (blk_cell BK312.out 8).trans rfl; have hfz15_0 := blk_frozen BK312.out 0; have hfz15_1 := blk_frozen BK312.out 1; have hfz15_2 := blk_frozen BK312.out 2; have hfz15_3 := blk_frozen BK312.out 3; have hfz15_4 := blk_frozen BK312.out 4; have hfz15_5 := blk_frozen BK312.out 5; have hfz15_6 := blk_frozen BK312.out 6; have hfz15_7 := blk_frozen BK312.out 7; have hfz15_8 := blk_frozen BK312.out 8))
      go_loopg [24] k (fun kq v24 w' => ∃ (x24_1 : Int), v24 = .int .i64 x24_1 ∧ Aside0 (laws_FnGames.l0 kq t303 (t303.length : Int) x24_1 t293 t296 t297 t298 t299 t302 t303 t306 t309 = some r) ∧ Aside0 (kq ≤ k) ∧ Aside0 (Kd.R k61 61 w' w.heap.size (fun _ => True) (.slice Ao11 t303.length co11) t303) ∧ Aside0 (Kd.R k102 102 w' w.heap.size (fun _ => True) (.slice Ao8 t293.length co8) t293) ∧ Aside0 (Kd.R (Kd.int .i64) 3 w' w.heap.size (fun k_ => some k_ ≠ ((.slice Ao12 t306.length co12) : Value).ownBlock ∧ some k_ ≠ ((.slice Ao13 t309.length co13) : Value).ownBlock) (.slice Ao10 t299.length co10) t299) ∧ Aside0 (Kd.R k61 61 w' w.heap.size (fun _ => True) (.slice Ao11 t303.length co11) t303) ∧ Aside0 (Kd.R (Kd.int .i64) 3 w' w.heap.size (fun k_ => some k_ ≠ ((.slice Ao10 t299.length co10) : Value).ownBlock ∧ some k_ ≠ ((.slice Ao13 t309.length co13) : Value).ownBlock) (.slice Ao12 t306.length co12) t306) ∧ Aside0 (Kd.R (Kd.int .i64) 3 w' w.heap.size (fun k_ => some k_ ≠ ((.slice Ao10 t299.length co10) : Value).ownBlock ∧ some k_ ≠ ((.slice Ao12 t306.length co12) : Value).ownBlock) (.slice Ao13 t309.length co13) t309) ∧ Aside0 (w'.heap[gb312]? = some (.cells #[(.slice Ao8 t293.length co8), .int .i64 t296, .int .i64 t297, .int .i64 t298, (.slice Ao10 t299.length co10), .bool t302, (.slice Ao11 t303.length co11), (.slice Ao12 t306.length co12), (.slice Ao13 t309.length co13)] 68 (0, 0))) ∧ Aside0 (Below w.heap.size w w'))
      case atStart => exact ⟨(0), (by first | rfl | (simp; done) | (simp [*]; done)), H', ⟨Nat.le_refl _⟩, ⟨by (with_reducible repeat (first | apply Kd.R_alloc | apply Kd.R_drewN | apply Kd.R_drew)); exact HO305.out⟩, ⟨by (with_reducible repeat (first | apply Kd.R_alloc | apply Kd.R_drewN | apply Kd.R_drew)); exact HO295.out⟩, ⟨by (with_reducible repeat (first | apply Kd.R_alloc | apply Kd.R_drewN | apply Kd.R_drew)); exact HO301.out⟩, ⟨by (with_reducible repeat (first | apply Kd.R_alloc | apply Kd.R_drewN | apply Kd.R_drew)); exact HO305.out⟩, ⟨by (with_reducible repeat (first | apply Kd.R_alloc | apply Kd.R_drewN | apply Kd.R_drew)); exact HO308.out⟩, ⟨by (with_reducible repeat (first | apply Kd.R_alloc | apply Kd.R_drewN | apply Kd.R_drew)); exact HO311.out⟩, ⟨by (with_reducible repeat (first | refine blk_drewN ?_ _ | refine blk_drew ?_ | refine blk_alloc ?_ _)); exact BK312.out⟩, ⟨by repeat (first | (with_reducible first | exact HB.out | apply below_alloc | apply pw_below_drewN | apply below_drew1 | refine below_set ?_ GE312.out) | exact HB.out)⟩⟩
      case round =>
        clear H'
        try clear c1
        try clear c2
        try clear c2b0
        try clear c2b1
        try clear p2
        try clear c4
        try clear c5
        try clear c10
        try clear hcz15_0
        try clear hcz15_1
        try clear hcz15_2
        try clear hcz15_3
        try clear hcz15_4
        try clear hcz15_5
        try clear hcz15_6
        try clear hcz15_7
        try clear hcz15_8
        try clear hcz9_0
        try clear hcz9_1
        try clear hcz9_2
        try clear hcz9_3
        try clear hcz9_4
        try clear hcz9_5
        try clear hcz9_6
        try clear hcz9_7
        try clear hcz9_8
        try clear hfz15_0
        try clear hfz15_1
        try clear hfz15_2
        try clear hfz15_3
        try clear hfz15_4
        try clear hfz15_5
        try clear hfz15_6
        try clear hfz15_7
        try clear hfz15_8
        try clear hfz9_0
        try clear hfz9_1
        try clear hfz9_2
        try clear hfz9_3
        try clear hfz9_4
        try clear hfz9_5
        try clear hfz9_6
        try clear hfz9_7
        try clear hfz9_8
        obtain ⟨x24_1, rfl, HA, HK1, HO_22, HO_313000, HO_313004, HO_313006, HO_313007, HO_313008, BK312, HB⟩ := hrel
        cases gk with
        | zero => exact absurd HA.out (by simp [laws_FnGames.l0])
        | succ k1 =>
          have H := HA.out
          clear HA
          simp only [laws_FnGames.l0] at H
          by_cases c16 : x24_1 < (t303.length : Int)
          · rw [if_pos c16] at H
            have c16b0 : decide (x24_1 < (t303.length : Int)) = true := decide_eq_true c16
            clear c16
            by_cases c17 : 0 ≤ x24_1
            · rw [if_pos c17] at H
              have c17b0 : decide (0 ≤ x24_1) = true := decide_eq_true c17
              clear c17
              by_cases c18 : x24_1 < (t303.length : Int)
              · rw [if_pos c18] at H
                have c18b0 : decide (x24_1 < (t303.length : Int)) = true := decide_eq_true c18
                clear c18
                have H' := Aside0.mk H
                clear H
                have p314 : 0 ≤ (x24_1 : Int) := of_decide_eq_true (by first | (with_reducible assumption) | assumption)
                have q314 : x24_1 < (t303.length : Int) := of_decide_eq_true (by first | (with_reducible assumption) | assumption)
                obtain ⟨ad314, e314, hx314_0, hx314_1, hx314_2, hx314_3, hx314_4⟩ := at_T61 (Kd.R_reads' HO_22.out).2.2 x24_1 p314 q314
                cases e314
                replace p314 := eq_true p314
                replace q314 := eq_true q314
                go_wp2_with (first | ((with_reducible refine gate_dst (N := 5) rfl ?_); (try (refine gate_guard (by rfl) ?_; dsimp only)); refine box_event ?hg (N := 5) ?hd (cs := #[.int .i64 0, .int .i64 0, .int .i64 0, .int .i64 0, .int .i64 0]) (t := 61) ?hr ?_; (case hd => rfl); (case hg => rfl); (case hr => first | (go_simp; done) | (go_simp; rfl)); intro gb315 hg w19 hbox hb; have n0_ := Aside0.mk (Kd.R_below (Kd.R_elderB (by (with_reducible repeat (first | apply Kd.R_alloc | apply Kd.R_drewN | apply Kd.R_drew)); exact HO_22.out) gb315 (Nat.le_of_eq hg.symm)) hb); have n1_ := Aside0.mk (Kd.R_below (by (with_reducible repeat (first | apply Kd.R_alloc | apply Kd.R_drewN | apply Kd.R_drew)); exact HO_313000.out) hb); have n2_ := Aside0.mk (Kd.R_below (by (with_reducible repeat (first | apply Kd.R_alloc | apply Kd.R_drewN | apply Kd.R_drew)); exact HO_313004.out) hb); have n3_ := Aside0.mk (Kd.R_below (Kd.R_elderB (by (with_reducible repeat (first | apply Kd.R_alloc | apply Kd.R_drewN | apply Kd.R_drew)); exact HO_313006.out) gb315 (Nat.le_of_eq hg.symm)) hb); have n4_ := Aside0.mk (Kd.R_below (by (with_reducible repeat (first | apply Kd.R_alloc | apply Kd.R_drewN | apply Kd.R_drew)); exact HO_313007.out) hb); have n5_ := Aside0.mk (Kd.R_below (by (with_reducible repeat (first | apply Kd.R_alloc | apply Kd.R_drewN | apply Kd.R_drew)); exact HO_313008.out) hb); have n6_ := Aside0.mk (blk_below (g := gb312) (o := .cells #[.slice Ao8 t293.length co8, .int .i64 t296, .int .i64 t297, .int .i64 t298, .slice Ao10 t299.length co10, .bool t302, .slice (some ad314) t303.length co11, .slice Ao12 t306.length co12, .slice Ao13 t309.length co13] 68 (0, 0)) (by (with_reducible repeat (first | refine blk_drewN ?_ _ | refine blk_drew ?_ | refine blk_alloc ?_ _)); exact BK312.out) hb); have n7_ := Aside0.mk (below_step (by repeat (first | (with_reducible first | exact HB.out | apply below_alloc | apply pw_below_drewN | apply below_drew1 | refine below_set ?_ GE312.out) | exact HB.out)) hb); have n8_ := Aside0.mk (hbox); have n9_ := Aside0.mk ((by rw [hg]; exact (below_size (by repeat (first | (with_reducible first | exact HB.out | apply below_alloc | apply pw_below_drewN | apply below_drew1 | refine below_set ?_ GE312.out) | exact HB.out))) : w.heap.size ≤ gb315)); have n10_ := Aside0.mk ((by rw [hg]; exact (below_size (by repeat (first | (with_reducible first | exact HB.out | apply below_alloc | apply pw_below_drewN | apply below_drew1 | refine below_set ?_ GE312.out) | exact HB.out))) : w.heap.size ≤ gb315)); have n11_ := Aside0.mk ((by rw [hg]; exact Nat.ne_of_lt (blk_lt (g := gb312) (o := .cells #[.slice Ao8 t293.length co8, .int .i64 t296, .int .i64 t297, .int .i64 t298, .slice Ao10 t299.length co10, .bool t302, .slice (some ad314) t303.length co11, .slice Ao12 t306.length co12, .slice Ao13 t309.length co13] 68 (0, 0)) (by (with_reducible repeat (first | refine blk_drewN ?_ _ | refine blk_drew ?_ | refine blk_alloc ?_ _)); exact BK312.out)) : gb312 ≠ gb315)); have n12_ := Aside0.mk ((by rw [hg]; exact Nat.ne_of_gt (blk_lt (g := gb312) (o := .cells #[.slice Ao8 t293.length co8, .int .i64 t296, .int .i64 t297, .int .i64 t298, .slice Ao10 t299.length co10, .bool t302, .slice (some ad314) t303.length co11, .slice Ao12 t306.length co12, .slice Ao13 t309.length co13] 68 (0, 0)) (by (with_reducible repeat (first | refine blk_drewN ?_ _ | refine blk_drew ?_ | refine blk_alloc ?_ _)); exact BK312.out)) : gb315 ≠ gb312)); clear HO_22; clear HO_313000; clear HO_313004; clear HO_313006; clear HO_313007; clear HO_313008; clear BK312; clear HB; have HO_22 := n0_; have HO_313000 := n1_; have HO_313004 := n2_; have HO_313006 := n3_; have HO_313007 := n4_; have HO_313008 := n5_; have BK312 := n6_; have HB := n7_; have BK315 := n8_; have GW315 := n9_; have GE315 := n10_; have NB312_315 := n11_; have NB315_312 := n12_; clear n0_ n1_ n2_ n3_ n4_ n5_ n6_ n7_ n8_ n9_ n10_ n11_ n12_; clear hb hbox hg; have hnb20 := NB315_312.out; have hnc20 := NB312_315.out; have hcz21_0 : w19.cell? ⟨gb315, 0, none⟩ = some (.int .i64 0) := (blk_cell BK315.out 0).trans rfl; have hcz21_1 : w19.cell? ⟨gb315, 1, none⟩ = some (.int .i64 0) := (blk_cell BK315.out 1).trans rfl; have hcz21_2 : w19.cell? ⟨gb315, 2, none⟩ = some (.int .i64 0) := (blk_cell BK315.out 2).trans rfl; have hcz21_3 : w19.cell? ⟨gb315, 3, none⟩ = some (.int .i64 0) := (blk_cell BK315.out 3).trans rfl; have hcz21_4 : w19.cell? ⟨gb315, 4, none⟩ = some (.int .i64 0) := (blk_cell BK315.out 4).trans rfl; have hfz21_0 := blk_frozen BK315.out 0; have hfz21_1 := blk_frozen BK315.out 1; have hfz21_2 := blk_frozen BK315.out 2; have hfz21_3 := blk_frozen BK315.out 3; have hfz21_4 := blk_frozen BK315.out 4))
                go_loopg [6] k1 (fun kq v6 w' => ∃ (x6_2 : Int), v6 = .int .i64 x6_2 ∧ Aside0 (laws_FnGames.l1 kq x24_1 x6_2 t303 (t303.length : Int) x24_1 t293 t296 t297 t298 t299 t302 t303 t306 t309 ((rd_T61 t303 x24_1).f0) ((rd_T61 t303 x24_1).f1) ((rd_T61 t303 x24_1).f2) ((rd_T61 t303 x24_1).f3) ((rd_T61 t303 x24_1).f4) = some r) ∧ Aside0 (kq ≤ k1) ∧ Aside0 (Kd.R k61 61 w' w.heap.size (fun k_ => k_ ≠ gb315) (.slice (some ad314) t303.length co11) t303) ∧ Aside0 (Kd.R k102 102 w' w.heap.size (fun _ => True) (.slice Ao8 t293.length co8) t293) ∧ Aside0 (Kd.R (Kd.int .i64) 3 w' w.heap.size (fun k_ => some k_ ≠ ((.slice Ao12 t306.length co12) : Value).ownBlock ∧ some k_ ≠ ((.slice Ao13 t309.length co13) : Value).ownBlock) (.slice Ao10 t299.length co10) t299) ∧ Aside0 (Kd.R k61 61 w' w.heap.size (fun k_ => k_ ≠ gb315) (.slice (some ad314) t303.length co11) t303) ∧ Aside0 (Kd.R (Kd.int .i64) 3 w' w.heap.size (fun k_ => some k_ ≠ ((.slice Ao10 t299.length co10) : Value).ownBlock ∧ some k_ ≠ ((.slice Ao13 t309.length co13) : Value).ownBlock) (.slice Ao12 t306.length co12) t306) ∧ Aside0 (Kd.R (Kd.int .i64) 3 w' w.heap.size (fun k_ => some k_ ≠ ((.slice Ao10 t299.length co10) : Value).ownBlock ∧ some k_ ≠ ((.slice Ao12 t306.length co12) : Value).ownBlock) (.slice Ao13 t309.length co13) t309) ∧ Aside0 (w'.heap[gb312]? = some (.cells #[(.slice Ao8 t293.length co8), .int .i64 t296, .int .i64 t297, .int .i64 t298, (.slice Ao10 t299.length co10), .bool t302, (.slice (some ad314) t303.length co11), (.slice Ao12 t306.length co12), (.slice Ao13 t309.length co13)] 68 (0, 0))) ∧ Aside0 (w'.heap[gb315]? = some (.cells #[.int .i64 ((rd_T61 t303 x24_1).f0), .int .i64 ((rd_T61 t303 x24_1).f1), .int .i64 ((rd_T61 t303 x24_1).f2), .int .i64 ((rd_T61 t303 x24_1).f3), .int .i64 ((rd_T61 t303 x24_1).f4)] 61 (0, 0))) ∧ Aside0 (Below w.heap.size w w'))
                case atStart => exact ⟨(1), (by first | rfl | (simp; done) | (simp [*]; done)), H', ⟨Nat.le_refl _⟩, ⟨by (with_reducible repeat (first | apply Kd.R_alloc | apply Kd.R_drewN | apply Kd.R_drew)); exact Kd.R_mono (Kd.R_far (p := ⟨gb315, 4, none⟩) (Kd.R_far (p := ⟨gb315, 3, none⟩) (Kd.R_far (p := ⟨gb315, 2, none⟩) (Kd.R_far (p := ⟨gb315, 1, none⟩) (Kd.R_far (p := ⟨gb315, 0, none⟩) (Kd.R_mono HO_22.out (fun k_ hk => (⟨hk, hk.2⟩ : _ ∧ k_ ≠ gb315))) (fun _ hk => hk.2) (.int .i64 ((rd_T61 t303 x24_1).f0))) (fun _ hk => hk.2) (.int .i64 ((rd_T61 t303 x24_1).f1))) (fun _ hk => hk.2) (.int .i64 ((rd_T61 t303 x24_1).f2))) (fun _ hk => hk.2) (.int .i64 ((rd_T61 t303 x24_1).f3))) (fun _ hk => hk.2) (.int .i64 ((rd_T61 t303 x24_1).f4))) (fun _ hk => hk.1.2)⟩, ⟨by (with_reducible repeat (first | apply Kd.R_alloc | apply Kd.R_drewN | apply Kd.R_drew)); exact Kd.R_mono (Kd.R_far (p := ⟨gb315, 4, none⟩) (Kd.R_far (p := ⟨gb315, 3, none⟩) (Kd.R_far (p := ⟨gb315, 2, none⟩) (Kd.R_far (p := ⟨gb315, 1, none⟩) (Kd.R_far (p := ⟨gb315, 0, none⟩) (Kd.R_types HO_313000.out BK315.out (by decide)) (fun _ hk => hk.2) (.int .i64 ((rd_T61 t303 x24_1).f0))) (fun _ hk => hk.2) (.int .i64 ((rd_T61 t303 x24_1).f1))) (fun _ hk => hk.2) (.int .i64 ((rd_T61 t303 x24_1).f2))) (fun _ hk => hk.2) (.int .i64 ((rd_T61 t303 x24_1).f3))) (fun _ hk => hk.2) (.int .i64 ((rd_T61 t303 x24_1).f4))) (fun _ hk => trivial)⟩, ⟨by (with_reducible repeat (first | apply Kd.R_alloc | apply Kd.R_drewN | apply Kd.R_drew)); exact Kd.R_mono (Kd.R_far (p := ⟨gb315, 4, none⟩) (Kd.R_far (p := ⟨gb315, 3, none⟩) (Kd.R_far (p := ⟨gb315, 2, none⟩) (Kd.R_far (p := ⟨gb315, 1, none⟩) (Kd.R_far (p := ⟨gb315, 0, none⟩) (Kd.R_types HO_313004.out BK315.out (by decide)) (fun _ hk => hk.2) (.int .i64 ((rd_T61 t303 x24_1).f0))) (fun _ hk => hk.2) (.int .i64 ((rd_T61 t303 x24_1).f1))) (fun _ hk => hk.2) (.int .i64 ((rd_T61 t303 x24_1).f2))) (fun _ hk => hk.2) (.int .i64 ((rd_T61 t303 x24_1).f3))) (fun _ hk => hk.2) (.int .i64 ((rd_T61 t303 x24_1).f4))) (fun _ hk => ⟨hk.1.1, hk.1.2⟩)⟩, ⟨by (with_reducible repeat (first | apply Kd.R_alloc | apply Kd.R_drewN | apply Kd.R_drew)); exact Kd.R_mono (Kd.R_far (p := ⟨gb315, 4, none⟩) (Kd.R_far (p := ⟨gb315, 3, none⟩) (Kd.R_far (p := ⟨gb315, 2, none⟩) (Kd.R_far (p := ⟨gb315, 1, none⟩) (Kd.R_far (p := ⟨gb315, 0, none⟩) (Kd.R_mono HO_313006.out (fun k_ hk => (⟨hk, hk.2⟩ : _ ∧ k_ ≠ gb315))) (fun _ hk => hk.2) (.int .i64 ((rd_T61 t303 x24_1).f0))) (fun _ hk => hk.2) (.int .i64 ((rd_T61 t303 x24_1).f1))) (fun _ hk => hk.2) (.int .i64 ((rd_T61 t303 x24_1).f2))) (fun _ hk => hk.2) (.int .i64 ((rd_T61 t303 x24_1).f3))) (fun _ hk => hk.2) (.int .i64 ((rd_T61 t303 x24_1).f4))) (fun _ hk => hk.1.2)⟩, ⟨by (with_reducible repeat (first | apply Kd.R_alloc | apply Kd.R_drewN | apply Kd.R_drew)); exact Kd.R_mono (Kd.R_far (p := ⟨gb315, 4, none⟩) (Kd.R_far (p := ⟨gb315, 3, none⟩) (Kd.R_far (p := ⟨gb315, 2, none⟩) (Kd.R_far (p := ⟨gb315, 1, none⟩) (Kd.R_far (p := ⟨gb315, 0, none⟩) (Kd.R_types HO_313007.out BK315.out (by decide)) (fun _ hk => hk.2) (.int .i64 ((rd_T61 t303 x24_1).f0))) (fun _ hk => hk.2) (.int .i64 ((rd_T61 t303 x24_1).f1))) (fun _ hk => hk.2) (.int .i64 ((rd_T61 t303 x24_1).f2))) (fun _ hk => hk.2) (.int .i64 ((rd_T61 t303 x24_1).f3))) (fun _ hk => hk.2) (.int .i64 ((rd_T61 t303 x24_1).f4))) (fun _ hk => ⟨hk.1.1, hk.1.2⟩)⟩, ⟨by (with_reducible repeat (first | apply Kd.R_alloc | apply Kd.R_drewN | apply Kd.R_drew)); exact Kd.R_mono (Kd.R_far (p := ⟨gb315, 4, none⟩) (Kd.R_far (p := ⟨gb315, 3, none⟩) (Kd.R_far (p := ⟨gb315, 2, none⟩) (Kd.R_far (p := ⟨gb315, 1, none⟩) (Kd.R_far (p := ⟨gb315, 0, none⟩) (Kd.R_types HO_313008.out BK315.out (by decide)) (fun _ hk => hk.2) (.int .i64 ((rd_T61 t303 x24_1).f0))) (fun _ hk => hk.2) (.int .i64 ((rd_T61 t303 x24_1).f1))) (fun _ hk => hk.2) (.int .i64 ((rd_T61 t303 x24_1).f2))) (fun _ hk => hk.2) (.int .i64 ((rd_T61 t303 x24_1).f3))) (fun _ hk => hk.2) (.int .i64 ((rd_T61 t303 x24_1).f4))) (fun _ hk => ⟨hk.1.1, hk.1.2⟩)⟩, ⟨by (with_reducible repeat (first | refine blk_drewN ?_ _ | refine blk_drew ?_ | refine blk_alloc ?_ _)); refine blk_far ?_ NB312_315.out _; (with_reducible repeat (first | refine blk_drewN ?_ _ | refine blk_drew ?_ | refine blk_alloc ?_ _)); refine blk_far ?_ NB312_315.out _; (with_reducible repeat (first | refine blk_drewN ?_ _ | refine blk_drew ?_ | refine blk_alloc ?_ _)); refine blk_far ?_ NB312_315.out _; (with_reducible repeat (first | refine blk_drewN ?_ _ | refine blk_drew ?_ | refine blk_alloc ?_ _)); refine blk_far ?_ NB312_315.out _; (with_reducible repeat (first | refine blk_drewN ?_ _ | refine blk_drew ?_ | refine blk_alloc ?_ _)); refine blk_far ?_ NB312_315.out _; (with_reducible repeat (first | refine blk_drewN ?_ _ | refine blk_drew ?_ | refine blk_alloc ?_ _)); exact BK312.out⟩, ⟨by (with_reducible repeat (first | refine blk_drewN ?_ _ | refine blk_drew ?_ | refine blk_alloc ?_ _)); refine blk_put (cs := #[.int .i64 ((rd_T61 t303 x24_1).f0), .int .i64 ((rd_T61 t303 x24_1).f1), .int .i64 ((rd_T61 t303 x24_1).f2), .int .i64 ((rd_T61 t303 x24_1).f3), .int .i64 0]) ?_ 4 _ rfl; (with_reducible repeat (first | refine blk_drewN ?_ _ | refine blk_drew ?_ | refine blk_alloc ?_ _)); refine blk_put (cs := #[.int .i64 ((rd_T61 t303 x24_1).f0), .int .i64 ((rd_T61 t303 x24_1).f1), .int .i64 ((rd_T61 t303 x24_1).f2), .int .i64 0, .int .i64 0]) ?_ 3 _ rfl; (with_reducible repeat (first | refine blk_drewN ?_ _ | refine blk_drew ?_ | refine blk_alloc ?_ _)); refine blk_put (cs := #[.int .i64 ((rd_T61 t303 x24_1).f0), .int .i64 ((rd_T61 t303 x24_1).f1), .int .i64 0, .int .i64 0, .int .i64 0]) ?_ 2 _ rfl; (with_reducible repeat (first | refine blk_drewN ?_ _ | refine blk_drew ?_ | refine blk_alloc ?_ _)); refine blk_put (cs := #[.int .i64 ((rd_T61 t303 x24_1).f0), .int .i64 0, .int .i64 0, .int .i64 0, .int .i64 0]) ?_ 1 _ rfl; (with_reducible repeat (first | refine blk_drewN ?_ _ | refine blk_drew ?_ | refine blk_alloc ?_ _)); refine blk_put (cs := #[.int .i64 0, .int .i64 0, .int .i64 0, .int .i64 0, .int .i64 0]) ?_ 0 _ rfl; (with_reducible repeat (first | refine blk_drewN ?_ _ | refine blk_drew ?_ | refine blk_alloc ?_ _)); exact BK315.out⟩, ⟨by repeat (first | (with_reducible first | exact HB.out | apply below_alloc | apply pw_below_drewN | apply below_drew1 | refine below_set ?_ GE312.out | refine below_set ?_ GE315.out) | exact HB.out)⟩⟩
                case round =>
                  clear H'
                  try clear c1
                  try clear c2
                  try clear c2b0
                  try clear c2b1
                  try clear p2
                  try clear p3
                  try clear q3
                  try clear hx3
                  try clear c4
                  try clear c5
                  try clear c10
                  try clear c16
                  try clear c16b0
                  try clear c17
                  try clear c17b0
                  try clear c18
                  try clear c18b0
                  try clear c20
                  try clear hcz15_0
                  try clear hcz15_1
                  try clear hcz15_2
                  try clear hcz15_3
                  try clear hcz15_4
                  try clear hcz15_5
                  try clear hcz15_6
                  try clear hcz15_7
                  try clear hcz15_8
                  try clear hcz21_0
                  try clear hcz21_1
                  try clear hcz21_2
                  try clear hcz21_3
                  try clear hcz21_4
                  try clear hcz9_0
                  try clear hcz9_1
                  try clear hcz9_2
                  try clear hcz9_3
                  try clear hcz9_4
                  try clear hcz9_5
                  try clear hcz9_6
                  try clear hcz9_7
                  try clear hcz9_8
                  try clear hfz15_0
                  try clear hfz15_1
                  try clear hfz15_2
                  try clear hfz15_3
                  try clear hfz15_4
                  try clear hfz15_5
                  try clear hfz15_6
                  try clear hfz15_7
                  try clear hfz15_8
                  try clear hfz21_0
                  try clear hfz21_1
                  try clear hfz21_2
                  try clear hfz21_3
                  try clear hfz21_4
                  try clear hfz9_0
                  try clear hfz9_1
                  try clear hfz9_2
                  try clear hfz9_3
                  try clear hfz9_4
                  try clear hfz9_5
                  try clear hfz9_6
                  try clear hfz9_7
                  try clear hfz9_8
                  try clear hx314_0
                  try clear hx314_1
                  try clear hx314_2
                  try clear hx314_3
                  try clear hx314_4
                  try clear p2
                  try clear p314
                  try clear q314
                  obtain ⟨x6_2, rfl, HA, HK2, HO_22, HO_313000, HO_313004, HO_313006, HO_313007, HO_313008, BK312, BK315, HB⟩ := hrel
                  cases gk with
                  | zero => exact absurd HA.out (by simp [laws_FnGames.l1])
                  | succ k2 =>
                    have H := HA.out
                    clear HA
                    simp only [laws_FnGames.l1] at H
                    by_cases c22 : x6_2 ≤ 3
                    · rw [if_pos c22] at H
                      have c22b0 : decide (x6_2 ≤ 3) = true := decide_eq_true c22
                      clear c22
                      replace H := Option.bind_eq_some_iff.mp H
                      obtain ⟨⟨t316, t317, t318, t319, t320⟩, A230, H⟩ := H
                      replace H : ((impl_OutcomeOf.f t316 t317 t318 t319 t320).bind fun t322 => (if t322 = x6_2 then ((impl_GameOk.f k2 (t293.length : Int) t316 t317 t318 t319 t320).bind fun t323 => (if t323 = true then ((impl_IsOpen.f t316 t317 t318 t319 t320).bind fun t324 => (if t324 = true then (some false) else (if t316 = ((rd_T61 t303 x24_1).f0) then (if t317 = ((rd_T61 t303 x24_1).f1) then (laws_FnGames.l1 k2 x24_1 (wrap64 (x6_2 + 1)) t303 (t303.length : Int) x24_1 t293 t296 t297 t298 t299 t302 t303 t306 t309 ((rd_T61 t303 x24_1).f0) ((rd_T61 t303 x24_1).f1) ((rd_T61 t303 x24_1).f2) ((rd_T61 t303 x24_1).f3) ((rd_T61 t303 x24_1).f4)) else (some false)) else (some false)))) else (some false))) else (some false))) = some r := H
                      have A23 := Aside0.mk A230
                      clear A230
                      replace H := Option.bind_eq_some_iff.mp H
                      obtain ⟨t322, A240, H⟩ := H
                      replace H : (if t322 = x6_2 then ((impl_GameOk.f k2 (t293.length : Int) t316 t317 t318 t319 t320).bind fun t323 => (if t323 = true then ((impl_IsOpen.f t316 t317 t318 t319 t320).bind fun t324 => (if t324 = true then (some false) else (if t316 = ((rd_T61 t303 x24_1).f0) then (if t317 = ((rd_T61 t303 x24_1).f1) then (laws_FnGames.l1 k2 x24_1 (wrap64 (x6_2 + 1)) t303 (t303.length : Int) x24_1 t293 t296 t297 t298 t299 t302 t303 t306 t309 ((rd_T61 t303 x24_1).f0) ((rd_T61 t303 x24_1).f1) ((rd_T61 t303 x24_1).f2) ((rd_T61 t303 x24_1).f3) ((rd_T61 t303 x24_1).f4)) else (some false)) else (some false)))) else (some false))) else (some false)) = some r := H
                      have A24 := Aside0.mk A240
                      clear A240
                      by_cases c25 : t322 = x6_2
                      · rw [if_pos c25] at H
                        have c25b0 : (t322 == x6_2) = true := beq_iff_eq.mpr c25
                        have c25b1 : (t322 != x6_2) = false := bne_eq_false_iff_eq.mpr c25
                        clear c25
                        replace H := Option.bind_eq_some_iff.mp H
                        obtain ⟨t323, A260, H⟩ := H
                        replace H : (if t323 = true then ((impl_IsOpen.f t316 t317 t318 t319 t320).bind fun t324 => (if t324 = true then (some false) else (if t316 = ((rd_T61 t303 x24_1).f0) then (if t317 = ((rd_T61 t303 x24_1).f1) then (laws_FnGames.l1 k2 x24_1 (wrap64 (x6_2 + 1)) t303 (t303.length : Int) x24_1 t293 t296 t297 t298 t299 t302 t303 t306 t309 ((rd_T61 t303 x24_1).f0) ((rd_T61 t303 x24_1).f1) ((rd_T61 t303 x24_1).f2) ((rd_T61 t303 x24_1).f3) ((rd_T61 t303 x24_1).f4)) else (some false)) else (some false)))) else (some false)) = some r := H
                        have A26 := Aside0.mk A260
                        clear A260
                        by_cases c27 : t323 = true
                        · subst c27
                          have H1 : ((impl_IsOpen.f t316 t317 t318 t319 t320).bind fun t324 => (if t324 = true then (some false) else (if t316 = ((rd_T61 t303 x24_1).f0) then (if t317 = ((rd_T61 t303 x24_1).f1) then (laws_FnGames.l1 k2 x24_1 (wrap64 (x6_2 + 1)) t303 (t303.length : Int) x24_1 t293 t296 t297 t298 t299 t302 t303 t306 t309 ((rd_T61 t303 x24_1).f0) ((rd_T61 t303 x24_1).f1) ((rd_T61 t303 x24_1).f2) ((rd_T61 t303 x24_1).f3) ((rd_T61 t303 x24_1).f4)) else (some false)) else (some false)))) = some r := by rw [if_pos rfl] at H; exact H
                          clear H
                          have H := H1
                          clear H1
                          replace H := Option.bind_eq_some_iff.mp H
                          obtain ⟨t324, A280, H⟩ := H
                          replace H : (if t324 = true then (some false) else (if t316 = ((rd_T61 t303 x24_1).f0) then (if t317 = ((rd_T61 t303 x24_1).f1) then (laws_FnGames.l1 k2 x24_1 (wrap64 (x6_2 + 1)) t303 (t303.length : Int) x24_1 t293 t296 t297 t298 t299 t302 t303 t306 t309 ((rd_T61 t303 x24_1).f0) ((rd_T61 t303 x24_1).f1) ((rd_T61 t303 x24_1).f2) ((rd_T61 t303 x24_1).f3) ((rd_T61 t303 x24_1).f4)) else (some false)) else (some false))) = some r := H
                          have A28 := Aside0.mk A280
                          clear A280
                          by_cases c29 : t324 = true
                          · subst c29
                            have H1 : (some false) = some r := by rw [if_pos rfl] at H; exact H
                            clear H
                            have H := H1
                            clear H1
                            exact absurd ((Option.some.inj H).trans HR_.out) (by decide)
                          · replace c29 := Bool.eq_false_iff.mpr c29
                            subst c29
                            have H1 : (if t316 = ((rd_T61 t303 x24_1).f0) then (if t317 = ((rd_T61 t303 x24_1).f1) then (laws_FnGames.l1 k2 x24_1 (wrap64 (x6_2 + 1)) t303 (t303.length : Int) x24_1 t293 t296 t297 t298 t299 t302 t303 t306 t309 ((rd_T61 t303 x24_1).f0) ((rd_T61 t303 x24_1).f1) ((rd_T61 t303 x24_1).f2) ((rd_T61 t303 x24_1).f3) ((rd_T61 t303 x24_1).f4)) else (some false)) else (some false)) = some r := by rw [if_neg (show ¬ (false = true) by decide)] at H; exact H
                            clear H
                            have H := H1
                            clear H1
                            by_cases c30 : t316 = ((rd_T61 t303 x24_1).f0)
                            · rw [if_pos c30] at H
                              have c30b0 : (t316 == ((rd_T61 t303 x24_1).f0)) = true := beq_iff_eq.mpr c30
                              have c30b1 : (t316 != ((rd_T61 t303 x24_1).f0)) = false := bne_eq_false_iff_eq.mpr c30
                              clear c30
                              by_cases c31 : t317 = ((rd_T61 t303 x24_1).f1)
                              · rw [if_pos c31] at H
                                have c31b0 : (t317 == ((rd_T61 t303 x24_1).f1)) = true := beq_iff_eq.mpr c31
                                have c31b1 : (t317 != ((rd_T61 t303 x24_1).f1)) = false := bne_eq_false_iff_eq.mpr c31
                                clear c31
                                have H' := Aside0.mk H
                                clear H
                                have hnb32 := NB315_312.out
                                have hnc32 := NB312_315.out
                                have hcz33_0 : wr.cell? ⟨gb315, 0, none⟩ = some (.int .i64 ((rd_T61 t303 x24_1).f0)) := (blk_cell BK315.out 0).trans rfl
                                have hcz33_1 : wr.cell? ⟨gb315, 1, none⟩ = some (.int .i64 ((rd_T61 t303 x24_1).f1)) := (blk_cell BK315.out 1).trans rfl
                                have hcz33_2 : wr.cell? ⟨gb315, 2, none⟩ = some (.int .i64 ((rd_T61 t303 x24_1).f2)) := (blk_cell BK315.out 2).trans rfl
                                have hcz33_3 : wr.cell? ⟨gb315, 3, none⟩ = some (.int .i64 ((rd_T61 t303 x24_1).f3)) := (blk_cell BK315.out 3).trans rfl
                                have hcz33_4 : wr.cell? ⟨gb315, 4, none⟩ = some (.int .i64 ((rd_T61 t303 x24_1).f4)) := (blk_cell BK315.out 4).trans rfl
                                have hfz33_0 := blk_frozen BK315.out 0
                                have hfz33_1 := blk_frozen BK315.out 1
                                have hfz33_2 := blk_frozen BK315.out 2
                                have hfz33_3 := blk_frozen BK315.out 3
                                have hfz33_4 := blk_frozen BK315.out 4
                                go_wp2_with (first | ((with_reducible refine gate_callee (f := 50) rfl ?_); refine goesL_ (some 35) rfl rfl Try.func50 (by kernel_rfl) rfl #[.agg #[.int .i64 ((rd_T61 t303 x24_1).f0), .int .i64 ((rd_T61 t303 x24_1).f1), .int .i64 ((rd_T61 t303 x24_1).f2), .int .i64 ((rd_T61 t303 x24_1).f3), .int .i64 ((rd_T61 t303 x24_1).f4)], .int .i64 x6_2] rfl (by (try simp only [List.map_toArray, List.map_cons, List.map_nil]); first | done | rfl | (simp only [List.length_drop, List.length_take]; rfl)) ?_; (with_reducible refine (impl_PlayGame.calls ((rd_T61 t303 x24_1).f0) ((rd_T61 t303 x24_1).f1) ((rd_T61 t303 x24_1).f2) ((rd_T61 t303 x24_1).f3) ((rd_T61 t303 x24_1).f4) x6_2 t316 t317 t318 t319 t320 _ A23.out).mono ?_); rintro e w34 ⟨rfl, hb⟩; refine ⟨_, rfl, ?_⟩; have n0_ := Aside0.mk (Kd.R_below (by (with_reducible repeat (first | apply Kd.R_alloc | apply Kd.R_drewN | apply Kd.R_drew)); exact HO_22.out) hb); have n1_ := Aside0.mk (Kd.R_below (by (with_reducible repeat (first | apply Kd.R_alloc | apply Kd.R_drewN | apply Kd.R_drew)); exact HO_313000.out) hb); have n2_ := Aside0.mk (Kd.R_below (by (with_reducible repeat (first | apply Kd.R_alloc | apply Kd.R_drewN | apply Kd.R_drew)); exact HO_313004.out) hb); have n3_ := Aside0.mk (Kd.R_below (by (with_reducible repeat (first | apply Kd.R_alloc | apply Kd.R_drewN | apply Kd.R_drew)); exact HO_313006.out) hb); have n4_ := Aside0.mk (Kd.R_below (by (with_reducible repeat (first | apply Kd.R_alloc | apply Kd.R_drewN | apply Kd.R_drew)); exact HO_313007.out) hb); have n5_ := Aside0.mk (Kd.R_below (by (with_reducible repeat (first | apply Kd.R_alloc | apply Kd.R_drewN | apply Kd.R_drew)); exact HO_313008.out) hb); have n6_ := Aside0.mk (blk_below (g := gb312) (o := .cells #[.slice Ao8 t293.length co8, .int .i64 t296, .int .i64 t297, .int .i64 t298, .slice Ao10 t299.length co10, .bool t302, .slice (some ad314) t303.length co11, .slice Ao12 t306.length co12, .slice Ao13 t309.length co13] 68 (0, 0)) (by (with_reducible repeat (first | refine blk_drewN ?_ _ | refine blk_drew ?_ | refine blk_alloc ?_ _)); exact BK312.out) hb); have n7_ := Aside0.mk (blk_below (g := gb315) (o := .cells #[.int .i64 ((rd_T61 t303 x24_1).f0), .int .i64 ((rd_T61 t303 x24_1).f1), .int .i64 ((rd_T61 t303 x24_1).f2), .int .i64 ((rd_T61 t303 x24_1).f3), .int .i64 ((rd_T61 t303 x24_1).f4)] 61 (0, 0)) (by (with_reducible repeat (first | refine blk_drewN ?_ _ | refine blk_drew ?_ | refine blk_alloc ?_ _)); exact BK315.out) hb); have n8_ := Aside0.mk (below_step (by repeat (first | (with_reducible first | exact HB.out | apply below_alloc | apply pw_below_drewN | apply below_drew1 | refine below_set ?_ GE312.out | refine below_set ?_ GE315.out) | exact HB.out)) hb); clear HO_22; clear HO_313000; clear HO_313004; clear HO_313006; clear HO_313007; clear HO_313008; clear BK312; clear BK315; clear HB; have HO_22 := n0_; have HO_313000 := n1_; have HO_313004 := n2_; have HO_313006 := n3_; have HO_313007 := n4_; have HO_313008 := n5_; have BK312 := n6_; have BK315 := n7_; have HB := n8_; clear n0_ n1_ n2_ n3_ n4_ n5_ n6_ n7_ n8_; (try clear hb); (try clear hb2); (try clear hk); (try clear hi)) | ((with_reducible refine gate_dst (N := 7) rfl ?_); (try (refine gate_guard (by rfl) ?_; dsimp only)); refine box_event ?hg (N := 7) ?hd (cs := #[.int .i64 0, .int .i64 0, .int .i64 0, .int .i64 0, .int .i64 0]) (t := 61) ?hr ?_; (case hd => rfl); (case hg => rfl); (case hr => first | (go_simp; done) | (go_simp; rfl)); intro gb321 hg w35 hbox hb; have n0_ := Aside0.mk (Kd.R_below (Kd.R_elderB (by (with_reducible repeat (first | apply Kd.R_alloc | apply Kd.R_drewN | apply Kd.R_drew)); exact HO_22.out) gb321 (Nat.le_of_eq hg.symm)) hb); have n1_ := Aside0.mk (Kd.R_below (by (with_reducible repeat (first | apply Kd.R_alloc | apply Kd.R_drewN | apply Kd.R_drew)); exact HO_313000.out) hb); have n2_ := Aside0.mk (Kd.R_below (by (with_reducible repeat (first | apply Kd.R_alloc | apply Kd.R_drewN | apply Kd.R_drew)); exact HO_313004.out) hb); have n3_ := Aside0.mk (Kd.R_below (Kd.R_elderB (by (with_reducible repeat (first | apply Kd.R_alloc | apply Kd.R_drewN | apply Kd.R_drew)); exact HO_313006.out) gb321 (Nat.le_of_eq hg.symm)) hb); have n4_ := Aside0.mk (Kd.R_below (by (with_reducible repeat (first | apply Kd.R_alloc | apply Kd.R_drewN | apply Kd.R_drew)); exact HO_313007.out) hb); have n5_ := Aside0.mk (Kd.R_below (by (with_reducible repeat (first | apply Kd.R_alloc | apply Kd.R_drewN | apply Kd.R_drew)); exact HO_313008.out) hb); have n6_ := Aside0.mk (blk_below (g := gb312) (o := .cells #[.slice Ao8 t293.length co8, .int .i64 t296, .int .i64 t297, .int .i64 t298, .slice Ao10 t299.length co10, .bool t302, .slice (some ad314) t303.length co11, .slice Ao12 t306.length co12, .slice Ao13 t309.length co13] 68 (0, 0)) (by (with_reducible repeat (first | refine blk_drewN ?_ _ | refine blk_drew ?_ | refine blk_alloc ?_ _)); exact BK312.out) hb); have n7_ := Aside0.mk (blk_below (g := gb315) (o := .cells #[.int .i64 ((rd_T61 t303 x24_1).f0), .int .i64 ((rd_T61 t303 x24_1).f1), .int .i64 ((rd_T61 t303 x24_1).f2), .int .i64 ((rd_T61 t303 x24_1).f3), .int .i64 ((rd_T61 t303 x24_1).f4)] 61 (0, 0)) (by (with_reducible repeat (first | refine blk_drewN ?_ _ | refine blk_drew ?_ | refine blk_alloc ?_ _)); exact BK315.out) hb); have n8_ := Aside0.mk (below_step (by repeat (first | (with_reducible first | exact HB.out | apply below_alloc | apply pw_below_drewN | apply below_drew1 | refine below_set ?_ GE312.out | refine below_set ?_ GE315.out) | exact HB.out)) hb); have n9_ := Aside0.mk (hbox); have n10_ := Aside0.mk ((by rw [hg]; exact (below_size (by repeat (first | (with_reducible first | exact HB.out | apply below_alloc | apply pw_below_drewN | apply below_drew1 | refine below_set ?_ GE312.out | refine below_set ?_ GE315.out) | exact HB.out))) : w.heap.size ≤ gb321)); have n11_ := Aside0.mk ((by rw [hg]; exact (below_size (by repeat (first | (with_reducible first | exact HB.out | apply below_alloc | apply pw_below_drewN | apply below_drew1 | refine below_set ?_ GE312.out | refine below_set ?_ GE315.out) | exact HB.out))) : w.heap.size ≤ gb321)); have n12_ := Aside0.mk ((by rw [hg]; exact Nat.ne_of_lt (blk_lt (g := gb312) (o := .cells #[.slice Ao8 t293.length co8, .int .i64 t296, .int .i64 t297, .int .i64 t298, .slice Ao10 t299.length co10, .bool t302, .slice (some ad314) t303.length co11, .slice Ao12 t306.length co12, .slice Ao13 t309.length co13] 68 (0, 0)) (by (with_reducible repeat (first | refine blk_drewN ?_ _ | refine blk_drew ?_ | refine blk_alloc ?_ _)); exact BK312.out)) : gb312 ≠ gb321)); have n13_ := Aside0.mk ((by rw [hg]; exact Nat.ne_of_gt (blk_lt (g := gb312) (o := .cells #[.slice Ao8 t293.length co8, .int .i64 t296, .int .i64 t297, .int .i64 t298, .slice Ao10 t299.length co10, .bool t302, .slice (some ad314) t303.length co11, .slice Ao12 t306.length co12, .slice Ao13 t309.length co13] 68 (0, 0)) (by (with_reducible repeat (first | refine blk_drewN ?_ _ | refine blk_drew ?_ | refine blk_alloc ?_ _)); exact BK312.out)) : gb321 ≠ gb312)); have n14_ := Aside0.mk ((by rw [hg]; exact Nat.ne_of_lt (blk_lt (g := gb315) (o := .cells #[.int .i64 ((rd_T61 t303 x24_1).f0), .int .i64 ((rd_T61 t303 x24_1).f1), .int .i64 ((rd_T61 t303 x24_1).f2), .int .i64 ((rd_T61 t303 x24_1).f3), .int .i64 ((rd_T61 t303 x24_1).f4)] 61 (0, 0)) (by (with_reducible repeat (first | refine blk_drewN ?_ _ | refine blk_drew ?_ | refine blk_alloc ?_ _)); exact BK315.out)) : gb315 ≠ gb321)); have n15_ := Aside0.mk ((by rw [hg]; exact Nat.ne_of_gt (blk_lt (g := gb315) (o := .cells #[.int .i64 ((rd_T61 t303 x24_1).f0), .int .i64 ((rd_T61 t303 x24_1).f1), .int .i64 ((rd_T61 t303 x24_1).f2), .int .i64 ((rd_T61 t303 x24_1).f3), .int .i64 ((rd_T61 t303 x24_1).f4)] 61 (0, 0)) (by (with_reducible repeat (first | refine blk_drewN ?_ _ | refine blk_drew ?_ | refine blk_alloc ?_ _)); exact BK315.out)) : gb321 ≠ gb315)); clear HO_22; clear HO_313000; clear HO_313004; clear HO_313006; clear HO_313007; clear HO_313008; clear BK312; clear BK315; clear HB; have HO_22 := n0_; have HO_313000 := n1_; have HO_313004 := n2_; have HO_313006 := n3_; have HO_313007 := n4_; have HO_313008 := n5_; have BK312 := n6_; have BK315 := n7_; have HB := n8_; have BK321 := n9_; have GW321 := n10_; have GE321 := n11_; have NB312_321 := n12_; have NB321_312 := n13_; have NB315_321 := n14_; have NB321_315 := n15_; clear n0_ n1_ n2_ n3_ n4_ n5_ n6_ n7_ n8_ n9_ n10_ n11_ n12_ n13_ n14_ n15_; clear hb hbox hg; have hnb36 := NB321_312.out; have hnc36 := NB312_321.out; have hnb37 := NB321_315.out; have hnc37 := NB315_321.out; have hcz38_0 : w35.cell? ⟨gb321, 0, none⟩ = some (.int .i64 0) := (blk_cell BK321.out 0).trans rfl; have hcz38_1 : w35.cell? ⟨gb321, 1, none⟩ = some (.int .i64 0) := (blk_cell BK321.out 1).trans rfl; have hcz38_2 : w35.cell? ⟨gb321, 2, none⟩ = some (.int .i64 0) := (blk_cell BK321.out 2).trans rfl; have hcz38_3 : w35.cell? ⟨gb321, 3, none⟩ = some (.int .i64 0) := (blk_cell BK321.out 3).trans rfl; have hcz38_4 : w35.cell? ⟨gb321, 4, none⟩ = some (.int .i64 0) := (blk_cell BK321.out 4).trans rfl; have hfz38_0 := blk_frozen BK321.out 0; have hfz38_1 := blk_frozen BK321.out 1; have hfz38_2 := blk_frozen BK321.out 2; have hfz38_3 := blk_frozen BK321.out 3; have hfz38_4 := blk_frozen BK321.out 4) | ((with_reducible refine gate_callee (f := 51) rfl ?_); refine goesL_ (some 37) rfl rfl Try.func51 (by kernel_rfl) rfl #[.agg #[.int .i64 t316, .int .i64 t317, .int .i64 t318, .int .i64 t319, .int .i64 t320]] rfl (by (try simp only [List.map_toArray, List.map_cons, List.map_nil]); first | done | rfl | (simp only [List.length_drop, List.length_take]; rfl)) ?_; (with_reducible refine (impl_OutcomeOf.calls t316 t317 t318 t319 t320 t322 _ A24.out).mono ?_); rintro e w39 ⟨rfl, hb⟩; refine ⟨_, rfl, ?_⟩; have n0_ := Aside0.mk (Kd.R_below (by (with_reducible repeat (first | apply Kd.R_alloc | apply Kd.R_drewN | apply Kd.R_drew)); exact (Kd.R_mono (Kd.R_far (p := ⟨gb321, 4, none⟩) (Kd.R_far (p := ⟨gb321, 3, none⟩) (Kd.R_far (p := ⟨gb321, 2, none⟩) (Kd.R_far (p := ⟨gb321, 1, none⟩) (Kd.R_far (p := ⟨gb321, 0, none⟩) (Kd.R_mono HO_22.out (fun k_ hk => (⟨hk, hk.2⟩ : _ ∧ k_ ≠ gb321))) (fun _ hk => hk.2) (.int .i64 t316)) (fun _ hk => hk.2) (.int .i64 t317)) (fun _ hk => hk.2) (.int .i64 t318)) (fun _ hk => hk.2) (.int .i64 t319)) (fun _ hk => hk.2) (.int .i64 t320)) (fun _ h_ => h_.1))) hb); have n1_ := Aside0.mk (Kd.R_below (by (with_reducible repeat (first | apply Kd.R_alloc | apply Kd.R_drewN | apply Kd.R_drew)); exact (Kd.R_mono (Kd.R_far (p := ⟨gb321, 4, none⟩) (Kd.R_far (p := ⟨gb321, 3, none⟩) (Kd.R_far (p := ⟨gb321, 2, none⟩) (Kd.R_far (p := ⟨gb321, 1, none⟩) (Kd.R_far (p := ⟨gb321, 0, none⟩) (Kd.R_types HO_313000.out BK321.out (by decide)) (fun _ hk => hk.2) (.int .i64 t316)) (fun _ hk => hk.2) (.int .i64 t317)) (fun _ hk => hk.2) (.int .i64 t318)) (fun _ hk => hk.2) (.int .i64 t319)) (fun _ hk => hk.2) (.int .i64 t320)) (fun _ h_ => h_.1))) hb); have n2_ := Aside0.mk (Kd.R_below (by (with_reducible repeat (first | apply Kd.R_alloc | apply Kd.R_drewN | apply Kd.R_drew)); exact (Kd.R_mono (Kd.R_far (p := ⟨gb321, 4, none⟩) (Kd.R_far (p := ⟨gb321, 3, none⟩) (Kd.R_far (p := ⟨gb321, 2, none⟩) (Kd.R_far (p := ⟨gb321, 1, none⟩) (Kd.R_far (p := ⟨gb321, 0, none⟩) (Kd.R_types HO_313004.out BK321.out (by decide)) (fun _ hk => hk.2) (.int .i64 t316)) (fun _ hk => hk.2) (.int .i64 t317)) (fun _ hk => hk.2) (.int .i64 t318)) (fun _ hk => hk.2) (.int .i64 t319)) (fun _ hk => hk.2) (.int .i64 t320)) (fun _ h_ => h_.1))) hb); have n3_ := Aside0.mk (Kd.R_below (by (with_reducible repeat (first | apply Kd.R_alloc | apply Kd.R_drewN | apply Kd.R_drew)); exact (Kd.R_mono (Kd.R_far (p := ⟨gb321, 4, none⟩) (Kd.R_far (p := ⟨gb321, 3, none⟩) (Kd.R_far (p := ⟨gb321, 2, none⟩) (Kd.R_far (p := ⟨gb321, 1, none⟩) (Kd.R_far (p := ⟨gb321, 0, none⟩) (Kd.R_mono HO_313006.out (fun k_ hk => (⟨hk, hk.2⟩ : _ ∧ k_ ≠ gb321))) (fun _ hk => hk.2) (.int .i64 t316)) (fun _ hk => hk.2) (.int .i64 t317)) (fun _ hk => hk.2) (.int .i64 t318)) (fun _ hk => hk.2) (.int .i64 t319)) (fun _ hk => hk.2) (.int .i64 t320)) (fun _ h_ => h_.1))) hb); have n4_ := Aside0.mk (Kd.R_below (by (with_reducible repeat (first | apply Kd.R_alloc | apply Kd.R_drewN | apply Kd.R_drew)); exact (Kd.R_mono (Kd.R_far (p := ⟨gb321, 4, none⟩) (Kd.R_far (p := ⟨gb321, 3, none⟩) (Kd.R_far (p := ⟨gb321, 2, none⟩) (Kd.R_far (p := ⟨gb321, 1, none⟩) (Kd.R_far (p := ⟨gb321, 0, none⟩) (Kd.R_types HO_313007.out BK321.out (by decide)) (fun _ hk => hk.2) (.int .i64 t316)) (fun _ hk => hk.2) (.int .i64 t317)) (fun _ hk => hk.2) (.int .i64 t318)) (fun _ hk => hk.2) (.int .i64 t319)) (fun _ hk => hk.2) (.int .i64 t320)) (fun _ h_ => h_.1))) hb); have n5_ := Aside0.mk (Kd.R_below (by (with_reducible repeat (first | apply Kd.R_alloc | apply Kd.R_drewN | apply Kd.R_drew)); exact (Kd.R_mono (Kd.R_far (p := ⟨gb321, 4, none⟩) (Kd.R_far (p := ⟨gb321, 3, none⟩) (Kd.R_far (p := ⟨gb321, 2, none⟩) (Kd.R_far (p := ⟨gb321, 1, none⟩) (Kd.R_far (p := ⟨gb321, 0, none⟩) (Kd.R_types HO_313008.out BK321.out (by decide)) (fun _ hk => hk.2) (.int .i64 t316)) (fun _ hk => hk.2) (.int .i64 t317)) (fun _ hk => hk.2) (.int .i64 t318)) (fun _ hk => hk.2) (.int .i64 t319)) (fun _ hk => hk.2) (.int .i64 t320)) (fun _ h_ => h_.1))) hb); have n6_ := Aside0.mk (blk_below (g := gb312) (o := .cells #[.slice Ao8 t293.length co8, .int .i64 t296, .int .i64 t297, .int .i64 t298, .slice Ao10 t299.length co10, .bool t302, .slice (some ad314) t303.length co11, .slice Ao12 t306.length co12, .slice Ao13 t309.length co13] 68 (0, 0)) (by (with_reducible repeat (first | refine blk_drewN ?_ _ | refine blk_drew ?_ | refine blk_alloc ?_ _)); refine blk_far ?_ NB312_321.out _; (with_reducible repeat (first | refine blk_drewN ?_ _ | refine blk_drew ?_ | refine blk_alloc ?_ _)); refine blk_far ?_ NB312_321.out _; (with_reducible repeat (first | refine blk_drewN ?_ _ | refine blk_drew ?_ | refine blk_alloc ?_ _)); refine blk_far ?_ NB312_321.out _; (with_reducible repeat (first | refine blk_drewN ?_ _ | refine blk_drew ?_ | refine blk_alloc ?_ _)); refine blk_far ?_ NB312_321.out _; (with_reducible repeat (first | refine blk_drewN ?_ _ | refine blk_drew ?_ | refine blk_alloc ?_ _)); refine blk_far ?_ NB312_321.out _; (with_reducible repeat (first | refine blk_drewN ?_ _ | refine blk_drew ?_ | refine blk_alloc ?_ _)); exact BK312.out) hb); have n7_ := Aside0.mk (blk_below (g := gb315) (o := .cells #[.int .i64 ((rd_T61 t303 x24_1).f0), .int .i64 ((rd_T61 t303 x24_1).f1), .int .i64 ((rd_T61 t303 x24_1).f2), .int .i64 ((rd_T61 t303 x24_1).f3), .int .i64 ((rd_T61 t303 x24_1).f4)] 61 (0, 0)) (by (with_reducible repeat (first | refine blk_drewN ?_ _ | refine blk_drew ?_ | refine blk_alloc ?_ _)); refine blk_far ?_ NB315_321.out _; (with_reducible repeat (first | refine blk_drewN ?_ _ | refine blk_drew ?_ | refine blk_alloc ?_ _)); refine blk_far ?_ NB315_321.out _; (with_reducible repeat (first | refine blk_drewN ?_ _ | refine blk_drew ?_ | refine blk_alloc ?_ _)); refine blk_far ?_ NB315_321.out _; (with_reducible repeat (first | refine blk_drewN ?_ _ | refine blk_drew ?_ | refine blk_alloc ?_ _)); refine blk_far ?_ NB315_321.out _; (with_reducible repeat (first | refine blk_drewN ?_ _ | refine blk_drew ?_ | refine blk_alloc ?_ _)); refine blk_far ?_ NB315_321.out _; (with_reducible repeat (first | refine blk_drewN ?_ _ | refine blk_drew ?_ | refine blk_alloc ?_ _)); exact BK315.out) hb); have n8_ := Aside0.mk (blk_below (g := gb321) (o := .cells #[.int .i64 t316, .int .i64 t317, .int .i64 t318, .int .i64 t319, .int .i64 t320] 61 (0, 0)) (by (with_reducible repeat (first | refine blk_drewN ?_ _ | refine blk_drew ?_ | refine blk_alloc ?_ _)); refine blk_put (cs := #[.int .i64 t316, .int .i64 t317, .int .i64 t318, .int .i64 t319, .int .i64 0]) ?_ 4 _ rfl; (with_reducible repeat (first | refine blk_drewN ?_ _ | refine blk_drew ?_ | refine blk_alloc ?_ _)); refine blk_put (cs := #[.int .i64 t316, .int .i64 t317, .int .i64 t318, .int .i64 0, .int .i64 0]) ?_ 3 _ rfl; (with_reducible repeat (first | refine blk_drewN ?_ _ | refine blk_drew ?_ | refine blk_alloc ?_ _)); refine blk_put (cs := #[.int .i64 t316, .int .i64 t317, .int .i64 0, .int .i64 0, .int .i64 0]) ?_ 2 _ rfl; (with_reducible repeat (first | refine blk_drewN ?_ _ | refine blk_drew ?_ | refine blk_alloc ?_ _)); refine blk_put (cs := #[.int .i64 t316, .int .i64 0, .int .i64 0, .int .i64 0, .int .i64 0]) ?_ 1 _ rfl; (with_reducible repeat (first | refine blk_drewN ?_ _ | refine blk_drew ?_ | refine blk_alloc ?_ _)); refine blk_put (cs := #[.int .i64 0, .int .i64 0, .int .i64 0, .int .i64 0, .int .i64 0]) ?_ 0 _ rfl; (with_reducible repeat (first | refine blk_drewN ?_ _ | refine blk_drew ?_ | refine blk_alloc ?_ _)); exact BK321.out) hb); have n9_ := Aside0.mk (below_step (by repeat (first | (with_reducible first | exact HB.out | apply below_alloc | apply pw_below_drewN | apply below_drew1 | refine below_set ?_ GE312.out | refine below_set ?_ GE315.out | refine below_set ?_ GE321.out) | exact HB.out)) hb); clear HO_22; clear HO_313000; clear HO_313004; clear HO_313006; clear HO_313007; clear HO_313008; clear BK312; clear BK315; clear BK321; clear HB; have HO_22 := n0_; have HO_313000 := n1_; have HO_313004 := n2_; have HO_313006 := n3_; have HO_313007 := n4_; have HO_313008 := n5_; have BK312 := n6_; have BK315 := n7_; have BK321 := n8_; have HB := n9_; clear n0_ n1_ n2_ n3_ n4_ n5_ n6_ n7_ n8_ n9_; (try clear hb); (try clear hb2); (try clear hk); (try clear hi); have hcz40_0 : w39.cell? ⟨gb312, 0, none⟩ = some (.slice Ao8 t293.length co8) := (blk_cell BK312.out 0).trans rfl; have hcz40_1 : w39.cell? ⟨gb312, 1, none⟩ = some (.int .i64 t296) := (blk_cell BK312.out 1).trans rfl; have hcz40_2 : w39.cell? ⟨gb312, 2, none⟩ = some (.int .i64 t297) := (blk_cell BK312.out 2).trans rfl; have hcz40_3 : w39.cell? ⟨gb312, 3, none⟩ = some (.int .i64 t298) := (blk_cell BK312.out 3).trans rfl; have hcz40_4 : w39.cell? ⟨gb312, 4, none⟩ = some (.slice Ao10 t299.length co10) := (blk_cell BK312.out 4).trans rfl; have hcz40_5 : w39.cell? ⟨gb312, 5, none⟩ = some (.bool t302) := (blk_cell BK312.out 5).trans rfl; have hcz40_6 : w39.cell? ⟨gb312, 6, none⟩ = some (.slice (some ad314) t303.length co11) := (blk_cell BK312.out 6).trans rfl; have hcz40_7 : w39.cell? ⟨gb312, 7, none⟩ = some (.slice Ao12 t306.length co12) := (blk_cell BK312.out 7).trans rfl; have hcz40_8 : w39.cell? ⟨gb312, 8, none⟩ = some (.slice Ao13 t309.length co13) := (blk_cell BK312.out 8).trans rfl; have hfz40_0 := blk_frozen BK312.out 0; have hfz40_1 := blk_frozen BK312.out 1; have hfz40_2 := blk_frozen BK312.out 2; have hfz40_3 := blk_frozen BK312.out 3; have hfz40_4 := blk_frozen BK312.out 4; have hfz40_5 := blk_frozen BK312.out 5; have hfz40_6 := blk_frozen BK312.out 6; have hfz40_7 := blk_frozen BK312.out 7; have hfz40_8 := blk_frozen BK312.out 8; have hcz41_0 : w39.cell? ⟨gb321, 0, none⟩ = some (.int .i64 t316) := (blk_cell BK321.out 0).trans rfl; have hcz41_1 : w39.cell? ⟨gb321, 1, none⟩ = some (.int .i64 t317) := (blk_cell BK321.out 1).trans rfl; have hcz41_2 : w39.cell? ⟨gb321, 2, none⟩ = some (.int .i64 t318) := (blk_cell BK321.out 2).trans rfl; have hcz41_3 : w39.cell? ⟨gb321, 3, none⟩ = some (.int .i64 t319) := (blk_cell BK321.out 3).trans rfl; have hcz41_4 : w39.cell? ⟨gb321, 4, none⟩ = some (.int .i64 t320) := (blk_cell BK321.out 4).trans rfl; have hfz41_0 := blk_frozen BK321.out 0; have hfz41_1 := blk_frozen BK321.out 1; have hfz41_2 := blk_frozen BK321.out 2; have hfz41_3 := blk_frozen BK321.out 3; have hfz41_4 := blk_frozen BK321.out 4) | (go_at_call 52; (with_reducible refine (impl_GameOk.calls k2 (t293.length : Int) t316 t317 t318 t319 t320 true _ A26.out).mono ?_); rintro e w42 ⟨rfl, hb⟩; have n0_ := Aside0.mk (Kd.R_below (by (with_reducible repeat (first | apply Kd.R_alloc | apply Kd.R_drewN | apply Kd.R_drew)); exact HO_22.out) hb); have n1_ := Aside0.mk (Kd.R_below (by (with_reducible repeat (first | apply Kd.R_alloc | apply Kd.R_drewN | apply Kd.R_drew)); exact HO_313000.out) hb); have n2_ := Aside0.mk (Kd.R_below (by (with_reducible repeat (first | apply Kd.R_alloc | apply Kd.R_drewN | apply Kd.R_drew)); exact HO_313004.out) hb); have n3_ := Aside0.mk (Kd.R_below (by (with_reducible repeat (first | apply Kd.R_alloc | apply Kd.R_drewN | apply Kd.R_drew)); exact HO_313006.out) hb); have n4_ := Aside0.mk (Kd.R_below (by (with_reducible repeat (first | apply Kd.R_alloc | apply Kd.R_drewN | apply Kd.R_drew)); exact HO_313007.out) hb); have n5_ := Aside0.mk (Kd.R_below (by (with_reducible repeat (first | apply Kd.R_alloc | apply Kd.R_drewN | apply Kd.R_drew)); exact HO_313008.out) hb); have n6_ := Aside0.mk (blk_below (g := gb312) (o := .cells #[.slice Ao8 t293.length co8, .int .i64 t296, .int .i64 t297, .int .i64 t298, .slice Ao10 t299.length co10, .bool t302, .slice (some ad314) t303.length co11, .slice Ao12 t306.length co12, .slice Ao13 t309.length co13] 68 (0, 0)) (by (with_reducible repeat (first | refine blk_drewN ?_ _ | refine blk_drew ?_ | refine blk_alloc ?_ _)); exact BK312.out) hb); have n7_ := Aside0.mk (blk_below (g := gb315) (o := .cells #[.int .i64 ((rd_T61 t303 x24_1).f0), .int .i64 ((rd_T61 t303 x24_1).f1), .int .i64 ((rd_T61 t303 x24_1).f2), .int .i64 ((rd_T61 t303 x24_1).f3), .int .i64 ((rd_T61 t303 x24_1).f4)] 61 (0, 0)) (by (with_reducible repeat (first | refine blk_drewN ?_ _ | refine blk_drew ?_ | refine blk_alloc ?_ _)); exact BK315.out) hb); have n8_ := Aside0.mk (blk_below (g := gb321) (o := .cells #[.int .i64 t316, .int .i64 t317, .int .i64 t318, .int .i64 t319, .int .i64 t320] 61 (0, 0)) (by (with_reducible repeat (first | refine blk_drewN ?_ _ | refine blk_drew ?_ | refine blk_alloc ?_ _)); exact BK321.out) hb); have n9_ := Aside0.mk (below_step (by repeat (first | (with_reducible first | exact HB.out | apply below_alloc | apply pw_below_drewN | apply below_drew1 | refine below_set ?_ GE312.out | refine below_set ?_ GE315.out | refine below_set ?_ GE321.out) | exact HB.out)) hb); clear HO_22; clear HO_313000; clear HO_313004; clear HO_313006; clear HO_313007; clear HO_313008; clear BK312; clear BK315; clear BK321; clear HB; have HO_22 := n0_; have HO_313000 := n1_; have HO_313004 := n2_; have HO_313006 := n3_; have HO_313007 := n4_; have HO_313008 := n5_; have BK312 := n6_; have BK315 := n7_; have BK321 := n8_; have HB := n9_; clear n0_ n1_ n2_ n3_ n4_ n5_ n6_ n7_ n8_ n9_; (try clear hb); (try clear hb2); (try clear hk); (try clear hi); have hcz43_0 : w42.cell? ⟨gb321, 0, none⟩ = some (.int .i64 t316) := (blk_cell BK321.out 0).trans rfl; have hcz43_1 : w42.cell? ⟨gb321, 1, none⟩ = some (.int .i64 t317) := (blk_cell BK321.out 1).trans rfl; have hcz43_2 : w42.cell? ⟨gb321, 2, none⟩ = some (.int .i64 t318) := (blk_cell BK321.out 2).trans rfl; have hcz43_3 : w42.cell? ⟨gb321, 3, none⟩ = some (.int .i64 t319) := (blk_cell BK321.out 3).trans rfl; have hcz43_4 : w42.cell? ⟨gb321, 4, none⟩ = some (.int .i64 t320) := (blk_cell BK321.out 4).trans rfl; have hfz43_0 := blk_frozen BK321.out 0; have hfz43_1 := blk_frozen BK321.out 1; have hfz43_2 := blk_frozen BK321.out 2; have hfz43_3 := blk_frozen BK321.out 3; have hfz43_4 := blk_frozen BK321.out 4) | (go_at_call 53; (with_reducible refine (impl_IsOpen.calls t316 t317 t318 t319 t320 false _ A28.out).mono ?_); rintro e w44 ⟨rfl, hb⟩; have n0_ := Aside0.mk (Kd.R_below (by (with_reducible repeat (first | apply Kd.R_alloc | apply Kd.R_drewN | apply Kd.R_drew)); exact HO_22.out) hb); have n1_ := Aside0.mk (Kd.R_below (by (with_reducible repeat (first | apply Kd.R_alloc | apply Kd.R_drewN | apply Kd.R_drew)); exact HO_313000.out) hb); have n2_ := Aside0.mk (Kd.R_below (by (with_reducible repeat (first | apply Kd.R_alloc | apply Kd.R_drewN | apply Kd.R_drew)); exact HO_313004.out) hb); have n3_ := Aside0.mk (Kd.R_below (by (with_reducible repeat (first | apply Kd.R_alloc | apply Kd.R_drewN | apply Kd.R_drew)); exact HO_313006.out) hb); have n4_ := Aside0.mk (Kd.R_below (by (with_reducible repeat (first | apply Kd.R_alloc | apply Kd.R_drewN | apply Kd.R_drew)); exact HO_313007.out) hb); have n5_ := Aside0.mk (Kd.R_below (by (with_reducible repeat (first | apply Kd.R_alloc | apply Kd.R_drewN | apply Kd.R_drew)); exact HO_313008.out) hb); have n6_ := Aside0.mk (blk_below (g := gb312) (o := .cells #[.slice Ao8 t293.length co8, .int .i64 t296, .int .i64 t297, .int .i64 t298, .slice Ao10 t299.length co10, .bool t302, .slice (some ad314) t303.length co11, .slice Ao12 t306.length co12, .slice Ao13 t309.length co13] 68 (0, 0)) (by (with_reducible repeat (first | refine blk_drewN ?_ _ | refine blk_drew ?_ | refine blk_alloc ?_ _)); exact BK312.out) hb); have n7_ := Aside0.mk (blk_below (g := gb315) (o := .cells #[.int .i64 ((rd_T61 t303 x24_1).f0), .int .i64 ((rd_T61 t303 x24_1).f1), .int .i64 ((rd_T61 t303 x24_1).f2), .int .i64 ((rd_T61 t303 x24_1).f3), .int .i64 ((rd_T61 t303 x24_1).f4)] 61 (0, 0)) (by (with_reducible repeat (first | refine blk_drewN ?_ _ | refine blk_drew ?_ | refine blk_alloc ?_ _)); exact BK315.out) hb); have n8_ := Aside0.mk (blk_below (g := gb321) (o := .cells #[.int .i64 t316, .int .i64 t317, .int .i64 t318, .int .i64 t319, .int .i64 t320] 61 (0, 0)) (by (with_reducible repeat (first | refine blk_drewN ?_ _ | refine blk_drew ?_ | refine blk_alloc ?_ _)); exact BK321.out) hb); have n9_ := Aside0.mk (below_step (by repeat (first | (with_reducible first | exact HB.out | apply below_alloc | apply pw_below_drewN | apply below_drew1 | refine below_set ?_ GE312.out | refine below_set ?_ GE315.out | refine below_set ?_ GE321.out) | exact HB.out)) hb); clear HO_22; clear HO_313000; clear HO_313004; clear HO_313006; clear HO_313007; clear HO_313008; clear BK312; clear BK315; clear BK321; clear HB; have HO_22 := n0_; have HO_313000 := n1_; have HO_313004 := n2_; have HO_313006 := n3_; have HO_313007 := n4_; have HO_313008 := n5_; have BK312 := n6_; have BK315 := n7_; have BK321 := n8_; have HB := n9_; clear n0_ n1_ n2_ n3_ n4_ n5_ n6_ n7_ n8_ n9_; (try clear hb); (try clear hb2); (try clear hk); (try clear hi); have hcz45_0 : w44.cell? ⟨gb321, 0, none⟩ = some (.int .i64 t316) := (blk_cell BK321.out 0).trans rfl; have hcz45_1 : w44.cell? ⟨gb321, 1, none⟩ = some (.int .i64 t317) := (blk_cell BK321.out 1).trans rfl; have hcz45_2 : w44.cell? ⟨gb321, 2, none⟩ = some (.int .i64 t318) := (blk_cell BK321.out 2).trans rfl; have hcz45_3 : w44.cell? ⟨gb321, 3, none⟩ = some (.int .i64 t319) := (blk_cell BK321.out 3).trans rfl; have hcz45_4 : w44.cell? ⟨gb321, 4, none⟩ = some (.int .i64 t320) := (blk_cell BK321.out 4).trans rfl; have hfz45_0 := blk_frozen BK321.out 0; have hfz45_1 := blk_frozen BK321.out 1; have hfz45_2 := blk_frozen BK321.out 2; have hfz45_3 := blk_frozen BK321.out 3; have hfz45_4 := blk_frozen BK321.out 4; have hcz46_0 : w44.cell? ⟨gb315, 0, none⟩ = some (.int .i64 ((rd_T61 t303 x24_1).f0)) := (blk_cell BK315.out 0).trans rfl; have hcz46_1 : w44.cell? ⟨gb315, 1, none⟩ = some (.int .i64 ((rd_T61 t303 x24_1).f1)) := (blk_cell BK315.out 1).trans rfl; have hcz46_2 : w44.cell? ⟨gb315, 2, none⟩ = some (.int .i64 ((rd_T61 t303 x24_1).f2)) := (blk_cell BK315.out 2).trans rfl; have hcz46_3 : w44.cell? ⟨gb315, 3, none⟩ = some (.int .i64 ((rd_T61 t303 x24_1).f3)) := (blk_cell BK315.out 3).trans rfl; have hcz46_4 : w44.cell? ⟨gb315, 4, none⟩ = some (.int .i64 ((rd_T61 t303 x24_1).f4)) := (blk_cell BK315.out 4).trans rfl; have hfz46_0 := blk_frozen BK315.out 0; have hfz46_1 := blk_frozen BK315.out 1; have hfz46_2 := blk_frozen BK315.out 2; have hfz46_3 := blk_frozen BK315.out 3; have hfz46_4 := blk_frozen BK315.out 4))
                                go_roundg k2
                                case measure => have := HK1.out; have := HK2.out; omega
                                case rel => exact ⟨(wrap64 (x6_2 + 1)), (by first | rfl | (simp; done) | (simp [*]; done)), H', ⟨by have := HK1.out; have := HK2.out; omega⟩, ⟨by (with_reducible repeat (first | apply Kd.R_alloc | apply Kd.R_drewN | apply Kd.R_drew)); exact Kd.R_mono HO_22.out (fun _ hk => hk.1)⟩, ⟨by (with_reducible repeat (first | apply Kd.R_alloc | apply Kd.R_drewN | apply Kd.R_drew)); exact HO_313000.out⟩, ⟨by (with_reducible repeat (first | apply Kd.R_alloc | apply Kd.R_drewN | apply Kd.R_drew)); exact HO_313004.out⟩, ⟨by (with_reducible repeat (first | apply Kd.R_alloc | apply Kd.R_drewN | apply Kd.R_drew)); exact Kd.R_mono HO_313006.out (fun _ hk => hk.1)⟩, ⟨by (with_reducible repeat (first | apply Kd.R_alloc | apply Kd.R_drewN | apply Kd.R_drew)); exact HO_313007.out⟩, ⟨by (with_reducible repeat (first | apply Kd.R_alloc | apply Kd.R_drewN | apply Kd.R_drew)); exact HO_313008.out⟩, ⟨by (with_reducible repeat (first | refine blk_drewN ?_ _ | refine blk_drew ?_ | refine blk_alloc ?_ _)); exact BK312.out⟩, ⟨by (with_reducible repeat (first | refine blk_drewN ?_ _ | refine blk_drew ?_ | refine blk_alloc ?_ _)); exact BK315.out⟩, ⟨by repeat (first | (with_reducible first | exact HB.out | apply below_alloc | apply pw_below_drewN | apply below_drew1 | refine below_set ?_ GE312.out | refine below_set ?_ GE315.out | refine below_set ?_ GE321.out) | exact HB.out)⟩⟩
                              · rw [if_neg c31] at H
                                have c31b0 : (t317 == ((rd_T61 t303 x24_1).f1)) = false := beq_eq_false_iff_ne.mpr c31
                                have c31b1 : (t317 != ((rd_T61 t303 x24_1).f1)) = true := bne_iff_ne.mpr c31
                                exact absurd ((Option.some.inj H).trans HR_.out) (by decide)
                            · rw [if_neg c30] at H
                              have c30b0 : (t316 == ((rd_T61 t303 x24_1).f0)) = false := beq_eq_false_iff_ne.mpr c30
                              have c30b1 : (t316 != ((rd_T61 t303 x24_1).f0)) = true := bne_iff_ne.mpr c30
                              exact absurd ((Option.some.inj H).trans HR_.out) (by decide)
                        · replace c27 := Bool.eq_false_iff.mpr c27
                          subst c27
                          have H1 : (some false) = some r := by rw [if_neg (show ¬ (false = true) by decide)] at H; exact H
                          clear H
                          have H := H1
                          clear H1
                          exact absurd ((Option.some.inj H).trans HR_.out) (by decide)
                      · rw [if_neg c25] at H
                        have c25b0 : (t322 == x6_2) = false := beq_eq_false_iff_ne.mpr c25
                        have c25b1 : (t322 != x6_2) = true := bne_iff_ne.mpr c25
                        exact absurd ((Option.some.inj H).trans HR_.out) (by decide)
                    · rw [if_neg c22] at H
                      have c22b0 : decide (x6_2 ≤ 3) = false := decide_eq_false c22
                      clear c22
                      replace H := Option.bind_eq_some_iff.mp H
                      obtain ⟨t325, A470, H⟩ := H
                      replace H : ((impl_GameOf.f t303 ((rd_T61 t303 x24_1).f0) ((rd_T61 t303 x24_1).f1)).bind fun t328 => (if t328 = x24_1 then ((laws_has.f k2 t325 x24_1).bind fun t329 => (if t329 = true then ((impl_PlayGame.f ((rd_T61 t303 x24_1).f0) ((rd_T61 t303 x24_1).f1) ((rd_T61 t303 x24_1).f2) ((rd_T61 t303 x24_1).f3) ((rd_T61 t303 x24_1).f4) 0).bind fun bt330 => (if (!(bt330.1 == ((rd_T61 t303 x24_1).f0)) || (!(bt330.2.1 == ((rd_T61 t303 x24_1).f1)) || (!(bt330.2.2.1 == ((rd_T61 t303 x24_1).f2)) || (!(bt330.2.2.2.1 == ((rd_T61 t303 x24_1).f3)) || (!(bt330.2.2.2.2 == ((rd_T61 t303 x24_1).f4))))))) = true then (some false) else ((impl_OpenGames.f t303).bind fun t335 => ((laws_has.f k2 t335 x24_1).bind fun t338 => ((impl_IsOpen.f ((rd_T61 t303 x24_1).f0) ((rd_T61 t303 x24_1).f1) ((rd_T61 t303 x24_1).f2) ((rd_T61 t303 x24_1).f3) ((rd_T61 t303 x24_1).f4)).bind fun t339 => (if (t338 != t339) = true then (some false) else (laws_FnGames.l0 k2 t303 (t303.length : Int) (wrap64 (x24_1 + 1)) t293 t296 t297 t298 t299 t302 t303 t306 t309))))))) else (some false))) else (some false))) = some r := H
                      have A47 := Aside0.mk A470
                      clear A470
                      replace H := Option.bind_eq_some_iff.mp H
                      obtain ⟨t328, A480, H⟩ := H
                      replace H : (if t328 = x24_1 then ((laws_has.f k2 t325 x24_1).bind fun t329 => (if t329 = true then ((impl_PlayGame.f ((rd_T61 t303 x24_1).f0) ((rd_T61 t303 x24_1).f1) ((rd_T61 t303 x24_1).f2) ((rd_T61 t303 x24_1).f3) ((rd_T61 t303 x24_1).f4) 0).bind fun bt330 => (if (!(bt330.1 == ((rd_T61 t303 x24_1).f0)) || (!(bt330.2.1 == ((rd_T61 t303 x24_1).f1)) || (!(bt330.2.2.1 == ((rd_T61 t303 x24_1).f2)) || (!(bt330.2.2.2.1 == ((rd_T61 t303 x24_1).f3)) || (!(bt330.2.2.2.2 == ((rd_T61 t303 x24_1).f4))))))) = true then (some false) else ((impl_OpenGames.f t303).bind fun t335 => ((laws_has.f k2 t335 x24_1).bind fun t338 => ((impl_IsOpen.f ((rd_T61 t303 x24_1).f0) ((rd_T61 t303 x24_1).f1) ((rd_T61 t303 x24_1).f2) ((rd_T61 t303 x24_1).f3) ((rd_T61 t303 x24_1).f4)).bind fun t339 => (if (t338 != t339) = true then (some false) else (laws_FnGames.l0 k2 t303 (t303.length : Int) (wrap64 (x24_1 + 1)) t293 t296 t297 t298 t299 t302 t303 t306 t309))))))) else (some false))) else (some false)) = some r := H
                      have A48 := Aside0.mk A480
                      clear A480
                      by_cases c49 : t328 = x24_1
                      · rw [if_pos c49] at H
                        have c49b0 : (t328 == x24_1) = true := beq_iff_eq.mpr c49
                        have c49b1 : (t328 != x24_1) = false := bne_eq_false_iff_eq.mpr c49
                        clear c49
                        replace H := Option.bind_eq_some_iff.mp H
                        obtain ⟨t329, A500, H⟩ := H
                        replace H : (if t329 = true then ((impl_PlayGame.f ((rd_T61 t303 x24_1).f0) ((rd_T61 t303 x24_1).f1) ((rd_T61 t303 x24_1).f2) ((rd_T61 t303 x24_1).f3) ((rd_T61 t303 x24_1).f4) 0).bind fun bt330 => (if (!(bt330.1 == ((rd_T61 t303 x24_1).f0)) || (!(bt330.2.1 == ((rd_T61 t303 x24_1).f1)) || (!(bt330.2.2.1 == ((rd_T61 t303 x24_1).f2)) || (!(bt330.2.2.2.1 == ((rd_T61 t303 x24_1).f3)) || (!(bt330.2.2.2.2 == ((rd_T61 t303 x24_1).f4))))))) = true then (some false) else ((impl_OpenGames.f t303).bind fun t335 => ((laws_has.f k2 t335 x24_1).bind fun t338 => ((impl_IsOpen.f ((rd_T61 t303 x24_1).f0) ((rd_T61 t303 x24_1).f1) ((rd_T61 t303 x24_1).f2) ((rd_T61 t303 x24_1).f3) ((rd_T61 t303 x24_1).f4)).bind fun t339 => (if (t338 != t339) = true then (some false) else (laws_FnGames.l0 k2 t303 (t303.length : Int) (wrap64 (x24_1 + 1)) t293 t296 t297 t298 t299 t302 t303 t306 t309))))))) else (some false)) = some r := H
                        have A50 := Aside0.mk A500
                        clear A500
                        by_cases c51 : t329 = true
                        · subst c51
                          have H1 : ((impl_PlayGame.f ((rd_T61 t303 x24_1).f0) ((rd_T61 t303 x24_1).f1) ((rd_T61 t303 x24_1).f2) ((rd_T61 t303 x24_1).f3) ((rd_T61 t303 x24_1).f4) 0).bind fun bt330 => (if (!(bt330.1 == ((rd_T61 t303 x24_1).f0)) || (!(bt330.2.1 == ((rd_T61 t303 x24_1).f1)) || (!(bt330.2.2.1 == ((rd_T61 t303 x24_1).f2)) || (!(bt330.2.2.2.1 == ((rd_T61 t303 x24_1).f3)) || (!(bt330.2.2.2.2 == ((rd_T61 t303 x24_1).f4))))))) = true then (some false) else ((impl_OpenGames.f t303).bind fun t335 => ((laws_has.f k2 t335 x24_1).bind fun t338 => ((impl_IsOpen.f ((rd_T61 t303 x24_1).f0) ((rd_T61 t303 x24_1).f1) ((rd_T61 t303 x24_1).f2) ((rd_T61 t303 x24_1).f3) ((rd_T61 t303 x24_1).f4)).bind fun t339 => (if (t338 != t339) = true then (some false) else (laws_FnGames.l0 k2 t303 (t303.length : Int) (wrap64 (x24_1 + 1)) t293 t296 t297 t298 t299 t302 t303 t306 t309))))))) = some r := by rw [if_pos rfl] at H; exact H
                          clear H
                          have H := H1
                          clear H1
                          replace H := Option.bind_eq_some_iff.mp H
                          obtain ⟨⟨t330, t331, t332, t333, t334⟩, A520, H⟩ := H
                          replace H : (if (!(t330 == ((rd_T61 t303 x24_1).f0)) || (!(t331 == ((rd_T61 t303 x24_1).f1)) || (!(t332 == ((rd_T61 t303 x24_1).f2)) || (!(t333 == ((rd_T61 t303 x24_1).f3)) || (!(t334 == ((rd_T61 t303 x24_1).f4))))))) = true then (some false) else ((impl_OpenGames.f t303).bind fun t335 => ((laws_has.f k2 t335 x24_1).bind fun t338 => ((impl_IsOpen.f ((rd_T61 t303 x24_1).f0) ((rd_T61 t303 x24_1).f1) ((rd_T61 t303 x24_1).f2) ((rd_T61 t303 x24_1).f3) ((rd_T61 t303 x24_1).f4)).bind fun t339 => (if (t338 != t339) = true then (some false) else (laws_FnGames.l0 k2 t303 (t303.length : Int) (wrap64 (x24_1 + 1)) t293 t296 t297 t298 t299 t302 t303 t306 t309)))))) = some r := H
                          have A52 := Aside0.mk A520
                          clear A520
                          by_cases c53 : (!(t330 == ((rd_T61 t303 x24_1).f0)) || (!(t331 == ((rd_T61 t303 x24_1).f1)) || (!(t332 == ((rd_T61 t303 x24_1).f2)) || (!(t333 == ((rd_T61 t303 x24_1).f3)) || (!(t334 == ((rd_T61 t303 x24_1).f4))))))) = true
                          · rw [if_pos c53] at H
                            have c53b0 : (!(t330 == ((rd_T61 t303 x24_1).f0)) || (!(t331 == ((rd_T61 t303 x24_1).f1)) || (!(t332 == ((rd_T61 t303 x24_1).f2)) || (!(t333 == ((rd_T61 t303 x24_1).f3)) || (!(t334 == ((rd_T61 t303 x24_1).f4))))))) = true := c53
                            clear c53
                            exact absurd ((Option.some.inj H).trans HR_.out) (by decide)
                          · rw [if_neg c53] at H
                            have c53b0 : (!(t330 == ((rd_T61 t303 x24_1).f0)) || (!(t331 == ((rd_T61 t303 x24_1).f1)) || (!(t332 == ((rd_T61 t303 x24_1).f2)) || (!(t333 == ((rd_T61 t303 x24_1).f3)) || (!(t334 == ((rd_T61 t303 x24_1).f4))))))) = false := by simpa using c53
                            clear c53
                            replace H := Option.bind_eq_some_iff.mp H
                            obtain ⟨t335, A540, H⟩ := H
                            replace H : ((laws_has.f k2 t335 x24_1).bind fun t338 => ((impl_IsOpen.f ((rd_T61 t303 x24_1).f0) ((rd_T61 t303 x24_1).f1) ((rd_T61 t303 x24_1).f2) ((rd_T61 t303 x24_1).f3) ((rd_T61 t303 x24_1).f4)).bind fun t339 => (if (t338 != t339) = true then (some false) else (laws_FnGames.l0 k2 t303 (t303.length : Int) (wrap64 (x24_1 + 1)) t293 t296 t297 t298 t299 t302 t303 t306 t309)))) = some r := H
                            have A54 := Aside0.mk A540
                            clear A540
                            replace H := Option.bind_eq_some_iff.mp H
                            obtain ⟨t338, A550, H⟩ := H
                            replace H : ((impl_IsOpen.f ((rd_T61 t303 x24_1).f0) ((rd_T61 t303 x24_1).f1) ((rd_T61 t303 x24_1).f2) ((rd_T61 t303 x24_1).f3) ((rd_T61 t303 x24_1).f4)).bind fun t339 => (if (t338 != t339) = true then (some false) else (laws_FnGames.l0 k2 t303 (t303.length : Int) (wrap64 (x24_1 + 1)) t293 t296 t297 t298 t299 t302 t303 t306 t309))) = some r := H
                            have A55 := Aside0.mk A550
                            clear A550
                            replace H := Option.bind_eq_some_iff.mp H
                            obtain ⟨t339, A560, H⟩ := H
                            replace H : (if (t338 != t339) = true then (some false) else (laws_FnGames.l0 k2 t303 (t303.length : Int) (wrap64 (x24_1 + 1)) t293 t296 t297 t298 t299 t302 t303 t306 t309)) = some r := H
                            have A56 := Aside0.mk A560
                            clear A560
                            by_cases c57 : (t338 != t339) = true
                            · rw [if_pos c57] at H
                              have c57b0 : (t338 != t339) = true := c57
                              (try (have c57b1 : decide (t338 = t339) = false := by simpa using c57))
                              (try (have c57b2 : (t338 == t339) = false := by simpa using c57))
                              (try (have c57b3 : ¬ (t338 = t339) := by simpa using c57))
                              clear c57
                              exact absurd ((Option.some.inj H).trans HR_.out) (by decide)
                            · rw [if_neg c57] at H
                              have c57b0 : (t338 != t339) = false := by simpa using c57
                              (try (have c57b1 : decide (t338 = t339) = true := by simpa using c57))
                              (try (have c57b2 : (t338 == t339) = true := by simpa using c57))
                              clear c57
                              have H' := Aside0.mk H
                              clear H
                              have hnb58 := NB312_315.out
                              have hnc58 := NB315_312.out
                              have hcz59_0 : wr.cell? ⟨gb312, 0, none⟩ = some (.slice Ao8 t293.length co8) := (blk_cell BK312.out 0).trans rfl
                              have hcz59_1 : wr.cell? ⟨gb312, 1, none⟩ = some (.int .i64 t296) := (blk_cell BK312.out 1).trans rfl
                              have hcz59_2 : wr.cell? ⟨gb312, 2, none⟩ = some (.int .i64 t297) := (blk_cell BK312.out 2).trans rfl
                              have hcz59_3 : wr.cell? ⟨gb312, 3, none⟩ = some (.int .i64 t298) := (blk_cell BK312.out 3).trans rfl
                              have hcz59_4 : wr.cell? ⟨gb312, 4, none⟩ = some (.slice Ao10 t299.length co10) := (blk_cell BK312.out 4).trans rfl
                              have hcz59_5 : wr.cell? ⟨gb312, 5, none⟩ = some (.bool t302) := (blk_cell BK312.out 5).trans rfl
                              have hcz59_6 : wr.cell? ⟨gb312, 6, none⟩ = some (.slice (some ad314) t303.length co11) := (blk_cell BK312.out 6).trans rfl
                              have hcz59_7 : wr.cell? ⟨gb312, 7, none⟩ = some (.slice Ao12 t306.length co12) := (blk_cell BK312.out 7).trans rfl
                              have hcz59_8 : wr.cell? ⟨gb312, 8, none⟩ = some (.slice Ao13 t309.length co13) := (blk_cell BK312.out 8).trans rfl
                              have hfz59_0 := blk_frozen BK312.out 0
                              have hfz59_1 := blk_frozen BK312.out 1
                              have hfz59_2 := blk_frozen BK312.out 2
                              have hfz59_3 := blk_frozen BK312.out 3
                              have hfz59_4 := blk_frozen BK312.out 4
                              have hfz59_5 := blk_frozen BK312.out 5
                              have hfz59_6 := blk_frozen BK312.out 6
                              have hfz59_7 := blk_frozen BK312.out 7
                              have hfz59_8 := blk_frozen BK312.out 8
                              have hcz60_0 : wr.cell? ⟨gb315, 0, none⟩ = some (.int .i64 ((rd_T61 t303 x24_1).f0)) := (blk_cell BK315.out 0).trans rfl
                              have hcz60_1 : wr.cell? ⟨gb315, 1, none⟩ = some (.int .i64 ((rd_T61 t303 x24_1).f1)) := (blk_cell BK315.out 1).trans rfl
                              have hcz60_2 : wr.cell? ⟨gb315, 2, none⟩ = some (.int .i64 ((rd_T61 t303 x24_1).f2)) := (blk_cell BK315.out 2).trans rfl
                              have hcz60_3 : wr.cell? ⟨gb315, 3, none⟩ = some (.int .i64 ((rd_T61 t303 x24_1).f3)) := (blk_cell BK315.out 3).trans rfl
                              have hcz60_4 : wr.cell? ⟨gb315, 4, none⟩ = some (.int .i64 ((rd_T61 t303 x24_1).f4)) := (blk_cell BK315.out 4).trans rfl
                              have hfz60_0 := blk_frozen BK315.out 0
                              have hfz60_1 := blk_frozen BK315.out 1
                              have hfz60_2 := blk_frozen BK315.out 2
                              have hfz60_3 := blk_frozen BK315.out 3
                              have hfz60_4 := blk_frozen BK315.out 4
                              try go_wp2_with (first | ((with_reducible refine gate_callee (f := 54) rfl ?_); refine goesL_ (some 72) rfl rfl Try.func54 (by kernel_rfl) rfl #[.slice (some ad314) t303.length co11, .int .i64 ((rd_T61 t303 x24_1).f0), .int .i64 ((rd_T61 t303 x24_1).f1)] rfl (by (try simp only [List.map_toArray, List.map_cons, List.map_nil]); first | done | rfl | (simp only [List.length_drop, List.length_take]; rfl)) ?_; (with_reducible refine (impl_GamesBetween.calls _ _ t303 ((rd_T61 t303 x24_1).f0) ((rd_T61 t303 x24_1).f1) t325 _ ?side1 ?side2 A47.out).mono ?_); (case side1 => repeat (first | exact (Kd.R_reads' HO_313006.out).2.2 | (with_reducible refine Kd.C_alloc ?_ _) | (with_reducible refine Kd.C_drewN ?_ _) | (with_reducible refine Kd.C_drew ?_))); (case side2 => exact (Kd.R_reads' HO_313006.out).2.1); rintro e w61 ⟨v326, rfl, ho0, hb⟩; refine ⟨_, rfl, ?_⟩; have n0_ := Aside0.mk (Kd.R_below (by (with_reducible repeat (first | apply Kd.R_alloc | apply Kd.R_drewN | apply Kd.R_drew)); exact HO_22.out) hb); have n1_ := Aside0.mk (Kd.R_below (by (with_reducible repeat (first | apply Kd.R_alloc | apply Kd.R_drewN | apply Kd.R_drew)); exact HO_313000.out) hb); have n2_ := Aside0.mk (Kd.R_elder' (by (with_reducible repeat (first | apply Kd.R_alloc | apply Kd.R_drewN | apply Kd.R_drew)); exact HO_313004.out) (Kd.R_base ho0) hb); have n3_ := Aside0.mk (Kd.R_below (by (with_reducible repeat (first | apply Kd.R_alloc | apply Kd.R_drewN | apply Kd.R_drew)); exact HO_313006.out) hb); have n4_ := Aside0.mk (Kd.R_elder' (by (with_reducible repeat (first | apply Kd.R_alloc | apply Kd.R_drewN | apply Kd.R_drew)); exact HO_313007.out) (Kd.R_base ho0) hb); have n5_ := Aside0.mk (Kd.R_elder' (by (with_reducible repeat (first | apply Kd.R_alloc | apply Kd.R_drewN | apply Kd.R_drew)); exact HO_313008.out) (Kd.R_base ho0) hb); have n6_ := Aside0.mk (Kd.R_lower (Kd.R_new' (Kd.R_new' (Kd.R_new' ho0 (Kd.R_lt (by (with_reducible repeat (first | apply Kd.R_alloc | apply Kd.R_drewN | apply Kd.R_drew)); exact HO_313004.out))) (Kd.R_lt (by (with_reducible repeat (first | apply Kd.R_alloc | apply Kd.R_drewN | apply Kd.R_drew)); exact HO_313007.out))) (Kd.R_lt (by (with_reducible repeat (first | apply Kd.R_alloc | apply Kd.R_drewN | apply Kd.R_drew)); exact HO_313008.out))) (below_size (by repeat (first | (with_reducible first | exact HB.out | apply below_alloc | apply pw_below_drewN | apply below_drew1 | refine below_set ?_ GE312.out | refine below_set ?_ GE315.out) | exact HB.out)))); have n7_ := Aside0.mk (blk_below (g := gb312) (o := .cells #[.slice Ao8 t293.length co8, .int .i64 t296, .int .i64 t297, .int .i64 t298, .slice Ao10 t299.length co10, .bool t302, .slice (some ad314) t303.length co11, .slice Ao12 t306.length co12, .slice Ao13 t309.length co13] 68 (0, 0)) (by (with_reducible repeat (first | refine blk_drewN ?_ _ | refine blk_drew ?_ | refine blk_alloc ?_ _)); exact BK312.out) hb); have n8_ := Aside0.mk (blk_below (g := gb315) (o := .cells #[.int .i64 ((rd_T61 t303 x24_1).f0), .int .i64 ((rd_T61 t303 x24_1).f1), .int .i64 ((rd_T61 t303 x24_1).f2), .int .i64 ((rd_T61 t303 x24_1).f3), .int .i64 ((rd_T61 t303 x24_1).f4)] 61 (0, 0)) (by (with_reducible repeat (first | refine blk_drewN ?_ _ | refine blk_drew ?_ | refine blk_alloc ?_ _)); exact BK315.out) hb); have n9_ := Aside0.mk (below_step (by repeat (first | (with_reducible first | exact HB.out | apply below_alloc | apply pw_below_drewN | apply below_drew1 | refine below_set ?_ GE312.out | refine below_set ?_ GE315.out) | exact HB.out)) hb); clear HO_22; clear HO_313000; clear HO_313004; clear HO_313006; clear HO_313007; clear HO_313008; clear BK312; clear BK315; clear HB; have HO_22 := n0_; have HO_313000 := n1_; have HO_313004 := n2_; have HO_313006 := n3_; have HO_313007 := n4_; have HO_313008 := n5_; have HO327 := n6_; have BK312 := n7_; have BK315 := n8_; have HB := n9_; clear n0_ n1_ n2_ n3_ n4_ n5_ n6_ n7_ n8_ n9_; (try clear hb); (try clear hb2); (try clear hk); (try clear hi); (try clear ho0)))
                              have n0_ := Aside0.mk (Kd.R_drew HO_22.out)
                              have n1_ := Aside0.mk (Kd.R_drew HO_313000.out)
                              have n2_ := Aside0.mk (Kd.R_drew HO_313004.out)
                              have n3_ := Aside0.mk (Kd.R_drew HO_313006.out)
                              have n4_ := Aside0.mk (Kd.R_drew HO_313007.out)
                              have n5_ := Aside0.mk (Kd.R_drew HO_313008.out)
                              have n6_ := Aside0.mk (Kd.R_drew HO327.out)
                              have n7_ := Aside0.mk (blk_drew BK312.out)
                              have n8_ := Aside0.mk (blk_drew BK315.out)
                              have n9_ := Aside0.mk (below_drew1 HB.out)
                              clear HO_22
                              clear HO_313000
                              clear HO_313004
                              clear HO_313006
                              clear HO_313007
                              clear HO_313008
                              clear HO327
                              clear BK312
                              clear BK315
                              clear HB
                              have HO_22 := n0_
                              have HO_313000 := n1_
                              have HO_313004 := n2_
                              have HO_313006 := n3_
                              have HO_313007 := n4_
                              have HO_313008 := n5_
                              have HO327 := n6_
                              have BK312 := n7_
                              have BK315 := n8_
                              have HB := n9_
                              clear n0_ n1_ n2_ n3_ n4_ n5_ n6_ n7_ n8_ n9_
                              refine start_ (n := 31) (S := fun w' => w'.cell? ⟨gb312, 0, none⟩ = some (.slice Ao8 t293.length co8) ∧ w'.cell? ⟨gb312, 1, none⟩ = some (.int .i64 t296) ∧ w'.cell? ⟨gb312, 2, none⟩ = some (.int .i64 t297) ∧ w'.cell? ⟨gb312, 3, none⟩ = some (.int .i64 t298) ∧ w'.cell? ⟨gb312, 4, none⟩ = some (.slice Ao10 t299.length co10) ∧ w'.cell? ⟨gb312, 5, none⟩ = some (.bool t302) ∧ w'.cell? ⟨gb312, 6, none⟩ = some (.slice (some ad314) t303.length co11) ∧ w'.cell? ⟨gb312, 7, none⟩ = some (.slice Ao12 t306.length co12) ∧ w'.cell? ⟨gb312, 8, none⟩ = some (.slice Ao13 t309.length co13) ∧ w'.cell? ⟨gb315, 0, none⟩ = some (.int .i64 ((rd_T61 t303 x24_1).f0)) ∧ w'.cell? ⟨gb315, 1, none⟩ = some (.int .i64 ((rd_T61 t303 x24_1).f1)) ∧ w'.cell? ⟨gb315, 2, none⟩ = some (.int .i64 ((rd_T61 t303 x24_1).f2)) ∧ w'.cell? ⟨gb315, 3, none⟩ = some (.int .i64 ((rd_T61 t303 x24_1).f3)) ∧ w'.cell? ⟨gb315, 4, none⟩ = some (.int .i64 ((rd_T61 t303 x24_1).f4))) (ds := []) #[false, false, false, false, false, false, false, false, false, false, false, false, false, false, false, false, false, false, false, false, false, false, false, false, false, false, false, false, false, false, false] (by kernel_rfl) rfl rfl ⟨(blk_cell BK312.out 0).trans rfl, (blk_cell BK312.out 1).trans rfl, (blk_cell BK312.out 2).trans rfl, (blk_cell BK312.out 3).trans rfl, (blk_cell BK312.out 4).trans rfl, (blk_cell BK312.out 5).trans rfl, (blk_cell BK312.out 6).trans rfl, (blk_cell BK312.out 7).trans rfl, (blk_cell BK312.out 8).trans rfl, (blk_cell BK315.out 0).trans rfl, (blk_cell BK315.out 1).trans rfl, (blk_cell BK315.out 2).trans rfl, (blk_cell BK315.out 3).trans rfl, (blk_cell BK315.out 4).trans rfl⟩ (fun hHeld => ?_); refine with_tabW laws_FnGames.tab16 laws_FnGames.bits16 (fun HT_ HW_ => ?_)
                              generalize w61.drew = w62 at HO_22 HO_313000 HO_313004 HO_313006 HO_313007 HO_313008 HO327 BK312 BK315 HB hHeld ⊢
                              refine pure_ (i := 0) (N := some 73) (v := ?_) (a' := ?_) #[true, false, false, false, false, false, false, false, false, false, false, false, false, false, false, false, false, false, false, false, false, false, false, false, false, false, false, false, false, false, false] rfl rfl (any_of HT_.out (by kernel_rfl)) (fun _ _ _ h => h) (Or.inl ⟨by rfl, ?_⟩) ?_ ?_
                              rotate_left
                              · intro w'
                                go_simp
                                with_reducible rfl
                              rotate_left
                              · simp only [Act.put, List.setIfInBounds_toArray, List.set_cons_zero, List.set_cons_succ, i64_w, i32_w]
                                rfl
                              refine pure_ (i := 2) (N := some 75) (v := ?_) (a' := ?_) #[true, false, true, false, false, false, false, false, false, false, false, false, false, false, false, false, false, false, false, false, false, false, false, false, false, false, false, false, false, false, false] rfl rfl (any_of HT_.out (by kernel_rfl)) (fun _ _ _ h => h) (Or.inl ⟨by rfl, ?_⟩) ?_ ?_
                              rotate_left
                              · intro w'
                                go_simp
                                with_reducible rfl
                              rotate_left
                              · simp only [Act.put, List.setIfInBounds_toArray, List.set_cons_zero, List.set_cons_succ, i64_w, i32_w]
                                rfl
                              refine pure_ (i := 4) (N := some 77) (v := ?_) (a' := ?_) #[true, false, true, false, true, false, false, false, false, false, false, false, false, false, false, false, false, false, false, false, false, false, false, false, false, false, false, false, false, false, false] rfl rfl (any_of HT_.out (by kernel_rfl)) (fun _ _ _ h => h) (Or.inl ⟨by rfl, ?_⟩) ?_ ?_
                              rotate_left
                              · intro w'
                                go_simp
                                with_reducible rfl
                              rotate_left
                              · simp only [Act.put, List.setIfInBounds_toArray, List.set_cons_zero, List.set_cons_succ, i64_w, i32_w]
                                rfl
                              refine pure_ (i := 7) (N := some 80) (v := ?_) (a' := ?_) #[true, false, true, false, true, false, false, true, false, false, false, false, false, false, false, false, false, false, false, false, false, false, false, false, false, false, false, false, false, false, false] rfl rfl (any_of HT_.out (by kernel_rfl)) (fun _ _ _ h => h) (Or.inl ⟨by rfl, ?_⟩) ?_ ?_
                              rotate_left
                              · intro w'
                                go_simp
                                with_reducible rfl
                              rotate_left
                              · simp only [Act.put, List.setIfInBounds_toArray, List.set_cons_zero, List.set_cons_succ, i64_w, i32_w]
                                rfl
                              refine take_ (i := 1) (N := some 74) (v := ?_) (a' := ?_) #[true, true, true, false, true, false, false, true, false, false, false, false, false, false, false, false, false, false, false, false, false, false, false, false, false, false, false, false, false, false, false] rfl rfl (take_ofW HT_.out HW_.out (by kernel_rfl)) (fun _ _ _ h => h) (Or.inl ⟨by rfl, ?_⟩) hHeld ?_ ?_
                              rotate_left
                              · rintro w' ⟨s0, s1, s2, s3, s4, s5, s6, s7, s8, s9, s10, s11, s12, s13⟩
                                go_simp
                                with_reducible rfl
                              rotate_left
                              · simp only [Act.put, List.setIfInBounds_toArray, List.set_cons_zero, List.set_cons_succ, i64_w, i32_w]
                                rfl
                              refine take_ (i := 3) (N := some 76) (v := ?_) (a' := ?_) #[true, true, true, true, true, false, false, true, false, false, false, false, false, false, false, false, false, false, false, false, false, false, false, false, false, false, false, false, false, false, false] rfl rfl (take_ofW HT_.out HW_.out (by kernel_rfl)) (fun _ _ _ h => h) (Or.inl ⟨by rfl, ?_⟩) hHeld ?_ ?_
                              rotate_left
                              · rintro w' ⟨s0, s1, s2, s3, s4, s5, s6, s7, s8, s9, s10, s11, s12, s13⟩
                                go_simp
                                with_reducible rfl
                              rotate_left
                              · simp only [Act.put, List.setIfInBounds_toArray, List.set_cons_zero, List.set_cons_succ, i64_w, i32_w]
                                rfl
                              refine take_ (i := 5) (N := some 78) (v := ?_) (a' := ?_) #[true, true, true, true, true, true, false, true, false, false, false, false, false, false, false, false, false, false, false, false, false, false, false, false, false, false, false, false, false, false, false] rfl rfl (take_ofW HT_.out HW_.out (by kernel_rfl)) (fun _ _ _ h => h) (Or.inl ⟨by rfl, ?_⟩) hHeld ?_ ?_
                              rotate_left
                              · rintro w' ⟨s0, s1, s2, s3, s4, s5, s6, s7, s8, s9, s10, s11, s12, s13⟩
                                go_simp
                                with_reducible rfl
                              rotate_left
                              · simp only [Act.put, List.setIfInBounds_toArray, List.set_cons_zero, List.set_cons_succ, i64_w, i32_w]
                                rfl
                              refine one_ (i := 6) (N := some 79) #[true, true, true, true, true, true, true, true, false, false, false, false, false, false, false, false, false, false, false, false, false, false, false, false, false, false, false, false, false, false, false] rfl rfl (one_of HT_.out (by kernel_rfl)) (by decide) (fun K hK => ?_)
                              refine goes_ Try.func55 (by kernel_rfl) rfl #[.slice (some ad314) t303.length co11, .int .i64 ((rd_T61 t303 x24_1).f0), .int .i64 ((rd_T61 t303 x24_1).f1)] (by rfl) rfl rfl (by (try simp only [List.map_toArray, List.map_cons, List.map_nil]); first | done | rfl | (simp only [List.length_drop, List.length_take]; rfl)) ?_
                              with_reducible refine (impl_GameOf.calls _ _ t303 ((rd_T61 t303 x24_1).f0) ((rd_T61 t303 x24_1).f1) t328 _ ?side1 ?side2 A48.out).mono ?_
                              (case side1 => repeat (first | exact (Kd.R_reads' HO_313006.out).2.2 | (with_reducible refine Kd.C_alloc ?_ _) | (with_reducible refine Kd.C_drewN ?_ _) | (with_reducible refine Kd.C_drew ?_)))
                              (case side2 => exact (Kd.R_reads' HO_313006.out).2.1)
                              rintro e w63 ⟨rfl, hb⟩
                              refine ⟨_, rfl, ?_⟩
                              have n0_ := Aside0.mk (Kd.R_below (by (with_reducible repeat (first | apply Kd.R_alloc | apply Kd.R_drewN | apply Kd.R_drew)); exact HO_22.out) hb)
                              have n1_ := Aside0.mk (Kd.R_below (by (with_reducible repeat (first | apply Kd.R_alloc | apply Kd.R_drewN | apply Kd.R_drew)); exact HO_313000.out) hb)
                              have n2_ := Aside0.mk (Kd.R_below (by (with_reducible repeat (first | apply Kd.R_alloc | apply Kd.R_drewN | apply Kd.R_drew)); exact HO_313004.out) hb)
                              have n3_ := Aside0.mk (Kd.R_below (by (with_reducible repeat (first | apply Kd.R_alloc | apply Kd.R_drewN | apply Kd.R_drew)); exact HO_313006.out) hb)
                              have n4_ := Aside0.mk (Kd.R_below (by (with_reducible repeat (first | apply Kd.R_alloc | apply Kd.R_drewN | apply Kd.R_drew)); exact HO_313007.out) hb)
                              have n5_ := Aside0.mk (Kd.R_below (by (with_reducible repeat (first | apply Kd.R_alloc | apply Kd.R_drewN | apply Kd.R_drew)); exact HO_313008.out) hb)
                              have n6_ := Aside0.mk (Kd.R_below (by (with_reducible repeat (first | apply Kd.R_alloc | apply Kd.R_drewN | apply Kd.R_drew)); exact HO327.out) hb)
                              have n7_ := Aside0.mk (blk_below (g := gb312) (o := .cells #[.slice Ao8 t293.length co8, .int .i64 t296, .int .i64 t297, .int .i64 t298, .slice Ao10 t299.length co10, .bool t302, .slice (some ad314) t303.length co11, .slice Ao12 t306.length co12, .slice Ao13 t309.length co13] 68 (0, 0)) (by (with_reducible repeat (first | refine blk_drewN ?_ _ | refine blk_drew ?_ | refine blk_alloc ?_ _)); exact BK312.out) hb)
                              have n8_ := Aside0.mk (blk_below (g := gb315) (o := .cells #[.int .i64 ((rd_T61 t303 x24_1).f0), .int .i64 ((rd_T61 t303 x24_1).f1), .int .i64 ((rd_T61 t303 x24_1).f2), .int .i64 ((rd_T61 t303 x24_1).f3), .int .i64 ((rd_T61 t303 x24_1).f4)] 61 (0, 0)) (by (with_reducible repeat (first | refine blk_drewN ?_ _ | refine blk_drew ?_ | refine blk_alloc ?_ _)); exact BK315.out) hb)
                              have n9_ := Aside0.mk (below_step (by repeat (first | (with_reducible first | exact HB.out | apply below_alloc | apply pw_below_drewN | apply below_drew1 | refine below_set ?_ GE312.out | refine below_set ?_ GE315.out) | exact HB.out)) hb)
                              clear HO_22
                              clear HO_313000
                              clear HO_313004
                              clear HO_313006
                              clear HO_313007
                              clear HO_313008
                              clear HO327
                              clear BK312
                              clear BK315
                              clear HB
                              have HO_22 := n0_
                              have HO_313000 := n1_
                              have HO_313004 := n2_
                              have HO_313006 := n3_
                              have HO_313007 := n4_
                              have HO_313008 := n5_
                              have HO327 := n6_
                              have BK312 := n7_
                              have BK315 := n8_
                              have HB := n9_
                              clear n0_ n1_ n2_ n3_ n4_ n5_ n6_ n7_ n8_ n9_
                              (try clear hb)
                              (try clear hb2)
                              (try clear hk)
                              (try clear hi)
                              obtain ⟨Ao64, co64, eo64⟩ := Kd.R_slice HO327.out
                              (first | subst eo64 | (injection eo64 with f1_ f2_ f3_; have f4_ := f1_.symm; have f5_ := f3_.symm; clear f1_ f2_ f3_; subst f4_; subst f5_))
                              refine hK.out _ _ ⟨(blk_cell BK312.out 0).trans rfl, (blk_cell BK312.out 1).trans rfl, (blk_cell BK312.out 2).trans rfl, (blk_cell BK312.out 3).trans rfl, (blk_cell BK312.out 4).trans rfl, (blk_cell BK312.out 5).trans rfl, (blk_cell BK312.out 6).trans rfl, (blk_cell BK312.out 7).trans rfl, (blk_cell BK312.out 8).trans rfl, (blk_cell BK315.out 0).trans rfl, (blk_cell BK315.out 1).trans rfl, (blk_cell BK315.out 2).trans rfl, (blk_cell BK315.out 3).trans rfl, (blk_cell BK315.out 4).trans rfl⟩ (fun hHeld => ?_)
                              clear hK K
                              refine norm_ (a' := ?_) ?_ ?_
                              rotate_left
                              · show Act.put _ (some 79) _ = _
                                simp only [Act.put, List.setIfInBounds_toArray, List.set_cons_zero, List.set_cons_succ, i64_w, i32_w]
                                rfl
                              refine pure_ (i := 8) (N := some 81) (v := ?_) (a' := ?_) #[true, true, true, true, true, true, true, true, true, false, false, false, false, false, false, false, false, false, false, false, false, false, false, false, false, false, false, false, false, false, false] rfl rfl (any_of HT_.out (by kernel_rfl)) (fun _ _ _ h => h) (Or.inl ⟨by rfl, ?_⟩) ?_ ?_
                              rotate_left
                              · intro w'
                                go_simp
                                with_reducible rfl
                              rotate_left
                              · simp only [Act.put, List.setIfInBounds_toArray, List.set_cons_zero, List.set_cons_succ, i64_w, i32_w]
                                rfl
                              refine pure_ (i := 9) (N := some 82) (v := ?_) (a' := ?_) #[true, true, true, true, true, true, true, true, true, true, false, false, false, false, false, false, false, false, false, false, false, false, false, false, false, false, false, false, false, false, false] rfl rfl (any_of HT_.out (by kernel_rfl)) (fun _ _ _ h => h) (Or.inl ⟨by rfl, ?_⟩) ?_ ?_
                              rotate_left
                              · intro w'
                                go_simp
                                with_reducible rfl
                              rotate_left
                              · simp only [Act.put, List.setIfInBounds_toArray, List.set_cons_zero, List.set_cons_succ, i64_w, i32_w]
                                rfl
                              refine pure_ (i := 10) (N := some 83) (v := ?_) (a' := ?_) #[true, true, true, true, true, true, true, true, true, true, true, false, false, false, false, false, false, false, false, false, false, false, false, false, false, false, false, false, false, false, false] rfl rfl (any_of HT_.out (by kernel_rfl)) (fun _ _ _ h => h) (Or.inl ⟨by rfl, ?_⟩) ?_ ?_
                              rotate_left
                              · intro w'
                                go_simp
                                with_reducible rfl
                              rotate_left
                              · simp only [Act.put, List.setIfInBounds_toArray, List.set_cons_zero, List.set_cons_succ, i64_w, i32_w]
                                rfl
                              refine pure_ (i := 11) (N := some 84) (v := ?_) (a' := ?_) #[true, true, true, true, true, true, true, true, true, true, true, true, false, false, false, false, false, false, false, false, false, false, false, false, false, false, false, false, false, false, false] rfl rfl (any_of HT_.out (by kernel_rfl)) (fun _ _ _ h => h) (Or.inl ⟨by rfl, ?_⟩) ?_ ?_
                              rotate_left
                              · intro w'
                                go_simp
                                with_reducible rfl
                              rotate_left
                              · simp only [Act.put, List.setIfInBounds_toArray, List.set_cons_zero, List.set_cons_succ, i64_w, i32_w]
                                rfl
                              refine one_ (i := 12) (N := some 85) #[true, true, true, true, true, true, true, true, true, true, true, true, true, false, false, false, false, false, false, false, false, false, false, false, false, false, false, false, false, false, false] rfl rfl (one_of HT_.out (by kernel_rfl)) (by decide) (fun K hK => ?_)
                              refine goes_ Try.func56 (by kernel_rfl) rfl #[.slice Ao64 t325.length co64, .int .i64 x24_1] (by rfl) rfl rfl (by (try simp only [List.map_toArray, List.map_cons, List.map_nil]); first | done | rfl | (simp only [List.length_drop, List.length_take]; rfl)) ?_
                              with_reducible refine (laws_has.calls k2 _ _ t325 x24_1 true _ ?side1 ?side2 A50.out).mono ?_
                              (case side1 => repeat (first | exact (Kd.R_reads' HO327.out).2.2 | (with_reducible refine Kd.C_alloc ?_ _) | (with_reducible refine Kd.C_drewN ?_ _) | (with_reducible refine Kd.C_drew ?_)))
                              (case side2 => exact (Kd.R_reads' HO327.out).2.1)
                              rintro e w' ⟨rfl, ⟨nd, rfl⟩⟩
                              refine ⟨_, rfl, ?_⟩
                              refine hK.out _ _ ⟨(blk_cell BK312.out 0).trans rfl, (blk_cell BK312.out 1).trans rfl, (blk_cell BK312.out 2).trans rfl, (blk_cell BK312.out 3).trans rfl, (blk_cell BK312.out 4).trans rfl, (blk_cell BK312.out 5).trans rfl, (blk_cell BK312.out 6).trans rfl, (blk_cell BK312.out 7).trans rfl, (blk_cell BK312.out 8).trans rfl, (blk_cell BK315.out 0).trans rfl, (blk_cell BK315.out 1).trans rfl, (blk_cell BK315.out 2).trans rfl, (blk_cell BK315.out 3).trans rfl, (blk_cell BK315.out 4).trans rfl⟩ (fun hHeld => ?_)
                              clear hK K
                              refine norm_ (a' := ?_) ?_ ?_
                              rotate_left
                              · show Act.put _ (some 85) _ = _
                                simp only [Act.put, List.setIfInBounds_toArray, List.set_cons_zero, List.set_cons_succ, i64_w, i32_w]
                                rfl
                              refine pure_ (i := 13) (N := some 86) (v := ?_) (a' := ?_) #[true, true, true, true, true, true, true, true, true, true, true, true, true, true, false, false, false, false, false, false, false, false, false, false, false, false, false, false, false, false, false] rfl rfl (any_of HT_.out (by kernel_rfl)) (fun _ _ _ h => h) (Or.inl ⟨by rfl, ?_⟩) ?_ ?_
                              rotate_left
                              · intro w'
                                go_simp
                                with_reducible rfl
                              rotate_left
                              · simp only [Act.put, List.setIfInBounds_toArray, List.set_cons_zero, List.set_cons_succ, i64_w, i32_w]
                                rfl
                              refine pure_ (i := 14) (N := some 87) (v := ?_) (a' := ?_) #[true, true, true, true, true, true, true, true, true, true, true, true, true, true, true, false, false, false, false, false, false, false, false, false, false, false, false, false, false, false, false] rfl rfl (any_of HT_.out (by kernel_rfl)) (fun _ _ _ h => h) (Or.inl ⟨by rfl, ?_⟩) ?_ ?_
                              rotate_left
                              · intro w'
                                go_simp
                                with_reducible rfl
                              rotate_left
                              · simp only [Act.put, List.setIfInBounds_toArray, List.set_cons_zero, List.set_cons_succ, i64_w, i32_w]
                                rfl
                              refine pure_ (i := 15) (N := some 88) (v := ?_) (a' := ?_) #[true, true, true, true, true, true, true, true, true, true, true, true, true, true, true, true, false, false, false, false, false, false, false, false, false, false, false, false, false, false, false] rfl rfl (any_of HT_.out (by kernel_rfl)) (fun _ _ _ h => h) (Or.inl ⟨by rfl, ?_⟩) ?_ ?_
                              rotate_left
                              · intro w'
                                go_simp
                                with_reducible rfl
                              rotate_left
                              · simp only [Act.put, List.setIfInBounds_toArray, List.set_cons_zero, List.set_cons_succ, i64_w, i32_w]
                                rfl
                              refine take_ (i := 16) (N := some 89) (v := ?_) (a' := ?_) #[true, true, true, true, true, true, true, true, true, true, true, true, true, true, true, true, true, false, false, false, false, false, false, false, false, false, false, false, false, false, false] rfl rfl (take_ofW HT_.out HW_.out (by kernel_rfl)) (fun _ _ _ h => h) (Or.inl ⟨by rfl, ?_⟩) hHeld ?_ ?_
                              rotate_left
                              · rintro w' ⟨s0, s1, s2, s3, s4, s5, s6, s7, s8, s9, s10, s11, s12, s13⟩
                                go_simp
                                with_reducible rfl
                              rotate_left
                              · simp only [Act.put, List.setIfInBounds_toArray, List.set_cons_zero, List.set_cons_succ, i64_w, i32_w]
                                rfl
                              refine take_ (i := 18) (N := some 91) (v := ?_) (a' := ?_) #[true, true, true, true, true, true, true, true, true, true, true, true, true, true, true, true, true, false, true, false, false, false, false, false, false, false, false, false, false, false, false] rfl rfl (take_ofW HT_.out HW_.out (by kernel_rfl)) (fun _ _ _ h => h) (Or.inl ⟨by rfl, ?_⟩) hHeld ?_ ?_
                              rotate_left
                              · rintro w' ⟨s0, s1, s2, s3, s4, s5, s6, s7, s8, s9, s10, s11, s12, s13⟩
                                go_simp
                                with_reducible rfl
                              rotate_left
                              · simp only [Act.put, List.setIfInBounds_toArray, List.set_cons_zero, List.set_cons_succ, i64_w, i32_w]
                                rfl
                              refine one_ (i := 17) (N := some 90) #[true, true, true, true, true, true, true, true, true, true, true, true, true, true, true, true, true, true, true, false, false, false, false, false, false, false, false, false, false, false, false] rfl rfl (one_of HT_.out (by kernel_rfl)) (by decide) (fun K hK => ?_)
                              refine goes_ Try.func50 (by kernel_rfl) rfl #[.agg #[.int .i64 ((rd_T61 t303 x24_1).f0), .int .i64 ((rd_T61 t303 x24_1).f1), .int .i64 ((rd_T61 t303 x24_1).f2), .int .i64 ((rd_T61 t303 x24_1).f3), .int .i64 ((rd_T61 t303 x24_1).f4)], .int .i64 0] (by rfl) rfl rfl (by (try simp only [List.map_toArray, List.map_cons, List.map_nil]); first | done | rfl | (simp only [List.length_drop, List.length_take]; rfl)) ?_
                              with_reducible refine (impl_PlayGame.calls ((rd_T61 t303 x24_1).f0) ((rd_T61 t303 x24_1).f1) ((rd_T61 t303 x24_1).f2) ((rd_T61 t303 x24_1).f3) ((rd_T61 t303 x24_1).f4) 0 t330 t331 t332 t333 t334 _ A52.out).mono ?_
                              rintro e w65 ⟨rfl, hb⟩
                              refine ⟨_, rfl, ?_⟩
                              have n0_ := Aside0.mk (Kd.R_below (by (with_reducible repeat (first | apply Kd.R_alloc | apply Kd.R_drewN | apply Kd.R_drew)); exact HO_22.out) hb)
                              have n1_ := Aside0.mk (Kd.R_below (by (with_reducible repeat (first | apply Kd.R_alloc | apply Kd.R_drewN | apply Kd.R_drew)); exact HO_313000.out) hb)
                              have n2_ := Aside0.mk (Kd.R_below (by (with_reducible repeat (first | apply Kd.R_alloc | apply Kd.R_drewN | apply Kd.R_drew)); exact HO_313004.out) hb)
                              have n3_ := Aside0.mk (Kd.R_below (by (with_reducible repeat (first | apply Kd.R_alloc | apply Kd.R_drewN | apply Kd.R_drew)); exact HO_313006.out) hb)
                              have n4_ := Aside0.mk (Kd.R_below (by (with_reducible repeat (first | apply Kd.R_alloc | apply Kd.R_drewN | apply Kd.R_drew)); exact HO_313007.out) hb)
                              have n5_ := Aside0.mk (Kd.R_below (by (with_reducible repeat (first | apply Kd.R_alloc | apply Kd.R_drewN | apply Kd.R_drew)); exact HO_313008.out) hb)
                              have n6_ := Aside0.mk (Kd.R_below (by (with_reducible repeat (first | apply Kd.R_alloc | apply Kd.R_drewN | apply Kd.R_drew)); exact HO327.out) hb)
                              have n7_ := Aside0.mk (blk_below (g := gb312) (o := .cells #[.slice Ao8 t293.length co8, .int .i64 t296, .int .i64 t297, .int .i64 t298, .slice Ao10 t299.length co10, .bool t302, .slice (some ad314) t303.length co11, .slice Ao12 t306.length co12, .slice Ao13 t309.length co13] 68 (0, 0)) (by (with_reducible repeat (first | refine blk_drewN ?_ _ | refine blk_drew ?_ | refine blk_alloc ?_ _)); exact BK312.out) hb)
                              have n8_ := Aside0.mk (blk_below (g := gb315) (o := .cells #[.int .i64 ((rd_T61 t303 x24_1).f0), .int .i64 ((rd_T61 t303 x24_1).f1), .int .i64 ((rd_T61 t303 x24_1).f2), .int .i64 ((rd_T61 t303 x24_1).f3), .int .i64 ((rd_T61 t303 x24_1).f4)] 61 (0, 0)) (by (with_reducible repeat (first | refine blk_drewN ?_ _ | refine blk_drew ?_ | refine blk_alloc ?_ _)); exact BK315.out) hb)
                              have n9_ := Aside0.mk (below_step (by repeat (first | (with_reducible first | exact HB.out | apply below_alloc | apply pw_below_drewN | apply below_drew1 | refine below_set ?_ GE312.out | refine below_set ?_ GE315.out) | exact HB.out)) hb)
                              clear HO_22
                              clear HO_313000
                              clear HO_313004
                              clear HO_313006
                              clear HO_313007
                              clear HO_313008
                              clear HO327
                              clear BK312
                              clear BK315
                              clear HB
                              have HO_22 := n0_
                              have HO_313000 := n1_
                              have HO_313004 := n2_
                              have HO_313006 := n3_
                              have HO_313007 := n4_
                              have HO_313008 := n5_
                              have HO327 := n6_
                              have BK312 := n7_
                              have BK315 := n8_
                              have HB := n9_
                              clear n0_ n1_ n2_ n3_ n4_ n5_ n6_ n7_ n8_ n9_
                              (try clear hb)
                              (try clear hb2)
                              (try clear hk)
                              (try clear hi)
                              refine hK.out _ _ ⟨(blk_cell BK312.out 0).trans rfl, (blk_cell BK312.out 1).trans rfl, (blk_cell BK312.out 2).trans rfl, (blk_cell BK312.out 3).trans rfl, (blk_cell BK312.out 4).trans rfl, (blk_cell BK312.out 5).trans rfl, (blk_cell BK312.out 6).trans rfl, (blk_cell BK312.out 7).trans rfl, (blk_cell BK312.out 8).trans rfl, (blk_cell BK315.out 0).trans rfl, (blk_cell BK315.out 1).trans rfl, (blk_cell BK315.out 2).trans rfl, (blk_cell BK315.out 3).trans rfl, (blk_cell BK315.out 4).trans rfl⟩ (fun hHeld => ?_)
                              clear hK K
                              refine norm_ (a' := ?_) ?_ ?_
                              rotate_left
                              · show Act.put _ (some 90) _ = _
                                simp only [Act.put, List.setIfInBounds_toArray, List.set_cons_zero, List.set_cons_succ, i64_w, i32_w]
                                rfl
                              refine pure_ (i := 19) (N := some 92) (v := ?_) (a' := ?_) #[true, true, true, true, true, true, true, true, true, true, true, true, true, true, true, true, true, true, true, true, false, false, false, false, false, false, false, false, false, false, false] rfl rfl (any_of HT_.out (by kernel_rfl)) (fun _ _ _ h => h) (Or.inl ⟨by rfl, ?_⟩) ?_ ?_
                              rotate_left
                              · intro w'
                                go_simp
                                with_reducible rfl
                              rotate_left
                              · simp only [Act.put, List.setIfInBounds_toArray, List.set_cons_zero, List.set_cons_succ, i64_w, i32_w]
                                rfl
                              refine pure_ (i := 20) (N := some 93) (v := ?_) (a' := ?_) #[true, true, true, true, true, true, true, true, true, true, true, true, true, true, true, true, true, true, true, true, true, false, false, false, false, false, false, false, false, false, false] rfl rfl (any_of HT_.out (by kernel_rfl)) (fun _ _ _ h => h) (Or.inl ⟨by rfl, ?_⟩) ?_ ?_
                              rotate_left
                              · intro w'
                                go_simp
                                with_reducible rfl
                              rotate_left
                              · simp only [Act.put, List.setIfInBounds_toArray, List.set_cons_zero, List.set_cons_succ, i64_w, i32_w]
                                rfl
                              refine pure_ (i := 21) (N := some 94) (v := ?_) (a' := ?_) #[true, true, true, true, true, true, true, true, true, true, true, true, true, true, true, true, true, true, true, true, true, true, false, false, false, false, false, false, false, false, false] rfl rfl (any_of HT_.out (by kernel_rfl)) (fun _ _ _ h => h) (Or.inl ⟨by rfl, ?_⟩) ?_ ?_
                              rotate_left
                              · intro w'
                                go_simp
                                with_reducible rfl
                              rotate_left
                              · simp only [Act.put, List.setIfInBounds_toArray, List.set_cons_zero, List.set_cons_succ, i64_w, i32_w]
                                rfl
                              refine pure_ (i := 22) (N := some 95) (v := ?_) (a' := ?_) #[true, true, true, true, true, true, true, true, true, true, true, true, true, true, true, true, true, true, true, true, true, true, true, false, false, false, false, false, false, false, false] rfl rfl (any_of HT_.out (by kernel_rfl)) (fun _ _ _ h => h) (Or.inl ⟨by rfl, ?_⟩) ?_ ?_
                              rotate_left
                              · intro w'
                                go_simp
                                with_reducible rfl
                              rotate_left
                              · simp only [Act.put, List.setIfInBounds_toArray, List.set_cons_zero, List.set_cons_succ, i64_w, i32_w]
                                rfl
                              refine pure_ (i := 25) (N := some 98) (v := ?_) (a' := ?_) #[true, true, true, true, true, true, true, true, true, true, true, true, true, true, true, true, true, true, true, true, true, true, true, false, false, true, false, false, false, false, false] rfl rfl (any_of HT_.out (by kernel_rfl)) (fun _ _ _ h => h) (Or.inl ⟨by rfl, ?_⟩) ?_ ?_
                              rotate_left
                              · intro w'
                                go_simp
                                with_reducible rfl
                              rotate_left
                              · simp only [Act.put, List.setIfInBounds_toArray, List.set_cons_zero, List.set_cons_succ, i64_w, i32_w]
                                rfl
                              refine take_ (i := 23) (N := some 96) (v := ?_) (a' := ?_) #[true, true, true, true, true, true, true, true, true, true, true, true, true, true, true, true, true, true, true, true, true, true, true, true, false, true, false, false, false, false, false] rfl rfl (take_ofW HT_.out HW_.out (by kernel_rfl)) (fun _ _ _ h => h) (Or.inl ⟨by rfl, ?_⟩) hHeld ?_ ?_
                              rotate_left
                              · rintro w' ⟨s0, s1, s2, s3, s4, s5, s6, s7, s8, s9, s10, s11, s12, s13⟩
                                go_simp
                                with_reducible rfl
                              rotate_left
                              · simp only [Act.put, List.setIfInBounds_toArray, List.set_cons_zero, List.set_cons_succ, i64_w, i32_w]
                                rfl
                              refine take_ (i := 27) (N := some 100) (v := ?_) (a' := ?_) #[true, true, true, true, true, true, true, true, true, true, true, true, true, true, true, true, true, true, true, true, true, true, true, true, false, true, false, true, false, false, false] rfl rfl (take_ofW HT_.out HW_.out (by kernel_rfl)) (fun _ _ _ h => h) (Or.inl ⟨by rfl, ?_⟩) hHeld ?_ ?_
                              rotate_left
                              · rintro w' ⟨s0, s1, s2, s3, s4, s5, s6, s7, s8, s9, s10, s11, s12, s13⟩
                                go_simp
                                with_reducible rfl
                              rotate_left
                              · simp only [Act.put, List.setIfInBounds_toArray, List.set_cons_zero, List.set_cons_succ, i64_w, i32_w]
                                rfl
                              refine one_ (i := 24) (N := some 97) #[true, true, true, true, true, true, true, true, true, true, true, true, true, true, true, true, true, true, true, true, true, true, true, true, true, true, false, true, false, false, false] rfl rfl (one_of HT_.out (by kernel_rfl)) (by decide) (fun K hK => ?_)
                              refine goes_ Try.func57 (by kernel_rfl) rfl #[.slice (some ad314) t303.length co11] (by rfl) rfl rfl (by (try simp only [List.map_toArray, List.map_cons, List.map_nil]); first | done | rfl | (simp only [List.length_drop, List.length_take]; rfl)) ?_
                              with_reducible refine (impl_OpenGames.calls _ _ t303 t335 _ ?side1 ?side2 A54.out).mono ?_
                              (case side1 => repeat (first | exact (Kd.R_reads' HO_313006.out).2.2 | (with_reducible refine Kd.C_alloc ?_ _) | (with_reducible refine Kd.C_drewN ?_ _) | (with_reducible refine Kd.C_drew ?_)))
                              (case side2 => exact (Kd.R_reads' HO_313006.out).2.1)
                              rintro e w66 ⟨v336, rfl, ho0, hb⟩
                              refine ⟨_, rfl, ?_⟩
                              have n0_ := Aside0.mk (Kd.R_below (by (with_reducible repeat (first | apply Kd.R_alloc | apply Kd.R_drewN | apply Kd.R_drew)); exact HO_22.out) hb)
                              have n1_ := Aside0.mk (Kd.R_below (by (with_reducible repeat (first | apply Kd.R_alloc | apply Kd.R_drewN | apply Kd.R_drew)); exact HO_313000.out) hb)
                              have n2_ := Aside0.mk (Kd.R_elder' (by (with_reducible repeat (first | apply Kd.R_alloc | apply Kd.R_drewN | apply Kd.R_drew)); exact HO_313004.out) (Kd.R_base ho0) hb)
                              have n3_ := Aside0.mk (Kd.R_below (by (with_reducible repeat (first | apply Kd.R_alloc | apply Kd.R_drewN | apply Kd.R_drew)); exact HO_313006.out) hb)
                              have n4_ := Aside0.mk (Kd.R_elder' (by (with_reducible repeat (first | apply Kd.R_alloc | apply Kd.R_drewN | apply Kd.R_drew)); exact HO_313007.out) (Kd.R_base ho0) hb)
                              have n5_ := Aside0.mk (Kd.R_elder' (by (with_reducible repeat (first | apply Kd.R_alloc | apply Kd.R_drewN | apply Kd.R_drew)); exact HO_313008.out) (Kd.R_base ho0) hb)
                              have n6_ := Aside0.mk (Kd.R_elder' (by (with_reducible repeat (first | apply Kd.R_alloc | apply Kd.R_drewN | apply Kd.R_drew)); exact HO327.out) (Kd.R_base ho0) hb)
                              have n7_ := Aside0.mk (Kd.R_lower (Kd.R_new' (Kd.R_new' (Kd.R_new' (Kd.R_new' ho0 (Kd.R_lt (by (with_reducible repeat (first | apply Kd.R_alloc | apply Kd.R_drewN | apply Kd.R_drew)); exact HO_313004.out))) (Kd.R_lt (by (with_reducible repeat (first | apply Kd.R_alloc | apply Kd.R_drewN | apply Kd.R_drew)); exact HO_313007.out))) (Kd.R_lt (by (with_reducible repeat (first | apply Kd.R_alloc | apply Kd.R_drewN | apply Kd.R_drew)); exact HO_313008.out))) (Kd.R_lt (by (with_reducible repeat (first | apply Kd.R_alloc | apply Kd.R_drewN | apply Kd.R_drew)); exact HO327.out))) (below_size (by repeat (first | (with_reducible first | exact HB.out | apply below_alloc | apply pw_below_drewN | apply below_drew1 | refine below_set ?_ GE312.out | refine below_set ?_ GE315.out) | exact HB.out))))
                              have n8_ := Aside0.mk (blk_below (g := gb312) (o := .cells #[.slice Ao8 t293.length co8, .int .i64 t296, .int .i64 t297, .int .i64 t298, .slice Ao10 t299.length co10, .bool t302, .slice (some ad314) t303.length co11, .slice Ao12 t306.length co12, .slice Ao13 t309.length co13] 68 (0, 0)) (by (with_reducible repeat (first | refine blk_drewN ?_ _ | refine blk_drew ?_ | refine blk_alloc ?_ _)); exact BK312.out) hb)
                              have n9_ := Aside0.mk (blk_below (g := gb315) (o := .cells #[.int .i64 ((rd_T61 t303 x24_1).f0), .int .i64 ((rd_T61 t303 x24_1).f1), .int .i64 ((rd_T61 t303 x24_1).f2), .int .i64 ((rd_T61 t303 x24_1).f3), .int .i64 ((rd_T61 t303 x24_1).f4)] 61 (0, 0)) (by (with_reducible repeat (first | refine blk_drewN ?_ _ | refine blk_drew ?_ | refine blk_alloc ?_ _)); exact BK315.out) hb)
                              have n10_ := Aside0.mk (below_step (by repeat (first | (with_reducible first | exact HB.out | apply below_alloc | apply pw_below_drewN | apply below_drew1 | refine below_set ?_ GE312.out | refine below_set ?_ GE315.out) | exact HB.out)) hb)
                              clear HO_22
                              clear HO_313000
                              clear HO_313004
                              clear HO_313006
                              clear HO_313007
                              clear HO_313008
                              clear HO327
                              clear BK312
                              clear BK315
                              clear HB
                              have HO_22 := n0_
                              have HO_313000 := n1_
                              have HO_313004 := n2_
                              have HO_313006 := n3_
                              have HO_313007 := n4_
                              have HO_313008 := n5_
                              have HO327 := n6_
                              have HO337 := n7_
                              have BK312 := n8_
                              have BK315 := n9_
                              have HB := n10_
                              clear n0_ n1_ n2_ n3_ n4_ n5_ n6_ n7_ n8_ n9_ n10_
                              (try clear hb)
                              (try clear hb2)
                              (try clear hk)
                              (try clear hi)
                              (try clear ho0)
                              obtain ⟨Ao67, co67, eo67⟩ := Kd.R_slice HO337.out
                              (first | subst eo67 | (injection eo67 with f1_ f2_ f3_; have f4_ := f1_.symm; have f5_ := f3_.symm; clear f1_ f2_ f3_; subst f4_; subst f5_))
                              refine hK.out _ _ ⟨(blk_cell BK312.out 0).trans rfl, (blk_cell BK312.out 1).trans rfl, (blk_cell BK312.out 2).trans rfl, (blk_cell BK312.out 3).trans rfl, (blk_cell BK312.out 4).trans rfl, (blk_cell BK312.out 5).trans rfl, (blk_cell BK312.out 6).trans rfl, (blk_cell BK312.out 7).trans rfl, (blk_cell BK312.out 8).trans rfl, (blk_cell BK315.out 0).trans rfl, (blk_cell BK315.out 1).trans rfl, (blk_cell BK315.out 2).trans rfl, (blk_cell BK315.out 3).trans rfl, (blk_cell BK315.out 4).trans rfl⟩ (fun hHeld => ?_)
                              clear hK K
                              refine norm_ (a' := ?_) ?_ ?_
                              rotate_left
                              · show Act.put _ (some 97) _ = _
                                simp only [Act.put, List.setIfInBounds_toArray, List.set_cons_zero, List.set_cons_succ, i64_w, i32_w]
                                rfl
                              refine one_ (i := 26) (N := some 99) #[true, true, true, true, true, true, true, true, true, true, true, true, true, true, true, true, true, true, true, true, true, true, true, true, true, true, true, true, false, false, false] rfl rfl (one_of HT_.out (by kernel_rfl)) (by decide) (fun K hK => ?_)
                              refine goes_ Try.func56 (by kernel_rfl) rfl #[.slice Ao67 t335.length co67, .int .i64 x24_1] (by rfl) rfl rfl (by (try simp only [List.map_toArray, List.map_cons, List.map_nil]); first | done | rfl | (simp only [List.length_drop, List.length_take]; rfl)) ?_
                              with_reducible refine (laws_has.calls k2 _ _ t335 x24_1 t338 _ ?side1 ?side2 A55.out).mono ?_
                              (case side1 => repeat (first | exact (Kd.R_reads' HO337.out).2.2 | (with_reducible refine Kd.C_alloc ?_ _) | (with_reducible refine Kd.C_drewN ?_ _) | (with_reducible refine Kd.C_drew ?_)))
                              (case side2 => exact (Kd.R_reads' HO337.out).2.1)
                              rintro e w' ⟨rfl, ⟨nd, rfl⟩⟩
                              refine ⟨_, rfl, ?_⟩
                              refine hK.out _ _ ⟨(blk_cell BK312.out 0).trans rfl, (blk_cell BK312.out 1).trans rfl, (blk_cell BK312.out 2).trans rfl, (blk_cell BK312.out 3).trans rfl, (blk_cell BK312.out 4).trans rfl, (blk_cell BK312.out 5).trans rfl, (blk_cell BK312.out 6).trans rfl, (blk_cell BK312.out 7).trans rfl, (blk_cell BK312.out 8).trans rfl, (blk_cell BK315.out 0).trans rfl, (blk_cell BK315.out 1).trans rfl, (blk_cell BK315.out 2).trans rfl, (blk_cell BK315.out 3).trans rfl, (blk_cell BK315.out 4).trans rfl⟩ (fun hHeld => ?_)
                              clear hK K
                              refine norm_ (a' := ?_) ?_ ?_
                              rotate_left
                              · show Act.put _ (some 99) _ = _
                                simp only [Act.put, List.setIfInBounds_toArray, List.set_cons_zero, List.set_cons_succ, i64_w, i32_w]
                                rfl
                              refine one_ (i := 28) (N := some 101) #[true, true, true, true, true, true, true, true, true, true, true, true, true, true, true, true, true, true, true, true, true, true, true, true, true, true, true, true, true, false, false] rfl rfl (one_of HT_.out (by kernel_rfl)) (by decide) (fun K hK => ?_)
                              refine goes_ Try.func53 (by kernel_rfl) rfl #[.agg #[.int .i64 ((rd_T61 t303 x24_1).f0), .int .i64 ((rd_T61 t303 x24_1).f1), .int .i64 ((rd_T61 t303 x24_1).f2), .int .i64 ((rd_T61 t303 x24_1).f3), .int .i64 ((rd_T61 t303 x24_1).f4)]] (by rfl) rfl rfl (by (try simp only [List.map_toArray, List.map_cons, List.map_nil]); first | done | rfl | (simp only [List.length_drop, List.length_take]; rfl)) ?_
                              with_reducible refine (impl_IsOpen.calls ((rd_T61 t303 x24_1).f0) ((rd_T61 t303 x24_1).f1) ((rd_T61 t303 x24_1).f2) ((rd_T61 t303 x24_1).f3) ((rd_T61 t303 x24_1).f4) t339 _ A56.out).mono ?_
                              rintro e w68 ⟨rfl, hb⟩
                              refine ⟨_, rfl, ?_⟩
                              have n0_ := Aside0.mk (Kd.R_below (by (with_reducible repeat (first | apply Kd.R_alloc | apply Kd.R_drewN | apply Kd.R_drew)); exact HO_22.out) hb)
                              have n1_ := Aside0.mk (Kd.R_below (by (with_reducible repeat (first | apply Kd.R_alloc | apply Kd.R_drewN | apply Kd.R_drew)); exact HO_313000.out) hb)
                              have n2_ := Aside0.mk (Kd.R_below (by (with_reducible repeat (first | apply Kd.R_alloc | apply Kd.R_drewN | apply Kd.R_drew)); exact HO_313004.out) hb)
                              have n3_ := Aside0.mk (Kd.R_below (by (with_reducible repeat (first | apply Kd.R_alloc | apply Kd.R_drewN | apply Kd.R_drew)); exact HO_313006.out) hb)
                              have n4_ := Aside0.mk (Kd.R_below (by (with_reducible repeat (first | apply Kd.R_alloc | apply Kd.R_drewN | apply Kd.R_drew)); exact HO_313007.out) hb)
                              have n5_ := Aside0.mk (Kd.R_below (by (with_reducible repeat (first | apply Kd.R_alloc | apply Kd.R_drewN | apply Kd.R_drew)); exact HO_313008.out) hb)
                              have n6_ := Aside0.mk (Kd.R_below (by (with_reducible repeat (first | apply Kd.R_alloc | apply Kd.R_drewN | apply Kd.R_drew)); exact HO327.out) hb)
                              have n7_ := Aside0.mk (Kd.R_below (by (with_reducible repeat (first | apply Kd.R_alloc | apply Kd.R_drewN | apply Kd.R_drew)); exact HO337.out) hb)
                              have n8_ := Aside0.mk (blk_below (g := gb312) (o := .cells #[.slice Ao8 t293.length co8, .int .i64 t296, .int .i64 t297, .int .i64 t298, .slice Ao10 t299.length co10, .bool t302, .slice (some ad314) t303.length co11, .slice Ao12 t306.length co12, .slice Ao13 t309.length co13] 68 (0, 0)) (by (with_reducible repeat (first | refine blk_drewN ?_ _ | refine blk_drew ?_ | refine blk_alloc ?_ _)); exact BK312.out) hb)
                              have n9_ := Aside0.mk (blk_below (g := gb315) (o := .cells #[.int .i64 ((rd_T61 t303 x24_1).f0), .int .i64 ((rd_T61 t303 x24_1).f1), .int .i64 ((rd_T61 t303 x24_1).f2), .int .i64 ((rd_T61 t303 x24_1).f3), .int .i64 ((rd_T61 t303 x24_1).f4)] 61 (0, 0)) (by (with_reducible repeat (first | refine blk_drewN ?_ _ | refine blk_drew ?_ | refine blk_alloc ?_ _)); exact BK315.out) hb)
                              have n10_ := Aside0.mk (below_step (by repeat (first | (with_reducible first | exact HB.out | apply below_alloc | apply pw_below_drewN | apply below_drew1 | refine below_set ?_ GE312.out | refine below_set ?_ GE315.out) | exact HB.out)) hb)
                              clear HO_22
                              clear HO_313000
                              clear HO_313004
                              clear HO_313006
                              clear HO_313007
                              clear HO_313008
                              clear HO327
                              clear HO337
                              clear BK312
                              clear BK315
                              clear HB
                              have HO_22 := n0_
                              have HO_313000 := n1_
                              have HO_313004 := n2_
                              have HO_313006 := n3_
                              have HO_313007 := n4_
                              have HO_313008 := n5_
                              have HO327 := n6_
                              have HO337 := n7_
                              have BK312 := n8_
                              have BK315 := n9_
                              have HB := n10_
                              clear n0_ n1_ n2_ n3_ n4_ n5_ n6_ n7_ n8_ n9_ n10_
                              (try clear hb)
                              (try clear hb2)
                              (try clear hk)
                              (try clear hi)
                              refine hK.out _ _ ⟨(blk_cell BK312.out 0).trans rfl, (blk_cell BK312.out 1).trans rfl, (blk_cell BK312.out 2).trans rfl, (blk_cell BK312.out 3).trans rfl, (blk_cell BK312.out 4).trans rfl, (blk_cell BK312.out 5).trans rfl, (blk_cell BK312.out 6).trans rfl, (blk_cell BK312.out 7).trans rfl, (blk_cell BK312.out 8).trans rfl, (blk_cell BK315.out 0).trans rfl, (blk_cell BK315.out 1).trans rfl, (blk_cell BK315.out 2).trans rfl, (blk_cell BK315.out 3).trans rfl, (blk_cell BK315.out 4).trans rfl⟩ (fun hHeld => ?_)
                              clear hK K
                              refine norm_ (a' := ?_) ?_ ?_
                              rotate_left
                              · show Act.put _ (some 101) _ = _
                                simp only [Act.put, List.setIfInBounds_toArray, List.set_cons_zero, List.set_cons_succ, i64_w, i32_w]
                                rfl
                              refine pure_ (i := 29) (N := some 102) (v := ?_) (a' := ?_) #[true, true, true, true, true, true, true, true, true, true, true, true, true, true, true, true, true, true, true, true, true, true, true, true, true, true, true, true, true, true, false] rfl rfl (any_of HT_.out (by kernel_rfl)) (fun _ _ _ h => h) (Or.inl ⟨by rfl, ?_⟩) ?_ ?_
                              rotate_left
                              · intro w'
                                go_simp
                                with_reducible rfl
                              rotate_left
                              · simp only [Act.put, List.setIfInBounds_toArray, List.set_cons_zero, List.set_cons_succ, i64_w, i32_w]
                                rfl
                              refine pure_ (i := 30) (N := some 103) (v := ?_) (a' := ?_) #[true, true, true, true, true, true, true, true, true, true, true, true, true, true, true, true, true, true, true, true, true, true, true, true, true, true, true, true, true, true, true] rfl rfl (any_of HT_.out (by kernel_rfl)) (fun _ _ _ h => h) (Or.inl ⟨by rfl, ?_⟩) ?_ ?_
                              rotate_left
                              · intro w'
                                go_simp
                                with_reducible rfl
                              rotate_left
                              · simp only [Act.put, List.setIfInBounds_toArray, List.set_cons_zero, List.set_cons_succ, i64_w, i32_w]
                                rfl
                              refine done_ (done_of HT_.out (by kernel_rfl)) ?_
                              try go_wp2
                              go_roundg k2
                              case measure => have := HK1.out; have := HK2.out; omega
                              case rel => exact ⟨(wrap64 (x24_1 + 1)), (by first | rfl | (simp; done) | (simp [*]; done)), H', ⟨by have := HK1.out; have := HK2.out; omega⟩, ⟨by (with_reducible repeat (first | apply Kd.R_alloc | apply Kd.R_drewN | apply Kd.R_drew)); exact Kd.R_mono HO_22.out (fun _ hk => trivial)⟩, ⟨by (with_reducible repeat (first | apply Kd.R_alloc | apply Kd.R_drewN | apply Kd.R_drew)); exact HO_313000.out⟩, ⟨by (with_reducible repeat (first | apply Kd.R_alloc | apply Kd.R_drewN | apply Kd.R_drew)); exact Kd.R_mono HO_313004.out (fun _ hk => ⟨hk.1.1.1, hk.1.1.2⟩)⟩, ⟨by (with_reducible repeat (first | apply Kd.R_alloc | apply Kd.R_drewN | apply Kd.R_drew)); exact Kd.R_mono HO_313006.out (fun _ hk => trivial)⟩, ⟨by (with_reducible repeat (first | apply Kd.R_alloc | apply Kd.R_drewN | apply Kd.R_drew)); exact Kd.R_mono HO_313007.out (fun _ hk => ⟨hk.1.1.1, hk.1.1.2⟩)⟩, ⟨by (with_reducible repeat (first | apply Kd.R_alloc | apply Kd.R_drewN | apply Kd.R_drew)); exact Kd.R_mono HO_313008.out (fun _ hk => ⟨hk.1.1.1, hk.1.1.2⟩)⟩, ⟨by (with_reducible repeat (first | refine blk_drewN ?_ _ | refine blk_drew ?_ | refine blk_alloc ?_ _)); exact BK312.out⟩, ⟨by repeat (first | (with_reducible first | exact HB.out | apply below_alloc | apply pw_below_drewN | apply below_drew1 | refine below_set ?_ GE312.out | refine below_set ?_ GE315.out) | exact HB.out)⟩⟩
                        · replace c51 := Bool.eq_false_iff.mpr c51
                          subst c51
                          have H1 : (some false) = some r := by rw [if_neg (show ¬ (false = true) by decide)] at H; exact H
                          clear H
                          have H := H1
                          clear H1
                          exact absurd ((Option.some.inj H).trans HR_.out) (by decide)
                      · rw [if_neg c49] at H
                        have c49b0 : (t328 == x24_1) = false := beq_eq_false_iff_ne.mpr c49
                        have c49b1 : (t328 != x24_1) = true := bne_iff_ne.mpr c49
                        exact absurd ((Option.some.inj H).trans HR_.out) (by decide)
              · rw [if_neg c18] at H
                exact absurd H (by simp)
            · rw [if_neg c17] at H
              exact absurd H (by simp)
          · rw [if_neg c16] at H
            have c16b0 : decide (x24_1 < (t303.length : Int)) = false := decide_eq_false c16
            clear c16
            obtain rfl := Option.some.inj H
            go_wp2
            go_ret
            exact ⟨by first | rfl | (simp [errW_none, errW_some] <;> rfl) | (simp [*, errW_none, errW_some] <;> rfl), by repeat (first | (with_reducible first | exact HB.out | apply below_alloc | apply pw_below_drewN | apply below_drew1 | refine below_set ?_ GE312.out) | exact HB.out)⟩
    · replace c5 := Bool.eq_false_iff.mpr c5
      subst c5
      have H1 : (some false) = some r := by rw [if_neg (show ¬ (false = true) by decide)] at H; exact H
      clear H
      have H := H1
      clear H1
      exact absurd ((Option.some.inj H).trans HR_.out) (by decide)

end Go.Proofs.Ytapmiocpkddbfaa.MFnGames
