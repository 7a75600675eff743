/- The functions that FnExactApplyNotes reaches, each with its contract: the print's form, by wip/tools/myprint.py; no condition of its own. -/
import Derived.Test.YtikfdjgigeggjaaMFnExactApplyNotesx0
import Derived.Test.YtikfdjgigeggjaaMFnExactApplyNotesx1
import Derived.Test.YtikfdjgigeggjaaMFnExactApplyNotesx2
import Derived.Test.YtikfdjgigeggjaaMFnExactApplyNotesx4
import Derived.Test.YtikfdjgigeggjaaMFnExactApplyNotesx5
namespace Go.Proofs.Ytikfdjgigeggjaa.MFnExactApplyNotes
open Go.RowKit Go.Proofs.YtikfdjgigeggjaaW.PrintWords Go.Proofs.YtikfdjgigeggjaaW.PrintLast Go.Proofs.YtikfdjgigeggjaaW.PrintMore
attribute [local go_sem] max2_int min2_int max_two min_two max_three min_three max_four min_four   -- for this text's walks alone
set_option linter.unusedVariables false
set_option linter.unusedSimpArgs false

attribute [local go_sem high] eqA97
/-! ### spec_NotesOk: function 76 -/
mutual
def spec_NotesOk.j0 : Nat → Int → List (S71) → List (S97) → Bool → Option (Bool)
  | 0, _, _, _, _ => none
  | k + 1, x0, x1, x2, x19 => if x19 = true then (some false) else (spec_NotesOk.l0 k x0 x1 x2 x2 (x2.length : Int) 0)
def spec_NotesOk.l0 : Nat → Int → List (S71) → List (S97) → List (S97) → Int → Int → Option (Bool)
  | 0, _, _, _, _, _, _ => none
  | k + 1, x0, x1, x2, x20, x21, x22 => if x22 < x21 then (if 0 ≤ x22 then (if x22 < (x20.length : Int) then ((spec_l05Note.f k x0 x1 ((rd_T97 x20 x22).f0) ((rd_T97 x20 x22).f1) ((rd_T97 x20 x22).f2.f0) ((rd_T97 x20 x22).f2.f1) ((rd_T97 x20 x22).f2.f2) ((rd_T97 x20 x22).f2.f3) ((rd_T97 x20 x22).f2.f4)).bind fun t176 => (if t176 = true then (if x22 ≤ (x2.length : Int) then ((some (x2.take (x22 : Int).toNat : List (S97))).bind fun y177 => (spec_NotesOk.l1 k x0 x1 x2 x20 x21 x22 y177 (y177.length : Int) 0 ((rd_T97 x20 x22).f0) ((rd_T97 x20 x22).f1) ((rd_T97 x20 x22).f2.f0) ((rd_T97 x20 x22).f2.f1) ((rd_T97 x20 x22).f2.f2) ((rd_T97 x20 x22).f2.f3) ((rd_T97 x20 x22).f2.f4))) else (none)) else (some false))) else (none)) else (none)) else (some true)
def spec_NotesOk.l1 : Nat → Int → List (S71) → List (S97) → List (S97) → Int → Int → List (S97) → Int → Int → Int → Int → Int → Int → Int → Int → Int → Option (Bool)
  | 0, _, _, _, _, _, _, _, _, _, _, _, _, _, _, _, _ => none
  | k + 1, x0, x1, x2, x20, x21, x22, x34, x35, x36, x176000, x176001, x176002, x176003, x176004, x176005, x176006 => if x36 < x35 then (if 0 ≤ x36 then (if x36 < (x34.length : Int) then (if ((rd_T97 x34 x36).f0) = x176000 then (if (!(((rd_T97 x34 x36).f0) == x176000) || (!(((rd_T97 x34 x36).f1) == x176001) || ((!(((rd_T97 x34 x36).f2.f0) == x176002) || (!(((rd_T97 x34 x36).f2.f1) == x176003) || (!(((rd_T97 x34 x36).f2.f2) == x176004) || (!(((rd_T97 x34 x36).f2.f3) == x176005) || (!(((rd_T97 x34 x36).f2.f4) == x176006))))))))) = true then (some false) else (spec_NotesOk.l1 k x0 x1 x2 x20 x21 x22 x34 x35 (wrap64 (x36 + 1)) x176000 x176001 x176002 x176003 x176004 x176005 x176006)) else (spec_NotesOk.l1 k x0 x1 x2 x20 x21 x22 x34 x35 (wrap64 (x36 + 1)) x176000 x176001 x176002 x176003 x176004 x176005 x176006)) else (none)) else (none)) else (spec_NotesOk.l0 k x0 x1 x2 x20 x21 (wrap64 (x22 + 1)))
end
def spec_NotesOk.f (k : Nat) (a0 : Int) (l1 : List (S71)) (l2 : List (S97)) : Option (Bool) := (spec_SeasonOk.f k a0 l1).bind fun t173 => (if t173 = true then (spec_NotesOk.j0 k a0 l1 l2 (decide ((l2.length : Int) > 80))) else (spec_NotesOk.j0 k a0 l1 l2 true))
theorem spec_NotesOk.mono_l : ∀ k, (∀ y0 y1 y2 y3, LeO (spec_NotesOk.j0 k y0 y1 y2 y3) (spec_NotesOk.j0 (k + 1) y0 y1 y2 y3)) ∧ (∀ y0 y1 y2 y3 y4 y5, LeO (spec_NotesOk.l0 k y0 y1 y2 y3 y4 y5) (spec_NotesOk.l0 (k + 1) y0 y1 y2 y3 y4 y5)) ∧ (∀ y0 y1 y2 y3 y4 y5 y6 y7 y8 y9 y10 y11 y12 y13 y14 y15, LeO (spec_NotesOk.l1 k y0 y1 y2 y3 y4 y5 y6 y7 y8 y9 y10 y11 y12 y13 y14 y15) (spec_NotesOk.l1 (k + 1) y0 y1 y2 y3 y4 y5 y6 y7 y8 y9 y10 y11 y12 y13 y14 y15))
  | 0 => ⟨fun _ _ _ _ r h => by simp [spec_NotesOk.j0] at h, fun _ _ _ _ _ _ r h => by simp [spec_NotesOk.l0] at h, fun _ _ _ _ _ _ _ _ _ _ _ _ _ _ _ _ r h => by simp [spec_NotesOk.l1] at h⟩
  | k + 1 => by
    obtain ⟨ih0, ih1, ih2⟩ := spec_NotesOk.mono_l k
    refine ⟨?_, ?_, ?_⟩
    · intro y0 y1 y2 y3
      unfold spec_NotesOk.j0
      repeat' first
      | (with_reducible exact ih0 _ _ _ _)
      | (with_reducible exact ih1 _ _ _ _ _ _)
      | (with_reducible exact ih2 _ _ _ _ _ _ _ _ _ _ _ _ _ _ _ _)
      | (with_reducible exact spec_SeasonOk.mono _ _ _)
      | (with_reducible exact spec_l05Note.mono _ _ _ _ _ _ _ _ _ _)
      | (with_reducible exact LeO.refl _)
      | (with_reducible exact LeO.none _)
      | (with_reducible refine LeO.ite ?_ ?_)
      | (with_reducible refine LeO.bind ?_ (fun _ => ?_))
      | exact ih0 _ _ _ _
      | exact ih1 _ _ _ _ _ _
      | exact ih2 _ _ _ _ _ _ _ _ _ _ _ _ _ _ _ _
      | exact spec_SeasonOk.mono _ _ _
      | exact spec_l05Note.mono _ _ _ _ _ _ _ _ _ _
      | exact LeO.none _
      | refine LeO.ite ?_ ?_
      | refine LeO.bind ?_ (fun _ => ?_)
    · intro y0 y1 y2 y3 y4 y5
      unfold spec_NotesOk.l0
      repeat' first
      | (with_reducible exact ih0 _ _ _ _)
      | (with_reducible exact ih1 _ _ _ _ _ _)
      | (with_reducible exact ih2 _ _ _ _ _ _ _ _ _ _ _ _ _ _ _ _)
      | (with_reducible exact spec_SeasonOk.mono _ _ _)
      | (with_reducible exact spec_l05Note.mono _ _ _ _ _ _ _ _ _ _)
      | (with_reducible exact LeO.refl _)
      | (with_reducible exact LeO.none _)
      | (with_reducible refine LeO.ite ?_ ?_)
      | (with_reducible refine LeO.bind ?_ (fun _ => ?_))
      | exact ih0 _ _ _ _
      | exact ih1 _ _ _ _ _ _
      | exact ih2 _ _ _ _ _ _ _ _ _ _ _ _ _ _ _ _
      | exact spec_SeasonOk.mono _ _ _
      | exact spec_l05Note.mono _ _ _ _ _ _ _ _ _ _
      | exact LeO.none _
      | refine LeO.ite ?_ ?_
      | refine LeO.bind ?_ (fun _ => ?_)
    · intro y0 y1 y2 y3 y4 y5 y6 y7 y8 y9 y10 y11 y12 y13 y14 y15
      unfold spec_NotesOk.l1
      repeat' first
      | (with_reducible exact ih0 _ _ _ _)
      | (with_reducible exact ih1 _ _ _ _ _ _)
      | (with_reducible exact ih2 _ _ _ _ _ _ _ _ _ _ _ _ _ _ _ _)
      | (with_reducible exact spec_SeasonOk.mono _ _ _)
      | (with_reducible exact spec_l05Note.mono _ _ _ _ _ _ _ _ _ _)
      | (with_reducible exact LeO.refl _)
      | (with_reducible exact LeO.none _)
      | (with_reducible refine LeO.ite ?_ ?_)
      | (with_reducible refine LeO.bind ?_ (fun _ => ?_))
      | exact ih0 _ _ _ _
      | exact ih1 _ _ _ _ _ _
      | exact ih2 _ _ _ _ _ _ _ _ _ _ _ _ _ _ _ _
      | exact spec_SeasonOk.mono _ _ _
      | exact spec_l05Note.mono _ _ _ _ _ _ _ _ _ _
      | exact LeO.none _
      | refine LeO.ite ?_ ?_
      | refine LeO.bind ?_ (fun _ => ?_)
theorem spec_NotesOk.mono : ∀ a0 a1 a2 k, LeO (spec_NotesOk.f k a0 a1 a2) (spec_NotesOk.f (k + 1) a0 a1 a2) := by
  intro a0 a1 a2 k
  obtain ⟨ih0, ih1, ih2⟩ := spec_NotesOk.mono_l k
  unfold spec_NotesOk.f
  repeat' first
      | (with_reducible exact ih0 _ _ _ _)
      | (with_reducible exact ih1 _ _ _ _ _ _)
      | (with_reducible exact ih2 _ _ _ _ _ _ _ _ _ _ _ _ _ _ _ _)
      | (with_reducible exact spec_SeasonOk.mono _ _ _)
      | (with_reducible exact spec_l05Note.mono _ _ _ _ _ _ _ _ _ _)
      | (with_reducible exact LeO.refl _)
      | (with_reducible exact LeO.none _)
      | (with_reducible refine LeO.ite ?_ ?_)
      | (with_reducible refine LeO.bind ?_ (fun _ => ?_))
      | exact ih0 _ _ _ _
      | exact ih1 _ _ _ _ _ _
      | exact ih2 _ _ _ _ _ _ _ _ _ _ _ _ _ _ _ _
      | exact spec_SeasonOk.mono _ _ _
      | exact spec_l05Note.mono _ _ _ _ _ _ _ _ _ _
      | exact LeO.none _
      | refine LeO.ite ?_ ?_
      | refine LeO.bind ?_ (fun _ => ?_)
set_option maxHeartbeats 8000000 in
set_option maxRecDepth 100000 in
theorem spec_NotesOk.calls (k : Nat) (a0 : Int) (A1 : Option Addr) (c1 : Nat) (l1 : List (S71)) (A2 : Option Addr) (c2 : Nat) (l2 : List (S97)) (r : Bool) (w : World) (hr1 : Kd.C k71 w A1 l1.length l1) (hc1 : l1.length ≤ c1) (hr2 : Kd.C k97 w A2 l2.length l2) (hc2 : l2.length ≤ c2) (h : spec_NotesOk.f k a0 l1 l2 = some r) :
    Calls Try.prog 76 #[.int .i64 a0, .slice A1 l1.length c1, .slice A2 l2.length c2] w fun e w' => e = .returned (.bool r) ∧ Below w.heap.size w w' := by
  have hu97 := Try.underlying97
  have HR1 := Aside0.mk hr1
  have HC1 := Aside0.mk hc1
  clear hr1 hc1
  have HR2 := Aside0.mk hr2
  have HC2 := Aside0.mk hc2
  clear hr2 hc2
  have HB := Aside0.mk (Below.refl w.heap.size w)
  have H : ((spec_SeasonOk.f k a0 l1).bind fun t173 => (if t173 = true then (spec_NotesOk.j0 k a0 l1 l2 (decide ((l2.length : Int) > 80))) else (spec_NotesOk.j0 k a0 l1 l2 true))) = some r := h
  clear h
  have HC4 := Aside0.mk H
  clear H
  go_enter Try.func76, Try.ntmps76
  go_upto_region 1 with (fail)
  go_cut [19] (fun v19 wc => ∃ (kq : Nat) (x19_3 : Bool), v19 = .bool x19_3 ∧ Aside0 (spec_NotesOk.j0 kq a0 l1 l2 x19_3 = some r) ∧ Aside0 (kq ≤ k) ∧ Aside0 (Below w.heap.size w wc))
  case first =>
    have H := HC4.out
    clear HC4
    replace H := Option.bind_eq_some_iff.mp H
    obtain ⟨t173, A50, H⟩ := H
    replace H : (if t173 = true then (spec_NotesOk.j0 k a0 l1 l2 (decide ((l2.length : Int) > 80))) else (spec_NotesOk.j0 k a0 l1 l2 true)) = some r := H
    have A5 := Aside0.mk A50
    clear A50
    by_cases c6 : t173 = true
    · subst c6
      have H1 : (spec_NotesOk.j0 k a0 l1 l2 (decide ((l2.length : Int) > 80))) = some r := by rw [if_pos rfl] at H; exact H
      clear H
      have H := H1
      clear H1
      have H' := Aside0.mk H
      clear H
      go_wp2_with (first | ((with_reducible refine gate_callee (f := 84) rfl ?_); refine goesL_ (some 13) rfl rfl Try.func84 (by kernel_rfl) rfl #[.int .i64 a0, .slice A1 l1.length c1] rfl (by (try simp only [List.map_toArray, List.map_cons, List.map_nil]); first | done | rfl | (simp only [List.length_drop, List.length_take]; rfl)) ?_; (with_reducible refine (spec_SeasonOk.calls k a0 _ _ l1 true _ ?side1 ?side2 A5.out).mono ?_); (case side1 => repeat (first | exact (Kd.C_below HR1.out HB.out) | (with_reducible refine Kd.C_alloc ?_ _) | (with_reducible refine Kd.C_drewN ?_ _) | (with_reducible refine Kd.C_drew ?_))); (case side2 => exact HC1.out); rintro e w7 ⟨rfl, hb⟩; refine ⟨_, rfl, ?_⟩; have n0_ := Aside0.mk (below_step (by repeat (first | (with_reducible first | exact HB.out | apply below_alloc | apply pw_below_drewN | apply below_drew1) | exact HB.out)) hb); clear HB; have HB := n0_; clear n0_; (try clear hb); (try clear hb2); (try clear hk); (try clear hi)))
      go_meet
      case rel => exact ⟨_, (decide ((l2.length : Int) > 80)), (by first | rfl | (simp; done) | (simp [*]; done)), H', ⟨by first | omega | exact Nat.le_refl _⟩, ⟨by repeat (first | (with_reducible first | exact HB.out | apply below_alloc | apply pw_below_drewN | apply below_drew1) | exact HB.out)⟩⟩
    · replace c6 := Bool.eq_false_iff.mpr c6
      subst c6
      have H1 : (spec_NotesOk.j0 k a0 l1 l2 true) = some r := by rw [if_neg (show ¬ (false = true) by decide)] at H; exact H
      clear H
      have H := H1
      clear H1
      have H' := Aside0.mk H
      clear H
      go_wp2_with (first | ((with_reducible refine gate_callee (f := 84) rfl ?_); refine goesL_ (some 13) rfl rfl Try.func84 (by kernel_rfl) rfl #[.int .i64 a0, .slice A1 l1.length c1] rfl (by (try simp only [List.map_toArray, List.map_cons, List.map_nil]); first | done | rfl | (simp only [List.length_drop, List.length_take]; rfl)) ?_; (with_reducible refine (spec_SeasonOk.calls k a0 _ _ l1 false _ ?side1 ?side2 A5.out).mono ?_); (case side1 => repeat (first | exact (Kd.C_below HR1.out HB.out) | (with_reducible refine Kd.C_alloc ?_ _) | (with_reducible refine Kd.C_drewN ?_ _) | (with_reducible refine Kd.C_drew ?_))); (case side2 => exact HC1.out); rintro e w8 ⟨rfl, hb⟩; refine ⟨_, rfl, ?_⟩; have n0_ := Aside0.mk (below_step (by repeat (first | (with_reducible first | exact HB.out | apply below_alloc | apply pw_below_drewN | apply below_drew1) | exact HB.out)) hb); clear HB; have HB := n0_; clear n0_; (try clear hb); (try clear hb2); (try clear hk); (try clear hi)))
      go_meet
      case rel => exact ⟨_, (true), (by first | rfl | (simp; done) | (simp [*]; done)), H', ⟨by first | omega | exact Nat.le_refl _⟩, ⟨by repeat (first | (with_reducible first | exact HB.out | apply below_alloc | apply pw_below_drewN | apply below_drew1) | exact HB.out)⟩⟩
  case rest =>
    clear HC4
    try clear c1
    try clear c2
    try clear p2
    try clear c6
    try clear c7
    try clear c8
    obtain ⟨kq, x19_3, rfl, HA, HJ3, HB⟩ := hcut
    cases kq with
    | zero => exact absurd HA.out (by simp [spec_NotesOk.j0])
    | succ kj3 =>
      have H := HA.out
      clear HA
      simp only [spec_NotesOk.j0] at H
      by_cases c9 : x19_3 = true
      · subst c9
        have H1 : (some false) = some r := by rw [if_pos rfl] at H; exact H
        clear H
        have H := H1
        clear H1
        obtain rfl := Option.some.inj H
        go_wp2
        go_ret
        exact ⟨by first | rfl | (simp [errW_none, errW_some] <;> rfl) | (simp [*, errW_none, errW_some] <;> rfl), by repeat (first | (with_reducible first | exact HB.out | apply below_alloc | apply pw_below_drewN | apply below_drew1) | exact HB.out)⟩
      · replace c9 := Bool.eq_false_iff.mpr c9
        subst c9
        have H1 : (spec_NotesOk.l0 kj3 a0 l1 l2 l2 (l2.length : Int) 0) = some r := by rw [if_neg (show ¬ (false = true) by decide)] at H; exact H
        clear H
        have H := H1
        clear H1
        have H' := Aside0.mk H
        clear H
        go_wp2
        go_loopg [22] kj3 (fun kq v22 w' => ∃ (x22_2 : Int), v22 = .int .i64 x22_2 ∧ Aside0 (spec_NotesOk.l0 kq a0 l1 l2 l2 (l2.length : Int) x22_2 = some r) ∧ Aside0 (kq ≤ kj3) ∧ Aside0 (Below w.heap.size w w'))
        case atStart => exact ⟨(0), (by first | rfl | (simp; done) | (simp [*]; done)), H', ⟨Nat.le_refl _⟩, ⟨by repeat (first | (with_reducible first | exact HB.out | apply below_alloc | apply pw_below_drewN | apply below_drew1) | exact HB.out)⟩⟩
        case round =>
          clear H'
          try clear c1
          try clear c2
          try clear p2
          try clear c6
          try clear c7
          try clear c8
          try clear c9
          try clear p2
          obtain ⟨x22_2, rfl, HA, HK2, HB⟩ := hrel
          cases gk with
          | zero => exact absurd HA.out (by simp [spec_NotesOk.l0])
          | succ k2 =>
            have H := HA.out
            clear HA
            simp only [spec_NotesOk.l0] at H
            by_cases c10 : x22_2 < (l2.length : Int)
            · rw [if_pos c10] at H
              have c10b0 : decide (x22_2 < (l2.length : Int)) = true := decide_eq_true c10
              clear c10
              by_cases c11 : 0 ≤ x22_2
              · rw [if_pos c11] at H
                have c11b0 : decide (0 ≤ x22_2) = true := decide_eq_true c11
                clear c11
                by_cases c12 : x22_2 < (l2.length : Int)
                · rw [if_pos c12] at H
                  have c12b0 : decide (x22_2 < (l2.length : Int)) = true := decide_eq_true c12
                  clear c12
                  replace H := Option.bind_eq_some_iff.mp H
                  obtain ⟨t176, A130, H⟩ := H
                  replace H : (if t176 = true then (if x22_2 ≤ (l2.length : Int) then ((some (l2.take (x22_2 : Int).toNat : List (S97))).bind fun y177 => (spec_NotesOk.l1 k2 a0 l1 l2 l2 (l2.length : Int) x22_2 y177 (y177.length : Int) 0 ((rd_T97 l2 x22_2).f0) ((rd_T97 l2 x22_2).f1) ((rd_T97 l2 x22_2).f2.f0) ((rd_T97 l2 x22_2).f2.f1) ((rd_T97 l2 x22_2).f2.f2) ((rd_T97 l2 x22_2).f2.f3) ((rd_T97 l2 x22_2).f2.f4))) else (none)) else (some false)) = some r := H
                  have A13 := Aside0.mk A130
                  clear A130
                  by_cases c14 : t176 = true
                  · subst c14
                    have H1 : (if x22_2 ≤ (l2.length : Int) then ((some (l2.take (x22_2 : Int).toNat : List (S97))).bind fun y177 => (spec_NotesOk.l1 k2 a0 l1 l2 l2 (l2.length : Int) x22_2 y177 (y177.length : Int) 0 ((rd_T97 l2 x22_2).f0) ((rd_T97 l2 x22_2).f1) ((rd_T97 l2 x22_2).f2.f0) ((rd_T97 l2 x22_2).f2.f1) ((rd_T97 l2 x22_2).f2.f2) ((rd_T97 l2 x22_2).f2.f3) ((rd_T97 l2 x22_2).f2.f4))) else (none)) = some r := by rw [if_pos rfl] at H; exact H
                    clear H
                    have H := H1
                    clear H1
                    have c15b0 := eq_true (of_decide_eq_true (by first | (with_reducible assumption) | assumption) : 0 ≤ x22_2)
                    by_cases c16 : x22_2 ≤ (l2.length : Int)
                    · rw [if_pos c16] at H
                      have c16b0 := eq_true c16
                      have c16b1 : decide (x22_2 ≤ (l2.length : Int)) = true := decide_eq_true c16
                      clear c16
                      obtain ⟨y177, hy177⟩ : ∃ y_ : List (S97), y_ = (l2.take (x22_2 : Int).toNat) := ⟨_, rfl⟩
                      replace H : (spec_NotesOk.l1 k2 a0 l1 l2 l2 (l2.length : Int) x22_2 y177 (y177.length : Int) 0 ((rd_T97 l2 x22_2).f0) ((rd_T97 l2 x22_2).f1) ((rd_T97 l2 x22_2).f2.f0) ((rd_T97 l2 x22_2).f2.f1) ((rd_T97 l2 x22_2).f2.f2) ((rd_T97 l2 x22_2).f2.f3) ((rd_T97 l2 x22_2).f2.f4)) = some r := by first | (rw [hy177]; with_reducible exact H) | (have H2_ := (Option.bind_some _ _).symm.trans H; rw [hy177]; with_reducible exact H2_) | (have H2_ := (Option.bind_some _ _).symm.trans H; with_reducible exact H2_) | with_reducible exact H | (rw [hy177]; exact H) | exact H
                      have Ny177 := Aside0.mk hy177
                      clear hy177
                      have H' := Aside0.mk H
                      clear H
                      have p174 : 0 ≤ (x22_2 : Int) := of_decide_eq_true (by first | (with_reducible assumption) | assumption)
                      have q174 : x22_2 < (l2.length : Int) := of_decide_eq_true (by first | (with_reducible assumption) | assumption)
                      obtain ⟨ad174, e174, hx174_0, hx174_1, hx174_2, hx174_3, hx174_4, hx174_5, hx174_6⟩ := at_T97 HR2.out x22_2 p174 q174
                      cases e174
                      replace hx174_0 := (HB.out.cell (World.block_lt_of_cell? w _ hx174_0)).trans hx174_0
                      replace hx174_1 := (HB.out.cell (World.block_lt_of_cell? w _ hx174_1)).trans hx174_1
                      replace hx174_2 := (HB.out.cell (World.block_lt_of_cell? w _ hx174_2)).trans hx174_2
                      replace hx174_3 := (HB.out.cell (World.block_lt_of_cell? w _ hx174_3)).trans hx174_3
                      replace hx174_4 := (HB.out.cell (World.block_lt_of_cell? w _ hx174_4)).trans hx174_4
                      replace hx174_5 := (HB.out.cell (World.block_lt_of_cell? w _ hx174_5)).trans hx174_5
                      replace hx174_6 := (HB.out.cell (World.block_lt_of_cell? w _ hx174_6)).trans hx174_6
                      replace p174 := eq_true p174
                      replace q174 := eq_true q174
                      go_wp2_with (first | ((with_reducible refine gate_dst (N := 8) rfl ?_); (try (refine gate_guard (by rfl) ?_; dsimp only)); refine box_event ?hg (N := 8) ?hd (cs := #[.int .i64 0, .int .i64 0, .int .i64 0, .int .i64 0, .int .i64 0, .int .i64 0, .int .i64 0]) (t := 97) ?hr ?_; (case hd => rfl); (case hg => rfl); (case hr => first | (go_simp; done) | (go_simp; rfl)); intro gb175 hg w17 hbox hb; have n0_ := Aside0.mk (below_step (by repeat (first | (with_reducible first | exact HB.out | apply below_alloc | apply pw_below_drewN | apply below_drew1) | exact HB.out)) hb); have n1_ := Aside0.mk (hbox); have n2_ := Aside0.mk ((by rw [hg]; exact (below_size (by repeat (first | (with_reducible first | exact HB.out | apply below_alloc | apply pw_below_drewN | apply below_drew1) | exact HB.out))) : w.heap.size ≤ gb175)); have n3_ := Aside0.mk ((by rw [hg]; exact (below_size (by repeat (first | (with_reducible first | exact HB.out | apply below_alloc | apply pw_below_drewN | apply below_drew1) | exact HB.out))) : w.heap.size ≤ gb175)); clear HB; have HB := n0_; have BK175 := n1_; have GW175 := n2_; have GE175 := n3_; clear n0_ n1_ n2_ n3_; clear hb hbox hg; have hcz18_0 : w17.cell? ⟨gb175, 0, none⟩ = some (.int .i64 0) := (blk_cell BK175.out 0).trans rfl; have hcz18_1 : w17.cell? ⟨gb175, 1, none⟩ = some (.int .i64 0) := (blk_cell BK175.out 1).trans rfl; have hcz18_2 : w17.cell? ⟨gb175, 2, none⟩ = some (.int .i64 0) := (blk_cell BK175.out 2).trans rfl; have hcz18_3 : w17.cell? ⟨gb175, 3, none⟩ = some (.int .i64 0) := (blk_cell BK175.out 3).trans rfl; have hcz18_4 : w17.cell? ⟨gb175, 4, none⟩ = some (.int .i64 0) := (blk_cell BK175.out 4).trans rfl; have hcz18_5 : w17.cell? ⟨gb175, 5, none⟩ = some (.int .i64 0) := (blk_cell BK175.out 5).trans rfl; have hcz18_6 : w17.cell? ⟨gb175, 6, none⟩ = some (.int .i64 0) := (blk_cell BK175.out 6).trans rfl; have hfz18_0 := blk_frozen BK175.out 0; have hfz18_1 := blk_frozen BK175.out 1; have hfz18_2 := blk_frozen BK175.out 2; have hfz18_3 := blk_frozen BK175.out 3; have hfz18_4 := blk_frozen BK175.out 4; have hfz18_5 := blk_frozen BK175.out 5; have hfz18_6 := blk_frozen BK175.out 6) | ((with_reducible refine gate_callee (f := 107) rfl ?_); refine goesL_ (some 30) rfl rfl Try.func107 (by kernel_rfl) rfl #[.int .i64 a0, .slice A1 l1.length c1, .agg #[.int .i64 ((rd_T97 l2 x22_2).f0), .int .i64 ((rd_T97 l2 x22_2).f1), .int .i64 ((rd_T97 l2 x22_2).f2.f0), .int .i64 ((rd_T97 l2 x22_2).f2.f1), .int .i64 ((rd_T97 l2 x22_2).f2.f2), .int .i64 ((rd_T97 l2 x22_2).f2.f3), .int .i64 ((rd_T97 l2 x22_2).f2.f4)]] rfl (by (try simp only [List.map_toArray, List.map_cons, List.map_nil]); first | done | rfl | (simp only [List.length_drop, List.length_take]; rfl)) ?_; (with_reducible refine (spec_l05Note.calls k2 a0 _ _ l1 ((rd_T97 l2 x22_2).f0) ((rd_T97 l2 x22_2).f1) ((rd_T97 l2 x22_2).f2.f0) ((rd_T97 l2 x22_2).f2.f1) ((rd_T97 l2 x22_2).f2.f2) ((rd_T97 l2 x22_2).f2.f3) ((rd_T97 l2 x22_2).f2.f4) true _ ?side1 ?side2 A13.out).mono ?_); (case side1 => exact Kd.C_below HR1.out (by repeat (first | (with_reducible first | exact HB.out | apply below_alloc | apply pw_below_drewN | apply below_drew1 | refine below_set ?_ GE175.out) | exact HB.out))); (case side2 => exact HC1.out); rintro e w19 ⟨rfl, hb⟩; refine ⟨_, rfl, ?_⟩; have n0_ := Aside0.mk (blk_below (g := gb175) (o := .cells #[.int .i64 ((rd_T97 l2 x22_2).f0), .int .i64 ((rd_T97 l2 x22_2).f1), .int .i64 ((rd_T97 l2 x22_2).f2.f0), .int .i64 ((rd_T97 l2 x22_2).f2.f1), .int .i64 ((rd_T97 l2 x22_2).f2.f2), .int .i64 ((rd_T97 l2 x22_2).f2.f3), .int .i64 ((rd_T97 l2 x22_2).f2.f4)] 97 (0, 0)) (by (with_reducible repeat (first | refine blk_drewN ?_ _ | refine blk_drew ?_ | refine blk_alloc ?_ _)); refine blk_put (cs := #[.int .i64 ((rd_T97 l2 x22_2).f0), .int .i64 ((rd_T97 l2 x22_2).f1), .int .i64 ((rd_T97 l2 x22_2).f2.f0), .int .i64 ((rd_T97 l2 x22_2).f2.f1), .int .i64 ((rd_T97 l2 x22_2).f2.f2), .int .i64 ((rd_T97 l2 x22_2).f2.f3), .int .i64 0]) ?_ 6 _ rfl; (with_reducible repeat (first | refine blk_drewN ?_ _ | refine blk_drew ?_ | refine blk_alloc ?_ _)); refine blk_put (cs := #[.int .i64 ((rd_T97 l2 x22_2).f0), .int .i64 ((rd_T97 l2 x22_2).f1), .int .i64 ((rd_T97 l2 x22_2).f2.f0), .int .i64 ((rd_T97 l2 x22_2).f2.f1), .int .i64 ((rd_T97 l2 x22_2).f2.f2), .int .i64 0, .int .i64 0]) ?_ 5 _ rfl; (with_reducible repeat (first | refine blk_drewN ?_ _ | refine blk_drew ?_ | refine blk_alloc ?_ _)); refine blk_put (cs := #[.int .i64 ((rd_T97 l2 x22_2).f0), .int .i64 ((rd_T97 l2 x22_2).f1), .int .i64 ((rd_T97 l2 x22_2).f2.f0), .int .i64 ((rd_T97 l2 x22_2).f2.f1), .int .i64 0, .int .i64 0, .int .i64 0]) ?_ 4 _ rfl; (with_reducible repeat (first | refine blk_drewN ?_ _ | refine blk_drew ?_ | refine blk_alloc ?_ _)); refine blk_put (cs := #[.int .i64 ((rd_T97 l2 x22_2).f0), .int .i64 ((rd_T97 l2 x22_2).f1), .int .i64 ((rd_T97 l2 x22_2).f2.f0), .int .i64 0, .int .i64 0, .int .i64 0, .int .i64 0]) ?_ 3 _ rfl; (with_reducible repeat (first | refine blk_drewN ?_ _ | refine blk_drew ?_ | refine blk_alloc ?_ _)); refine blk_put (cs := #[.int .i64 ((rd_T97 l2 x22_2).f0), .int .i64 ((rd_T97 l2 x22_2).f1), .int .i64 0, .int .i64 0, .int .i64 0, .int .i64 0, .int .i64 0]) ?_ 2 _ rfl; (with_reducible repeat (first | refine blk_drewN ?_ _ | refine blk_drew ?_ | refine blk_alloc ?_ _)); refine blk_put (cs := #[.int .i64 ((rd_T97 l2 x22_2).f0), .int .i64 0, .int .i64 0, .int .i64 0, .int .i64 0, .int .i64 0, .int .i64 0]) ?_ 1 _ rfl; (with_reducible repeat (first | refine blk_drewN ?_ _ | refine blk_drew ?_ | refine blk_alloc ?_ _)); refine blk_put (cs := #[.int .i64 0, .int .i64 0, .int .i64 0, .int .i64 0, .int .i64 0, .int .i64 0, .int .i64 0]) ?_ 0 _ rfl; (with_reducible repeat (first | refine blk_drewN ?_ _ | refine blk_drew ?_ | refine blk_alloc ?_ _)); exact BK175.out) hb); have n1_ := Aside0.mk (below_step (by repeat (first | (with_reducible first | exact HB.out | apply below_alloc | apply pw_below_drewN | apply below_drew1 | refine below_set ?_ GE175.out) | exact HB.out)) hb); clear BK175; clear HB; have BK175 := n0_; have HB := n1_; clear n0_ n1_; (try clear hb); (try clear hb2); (try clear hk); (try clear hi); have q20 : (x22_2 : Int) ≤ ((l2.length : Int) : Int) := of_decide_eq_true (by first | (with_reducible assumption) | assumption); obtain ⟨i020, hi020, _, hsz20, _⟩ := info_parts info97; have hroom20 : l2.length ≤ c2 := HC2.out; have hC20 : Kd.C k97 _ (some ad174) l2.length l2 := HR2.out; have hcut20 := cut_to (P := Try.prog) 36 97 .i64 Try.underlying36 hi020 (some ad174) l2.length c2 x22_2 (of_decide_eq_true (by first | (with_reducible assumption) | assumption)) q20 hroom20; have hr20 := Kd.C_take (m := (x22_2 : Int).toNat) hC20 (by omega); have hy20 : y177.length = (x22_2 : Int).toNat := (by rw [Ny177.out, List.length_take]; omega); rw [← Ny177.out] at hr20; rw [← hy20] at hcut20; have HR180 := Aside0.mk hr20; have HC180 := Aside0.mk (show y177.length ≤ c2 from by omega); clear hr20 hC20 hroom20 hi020 hsz20; have KY20 := Aside0.mk hy20; clear hy20; replace q20 := eq_true q20))
                      go_loopg [36] k2 (fun kq v36 w' => ∃ (x36_3 : Int), v36 = .int .i64 x36_3 ∧ Aside0 (spec_NotesOk.l1 kq a0 l1 l2 l2 (l2.length : Int) x22_2 y177 (y177.length : Int) x36_3 ((rd_T97 l2 x22_2).f0) ((rd_T97 l2 x22_2).f1) ((rd_T97 l2 x22_2).f2.f0) ((rd_T97 l2 x22_2).f2.f1) ((rd_T97 l2 x22_2).f2.f2) ((rd_T97 l2 x22_2).f2.f3) ((rd_T97 l2 x22_2).f2.f4) = some r) ∧ Aside0 (kq ≤ k2) ∧ Aside0 (w'.heap[gb175]? = some (.cells #[.int .i64 ((rd_T97 l2 x22_2).f0), .int .i64 ((rd_T97 l2 x22_2).f1), .int .i64 ((rd_T97 l2 x22_2).f2.f0), .int .i64 ((rd_T97 l2 x22_2).f2.f1), .int .i64 ((rd_T97 l2 x22_2).f2.f2), .int .i64 ((rd_T97 l2 x22_2).f2.f3), .int .i64 ((rd_T97 l2 x22_2).f2.f4)] 97 (0, 0))) ∧ Aside0 (Below w.heap.size w w'))
                      case atStart => exact ⟨(0), (by first | rfl | (simp; done) | (simp [*]; done)), H', ⟨Nat.le_refl _⟩, ⟨by (with_reducible repeat (first | refine blk_drewN ?_ _ | refine blk_drew ?_ | refine blk_alloc ?_ _)); exact BK175.out⟩, ⟨by repeat (first | (with_reducible first | exact HB.out | apply below_alloc | apply pw_below_drewN | apply below_drew1 | refine below_set ?_ GE175.out) | exact HB.out)⟩⟩
                      case round =>
                        clear H'
                        try clear c1
                        try clear p1
                        try clear q1
                        try clear hx1
                        try clear c2
                        try clear p2
                        try clear q2
                        try clear c6
                        try clear c7
                        try clear c8
                        try clear c9
                        try clear c10
                        try clear c10b0
                        try clear c11
                        try clear c11b0
                        try clear c12
                        try clear c12b0
                        try clear c14
                        try clear c15
                        try clear c15b0
                        try clear c16
                        try clear c16b0
                        try clear c16b1
                        try clear p17
                        try clear q17
                        try clear hx17
                        try clear q20
                        try clear hcz18_0
                        try clear hcz18_1
                        try clear hcz18_2
                        try clear hcz18_3
                        try clear hcz18_4
                        try clear hcz18_5
                        try clear hcz18_6
                        try clear hfz18_0
                        try clear hfz18_1
                        try clear hfz18_2
                        try clear hfz18_3
                        try clear hfz18_4
                        try clear hfz18_5
                        try clear hfz18_6
                        try clear hx174_0
                        try clear hx174_1
                        try clear hx174_2
                        try clear hx174_3
                        try clear hx174_4
                        try clear hx174_5
                        try clear hx174_6
                        try clear p174
                        try clear p2
                        try clear q174
                        try clear q20
                        obtain ⟨x36_3, rfl, HA, HK3, BK175, HB⟩ := hrel
                        cases gk with
                        | zero => exact absurd HA.out (by simp [spec_NotesOk.l1])
                        | succ k3 =>
                          have H := HA.out
                          clear HA
                          simp only [spec_NotesOk.l1] at H
                          by_cases c21 : x36_3 < (y177.length : Int)
                          · rw [if_pos c21] at H
                            have c21b0 : decide (x36_3 < (y177.length : Int)) = true := decide_eq_true c21
                            clear c21
                            by_cases c22 : 0 ≤ x36_3
                            · rw [if_pos c22] at H
                              have c22b0 : decide (0 ≤ x36_3) = true := decide_eq_true c22
                              clear c22
                              by_cases c23 : x36_3 < (y177.length : Int)
                              · rw [if_pos c23] at H
                                have c23b0 : decide (x36_3 < (y177.length : Int)) = true := decide_eq_true c23
                                clear c23
                                by_cases c24 : ((rd_T97 y177 x36_3).f0) = ((rd_T97 l2 x22_2).f0)
                                · rw [if_pos c24] at H
                                  have c24b0 : (((rd_T97 y177 x36_3).f0) == ((rd_T97 l2 x22_2).f0)) = true := beq_iff_eq.mpr c24
                                  have c24b1 : (((rd_T97 y177 x36_3).f0) != ((rd_T97 l2 x22_2).f0)) = false := bne_eq_false_iff_eq.mpr c24
                                  clear c24
                                  by_cases c25 : (!(((rd_T97 y177 x36_3).f0) == ((rd_T97 l2 x22_2).f0)) || (!(((rd_T97 y177 x36_3).f1) == ((rd_T97 l2 x22_2).f1)) || ((!(((rd_T97 y177 x36_3).f2.f0) == ((rd_T97 l2 x22_2).f2.f0)) || (!(((rd_T97 y177 x36_3).f2.f1) == ((rd_T97 l2 x22_2).f2.f1)) || (!(((rd_T97 y177 x36_3).f2.f2) == ((rd_T97 l2 x22_2).f2.f2)) || (!(((rd_T97 y177 x36_3).f2.f3) == ((rd_T97 l2 x22_2).f2.f3)) || (!(((rd_T97 y177 x36_3).f2.f4) == ((rd_T97 l2 x22_2).f2.f4)))))))))) = true
                                  · rw [if_pos c25] at H
                                    have c25b0 : (!(((rd_T97 y177 x36_3).f0) == ((rd_T97 l2 x22_2).f0)) || (!(((rd_T97 y177 x36_3).f1) == ((rd_T97 l2 x22_2).f1)) || ((!(((rd_T97 y177 x36_3).f2.f0) == ((rd_T97 l2 x22_2).f2.f0)) || (!(((rd_T97 y177 x36_3).f2.f1) == ((rd_T97 l2 x22_2).f2.f1)) || (!(((rd_T97 y177 x36_3).f2.f2) == ((rd_T97 l2 x22_2).f2.f2)) || (!(((rd_T97 y177 x36_3).f2.f3) == ((rd_T97 l2 x22_2).f2.f3)) || (!(((rd_T97 y177 x36_3).f2.f4) == ((rd_T97 l2 x22_2).f2.f4)))))))))) = true := c25
                                    (try simp only [c24b0, Bool.not_true, Bool.false_or] at c25b0)
                                    clear c25
                                    obtain rfl := Option.some.inj H
                                    have p181 : 0 ≤ (x36_3 : Int) := of_decide_eq_true (by first | (with_reducible assumption) | assumption)
                                    have q181 : x36_3 < (y177.length : Int) := of_decide_eq_true (by first | (with_reducible assumption) | assumption)
                                    obtain ⟨ad181, e181, hx181_0, hx181_1, hx181_2, hx181_3, hx181_4, hx181_5, hx181_6⟩ := at_T97 HR180.out x36_3 p181 q181
                                    obtain rfl : ad174 = ad181 := (by injection e181)
                                    replace hx181_0 := (HB.out.cell (World.block_lt_of_cell? w _ hx181_0)).trans hx181_0
                                    replace hx181_1 := (HB.out.cell (World.block_lt_of_cell? w _ hx181_1)).trans hx181_1
                                    replace hx181_2 := (HB.out.cell (World.block_lt_of_cell? w _ hx181_2)).trans hx181_2
                                    replace hx181_3 := (HB.out.cell (World.block_lt_of_cell? w _ hx181_3)).trans hx181_3
                                    replace hx181_4 := (HB.out.cell (World.block_lt_of_cell? w _ hx181_4)).trans hx181_4
                                    replace hx181_5 := (HB.out.cell (World.block_lt_of_cell? w _ hx181_5)).trans hx181_5
                                    replace hx181_6 := (HB.out.cell (World.block_lt_of_cell? w _ hx181_6)).trans hx181_6
                                    replace p181 := eq_true p181
                                    replace q181 := eq_true q181
                                    go_wp2_with (first | ((with_reducible refine gate_dst (N := 10) rfl ?_); (try (refine gate_guard (by rfl) ?_; dsimp only)); refine box_event ?hg (N := 10) ?hd (cs := #[.int .i64 0, .int .i64 0, .int .i64 0, .int .i64 0, .int .i64 0, .int .i64 0, .int .i64 0]) (t := 97) ?hr ?_; (case hd => rfl); (case hg => rfl); (case hr => first | (go_simp; done) | (go_simp; rfl)); intro gb182 hg w26 hbox hb; have n0_ := Aside0.mk (blk_below (g := gb175) (o := .cells #[.int .i64 ((rd_T97 l2 x22_2).f0), .int .i64 ((rd_T97 l2 x22_2).f1), .int .i64 ((rd_T97 l2 x22_2).f2.f0), .int .i64 ((rd_T97 l2 x22_2).f2.f1), .int .i64 ((rd_T97 l2 x22_2).f2.f2), .int .i64 ((rd_T97 l2 x22_2).f2.f3), .int .i64 ((rd_T97 l2 x22_2).f2.f4)] 97 (0, 0)) (by (with_reducible repeat (first | refine blk_drewN ?_ _ | refine blk_drew ?_ | refine blk_alloc ?_ _)); exact BK175.out) hb); have n1_ := Aside0.mk (below_step (by repeat (first | (with_reducible first | exact HB.out | apply below_alloc | apply pw_below_drewN | apply below_drew1 | refine below_set ?_ GE175.out) | exact HB.out)) hb); have n2_ := Aside0.mk (hbox); have n3_ := Aside0.mk ((by rw [hg]; exact (below_size (by repeat (first | (with_reducible first | exact HB.out | apply below_alloc | apply pw_below_drewN | apply below_drew1 | refine below_set ?_ GE175.out) | exact HB.out))) : w.heap.size ≤ gb182)); have n4_ := Aside0.mk ((by rw [hg]; exact (below_size (by repeat (first | (with_reducible first | exact HB.out | apply below_alloc | apply pw_below_drewN | apply below_drew1 | refine below_set ?_ GE175.out) | exact HB.out))) : w.heap.size ≤ gb182)); have n5_ := Aside0.mk ((by rw [hg]; exact Nat.ne_of_lt (blk_lt (g := gb175) (o := .cells #[.int .i64 ((rd_T97 l2 x22_2).f0), .int .i64 ((rd_T97 l2 x22_2).f1), .int .i64 ((rd_T97 l2 x22_2).f2.f0), .int .i64 ((rd_T97 l2 x22_2).f2.f1), .int .i64 ((rd_T97 l2 x22_2).f2.f2), .int .i64 ((rd_T97 l2 x22_2).f2.f3), .int .i64 ((rd_T97 l2 x22_2).f2.f4)] 97 (0, 0)) (by (with_reducible repeat (first | refine blk_drewN ?_ _ | refine blk_drew ?_ | refine blk_alloc ?_ _)); exact BK175.out)) : gb175 ≠ gb182)); have n6_ := Aside0.mk ((by rw [hg]; exact Nat.ne_of_gt (blk_lt (g := gb175) (o := .cells #[.int .i64 ((rd_T97 l2 x22_2).f0), .int .i64 ((rd_T97 l2 x22_2).f1), .int .i64 ((rd_T97 l2 x22_2).f2.f0), .int .i64 ((rd_T97 l2 x22_2).f2.f1), .int .i64 ((rd_T97 l2 x22_2).f2.f2), .int .i64 ((rd_T97 l2 x22_2).f2.f3), .int .i64 ((rd_T97 l2 x22_2).f2.f4)] 97 (0, 0)) (by (with_reducible repeat (first | refine blk_drewN ?_ _ | refine blk_drew ?_ | refine blk_alloc ?_ _)); exact BK175.out)) : gb182 ≠ gb175)); clear BK175; clear HB; have BK175 := n0_; have HB := n1_; have BK182 := n2_; have GW182 := n3_; have GE182 := n4_; have NB175_182 := n5_; have NB182_175 := n6_; clear n0_ n1_ n2_ n3_ n4_ n5_ n6_; clear hb hbox hg; have hnb27 := NB182_175.out; have hnc27 := NB175_182.out; have hcz28_0 : w26.cell? ⟨gb182, 0, none⟩ = some (.int .i64 0) := (blk_cell BK182.out 0).trans rfl; have hcz28_1 : w26.cell? ⟨gb182, 1, none⟩ = some (.int .i64 0) := (blk_cell BK182.out 1).trans rfl; have hcz28_2 : w26.cell? ⟨gb182, 2, none⟩ = some (.int .i64 0) := (blk_cell BK182.out 2).trans rfl; have hcz28_3 : w26.cell? ⟨gb182, 3, none⟩ = some (.int .i64 0) := (blk_cell BK182.out 3).trans rfl; have hcz28_4 : w26.cell? ⟨gb182, 4, none⟩ = some (.int .i64 0) := (blk_cell BK182.out 4).trans rfl; have hcz28_5 : w26.cell? ⟨gb182, 5, none⟩ = some (.int .i64 0) := (blk_cell BK182.out 5).trans rfl; have hcz28_6 : w26.cell? ⟨gb182, 6, none⟩ = some (.int .i64 0) := (blk_cell BK182.out 6).trans rfl; have hfz28_0 := blk_frozen BK182.out 0; have hfz28_1 := blk_frozen BK182.out 1; have hfz28_2 := blk_frozen BK182.out 2; have hfz28_3 := blk_frozen BK182.out 3; have hfz28_4 := blk_frozen BK182.out 4; have hfz28_5 := blk_frozen BK182.out 5; have hfz28_6 := blk_frozen BK182.out 6; have hcz29_0 : w26.cell? ⟨gb175, 0, none⟩ = some (.int .i64 ((rd_T97 l2 x22_2).f0)) := (blk_cell BK175.out 0).trans rfl; have hcz29_1 : w26.cell? ⟨gb175, 1, none⟩ = some (.int .i64 ((rd_T97 l2 x22_2).f1)) := (blk_cell BK175.out 1).trans rfl; have hcz29_2 : w26.cell? ⟨gb175, 2, none⟩ = some (.int .i64 ((rd_T97 l2 x22_2).f2.f0)) := (blk_cell BK175.out 2).trans rfl; have hcz29_3 : w26.cell? ⟨gb175, 3, none⟩ = some (.int .i64 ((rd_T97 l2 x22_2).f2.f1)) := (blk_cell BK175.out 3).trans rfl; have hcz29_4 : w26.cell? ⟨gb175, 4, none⟩ = some (.int .i64 ((rd_T97 l2 x22_2).f2.f2)) := (blk_cell BK175.out 4).trans rfl; have hcz29_5 : w26.cell? ⟨gb175, 5, none⟩ = some (.int .i64 ((rd_T97 l2 x22_2).f2.f3)) := (blk_cell BK175.out 5).trans rfl; have hcz29_6 : w26.cell? ⟨gb175, 6, none⟩ = some (.int .i64 ((rd_T97 l2 x22_2).f2.f4)) := (blk_cell BK175.out 6).trans rfl; have hfz29_0 := blk_frozen BK175.out 0; have hfz29_1 := blk_frozen BK175.out 1; have hfz29_2 := blk_frozen BK175.out 2; have hfz29_3 := blk_frozen BK175.out 3; have hfz29_4 := blk_frozen BK175.out 4; have hfz29_5 := blk_frozen BK175.out 5; have hfz29_6 := blk_frozen BK175.out 6))
                                    go_ret
                                    exact ⟨by first | rfl | (simp [errW_none, errW_some] <;> rfl) | (simp [*, errW_none, errW_some] <;> rfl), by repeat (first | (with_reducible first | exact HB.out | apply below_alloc | apply pw_below_drewN | apply below_drew1 | refine below_set ?_ GE175.out | refine below_set ?_ GE182.out) | exact HB.out)⟩
                                  · rw [if_neg c25] at H
                                    have c25b0 : (!(((rd_T97 y177 x36_3).f0) == ((rd_T97 l2 x22_2).f0)) || (!(((rd_T97 y177 x36_3).f1) == ((rd_T97 l2 x22_2).f1)) || ((!(((rd_T97 y177 x36_3).f2.f0) == ((rd_T97 l2 x22_2).f2.f0)) || (!(((rd_T97 y177 x36_3).f2.f1) == ((rd_T97 l2 x22_2).f2.f1)) || (!(((rd_T97 y177 x36_3).f2.f2) == ((rd_T97 l2 x22_2).f2.f2)) || (!(((rd_T97 y177 x36_3).f2.f3) == ((rd_T97 l2 x22_2).f2.f3)) || (!(((rd_T97 y177 x36_3).f2.f4) == ((rd_T97 l2 x22_2).f2.f4)))))))))) = false := by simpa using c25
                                    (try simp only [c24b0, Bool.not_true, Bool.false_or] at c25b0)
                                    clear c25
                                    have H' := Aside0.mk H
                                    clear H
                                    have p181 : 0 ≤ (x36_3 : Int) := of_decide_eq_true (by first | (with_reducible assumption) | assumption)
                                    have q181 : x36_3 < (y177.length : Int) := of_decide_eq_true (by first | (with_reducible assumption) | assumption)
                                    obtain ⟨ad181, e181, hx181_0, hx181_1, hx181_2, hx181_3, hx181_4, hx181_5, hx181_6⟩ := at_T97 HR180.out x36_3 p181 q181
                                    obtain rfl : ad174 = ad181 := (by injection e181)
                                    replace hx181_0 := (HB.out.cell (World.block_lt_of_cell? w _ hx181_0)).trans hx181_0
                                    replace hx181_1 := (HB.out.cell (World.block_lt_of_cell? w _ hx181_1)).trans hx181_1
                                    replace hx181_2 := (HB.out.cell (World.block_lt_of_cell? w _ hx181_2)).trans hx181_2
                                    replace hx181_3 := (HB.out.cell (World.block_lt_of_cell? w _ hx181_3)).trans hx181_3
                                    replace hx181_4 := (HB.out.cell (World.block_lt_of_cell? w _ hx181_4)).trans hx181_4
                                    replace hx181_5 := (HB.out.cell (World.block_lt_of_cell? w _ hx181_5)).trans hx181_5
                                    replace hx181_6 := (HB.out.cell (World.block_lt_of_cell? w _ hx181_6)).trans hx181_6
                                    replace p181 := eq_true p181
                                    replace q181 := eq_true q181
                                    go_wp2_with (first | ((with_reducible refine gate_dst (N := 10) rfl ?_); (try (refine gate_guard (by rfl) ?_; dsimp only)); refine box_event ?hg (N := 10) ?hd (cs := #[.int .i64 0, .int .i64 0, .int .i64 0, .int .i64 0, .int .i64 0, .int .i64 0, .int .i64 0]) (t := 97) ?hr ?_; (case hd => rfl); (case hg => rfl); (case hr => first | (go_simp; done) | (go_simp; rfl)); intro gb182 hg w30 hbox hb; have n0_ := Aside0.mk (blk_below (g := gb175) (o := .cells #[.int .i64 ((rd_T97 l2 x22_2).f0), .int .i64 ((rd_T97 l2 x22_2).f1), .int .i64 ((rd_T97 l2 x22_2).f2.f0), .int .i64 ((rd_T97 l2 x22_2).f2.f1), .int .i64 ((rd_T97 l2 x22_2).f2.f2), .int .i64 ((rd_T97 l2 x22_2).f2.f3), .int .i64 ((rd_T97 l2 x22_2).f2.f4)] 97 (0, 0)) (by (with_reducible repeat (first | refine blk_drewN ?_ _ | refine blk_drew ?_ | refine blk_alloc ?_ _)); exact BK175.out) hb); have n1_ := Aside0.mk (below_step (by repeat (first | (with_reducible first | exact HB.out | apply below_alloc | apply pw_below_drewN | apply below_drew1 | refine below_set ?_ GE175.out) | exact HB.out)) hb); have n2_ := Aside0.mk (hbox); have n3_ := Aside0.mk ((by rw [hg]; exact (below_size (by repeat (first | (with_reducible first | exact HB.out | apply below_alloc | apply pw_below_drewN | apply below_drew1 | refine below_set ?_ GE175.out) | exact HB.out))) : w.heap.size ≤ gb182)); have n4_ := Aside0.mk ((by rw [hg]; exact (below_size (by repeat (first | (with_reducible first | exact HB.out | apply below_alloc | apply pw_below_drewN | apply below_drew1 | refine below_set ?_ GE175.out) | exact HB.out))) : w.heap.size ≤ gb182)); have n5_ := Aside0.mk ((by rw [hg]; exact Nat.ne_of_lt (blk_lt (g := gb175) (o := .cells #[.int .i64 ((rd_T97 l2 x22_2).f0), .int .i64 ((rd_T97 l2 x22_2).f1), .int .i64 ((rd_T97 l2 x22_2).f2.f0), .int .i64 ((rd_T97 l2 x22_2).f2.f1), .int .i64 ((rd_T97 l2 x22_2).f2.f2), .int .i64 ((rd_T97 l2 x22_2).f2.f3), .int .i64 ((rd_T97 l2 x22_2).f2.f4)] 97 (0, 0)) (by (with_reducible repeat (first | refine blk_drewN ?_ _ | refine blk_drew ?_ | refine blk_alloc ?_ _)); exact BK175.out)) : gb175 ≠ gb182)); have n6_ := Aside0.mk ((by rw [hg]; exact Nat.ne_of_gt (blk_lt (g := gb175) (o := .cells #[.int .i64 ((rd_T97 l2 x22_2).f0), .int .i64 ((rd_T97 l2 x22_2).f1), .int .i64 ((rd_T97 l2 x22_2).f2.f0), .int .i64 ((rd_T97 l2 x22_2).f2.f1), .int .i64 ((rd_T97 l2 x22_2).f2.f2), .int .i64 ((rd_T97 l2 x22_2).f2.f3), .int .i64 ((rd_T97 l2 x22_2).f2.f4)] 97 (0, 0)) (by (with_reducible repeat (first | refine blk_drewN ?_ _ | refine blk_drew ?_ | refine blk_alloc ?_ _)); exact BK175.out)) : gb182 ≠ gb175)); clear BK175; clear HB; have BK175 := n0_; have HB := n1_; have BK182 := n2_; have GW182 := n3_; have GE182 := n4_; have NB175_182 := n5_; have NB182_175 := n6_; clear n0_ n1_ n2_ n3_ n4_ n5_ n6_; clear hb hbox hg; have hnb31 := NB182_175.out; have hnc31 := NB175_182.out; have hcz32_0 : w30.cell? ⟨gb182, 0, none⟩ = some (.int .i64 0) := (blk_cell BK182.out 0).trans rfl; have hcz32_1 : w30.cell? ⟨gb182, 1, none⟩ = some (.int .i64 0) := (blk_cell BK182.out 1).trans rfl; have hcz32_2 : w30.cell? ⟨gb182, 2, none⟩ = some (.int .i64 0) := (blk_cell BK182.out 2).trans rfl; have hcz32_3 : w30.cell? ⟨gb182, 3, none⟩ = some (.int .i64 0) := (blk_cell BK182.out 3).trans rfl; have hcz32_4 : w30.cell? ⟨gb182, 4, none⟩ = some (.int .i64 0) := (blk_cell BK182.out 4).trans rfl; have hcz32_5 : w30.cell? ⟨gb182, 5, none⟩ = some (.int .i64 0) := (blk_cell BK182.out 5).trans rfl; have hcz32_6 : w30.cell? ⟨gb182, 6, none⟩ = some (.int .i64 0) := (blk_cell BK182.out 6).trans rfl; have hfz32_0 := blk_frozen BK182.out 0; have hfz32_1 := blk_frozen BK182.out 1; have hfz32_2 := blk_frozen BK182.out 2; have hfz32_3 := blk_frozen BK182.out 3; have hfz32_4 := blk_frozen BK182.out 4; have hfz32_5 := blk_frozen BK182.out 5; have hfz32_6 := blk_frozen BK182.out 6; have hcz33_0 : w30.cell? ⟨gb175, 0, none⟩ = some (.int .i64 ((rd_T97 l2 x22_2).f0)) := (blk_cell BK175.out 0).trans rfl; have hcz33_1 : w30.cell? ⟨gb175, 1, none⟩ = some (.int .i64 ((rd_T97 l2 x22_2).f1)) := (blk_cell BK175.out 1).trans rfl; have hcz33_2 : w30.cell? ⟨gb175, 2, none⟩ = some (.int .i64 ((rd_T97 l2 x22_2).f2.f0)) := (blk_cell BK175.out 2).trans rfl; have hcz33_3 : w30.cell? ⟨gb175, 3, none⟩ = some (.int .i64 ((rd_T97 l2 x22_2).f2.f1)) := (blk_cell BK175.out 3).trans rfl; have hcz33_4 : w30.cell? ⟨gb175, 4, none⟩ = some (.int .i64 ((rd_T97 l2 x22_2).f2.f2)) := (blk_cell BK175.out 4).trans rfl; have hcz33_5 : w30.cell? ⟨gb175, 5, none⟩ = some (.int .i64 ((rd_T97 l2 x22_2).f2.f3)) := (blk_cell BK175.out 5).trans rfl; have hcz33_6 : w30.cell? ⟨gb175, 6, none⟩ = some (.int .i64 ((rd_T97 l2 x22_2).f2.f4)) := (blk_cell BK175.out 6).trans rfl; have hfz33_0 := blk_frozen BK175.out 0; have hfz33_1 := blk_frozen BK175.out 1; have hfz33_2 := blk_frozen BK175.out 2; have hfz33_3 := blk_frozen BK175.out 3; have hfz33_4 := blk_frozen BK175.out 4; have hfz33_5 := blk_frozen BK175.out 5; have hfz33_6 := blk_frozen BK175.out 6))
                                    go_roundg k3
                                    case measure => have := HJ3.out; have := HK2.out; have := HK3.out; omega
                                    case rel => exact ⟨(wrap64 (x36_3 + 1)), (by first | rfl | (simp; done) | (simp [*]; done)), H', ⟨by have := HJ3.out; have := HK2.out; have := HK3.out; omega⟩, ⟨by (with_reducible repeat (first | refine blk_drewN ?_ _ | refine blk_drew ?_ | refine blk_alloc ?_ _)); refine blk_far ?_ NB175_182.out _; (with_reducible repeat (first | refine blk_drewN ?_ _ | refine blk_drew ?_ | refine blk_alloc ?_ _)); refine blk_far ?_ NB175_182.out _; (with_reducible repeat (first | refine blk_drewN ?_ _ | refine blk_drew ?_ | refine blk_alloc ?_ _)); refine blk_far ?_ NB175_182.out _; (with_reducible repeat (first | refine blk_drewN ?_ _ | refine blk_drew ?_ | refine blk_alloc ?_ _)); refine blk_far ?_ NB175_182.out _; (with_reducible repeat (first | refine blk_drewN ?_ _ | refine blk_drew ?_ | refine blk_alloc ?_ _)); refine blk_far ?_ NB175_182.out _; (with_reducible repeat (first | refine blk_drewN ?_ _ | refine blk_drew ?_ | refine blk_alloc ?_ _)); refine blk_far ?_ NB175_182.out _; (with_reducible repeat (first | refine blk_drewN ?_ _ | refine blk_drew ?_ | refine blk_alloc ?_ _)); refine blk_far ?_ NB175_182.out _; (with_reducible repeat (first | refine blk_drewN ?_ _ | refine blk_drew ?_ | refine blk_alloc ?_ _)); exact BK175.out⟩, ⟨by repeat (first | (with_reducible first | exact HB.out | apply below_alloc | apply pw_below_drewN | apply below_drew1 | refine below_set ?_ GE175.out | refine below_set ?_ GE182.out) | exact HB.out)⟩⟩
                                · rw [if_neg c24] at H
                                  have c24b0 : (((rd_T97 y177 x36_3).f0) == ((rd_T97 l2 x22_2).f0)) = false := beq_eq_false_iff_ne.mpr c24
                                  have c24b1 : (((rd_T97 y177 x36_3).f0) != ((rd_T97 l2 x22_2).f0)) = true := bne_iff_ne.mpr c24
                                  have H' := Aside0.mk H
                                  clear H
                                  have p181 : 0 ≤ (x36_3 : Int) := of_decide_eq_true (by first | (with_reducible assumption) | assumption)
                                  have q181 : x36_3 < (y177.length : Int) := of_decide_eq_true (by first | (with_reducible assumption) | assumption)
                                  obtain ⟨ad181, e181, hx181_0, hx181_1, hx181_2, hx181_3, hx181_4, hx181_5, hx181_6⟩ := at_T97 HR180.out x36_3 p181 q181
                                  obtain rfl : ad174 = ad181 := (by injection e181)
                                  replace hx181_0 := (HB.out.cell (World.block_lt_of_cell? w _ hx181_0)).trans hx181_0
                                  replace hx181_1 := (HB.out.cell (World.block_lt_of_cell? w _ hx181_1)).trans hx181_1
                                  replace hx181_2 := (HB.out.cell (World.block_lt_of_cell? w _ hx181_2)).trans hx181_2
                                  replace hx181_3 := (HB.out.cell (World.block_lt_of_cell? w _ hx181_3)).trans hx181_3
                                  replace hx181_4 := (HB.out.cell (World.block_lt_of_cell? w _ hx181_4)).trans hx181_4
                                  replace hx181_5 := (HB.out.cell (World.block_lt_of_cell? w _ hx181_5)).trans hx181_5
                                  replace hx181_6 := (HB.out.cell (World.block_lt_of_cell? w _ hx181_6)).trans hx181_6
                                  replace p181 := eq_true p181
                                  replace q181 := eq_true q181
                                  go_wp2_with (first | ((with_reducible refine gate_dst (N := 10) rfl ?_); (try (refine gate_guard (by rfl) ?_; dsimp only)); refine box_event ?hg (N := 10) ?hd (cs := #[.int .i64 0, .int .i64 0, .int .i64 0, .int .i64 0, .int .i64 0, .int .i64 0, .int .i64 0]) (t := 97) ?hr ?_; (case hd => rfl); (case hg => rfl); (case hr => first | (go_simp; done) | (go_simp; rfl)); intro gb182 hg w34 hbox hb; have n0_ := Aside0.mk (blk_below (g := gb175) (o := .cells #[.int .i64 ((rd_T97 l2 x22_2).f0), .int .i64 ((rd_T97 l2 x22_2).f1), .int .i64 ((rd_T97 l2 x22_2).f2.f0), .int .i64 ((rd_T97 l2 x22_2).f2.f1), .int .i64 ((rd_T97 l2 x22_2).f2.f2), .int .i64 ((rd_T97 l2 x22_2).f2.f3), .int .i64 ((rd_T97 l2 x22_2).f2.f4)] 97 (0, 0)) (by (with_reducible repeat (first | refine blk_drewN ?_ _ | refine blk_drew ?_ | refine blk_alloc ?_ _)); exact BK175.out) hb); have n1_ := Aside0.mk (below_step (by repeat (first | (with_reducible first | exact HB.out | apply below_alloc | apply pw_below_drewN | apply below_drew1 | refine below_set ?_ GE175.out) | exact HB.out)) hb); have n2_ := Aside0.mk (hbox); have n3_ := Aside0.mk ((by rw [hg]; exact (below_size (by repeat (first | (with_reducible first | exact HB.out | apply below_alloc | apply pw_below_drewN | apply below_drew1 | refine below_set ?_ GE175.out) | exact HB.out))) : w.heap.size ≤ gb182)); have n4_ := Aside0.mk ((by rw [hg]; exact (below_size (by repeat (first | (with_reducible first | exact HB.out | apply below_alloc | apply pw_below_drewN | apply below_drew1 | refine below_set ?_ GE175.out) | exact HB.out))) : w.heap.size ≤ gb182)); have n5_ := Aside0.mk ((by rw [hg]; exact Nat.ne_of_lt (blk_lt (g := gb175) (o := .cells #[.int .i64 ((rd_T97 l2 x22_2).f0), .int .i64 ((rd_T97 l2 x22_2).f1), .int .i64 ((rd_T97 l2 x22_2).f2.f0), .int .i64 ((rd_T97 l2 x22_2).f2.f1), .int .i64 ((rd_T97 l2 x22_2).f2.f2), .int .i64 ((rd_T97 l2 x22_2).f2.f3), .int .i64 ((rd_T97 l2 x22_2).f2.f4)] 97 (0, 0)) (by (with_reducible repeat (first | refine blk_drewN ?_ _ | refine blk_drew ?_ | refine blk_alloc ?_ _)); exact BK175.out)) : gb175 ≠ gb182)); have n6_ := Aside0.mk ((by rw [hg]; exact Nat.ne_of_gt (blk_lt (g := gb175) (o := .cells #[.int .i64 ((rd_T97 l2 x22_2).f0), .int .i64 ((rd_T97 l2 x22_2).f1), .int .i64 ((rd_T97 l2 x22_2).f2.f0), .int .i64 ((rd_T97 l2 x22_2).f2.f1), .int .i64 ((rd_T97 l2 x22_2).f2.f2), .int .i64 ((rd_T97 l2 x22_2).f2.f3), .int .i64 ((rd_T97 l2 x22_2).f2.f4)] 97 (0, 0)) (by (with_reducible repeat (first | refine blk_drewN ?_ _ | refine blk_drew ?_ | refine blk_alloc ?_ _)); exact BK175.out)) : gb182 ≠ gb175)); clear BK175; clear HB; have BK175 := n0_; have HB := n1_; have BK182 := n2_; have GW182 := n3_; have GE182 := n4_; have NB175_182 := n5_; have NB182_175 := n6_; clear n0_ n1_ n2_ n3_ n4_ n5_ n6_; clear hb hbox hg; have hnb35 := NB182_175.out; have hnc35 := NB175_182.out; have hcz36_0 : w34.cell? ⟨gb182, 0, none⟩ = some (.int .i64 0) := (blk_cell BK182.out 0).trans rfl; have hcz36_1 : w34.cell? ⟨gb182, 1, none⟩ = some (.int .i64 0) := (blk_cell BK182.out 1).trans rfl; have hcz36_2 : w34.cell? ⟨gb182, 2, none⟩ = some (.int .i64 0) := (blk_cell BK182.out 2).trans rfl; have hcz36_3 : w34.cell? ⟨gb182, 3, none⟩ = some (.int .i64 0) := (blk_cell BK182.out 3).trans rfl; have hcz36_4 : w34.cell? ⟨gb182, 4, none⟩ = some (.int .i64 0) := (blk_cell BK182.out 4).trans rfl; have hcz36_5 : w34.cell? ⟨gb182, 5, none⟩ = some (.int .i64 0) := (blk_cell BK182.out 5).trans rfl; have hcz36_6 : w34.cell? ⟨gb182, 6, none⟩ = some (.int .i64 0) := (blk_cell BK182.out 6).trans rfl; have hfz36_0 := blk_frozen BK182.out 0; have hfz36_1 := blk_frozen BK182.out 1; have hfz36_2 := blk_frozen BK182.out 2; have hfz36_3 := blk_frozen BK182.out 3; have hfz36_4 := blk_frozen BK182.out 4; have hfz36_5 := blk_frozen BK182.out 5; have hfz36_6 := blk_frozen BK182.out 6; have hcz37_0 : w34.cell? ⟨gb175, 0, none⟩ = some (.int .i64 ((rd_T97 l2 x22_2).f0)) := (blk_cell BK175.out 0).trans rfl; have hcz37_1 : w34.cell? ⟨gb175, 1, none⟩ = some (.int .i64 ((rd_T97 l2 x22_2).f1)) := (blk_cell BK175.out 1).trans rfl; have hcz37_2 : w34.cell? ⟨gb175, 2, none⟩ = some (.int .i64 ((rd_T97 l2 x22_2).f2.f0)) := (blk_cell BK175.out 2).trans rfl; have hcz37_3 : w34.cell? ⟨gb175, 3, none⟩ = some (.int .i64 ((rd_T97 l2 x22_2).f2.f1)) := (blk_cell BK175.out 3).trans rfl; have hcz37_4 : w34.cell? ⟨gb175, 4, none⟩ = some (.int .i64 ((rd_T97 l2 x22_2).f2.f2)) := (blk_cell BK175.out 4).trans rfl; have hcz37_5 : w34.cell? ⟨gb175, 5, none⟩ = some (.int .i64 ((rd_T97 l2 x22_2).f2.f3)) := (blk_cell BK175.out 5).trans rfl; have hcz37_6 : w34.cell? ⟨gb175, 6, none⟩ = some (.int .i64 ((rd_T97 l2 x22_2).f2.f4)) := (blk_cell BK175.out 6).trans rfl; have hfz37_0 := blk_frozen BK175.out 0; have hfz37_1 := blk_frozen BK175.out 1; have hfz37_2 := blk_frozen BK175.out 2; have hfz37_3 := blk_frozen BK175.out 3; have hfz37_4 := blk_frozen BK175.out 4; have hfz37_5 := blk_frozen BK175.out 5; have hfz37_6 := blk_frozen BK175.out 6))
                                  go_roundg k3
                                  case measure => have := HJ3.out; have := HK2.out; have := HK3.out; omega
                                  case rel => exact ⟨(wrap64 (x36_3 + 1)), (by first | rfl | (simp; done) | (simp [*]; done)), H', ⟨by have := HJ3.out; have := HK2.out; have := HK3.out; omega⟩, ⟨by (with_reducible repeat (first | refine blk_drewN ?_ _ | refine blk_drew ?_ | refine blk_alloc ?_ _)); refine blk_far ?_ NB175_182.out _; (with_reducible repeat (first | refine blk_drewN ?_ _ | refine blk_drew ?_ | refine blk_alloc ?_ _)); refine blk_far ?_ NB175_182.out _; (with_reducible repeat (first | refine blk_drewN ?_ _ | refine blk_drew ?_ | refine blk_alloc ?_ _)); refine blk_far ?_ NB175_182.out _; (with_reducible repeat (first | refine blk_drewN ?_ _ | refine blk_drew ?_ | refine blk_alloc ?_ _)); refine blk_far ?_ NB175_182.out _; (with_reducible repeat (first | refine blk_drewN ?_ _ | refine blk_drew ?_ | refine blk_alloc ?_ _)); refine blk_far ?_ NB175_182.out _; (with_reducible repeat (first | refine blk_drewN ?_ _ | refine blk_drew ?_ | refine blk_alloc ?_ _)); refine blk_far ?_ NB175_182.out _; (with_reducible repeat (first | refine blk_drewN ?_ _ | refine blk_drew ?_ | refine blk_alloc ?_ _)); refine blk_far ?_ NB175_182.out _; (with_reducible repeat (first | refine blk_drewN ?_ _ | refine blk_drew ?_ | refine blk_alloc ?_ _)); exact BK175.out⟩, ⟨by repeat (first | (with_reducible first | exact HB.out | apply below_alloc | apply pw_below_drewN | apply below_drew1 | refine below_set ?_ GE175.out | refine below_set ?_ GE182.out) | exact HB.out)⟩⟩
                              · rw [if_neg c23] at H
                                exact absurd H (by simp)
                            · rw [if_neg c22] at H
                              exact absurd H (by simp)
                          · rw [if_neg c21] at H
                            have c21b0 : decide (x36_3 < (y177.length : Int)) = false := decide_eq_false c21
                            clear c21
                            have H' := Aside0.mk H
                            clear H
                            go_wp2
                            go_roundg k3
                            case measure => have := HJ3.out; have := HK2.out; have := HK3.out; omega
                            case rel => exact ⟨(wrap64 (x22_2 + 1)), (by first | rfl | (simp; done) | (simp [*]; done)), H', ⟨by have := HJ3.out; have := HK2.out; have := HK3.out; omega⟩, ⟨by repeat (first | (with_reducible first | exact HB.out | apply below_alloc | apply pw_below_drewN | apply below_drew1 | refine below_set ?_ GE175.out) | exact HB.out)⟩⟩
                    · rw [if_neg c16] at H
                      exact absurd H (by simp)
                  · replace c14 := Bool.eq_false_iff.mpr c14
                    subst c14
                    have H1 : (some false) = some r := by rw [if_neg (show ¬ (false = true) by decide)] at H; exact H
                    clear H
                    have H := H1
                    clear H1
                    obtain rfl := Option.some.inj H
                    have p174 : 0 ≤ (x22_2 : Int) := of_decide_eq_true (by first | (with_reducible assumption) | assumption)
                    have q174 : x22_2 < (l2.length : Int) := of_decide_eq_true (by first | (with_reducible assumption) | assumption)
                    obtain ⟨ad174, e174, hx174_0, hx174_1, hx174_2, hx174_3, hx174_4, hx174_5, hx174_6⟩ := at_T97 HR2.out x22_2 p174 q174
                    cases e174
                    replace hx174_0 := (HB.out.cell (World.block_lt_of_cell? w _ hx174_0)).trans hx174_0
                    replace hx174_1 := (HB.out.cell (World.block_lt_of_cell? w _ hx174_1)).trans hx174_1
                    replace hx174_2 := (HB.out.cell (World.block_lt_of_cell? w _ hx174_2)).trans hx174_2
                    replace hx174_3 := (HB.out.cell (World.block_lt_of_cell? w _ hx174_3)).trans hx174_3
                    replace hx174_4 := (HB.out.cell (World.block_lt_of_cell? w _ hx174_4)).trans hx174_4
                    replace hx174_5 := (HB.out.cell (World.block_lt_of_cell? w _ hx174_5)).trans hx174_5
                    replace hx174_6 := (HB.out.cell (World.block_lt_of_cell? w _ hx174_6)).trans hx174_6
                    replace p174 := eq_true p174
                    replace q174 := eq_true q174
                    go_wp2_with (first | ((with_reducible refine gate_dst (N := 8) rfl ?_); (try (refine gate_guard (by rfl) ?_; dsimp only)); refine box_event ?hg (N := 8) ?hd (cs := #[.int .i64 0, .int .i64 0, .int .i64 0, .int .i64 0, .int .i64 0, .int .i64 0, .int .i64 0]) (t := 97) ?hr ?_; (case hd => rfl); (case hg => rfl); (case hr => first | (go_simp; done) | (go_simp; rfl)); intro gb175 hg w38 hbox hb; have n0_ := Aside0.mk (below_step (by repeat (first | (with_reducible first | exact HB.out | apply below_alloc | apply pw_below_drewN | apply below_drew1) | exact HB.out)) hb); have n1_ := Aside0.mk (hbox); have n2_ := Aside0.mk ((by rw [hg]; exact (below_size (by repeat (first | (with_reducible first | exact HB.out | apply below_alloc | apply pw_below_drewN | apply below_drew1) | exact HB.out))) : w.heap.size ≤ gb175)); have n3_ := Aside0.mk ((by rw [hg]; exact (below_size (by repeat (first | (with_reducible first | exact HB.out | apply below_alloc | apply pw_below_drewN | apply below_drew1) | exact HB.out))) : w.heap.size ≤ gb175)); clear HB; have HB := n0_; have BK175 := n1_; have GW175 := n2_; have GE175 := n3_; clear n0_ n1_ n2_ n3_; clear hb hbox hg; have hcz39_0 : w38.cell? ⟨gb175, 0, none⟩ = some (.int .i64 0) := (blk_cell BK175.out 0).trans rfl; have hcz39_1 : w38.cell? ⟨gb175, 1, none⟩ = some (.int .i64 0) := (blk_cell BK175.out 1).trans rfl; have hcz39_2 : w38.cell? ⟨gb175, 2, none⟩ = some (.int .i64 0) := (blk_cell BK175.out 2).trans rfl; have hcz39_3 : w38.cell? ⟨gb175, 3, none⟩ = some (.int .i64 0) := (blk_cell BK175.out 3).trans rfl; have hcz39_4 : w38.cell? ⟨gb175, 4, none⟩ = some (.int .i64 0) := (blk_cell BK175.out 4).trans rfl; have hcz39_5 : w38.cell? ⟨gb175, 5, none⟩ = some (.int .i64 0) := (blk_cell BK175.out 5).trans rfl; have hcz39_6 : w38.cell? ⟨gb175, 6, none⟩ = some (.int .i64 0) := (blk_cell BK175.out 6).trans rfl; have hfz39_0 := blk_frozen BK175.out 0; have hfz39_1 := blk_frozen BK175.out 1; have hfz39_2 := blk_frozen BK175.out 2; have hfz39_3 := blk_frozen BK175.out 3; have hfz39_4 := blk_frozen BK175.out 4; have hfz39_5 := blk_frozen BK175.out 5; have hfz39_6 := blk_frozen BK175.out 6) | ((with_reducible refine gate_callee (f := 107) rfl ?_); refine goesL_ (some 30) rfl rfl Try.func107 (by kernel_rfl) rfl #[.int .i64 a0, .slice A1 l1.length c1, .agg #[.int .i64 ((rd_T97 l2 x22_2).f0), .int .i64 ((rd_T97 l2 x22_2).f1), .int .i64 ((rd_T97 l2 x22_2).f2.f0), .int .i64 ((rd_T97 l2 x22_2).f2.f1), .int .i64 ((rd_T97 l2 x22_2).f2.f2), .int .i64 ((rd_T97 l2 x22_2).f2.f3), .int .i64 ((rd_T97 l2 x22_2).f2.f4)]] rfl (by (try simp only [List.map_toArray, List.map_cons, List.map_nil]); first | done | rfl | (simp only [List.length_drop, List.length_take]; rfl)) ?_; (with_reducible refine (spec_l05Note.calls k2 a0 _ _ l1 ((rd_T97 l2 x22_2).f0) ((rd_T97 l2 x22_2).f1) ((rd_T97 l2 x22_2).f2.f0) ((rd_T97 l2 x22_2).f2.f1) ((rd_T97 l2 x22_2).f2.f2) ((rd_T97 l2 x22_2).f2.f3) ((rd_T97 l2 x22_2).f2.f4) false _ ?side1 ?side2 A13.out).mono ?_); (case side1 => exact Kd.C_below HR1.out (by repeat (first | (with_reducible first | exact HB.out | apply below_alloc | apply pw_below_drewN | apply below_drew1 | refine below_set ?_ GE175.out) | exact HB.out))); (case side2 => exact HC1.out); rintro e w40 ⟨rfl, hb⟩; refine ⟨_, rfl, ?_⟩; have n0_ := Aside0.mk (blk_below (g := gb175) (o := .cells #[.int .i64 ((rd_T97 l2 x22_2).f0), .int .i64 ((rd_T97 l2 x22_2).f1), .int .i64 ((rd_T97 l2 x22_2).f2.f0), .int .i64 ((rd_T97 l2 x22_2).f2.f1), .int .i64 ((rd_T97 l2 x22_2).f2.f2), .int .i64 ((rd_T97 l2 x22_2).f2.f3), .int .i64 ((rd_T97 l2 x22_2).f2.f4)] 97 (0, 0)) (by (with_reducible repeat (first | refine blk_drewN ?_ _ | refine blk_drew ?_ | refine blk_alloc ?_ _)); refine blk_put (cs := #[.int .i64 ((rd_T97 l2 x22_2).f0), .int .i64 ((rd_T97 l2 x22_2).f1), .int .i64 ((rd_T97 l2 x22_2).f2.f0), .int .i64 ((rd_T97 l2 x22_2).f2.f1), .int .i64 ((rd_T97 l2 x22_2).f2.f2), .int .i64 ((rd_T97 l2 x22_2).f2.f3), .int .i64 0]) ?_ 6 _ rfl; (with_reducible repeat (first | refine blk_drewN ?_ _ | refine blk_drew ?_ | refine blk_alloc ?_ _)); refine blk_put (cs := #[.int .i64 ((rd_T97 l2 x22_2).f0), .int .i64 ((rd_T97 l2 x22_2).f1), .int .i64 ((rd_T97 l2 x22_2).f2.f0), .int .i64 ((rd_T97 l2 x22_2).f2.f1), .int .i64 ((rd_T97 l2 x22_2).f2.f2), .int .i64 0, .int .i64 0]) ?_ 5 _ rfl; (with_reducible repeat (first | refine blk_drewN ?_ _ | refine blk_drew ?_ | refine blk_alloc ?_ _)); refine blk_put (cs := #[.int .i64 ((rd_T97 l2 x22_2).f0), .int .i64 ((rd_T97 l2 x22_2).f1), .int .i64 ((rd_T97 l2 x22_2).f2.f0), .int .i64 ((rd_T97 l2 x22_2).f2.f1), .int .i64 0, .int .i64 0, .int .i64 0]) ?_ 4 _ rfl; (with_reducible repeat (first | refine blk_drewN ?_ _ | refine blk_drew ?_ | refine blk_alloc ?_ _)); refine blk_put (cs := #[.int .i64 ((rd_T97 l2 x22_2).f0), .int .i64 ((rd_T97 l2 x22_2).f1), .int .i64 ((rd_T97 l2 x22_2).f2.f0), .int .i64 0, .int .i64 0, .int .i64 0, .int .i64 0]) ?_ 3 _ rfl; (with_reducible repeat (first | refine blk_drewN ?_ _ | refine blk_drew ?_ | refine blk_alloc ?_ _)); refine blk_put (cs := #[.int .i64 ((rd_T97 l2 x22_2).f0), .int .i64 ((rd_T97 l2 x22_2).f1), .int .i64 0, .int .i64 0, .int .i64 0, .int .i64 0, .int .i64 0]) ?_ 2 _ rfl; (with_reducible repeat (first | refine blk_drewN ?_ _ | refine blk_drew ?_ | refine blk_alloc ?_ _)); refine blk_put (cs := #[.int .i64 ((rd_T97 l2 x22_2).f0), .int .i64 0, .int .i64 0, .int .i64 0, .int .i64 0, .int .i64 0, .int .i64 0]) ?_ 1 _ rfl; (with_reducible repeat (first | refine blk_drewN ?_ _ | refine blk_drew ?_ | refine blk_alloc ?_ _)); refine blk_put (cs := #[.int .i64 0, .int .i64 0, .int .i64 0, .int .i64 0, .int .i64 0, .int .i64 0, .int .i64 0]) ?_ 0 _ rfl; (with_reducible repeat (first | refine blk_drewN ?_ _ | refine blk_drew ?_ | refine blk_alloc ?_ _)); exact BK175.out) hb); have n1_ := Aside0.mk (below_step (by repeat (first | (with_reducible first | exact HB.out | apply below_alloc | apply pw_below_drewN | apply below_drew1 | refine below_set ?_ GE175.out) | exact HB.out)) hb); clear BK175; clear HB; have BK175 := n0_; have HB := n1_; clear n0_ n1_; (try clear hb); (try clear hb2); (try clear hk); (try clear hi)))
                    go_ret
                    exact ⟨by first | rfl | (simp [errW_none, errW_some] <;> rfl) | (simp [*, errW_none, errW_some] <;> rfl), by repeat (first | (with_reducible first | exact HB.out | apply below_alloc | apply pw_below_drewN | apply below_drew1 | refine below_set ?_ GE175.out) | exact HB.out)⟩
                · rw [if_neg c12] at H
                  exact absurd H (by simp)
              · rw [if_neg c11] at H
                exact absurd H (by simp)
            · rw [if_neg c10] at H
              have c10b0 : decide (x22_2 < (l2.length : Int)) = false := decide_eq_false c10
              clear c10
              obtain rfl := Option.some.inj H
              go_wp2
              go_ret
              exact ⟨by first | rfl | (simp [errW_none, errW_some] <;> rfl) | (simp [*, errW_none, errW_some] <;> rfl), by repeat (first | (with_reducible first | exact HB.out | apply below_alloc | apply pw_below_drewN | apply below_drew1) | exact HB.out)⟩

/-! ### spec_ApplyNotes: function 26 -/
def spec_ApplyNotes.l0 : Nat → List (S71) → List (S97) → Int → Int → Option ((List (S71)) × Bool)
  | 0, _, _, _, _ => none
  | k + 1, x8, x20, x21, x22 => if x22 < x21 then (if 0 ≤ x22 then (if x22 < (x20.length : Int) then (if 0 ≤ ((rd_T97 x20 x22).f1) then (if ((rd_T97 x20 x22).f1) < (x8.length : Int) then (spec_ApplyNotes.l0 k (x8.set (((rd_T97 x20 x22).f1) : Int).toNat (⟨(rd_T97 x20 x22).f2.f0, (rd_T97 x20 x22).f2.f1, (rd_T97 x20 x22).f2.f2, (rd_T97 x20 x22).f2.f3, (rd_T97 x20 x22).f2.f4⟩ : S71)) x20 x21 (wrap64 (x22 + 1))) else (none)) else (none)) else (none)) else (none)) else (some (x8, true))
def spec_ApplyNotes.f (k : Nat) (a0 : Int) (l1 : List (S71)) (l2 : List (S97)) : Option ((List (S71)) × Bool) := (spec_NotesOk.f k a0 l1 l2).bind fun t183 => (if t183 = true then ((some (([] : List (S71)) : List (S71))).bind fun y184 => (if y184.length + l1.length < 3518437208883 then ((spec_CanonNotes.f k l2).bind fun t190 => (spec_ApplyNotes.l0 k (y184 ++ l1) t190 (t190.length : Int) 0)) else (none))) else (some (([] : List (S71)), false)))
theorem spec_ApplyNotes.mono_l : ∀ k, (∀ y0 y1 y2 y3, LeO (spec_ApplyNotes.l0 k y0 y1 y2 y3) (spec_ApplyNotes.l0 (k + 1) y0 y1 y2 y3))
  | 0 => fun _ _ _ _ r h => by simp [spec_ApplyNotes.l0] at h
  | k + 1 => by
    have ih0 := spec_ApplyNotes.mono_l k
    · intro y0 y1 y2 y3
      unfold spec_ApplyNotes.l0
      repeat' first
      | (with_reducible exact ih0 _ _ _ _)
      | (with_reducible exact spec_CanonNotes.mono _ _)
      | (with_reducible exact spec_NotesOk.mono _ _ _ _)
      | (with_reducible exact LeO.refl _)
      | (with_reducible exact LeO.none _)
      | (with_reducible refine LeO.ite ?_ ?_)
      | (with_reducible refine LeO.bind ?_ (fun _ => ?_))
      | exact ih0 _ _ _ _
      | exact spec_CanonNotes.mono _ _
      | exact spec_NotesOk.mono _ _ _ _
      | exact LeO.none _
      | refine LeO.ite ?_ ?_
      | refine LeO.bind ?_ (fun _ => ?_)
theorem spec_ApplyNotes.mono : ∀ a0 a1 a2 k, LeO (spec_ApplyNotes.f k a0 a1 a2) (spec_ApplyNotes.f (k + 1) a0 a1 a2) := by
  intro a0 a1 a2 k
  have ih0 := spec_ApplyNotes.mono_l k
  unfold spec_ApplyNotes.f
  repeat' first
      | (with_reducible exact ih0 _ _ _ _)
      | (with_reducible exact spec_CanonNotes.mono _ _)
      | (with_reducible exact spec_NotesOk.mono _ _ _ _)
      | (with_reducible exact LeO.refl _)
      | (with_reducible exact LeO.none _)
      | (with_reducible refine LeO.ite ?_ ?_)
      | (with_reducible refine LeO.bind ?_ (fun _ => ?_))
      | exact ih0 _ _ _ _
      | exact spec_CanonNotes.mono _ _
      | exact spec_NotesOk.mono _ _ _ _
      | exact LeO.none _
      | refine LeO.ite ?_ ?_
      | refine LeO.bind ?_ (fun _ => ?_)
set_option maxHeartbeats 8000000 in
set_option maxRecDepth 100000 in
theorem spec_ApplyNotes.calls (k : Nat) (a0 : Int) (A1 : Option Addr) (c1 : Nat) (l1 : List (S71)) (A2 : Option Addr) (c2 : Nat) (l2 : List (S97)) (r1 : List (S71)) (r2 : Bool) (w : World) (hr1 : Kd.C k71 w A1 l1.length l1) (hc1 : l1.length ≤ c1) (hr2 : Kd.C k97 w A2 l2.length l2) (hc2 : l2.length ≤ c2) (h : spec_ApplyNotes.f k a0 l1 l2 = some (r1, r2)) :
    Calls Try.prog 26 #[.int .i64 a0, .slice A1 l1.length c1, .slice A2 l2.length c2] w fun e w' => ∃ v0_ : Value, e = .returned (.tuple #[v0_, .bool r2]) ∧ Kd.R k71 71 w' w.heap.size (fun _ => True) v0_ r1 ∧ Below w.heap.size w w' := by
  have hu97 := Try.underlying97
  have hu71 := Try.underlying71
  have HR1 := Aside0.mk hr1
  have HC1 := Aside0.mk hc1
  clear hr1 hc1
  have HR2 := Aside0.mk hr2
  have HC2 := Aside0.mk hc2
  clear hr2 hc2
  have HB := Aside0.mk (Below.refl w.heap.size w)
  have H : ((spec_NotesOk.f k a0 l1 l2).bind fun t183 => (if t183 = true then ((some (([] : List (S71)) : List (S71))).bind fun y184 => (if y184.length + l1.length < 3518437208883 then ((spec_CanonNotes.f k l2).bind fun t190 => (spec_ApplyNotes.l0 k (y184 ++ l1) t190 (t190.length : Int) 0)) else (none))) else (some (([] : List (S71)), false)))) = some (r1, r2) := h
  clear h
  replace H := Option.bind_eq_some_iff.mp H
  obtain ⟨t183, A40, H⟩ := H
  replace H : (if t183 = true then ((some (([] : List (S71)) : List (S71))).bind fun y184 => (if y184.length + l1.length < 3518437208883 then ((spec_CanonNotes.f k l2).bind fun t190 => (spec_ApplyNotes.l0 k (y184 ++ l1) t190 (t190.length : Int) 0)) else (none))) else (some (([] : List (S71)), false))) = some (r1, r2) := H
  have A4 := Aside0.mk A40
  clear A40
  by_cases c5 : t183 = true
  · subst c5
    have H1 : ((some (([] : List (S71)) : List (S71))).bind fun y184 => (if y184.length + l1.length < 3518437208883 then ((spec_CanonNotes.f k l2).bind fun t190 => (spec_ApplyNotes.l0 k (y184 ++ l1) t190 (t190.length : Int) 0)) else (none))) = some (r1, r2) := by rw [if_pos rfl] at H; exact H
    clear H
    have H := H1
    clear H1
    obtain ⟨y184, hy184⟩ : ∃ y_ : List (S71), y_ = (([] : List (S71))) := ⟨_, rfl⟩
    replace H : (if y184.length + l1.length < 3518437208883 then ((spec_CanonNotes.f k l2).bind fun t190 => (spec_ApplyNotes.l0 k (y184 ++ l1) t190 (t190.length : Int) 0)) else (none)) = some (r1, r2) := by first | (rw [hy184]; with_reducible exact H) | (have H2_ := (Option.bind_some _ _).symm.trans H; rw [hy184]; with_reducible exact H2_) | (have H2_ := (Option.bind_some _ _).symm.trans H; with_reducible exact H2_) | with_reducible exact H | (rw [hy184]; exact H) | exact H
    have Ny184 := Aside0.mk hy184
    clear hy184
    by_cases c6 : y184.length + l1.length < 3518437208883
    · rw [if_pos c6] at H
      have LMc6 := Aside0.mk c6
      clear c6
      obtain ⟨y187, hy187⟩ : ∃ y_ : List (S71), y_ = (y184 ++ l1) := ⟨_, rfl⟩
      replace H : ((spec_CanonNotes.f k l2).bind fun t190 => (spec_ApplyNotes.l0 k y187 t190 (t190.length : Int) 0)) = some (r1, r2) := by first | (rw [hy187]; with_reducible exact H) | (have H2_ := (Option.bind_some _ _).symm.trans H; rw [hy187]; with_reducible exact H2_) | (have H2_ := (Option.bind_some _ _).symm.trans H; with_reducible exact H2_) | with_reducible exact H | (rw [hy187]; exact H) | exact H
      have Ny187 := Aside0.mk hy187
      clear hy187
      replace H := Option.bind_eq_some_iff.mp H
      obtain ⟨t190, A70, H⟩ := H
      replace H : (spec_ApplyNotes.l0 k y187 t190 (t190.length : Int) 0) = some (r1, r2) := H
      have A7 := Aside0.mk A70
      clear A70
      have H' := Aside0.mk H
      clear H
      go_enter Try.func26, Try.ntmps26
      go_wp2_with (first | ((with_reducible refine gate_callee (f := 76) rfl ?_); refine goesL_ (some 14) rfl rfl Try.func76 (by kernel_rfl) rfl #[.int .i64 a0, .slice A1 l1.length c1, .slice A2 l2.length c2] rfl (by (try simp only [List.map_toArray, List.map_cons, List.map_nil]); first | done | rfl | (simp only [List.length_drop, List.length_take]; rfl)) ?_; (with_reducible refine (spec_NotesOk.calls k a0 _ _ l1 _ _ l2 true _ ?side1 ?side2 ?side3 ?side4 A4.out).mono ?_); (case side1 => repeat (first | exact HR1.out | (with_reducible refine Kd.C_alloc ?_ _) | (with_reducible refine Kd.C_drewN ?_ _) | (with_reducible refine Kd.C_drew ?_))); (case side2 => exact HC1.out); (case side3 => repeat (first | exact HR2.out | (with_reducible refine Kd.C_alloc ?_ _) | (with_reducible refine Kd.C_drewN ?_ _) | (with_reducible refine Kd.C_drew ?_))); (case side4 => exact HC2.out); rintro e w8 ⟨rfl, hb⟩; refine ⟨_, rfl, ?_⟩; have n0_ := Aside0.mk (below_step (by repeat (first | (with_reducible first | exact HB.out | apply below_alloc | apply pw_below_drewN | apply below_drew1) | exact HB.out)) hb); clear HB; have HB := n0_; clear n0_; (try clear hb); (try clear hb2); (try clear hk); (try clear hi)) | ((with_reducible refine gate_dst (N := 16) rfl ?_); refine Kd.R_lit k71 _ 71 ?hg (N := 16) ?hd (xs := ([] : List (S71))) (inner := []) (ok := fun _ => True) (okp := fun _ => True) ?hr ?hp (fun _ hk => hk) trivial (Below.refl _ _) (Nat.le_refl _) (by simp) ?_; (case hd => rfl); (case hg => rfl); (case hr => first | (go_simp; done) | (go_simp; rfl)); (case hp => exact (Reps.none _ _)); intro v185 w9 ho10 hb hg_ hnew_; clear hg_ hnew_; (first | rw [← Ny184.out] at ho10 | (simp only [Int.reduceToNat] at ho10; rw [← Ny184.out] at ho10)); have n0_ := Aside0.mk (Kd.R_lower ho10 (below_size (by repeat (first | (with_reducible first | exact HB.out | apply below_alloc | apply pw_below_drewN | apply below_drew1) | exact HB.out)))); have n1_ := Aside0.mk (below_step (by repeat (first | (with_reducible first | exact HB.out | apply below_alloc | apply pw_below_drewN | apply below_drew1) | exact HB.out)) hb); clear HB; have HO186 := n0_; have HB := n1_; clear n0_ n1_; clear hb ho10) | ((with_reducible refine gate_builtin (b := .append) (xs := #[.tmp 16, .tmp 17]) rfl ?_); at_builtin; refine Kd.R_append_rows k71 (w0 := w) w.heap.size rfl (.tmp 16) (.tmp 17) 44 71 (.agg #[(.int .i64 0), (.int .i64 0), (.int .i64 0), (.int .i64 0), (.int .i64 0)]) 40 rfl Try.underlying44 info71 rfl (by decide) (by omega) v185 y184 l1 _ _ _ (fun _ => True) (fun _ => False) rfl rfl ?aO ?aR (fun _ _ h => h) (fun _ h => h.elim) ?aF ?aB ?aS ?aL ?_; (case aR => repeat (first | exact (Kd.C_below HR1.out HB.out) | (with_reducible refine Kd.C_alloc ?_ _) | (with_reducible refine Kd.C_drewN ?_ _) | (with_reducible refine Kd.C_drew ?_))); (case aB => exact (by repeat (first | (with_reducible first | exact HB.out | apply below_alloc | apply pw_below_drewN | apply below_drew1) | exact HB.out))); (case aF => exact (fun _ _ => trivial)); (case aO => exact (by (with_reducible repeat (first | apply Kd.R_alloc | apply Kd.R_drewN | apply Kd.R_drew)); exact HO186.out)); (case aS => exact (below_size (by repeat (first | (with_reducible first | exact HB.out | apply below_alloc | apply pw_below_drewN | apply below_drew1) | exact HB.out)))); (case aL => have := LMc6.out; omega); intro v188 w11 ho hb hg hat; rw [← Ny187.out] at ho; have n0_ := Aside0.mk (hb); have n1_ := Aside0.mk (ho); clear HB; clear HO186; have HB := n0_; have HO189 := n1_; clear n0_ n1_; clear ho hb hg hat) | ((with_reducible refine gate_callee (f := 19) rfl ?_); refine goesL_ (some 20) rfl rfl Try.func19 (by kernel_rfl) rfl #[.slice A2 l2.length c2] rfl (by (try simp only [List.map_toArray, List.map_cons, List.map_nil]); first | done | rfl | (simp only [List.length_drop, List.length_take]; rfl)) ?_; (with_reducible refine (spec_CanonNotes.calls k _ _ l2 t190 _ ?side1 ?side2 A7.out).mono ?_); (case side1 => repeat (first | exact (Kd.C_below HR2.out HB.out) | (with_reducible refine Kd.C_alloc ?_ _) | (with_reducible refine Kd.C_drewN ?_ _) | (with_reducible refine Kd.C_drew ?_))); (case side2 => exact HC2.out); rintro e w12 ⟨v191, rfl, ho0, hb⟩; refine ⟨_, rfl, ?_⟩; have n0_ := Aside0.mk (Kd.R_below (by (with_reducible repeat (first | apply Kd.R_alloc | apply Kd.R_drewN | apply Kd.R_drew)); exact HO189.out) hb); have n1_ := Aside0.mk (Kd.R_lower ho0 (below_size (by repeat (first | (with_reducible first | exact HB.out | apply below_alloc | apply pw_below_drewN | apply below_drew1) | exact HB.out)))); have n2_ := Aside0.mk (below_step (by repeat (first | (with_reducible first | exact HB.out | apply below_alloc | apply pw_below_drewN | apply below_drew1) | exact HB.out)) hb); clear HO189; clear HB; have HO189 := n0_; have HO192 := n1_; have HB := n2_; clear n0_ n1_ n2_; (try clear hb); (try clear hb2); (try clear hk); (try clear hi); (try clear ho0); obtain ⟨Ao13, co13, eo13⟩ := Kd.R_slice HO192.out; subst eo13))
      go_loopg [22] k (fun kq v22 w' => ∃ (x8_1 : List (S71)) (x22_1 : Int), v22 = .int .i64 x22_1 ∧ Aside0 (spec_ApplyNotes.l0 kq x8_1 t190 (t190.length : Int) x22_1 = some (r1, r2)) ∧ Aside0 (kq ≤ k) ∧ Aside0 (Kd.R k71 71 w' w.heap.size (fun _ => True) v188 x8_1) ∧ Aside0 (Kd.R k97 97 w' w.heap.size (fun _ => True) (.slice Ao13 t190.length co13) t190) ∧ Aside0 (Below w.heap.size w w'))
      case atStart => exact ⟨(y187), (0), (by first | rfl | (simp; done) | (simp [*]; done)), H', ⟨Nat.le_refl _⟩, ⟨by (with_reducible repeat (first | apply Kd.R_alloc | apply Kd.R_drewN | apply Kd.R_drew)); exact HO189.out⟩, ⟨by (with_reducible repeat (first | apply Kd.R_alloc | apply Kd.R_drewN | apply Kd.R_drew)); exact HO192.out⟩, ⟨by repeat (first | (with_reducible first | exact HB.out | apply below_alloc | apply pw_below_drewN | apply below_drew1) | exact HB.out)⟩⟩
      case round =>
        clear H'
        try clear c1
        try clear c2
        try clear p2
        try clear c5
        try clear c6
        try clear c7
        obtain ⟨x8_1, x22_1, rfl, HA, HK1, HO_8, HO_20, HB⟩ := hrel
        cases gk with
        | zero => exact absurd HA.out (by simp [spec_ApplyNotes.l0])
        | succ k1 =>
          have H := HA.out
          clear HA
          simp only [spec_ApplyNotes.l0] at H
          by_cases c14 : x22_1 < (t190.length : Int)
          · rw [if_pos c14] at H
            have c14b0 : decide (x22_1 < (t190.length : Int)) = true := decide_eq_true c14
            clear c14
            by_cases c15 : 0 ≤ x22_1
            · rw [if_pos c15] at H
              have c15b0 : decide (0 ≤ x22_1) = true := decide_eq_true c15
              clear c15
              by_cases c16 : x22_1 < (t190.length : Int)
              · rw [if_pos c16] at H
                have c16b0 : decide (x22_1 < (t190.length : Int)) = true := decide_eq_true c16
                clear c16
                by_cases c17 : 0 ≤ ((rd_T97 t190 x22_1).f1)
                · rw [if_pos c17] at H
                  have c17b0 : decide (0 ≤ ((rd_T97 t190 x22_1).f1)) = true := decide_eq_true c17
                  clear c17
                  by_cases c18 : ((rd_T97 t190 x22_1).f1) < (x8_1.length : Int)
                  · rw [if_pos c18] at H
                    have c18b0 : decide (((rd_T97 t190 x22_1).f1) < (x8_1.length : Int)) = true := decide_eq_true c18
                    clear c18
                    obtain ⟨y195, hy195⟩ : ∃ y_ : List (S71), y_ = (x8_1.set (((rd_T97 t190 x22_1).f1) : Int).toNat (⟨(rd_T97 t190 x22_1).f2.f0, (rd_T97 t190 x22_1).f2.f1, (rd_T97 t190 x22_1).f2.f2, (rd_T97 t190 x22_1).f2.f3, (rd_T97 t190 x22_1).f2.f4⟩ : S71)) := ⟨_, rfl⟩
                    replace H : (spec_ApplyNotes.l0 k1 y195 t190 (t190.length : Int) (wrap64 (x22_1 + 1))) = some (r1, r2) := by first | (rw [hy195]; with_reducible exact H) | (have H2_ := (Option.bind_some _ _).symm.trans H; rw [hy195]; with_reducible exact H2_) | (have H2_ := (Option.bind_some _ _).symm.trans H; with_reducible exact H2_) | with_reducible exact H | (rw [hy195]; exact H) | exact H
                    have Ny195 := Aside0.mk hy195
                    clear hy195
                    have H' := Aside0.mk H
                    clear H
                    have p193 : 0 ≤ (x22_1 : Int) := of_decide_eq_true (by first | (with_reducible assumption) | assumption)
                    have q193 : x22_1 < (t190.length : Int) := of_decide_eq_true (by first | (with_reducible assumption) | assumption)
                    obtain ⟨ad193, e193, hx193_0, hx193_1, hx193_2, hx193_3, hx193_4, hx193_5, hx193_6⟩ := at_T97 (Kd.R_reads' HO_20.out).2.2 x22_1 p193 q193
                    cases e193
                    replace p193 := eq_true p193
                    replace q193 := eq_true q193
                    go_wp2_with (first | ((with_reducible refine gate_dst (N := 10) rfl ?_); refine box_event ?hg (N := 10) ?hd (cs := #[.int .i64 0, .int .i64 0, .int .i64 0, .int .i64 0, .int .i64 0, .int .i64 0, .int .i64 0]) (t := 97) ?hr ?_; (case hd => rfl); (case hg => rfl); (case hr => first | (go_simp; done) | (go_simp; rfl)); intro gb194 hg w20 hbox hb; have n0_ := Aside0.mk (Kd.R_below (by (with_reducible repeat (first | apply Kd.R_alloc | apply Kd.R_drewN | apply Kd.R_drew)); exact HO_8.out) hb); have n1_ := Aside0.mk (Kd.R_below (Kd.R_elderB (by (with_reducible repeat (first | apply Kd.R_alloc | apply Kd.R_drewN | apply Kd.R_drew)); exact HO_20.out) gb194 (Nat.le_of_eq hg.symm)) hb); have n2_ := Aside0.mk (below_step (by repeat (first | (with_reducible first | exact HB.out | apply below_alloc | apply pw_below_drewN | apply below_drew1) | exact HB.out)) hb); have n3_ := Aside0.mk (hbox); have n4_ := Aside0.mk ((by rw [hg]; exact (below_size (by repeat (first | (with_reducible first | exact HB.out | apply below_alloc | apply pw_below_drewN | apply below_drew1) | exact HB.out))) : w.heap.size ≤ gb194)); have n5_ := Aside0.mk ((by rw [hg]; exact (below_size (by repeat (first | (with_reducible first | exact HB.out | apply below_alloc | apply pw_below_drewN | apply below_drew1) | exact HB.out))) : w.heap.size ≤ gb194)); clear HO_8; clear HO_20; clear HB; have HO_8 := n0_; have HO_20 := n1_; have HB := n2_; have BK194 := n3_; have GW194 := n4_; have GE194 := n5_; clear n0_ n1_ n2_ n3_ n4_ n5_; clear hb hbox hg; have hcz21_0 : w20.cell? ⟨gb194, 0, none⟩ = some (.int .i64 0) := (blk_cell BK194.out 0).trans rfl; have hcz21_1 : w20.cell? ⟨gb194, 1, none⟩ = some (.int .i64 0) := (blk_cell BK194.out 1).trans rfl; have hcz21_2 : w20.cell? ⟨gb194, 2, none⟩ = some (.int .i64 0) := (blk_cell BK194.out 2).trans rfl; have hcz21_3 : w20.cell? ⟨gb194, 3, none⟩ = some (.int .i64 0) := (blk_cell BK194.out 3).trans rfl; have hcz21_4 : w20.cell? ⟨gb194, 4, none⟩ = some (.int .i64 0) := (blk_cell BK194.out 4).trans rfl; have hcz21_5 : w20.cell? ⟨gb194, 5, none⟩ = some (.int .i64 0) := (blk_cell BK194.out 5).trans rfl; have hcz21_6 : w20.cell? ⟨gb194, 6, none⟩ = some (.int .i64 0) := (blk_cell BK194.out 6).trans rfl; have hfz21_0 := blk_frozen BK194.out 0; have hfz21_1 := blk_frozen BK194.out 1; have hfz21_2 := blk_frozen BK194.out 2; have hfz21_3 := blk_frozen BK194.out 3; have hfz21_4 := blk_frozen BK194.out 4; have hfz21_5 := blk_frozen BK194.out 5; have hfz21_6 := blk_frozen BK194.out 6) | ((with_reducible refine gate_store (t := 97) (p := 10) rfl ?_); refine store_event (t := 97) (p := 10) (v := ?vo_w22) (w1 := (((((((w20.setCell ⟨gb194, 0, none⟩ (.int .i64 ((rd_T97 t190 x22_1).f0))).setCell ⟨gb194, 1, none⟩ (.int .i64 ((rd_T97 t190 x22_1).f1))).setCell ⟨gb194, 2, none⟩ (.int .i64 ((rd_T97 t190 x22_1).f2.f0))).setCell ⟨gb194, 3, none⟩ (.int .i64 ((rd_T97 t190 x22_1).f2.f1))).setCell ⟨gb194, 4, none⟩ (.int .i64 ((rd_T97 t190 x22_1).f2.f2))).setCell ⟨gb194, 5, none⟩ (.int .i64 ((rd_T97 t190 x22_1).f2.f3))).setCell ⟨gb194, 6, none⟩ (.int .i64 ((rd_T97 t190 x22_1).f2.f4)))) ?hg ?ho ?hn ?hr ?_; (case ho => rfl); (case hg => rfl); (case hn => rfl); (case hr => first | (go_simp; done) | (go_simp; rfl)); intro w22 hw; have n0_ : Aside0 (Kd.R k71 71 w22 w.heap.size (fun _ => True) v188 x8_1) := ⟨(by rw [hw]; exact (by (with_reducible repeat (first | apply Kd.R_alloc | apply Kd.R_drewN | apply Kd.R_drew)); exact Kd.R_mono (Kd.R_far (p := ⟨gb194, 6, none⟩) (Kd.R_far (p := ⟨gb194, 5, none⟩) (Kd.R_far (p := ⟨gb194, 4, none⟩) (Kd.R_far (p := ⟨gb194, 3, none⟩) (Kd.R_far (p := ⟨gb194, 2, none⟩) (Kd.R_far (p := ⟨gb194, 1, none⟩) (Kd.R_far (p := ⟨gb194, 0, none⟩) (Kd.R_types HO_8.out BK194.out (by decide)) (fun _ hk => hk.2) (.int .i64 ((rd_T97 t190 x22_1).f0))) (fun _ hk => hk.2) (.int .i64 ((rd_T97 t190 x22_1).f1))) (fun _ hk => hk.2) (.int .i64 ((rd_T97 t190 x22_1).f2.f0))) (fun _ hk => hk.2) (.int .i64 ((rd_T97 t190 x22_1).f2.f1))) (fun _ hk => hk.2) (.int .i64 ((rd_T97 t190 x22_1).f2.f2))) (fun _ hk => hk.2) (.int .i64 ((rd_T97 t190 x22_1).f2.f3))) (fun _ hk => hk.2) (.int .i64 ((rd_T97 t190 x22_1).f2.f4))) (fun _ hk => trivial)))⟩; have n1_ : Aside0 (Kd.R k97 97 w22 w.heap.size (fun k_ => k_ ≠ gb194) (.slice (some ad193) t190.length co13) t190) := ⟨(by rw [hw]; exact (by (with_reducible repeat (first | apply Kd.R_alloc | apply Kd.R_drewN | apply Kd.R_drew)); exact Kd.R_mono (Kd.R_far (p := ⟨gb194, 6, none⟩) (Kd.R_far (p := ⟨gb194, 5, none⟩) (Kd.R_far (p := ⟨gb194, 4, none⟩) (Kd.R_far (p := ⟨gb194, 3, none⟩) (Kd.R_far (p := ⟨gb194, 2, none⟩) (Kd.R_far (p := ⟨gb194, 1, none⟩) (Kd.R_far (p := ⟨gb194, 0, none⟩) (Kd.R_mono HO_20.out (fun k_ hk => (⟨hk, hk.2⟩ : _ ∧ k_ ≠ gb194))) (fun _ hk => hk.2) (.int .i64 ((rd_T97 t190 x22_1).f0))) (fun _ hk => hk.2) (.int .i64 ((rd_T97 t190 x22_1).f1))) (fun _ hk => hk.2) (.int .i64 ((rd_T97 t190 x22_1).f2.f0))) (fun _ hk => hk.2) (.int .i64 ((rd_T97 t190 x22_1).f2.f1))) (fun _ hk => hk.2) (.int .i64 ((rd_T97 t190 x22_1).f2.f2))) (fun _ hk => hk.2) (.int .i64 ((rd_T97 t190 x22_1).f2.f3))) (fun _ hk => hk.2) (.int .i64 ((rd_T97 t190 x22_1).f2.f4))) (fun _ hk => hk.1.2)))⟩; have n2_ : Aside0 (w22.heap[gb194]? = some (.cells #[.int .i64 ((rd_T97 t190 x22_1).f0), .int .i64 ((rd_T97 t190 x22_1).f1), .int .i64 ((rd_T97 t190 x22_1).f2.f0), .int .i64 ((rd_T97 t190 x22_1).f2.f1), .int .i64 ((rd_T97 t190 x22_1).f2.f2), .int .i64 ((rd_T97 t190 x22_1).f2.f3), .int .i64 ((rd_T97 t190 x22_1).f2.f4)] 97 (0, 0))) := ⟨(by rw [hw]; exact (by (with_reducible repeat (first | refine blk_drewN ?_ _ | refine blk_drew ?_ | refine blk_alloc ?_ _)); refine blk_put (cs := #[.int .i64 ((rd_T97 t190 x22_1).f0), .int .i64 ((rd_T97 t190 x22_1).f1), .int .i64 ((rd_T97 t190 x22_1).f2.f0), .int .i64 ((rd_T97 t190 x22_1).f2.f1), .int .i64 ((rd_T97 t190 x22_1).f2.f2), .int .i64 ((rd_T97 t190 x22_1).f2.f3), .int .i64 0]) ?_ 6 _ rfl; (with_reducible repeat (first | refine blk_drewN ?_ _ | refine blk_drew ?_ | refine blk_alloc ?_ _)); refine blk_put (cs := #[.int .i64 ((rd_T97 t190 x22_1).f0), .int .i64 ((rd_T97 t190 x22_1).f1), .int .i64 ((rd_T97 t190 x22_1).f2.f0), .int .i64 ((rd_T97 t190 x22_1).f2.f1), .int .i64 ((rd_T97 t190 x22_1).f2.f2), .int .i64 0, .int .i64 0]) ?_ 5 _ rfl; (with_reducible repeat (first | refine blk_drewN ?_ _ | refine blk_drew ?_ | refine blk_alloc ?_ _)); refine blk_put (cs := #[.int .i64 ((rd_T97 t190 x22_1).f0), .int .i64 ((rd_T97 t190 x22_1).f1), .int .i64 ((rd_T97 t190 x22_1).f2.f0), .int .i64 ((rd_T97 t190 x22_1).f2.f1), .int .i64 0, .int .i64 0, .int .i64 0]) ?_ 4 _ rfl; (with_reducible repeat (first | refine blk_drewN ?_ _ | refine blk_drew ?_ | refine blk_alloc ?_ _)); refine blk_put (cs := #[.int .i64 ((rd_T97 t190 x22_1).f0), .int .i64 ((rd_T97 t190 x22_1).f1), .int .i64 ((rd_T97 t190 x22_1).f2.f0), .int .i64 0, .int .i64 0, .int .i64 0, .int .i64 0]) ?_ 3 _ rfl; (with_reducible repeat (first | refine blk_drewN ?_ _ | refine blk_drew ?_ | refine blk_alloc ?_ _)); refine blk_put (cs := #[.int .i64 ((rd_T97 t190 x22_1).f0), .int .i64 ((rd_T97 t190 x22_1).f1), .int .i64 0, .int .i64 0, .int .i64 0, .int .i64 0, .int .i64 0]) ?_ 2 _ rfl; (with_reducible repeat (first | refine blk_drewN ?_ _ | refine blk_drew ?_ | refine blk_alloc ?_ _)); refine blk_put (cs := #[.int .i64 ((rd_T97 t190 x22_1).f0), .int .i64 0, .int .i64 0, .int .i64 0, .int .i64 0, .int .i64 0, .int .i64 0]) ?_ 1 _ rfl; (with_reducible repeat (first | refine blk_drewN ?_ _ | refine blk_drew ?_ | refine blk_alloc ?_ _)); refine blk_put (cs := #[.int .i64 0, .int .i64 0, .int .i64 0, .int .i64 0, .int .i64 0, .int .i64 0, .int .i64 0]) ?_ 0 _ rfl; (with_reducible repeat (first | refine blk_drewN ?_ _ | refine blk_drew ?_ | refine blk_alloc ?_ _)); exact BK194.out))⟩; have n3_ : Aside0 (Below w.heap.size w w22) := ⟨(by rw [hw]; exact (by repeat (first | (with_reducible first | exact HB.out | apply below_alloc | apply pw_below_drewN | apply below_drew1 | refine below_set ?_ GE194.out) | exact HB.out)))⟩; clear hw; clear HO_8; clear HO_20; clear BK194; clear HB; have HO_8 := n0_; have HO_20 := n1_; have BK194 := n2_; have HB := n3_; clear n0_ n1_ n2_ n3_; have hcz23_0 : w22.cell? ⟨gb194, 0, none⟩ = some (.int .i64 ((rd_T97 t190 x22_1).f0)) := (blk_cell BK194.out 0).trans rfl; have hcz23_1 : w22.cell? ⟨gb194, 1, none⟩ = some (.int .i64 ((rd_T97 t190 x22_1).f1)) := (blk_cell BK194.out 1).trans rfl; have hcz23_2 : w22.cell? ⟨gb194, 2, none⟩ = some (.int .i64 ((rd_T97 t190 x22_1).f2.f0)) := (blk_cell BK194.out 2).trans rfl; have hcz23_3 : w22.cell? ⟨gb194, 3, none⟩ = some (.int .i64 ((rd_T97 t190 x22_1).f2.f1)) := (blk_cell BK194.out 3).trans rfl; have hcz23_4 : w22.cell? ⟨gb194, 4, none⟩ = some (.int .i64 ((rd_T97 t190 x22_1).f2.f2)) := (blk_cell BK194.out 4).trans rfl; have hcz23_5 : w22.cell? ⟨gb194, 5, none⟩ = some (.int .i64 ((rd_T97 t190 x22_1).f2.f3)) := (blk_cell BK194.out 5).trans rfl; have hcz23_6 : w22.cell? ⟨gb194, 6, none⟩ = some (.int .i64 ((rd_T97 t190 x22_1).f2.f4)) := (blk_cell BK194.out 6).trans rfl; have hfz23_0 := blk_frozen BK194.out 0; have hfz23_1 := blk_frozen BK194.out 1; have hfz23_2 := blk_frozen BK194.out 2; have hfz23_3 := blk_frozen BK194.out 3; have hfz23_4 := blk_frozen BK194.out 4; have hfz23_5 := blk_frozen BK194.out 5; have hfz23_6 := blk_frozen BK194.out 6; have p19 : 0 ≤ (((rd_T97 t190 x22_1).f1) : Int) := of_decide_eq_true (by first | (with_reducible assumption) | assumption); have q19 : (((rd_T97 t190 x22_1).f1) : Int) < ((x8_1.length : Int) : Int) := of_decide_eq_true (by first | (with_reducible assumption) | assumption); obtain ⟨go19, co19, eo19, gb19, gl19, cl19, HG19⟩ := Kd.R_form HO_8.out (by omega); (first | cases eo19 | (injection eo19 with ea_ en_ ec_; (first | subst ea_ | (injection ea_ with ea_; subst ea_)); subst ec_; clear en_)); have GB19 := Aside0.mk gb19; have GG19 := Aside0.mk HG19; clear gb19 gl19 HG19; obtain ⟨ce19, hcl19, hM19, hcc19, hfr19⟩ := Kd.R_elem HO_8.out z71 (((rd_T97 t190 x22_1).f1) : Int) p19 q19; obtain rfl := k71_openM hM19; have hx19_0 : w22.cell? ⟨go19, (((rd_T97 t190 x22_1).f1) : Int).toNat * 5, none⟩ = some (.int .i64 ((rd_T71 x8_1 ((rd_T97 t190 x22_1).f1)).f0)) := hcc19 0 _ rfl; have hx19_1 : w22.cell? ⟨go19, (((rd_T97 t190 x22_1).f1) : Int).toNat * 5 + 1, none⟩ = some (.int .i64 ((rd_T71 x8_1 ((rd_T97 t190 x22_1).f1)).f1)) := hcc19 1 _ rfl; have hx19_2 : w22.cell? ⟨go19, (((rd_T97 t190 x22_1).f1) : Int).toNat * 5 + 2, none⟩ = some (.int .i64 ((rd_T71 x8_1 ((rd_T97 t190 x22_1).f1)).f2)) := hcc19 2 _ rfl; have hx19_3 : w22.cell? ⟨go19, (((rd_T97 t190 x22_1).f1) : Int).toNat * 5 + 3, none⟩ = some (.int .i64 ((rd_T71 x8_1 ((rd_T97 t190 x22_1).f1)).f3)) := hcc19 3 _ rfl; have hx19_4 : w22.cell? ⟨go19, (((rd_T97 t190 x22_1).f1) : Int).toNat * 5 + 4, none⟩ = some (.int .i64 ((rd_T71 x8_1 ((rd_T97 t190 x22_1).f1)).f4)) := hcc19 4 _ rfl; have hf19_0 : w22.frozen? ⟨go19, (((rd_T97 t190 x22_1).f1) : Int).toNat * 5, none⟩ = false := hfr19 0; have hf19_1 : w22.frozen? ⟨go19, (((rd_T97 t190 x22_1).f1) : Int).toNat * 5 + 1, none⟩ = false := hfr19 1; have hf19_2 : w22.frozen? ⟨go19, (((rd_T97 t190 x22_1).f1) : Int).toNat * 5 + 2, none⟩ = false := hfr19 2; have hf19_3 : w22.frozen? ⟨go19, (((rd_T97 t190 x22_1).f1) : Int).toNat * 5 + 3, none⟩ = false := hfr19 3; have hf19_4 : w22.frozen? ⟨go19, (((rd_T97 t190 x22_1).f1) : Int).toNat * 5 + 4, none⟩ = false := hfr19 4; clear hcl19 hcc19 hfr19 hM19; replace p19 := eq_true p19; replace q19 := eq_true q19; have HX24 := Aside0.mk (show Kd.R k71 71 w22 w.heap.size (fun _ => True) (.slice (some ⟨go19, 0, none⟩) x8_1.length co19) x8_1 from (by (with_reducible repeat (first | apply Kd.R_alloc | apply Kd.R_drewN | apply Kd.R_drew)); exact HO_8.out)); obtain ⟨ce24, hcl24, hM24, hcc24, hfr24⟩ := Kd.R_elem HX24.out z71 (((rd_T97 t190 x22_1).f1) : Int) (of_decide_eq_true (by first | (with_reducible assumption) | assumption)) (by have h_ : (((rd_T97 t190 x22_1).f1) : Int) < ((x8_1.length : Int) : Int) := of_decide_eq_true (by first | (with_reducible assumption) | assumption); first | exact h_ | (have e_ := (Kd.R_reads' HO_8.out).1; omega) | simpa using h_); obtain rfl := k71_openM hM24; have HP24 := Kd.R_seg HX24.out (((rd_T97 t190 x22_1).f1) : Int) (of_decide_eq_true (by first | (with_reducible assumption) | assumption)) (by have h_ : (((rd_T97 t190 x22_1).f1) : Int) < ((x8_1.length : Int) : Int) := of_decide_eq_true (by first | (with_reducible assumption) | assumption); first | exact h_ | (have e_ := (Kd.R_reads' HO_8.out).1; omega) | simpa using h_) (seg := [.int .i64 ((rd_T97 t190 x22_1).f2.f0), .int .i64 ((rd_T97 t190 x22_1).f2.f1), .int .i64 ((rd_T97 t190 x22_1).f2.f2), .int .i64 ((rd_T97 t190 x22_1).f2.f3), .int .i64 ((rd_T97 t190 x22_1).f2.f4)]) (j := 0) hcl24 hcc24 (show 5 ≤ 5 from by decide) (x' := (⟨(rd_T97 t190 x22_1).f2.f0, (rd_T97 t190 x22_1).f2.f1, (rd_T97 t190 x22_1).f2.f2, (rd_T97 t190 x22_1).f2.f3, (rd_T97 t190 x22_1).f2.f4⟩ : S71)) (k71_mkM _ _ _ (⟨(rd_T97 t190 x22_1).f2.f0, (rd_T97 t190 x22_1).f2.f1, (rd_T97 t190 x22_1).f2.f2, (rd_T97 t190 x22_1).f2.f3, (rd_T97 t190 x22_1).f2.f4⟩ : S71) ) (fun _ hk => hk); have hx24_0 := hcc24 0 _ rfl; (try simp only [show (k71).sz = 5 from rfl, Nat.mul_one, Nat.add_zero] at hx24_0); have hf24_0 := hfr24 0; (try simp only [show (k71).sz = 5 from rfl, Nat.mul_one, Nat.add_zero] at hf24_0); have hx24_1 := hcc24 1 _ rfl; (try simp only [show (k71).sz = 5 from rfl, Nat.mul_one, Nat.add_zero] at hx24_1); have hf24_1 := hfr24 1; (try simp only [show (k71).sz = 5 from rfl, Nat.mul_one, Nat.add_zero] at hf24_1); have hx24_2 := hcc24 2 _ rfl; (try simp only [show (k71).sz = 5 from rfl, Nat.mul_one, Nat.add_zero] at hx24_2); have hf24_2 := hfr24 2; (try simp only [show (k71).sz = 5 from rfl, Nat.mul_one, Nat.add_zero] at hf24_2); have hx24_3 := hcc24 3 _ rfl; (try simp only [show (k71).sz = 5 from rfl, Nat.mul_one, Nat.add_zero] at hx24_3); have hf24_3 := hfr24 3; (try simp only [show (k71).sz = 5 from rfl, Nat.mul_one, Nat.add_zero] at hf24_3); have hx24_4 := hcc24 4 _ rfl; (try simp only [show (k71).sz = 5 from rfl, Nat.mul_one, Nat.add_zero] at hx24_4); have hf24_4 := hfr24 4; (try simp only [show (k71).sz = 5 from rfl, Nat.mul_one, Nat.add_zero] at hf24_4); clear hcl24 hcc24 hfr24 hM24) | ((with_reducible refine gate_store (t := 71) (p := 31) rfl ?_); refine store_event (t := 71) (p := 31) (v := ?vo_w25) (w1 := (((((w22.setCell ⟨go19, (((rd_T97 t190 x22_1).f1) : Int).toNat * 5, none⟩ (.int .i64 ((rd_T97 t190 x22_1).f2.f0))).setCell ⟨go19, (((rd_T97 t190 x22_1).f1) : Int).toNat * 5 + 1, none⟩ (.int .i64 ((rd_T97 t190 x22_1).f2.f1))).setCell ⟨go19, (((rd_T97 t190 x22_1).f1) : Int).toNat * 5 + 2, none⟩ (.int .i64 ((rd_T97 t190 x22_1).f2.f2))).setCell ⟨go19, (((rd_T97 t190 x22_1).f1) : Int).toNat * 5 + 3, none⟩ (.int .i64 ((rd_T97 t190 x22_1).f2.f3))).setCell ⟨go19, (((rd_T97 t190 x22_1).f1) : Int).toNat * 5 + 4, none⟩ (.int .i64 ((rd_T97 t190 x22_1).f2.f4)))) ?hg ?ho ?hn ?hr ?_; (case ho => rfl); (case hg => rfl); (case hn => rfl); (case hr => first | (go_simp; done) | (go_simp; rfl)); intro w25 hw; have hg : w22.grownBy w25 (some go19) := (by rw [hw]; exact HP24.2); have hp_ : Kd.R k71 71 w25 w.heap.size (fun _ => True) (.slice (some ⟨go19, 0, none⟩) x8_1.length co19) y195 := (by rw [hw, Ny195.out]; exact HP24.1); clear HP24; have n0_ := Aside0.mk (hp_); have n1_ := Aside0.mk (Kd.R_over' (v := (.slice (some ⟨go19, 0, none⟩) x8_1.length co19)) (by (with_reducible repeat (first | apply Kd.R_alloc | apply Kd.R_drewN | apply Kd.R_drew)); exact HO_20.out) (Kd.R_typed HO_8.out) (by decide) hg); have n2_ := Aside0.mk (blk_grown (g := gb194) (o := .cells #[.int .i64 ((rd_T97 t190 x22_1).f0), .int .i64 ((rd_T97 t190 x22_1).f1), .int .i64 ((rd_T97 t190 x22_1).f2.f0), .int .i64 ((rd_T97 t190 x22_1).f2.f1), .int .i64 ((rd_T97 t190 x22_1).f2.f2), .int .i64 ((rd_T97 t190 x22_1).f2.f3), .int .i64 ((rd_T97 t190 x22_1).f2.f4)] 97 (0, 0)) (by (with_reducible repeat (first | refine blk_drewN ?_ _ | refine blk_drew ?_ | refine blk_alloc ?_ _)); exact BK194.out) hg (Kd.R_ne HO_8.out BK194.out (by decide))); have n3_ := Aside0.mk ((by rw [hw]; exact below_set (below_set (below_set (below_set (below_set (HB.out) GB19.out) GB19.out) GB19.out) GB19.out) GB19.out : Below w.heap.size w w25)); clear HO_8; clear HO_20; clear BK194; clear HB; have HO_8 := n0_; have HO_20 := n1_; have BK194 := n2_; have HB := n3_; clear n0_ n1_ n2_ n3_; clear hg hw hp_))
                    go_roundg k1
                    case measure => have := HK1.out; omega
                    case rel => exact ⟨(y195), (wrap64 (x22_1 + 1)), (by first | rfl | (simp; done) | (simp [*]; done)), H', ⟨by have := HK1.out; omega⟩, ⟨by (with_reducible repeat (first | apply Kd.R_alloc | apply Kd.R_drewN | apply Kd.R_drew)); exact HO_8.out⟩, ⟨by (with_reducible repeat (first | apply Kd.R_alloc | apply Kd.R_drewN | apply Kd.R_drew)); exact Kd.R_mono HO_20.out (fun _ hk => trivial)⟩, ⟨by repeat (first | (with_reducible first | exact HB.out | apply below_alloc | apply pw_below_drewN | apply below_drew1 | refine below_set ?_ GE194.out) | exact HB.out)⟩⟩
                  · rw [if_neg c18] at H
                    exact absurd H (by simp)
                · rw [if_neg c17] at H
                  exact absurd H (by simp)
              · rw [if_neg c16] at H
                exact absurd H (by simp)
            · rw [if_neg c15] at H
              exact absurd H (by simp)
          · rw [if_neg c14] at H
            have c14b0 : decide (x22_1 < (t190.length : Int)) = false := decide_eq_false c14
            clear c14
            simp only [Option.some.injEq, Prod.mk.injEq] at H
            obtain ⟨rfl, rfl⟩ := H
            go_wp2
            go_ret2
            exact ⟨_, by first | rfl | (simp [errW_none, errW_some] <;> rfl) | (simp [*, errW_none, errW_some] <;> rfl), by (with_reducible repeat (first | apply Kd.R_alloc | apply Kd.R_drewN | apply Kd.R_drew)); exact HO_8.out, by repeat (first | (with_reducible first | exact HB.out | apply below_alloc | apply pw_below_drewN | apply below_drew1) | exact HB.out)⟩
    · rw [if_neg c6] at H
      exact absurd H (by simp)
  · replace c5 := Bool.eq_false_iff.mpr c5
    subst c5
    have H1 : (some (([] : List (S71)), false)) = some (r1, r2) := by rw [if_neg (show ¬ (false = true) by decide)] at H; exact H
    clear H
    have H := H1
    clear H1
    simp only [Option.some.injEq, Prod.mk.injEq] at H
    obtain ⟨rfl, rfl⟩ := H
    go_enter Try.func26, Try.ntmps26
    go_wp2_with (first | ((with_reducible refine gate_callee (f := 76) rfl ?_); refine goesL_ (some 14) rfl rfl Try.func76 (by kernel_rfl) rfl #[.int .i64 a0, .slice A1 l1.length c1, .slice A2 l2.length c2] rfl (by (try simp only [List.map_toArray, List.map_cons, List.map_nil]); first | done | rfl | (simp only [List.length_drop, List.length_take]; rfl)) ?_; (with_reducible refine (spec_NotesOk.calls k a0 _ _ l1 _ _ l2 false _ ?side1 ?side2 ?side3 ?side4 A4.out).mono ?_); (case side1 => repeat (first | exact HR1.out | (with_reducible refine Kd.C_alloc ?_ _) | (with_reducible refine Kd.C_drewN ?_ _) | (with_reducible refine Kd.C_drew ?_))); (case side2 => exact HC1.out); (case side3 => repeat (first | exact HR2.out | (with_reducible refine Kd.C_alloc ?_ _) | (with_reducible refine Kd.C_drewN ?_ _) | (with_reducible refine Kd.C_drew ?_))); (case side4 => exact HC2.out); rintro e w26 ⟨rfl, hb⟩; refine ⟨_, rfl, ?_⟩; have n0_ := Aside0.mk (below_step (by repeat (first | (with_reducible first | exact HB.out | apply below_alloc | apply pw_below_drewN | apply below_drew1) | exact HB.out)) hb); clear HB; have HB := n0_; clear n0_; (try clear hb); (try clear hb2); (try clear hk); (try clear hi)))
    go_ret2
    exact ⟨_, by first | rfl | (simp [errW_none, errW_some] <;> rfl) | (simp [*, errW_none, errW_some] <;> rfl), by first | exact Kd.R_nil _ _ _ _ _ | exact Kd.N_nil _ _ _ _ _ | exact Kd.V_nil _ _ _ _ _ | exact Kd.Q_nil _ _ _ _ _ | exact Kd.S_nil _ _ _ _ _, by repeat (first | (with_reducible first | exact HB.out | apply below_alloc | apply pw_below_drewN | apply below_drew1) | exact HB.out)⟩

/-! ### laws_toGameS: function 27 -/
def laws_toGameS.l0 : Nat → List (S99) → List (S71) → Int → Option ((List (S71)))
  | 0, _, _, _ => none
  | k + 1, x0, x3, x4 => if x4 < (x0.length : Int) then (if 0 ≤ x4 then ((laws_toGame.f ((rd_T99 x0 x4).f0) ((rd_T99 x0 x4).f1) ((rd_T99 x0 x4).f2) ((rd_T99 x0 x4).f3) ((rd_T99 x0 x4).f4)).bind fun bt200 => (if x4 < (x3.length : Int) then (laws_toGameS.l0 k x0 (x3.set (x4 : Int).toNat (⟨bt200.1, bt200.2.1, bt200.2.2.1, bt200.2.2.2.1, bt200.2.2.2.2⟩ : S71)) (wrap64 (x4 + 1))) else (none))) else (none)) else (some x3)
def laws_toGameS.f (k : Nat) (l0 : List (S99)) : Option ((List (S71))) := if 0 ≤ (l0.length : Int) then (if ((l0.length : Int) : Int).toNat ≤ 7036874417766 then (laws_toGameS.l0 k l0 (List.replicate ((l0.length : Int) : Int).toNat z71) 0) else (none)) else (none)
theorem laws_toGameS.mono_l : ∀ k, (∀ y0 y1 y2, LeO (laws_toGameS.l0 k y0 y1 y2) (laws_toGameS.l0 (k + 1) y0 y1 y2))
  | 0 => fun _ _ _ r h => by simp [laws_toGameS.l0] at h
  | k + 1 => by
    have ih0 := laws_toGameS.mono_l k
    · intro y0 y1 y2
      unfold laws_toGameS.l0
      repeat' first
      | (with_reducible exact ih0 _ _ _)
      | (with_reducible exact LeO.refl _)
      | (with_reducible exact LeO.none _)
      | (with_reducible refine LeO.ite ?_ ?_)
      | (with_reducible refine LeO.bind ?_ (fun _ => ?_))
      | exact ih0 _ _ _
      | exact LeO.none _
      | refine LeO.ite ?_ ?_
      | refine LeO.bind ?_ (fun _ => ?_)
theorem laws_toGameS.mono : ∀ a0 k, LeO (laws_toGameS.f k a0) (laws_toGameS.f (k + 1) a0) := by
  intro a0 k
  have ih0 := laws_toGameS.mono_l k
  unfold laws_toGameS.f
  repeat' first
      | (with_reducible exact ih0 _ _ _)
      | (with_reducible exact LeO.refl _)
      | (with_reducible exact LeO.none _)
      | (with_reducible refine LeO.ite ?_ ?_)
      | (with_reducible refine LeO.bind ?_ (fun _ => ?_))
      | exact ih0 _ _ _
      | exact LeO.none _
      | refine LeO.ite ?_ ?_
      | refine LeO.bind ?_ (fun _ => ?_)
set_option maxHeartbeats 8000000 in
set_option maxRecDepth 100000 in
theorem laws_toGameS.calls (k : Nat) (A0 : Option Addr) (c0 : Nat) (l0 : List (S99)) (r : List (S71)) (w : World) (hr0 : Kd.C k99 w A0 l0.length l0) (hc0 : l0.length ≤ c0) (h : laws_toGameS.f k l0 = some r) :
    Calls Try.prog 27 #[.slice A0 l0.length c0] w fun e w' => ∃ v0_ : Value, e = .returned (v0_) ∧ Kd.R k71 71 w' w.heap.size (fun _ => True) v0_ r ∧ Below w.heap.size w w' := by
  have hu99 := Try.underlying99
  have hu71 := Try.underlying71
  have HR0 := Aside0.mk hr0
  have HC0 := Aside0.mk hc0
  clear hr0 hc0
  have HB := Aside0.mk (Below.refl w.heap.size w)
  have H : (if 0 ≤ (l0.length : Int) then (if ((l0.length : Int) : Int).toNat ≤ 7036874417766 then (laws_toGameS.l0 k l0 (List.replicate ((l0.length : Int) : Int).toNat z71) 0) else (none)) else (none)) = some r := h
  clear h
  by_cases c2 : 0 ≤ (l0.length : Int)
  · rw [if_pos c2] at H
    have c2b0 := eq_true c2
    have c2b1 : decide (0 ≤ (l0.length : Int)) = true := decide_eq_true c2
    clear c2
    by_cases c3 : ((l0.length : Int) : Int).toNat ≤ 7036874417766
    · rw [if_pos c3] at H
      have c3b0 := eq_true c3
      have c3b1 : decide (((l0.length : Int) : Int).toNat ≤ 7036874417766) = true := decide_eq_true c3
      clear c3
      obtain ⟨y196, hy196⟩ : ∃ y_ : List (S71), y_ = (List.replicate ((l0.length : Int) : Int).toNat z71) := ⟨_, rfl⟩
      replace H : (laws_toGameS.l0 k l0 y196 0) = some r := by first | (rw [hy196]; with_reducible exact H) | (have H2_ := (Option.bind_some _ _).symm.trans H; rw [hy196]; with_reducible exact H2_) | (have H2_ := (Option.bind_some _ _).symm.trans H; with_reducible exact H2_) | with_reducible exact H | (rw [hy196]; exact H) | exact H
      have Ny196 := Aside0.mk hy196
      clear hy196
      have H' := Aside0.mk H
      clear H
      go_enter Try.func27, Try.ntmps27
      go_wp2_with (first | ((with_reducible refine gate_dst (N := 7) rfl ?_); refine Kd.R_make k71 _ 71 rfl (N := 7) rfl 44 _ _ rfl (l0.length : Int) rfl rfl Try.underlying44 (.agg #[(.int .i64 0), (.int .i64 0), (.int .i64 0), (.int .i64 0), (.int .i64 0)]) 40 info71 rfl (by decide) (by omega) z71 (ok := fun _ => True) (okp := fun _ => True) (k71_mkM _ _ _ z71 ) (fun _ hk => hk) trivial (of_decide_eq_true (by first | (with_reducible assumption) | assumption)) (Nat.le_trans (Nat.mul_le_mul_right _ (of_decide_eq_true (by first | (with_reducible assumption) | assumption) : (l0.length : Int).toNat ≤ 7036874417766)) (by omega)) (Below.refl _ _) (Nat.le_refl _) ?_; intro v197 w4 ho5 hb hg_ hnew_; clear hg_ hnew_; (first | rw [← Ny196.out] at ho5 | (simp only [Int.reduceToNat] at ho5; rw [← Ny196.out] at ho5)); have n0_ := Aside0.mk (Kd.R_lower ho5 (below_size (by repeat (first | (with_reducible first | exact HB.out | apply below_alloc | apply pw_below_drewN | apply below_drew1) | exact HB.out)))); have n1_ := Aside0.mk (below_step (by repeat (first | (with_reducible first | exact HB.out | apply below_alloc | apply pw_below_drewN | apply below_drew1) | exact HB.out)) hb); clear HB; have HO198 := n0_; have HB := n1_; clear n0_ n1_; clear hb ho5))
      go_loopg [4] k (fun kq v4 w' => ∃ (x3_1 : List (S71)) (x4_1 : Int), v4 = .int .i64 x4_1 ∧ Aside0 (laws_toGameS.l0 kq l0 x3_1 x4_1 = some r) ∧ Aside0 (kq ≤ k) ∧ Aside0 (Kd.R k71 71 w' w.heap.size (fun _ => True) v197 x3_1) ∧ Aside0 (Below w.heap.size w w'))
      case atStart => exact ⟨(y196), (0), (by first | rfl | (simp; done) | (simp [*]; done)), H', ⟨Nat.le_refl _⟩, ⟨by (with_reducible repeat (first | apply Kd.R_alloc | apply Kd.R_drewN | apply Kd.R_drew)); exact HO198.out⟩, ⟨by repeat (first | (with_reducible first | exact HB.out | apply below_alloc | apply pw_below_drewN | apply below_drew1) | exact HB.out)⟩⟩
      case round =>
        clear H'
        try clear c2
        try clear c2b0
        try clear c2b1
        try clear p2
        try clear c3
        try clear c3b0
        try clear c3b1
        obtain ⟨x3_1, x4_1, rfl, HA, HK1, HO_3, HB⟩ := hrel
        cases gk with
        | zero => exact absurd HA.out (by simp [laws_toGameS.l0])
        | succ k1 =>
          have H := HA.out
          clear HA
          simp only [laws_toGameS.l0] at H
          by_cases c6 : x4_1 < (l0.length : Int)
          · rw [if_pos c6] at H
            have c6b0 : decide (x4_1 < (l0.length : Int)) = true := decide_eq_true c6
            clear c6
            by_cases c7 : 0 ≤ x4_1
            · rw [if_pos c7] at H
              have c7b0 : decide (0 ≤ x4_1) = true := decide_eq_true c7
              clear c7
              replace H := Option.bind_eq_some_iff.mp H
              obtain ⟨⟨t200, t201, t202, t203, t204⟩, A80, H⟩ := H
              replace H : (if x4_1 < (x3_1.length : Int) then (laws_toGameS.l0 k1 l0 (x3_1.set (x4_1 : Int).toNat (⟨t200, t201, t202, t203, t204⟩ : S71)) (wrap64 (x4_1 + 1))) else (none)) = some r := H
              have A8 := Aside0.mk A80
              clear A80
              by_cases c9 : x4_1 < (x3_1.length : Int)
              · rw [if_pos c9] at H
                have c9b0 : decide (x4_1 < (x3_1.length : Int)) = true := decide_eq_true c9
                clear c9
                obtain ⟨y205, hy205⟩ : ∃ y_ : List (S71), y_ = (x3_1.set (x4_1 : Int).toNat (⟨t200, t201, t202, t203, t204⟩ : S71)) := ⟨_, rfl⟩
                replace H : (laws_toGameS.l0 k1 l0 y205 (wrap64 (x4_1 + 1))) = some r := by first | (rw [hy205]; with_reducible exact H) | (have H2_ := (Option.bind_some _ _).symm.trans H; rw [hy205]; with_reducible exact H2_) | (have H2_ := (Option.bind_some _ _).symm.trans H; with_reducible exact H2_) | with_reducible exact H | (rw [hy205]; exact H) | exact H
                have Ny205 := Aside0.mk hy205
                clear hy205
                have H' := Aside0.mk H
                clear H
                have p199 : 0 ≤ (x4_1 : Int) := of_decide_eq_true (by first | (with_reducible assumption) | assumption)
                have q199 : x4_1 < (l0.length : Int) := of_decide_eq_true (by first | (with_reducible assumption) | assumption)
                obtain ⟨ad199, e199, hx199_0, hx199_1, hx199_2, hx199_3, hx199_4⟩ := at_T99 HR0.out x4_1 p199 q199
                cases e199
                replace hx199_0 := (HB.out.cell (World.block_lt_of_cell? w _ hx199_0)).trans hx199_0
                replace hx199_1 := (HB.out.cell (World.block_lt_of_cell? w _ hx199_1)).trans hx199_1
                replace hx199_2 := (HB.out.cell (World.block_lt_of_cell? w _ hx199_2)).trans hx199_2
                replace hx199_3 := (HB.out.cell (World.block_lt_of_cell? w _ hx199_3)).trans hx199_3
                replace hx199_4 := (HB.out.cell (World.block_lt_of_cell? w _ hx199_4)).trans hx199_4
                replace p199 := eq_true p199
                replace q199 := eq_true q199
                go_wp2_with (first | ((with_reducible refine gate_callee (f := 77) rfl ?_); refine goesL_ (some 20) rfl rfl Try.func77 (by kernel_rfl) rfl #[.agg #[.int .i64 ((rd_T99 l0 x4_1).f0), .int .i64 ((rd_T99 l0 x4_1).f1), .int .i64 ((rd_T99 l0 x4_1).f2), .int .i64 ((rd_T99 l0 x4_1).f3), .int .i64 ((rd_T99 l0 x4_1).f4)]] rfl (by (try simp only [List.map_toArray, List.map_cons, List.map_nil]); first | done | rfl | (simp only [List.length_drop, List.length_take]; rfl)) ?_; (with_reducible refine (laws_toGame.calls ((rd_T99 l0 x4_1).f0) ((rd_T99 l0 x4_1).f1) ((rd_T99 l0 x4_1).f2) ((rd_T99 l0 x4_1).f3) ((rd_T99 l0 x4_1).f4) t200 t201 t202 t203 t204 _ A8.out).mono ?_); rintro e w11 ⟨rfl, hb⟩; refine ⟨_, rfl, ?_⟩; have n0_ := Aside0.mk (Kd.R_below (by (with_reducible repeat (first | apply Kd.R_alloc | apply Kd.R_drewN | apply Kd.R_drew)); exact HO_3.out) hb); have n1_ := Aside0.mk (below_step (by repeat (first | (with_reducible first | exact HB.out | apply below_alloc | apply pw_below_drewN | apply below_drew1) | exact HB.out)) hb); clear HO_3; clear HB; have HO_3 := n0_; have HB := n1_; clear n0_ n1_; (try clear hb); (try clear hb2); (try clear hk); (try clear hi); have p10 : 0 ≤ (x4_1 : Int) := of_decide_eq_true (by first | (with_reducible assumption) | assumption); have q10 : (x4_1 : Int) < ((x3_1.length : Int) : Int) := of_decide_eq_true (by first | (with_reducible assumption) | assumption); obtain ⟨go10, co10, eo10, gb10, gl10, cl10, HG10⟩ := Kd.R_form HO_3.out (by omega); (first | cases eo10 | (injection eo10 with ea_ en_ ec_; (first | subst ea_ | (injection ea_ with ea_; subst ea_)); subst ec_; clear en_)); have GB10 := Aside0.mk gb10; have GG10 := Aside0.mk HG10; clear gb10 gl10 HG10; obtain ⟨ce10, hcl10, hM10, hcc10, hfr10⟩ := Kd.R_elem HO_3.out z71 (x4_1 : Int) p10 q10; obtain rfl := k71_openM hM10; have hx10_0 : w11.cell? ⟨go10, (x4_1 : Int).toNat * 5, none⟩ = some (.int .i64 ((rd_T71 x3_1 x4_1).f0)) := hcc10 0 _ rfl; have hx10_1 : w11.cell? ⟨go10, (x4_1 : Int).toNat * 5 + 1, none⟩ = some (.int .i64 ((rd_T71 x3_1 x4_1).f1)) := hcc10 1 _ rfl; have hx10_2 : w11.cell? ⟨go10, (x4_1 : Int).toNat * 5 + 2, none⟩ = some (.int .i64 ((rd_T71 x3_1 x4_1).f2)) := hcc10 2 _ rfl; have hx10_3 : w11.cell? ⟨go10, (x4_1 : Int).toNat * 5 + 3, none⟩ = some (.int .i64 ((rd_T71 x3_1 x4_1).f3)) := hcc10 3 _ rfl; have hx10_4 : w11.cell? ⟨go10, (x4_1 : Int).toNat * 5 + 4, none⟩ = some (.int .i64 ((rd_T71 x3_1 x4_1).f4)) := hcc10 4 _ rfl; have hf10_0 : w11.frozen? ⟨go10, (x4_1 : Int).toNat * 5, none⟩ = false := hfr10 0; have hf10_1 : w11.frozen? ⟨go10, (x4_1 : Int).toNat * 5 + 1, none⟩ = false := hfr10 1; have hf10_2 : w11.frozen? ⟨go10, (x4_1 : Int).toNat * 5 + 2, none⟩ = false := hfr10 2; have hf10_3 : w11.frozen? ⟨go10, (x4_1 : Int).toNat * 5 + 3, none⟩ = false := hfr10 3; have hf10_4 : w11.frozen? ⟨go10, (x4_1 : Int).toNat * 5 + 4, none⟩ = false := hfr10 4; clear hcl10 hcc10 hfr10 hM10; replace p10 := eq_true p10; replace q10 := eq_true q10; have HX12 := Aside0.mk (show Kd.R k71 71 w11 w.heap.size (fun _ => True) (.slice (some ⟨go10, 0, none⟩) x3_1.length co10) x3_1 from (by (with_reducible repeat (first | apply Kd.R_alloc | apply Kd.R_drewN | apply Kd.R_drew)); exact HO_3.out)); obtain ⟨ce12, hcl12, hM12, hcc12, hfr12⟩ := Kd.R_elem HX12.out z71 (x4_1 : Int) (of_decide_eq_true (by first | (with_reducible assumption) | assumption)) (by have h_ : (x4_1 : Int) < ((x3_1.length : Int) : Int) := of_decide_eq_true (by first | (with_reducible assumption) | assumption); first | exact h_ | (have e_ := (Kd.R_reads' HO_3.out).1; omega) | simpa using h_); obtain rfl := k71_openM hM12; have HP12 := Kd.R_seg HX12.out (x4_1 : Int) (of_decide_eq_true (by first | (with_reducible assumption) | assumption)) (by have h_ : (x4_1 : Int) < ((x3_1.length : Int) : Int) := of_decide_eq_true (by first | (with_reducible assumption) | assumption); first | exact h_ | (have e_ := (Kd.R_reads' HO_3.out).1; omega) | simpa using h_) (seg := [.int .i64 t200, .int .i64 t201, .int .i64 t202, .int .i64 t203, .int .i64 t204]) (j := 0) hcl12 hcc12 (show 5 ≤ 5 from by decide) (x' := (⟨t200, t201, t202, t203, t204⟩ : S71)) (k71_mkM _ _ _ (⟨t200, t201, t202, t203, t204⟩ : S71) ) (fun _ hk => hk); have hx12_0 := hcc12 0 _ rfl; (try simp only [show (k71).sz = 5 from rfl, Nat.mul_one, Nat.add_zero] at hx12_0); have hf12_0 := hfr12 0; (try simp only [show (k71).sz = 5 from rfl, Nat.mul_one, Nat.add_zero] at hf12_0); have hx12_1 := hcc12 1 _ rfl; (try simp only [show (k71).sz = 5 from rfl, Nat.mul_one, Nat.add_zero] at hx12_1); have hf12_1 := hfr12 1; (try simp only [show (k71).sz = 5 from rfl, Nat.mul_one, Nat.add_zero] at hf12_1); have hx12_2 := hcc12 2 _ rfl; (try simp only [show (k71).sz = 5 from rfl, Nat.mul_one, Nat.add_zero] at hx12_2); have hf12_2 := hfr12 2; (try simp only [show (k71).sz = 5 from rfl, Nat.mul_one, Nat.add_zero] at hf12_2); have hx12_3 := hcc12 3 _ rfl; (try simp only [show (k71).sz = 5 from rfl, Nat.mul_one, Nat.add_zero] at hx12_3); have hf12_3 := hfr12 3; (try simp only [show (k71).sz = 5 from rfl, Nat.mul_one, Nat.add_zero] at hf12_3); have hx12_4 := hcc12 4 _ rfl; (try simp only [show (k71).sz = 5 from rfl, Nat.mul_one, Nat.add_zero] at hx12_4); have hf12_4 := hfr12 4; (try simp only [show (k71).sz = 5 from rfl, Nat.mul_one, Nat.add_zero] at hf12_4); clear hcl12 hcc12 hfr12 hM12) | ((with_reducible refine gate_store (t := 71) (p := 21) rfl ?_); refine store_event (t := 71) (p := 21) (v := ?vo_w13) (w1 := (((((w11.setCell ⟨go10, (x4_1 : Int).toNat * 5, none⟩ (.int .i64 t200)).setCell ⟨go10, (x4_1 : Int).toNat * 5 + 1, none⟩ (.int .i64 t201)).setCell ⟨go10, (x4_1 : Int).toNat * 5 + 2, none⟩ (.int .i64 t202)).setCell ⟨go10, (x4_1 : Int).toNat * 5 + 3, none⟩ (.int .i64 t203)).setCell ⟨go10, (x4_1 : Int).toNat * 5 + 4, none⟩ (.int .i64 t204))) ?hg ?ho ?hn ?hr ?_; (case ho => rfl); (case hg => rfl); (case hn => rfl); (case hr => first | (go_simp; done) | (go_simp; rfl)); intro w13 hw; have hg : w11.grownBy w13 (some go10) := (by rw [hw]; exact HP12.2); have hp_ : Kd.R k71 71 w13 w.heap.size (fun _ => True) (.slice (some ⟨go10, 0, none⟩) x3_1.length co10) y205 := (by rw [hw, Ny205.out]; exact HP12.1); clear HP12; have n0_ := Aside0.mk (hp_); have n1_ := Aside0.mk ((by rw [hw]; exact below_set (below_set (below_set (below_set (below_set (HB.out) GB10.out) GB10.out) GB10.out) GB10.out) GB10.out : Below w.heap.size w w13)); clear HO_3; clear HB; have HO_3 := n0_; have HB := n1_; clear n0_ n1_; clear hg hw hp_))
                go_roundg k1
                case measure => have := HK1.out; omega
                case rel => exact ⟨(y205), (wrap64 (x4_1 + 1)), (by first | rfl | (simp; done) | (simp [*]; done)), H', ⟨by have := HK1.out; omega⟩, ⟨by (with_reducible repeat (first | apply Kd.R_alloc | apply Kd.R_drewN | apply Kd.R_drew)); exact HO_3.out⟩, ⟨by repeat (first | (with_reducible first | exact HB.out | apply below_alloc | apply pw_below_drewN | apply below_drew1) | exact HB.out)⟩⟩
              · rw [if_neg c9] at H
                exact absurd H (by simp)
            · rw [if_neg c7] at H
              exact absurd H (by simp)
          · rw [if_neg c6] at H
            have c6b0 : decide (x4_1 < (l0.length : Int)) = false := decide_eq_false c6
            clear c6
            obtain rfl := Option.some.inj H
            go_wp2
            go_ret
            exact ⟨_, by first | rfl | (simp [errW_none, errW_some] <;> rfl) | (simp [*, errW_none, errW_some] <;> rfl), by (with_reducible repeat (first | apply Kd.R_alloc | apply Kd.R_drewN | apply Kd.R_drew)); exact HO_3.out, by repeat (first | (with_reducible first | exact HB.out | apply below_alloc | apply pw_below_drewN | apply below_drew1) | exact HB.out)⟩
    · rw [if_neg c3] at H
      exact absurd H (by simp)
  · rw [if_neg c2] at H
    exact absurd H (by simp)

-- NOT PRINTED: function 70 (impl_Note_70)

-- NOT PRINTED: function 127 (impl_Note_127)

-- NOT PRINTED: function 149 (impl_Note_149)

-- NOT PRINTED: function 143 (impl_Note_143)

-- NOT PRINTED: function 128 (impl_Note_128)

-- NOT PRINTED: function 106 (impl_Note_106)

-- NOT PRINTED: function 71 (impl_Note_71)

-- NOT PRINTED: function 73 (impl_Note_73)

end Go.Proofs.Ytikfdjgigeggjaa.MFnExactApplyNotes
