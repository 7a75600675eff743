/- The functions that FnExactApplyNotes reaches, each with its contract: the print's form, by wip/tools/myprint.py; no condition of its own. -/
import Derived.Test.YtikfdjgigeggjaaMFnExactApplyNotesx0
namespace Go.Proofs.Ytikfdjgigeggjaa.MFnExactApplyNotes
open Go.RowKit Go.Proofs.YtikfdjgigeggjaaW.PrintWords Go.Proofs.YtikfdjgigeggjaaW.PrintLast Go.Proofs.YtikfdjgigeggjaaW.PrintMore
attribute [local go_sem] max2_int min2_int max_two min_two max_three min_three max_four min_four   -- for this text's walks alone
set_option linter.unusedVariables false
set_option linter.unusedSimpArgs false

/-! ### spec_CanonNotes: function 19 -/
mutual
def spec_CanonNotes.l0 : Nat → List (S97) → List (S97) → Int → Int → Option ((List (S97)))
  | 0, _, _, _, _ => none
  | k + 1, x3, x9, x10, x11 => if x11 < x10 then (if 0 ≤ x11 then (if x11 < (x9.length : Int) then (spec_CanonNotes.l1 k x3 0 x9 x10 x11 ((rd_T97 x9 x11).f0) ((rd_T97 x9 x11).f1) ((rd_T97 x9 x11).f2.f0) ((rd_T97 x9 x11).f2.f1) ((rd_T97 x9 x11).f2.f2) ((rd_T97 x9 x11).f2.f3) ((rd_T97 x9 x11).f2.f4)) else (none)) else (none)) else (some x3)
def spec_CanonNotes.j2 : Nat → List (S97) → Int → List (S97) → Int → Int → Int → Int → Int → Int → Int → Int → Int → Option ((List (S97)))
  | 0, _, _, _, _, _, _, _, _, _, _, _, _ => none
  | k + 1, x3, x6, x9, x10, x11, x144000, x144001, x144002, x144003, x144004, x144005, x144006 => if x6 < (x3.length : Int) then (if 0 ≤ x6 then (spec_CanonNotes.j3 k x3 x6 x9 x10 x11 (((rd_T97 x3 x6).f0) == x144000) x144000 x144001 x144002 x144003 x144004 x144005 x144006) else (none)) else (spec_CanonNotes.j3 k x3 x6 x9 x10 x11 false x144000 x144001 x144002 x144003 x144004 x144005 x144006)
def spec_CanonNotes.j3 : Nat → List (S97) → Int → List (S97) → Int → Int → Bool → Int → Int → Int → Int → Int → Int → Int → Option ((List (S97)))
  | 0, _, _, _, _, _, _, _, _, _, _, _, _, _ => none
  | k + 1, x3, x6, x9, x10, x11, x44, x144000, x144001, x144002, x144003, x144004, x144005, x144006 => if x44 = true then (spec_CanonNotes.l0 k x3 x9 x10 (wrap64 (x11 + 1))) else (if x3.length < 2513169434916 then ((some (x3 ++ [(⟨0, 0, (⟨0, 0, 0, 0, 0⟩ : S71)⟩ : S97)] : List (S97))).bind fun y146 => (spec_CanonNotes.l2 k y146 x6 (wrap64 ((y146.length : Int) - 1)) x9 x10 x11 x144000 x144001 x144002 x144003 x144004 x144005 x144006)) else (none))
def spec_CanonNotes.l2 : Nat → List (S97) → Int → Int → List (S97) → Int → Int → Int → Int → Int → Int → Int → Int → Int → Option ((List (S97)))
  | 0, _, _, _, _, _, _, _, _, _, _, _, _, _ => none
  | k + 1, x3, x6, x7, x9, x10, x11, x144000, x144001, x144002, x144003, x144004, x144005, x144006 => if x7 > x6 then (if 0 ≤ (wrap64 (x7 - 1)) then (if (wrap64 (x7 - 1)) < (x3.length : Int) then (if 0 ≤ x7 then (if x7 < (x3.length : Int) then (spec_CanonNotes.l2 k (x3.set (x7 : Int).toNat (⟨(rd_T97 x3 (wrap64 (x7 - 1))).f0, (rd_T97 x3 (wrap64 (x7 - 1))).f1, (⟨(rd_T97 x3 (wrap64 (x7 - 1))).f2.f0, (rd_T97 x3 (wrap64 (x7 - 1))).f2.f1, (rd_T97 x3 (wrap64 (x7 - 1))).f2.f2, (rd_T97 x3 (wrap64 (x7 - 1))).f2.f3, (rd_T97 x3 (wrap64 (x7 - 1))).f2.f4⟩ : S71)⟩ : S97)) x6 (wrap64 (x7 - 1)) x9 x10 x11 x144000 x144001 x144002 x144003 x144004 x144005 x144006) else (none)) else (none)) else (none)) else (none)) else (if 0 ≤ x6 then (if x6 < (x3.length : Int) then (spec_CanonNotes.l0 k (x3.set (x6 : Int).toNat (⟨x144000, x144001, (⟨x144002, x144003, x144004, x144005, x144006⟩ : S71)⟩ : S97)) x9 x10 (wrap64 (x11 + 1))) else (none)) else (none))
def spec_CanonNotes.l1 : Nat → List (S97) → Int → List (S97) → Int → Int → Int → Int → Int → Int → Int → Int → Int → Option ((List (S97)))
  | 0, _, _, _, _, _, _, _, _, _, _, _, _ => none
  | k + 1, x3, x6, x9, x10, x11, x144000, x144001, x144002, x144003, x144004, x144005, x144006 => if x6 < (x3.length : Int) then (if 0 ≤ x6 then (if ((rd_T97 x3 x6).f0) < x144000 then (spec_CanonNotes.l1 k x3 (wrap64 (x6 + 1)) x9 x10 x11 x144000 x144001 x144002 x144003 x144004 x144005 x144006) else (spec_CanonNotes.j2 k x3 x6 x9 x10 x11 x144000 x144001 x144002 x144003 x144004 x144005 x144006)) else (none)) else (spec_CanonNotes.j2 k x3 x6 x9 x10 x11 x144000 x144001 x144002 x144003 x144004 x144005 x144006)
end
def spec_CanonNotes.f (k : Nat) (l0 : List (S97)) : Option ((List (S97))) := spec_CanonNotes.l0 k (([] : List (S97))) l0 (l0.length : Int) 0
theorem spec_CanonNotes.mono_l : ∀ k, (∀ y0 y1 y2 y3, LeO (spec_CanonNotes.l0 k y0 y1 y2 y3) (spec_CanonNotes.l0 (k + 1) y0 y1 y2 y3)) ∧ (∀ y0 y1 y2 y3 y4 y5 y6 y7 y8 y9 y10 y11, LeO (spec_CanonNotes.j2 k y0 y1 y2 y3 y4 y5 y6 y7 y8 y9 y10 y11) (spec_CanonNotes.j2 (k + 1) y0 y1 y2 y3 y4 y5 y6 y7 y8 y9 y10 y11)) ∧ (∀ y0 y1 y2 y3 y4 y5 y6 y7 y8 y9 y10 y11 y12, LeO (spec_CanonNotes.j3 k y0 y1 y2 y3 y4 y5 y6 y7 y8 y9 y10 y11 y12) (spec_CanonNotes.j3 (k + 1) y0 y1 y2 y3 y4 y5 y6 y7 y8 y9 y10 y11 y12)) ∧ (∀ y0 y1 y2 y3 y4 y5 y6 y7 y8 y9 y10 y11 y12, LeO (spec_CanonNotes.l2 k y0 y1 y2 y3 y4 y5 y6 y7 y8 y9 y10 y11 y12) (spec_CanonNotes.l2 (k + 1) y0 y1 y2 y3 y4 y5 y6 y7 y8 y9 y10 y11 y12)) ∧ (∀ y0 y1 y2 y3 y4 y5 y6 y7 y8 y9 y10 y11, LeO (spec_CanonNotes.l1 k y0 y1 y2 y3 y4 y5 y6 y7 y8 y9 y10 y11) (spec_CanonNotes.l1 (k + 1) y0 y1 y2 y3 y4 y5 y6 y7 y8 y9 y10 y11))
  | 0 => ⟨fun _ _ _ _ r h => by simp [spec_CanonNotes.l0] at h, fun _ _ _ _ _ _ _ _ _ _ _ _ r h => by simp [spec_CanonNotes.j2] at h, fun _ _ _ _ _ _ _ _ _ _ _ _ _ r h => by simp [spec_CanonNotes.j3] at h, fun _ _ _ _ _ _ _ _ _ _ _ _ _ r h => by simp [spec_CanonNotes.l2] at h, fun _ _ _ _ _ _ _ _ _ _ _ _ r h => by simp [spec_CanonNotes.l1] at h⟩
  | k + 1 => by
    obtain ⟨ih0, ih1, ih2, ih3, ih4⟩ := spec_CanonNotes.mono_l k
    refine ⟨?_, ?_, ?_, ?_, ?_⟩
    · intro y0 y1 y2 y3
      unfold spec_CanonNotes.l0
      repeat' first
      | (with_reducible exact ih0 _ _ _ _)
      | (with_reducible exact ih1 _ _ _ _ _ _ _ _ _ _ _ _)
      | (with_reducible exact ih2 _ _ _ _ _ _ _ _ _ _ _ _ _)
      | (with_reducible exact ih3 _ _ _ _ _ _ _ _ _ _ _ _ _)
      | (with_reducible exact ih4 _ _ _ _ _ _ _ _ _ _ _ _)
      | (with_reducible exact LeO.refl _)
      | (with_reducible exact LeO.none _)
      | (with_reducible refine LeO.ite ?_ ?_)
      | (with_reducible refine LeO.bind ?_ (fun _ => ?_))
      | exact ih0 _ _ _ _
      | exact ih1 _ _ _ _ _ _ _ _ _ _ _ _
      | exact ih2 _ _ _ _ _ _ _ _ _ _ _ _ _
      | exact ih3 _ _ _ _ _ _ _ _ _ _ _ _ _
      | exact ih4 _ _ _ _ _ _ _ _ _ _ _ _
      | exact LeO.none _
      | refine LeO.ite ?_ ?_
      | refine LeO.bind ?_ (fun _ => ?_)
    · intro y0 y1 y2 y3 y4 y5 y6 y7 y8 y9 y10 y11
      unfold spec_CanonNotes.j2
      repeat' first
      | (with_reducible exact ih0 _ _ _ _)
      | (with_reducible exact ih1 _ _ _ _ _ _ _ _ _ _ _ _)
      | (with_reducible exact ih2 _ _ _ _ _ _ _ _ _ _ _ _ _)
      | (with_reducible exact ih3 _ _ _ _ _ _ _ _ _ _ _ _ _)
      | (with_reducible exact ih4 _ _ _ _ _ _ _ _ _ _ _ _)
      | (with_reducible exact LeO.refl _)
      | (with_reducible exact LeO.none _)
      | (with_reducible refine LeO.ite ?_ ?_)
      | (with_reducible refine LeO.bind ?_ (fun _ => ?_))
      | exact ih0 _ _ _ _
      | exact ih1 _ _ _ _ _ _ _ _ _ _ _ _
      | exact ih2 _ _ _ _ _ _ _ _ _ _ _ _ _
      | exact ih3 _ _ _ _ _ _ _ _ _ _ _ _ _
      | exact ih4 _ _ _ _ _ _ _ _ _ _ _ _
      | exact LeO.none _
      | refine LeO.ite ?_ ?_
      | refine LeO.bind ?_ (fun _ => ?_)
    · intro y0 y1 y2 y3 y4 y5 y6 y7 y8 y9 y10 y11 y12
      unfold spec_CanonNotes.j3
      repeat' first
      | (with_reducible exact ih0 _ _ _ _)
      | (with_reducible exact ih1 _ _ _ _ _ _ _ _ _ _ _ _)
      | (with_reducible exact ih2 _ _ _ _ _ _ _ _ _ _ _ _ _)
      | (with_reducible exact ih3 _ _ _ _ _ _ _ _ _ _ _ _ _)
      | (with_reducible exact ih4 _ _ _ _ _ _ _ _ _ _ _ _)
      | (with_reducible exact LeO.refl _)
      | (with_reducible exact LeO.none _)
      | (with_reducible refine LeO.ite ?_ ?_)
      | (with_reducible refine LeO.bind ?_ (fun _ => ?_))
      | exact ih0 _ _ _ _
      | exact ih1 _ _ _ _ _ _ _ _ _ _ _ _
      | exact ih2 _ _ _ _ _ _ _ _ _ _ _ _ _
      | exact ih3 _ _ _ _ _ _ _ _ _ _ _ _ _
      | exact ih4 _ _ _ _ _ _ _ _ _ _ _ _
      | exact LeO.none _
      | refine LeO.ite ?_ ?_
      | refine LeO.bind ?_ (fun _ => ?_)
    · intro y0 y1 y2 y3 y4 y5 y6 y7 y8 y9 y10 y11 y12
      unfold spec_CanonNotes.l2
      repeat' first
      | (with_reducible exact ih0 _ _ _ _)
      | (with_reducible exact ih1 _ _ _ _ _ _ _ _ _ _ _ _)
      | (with_reducible exact ih2 _ _ _ _ _ _ _ _ _ _ _ _ _)
      | (with_reducible exact ih3 _ _ _ _ _ _ _ _ _ _ _ _ _)
      | (with_reducible exact ih4 _ _ _ _ _ _ _ _ _ _ _ _)
      | (with_reducible exact LeO.refl _)
      | (with_reducible exact LeO.none _)
      | (with_reducible refine LeO.ite ?_ ?_)
      | (with_reducible refine LeO.bind ?_ (fun _ => ?_))
      | exact ih0 _ _ _ _
      | exact ih1 _ _ _ _ _ _ _ _ _ _ _ _
      | exact ih2 _ _ _ _ _ _ _ _ _ _ _ _ _
      | exact ih3 _ _ _ _ _ _ _ _ _ _ _ _ _
      | exact ih4 _ _ _ _ _ _ _ _ _ _ _ _
      | exact LeO.none _
      | refine LeO.ite ?_ ?_
      | refine LeO.bind ?_ (fun _ => ?_)
    · intro y0 y1 y2 y3 y4 y5 y6 y7 y8 y9 y10 y11
      unfold spec_CanonNotes.l1
      repeat' first
      | (with_reducible exact ih0 _ _ _ _)
      | (with_reducible exact ih1 _ _ _ _ _ _ _ _ _ _ _ _)
      | (with_reducible exact ih2 _ _ _ _ _ _ _ _ _ _ _ _ _)
      | (with_reducible exact ih3 _ _ _ _ _ _ _ _ _ _ _ _ _)
      | (with_reducible exact ih4 _ _ _ _ _ _ _ _ _ _ _ _)
      | (with_reducible exact LeO.refl _)
      | (with_reducible exact LeO.none _)
      | (with_reducible refine LeO.ite ?_ ?_)
      | (with_reducible refine LeO.bind ?_ (fun _ => ?_))
      | exact ih0 _ _ _ _
      | exact ih1 _ _ _ _ _ _ _ _ _ _ _ _
      | exact ih2 _ _ _ _ _ _ _ _ _ _ _ _ _
      | exact ih3 _ _ _ _ _ _ _ _ _ _ _ _ _
      | exact ih4 _ _ _ _ _ _ _ _ _ _ _ _
      | exact LeO.none _
      | refine LeO.ite ?_ ?_
      | refine LeO.bind ?_ (fun _ => ?_)
theorem spec_CanonNotes.mono : ∀ a0 k, LeO (spec_CanonNotes.f k a0) (spec_CanonNotes.f (k + 1) a0) := by
  intro a0 k
  obtain ⟨ih0, ih1, ih2, ih3, ih4⟩ := spec_CanonNotes.mono_l k
  unfold spec_CanonNotes.f
  repeat' first
      | (with_reducible exact ih0 _ _ _ _)
      | (with_reducible exact ih1 _ _ _ _ _ _ _ _ _ _ _ _)
      | (with_reducible exact ih2 _ _ _ _ _ _ _ _ _ _ _ _ _)
      | (with_reducible exact ih3 _ _ _ _ _ _ _ _ _ _ _ _ _)
      | (with_reducible exact ih4 _ _ _ _ _ _ _ _ _ _ _ _)
      | (with_reducible exact LeO.refl _)
      | (with_reducible exact LeO.none _)
      | (with_reducible refine LeO.ite ?_ ?_)
      | (with_reducible refine LeO.bind ?_ (fun _ => ?_))
      | exact ih0 _ _ _ _
      | exact ih1 _ _ _ _ _ _ _ _ _ _ _ _
      | exact ih2 _ _ _ _ _ _ _ _ _ _ _ _ _
      | exact ih3 _ _ _ _ _ _ _ _ _ _ _ _ _
      | exact ih4 _ _ _ _ _ _ _ _ _ _ _ _
      | exact LeO.none _
      | refine LeO.ite ?_ ?_
      | refine LeO.bind ?_ (fun _ => ?_)
set_option maxHeartbeats 8000000 in
set_option maxRecDepth 100000 in
theorem spec_CanonNotes.calls (k : Nat) (A0 : Option Addr) (c0 : Nat) (l0 : List (S97)) (r : List (S97)) (w : World) (hr0 : Kd.C k97 w A0 l0.length l0) (hc0 : l0.length ≤ c0) (h : spec_CanonNotes.f k l0 = some r) :
    Calls Try.prog 19 #[.slice A0 l0.length c0] w fun e w' => ∃ v0_ : Value, e = .returned (v0_) ∧ Kd.R k97 97 w' w.heap.size (fun _ => True) v0_ r ∧ Below w.heap.size w w' := by
  have hu97 := Try.underlying97
  have HR0 := Aside0.mk hr0
  have HC0 := Aside0.mk hc0
  clear hr0 hc0
  have HB := Aside0.mk (Below.refl w.heap.size w)
  have H : (spec_CanonNotes.l0 k (([] : List (S97))) l0 (l0.length : Int) 0) = some r := h
  clear h
  obtain ⟨y139, hy139⟩ : ∃ y_ : List (S97), y_ = (([] : List (S97))) := ⟨_, rfl⟩
  replace H : (spec_CanonNotes.l0 k y139 l0 (l0.length : Int) 0) = some r := by first | (rw [hy139]; with_reducible exact H) | (have H2_ := (Option.bind_some _ _).symm.trans H; rw [hy139]; with_reducible exact H2_) | (have H2_ := (Option.bind_some _ _).symm.trans H; with_reducible exact H2_) | with_reducible exact H | (rw [hy139]; exact H) | exact H
  have Ny139 := Aside0.mk hy139
  clear hy139
  have H' := Aside0.mk H
  clear H
  go_enter Try.func19, Try.ntmps19
  go_wp2_with (first | ((with_reducible refine gate_dst (N := 8) rfl ?_); refine Kd.R_lit k97 _ 97 ?hg (N := 8) ?hd (xs := ([] : List (S97))) (inner := []) (ok := fun _ => True) (okp := fun _ => True) ?hr ?hp (fun _ hk => hk) trivial (Below.refl _ _) (Nat.le_refl _) (by simp) ?_; (case hd => rfl); (case hg => rfl); (case hr => first | (go_simp; done) | (go_simp; rfl)); (case hp => exact (Reps.none _ _)); intro v140 w2 ho3 hb hg_ hnew_; clear hg_ hnew_; (first | rw [← Ny139.out] at ho3 | (simp only [Int.reduceToNat] at ho3; rw [← Ny139.out] at ho3)); have n0_ := Aside0.mk (Kd.R_lower ho3 (below_size (by repeat (first | (with_reducible first | exact HB.out | apply below_alloc | apply pw_below_drewN | apply below_drew1) | exact HB.out)))); have n1_ := Aside0.mk (below_step (by repeat (first | (with_reducible first | exact HB.out | apply below_alloc | apply pw_below_drewN | apply below_drew1) | exact HB.out)) hb); clear HB; have HO141 := n0_; have HB := n1_; clear n0_ n1_; clear hb ho3))
  repeat (go_quiet (first | ((with_reducible refine gate_dst (N := 8) rfl ?_); refine Kd.R_lit k97 _ 97 ?hg (N := 8) ?hd (xs := ([] : List (S97))) (inner := []) (ok := fun _ => True) (okp := fun _ => True) ?hr ?hp (fun _ hk => hk) trivial (Below.refl _ _) (Nat.le_refl _) (by simp) ?_; (case hd => rfl); (case hg => rfl); (case hr => first | (go_simp; done) | (go_simp; rfl)); (case hp => exact (Reps.none _ _)); intro v140 w2 ho3 hb hg_ hnew_; clear hg_ hnew_; (first | rw [← Ny139.out] at ho3 | (simp only [Int.reduceToNat] at ho3; rw [← Ny139.out] at ho3)); have n0_ := Aside0.mk (Kd.R_lower ho3 (below_size (by repeat (first | (with_reducible first | exact HB.out | apply below_alloc | apply pw_below_drewN | apply below_drew1) | exact HB.out)))); have n1_ := Aside0.mk (below_step (by repeat (first | (with_reducible first | exact HB.out | apply below_alloc | apply pw_below_drewN | apply below_drew1) | exact HB.out)) hb); clear HB; have HO141 := n0_; have HB := n1_; clear n0_ n1_; clear hb ho3)); try go_wp2_with (first | ((with_reducible refine gate_dst (N := 8) rfl ?_); refine Kd.R_lit k97 _ 97 ?hg (N := 8) ?hd (xs := ([] : List (S97))) (inner := []) (ok := fun _ => True) (okp := fun _ => True) ?hr ?hp (fun _ hk => hk) trivial (Below.refl _ _) (Nat.le_refl _) (by simp) ?_; (case hd => rfl); (case hg => rfl); (case hr => first | (go_simp; done) | (go_simp; rfl)); (case hp => exact (Reps.none _ _)); intro v140 w2 ho3 hb hg_ hnew_; clear hg_ hnew_; (first | rw [← Ny139.out] at ho3 | (simp only [Int.reduceToNat] at ho3; rw [← Ny139.out] at ho3)); have n0_ := Aside0.mk (Kd.R_lower ho3 (below_size (by repeat (first | (with_reducible first | exact HB.out | apply below_alloc | apply pw_below_drewN | apply below_drew1) | exact HB.out)))); have n1_ := Aside0.mk (below_step (by repeat (first | (with_reducible first | exact HB.out | apply below_alloc | apply pw_below_drewN | apply below_drew1) | exact HB.out)) hb); clear HB; have HO141 := n0_; have HB := n1_; clear n0_ n1_; clear hb ho3)))
  go_loopg [3, 11] k (fun kq v3 v11 w' => ∃ (x3_1 : List (S97)) (x11_1 : Int), v11 = .int .i64 x11_1 ∧ Aside0 (spec_CanonNotes.l0 kq x3_1 l0 (l0.length : Int) x11_1 = some r) ∧ Aside0 (kq ≤ k) ∧ Aside0 (Kd.R k97 97 w' w.heap.size (fun _ => True) v3 x3_1) ∧ Aside0 (Below w.heap.size w w'))
  case atStart => exact ⟨(y139), (0), (by first | rfl | (simp; done) | (simp [*]; done)), H', ⟨Nat.le_refl _⟩, ⟨by (with_reducible repeat (first | apply Kd.R_alloc | apply Kd.R_drewN | apply Kd.R_drew)); exact HO141.out⟩, ⟨by repeat (first | (with_reducible first | exact HB.out | apply below_alloc | apply pw_below_drewN | apply below_drew1) | exact HB.out)⟩⟩
  case round =>
    clear H'
    try clear c1
    try clear p2
    obtain ⟨x3_1, x11_1, rfl, HA, HK1, HO_3, HB⟩ := hrel
    cases gk with
    | zero => exact absurd HA.out (by simp [spec_CanonNotes.l0])
    | succ k1 =>
      have H := HA.out
      clear HA
      simp only [spec_CanonNotes.l0] at H
      by_cases c4 : x11_1 < (l0.length : Int)
      · rw [if_pos c4] at H
        have c4b0 : decide (x11_1 < (l0.length : Int)) = true := decide_eq_true c4
        clear c4
        by_cases c5 : 0 ≤ x11_1
        · rw [if_pos c5] at H
          have c5b0 : decide (0 ≤ x11_1) = true := decide_eq_true c5
          clear c5
          by_cases c6 : x11_1 < (l0.length : Int)
          · rw [if_pos c6] at H
            have c6b0 : decide (x11_1 < (l0.length : Int)) = true := decide_eq_true c6
            clear c6
            have HC7 := Aside0.mk H
            clear H
            have p142 : 0 ≤ (x11_1 : Int) := of_decide_eq_true (by first | (with_reducible assumption) | assumption)
            have q142 : x11_1 < (l0.length : Int) := of_decide_eq_true (by first | (with_reducible assumption) | assumption)
            obtain ⟨ad142, e142, hx142_0, hx142_1, hx142_2, hx142_3, hx142_4, hx142_5, hx142_6⟩ := at_T97 HR0.out x11_1 p142 q142
            cases e142
            replace hx142_0 := (HB.out.cell (World.block_lt_of_cell? w _ hx142_0)).trans hx142_0
            replace hx142_1 := (HB.out.cell (World.block_lt_of_cell? w _ hx142_1)).trans hx142_1
            replace hx142_2 := (HB.out.cell (World.block_lt_of_cell? w _ hx142_2)).trans hx142_2
            replace hx142_3 := (HB.out.cell (World.block_lt_of_cell? w _ hx142_3)).trans hx142_3
            replace hx142_4 := (HB.out.cell (World.block_lt_of_cell? w _ hx142_4)).trans hx142_4
            replace hx142_5 := (HB.out.cell (World.block_lt_of_cell? w _ hx142_5)).trans hx142_5
            replace hx142_6 := (HB.out.cell (World.block_lt_of_cell? w _ hx142_6)).trans hx142_6
            replace p142 := eq_true p142
            replace q142 := eq_true q142
            go_upto_block 2 with (first | ((with_reducible refine gate_dst (N := 5) rfl ?_); refine box_event ?hg (N := 5) ?hd (cs := #[.int .i64 0, .int .i64 0, .int .i64 0, .int .i64 0, .int .i64 0, .int .i64 0, .int .i64 0]) (t := 97) ?hr ?_; (case hd => rfl); (case hg => rfl); (case hr => first | (go_simp; done) | (go_simp; rfl)); intro gb143 hg w8 hbox hb; have n0_ := Aside0.mk (Kd.R_below (Kd.R_elderB (by (with_reducible repeat (first | apply Kd.R_alloc | apply Kd.R_drewN | apply Kd.R_drew)); exact HO_3.out) gb143 (Nat.le_of_eq hg.symm)) hb); have n1_ := Aside0.mk (below_step (by repeat (first | (with_reducible first | exact HB.out | apply below_alloc | apply pw_below_drewN | apply below_drew1) | exact HB.out)) hb); have n2_ := Aside0.mk (hbox); have n3_ := Aside0.mk ((by rw [hg]; exact (below_size (by repeat (first | (with_reducible first | exact HB.out | apply below_alloc | apply pw_below_drewN | apply below_drew1) | exact HB.out))) : w.heap.size ≤ gb143)); have n4_ := Aside0.mk ((by rw [hg]; exact (below_size (by repeat (first | (with_reducible first | exact HB.out | apply below_alloc | apply pw_below_drewN | apply below_drew1) | exact HB.out))) : w.heap.size ≤ gb143)); clear HO_3; clear HB; have HO_3 := n0_; have HB := n1_; have BK143 := n2_; have GW143 := n3_; have GE143 := n4_; clear n0_ n1_ n2_ n3_ n4_; clear hb hbox hg; have hcz9_0 : w8.cell? ⟨gb143, 0, none⟩ = some (.int .i64 0) := (blk_cell BK143.out 0).trans rfl; have hcz9_1 : w8.cell? ⟨gb143, 1, none⟩ = some (.int .i64 0) := (blk_cell BK143.out 1).trans rfl; have hcz9_2 : w8.cell? ⟨gb143, 2, none⟩ = some (.int .i64 0) := (blk_cell BK143.out 2).trans rfl; have hcz9_3 : w8.cell? ⟨gb143, 3, none⟩ = some (.int .i64 0) := (blk_cell BK143.out 3).trans rfl; have hcz9_4 : w8.cell? ⟨gb143, 4, none⟩ = some (.int .i64 0) := (blk_cell BK143.out 4).trans rfl; have hcz9_5 : w8.cell? ⟨gb143, 5, none⟩ = some (.int .i64 0) := (blk_cell BK143.out 5).trans rfl; have hcz9_6 : w8.cell? ⟨gb143, 6, none⟩ = some (.int .i64 0) := (blk_cell BK143.out 6).trans rfl; have hfz9_0 := blk_frozen BK143.out 0; have hfz9_1 := blk_frozen BK143.out 1; have hfz9_2 := blk_frozen BK143.out 2; have hfz9_3 := blk_frozen BK143.out 3; have hfz9_4 := blk_frozen BK143.out 4; have hfz9_5 := blk_frozen BK143.out 5; have hfz9_6 := blk_frozen BK143.out 6))
            repeat (go_quiet (first | ((with_reducible refine gate_dst (N := 5) rfl ?_); refine box_event ?hg (N := 5) ?hd (cs := #[.int .i64 0, .int .i64 0, .int .i64 0, .int .i64 0, .int .i64 0, .int .i64 0, .int .i64 0]) (t := 97) ?hr ?_; (case hd => rfl); (case hg => rfl); (case hr => first | (go_simp; done) | (go_simp; rfl)); intro gb143 hg w8 hbox hb; have n0_ := Aside0.mk (Kd.R_below (Kd.R_elderB (by (with_reducible repeat (first | apply Kd.R_alloc | apply Kd.R_drewN | apply Kd.R_drew)); exact HO_3.out) gb143 (Nat.le_of_eq hg.symm)) hb); have n1_ := Aside0.mk (below_step (by repeat (first | (with_reducible first | exact HB.out | apply below_alloc | apply pw_below_drewN | apply below_drew1) | exact HB.out)) hb); have n2_ := Aside0.mk (hbox); have n3_ := Aside0.mk ((by rw [hg]; exact (below_size (by repeat (first | (with_reducible first | exact HB.out | apply below_alloc | apply pw_below_drewN | apply below_drew1) | exact HB.out))) : w.heap.size ≤ gb143)); have n4_ := Aside0.mk ((by rw [hg]; exact (below_size (by repeat (first | (with_reducible first | exact HB.out | apply below_alloc | apply pw_below_drewN | apply below_drew1) | exact HB.out))) : w.heap.size ≤ gb143)); clear HO_3; clear HB; have HO_3 := n0_; have HB := n1_; have BK143 := n2_; have GW143 := n3_; have GE143 := n4_; clear n0_ n1_ n2_ n3_ n4_; clear hb hbox hg; have hcz9_0 : w8.cell? ⟨gb143, 0, none⟩ = some (.int .i64 0) := (blk_cell BK143.out 0).trans rfl; have hcz9_1 : w8.cell? ⟨gb143, 1, none⟩ = some (.int .i64 0) := (blk_cell BK143.out 1).trans rfl; have hcz9_2 : w8.cell? ⟨gb143, 2, none⟩ = some (.int .i64 0) := (blk_cell BK143.out 2).trans rfl; have hcz9_3 : w8.cell? ⟨gb143, 3, none⟩ = some (.int .i64 0) := (blk_cell BK143.out 3).trans rfl; have hcz9_4 : w8.cell? ⟨gb143, 4, none⟩ = some (.int .i64 0) := (blk_cell BK143.out 4).trans rfl; have hcz9_5 : w8.cell? ⟨gb143, 5, none⟩ = some (.int .i64 0) := (blk_cell BK143.out 5).trans rfl; have hcz9_6 : w8.cell? ⟨gb143, 6, none⟩ = some (.int .i64 0) := (blk_cell BK143.out 6).trans rfl; have hfz9_0 := blk_frozen BK143.out 0; have hfz9_1 := blk_frozen BK143.out 1; have hfz9_2 := blk_frozen BK143.out 2; have hfz9_3 := blk_frozen BK143.out 3; have hfz9_4 := blk_frozen BK143.out 4; have hfz9_5 := blk_frozen BK143.out 5; have hfz9_6 := blk_frozen BK143.out 6)); go_upto_block 2 with (first | ((with_reducible refine gate_dst (N := 5) rfl ?_); refine box_event ?hg (N := 5) ?hd (cs := #[.int .i64 0, .int .i64 0, .int .i64 0, .int .i64 0, .int .i64 0, .int .i64 0, .int .i64 0]) (t := 97) ?hr ?_; (case hd => rfl); (case hg => rfl); (case hr => first | (go_simp; done) | (go_simp; rfl)); intro gb143 hg w8 hbox hb; have n0_ := Aside0.mk (Kd.R_below (Kd.R_elderB (by (with_reducible repeat (first | apply Kd.R_alloc | apply Kd.R_drewN | apply Kd.R_drew)); exact HO_3.out) gb143 (Nat.le_of_eq hg.symm)) hb); have n1_ := Aside0.mk (below_step (by repeat (first | (with_reducible first | exact HB.out | apply below_alloc | apply pw_below_drewN | apply below_drew1) | exact HB.out)) hb); have n2_ := Aside0.mk (hbox); have n3_ := Aside0.mk ((by rw [hg]; exact (below_size (by repeat (first | (with_reducible first | exact HB.out | apply below_alloc | apply pw_below_drewN | apply below_drew1) | exact HB.out))) : w.heap.size ≤ gb143)); have n4_ := Aside0.mk ((by rw [hg]; exact (below_size (by repeat (first | (with_reducible first | exact HB.out | apply below_alloc | apply pw_below_drewN | apply below_drew1) | exact HB.out))) : w.heap.size ≤ gb143)); clear HO_3; clear HB; have HO_3 := n0_; have HB := n1_; have BK143 := n2_; have GW143 := n3_; have GE143 := n4_; clear n0_ n1_ n2_ n3_ n4_; clear hb hbox hg; have hcz9_0 : w8.cell? ⟨gb143, 0, none⟩ = some (.int .i64 0) := (blk_cell BK143.out 0).trans rfl; have hcz9_1 : w8.cell? ⟨gb143, 1, none⟩ = some (.int .i64 0) := (blk_cell BK143.out 1).trans rfl; have hcz9_2 : w8.cell? ⟨gb143, 2, none⟩ = some (.int .i64 0) := (blk_cell BK143.out 2).trans rfl; have hcz9_3 : w8.cell? ⟨gb143, 3, none⟩ = some (.int .i64 0) := (blk_cell BK143.out 3).trans rfl; have hcz9_4 : w8.cell? ⟨gb143, 4, none⟩ = some (.int .i64 0) := (blk_cell BK143.out 4).trans rfl; have hcz9_5 : w8.cell? ⟨gb143, 5, none⟩ = some (.int .i64 0) := (blk_cell BK143.out 5).trans rfl; have hcz9_6 : w8.cell? ⟨gb143, 6, none⟩ = some (.int .i64 0) := (blk_cell BK143.out 6).trans rfl; have hfz9_0 := blk_frozen BK143.out 0; have hfz9_1 := blk_frozen BK143.out 1; have hfz9_2 := blk_frozen BK143.out 2; have hfz9_3 := blk_frozen BK143.out 3; have hfz9_4 := blk_frozen BK143.out 4; have hfz9_5 := blk_frozen BK143.out 5; have hfz9_6 := blk_frozen BK143.out 6)))
            (try simp only [Act.put, List.setIfInBounds_toArray, List.set_cons_zero, List.set_cons_succ])
            go_cut [6] (fun v6 wc => ∃ (kq : Nat) (x6_6 : Int), v6 = .int .i64 x6_6 ∧ Aside0 (spec_CanonNotes.j2 kq x3_1 x6_6 l0 (l0.length : Int) x11_1 ((rd_T97 l0 x11_1).f0) ((rd_T97 l0 x11_1).f1) ((rd_T97 l0 x11_1).f2.f0) ((rd_T97 l0 x11_1).f2.f1) ((rd_T97 l0 x11_1).f2.f2) ((rd_T97 l0 x11_1).f2.f3) ((rd_T97 l0 x11_1).f2.f4) = some r) ∧ Aside0 (kq ≤ k1) ∧ Aside0 (Kd.R k97 97 wc w.heap.size (fun k_ => k_ ≠ gb143) u3 x3_1) ∧ Aside0 (wc.heap[gb143]? = some (.cells #[.int .i64 ((rd_T97 l0 x11_1).f0), .int .i64 ((rd_T97 l0 x11_1).f1), .int .i64 ((rd_T97 l0 x11_1).f2.f0), .int .i64 ((rd_T97 l0 x11_1).f2.f1), .int .i64 ((rd_T97 l0 x11_1).f2.f2), .int .i64 ((rd_T97 l0 x11_1).f2.f3), .int .i64 ((rd_T97 l0 x11_1).f2.f4)] 97 (0, 0))) ∧ Aside0 (Below w.heap.size w wc))
            case first =>
              have H := HC7.out
              clear HC7
              have H' := Aside0.mk H
              clear H
              go_wp2
              repeat (go_quiet (fail); try go_wp2)
              go_loopg [6] k1 (fun kq v6 w' => ∃ (x6_2 : Int), v6 = .int .i64 x6_2 ∧ Aside0 (spec_CanonNotes.l1 kq x3_1 x6_2 l0 (l0.length : Int) x11_1 ((rd_T97 l0 x11_1).f0) ((rd_T97 l0 x11_1).f1) ((rd_T97 l0 x11_1).f2.f0) ((rd_T97 l0 x11_1).f2.f1) ((rd_T97 l0 x11_1).f2.f2) ((rd_T97 l0 x11_1).f2.f3) ((rd_T97 l0 x11_1).f2.f4) = some r) ∧ Aside0 (kq ≤ k1) ∧ Aside0 (Kd.R k97 97 w' w.heap.size (fun k_ => k_ ≠ gb143) u3 x3_1) ∧ Aside0 (w'.heap[gb143]? = some (.cells #[.int .i64 ((rd_T97 l0 x11_1).f0), .int .i64 ((rd_T97 l0 x11_1).f1), .int .i64 ((rd_T97 l0 x11_1).f2.f0), .int .i64 ((rd_T97 l0 x11_1).f2.f1), .int .i64 ((rd_T97 l0 x11_1).f2.f2), .int .i64 ((rd_T97 l0 x11_1).f2.f3), .int .i64 ((rd_T97 l0 x11_1).f2.f4)] 97 (0, 0))) ∧ Aside0 (Below w.heap.size w w'))
              case atStart => exact ⟨(0), (by first | rfl | (simp; done) | (simp [*]; done)), H', ⟨Nat.le_refl _⟩, ⟨by (with_reducible repeat (first | apply Kd.R_alloc | apply Kd.R_drewN | apply Kd.R_drew)); exact Kd.R_mono (Kd.R_far (p := ⟨gb143, 6, none⟩) (Kd.R_far (p := ⟨gb143, 5, none⟩) (Kd.R_far (p := ⟨gb143, 4, none⟩) (Kd.R_far (p := ⟨gb143, 3, none⟩) (Kd.R_far (p := ⟨gb143, 2, none⟩) (Kd.R_far (p := ⟨gb143, 1, none⟩) (Kd.R_far (p := ⟨gb143, 0, none⟩) (Kd.R_mono HO_3.out (fun k_ hk => (⟨hk, hk.2⟩ : _ ∧ k_ ≠ gb143))) (fun _ hk => hk.2) (.int .i64 ((rd_T97 l0 x11_1).f0))) (fun _ hk => hk.2) (.int .i64 ((rd_T97 l0 x11_1).f1))) (fun _ hk => hk.2) (.int .i64 ((rd_T97 l0 x11_1).f2.f0))) (fun _ hk => hk.2) (.int .i64 ((rd_T97 l0 x11_1).f2.f1))) (fun _ hk => hk.2) (.int .i64 ((rd_T97 l0 x11_1).f2.f2))) (fun _ hk => hk.2) (.int .i64 ((rd_T97 l0 x11_1).f2.f3))) (fun _ hk => hk.2) (.int .i64 ((rd_T97 l0 x11_1).f2.f4))) (fun _ hk => hk.1.2)⟩, ⟨by (with_reducible repeat (first | refine blk_drewN ?_ _ | refine blk_drew ?_ | refine blk_alloc ?_ _)); refine blk_put (cs := #[.int .i64 ((rd_T97 l0 x11_1).f0), .int .i64 ((rd_T97 l0 x11_1).f1), .int .i64 ((rd_T97 l0 x11_1).f2.f0), .int .i64 ((rd_T97 l0 x11_1).f2.f1), .int .i64 ((rd_T97 l0 x11_1).f2.f2), .int .i64 ((rd_T97 l0 x11_1).f2.f3), .int .i64 0]) ?_ 6 _ rfl; (with_reducible repeat (first | refine blk_drewN ?_ _ | refine blk_drew ?_ | refine blk_alloc ?_ _)); refine blk_put (cs := #[.int .i64 ((rd_T97 l0 x11_1).f0), .int .i64 ((rd_T97 l0 x11_1).f1), .int .i64 ((rd_T97 l0 x11_1).f2.f0), .int .i64 ((rd_T97 l0 x11_1).f2.f1), .int .i64 ((rd_T97 l0 x11_1).f2.f2), .int .i64 0, .int .i64 0]) ?_ 5 _ rfl; (with_reducible repeat (first | refine blk_drewN ?_ _ | refine blk_drew ?_ | refine blk_alloc ?_ _)); refine blk_put (cs := #[.int .i64 ((rd_T97 l0 x11_1).f0), .int .i64 ((rd_T97 l0 x11_1).f1), .int .i64 ((rd_T97 l0 x11_1).f2.f0), .int .i64 ((rd_T97 l0 x11_1).f2.f1), .int .i64 0, .int .i64 0, .int .i64 0]) ?_ 4 _ rfl; (with_reducible repeat (first | refine blk_drewN ?_ _ | refine blk_drew ?_ | refine blk_alloc ?_ _)); refine blk_put (cs := #[.int .i64 ((rd_T97 l0 x11_1).f0), .int .i64 ((rd_T97 l0 x11_1).f1), .int .i64 ((rd_T97 l0 x11_1).f2.f0), .int .i64 0, .int .i64 0, .int .i64 0, .int .i64 0]) ?_ 3 _ rfl; (with_reducible repeat (first | refine blk_drewN ?_ _ | refine blk_drew ?_ | refine blk_alloc ?_ _)); refine blk_put (cs := #[.int .i64 ((rd_T97 l0 x11_1).f0), .int .i64 ((rd_T97 l0 x11_1).f1), .int .i64 0, .int .i64 0, .int .i64 0, .int .i64 0, .int .i64 0]) ?_ 2 _ rfl; (with_reducible repeat (first | refine blk_drewN ?_ _ | refine blk_drew ?_ | refine blk_alloc ?_ _)); refine blk_put (cs := #[.int .i64 ((rd_T97 l0 x11_1).f0), .int .i64 0, .int .i64 0, .int .i64 0, .int .i64 0, .int .i64 0, .int .i64 0]) ?_ 1 _ rfl; (with_reducible repeat (first | refine blk_drewN ?_ _ | refine blk_drew ?_ | refine blk_alloc ?_ _)); refine blk_put (cs := #[.int .i64 0, .int .i64 0, .int .i64 0, .int .i64 0, .int .i64 0, .int .i64 0, .int .i64 0]) ?_ 0 _ rfl; (with_reducible repeat (first | refine blk_drewN ?_ _ | refine blk_drew ?_ | refine blk_alloc ?_ _)); exact BK143.out⟩, ⟨by repeat (first | (with_reducible first | exact HB.out | apply below_alloc | apply pw_below_drewN | apply below_drew1 | refine below_set ?_ GE143.out) | exact HB.out)⟩⟩
              case round =>
                clear H'
                try clear c1
                try clear p1
                try clear q1
                try clear hx1
                try clear p2
                try clear c4
                try clear c4b0
                try clear c5
                try clear c5b0
                try clear c6
                try clear c6b0
                try clear hcz9_0
                try clear hcz9_1
                try clear hcz9_2
                try clear hcz9_3
                try clear hcz9_4
                try clear hcz9_5
                try clear hcz9_6
                try clear hfz9_0
                try clear hfz9_1
                try clear hfz9_2
                try clear hfz9_3
                try clear hfz9_4
                try clear hfz9_5
                try clear hfz9_6
                try clear hx142_0
                try clear hx142_1
                try clear hx142_2
                try clear hx142_3
                try clear hx142_4
                try clear hx142_5
                try clear hx142_6
                try clear p142
                try clear p2
                try clear q142
                obtain ⟨x6_2, rfl, HA, HK2, HO_3, BK143, HB⟩ := hrel
                cases gk with
                | zero => exact absurd HA.out (by simp [spec_CanonNotes.l1])
                | succ k2 =>
                  have H := HA.out
                  clear HA
                  simp only [spec_CanonNotes.l1] at H
                  by_cases c10 : x6_2 < (x3_1.length : Int)
                  · rw [if_pos c10] at H
                    have c10b0 : decide (x6_2 < (x3_1.length : Int)) = true := decide_eq_true c10
                    clear c10
                    (first | rw [c10b0] | (simp only [i64_w, i32_w]; rw [c10b0]) | skip)
                    by_cases c11 : 0 ≤ x6_2
                    · rw [if_pos c11] at H
                      have c11b0 : decide (0 ≤ x6_2) = true := decide_eq_true c11
                      clear c11
                      by_cases c12 : ((rd_T97 x3_1 x6_2).f0) < ((rd_T97 l0 x11_1).f0)
                      · rw [if_pos c12] at H
                        have c12b0 : decide (((rd_T97 x3_1 x6_2).f0) < ((rd_T97 l0 x11_1).f0)) = true := decide_eq_true c12
                        clear c12
                        have H' := Aside0.mk H
                        clear H
                        obtain ⟨Ao13, co13, eo13⟩ := Kd.R_slice HO_3.out
                        subst eo13
                        have p144 : 0 ≤ (x6_2 : Int) := of_decide_eq_true (by first | (with_reducible assumption) | assumption)
                        have q144 : x6_2 < (x3_1.length : Int) := of_decide_eq_true (by first | (with_reducible assumption) | assumption)
                        obtain ⟨ad144, e144, hx144_0, hx144_1, hx144_2, hx144_3, hx144_4, hx144_5, hx144_6⟩ := at_T97 (Kd.R_reads' HO_3.out).2.2 x6_2 p144 q144
                        cases e144
                        replace p144 := eq_true p144
                        replace q144 := eq_true q144
                        have hcz14_0 : wr.cell? ⟨gb143, 0, none⟩ = some (.int .i64 ((rd_T97 l0 x11_1).f0)) := (blk_cell BK143.out 0).trans rfl
                        have hcz14_1 : wr.cell? ⟨gb143, 1, none⟩ = some (.int .i64 ((rd_T97 l0 x11_1).f1)) := (blk_cell BK143.out 1).trans rfl
                        have hcz14_2 : wr.cell? ⟨gb143, 2, none⟩ = some (.int .i64 ((rd_T97 l0 x11_1).f2.f0)) := (blk_cell BK143.out 2).trans rfl
                        have hcz14_3 : wr.cell? ⟨gb143, 3, none⟩ = some (.int .i64 ((rd_T97 l0 x11_1).f2.f1)) := (blk_cell BK143.out 3).trans rfl
                        have hcz14_4 : wr.cell? ⟨gb143, 4, none⟩ = some (.int .i64 ((rd_T97 l0 x11_1).f2.f2)) := (blk_cell BK143.out 4).trans rfl
                        have hcz14_5 : wr.cell? ⟨gb143, 5, none⟩ = some (.int .i64 ((rd_T97 l0 x11_1).f2.f3)) := (blk_cell BK143.out 5).trans rfl
                        have hcz14_6 : wr.cell? ⟨gb143, 6, none⟩ = some (.int .i64 ((rd_T97 l0 x11_1).f2.f4)) := (blk_cell BK143.out 6).trans rfl
                        have hfz14_0 := blk_frozen BK143.out 0
                        have hfz14_1 := blk_frozen BK143.out 1
                        have hfz14_2 := blk_frozen BK143.out 2
                        have hfz14_3 := blk_frozen BK143.out 3
                        have hfz14_4 := blk_frozen BK143.out 4
                        have hfz14_5 := blk_frozen BK143.out 5
                        have hfz14_6 := blk_frozen BK143.out 6
                        go_wp2
                        repeat (go_quiet (fail); try go_wp2)
                        go_roundg k2
                        case measure => have := HK1.out; have := HK2.out; omega
                        case rel => exact ⟨(wrap64 (x6_2 + 1)), (by first | rfl | (simp; done) | (simp [*]; done)), H', ⟨by have := HK1.out; have := HK2.out; omega⟩, ⟨by (with_reducible repeat (first | apply Kd.R_alloc | apply Kd.R_drewN | apply Kd.R_drew)); exact HO_3.out⟩, ⟨by (with_reducible repeat (first | refine blk_drewN ?_ _ | refine blk_drew ?_ | refine blk_alloc ?_ _)); exact BK143.out⟩, ⟨by repeat (first | (with_reducible first | exact HB.out | apply below_alloc | apply pw_below_drewN | apply below_drew1 | refine below_set ?_ GE143.out) | exact HB.out)⟩⟩
                      · rw [if_neg c12] at H
                        have c12b0 : decide (((rd_T97 x3_1 x6_2).f0) < ((rd_T97 l0 x11_1).f0)) = false := decide_eq_false c12
                        clear c12
                        have H' := Aside0.mk H
                        clear H
                        obtain ⟨Ao15, co15, eo15⟩ := Kd.R_slice HO_3.out
                        subst eo15
                        have p144 : 0 ≤ (x6_2 : Int) := of_decide_eq_true (by first | (with_reducible assumption) | assumption)
                        have q144 : x6_2 < (x3_1.length : Int) := of_decide_eq_true (by first | (with_reducible assumption) | assumption)
                        obtain ⟨ad144, e144, hx144_0, hx144_1, hx144_2, hx144_3, hx144_4, hx144_5, hx144_6⟩ := at_T97 (Kd.R_reads' HO_3.out).2.2 x6_2 p144 q144
                        cases e144
                        replace p144 := eq_true p144
                        replace q144 := eq_true q144
                        have hcz16_0 : wr.cell? ⟨gb143, 0, none⟩ = some (.int .i64 ((rd_T97 l0 x11_1).f0)) := (blk_cell BK143.out 0).trans rfl
                        have hcz16_1 : wr.cell? ⟨gb143, 1, none⟩ = some (.int .i64 ((rd_T97 l0 x11_1).f1)) := (blk_cell BK143.out 1).trans rfl
                        have hcz16_2 : wr.cell? ⟨gb143, 2, none⟩ = some (.int .i64 ((rd_T97 l0 x11_1).f2.f0)) := (blk_cell BK143.out 2).trans rfl
                        have hcz16_3 : wr.cell? ⟨gb143, 3, none⟩ = some (.int .i64 ((rd_T97 l0 x11_1).f2.f1)) := (blk_cell BK143.out 3).trans rfl
                        have hcz16_4 : wr.cell? ⟨gb143, 4, none⟩ = some (.int .i64 ((rd_T97 l0 x11_1).f2.f2)) := (blk_cell BK143.out 4).trans rfl
                        have hcz16_5 : wr.cell? ⟨gb143, 5, none⟩ = some (.int .i64 ((rd_T97 l0 x11_1).f2.f3)) := (blk_cell BK143.out 5).trans rfl
                        have hcz16_6 : wr.cell? ⟨gb143, 6, none⟩ = some (.int .i64 ((rd_T97 l0 x11_1).f2.f4)) := (blk_cell BK143.out 6).trans rfl
                        have hfz16_0 := blk_frozen BK143.out 0
                        have hfz16_1 := blk_frozen BK143.out 1
                        have hfz16_2 := blk_frozen BK143.out 2
                        have hfz16_3 := blk_frozen BK143.out 3
                        have hfz16_4 := blk_frozen BK143.out 4
                        have hfz16_5 := blk_frozen BK143.out 5
                        have hfz16_6 := blk_frozen BK143.out 6
                        go_wp2
                        repeat (go_quiet (fail); try go_wp2)
                        go_meet
                        case rel => exact ⟨_, (x6_2), (by first | rfl | (simp; done) | (simp [*]; done)), H', ⟨by have := HK1.out; have := HK2.out; first | omega | exact Nat.le_refl _⟩, ⟨by (with_reducible repeat (first | apply Kd.R_alloc | apply Kd.R_drewN | apply Kd.R_drew)); exact HO_3.out⟩, ⟨by (with_reducible repeat (first | refine blk_drewN ?_ _ | refine blk_drew ?_ | refine blk_alloc ?_ _)); exact BK143.out⟩, ⟨by repeat (first | (with_reducible first | exact HB.out | apply below_alloc | apply pw_below_drewN | apply below_drew1 | refine below_set ?_ GE143.out) | exact HB.out)⟩⟩
                    · rw [if_neg c11] at H
                      exact absurd H (by simp)
                  · rw [if_neg c10] at H
                    have c10b0 : decide (x6_2 < (x3_1.length : Int)) = false := decide_eq_false c10
                    clear c10
                    (first | rw [c10b0] | (simp only [i64_w, i32_w]; rw [c10b0]) | skip)
                    have H' := Aside0.mk H
                    clear H
                    obtain ⟨Ao17, co17, eo17⟩ := Kd.R_slice HO_3.out
                    subst eo17
                    go_wp2
                    repeat (go_quiet (fail); try go_wp2)
                    go_meet
                    case rel => exact ⟨_, (x6_2), (by first | rfl | (simp; done) | (simp [*]; done)), H', ⟨by have := HK1.out; have := HK2.out; first | omega | exact Nat.le_refl _⟩, ⟨by (with_reducible repeat (first | apply Kd.R_alloc | apply Kd.R_drewN | apply Kd.R_drew)); exact HO_3.out⟩, ⟨by (with_reducible repeat (first | refine blk_drewN ?_ _ | refine blk_drew ?_ | refine blk_alloc ?_ _)); exact BK143.out⟩, ⟨by repeat (first | (with_reducible first | exact HB.out | apply below_alloc | apply pw_below_drewN | apply below_drew1 | refine below_set ?_ GE143.out) | exact HB.out)⟩⟩
            case rest =>
              clear HC7
              try clear c1
              try clear p1
              try clear q1
              try clear hx1
              try clear p2
              try clear c4
              try clear c4b0
              try clear c5
              try clear c5b0
              try clear c6
              try clear c6b0
              try clear p6
              try clear c10
              try clear c10b0
              try clear c11
              try clear c11b0
              try clear c12
              try clear c12b0
              try clear p14
              try clear q14
              try clear hx14
              try clear hcz14_0
              try clear hcz14_1
              try clear hcz14_2
              try clear hcz14_3
              try clear hcz14_4
              try clear hcz14_5
              try clear hcz14_6
              try clear hcz16_0
              try clear hcz16_1
              try clear hcz16_2
              try clear hcz16_3
              try clear hcz16_4
              try clear hcz16_5
              try clear hcz16_6
              try clear hcz9_0
              try clear hcz9_1
              try clear hcz9_2
              try clear hcz9_3
              try clear hcz9_4
              try clear hcz9_5
              try clear hcz9_6
              try clear hfz14_0
              try clear hfz14_1
              try clear hfz14_2
              try clear hfz14_3
              try clear hfz14_4
              try clear hfz14_5
              try clear hfz14_6
              try clear hfz16_0
              try clear hfz16_1
              try clear hfz16_2
              try clear hfz16_3
              try clear hfz16_4
              try clear hfz16_5
              try clear hfz16_6
              try clear hfz9_0
              try clear hfz9_1
              try clear hfz9_2
              try clear hfz9_3
              try clear hfz9_4
              try clear hfz9_5
              try clear hfz9_6
              try clear hx142_0
              try clear hx142_1
              try clear hx142_2
              try clear hx142_3
              try clear hx142_4
              try clear hx142_5
              try clear hx142_6
              try clear hx144_0
              try clear hx144_1
              try clear hx144_2
              try clear hx144_3
              try clear hx144_4
              try clear hx144_5
              try clear hx144_6
              try clear p1
              try clear p142
              try clear p144
              try clear p2
              try clear q1
              try clear q142
              try clear q144
              obtain ⟨kq, x6_6, rfl, HA, HJ6, HO_3, BK143, HB⟩ := hcut
              cases kq with
              | zero => exact absurd HA.out (by simp [spec_CanonNotes.j2])
              | succ kj6 =>
                have H := HA.out
                clear HA
                simp only [spec_CanonNotes.j2] at H
                have HC18 := Aside0.mk H
                clear H
                go_upto_region 8 with (fail)
                repeat (go_quiet (fail); go_upto_region 8 with (fail))
                go_cut [44] (fun v44 wc => ∃ (kq : Nat) (x44_17 : Bool), v44 = .bool x44_17 ∧ Aside0 (spec_CanonNotes.j3 kq x3_1 x6_6 l0 (l0.length : Int) x11_1 x44_17 ((rd_T97 l0 x11_1).f0) ((rd_T97 l0 x11_1).f1) ((rd_T97 l0 x11_1).f2.f0) ((rd_T97 l0 x11_1).f2.f1) ((rd_T97 l0 x11_1).f2.f2) ((rd_T97 l0 x11_1).f2.f3) ((rd_T97 l0 x11_1).f2.f4) = some r) ∧ Aside0 (kq ≤ kj6) ∧ Aside0 (Kd.R k97 97 wc w.heap.size (fun k_ => k_ ≠ gb143) u3 x3_1) ∧ Aside0 (wc.heap[gb143]? = some (.cells #[.int .i64 ((rd_T97 l0 x11_1).f0), .int .i64 ((rd_T97 l0 x11_1).f1), .int .i64 ((rd_T97 l0 x11_1).f2.f0), .int .i64 ((rd_T97 l0 x11_1).f2.f1), .int .i64 ((rd_T97 l0 x11_1).f2.f2), .int .i64 ((rd_T97 l0 x11_1).f2.f3), .int .i64 ((rd_T97 l0 x11_1).f2.f4)] 97 (0, 0))) ∧ Aside0 (Below w.heap.size w wc))
                case first =>
                  have H := HC18.out
                  clear HC18
                  by_cases c19 : x6_6 < (x3_1.length : Int)
                  · rw [if_pos c19] at H
                    have c19b0 : decide (x6_6 < (x3_1.length : Int)) = true := decide_eq_true c19
                    clear c19
                    (first | rw [c19b0] | (simp only [i64_w, i32_w]; rw [c19b0]) | skip)
                    by_cases c20 : 0 ≤ x6_6
                    · rw [if_pos c20] at H
                      have c20b0 : decide (0 ≤ x6_6) = true := decide_eq_true c20
                      clear c20
                      have H' := Aside0.mk H
                      clear H
                      obtain ⟨Ao21, co21, eo21⟩ := Kd.R_slice HO_3.out
                      subst eo21
                      have p145 : 0 ≤ (x6_6 : Int) := of_decide_eq_true (by first | (with_reducible assumption) | assumption)
                      have q145 : x6_6 < (x3_1.length : Int) := of_decide_eq_true (by first | (with_reducible assumption) | assumption)
                      obtain ⟨ad145, e145, hx145_0, hx145_1, hx145_2, hx145_3, hx145_4, hx145_5, hx145_6⟩ := at_T97 (Kd.R_reads' HO_3.out).2.2 x6_6 p145 q145
                      cases e145
                      replace p145 := eq_true p145
                      replace q145 := eq_true q145
                      have hcz22_0 : wc.cell? ⟨gb143, 0, none⟩ = some (.int .i64 ((rd_T97 l0 x11_1).f0)) := (blk_cell BK143.out 0).trans rfl
                      have hcz22_1 : wc.cell? ⟨gb143, 1, none⟩ = some (.int .i64 ((rd_T97 l0 x11_1).f1)) := (blk_cell BK143.out 1).trans rfl
                      have hcz22_2 : wc.cell? ⟨gb143, 2, none⟩ = some (.int .i64 ((rd_T97 l0 x11_1).f2.f0)) := (blk_cell BK143.out 2).trans rfl
                      have hcz22_3 : wc.cell? ⟨gb143, 3, none⟩ = some (.int .i64 ((rd_T97 l0 x11_1).f2.f1)) := (blk_cell BK143.out 3).trans rfl
                      have hcz22_4 : wc.cell? ⟨gb143, 4, none⟩ = some (.int .i64 ((rd_T97 l0 x11_1).f2.f2)) := (blk_cell BK143.out 4).trans rfl
                      have hcz22_5 : wc.cell? ⟨gb143, 5, none⟩ = some (.int .i64 ((rd_T97 l0 x11_1).f2.f3)) := (blk_cell BK143.out 5).trans rfl
                      have hcz22_6 : wc.cell? ⟨gb143, 6, none⟩ = some (.int .i64 ((rd_T97 l0 x11_1).f2.f4)) := (blk_cell BK143.out 6).trans rfl
                      have hfz22_0 := blk_frozen BK143.out 0
                      have hfz22_1 := blk_frozen BK143.out 1
                      have hfz22_2 := blk_frozen BK143.out 2
                      have hfz22_3 := blk_frozen BK143.out 3
                      have hfz22_4 := blk_frozen BK143.out 4
                      have hfz22_5 := blk_frozen BK143.out 5
                      have hfz22_6 := blk_frozen BK143.out 6
                      go_wp2
                      repeat (go_quiet (fail); try go_wp2)
                      go_meet
                      case rel => exact ⟨_, ((((rd_T97 x3_1 x6_6).f0) == ((rd_T97 l0 x11_1).f0))), (by first | rfl | (simp; done) | (simp [*]; done)), H', ⟨by have := HK1.out; have := HJ6.out; first | omega | exact Nat.le_refl _⟩, ⟨by (with_reducible repeat (first | apply Kd.R_alloc | apply Kd.R_drewN | apply Kd.R_drew)); exact HO_3.out⟩, ⟨by (with_reducible repeat (first | refine blk_drewN ?_ _ | refine blk_drew ?_ | refine blk_alloc ?_ _)); exact BK143.out⟩, ⟨by repeat (first | (with_reducible first | exact HB.out | apply below_alloc | apply pw_below_drewN | apply below_drew1 | refine below_set ?_ GE143.out) | exact HB.out)⟩⟩
                    · rw [if_neg c20] at H
                      exact absurd H (by simp)
                  · rw [if_neg c19] at H
                    have c19b0 : decide (x6_6 < (x3_1.length : Int)) = false := decide_eq_false c19
                    clear c19
                    (first | rw [c19b0] | (simp only [i64_w, i32_w]; rw [c19b0]) | skip)
                    have H' := Aside0.mk H
                    clear H
                    obtain ⟨Ao23, co23, eo23⟩ := Kd.R_slice HO_3.out
                    subst eo23
                    go_wp2
                    repeat (go_quiet (fail); try go_wp2)
                    go_meet
                    case rel => exact ⟨_, (false), (by first | rfl | (simp; done) | (simp [*]; done)), H', ⟨by have := HK1.out; have := HJ6.out; first | omega | exact Nat.le_refl _⟩, ⟨by (with_reducible repeat (first | apply Kd.R_alloc | apply Kd.R_drewN | apply Kd.R_drew)); exact HO_3.out⟩, ⟨by (with_reducible repeat (first | refine blk_drewN ?_ _ | refine blk_drew ?_ | refine blk_alloc ?_ _)); exact BK143.out⟩, ⟨by repeat (first | (with_reducible first | exact HB.out | apply below_alloc | apply pw_below_drewN | apply below_drew1 | refine below_set ?_ GE143.out) | exact HB.out)⟩⟩
                case rest =>
                  clear HC18
                  try clear c1
                  try clear p1
                  try clear q1
                  try clear hx1
                  try clear c2
                  try clear p2
                  try clear c4
                  try clear c4b0
                  try clear c5
                  try clear c5b0
                  try clear c6
                  try clear c6b0
                  try clear p6
                  try clear c10
                  try clear c10b0
                  try clear c11
                  try clear c11b0
                  try clear c12
                  try clear c12b0
                  try clear p14
                  try clear q14
                  try clear hx14
                  try clear c19
                  try clear c19b0
                  try clear c20
                  try clear c20b0
                  try clear hcz14_0
                  try clear hcz14_1
                  try clear hcz14_2
                  try clear hcz14_3
                  try clear hcz14_4
                  try clear hcz14_5
                  try clear hcz14_6
                  try clear hcz16_0
                  try clear hcz16_1
                  try clear hcz16_2
                  try clear hcz16_3
                  try clear hcz16_4
                  try clear hcz16_5
                  try clear hcz16_6
                  try clear hcz22_0
                  try clear hcz22_1
                  try clear hcz22_2
                  try clear hcz22_3
                  try clear hcz22_4
                  try clear hcz22_5
                  try clear hcz22_6
                  try clear hcz9_0
                  try clear hcz9_1
                  try clear hcz9_2
                  try clear hcz9_3
                  try clear hcz9_4
                  try clear hcz9_5
                  try clear hcz9_6
                  try clear hfz14_0
                  try clear hfz14_1
                  try clear hfz14_2
                  try clear hfz14_3
                  try clear hfz14_4
                  try clear hfz14_5
                  try clear hfz14_6
                  try clear hfz16_0
                  try clear hfz16_1
                  try clear hfz16_2
                  try clear hfz16_3
                  try clear hfz16_4
                  try clear hfz16_5
                  try clear hfz16_6
                  try clear hfz22_0
                  try clear hfz22_1
                  try clear hfz22_2
                  try clear hfz22_3
                  try clear hfz22_4
                  try clear hfz22_5
                  try clear hfz22_6
                  try clear hfz9_0
                  try clear hfz9_1
                  try clear hfz9_2
                  try clear hfz9_3
                  try clear hfz9_4
                  try clear hfz9_5
                  try clear hfz9_6
                  try clear hx142_0
                  try clear hx142_1
                  try clear hx142_2
                  try clear hx142_3
                  try clear hx142_4
                  try clear hx142_5
                  try clear hx142_6
                  try clear hx144_0
                  try clear hx144_1
                  try clear hx144_2
                  try clear hx144_3
                  try clear hx144_4
                  try clear hx144_5
                  try clear hx144_6
                  try clear hx145_0
                  try clear hx145_1
                  try clear hx145_2
                  try clear hx145_3
                  try clear hx145_4
                  try clear hx145_5
                  try clear hx145_6
                  try clear p1
                  try clear p14
                  try clear p142
                  try clear p144
                  try clear p145
                  try clear p2
                  try clear p6
                  try clear q1
                  try clear q14
                  try clear q142
                  try clear q144
                  try clear q145
                  obtain ⟨kq, x44_17, rfl, HA, HJ17, HO_3, BK143, HB⟩ := hcut
                  cases kq with
                  | zero => exact absurd HA.out (by simp [spec_CanonNotes.j3])
                  | succ kj17 =>
                    have H := HA.out
                    clear HA
                    simp only [spec_CanonNotes.j3] at H
                    by_cases c24 : x44_17 = true
                    · subst c24
                      have H1 : (spec_CanonNotes.l0 kj17 x3_1 l0 (l0.length : Int) (wrap64 (x11_1 + 1))) = some r := by rw [if_pos rfl] at H; exact H
                      clear H
                      have H := H1
                      clear H1
                      have H' := Aside0.mk H
                      clear H
                      go_wp2
                      repeat (go_quiet (fail); try go_wp2)
                      go_roundg kj17
                      case measure => have := HK1.out; have := HJ6.out; have := HJ17.out; omega
                      case rel => exact ⟨(x3_1), (wrap64 (x11_1 + 1)), (by first | rfl | (simp; done) | (simp [*]; done)), H', ⟨by have := HK1.out; have := HJ6.out; have := HJ17.out; omega⟩, ⟨by (with_reducible repeat (first | apply Kd.R_alloc | apply Kd.R_drewN | apply Kd.R_drew)); exact Kd.R_mono HO_3.out (fun _ hk => trivial)⟩, ⟨by repeat (first | (with_reducible first | exact HB.out | apply below_alloc | apply pw_below_drewN | apply below_drew1 | refine below_set ?_ GE143.out) | exact HB.out)⟩⟩
                    · replace c24 := Bool.eq_false_iff.mpr c24
                      subst c24
                      have H1 : (if x3_1.length < 2513169434916 then ((some (x3_1 ++ [(⟨0, 0, (⟨0, 0, 0, 0, 0⟩ : S71)⟩ : S97)] : List (S97))).bind fun y146 => (spec_CanonNotes.l2 kj17 y146 x6_6 (wrap64 ((y146.length : Int) - 1)) l0 (l0.length : Int) x11_1 ((rd_T97 l0 x11_1).f0) ((rd_T97 l0 x11_1).f1) ((rd_T97 l0 x11_1).f2.f0) ((rd_T97 l0 x11_1).f2.f1) ((rd_T97 l0 x11_1).f2.f2) ((rd_T97 l0 x11_1).f2.f3) ((rd_T97 l0 x11_1).f2.f4))) else (none)) = some r := by rw [if_neg (show ¬ (false = true) by decide)] at H; exact H
                      clear H
                      have H := H1
                      clear H1
                      by_cases c25 : x3_1.length < 2513169434916
                      · rw [if_pos c25] at H
                        have LMc25 := Aside0.mk c25
                        clear c25
                        obtain ⟨y146, hy146⟩ : ∃ y_ : List (S97), y_ = (x3_1 ++ [(⟨0, 0, (⟨0, 0, 0, 0, 0⟩ : S71)⟩ : S97)]) := ⟨_, rfl⟩
                        replace H : (spec_CanonNotes.l2 kj17 y146 x6_6 (wrap64 ((y146.length : Int) - 1)) l0 (l0.length : Int) x11_1 ((rd_T97 l0 x11_1).f0) ((rd_T97 l0 x11_1).f1) ((rd_T97 l0 x11_1).f2.f0) ((rd_T97 l0 x11_1).f2.f1) ((rd_T97 l0 x11_1).f2.f2) ((rd_T97 l0 x11_1).f2.f3) ((rd_T97 l0 x11_1).f2.f4)) = some r := by first | (rw [hy146]; with_reducible exact H) | (have H2_ := (Option.bind_some _ _).symm.trans H; rw [hy146]; with_reducible exact H2_) | (have H2_ := (Option.bind_some _ _).symm.trans H; with_reducible exact H2_) | with_reducible exact H | (rw [hy146]; exact H) | exact H
                        have Ny146 := Aside0.mk hy146
                        clear hy146
                        have H' := Aside0.mk H
                        clear H
                        go_wp2_with (first | ((with_reducible refine gate_builtin (b := .append) (xs := #[.tmp 45, .tmp 47]) rfl ?_); at_builtin; refine Kd.R_append k97 (w0 := w) w.heap.size rfl (.tmp 45) (.tmp 47) 36 97 (.agg #[(.int .i64 0), (.int .i64 0), (.int .i64 0), (.int .i64 0), (.int .i64 0), (.int .i64 0), (.int .i64 0)]) 56 rfl Try.underlying36 info97 rfl (by decide) (by omega) u3 x3_1 (⟨0, 0, (⟨0, 0, 0, 0, 0⟩ : S71)⟩ : S97) [.int .i64 0, .int .i64 0, .int .i64 0, .int .i64 0, .int .i64 0, .int .i64 0, .int .i64 0] (fun k_ => k_ ≠ gb143) (fun _ => False) rfl rfl ?aP (fun _ hk => hk.elim) ?aF ?aO ?aB ?aS ?aL ?_; (case aP => exact k97_mkM _ _ _ (⟨0, 0, (⟨0, 0, 0, 0, 0⟩ : S71)⟩ : S97)); (case aB => exact (by repeat (first | (with_reducible first | exact HB.out | apply below_alloc | apply pw_below_drewN | apply below_drew1 | refine below_set ?_ GE143.out) | exact HB.out))); (case aF => exact (fun k_ hk => Kd.freshB (g := gb143) (o := .cells #[.int .i64 ((rd_T97 l0 x11_1).f0), .int .i64 ((rd_T97 l0 x11_1).f1), .int .i64 ((rd_T97 l0 x11_1).f2.f0), .int .i64 ((rd_T97 l0 x11_1).f2.f1), .int .i64 ((rd_T97 l0 x11_1).f2.f2), .int .i64 ((rd_T97 l0 x11_1).f2.f3), .int .i64 ((rd_T97 l0 x11_1).f2.f4)] 97 (0, 0)) (by (with_reducible repeat (first | refine blk_drewN ?_ _ | refine blk_drew ?_ | refine blk_alloc ?_ _)); exact BK143.out) k_ hk)); (case aO => exact (by (with_reducible repeat (first | apply Kd.R_alloc | apply Kd.R_drewN | apply Kd.R_drew)); exact HO_3.out)); (case aS => exact (below_size (by repeat (first | (with_reducible first | exact HB.out | apply below_alloc | apply pw_below_drewN | apply below_drew1 | refine below_set ?_ GE143.out) | exact HB.out)))); (case aL => have := LMc25.out; omega); intro v147 w26 ho hb hg hat; rw [← Ny146.out] at ho; have n0_ := Aside0.mk (blk_grown (g := gb143) (o := .cells #[.int .i64 ((rd_T97 l0 x11_1).f0), .int .i64 ((rd_T97 l0 x11_1).f1), .int .i64 ((rd_T97 l0 x11_1).f2.f0), .int .i64 ((rd_T97 l0 x11_1).f2.f1), .int .i64 ((rd_T97 l0 x11_1).f2.f2), .int .i64 ((rd_T97 l0 x11_1).f2.f3), .int .i64 ((rd_T97 l0 x11_1).f2.f4)] 97 (0, 0)) (by (with_reducible repeat (first | refine blk_drewN ?_ _ | refine blk_drew ?_ | refine blk_alloc ?_ _)); exact BK143.out) hg (Kd.R_away HO_3.out (fun _ hk => hk))); have n1_ := Aside0.mk (hb); have n2_ := Aside0.mk (ho); clear BK143; clear HB; clear HO_3; have BK143 := n0_; have HB := n1_; have HO148 := n2_; clear n0_ n1_ n2_; clear ho hb hg hat; obtain ⟨Ao27, co27, eo27⟩ := Kd.R_slice HO148.out; subst eo27))
                        repeat (go_quiet (first | ((with_reducible refine gate_builtin (b := .append) (xs := #[.tmp 45, .tmp 47]) rfl ?_); at_builtin; refine Kd.R_append k97 (w0 := w) w.heap.size rfl (.tmp 45) (.tmp 47) 36 97 (.agg #[(.int .i64 0), (.int .i64 0), (.int .i64 0), (.int .i64 0), (.int .i64 0), (.int .i64 0), (.int .i64 0)]) 56 rfl Try.underlying36 info97 rfl (by decide) (by omega) u3 x3_1 (⟨0, 0, (⟨0, 0, 0, 0, 0⟩ : S71)⟩ : S97) [.int .i64 0, .int .i64 0, .int .i64 0, .int .i64 0, .int .i64 0, .int .i64 0, .int .i64 0] (fun k_ => k_ ≠ gb143) (fun _ => False) rfl rfl ?aP (fun _ hk => hk.elim) ?aF ?aO ?aB ?aS ?aL ?_; (case aP => exact k97_mkM _ _ _ (⟨0, 0, (⟨0, 0, 0, 0, 0⟩ : S71)⟩ : S97)); (case aB => exact (by repeat (first | (with_reducible first | exact HB.out | apply below_alloc | apply pw_below_drewN | apply below_drew1 | refine below_set ?_ GE143.out) | exact HB.out))); (case aF => exact (fun k_ hk => Kd.freshB (g := gb143) (o := .cells #[.int .i64 ((rd_T97 l0 x11_1).f0), .int .i64 ((rd_T97 l0 x11_1).f1), .int .i64 ((rd_T97 l0 x11_1).f2.f0), .int .i64 ((rd_T97 l0 x11_1).f2.f1), .int .i64 ((rd_T97 l0 x11_1).f2.f2), .int .i64 ((rd_T97 l0 x11_1).f2.f3), .int .i64 ((rd_T97 l0 x11_1).f2.f4)] 97 (0, 0)) (by (with_reducible repeat (first | refine blk_drewN ?_ _ | refine blk_drew ?_ | refine blk_alloc ?_ _)); exact BK143.out) k_ hk)); (case aO => exact (by (with_reducible repeat (first | apply Kd.R_alloc | apply Kd.R_drewN | apply Kd.R_drew)); exact HO_3.out)); (case aS => exact (below_size (by repeat (first | (with_reducible first | exact HB.out | apply below_alloc | apply pw_below_drewN | apply below_drew1 | refine below_set ?_ GE143.out) | exact HB.out)))); (case aL => have := LMc25.out; omega); intro v147 w26 ho hb hg hat; rw [← Ny146.out] at ho; have n0_ := Aside0.mk (blk_grown (g := gb143) (o := .cells #[.int .i64 ((rd_T97 l0 x11_1).f0), .int .i64 ((rd_T97 l0 x11_1).f1), .int .i64 ((rd_T97 l0 x11_1).f2.f0), .int .i64 ((rd_T97 l0 x11_1).f2.f1), .int .i64 ((rd_T97 l0 x11_1).f2.f2), .int .i64 ((rd_T97 l0 x11_1).f2.f3), .int .i64 ((rd_T97 l0 x11_1).f2.f4)] 97 (0, 0)) (by (with_reducible repeat (first | refine blk_drewN ?_ _ | refine blk_drew ?_ | refine blk_alloc ?_ _)); exact BK143.out) hg (Kd.R_away HO_3.out (fun _ hk => hk))); have n1_ := Aside0.mk (hb); have n2_ := Aside0.mk (ho); clear BK143; clear HB; clear HO_3; have BK143 := n0_; have HB := n1_; have HO148 := n2_; clear n0_ n1_ n2_; clear ho hb hg hat; obtain ⟨Ao27, co27, eo27⟩ := Kd.R_slice HO148.out; subst eo27)); try go_wp2_with (first | ((with_reducible refine gate_builtin (b := .append) (xs := #[.tmp 45, .tmp 47]) rfl ?_); at_builtin; refine Kd.R_append k97 (w0 := w) w.heap.size rfl (.tmp 45) (.tmp 47) 36 97 (.agg #[(.int .i64 0), (.int .i64 0), (.int .i64 0), (.int .i64 0), (.int .i64 0), (.int .i64 0), (.int .i64 0)]) 56 rfl Try.underlying36 info97 rfl (by decide) (by omega) u3 x3_1 (⟨0, 0, (⟨0, 0, 0, 0, 0⟩ : S71)⟩ : S97) [.int .i64 0, .int .i64 0, .int .i64 0, .int .i64 0, .int .i64 0, .int .i64 0, .int .i64 0] (fun k_ => k_ ≠ gb143) (fun _ => False) rfl rfl ?aP (fun _ hk => hk.elim) ?aF ?aO ?aB ?aS ?aL ?_; (case aP => exact k97_mkM _ _ _ (⟨0, 0, (⟨0, 0, 0, 0, 0⟩ : S71)⟩ : S97)); (case aB => exact (by repeat (first | (with_reducible first | exact HB.out | apply below_alloc | apply pw_below_drewN | apply below_drew1 | refine below_set ?_ GE143.out) | exact HB.out))); (case aF => exact (fun k_ hk => Kd.freshB (g := gb143) (o := .cells #[.int .i64 ((rd_T97 l0 x11_1).f0), .int .i64 ((rd_T97 l0 x11_1).f1), .int .i64 ((rd_T97 l0 x11_1).f2.f0), .int .i64 ((rd_T97 l0 x11_1).f2.f1), .int .i64 ((rd_T97 l0 x11_1).f2.f2), .int .i64 ((rd_T97 l0 x11_1).f2.f3), .int .i64 ((rd_T97 l0 x11_1).f2.f4)] 97 (0, 0)) (by (with_reducible repeat (first | refine blk_drewN ?_ _ | refine blk_drew ?_ | refine blk_alloc ?_ _)); exact BK143.out) k_ hk)); (case aO => exact (by (with_reducible repeat (first | apply Kd.R_alloc | apply Kd.R_drewN | apply Kd.R_drew)); exact HO_3.out)); (case aS => exact (below_size (by repeat (first | (with_reducible first | exact HB.out | apply below_alloc | apply pw_below_drewN | apply below_drew1 | refine below_set ?_ GE143.out) | exact HB.out)))); (case aL => have := LMc25.out; omega); intro v147 w26 ho hb hg hat; rw [← Ny146.out] at ho; have n0_ := Aside0.mk (blk_grown (g := gb143) (o := .cells #[.int .i64 ((rd_T97 l0 x11_1).f0), .int .i64 ((rd_T97 l0 x11_1).f1), .int .i64 ((rd_T97 l0 x11_1).f2.f0), .int .i64 ((rd_T97 l0 x11_1).f2.f1), .int .i64 ((rd_T97 l0 x11_1).f2.f2), .int .i64 ((rd_T97 l0 x11_1).f2.f3), .int .i64 ((rd_T97 l0 x11_1).f2.f4)] 97 (0, 0)) (by (with_reducible repeat (first | refine blk_drewN ?_ _ | refine blk_drew ?_ | refine blk_alloc ?_ _)); exact BK143.out) hg (Kd.R_away HO_3.out (fun _ hk => hk))); have n1_ := Aside0.mk (hb); have n2_ := Aside0.mk (ho); clear BK143; clear HB; clear HO_3; have BK143 := n0_; have HB := n1_; have HO148 := n2_; clear n0_ n1_ n2_; clear ho hb hg hat; obtain ⟨Ao27, co27, eo27⟩ := Kd.R_slice HO148.out; subst eo27)))
                        go_loopg [7] kj17 (fun kq v7 w' => ∃ (x3_4 : List (S97)) (x7_4 : Int) (x144000_4 : Int) (x144001_4 : Int) (x144002_4 : Int) (x144003_4 : Int) (x144004_4 : Int) (x144005_4 : Int) (x144006_4 : Int), v7 = .int .i64 x7_4 ∧ Aside0 (spec_CanonNotes.l2 kq x3_4 x6_6 x7_4 l0 (l0.length : Int) x11_1 x144000_4 x144001_4 x144002_4 x144003_4 x144004_4 x144005_4 x144006_4 = some r) ∧ Aside0 (kq ≤ kj17) ∧ Aside0 (Kd.R k97 97 w' w.heap.size (fun k_ => k_ ≠ gb143) (.slice Ao27 y146.length co27) x3_4) ∧ Aside0 (w'.heap[gb143]? = some (.cells #[.int .i64 x144000_4, .int .i64 x144001_4, .int .i64 x144002_4, .int .i64 x144003_4, .int .i64 x144004_4, .int .i64 x144005_4, .int .i64 x144006_4] 97 (0, 0))) ∧ Aside0 (Below w.heap.size w w'))
                        case atStart => exact ⟨(y146), (wrap64 ((y146.length : Int) - 1)), (((rd_T97 l0 x11_1).f0)), (((rd_T97 l0 x11_1).f1)), (((rd_T97 l0 x11_1).f2.f0)), (((rd_T97 l0 x11_1).f2.f1)), (((rd_T97 l0 x11_1).f2.f2)), (((rd_T97 l0 x11_1).f2.f3)), (((rd_T97 l0 x11_1).f2.f4)), (by first | rfl | (simp; done) | (simp [*]; done)), H', ⟨Nat.le_refl _⟩, ⟨by (with_reducible repeat (first | apply Kd.R_alloc | apply Kd.R_drewN | apply Kd.R_drew)); exact HO148.out⟩, ⟨by (with_reducible repeat (first | refine blk_drewN ?_ _ | refine blk_drew ?_ | refine blk_alloc ?_ _)); exact BK143.out⟩, ⟨by repeat (first | (with_reducible first | exact HB.out | apply below_alloc | apply pw_below_drewN | apply below_drew1 | refine below_set ?_ GE143.out) | exact HB.out)⟩⟩
                        case round =>
                          clear H'
                          try clear c1
                          try clear p1
                          try clear q1
                          try clear hx1
                          try clear c2
                          try clear p2
                          try clear c4
                          try clear c4b0
                          try clear c5
                          try clear c5b0
                          try clear c6
                          try clear c6b0
                          try clear p6
                          try clear c10
                          try clear c10b0
                          try clear c11
                          try clear c11b0
                          try clear c12
                          try clear c12b0
                          try clear p14
                          try clear q14
                          try clear hx14
                          try clear c19
                          try clear c19b0
                          try clear c20
                          try clear c20b0
                          try clear c24
                          try clear c25
                          try clear hcz14_0
                          try clear hcz14_1
                          try clear hcz14_2
                          try clear hcz14_3
                          try clear hcz14_4
                          try clear hcz14_5
                          try clear hcz14_6
                          try clear hcz16_0
                          try clear hcz16_1
                          try clear hcz16_2
                          try clear hcz16_3
                          try clear hcz16_4
                          try clear hcz16_5
                          try clear hcz16_6
                          try clear hcz22_0
                          try clear hcz22_1
                          try clear hcz22_2
                          try clear hcz22_3
                          try clear hcz22_4
                          try clear hcz22_5
                          try clear hcz22_6
                          try clear hcz9_0
                          try clear hcz9_1
                          try clear hcz9_2
                          try clear hcz9_3
                          try clear hcz9_4
                          try clear hcz9_5
                          try clear hcz9_6
                          try clear hfz14_0
                          try clear hfz14_1
                          try clear hfz14_2
                          try clear hfz14_3
                          try clear hfz14_4
                          try clear hfz14_5
                          try clear hfz14_6
                          try clear hfz16_0
                          try clear hfz16_1
                          try clear hfz16_2
                          try clear hfz16_3
                          try clear hfz16_4
                          try clear hfz16_5
                          try clear hfz16_6
                          try clear hfz22_0
                          try clear hfz22_1
                          try clear hfz22_2
                          try clear hfz22_3
                          try clear hfz22_4
                          try clear hfz22_5
                          try clear hfz22_6
                          try clear hfz9_0
                          try clear hfz9_1
                          try clear hfz9_2
                          try clear hfz9_3
                          try clear hfz9_4
                          try clear hfz9_5
                          try clear hfz9_6
                          try clear hx142_0
                          try clear hx142_1
                          try clear hx142_2
                          try clear hx142_3
                          try clear hx142_4
                          try clear hx142_5
                          try clear hx142_6
                          try clear hx144_0
                          try clear hx144_1
                          try clear hx144_2
                          try clear hx144_3
                          try clear hx144_4
                          try clear hx144_5
                          try clear hx144_6
                          try clear hx145_0
                          try clear hx145_1
                          try clear hx145_2
                          try clear hx145_3
                          try clear hx145_4
                          try clear hx145_5
                          try clear hx145_6
                          try clear p1
                          try clear p14
                          try clear p142
                          try clear p144
                          try clear p145
                          try clear p2
                          try clear p6
                          try clear q1
                          try clear q14
                          try clear q142
                          try clear q144
                          try clear q145
                          obtain ⟨x3_4, x7_4, x144000_4, x144001_4, x144002_4, x144003_4, x144004_4, x144005_4, x144006_4, rfl, HA, HK4, HO_3, BK143, HB⟩ := hrel
                          have hl3_4 := (Kd.R_reads' HO_3.out).1
                          rw [hl3_4] at HO_3
                          (try simp only [hl3_4])
                          (try simp only [hl3_4] at BK143)
                          cases gk with
                          | zero => exact absurd HA.out (by simp [spec_CanonNotes.l2])
                          | succ k4 =>
                            have H := HA.out
                            clear HA
                            simp only [spec_CanonNotes.l2] at H
                            by_cases c28 : x7_4 > x6_6
                            · rw [if_pos c28] at H
                              have c28b0 : decide (x6_6 < x7_4) = true := decide_eq_true c28
                              clear c28
                              obtain ⟨ji29, hji29⟩ : ∃ j_ : Int, (wrap64 (x7_4 - 1)) = j_ := ⟨_, rfl⟩
                              replace H : (if 0 ≤ (ji29) then (if (ji29) < (x3_4.length : Int) then (if 0 ≤ x7_4 then (if x7_4 < (x3_4.length : Int) then (spec_CanonNotes.l2 k4 (x3_4.set (x7_4 : Int).toNat (⟨(rd_T97 x3_4 (ji29)).f0, (rd_T97 x3_4 (ji29)).f1, (⟨(rd_T97 x3_4 (ji29)).f2.f0, (rd_T97 x3_4 (ji29)).f2.f1, (rd_T97 x3_4 (ji29)).f2.f2, (rd_T97 x3_4 (ji29)).f2.f3, (rd_T97 x3_4 (ji29)).f2.f4⟩ : S71)⟩ : S97)) x6_6 ji29 l0 (l0.length : Int) x11_1 x144000_4 x144001_4 x144002_4 x144003_4 x144004_4 x144005_4 x144006_4) else (none)) else (none)) else (none)) else (none)) = some r := by first | (rw [hji29] at H; exact H) | (simp only [hji29] at H ⊢; exact H)
                              have hji29w : (IntKind.i64.wrap (x7_4 - 1)) = ji29 := (i64_w _).trans hji29
                              by_cases c30 : 0 ≤ (ji29)
                              · rw [if_pos c30] at H
                                have c30b0 : decide (0 ≤ (ji29)) = true := decide_eq_true c30
                                clear c30
                                by_cases c31 : (ji29) < (x3_4.length : Int)
                                · rw [if_pos c31] at H
                                  have c31b0 : decide ((ji29) < (x3_4.length : Int)) = true := decide_eq_true c31
                                  clear c31
                                  by_cases c32 : 0 ≤ x7_4
                                  · rw [if_pos c32] at H
                                    have c32b0 : decide (0 ≤ x7_4) = true := decide_eq_true c32
                                    clear c32
                                    by_cases c33 : x7_4 < (x3_4.length : Int)
                                    · rw [if_pos c33] at H
                                      have c33b0 : decide (x7_4 < (x3_4.length : Int)) = true := decide_eq_true c33
                                      clear c33
                                      obtain ⟨y150, hy150⟩ : ∃ y_ : List (S97), y_ = (x3_4.set (x7_4 : Int).toNat (⟨(rd_T97 x3_4 (ji29)).f0, (rd_T97 x3_4 (ji29)).f1, (⟨(rd_T97 x3_4 (ji29)).f2.f0, (rd_T97 x3_4 (ji29)).f2.f1, (rd_T97 x3_4 (ji29)).f2.f2, (rd_T97 x3_4 (ji29)).f2.f3, (rd_T97 x3_4 (ji29)).f2.f4⟩ : S71)⟩ : S97)) := ⟨_, rfl⟩
                                      replace H : (spec_CanonNotes.l2 k4 y150 x6_6 ji29 l0 (l0.length : Int) x11_1 x144000_4 x144001_4 x144002_4 x144003_4 x144004_4 x144005_4 x144006_4) = some r := by first | (rw [hy150]; with_reducible exact H) | (have H2_ := (Option.bind_some _ _).symm.trans H; rw [hy150]; with_reducible exact H2_) | (have H2_ := (Option.bind_some _ _).symm.trans H; with_reducible exact H2_) | with_reducible exact H | (rw [hy150]; exact H) | exact H
                                      have Ny150 := Aside0.mk hy150
                                      clear hy150
                                      have H' := Aside0.mk H
                                      clear H
                                      have p149 : 0 ≤ ((ji29) : Int) := of_decide_eq_true (by first | (with_reducible assumption) | assumption)
                                      have q149 : (ji29) < (x3_4.length : Int) := of_decide_eq_true (by first | (with_reducible assumption) | assumption)
                                      obtain ⟨ad149, e149, hx149_0, hx149_1, hx149_2, hx149_3, hx149_4, hx149_5, hx149_6⟩ := at_T97 (Kd.R_reads' HO_3.out).2.2 (ji29) p149 q149
                                      cases e149
                                      replace p149 := eq_true p149
                                      replace q149 := eq_true q149
                                      have p34 : 0 ≤ (x7_4 : Int) := of_decide_eq_true (by first | (with_reducible assumption) | assumption)
                                      have q34 : (x7_4 : Int) < ((x3_4.length : Int) : Int) := of_decide_eq_true (by first | (with_reducible assumption) | assumption)
                                      obtain ⟨go34, co34, eo34, gb34, gl34, cl34, HG34⟩ := Kd.R_form HO_3.out (by omega)
                                      (first | cases eo34 | (injection eo34 with ea_ en_ ec_; (first | subst ea_ | (injection ea_ with ea_; subst ea_)); subst ec_; clear en_))
                                      have GB34 := Aside0.mk gb34
                                      have GG34 := Aside0.mk HG34
                                      clear gb34 gl34 HG34
                                      (first | simp only [add_plain] at hx149_0 | skip)
                                      (first | simp only [add_plain] at hx149_1 | skip)
                                      (first | simp only [add_plain] at hx149_2 | skip)
                                      (first | simp only [add_plain] at hx149_3 | skip)
                                      (first | simp only [add_plain] at hx149_4 | skip)
                                      (first | simp only [add_plain] at hx149_5 | skip)
                                      (first | simp only [add_plain] at hx149_6 | skip)
                                      obtain ⟨ce34, hcl34, hM34, hcc34, hfr34⟩ := Kd.R_elem HO_3.out z97 (x7_4 : Int) p34 q34
                                      obtain rfl := k97_openM hM34
                                      have hx34_0 : wr.cell? ⟨go34, (x7_4 : Int).toNat * 7, none⟩ = some (.int .i64 ((rd_T97 x3_4 x7_4).f0)) := hcc34 0 _ rfl
                                      have hx34_1 : wr.cell? ⟨go34, (x7_4 : Int).toNat * 7 + 1, none⟩ = some (.int .i64 ((rd_T97 x3_4 x7_4).f1)) := hcc34 1 _ rfl
                                      have hx34_2 : wr.cell? ⟨go34, (x7_4 : Int).toNat * 7 + 2, none⟩ = some (.int .i64 ((rd_T97 x3_4 x7_4).f2.f0)) := hcc34 2 _ rfl
                                      have hx34_3 : wr.cell? ⟨go34, (x7_4 : Int).toNat * 7 + 3, none⟩ = some (.int .i64 ((rd_T97 x3_4 x7_4).f2.f1)) := hcc34 3 _ rfl
                                      have hx34_4 : wr.cell? ⟨go34, (x7_4 : Int).toNat * 7 + 4, none⟩ = some (.int .i64 ((rd_T97 x3_4 x7_4).f2.f2)) := hcc34 4 _ rfl
                                      have hx34_5 : wr.cell? ⟨go34, (x7_4 : Int).toNat * 7 + 5, none⟩ = some (.int .i64 ((rd_T97 x3_4 x7_4).f2.f3)) := hcc34 5 _ rfl
                                      have hx34_6 : wr.cell? ⟨go34, (x7_4 : Int).toNat * 7 + 6, none⟩ = some (.int .i64 ((rd_T97 x3_4 x7_4).f2.f4)) := hcc34 6 _ rfl
                                      have hf34_0 : wr.frozen? ⟨go34, (x7_4 : Int).toNat * 7, none⟩ = false := hfr34 0
                                      have hf34_1 : wr.frozen? ⟨go34, (x7_4 : Int).toNat * 7 + 1, none⟩ = false := hfr34 1
                                      have hf34_2 : wr.frozen? ⟨go34, (x7_4 : Int).toNat * 7 + 2, none⟩ = false := hfr34 2
                                      have hf34_3 : wr.frozen? ⟨go34, (x7_4 : Int).toNat * 7 + 3, none⟩ = false := hfr34 3
                                      have hf34_4 : wr.frozen? ⟨go34, (x7_4 : Int).toNat * 7 + 4, none⟩ = false := hfr34 4
                                      have hf34_5 : wr.frozen? ⟨go34, (x7_4 : Int).toNat * 7 + 5, none⟩ = false := hfr34 5
                                      have hf34_6 : wr.frozen? ⟨go34, (x7_4 : Int).toNat * 7 + 6, none⟩ = false := hfr34 6
                                      clear hcl34 hcc34 hfr34 hM34
                                      replace p34 := eq_true p34
                                      replace q34 := eq_true q34
                                      have HX35 := Aside0.mk (show Kd.R k97 97 wr w.heap.size (fun k_ => k_ ≠ gb143) (.slice (some ⟨go34, 0, none⟩) x3_4.length co27) x3_4 from (by (with_reducible repeat (first | apply Kd.R_alloc | apply Kd.R_drewN | apply Kd.R_drew)); exact HO_3.out))
                                      obtain ⟨ce35, hcl35, hM35, hcc35, hfr35⟩ := Kd.R_elem HX35.out z97 (x7_4 : Int) (of_decide_eq_true (by first | (with_reducible assumption) | assumption)) (by have h_ : (x7_4 : Int) < ((x3_4.length : Int) : Int) := of_decide_eq_true (by first | (with_reducible assumption) | assumption); first | exact h_ | (have e_ := (Kd.R_reads' HO_3.out).1; omega) | simpa using h_)
                                      obtain rfl := k97_openM hM35
                                      have HP35 := Kd.R_seg HX35.out (x7_4 : Int) (of_decide_eq_true (by first | (with_reducible assumption) | assumption)) (by have h_ : (x7_4 : Int) < ((x3_4.length : Int) : Int) := of_decide_eq_true (by first | (with_reducible assumption) | assumption); first | exact h_ | (have e_ := (Kd.R_reads' HO_3.out).1; omega) | simpa using h_) (seg := [.int .i64 ((rd_T97 x3_4 (ji29)).f0), .int .i64 ((rd_T97 x3_4 (ji29)).f1), .int .i64 ((rd_T97 x3_4 (ji29)).f2.f0), .int .i64 ((rd_T97 x3_4 (ji29)).f2.f1), .int .i64 ((rd_T97 x3_4 (ji29)).f2.f2), .int .i64 ((rd_T97 x3_4 (ji29)).f2.f3), .int .i64 ((rd_T97 x3_4 (ji29)).f2.f4)]) (j := 0) hcl35 hcc35 (show 7 ≤ 7 from by decide) (x' := (⟨(rd_T97 x3_4 (ji29)).f0, (rd_T97 x3_4 (ji29)).f1, (⟨(rd_T97 x3_4 (ji29)).f2.f0, (rd_T97 x3_4 (ji29)).f2.f1, (rd_T97 x3_4 (ji29)).f2.f2, (rd_T97 x3_4 (ji29)).f2.f3, (rd_T97 x3_4 (ji29)).f2.f4⟩ : S71)⟩ : S97)) (k97_mkM _ _ _ (⟨(rd_T97 x3_4 (ji29)).f0, (rd_T97 x3_4 (ji29)).f1, (⟨(rd_T97 x3_4 (ji29)).f2.f0, (rd_T97 x3_4 (ji29)).f2.f1, (rd_T97 x3_4 (ji29)).f2.f2, (rd_T97 x3_4 (ji29)).f2.f3, (rd_T97 x3_4 (ji29)).f2.f4⟩ : S71)⟩ : S97) ) (fun _ hk => hk)
                                      have hx35_0 := hcc35 0 _ rfl
                                      (try simp only [show (k97).sz = 7 from rfl, Nat.mul_one, Nat.add_zero] at hx35_0)
                                      have hf35_0 := hfr35 0
                                      (try simp only [show (k97).sz = 7 from rfl, Nat.mul_one, Nat.add_zero] at hf35_0)
                                      have hx35_1 := hcc35 1 _ rfl
                                      (try simp only [show (k97).sz = 7 from rfl, Nat.mul_one, Nat.add_zero] at hx35_1)
                                      have hf35_1 := hfr35 1
                                      (try simp only [show (k97).sz = 7 from rfl, Nat.mul_one, Nat.add_zero] at hf35_1)
                                      have hx35_2 := hcc35 2 _ rfl
                                      (try simp only [show (k97).sz = 7 from rfl, Nat.mul_one, Nat.add_zero] at hx35_2)
                                      have hf35_2 := hfr35 2
                                      (try simp only [show (k97).sz = 7 from rfl, Nat.mul_one, Nat.add_zero] at hf35_2)
                                      have hx35_3 := hcc35 3 _ rfl
                                      (try simp only [show (k97).sz = 7 from rfl, Nat.mul_one, Nat.add_zero] at hx35_3)
                                      have hf35_3 := hfr35 3
                                      (try simp only [show (k97).sz = 7 from rfl, Nat.mul_one, Nat.add_zero] at hf35_3)
                                      have hx35_4 := hcc35 4 _ rfl
                                      (try simp only [show (k97).sz = 7 from rfl, Nat.mul_one, Nat.add_zero] at hx35_4)
                                      have hf35_4 := hfr35 4
                                      (try simp only [show (k97).sz = 7 from rfl, Nat.mul_one, Nat.add_zero] at hf35_4)
                                      have hx35_5 := hcc35 5 _ rfl
                                      (try simp only [show (k97).sz = 7 from rfl, Nat.mul_one, Nat.add_zero] at hx35_5)
                                      have hf35_5 := hfr35 5
                                      (try simp only [show (k97).sz = 7 from rfl, Nat.mul_one, Nat.add_zero] at hf35_5)
                                      have hx35_6 := hcc35 6 _ rfl
                                      (try simp only [show (k97).sz = 7 from rfl, Nat.mul_one, Nat.add_zero] at hx35_6)
                                      have hf35_6 := hfr35 6
                                      (try simp only [show (k97).sz = 7 from rfl, Nat.mul_one, Nat.add_zero] at hf35_6)
                                      clear hcl35 hcc35 hfr35 hM35
                                      go_wp2_with (first | ((with_reducible refine gate_store (t := 97) (p := 64) rfl ?_); (try (rw [drewN_self wr]; generalize hq_ : World.drewN wr _ = wr; have n0_ := Aside0.mk (Kd.R_at hq_ HO_3.out); have n1_ := Aside0.mk (blk_at hq_ BK143.out); have n2_ := Aside0.mk (below_at hq_ HB.out); clear hq_ HO_3 BK143 HB; have HO_3 := n0_; have BK143 := n1_; have HB := n2_; clear n0_ n1_ n2_; (try (have HX35 := Aside0.mk (show Kd.R k97 97 wr w.heap.size (fun k_ => k_ ≠ gb143) (.slice (some ⟨go34, 0, none⟩) x3_4.length co27) x3_4 from (by (with_reducible repeat (first | apply Kd.R_alloc | apply Kd.R_drewN | apply Kd.R_drew)); exact HO_3.out)))); (try (obtain ⟨ce35, hcl35, hM35, hcc35, hfr35⟩ := Kd.R_elem HX35.out z97 (x7_4 : Int) (of_decide_eq_true (by first | (with_reducible assumption) | assumption)) (by have h_ : (x7_4 : Int) < ((x3_4.length : Int) : Int) := of_decide_eq_true (by first | (with_reducible assumption) | assumption); first | exact h_ | (have e_ := (Kd.R_reads' HO_3.out).1; omega) | simpa using h_))); (try (obtain rfl := k97_openM hM35)); (try (have HP35 := Kd.R_seg HX35.out (x7_4 : Int) (of_decide_eq_true (by first | (with_reducible assumption) | assumption)) (by have h_ : (x7_4 : Int) < ((x3_4.length : Int) : Int) := of_decide_eq_true (by first | (with_reducible assumption) | assumption); first | exact h_ | (have e_ := (Kd.R_reads' HO_3.out).1; omega) | simpa using h_) (seg := [.int .i64 ((rd_T97 x3_4 (ji29)).f0), .int .i64 ((rd_T97 x3_4 (ji29)).f1), .int .i64 ((rd_T97 x3_4 (ji29)).f2.f0), .int .i64 ((rd_T97 x3_4 (ji29)).f2.f1), .int .i64 ((rd_T97 x3_4 (ji29)).f2.f2), .int .i64 ((rd_T97 x3_4 (ji29)).f2.f3), .int .i64 ((rd_T97 x3_4 (ji29)).f2.f4)]) (j := 0) hcl35 hcc35 (show 7 ≤ 7 from by decide) (x' := (⟨(rd_T97 x3_4 (ji29)).f0, (rd_T97 x3_4 (ji29)).f1, (⟨(rd_T97 x3_4 (ji29)).f2.f0, (rd_T97 x3_4 (ji29)).f2.f1, (rd_T97 x3_4 (ji29)).f2.f2, (rd_T97 x3_4 (ji29)).f2.f3, (rd_T97 x3_4 (ji29)).f2.f4⟩ : S71)⟩ : S97)) (k97_mkM _ _ _ (⟨(rd_T97 x3_4 (ji29)).f0, (rd_T97 x3_4 (ji29)).f1, (⟨(rd_T97 x3_4 (ji29)).f2.f0, (rd_T97 x3_4 (ji29)).f2.f1, (rd_T97 x3_4 (ji29)).f2.f2, (rd_T97 x3_4 (ji29)).f2.f3, (rd_T97 x3_4 (ji29)).f2.f4⟩ : S71)⟩ : S97) ) (fun _ hk => hk))); (try (have hx35_0 := hcc35 0 _ rfl)); (try (try simp only [show (k97).sz = 7 from rfl, Nat.mul_one, Nat.add_zero] at hx35_0)); (try (have hf35_0 := hfr35 0)); (try (try simp only [show (k97).sz = 7 from rfl, Nat.mul_one, Nat.add_zero] at hf35_0)); (try (have hx35_1 := hcc35 1 _ rfl)); (try (try simp only [show (k97).sz = 7 from rfl, Nat.mul_one, Nat.add_zero] at hx35_1)); (try (have hf35_1 := hfr35 1)); (try (try simp only [show (k97).sz = 7 from rfl, Nat.mul_one, Nat.add_zero] at hf35_1)); (try (have hx35_2 := hcc35 2 _ rfl)); (try (try simp only [show (k97).sz = 7 from rfl, Nat.mul_one, Nat.add_zero] at hx35_2)); (try (have hf35_2 := hfr35 2)); (try (try simp only [show (k97).sz = 7 from rfl, Nat.mul_one, Nat.add_zero] at hf35_2)); (try (have hx35_3 := hcc35 3 _ rfl)); (try (try simp only [show (k97).sz = 7 from rfl, Nat.mul_one, Nat.add_zero] at hx35_3)); (try (have hf35_3 := hfr35 3)); (try (try simp only [show (k97).sz = 7 from rfl, Nat.mul_one, Nat.add_zero] at hf35_3)); (try (have hx35_4 := hcc35 4 _ rfl)); (try (try simp only [show (k97).sz = 7 from rfl, Nat.mul_one, Nat.add_zero] at hx35_4)); (try (have hf35_4 := hfr35 4)); (try (try simp only [show (k97).sz = 7 from rfl, Nat.mul_one, Nat.add_zero] at hf35_4)); (try (have hx35_5 := hcc35 5 _ rfl)); (try (try simp only [show (k97).sz = 7 from rfl, Nat.mul_one, Nat.add_zero] at hx35_5)); (try (have hf35_5 := hfr35 5)); (try (try simp only [show (k97).sz = 7 from rfl, Nat.mul_one, Nat.add_zero] at hf35_5)); (try (have hx35_6 := hcc35 6 _ rfl)); (try (try simp only [show (k97).sz = 7 from rfl, Nat.mul_one, Nat.add_zero] at hx35_6)); (try (have hf35_6 := hfr35 6)); (try (try simp only [show (k97).sz = 7 from rfl, Nat.mul_one, Nat.add_zero] at hf35_6)); (try (clear hcl35 hcc35 hfr35 hM35)))); refine store_event (t := 97) (p := 64) (v := ?vo_w36) (w1 := (((((((wr.setCell ⟨go34, (x7_4 : Int).toNat * 7, none⟩ (.int .i64 ((rd_T97 x3_4 (ji29)).f0))).setCell ⟨go34, (x7_4 : Int).toNat * 7 + 1, none⟩ (.int .i64 ((rd_T97 x3_4 (ji29)).f1))).setCell ⟨go34, (x7_4 : Int).toNat * 7 + 2, none⟩ (.int .i64 ((rd_T97 x3_4 (ji29)).f2.f0))).setCell ⟨go34, (x7_4 : Int).toNat * 7 + 3, none⟩ (.int .i64 ((rd_T97 x3_4 (ji29)).f2.f1))).setCell ⟨go34, (x7_4 : Int).toNat * 7 + 4, none⟩ (.int .i64 ((rd_T97 x3_4 (ji29)).f2.f2))).setCell ⟨go34, (x7_4 : Int).toNat * 7 + 5, none⟩ (.int .i64 ((rd_T97 x3_4 (ji29)).f2.f3))).setCell ⟨go34, (x7_4 : Int).toNat * 7 + 6, none⟩ (.int .i64 ((rd_T97 x3_4 (ji29)).f2.f4)))) ?hg ?ho ?hn ?hr ?_; (case ho => rfl); (case hg => rfl); (case hn => rfl); (case hr => first | (go_simp; done) | (go_simp; rfl)); intro w36 hw; have hg : wr.grownBy w36 (some go34) := (by rw [hw]; exact HP35.2); have hp_ : Kd.R k97 97 w36 w.heap.size (fun k_ => k_ ≠ gb143) (.slice (some ⟨go34, 0, none⟩) x3_4.length co27) y150 := (by rw [hw, Ny150.out]; exact HP35.1); clear HP35; have n0_ := Aside0.mk (hp_); have n1_ := Aside0.mk (blk_grown (g := gb143) (o := .cells #[.int .i64 x144000_4, .int .i64 x144001_4, .int .i64 x144002_4, .int .i64 x144003_4, .int .i64 x144004_4, .int .i64 x144005_4, .int .i64 x144006_4] 97 (0, 0)) (by (with_reducible repeat (first | refine blk_drewN ?_ _ | refine blk_drew ?_ | refine blk_alloc ?_ _)); exact BK143.out) hg (Kd.R_away HO_3.out (fun _ hk => hk))); have n2_ := Aside0.mk ((by rw [hw]; exact below_set (below_set (below_set (below_set (below_set (below_set (below_set (HB.out) GB34.out) GB34.out) GB34.out) GB34.out) GB34.out) GB34.out) GB34.out : Below w.heap.size w w36)); clear HO_3; clear BK143; clear HB; have HO_3 := n0_; have BK143 := n1_; have HB := n2_; clear n0_ n1_ n2_; clear hg hw hp_))
                                      repeat (go_quiet (first | ((with_reducible refine gate_store (t := 97) (p := 64) rfl ?_); (try (rw [drewN_self wr]; generalize hq_ : World.drewN wr _ = wr; have n0_ := Aside0.mk (Kd.R_at hq_ HO_3.out); have n1_ := Aside0.mk (blk_at hq_ BK143.out); have n2_ := Aside0.mk (below_at hq_ HB.out); clear hq_ HO_3 BK143 HB; have HO_3 := n0_; have BK143 := n1_; have HB := n2_; clear n0_ n1_ n2_; (try (have HX35 := Aside0.mk (show Kd.R k97 97 wr w.heap.size (fun k_ => k_ ≠ gb143) (.slice (some ⟨go34, 0, none⟩) x3_4.length co27) x3_4 from (by (with_reducible repeat (first | apply Kd.R_alloc | apply Kd.R_drewN | apply Kd.R_drew)); exact HO_3.out)))); (try (obtain ⟨ce35, hcl35, hM35, hcc35, hfr35⟩ := Kd.R_elem HX35.out z97 (x7_4 : Int) (of_decide_eq_true (by first | (with_reducible assumption) | assumption)) (by have h_ : (x7_4 : Int) < ((x3_4.length : Int) : Int) := of_decide_eq_true (by first | (with_reducible assumption) | assumption); first | exact h_ | (have e_ := (Kd.R_reads' HO_3.out).1; omega) | simpa using h_))); (try (obtain rfl := k97_openM hM35)); (try (have HP35 := Kd.R_seg HX35.out (x7_4 : Int) (of_decide_eq_true (by first | (with_reducible assumption) | assumption)) (by have h_ : (x7_4 : Int) < ((x3_4.length : Int) : Int) := of_decide_eq_true (by first | (with_reducible assumption) | assumption); first | exact h_ | (have e_ := (Kd.R_reads' HO_3.out).1; omega) | simpa using h_) (seg := [.int .i64 ((rd_T97 x3_4 (ji29)).f0), .int .i64 ((rd_T97 x3_4 (ji29)).f1), .int .i64 ((rd_T97 x3_4 (ji29)).f2.f0), .int .i64 ((rd_T97 x3_4 (ji29)).f2.f1), .int .i64 ((rd_T97 x3_4 (ji29)).f2.f2), .int .i64 ((rd_T97 x3_4 (ji29)).f2.f3), .int .i64 ((rd_T97 x3_4 (ji29)).f2.f4)]) (j := 0) hcl35 hcc35 (show 7 ≤ 7 from by decide) (x' := (⟨(rd_T97 x3_4 (ji29)).f0, (rd_T97 x3_4 (ji29)).f1, (⟨(rd_T97 x3_4 (ji29)).f2.f0, (rd_T97 x3_4 (ji29)).f2.f1, (rd_T97 x3_4 (ji29)).f2.f2, (rd_T97 x3_4 (ji29)).f2.f3, (rd_T97 x3_4 (ji29)).f2.f4⟩ : S71)⟩ : S97)) (k97_mkM _ _ _ (⟨(rd_T97 x3_4 (ji29)).f0, (rd_T97 x3_4 (ji29)).f1, (⟨(rd_T97 x3_4 (ji29)).f2.f0, (rd_T97 x3_4 (ji29)).f2.f1, (rd_T97 x3_4 (ji29)).f2.f2, (rd_T97 x3_4 (ji29)).f2.f3, (rd_T97 x3_4 (ji29)).f2.f4⟩ : S71)⟩ : S97) ) (fun _ hk => hk))); (try (have hx35_0 := hcc35 0 _ rfl)); (try (try simp only [show (k97).sz = 7 from rfl, Nat.mul_one, Nat.add_zero] at hx35_0)); (try (have hf35_0 := hfr35 0)); (try (try simp only [show (k97).sz = 7 from rfl, Nat.mul_one, Nat.add_zero] at hf35_0)); (try (have hx35_1 := hcc35 1 _ rfl)); (try (try simp only [show (k97).sz = 7 from rfl, Nat.mul_one, Nat.add_zero] at hx35_1)); (try (have hf35_1 := hfr35 1)); (try (try simp only [show (k97).sz = 7 from rfl, Nat.mul_one, Nat.add_zero] at hf35_1)); (try (have hx35_2 := hcc35 2 _ rfl)); (try (try simp only [show (k97).sz = 7 from rfl, Nat.mul_one, Nat.add_zero] at hx35_2)); (try (have hf35_2 := hfr35 2)); (try (try simp only [show (k97).sz = 7 from rfl, Nat.mul_one, Nat.add_zero] at hf35_2)); (try (have hx35_3 := hcc35 3 _ rfl)); (try (try simp only [show (k97).sz = 7 from rfl, Nat.mul_one, Nat.add_zero] at hx35_3)); (try (have hf35_3 := hfr35 3)); (try (try simp only [show (k97).sz = 7 from rfl, Nat.mul_one, Nat.add_zero] at hf35_3)); (try (have hx35_4 := hcc35 4 _ rfl)); (try (try simp only [show (k97).sz = 7 from rfl, Nat.mul_one, Nat.add_zero] at hx35_4)); (try (have hf35_4 := hfr35 4)); (try (try simp only [show (k97).sz = 7 from rfl, Nat.mul_one, Nat.add_zero] at hf35_4)); (try (have hx35_5 := hcc35 5 _ rfl)); (try (try simp only [show (k97).sz = 7 from rfl, Nat.mul_one, Nat.add_zero] at hx35_5)); (try (have hf35_5 := hfr35 5)); (try (try simp only [show (k97).sz = 7 from rfl, Nat.mul_one, Nat.add_zero] at hf35_5)); (try (have hx35_6 := hcc35 6 _ rfl)); (try (try simp only [show (k97).sz = 7 from rfl, Nat.mul_one, Nat.add_zero] at hx35_6)); (try (have hf35_6 := hfr35 6)); (try (try simp only [show (k97).sz = 7 from rfl, Nat.mul_one, Nat.add_zero] at hf35_6)); (try (clear hcl35 hcc35 hfr35 hM35)))); refine store_event (t := 97) (p := 64) (v := ?vo_w36) (w1 := (((((((wr.setCell ⟨go34, (x7_4 : Int).toNat * 7, none⟩ (.int .i64 ((rd_T97 x3_4 (ji29)).f0))).setCell ⟨go34, (x7_4 : Int).toNat * 7 + 1, none⟩ (.int .i64 ((rd_T97 x3_4 (ji29)).f1))).setCell ⟨go34, (x7_4 : Int).toNat * 7 + 2, none⟩ (.int .i64 ((rd_T97 x3_4 (ji29)).f2.f0))).setCell ⟨go34, (x7_4 : Int).toNat * 7 + 3, none⟩ (.int .i64 ((rd_T97 x3_4 (ji29)).f2.f1))).setCell ⟨go34, (x7_4 : Int).toNat * 7 + 4, none⟩ (.int .i64 ((rd_T97 x3_4 (ji29)).f2.f2))).setCell ⟨go34, (x7_4 : Int).toNat * 7 + 5, none⟩ (.int .i64 ((rd_T97 x3_4 (ji29)).f2.f3))).setCell ⟨go34, (x7_4 : Int).toNat * 7 + 6, none⟩ (.int .i64 ((rd_T97 x3_4 (ji29)).f2.f4)))) ?hg ?ho ?hn ?hr ?_; (case ho => rfl); (case hg => rfl); (case hn => rfl); (case hr => first | (go_simp; done) | (go_simp; rfl)); intro w36 hw; have hg : wr.grownBy w36 (some go34) := (by rw [hw]; exact HP35.2); have hp_ : Kd.R k97 97 w36 w.heap.size (fun k_ => k_ ≠ gb143) (.slice (some ⟨go34, 0, none⟩) x3_4.length co27) y150 := (by rw [hw, Ny150.out]; exact HP35.1); clear HP35; have n0_ := Aside0.mk (hp_); have n1_ := Aside0.mk (blk_grown (g := gb143) (o := .cells #[.int .i64 x144000_4, .int .i64 x144001_4, .int .i64 x144002_4, .int .i64 x144003_4, .int .i64 x144004_4, .int .i64 x144005_4, .int .i64 x144006_4] 97 (0, 0)) (by (with_reducible repeat (first | refine blk_drewN ?_ _ | refine blk_drew ?_ | refine blk_alloc ?_ _)); exact BK143.out) hg (Kd.R_away HO_3.out (fun _ hk => hk))); have n2_ := Aside0.mk ((by rw [hw]; exact below_set (below_set (below_set (below_set (below_set (below_set (below_set (HB.out) GB34.out) GB34.out) GB34.out) GB34.out) GB34.out) GB34.out) GB34.out : Below w.heap.size w w36)); clear HO_3; clear BK143; clear HB; have HO_3 := n0_; have BK143 := n1_; have HB := n2_; clear n0_ n1_ n2_; clear hg hw hp_)); try go_wp2_with (first | ((with_reducible refine gate_store (t := 97) (p := 64) rfl ?_); (try (rw [drewN_self wr]; generalize hq_ : World.drewN wr _ = wr; have n0_ := Aside0.mk (Kd.R_at hq_ HO_3.out); have n1_ := Aside0.mk (blk_at hq_ BK143.out); have n2_ := Aside0.mk (below_at hq_ HB.out); clear hq_ HO_3 BK143 HB; have HO_3 := n0_; have BK143 := n1_; have HB := n2_; clear n0_ n1_ n2_; (try (have HX35 := Aside0.mk (show Kd.R k97 97 wr w.heap.size (fun k_ => k_ ≠ gb143) (.slice (some ⟨go34, 0, none⟩) x3_4.length co27) x3_4 from (by (with_reducible repeat (first | apply Kd.R_alloc | apply Kd.R_drewN | apply Kd.R_drew)); exact HO_3.out)))); (try (obtain ⟨ce35, hcl35, hM35, hcc35, hfr35⟩ := Kd.R_elem HX35.out z97 (x7_4 : Int) (of_decide_eq_true (by first | (with_reducible assumption) | assumption)) (by have h_ : (x7_4 : Int) < ((x3_4.length : Int) : Int) := of_decide_eq_true (by first | (with_reducible assumption) | assumption); first | exact h_ | (have e_ := (Kd.R_reads' HO_3.out).1; omega) | simpa using h_))); (try (obtain rfl := k97_openM hM35)); (try (have HP35 := Kd.R_seg HX35.out (x7_4 : Int) (of_decide_eq_true (by first | (with_reducible assumption) | assumption)) (by have h_ : (x7_4 : Int) < ((x3_4.length : Int) : Int) := of_decide_eq_true (by first | (with_reducible assumption) | assumption); first | exact h_ | (have e_ := (Kd.R_reads' HO_3.out).1; omega) | simpa using h_) (seg := [.int .i64 ((rd_T97 x3_4 (ji29)).f0), .int .i64 ((rd_T97 x3_4 (ji29)).f1), .int .i64 ((rd_T97 x3_4 (ji29)).f2.f0), .int .i64 ((rd_T97 x3_4 (ji29)).f2.f1), .int .i64 ((rd_T97 x3_4 (ji29)).f2.f2), .int .i64 ((rd_T97 x3_4 (ji29)).f2.f3), .int .i64 ((rd_T97 x3_4 (ji29)).f2.f4)]) (j := 0) hcl35 hcc35 (show 7 ≤ 7 from by decide) (x' := (⟨(rd_T97 x3_4 (ji29)).f0, (rd_T97 x3_4 (ji29)).f1, (⟨(rd_T97 x3_4 (ji29)).f2.f0, (rd_T97 x3_4 (ji29)).f2.f1, (rd_T97 x3_4 (ji29)).f2.f2, (rd_T97 x3_4 (ji29)).f2.f3, (rd_T97 x3_4 (ji29)).f2.f4⟩ : S71)⟩ : S97)) (k97_mkM _ _ _ (⟨(rd_T97 x3_4 (ji29)).f0, (rd_T97 x3_4 (ji29)).f1, (⟨(rd_T97 x3_4 (ji29)).f2.f0, (rd_T97 x3_4 (ji29)).f2.f1, (rd_T97 x3_4 (ji29)).f2.f2, (rd_T97 x3_4 (ji29)).f2.f3, (rd_T97 x3_4 (ji29)).f2.f4⟩ : S71)⟩ : S97) ) (fun _ hk => hk))); (try (have hx35_0 := hcc35 0 _ rfl)); (try (try simp only [show (k97).sz = 7 from rfl, Nat.mul_one, Nat.add_zero] at hx35_0)); (try (have hf35_0 := hfr35 0)); (try (try simp only [show (k97).sz = 7 from rfl, Nat.mul_one, Nat.add_zero] at hf35_0)); (try (have hx35_1 := hcc35 1 _ rfl)); (try (try simp only [show (k97).sz = 7 from rfl, Nat.mul_one, Nat.add_zero] at hx35_1)); (try (have hf35_1 := hfr35 1)); (try (try simp only [show (k97).sz = 7 from rfl, Nat.mul_one, Nat.add_zero] at hf35_1)); (try (have hx35_2 := hcc35 2 _ rfl)); (try (try simp only [show (k97).sz = 7 from rfl, Nat.mul_one, Nat.add_zero] at hx35_2)); (try (have hf35_2 := hfr35 2)); (try (try simp only [show (k97).sz = 7 from rfl, Nat.mul_one, Nat.add_zero] at hf35_2)); (try (have hx35_3 := hcc35 3 _ rfl)); (try (try simp only [show (k97).sz = 7 from rfl, Nat.mul_one, Nat.add_zero] at hx35_3)); (try (have hf35_3 := hfr35 3)); (try (try simp only [show (k97).sz = 7 from rfl, Nat.mul_one, Nat.add_zero] at hf35_3)); (try (have hx35_4 := hcc35 4 _ rfl)); (try (try simp only [show (k97).sz = 7 from rfl, Nat.mul_one, Nat.add_zero] at hx35_4)); (try (have hf35_4 := hfr35 4)); (try (try simp only [show (k97).sz = 7 from rfl, Nat.mul_one, Nat.add_zero] at hf35_4)); (try (have hx35_5 := hcc35 5 _ rfl)); (try (try simp only [show (k97).sz = 7 from rfl, Nat.mul_one, Nat.add_zero] at hx35_5)); (try (have hf35_5 := hfr35 5)); (try (try simp only [show (k97).sz = 7 from rfl, Nat.mul_one, Nat.add_zero] at hf35_5)); (try (have hx35_6 := hcc35 6 _ rfl)); (try (try simp only [show (k97).sz = 7 from rfl, Nat.mul_one, Nat.add_zero] at hx35_6)); (try (have hf35_6 := hfr35 6)); (try (try simp only [show (k97).sz = 7 from rfl, Nat.mul_one, Nat.add_zero] at hf35_6)); (try (clear hcl35 hcc35 hfr35 hM35)))); refine store_event (t := 97) (p := 64) (v := ?vo_w36) (w1 := (((((((wr.setCell ⟨go34, (x7_4 : Int).toNat * 7, none⟩ (.int .i64 ((rd_T97 x3_4 (ji29)).f0))).setCell ⟨go34, (x7_4 : Int).toNat * 7 + 1, none⟩ (.int .i64 ((rd_T97 x3_4 (ji29)).f1))).setCell ⟨go34, (x7_4 : Int).toNat * 7 + 2, none⟩ (.int .i64 ((rd_T97 x3_4 (ji29)).f2.f0))).setCell ⟨go34, (x7_4 : Int).toNat * 7 + 3, none⟩ (.int .i64 ((rd_T97 x3_4 (ji29)).f2.f1))).setCell ⟨go34, (x7_4 : Int).toNat * 7 + 4, none⟩ (.int .i64 ((rd_T97 x3_4 (ji29)).f2.f2))).setCell ⟨go34, (x7_4 : Int).toNat * 7 + 5, none⟩ (.int .i64 ((rd_T97 x3_4 (ji29)).f2.f3))).setCell ⟨go34, (x7_4 : Int).toNat * 7 + 6, none⟩ (.int .i64 ((rd_T97 x3_4 (ji29)).f2.f4)))) ?hg ?ho ?hn ?hr ?_; (case ho => rfl); (case hg => rfl); (case hn => rfl); (case hr => first | (go_simp; done) | (go_simp; rfl)); intro w36 hw; have hg : wr.grownBy w36 (some go34) := (by rw [hw]; exact HP35.2); have hp_ : Kd.R k97 97 w36 w.heap.size (fun k_ => k_ ≠ gb143) (.slice (some ⟨go34, 0, none⟩) x3_4.length co27) y150 := (by rw [hw, Ny150.out]; exact HP35.1); clear HP35; have n0_ := Aside0.mk (hp_); have n1_ := Aside0.mk (blk_grown (g := gb143) (o := .cells #[.int .i64 x144000_4, .int .i64 x144001_4, .int .i64 x144002_4, .int .i64 x144003_4, .int .i64 x144004_4, .int .i64 x144005_4, .int .i64 x144006_4] 97 (0, 0)) (by (with_reducible repeat (first | refine blk_drewN ?_ _ | refine blk_drew ?_ | refine blk_alloc ?_ _)); exact BK143.out) hg (Kd.R_away HO_3.out (fun _ hk => hk))); have n2_ := Aside0.mk ((by rw [hw]; exact below_set (below_set (below_set (below_set (below_set (below_set (below_set (HB.out) GB34.out) GB34.out) GB34.out) GB34.out) GB34.out) GB34.out) GB34.out : Below w.heap.size w w36)); clear HO_3; clear BK143; clear HB; have HO_3 := n0_; have BK143 := n1_; have HB := n2_; clear n0_ n1_ n2_; clear hg hw hp_)))
                                      (try simp only [← hl3_4])
                                      go_roundg k4
                                      case measure => have := HK1.out; have := HJ6.out; have := HJ17.out; have := HK4.out; omega
                                      case rel => exact ⟨(y150), (ji29), (x144000_4), (x144001_4), (x144002_4), (x144003_4), (x144004_4), (x144005_4), (x144006_4), (by first | rfl | (simp; done) | (simp only [← hji29] <;> (first | rfl | simp)) | (simp [*]; done)), H', ⟨by have := HK1.out; have := HJ6.out; have := HJ17.out; have := HK4.out; omega⟩, ⟨by (try simp only [hl3_4]); (with_reducible repeat (first | apply Kd.R_alloc | apply Kd.R_drewN | apply Kd.R_drew)); exact HO_3.out⟩, ⟨by (try simp only [hl3_4]); (with_reducible repeat (first | refine blk_drewN ?_ _ | refine blk_drew ?_ | refine blk_alloc ?_ _)); exact BK143.out⟩, ⟨by repeat (first | (with_reducible first | exact HB.out | apply below_alloc | apply pw_below_drewN | apply below_drew1 | refine below_set ?_ GE143.out) | exact HB.out)⟩⟩
                                    · rw [if_neg c33] at H
                                      exact absurd H (by simp)
                                  · rw [if_neg c32] at H
                                    exact absurd H (by simp)
                                · rw [if_neg c31] at H
                                  exact absurd H (by simp)
                              · rw [if_neg c30] at H
                                exact absurd H (by simp)
                            · rw [if_neg c28] at H
                              have c28b0 : decide (x6_6 < x7_4) = false := decide_eq_false c28
                              clear c28
                              by_cases c37 : 0 ≤ x6_6
                              · rw [if_pos c37] at H
                                have c37b0 : decide (0 ≤ x6_6) = true := decide_eq_true c37
                                clear c37
                                by_cases c38 : x6_6 < (x3_4.length : Int)
                                · rw [if_pos c38] at H
                                  have c38b0 : decide (x6_6 < (x3_4.length : Int)) = true := decide_eq_true c38
                                  clear c38
                                  obtain ⟨y151, hy151⟩ : ∃ y_ : List (S97), y_ = (x3_4.set (x6_6 : Int).toNat (⟨x144000_4, x144001_4, (⟨x144002_4, x144003_4, x144004_4, x144005_4, x144006_4⟩ : S71)⟩ : S97)) := ⟨_, rfl⟩
                                  replace H : (spec_CanonNotes.l0 k4 y151 l0 (l0.length : Int) (wrap64 (x11_1 + 1))) = some r := by first | (rw [hy151]; with_reducible exact H) | (have H2_ := (Option.bind_some _ _).symm.trans H; rw [hy151]; with_reducible exact H2_) | (have H2_ := (Option.bind_some _ _).symm.trans H; with_reducible exact H2_) | with_reducible exact H | (rw [hy151]; exact H) | exact H
                                  have Ny151 := Aside0.mk hy151
                                  clear hy151
                                  have H' := Aside0.mk H
                                  clear H
                                  have hcz40_0 : wr.cell? ⟨gb143, 0, none⟩ = some (.int .i64 x144000_4) := (blk_cell BK143.out 0).trans rfl
                                  have hcz40_1 : wr.cell? ⟨gb143, 1, none⟩ = some (.int .i64 x144001_4) := (blk_cell BK143.out 1).trans rfl
                                  have hcz40_2 : wr.cell? ⟨gb143, 2, none⟩ = some (.int .i64 x144002_4) := (blk_cell BK143.out 2).trans rfl
                                  have hcz40_3 : wr.cell? ⟨gb143, 3, none⟩ = some (.int .i64 x144003_4) := (blk_cell BK143.out 3).trans rfl
                                  have hcz40_4 : wr.cell? ⟨gb143, 4, none⟩ = some (.int .i64 x144004_4) := (blk_cell BK143.out 4).trans rfl
                                  have hcz40_5 : wr.cell? ⟨gb143, 5, none⟩ = some (.int .i64 x144005_4) := (blk_cell BK143.out 5).trans rfl
                                  have hcz40_6 : wr.cell? ⟨gb143, 6, none⟩ = some (.int .i64 x144006_4) := (blk_cell BK143.out 6).trans rfl
                                  have hfz40_0 := blk_frozen BK143.out 0
                                  have hfz40_1 := blk_frozen BK143.out 1
                                  have hfz40_2 := blk_frozen BK143.out 2
                                  have hfz40_3 := blk_frozen BK143.out 3
                                  have hfz40_4 := blk_frozen BK143.out 4
                                  have hfz40_5 := blk_frozen BK143.out 5
                                  have hfz40_6 := blk_frozen BK143.out 6
                                  have p39 : 0 ≤ (x6_6 : Int) := of_decide_eq_true (by first | (with_reducible assumption) | assumption)
                                  have q39 : (x6_6 : Int) < ((x3_4.length : Int) : Int) := of_decide_eq_true (by first | (with_reducible assumption) | assumption)
                                  obtain ⟨go39, co39, eo39, gb39, gl39, cl39, HG39⟩ := Kd.R_form HO_3.out (by omega)
                                  (first | cases eo39 | (injection eo39 with ea_ en_ ec_; (first | subst ea_ | (injection ea_ with ea_; subst ea_)); subst ec_; clear en_))
                                  have GB39 := Aside0.mk gb39
                                  have GG39 := Aside0.mk HG39
                                  clear gb39 gl39 HG39
                                  obtain ⟨ce39, hcl39, hM39, hcc39, hfr39⟩ := Kd.R_elem HO_3.out z97 (x6_6 : Int) p39 q39
                                  obtain rfl := k97_openM hM39
                                  have hx39_0 : wr.cell? ⟨go39, (x6_6 : Int).toNat * 7, none⟩ = some (.int .i64 ((rd_T97 x3_4 x6_6).f0)) := hcc39 0 _ rfl
                                  have hx39_1 : wr.cell? ⟨go39, (x6_6 : Int).toNat * 7 + 1, none⟩ = some (.int .i64 ((rd_T97 x3_4 x6_6).f1)) := hcc39 1 _ rfl
                                  have hx39_2 : wr.cell? ⟨go39, (x6_6 : Int).toNat * 7 + 2, none⟩ = some (.int .i64 ((rd_T97 x3_4 x6_6).f2.f0)) := hcc39 2 _ rfl
                                  have hx39_3 : wr.cell? ⟨go39, (x6_6 : Int).toNat * 7 + 3, none⟩ = some (.int .i64 ((rd_T97 x3_4 x6_6).f2.f1)) := hcc39 3 _ rfl
                                  have hx39_4 : wr.cell? ⟨go39, (x6_6 : Int).toNat * 7 + 4, none⟩ = some (.int .i64 ((rd_T97 x3_4 x6_6).f2.f2)) := hcc39 4 _ rfl
                                  have hx39_5 : wr.cell? ⟨go39, (x6_6 : Int).toNat * 7 + 5, none⟩ = some (.int .i64 ((rd_T97 x3_4 x6_6).f2.f3)) := hcc39 5 _ rfl
                                  have hx39_6 : wr.cell? ⟨go39, (x6_6 : Int).toNat * 7 + 6, none⟩ = some (.int .i64 ((rd_T97 x3_4 x6_6).f2.f4)) := hcc39 6 _ rfl
                                  have hf39_0 : wr.frozen? ⟨go39, (x6_6 : Int).toNat * 7, none⟩ = false := hfr39 0
                                  have hf39_1 : wr.frozen? ⟨go39, (x6_6 : Int).toNat * 7 + 1, none⟩ = false := hfr39 1
                                  have hf39_2 : wr.frozen? ⟨go39, (x6_6 : Int).toNat * 7 + 2, none⟩ = false := hfr39 2
                                  have hf39_3 : wr.frozen? ⟨go39, (x6_6 : Int).toNat * 7 + 3, none⟩ = false := hfr39 3
                                  have hf39_4 : wr.frozen? ⟨go39, (x6_6 : Int).toNat * 7 + 4, none⟩ = false := hfr39 4
                                  have hf39_5 : wr.frozen? ⟨go39, (x6_6 : Int).toNat * 7 + 5, none⟩ = false := hfr39 5
                                  have hf39_6 : wr.frozen? ⟨go39, (x6_6 : Int).toNat * 7 + 6, none⟩ = false := hfr39 6
                                  clear hcl39 hcc39 hfr39 hM39
                                  replace p39 := eq_true p39
                                  replace q39 := eq_true q39
                                  have HX41 := Aside0.mk (show Kd.R k97 97 wr w.heap.size (fun k_ => k_ ≠ gb143) (.slice (some ⟨go39, 0, none⟩) x3_4.length co27) x3_4 from (by (with_reducible repeat (first | apply Kd.R_alloc | apply Kd.R_drewN | apply Kd.R_drew)); exact HO_3.out))
                                  obtain ⟨ce41, hcl41, hM41, hcc41, hfr41⟩ := Kd.R_elem HX41.out z97 (x6_6 : Int) (of_decide_eq_true (by first | (with_reducible assumption) | assumption)) (by have h_ : (x6_6 : Int) < ((x3_4.length : Int) : Int) := of_decide_eq_true (by first | (with_reducible assumption) | assumption); first | exact h_ | (have e_ := (Kd.R_reads' HO_3.out).1; omega) | simpa using h_)
                                  obtain rfl := k97_openM hM41
                                  have HP41 := Kd.R_seg HX41.out (x6_6 : Int) (of_decide_eq_true (by first | (with_reducible assumption) | assumption)) (by have h_ : (x6_6 : Int) < ((x3_4.length : Int) : Int) := of_decide_eq_true (by first | (with_reducible assumption) | assumption); first | exact h_ | (have e_ := (Kd.R_reads' HO_3.out).1; omega) | simpa using h_) (seg := [.int .i64 x144000_4, .int .i64 x144001_4, .int .i64 x144002_4, .int .i64 x144003_4, .int .i64 x144004_4, .int .i64 x144005_4, .int .i64 x144006_4]) (j := 0) hcl41 hcc41 (show 7 ≤ 7 from by decide) (x' := (⟨x144000_4, x144001_4, (⟨x144002_4, x144003_4, x144004_4, x144005_4, x144006_4⟩ : S71)⟩ : S97)) (k97_mkM _ _ _ (⟨x144000_4, x144001_4, (⟨x144002_4, x144003_4, x144004_4, x144005_4, x144006_4⟩ : S71)⟩ : S97) ) (fun _ hk => hk)
                                  have hx41_0 := hcc41 0 _ rfl
                                  (try simp only [show (k97).sz = 7 from rfl, Nat.mul_one, Nat.add_zero] at hx41_0)
                                  have hf41_0 := hfr41 0
                                  (try simp only [show (k97).sz = 7 from rfl, Nat.mul_one, Nat.add_zero] at hf41_0)
                                  have hx41_1 := hcc41 1 _ rfl
                                  (try simp only [show (k97).sz = 7 from rfl, Nat.mul_one, Nat.add_zero] at hx41_1)
                                  have hf41_1 := hfr41 1
                                  (try simp only [show (k97).sz = 7 from rfl, Nat.mul_one, Nat.add_zero] at hf41_1)
                                  have hx41_2 := hcc41 2 _ rfl
                                  (try simp only [show (k97).sz = 7 from rfl, Nat.mul_one, Nat.add_zero] at hx41_2)
                                  have hf41_2 := hfr41 2
                                  (try simp only [show (k97).sz = 7 from rfl, Nat.mul_one, Nat.add_zero] at hf41_2)
                                  have hx41_3 := hcc41 3 _ rfl
                                  (try simp only [show (k97).sz = 7 from rfl, Nat.mul_one, Nat.add_zero] at hx41_3)
                                  have hf41_3 := hfr41 3
                                  (try simp only [show (k97).sz = 7 from rfl, Nat.mul_one, Nat.add_zero] at hf41_3)
                                  have hx41_4 := hcc41 4 _ rfl
                                  (try simp only [show (k97).sz = 7 from rfl, Nat.mul_one, Nat.add_zero] at hx41_4)
                                  have hf41_4 := hfr41 4
                                  (try simp only [show (k97).sz = 7 from rfl, Nat.mul_one, Nat.add_zero] at hf41_4)
                                  have hx41_5 := hcc41 5 _ rfl
                                  (try simp only [show (k97).sz = 7 from rfl, Nat.mul_one, Nat.add_zero] at hx41_5)
                                  have hf41_5 := hfr41 5
                                  (try simp only [show (k97).sz = 7 from rfl, Nat.mul_one, Nat.add_zero] at hf41_5)
                                  have hx41_6 := hcc41 6 _ rfl
                                  (try simp only [show (k97).sz = 7 from rfl, Nat.mul_one, Nat.add_zero] at hx41_6)
                                  have hf41_6 := hfr41 6
                                  (try simp only [show (k97).sz = 7 from rfl, Nat.mul_one, Nat.add_zero] at hf41_6)
                                  clear hcl41 hcc41 hfr41 hM41
                                  go_wp2_with (first | ((with_reducible refine gate_store (t := 97) (p := 68) rfl ?_); (try (rw [drewN_self wr]; generalize hq_ : World.drewN wr _ = wr; have n0_ := Aside0.mk (Kd.R_at hq_ HO_3.out); have n1_ := Aside0.mk (blk_at hq_ BK143.out); have n2_ := Aside0.mk (below_at hq_ HB.out); clear hq_ HO_3 BK143 HB; have HO_3 := n0_; have BK143 := n1_; have HB := n2_; clear n0_ n1_ n2_; (try (have HX41 := Aside0.mk (show Kd.R k97 97 wr w.heap.size (fun k_ => k_ ≠ gb143) (.slice (some ⟨go39, 0, none⟩) x3_4.length co27) x3_4 from (by (with_reducible repeat (first | apply Kd.R_alloc | apply Kd.R_drewN | apply Kd.R_drew)); exact HO_3.out)))); (try (obtain ⟨ce41, hcl41, hM41, hcc41, hfr41⟩ := Kd.R_elem HX41.out z97 (x6_6 : Int) (of_decide_eq_true (by first | (with_reducible assumption) | assumption)) (by have h_ : (x6_6 : Int) < ((x3_4.length : Int) : Int) := of_decide_eq_true (by first | (with_reducible assumption) | assumption); first | exact h_ | (have e_ := (Kd.R_reads' HO_3.out).1; omega) | simpa using h_))); (try (obtain rfl := k97_openM hM41)); (try (have HP41 := Kd.R_seg HX41.out (x6_6 : Int) (of_decide_eq_true (by first | (with_reducible assumption) | assumption)) (by have h_ : (x6_6 : Int) < ((x3_4.length : Int) : Int) := of_decide_eq_true (by first | (with_reducible assumption) | assumption); first | exact h_ | (have e_ := (Kd.R_reads' HO_3.out).1; omega) | simpa using h_) (seg := [.int .i64 x144000_4, .int .i64 x144001_4, .int .i64 x144002_4, .int .i64 x144003_4, .int .i64 x144004_4, .int .i64 x144005_4, .int .i64 x144006_4]) (j := 0) hcl41 hcc41 (show 7 ≤ 7 from by decide) (x' := (⟨x144000_4, x144001_4, (⟨x144002_4, x144003_4, x144004_4, x144005_4, x144006_4⟩ : S71)⟩ : S97)) (k97_mkM _ _ _ (⟨x144000_4, x144001_4, (⟨x144002_4, x144003_4, x144004_4, x144005_4, x144006_4⟩ : S71)⟩ : S97) ) (fun _ hk => hk))); (try (have hx41_0 := hcc41 0 _ rfl)); (try (try simp only [show (k97).sz = 7 from rfl, Nat.mul_one, Nat.add_zero] at hx41_0)); (try (have hf41_0 := hfr41 0)); (try (try simp only [show (k97).sz = 7 from rfl, Nat.mul_one, Nat.add_zero] at hf41_0)); (try (have hx41_1 := hcc41 1 _ rfl)); (try (try simp only [show (k97).sz = 7 from rfl, Nat.mul_one, Nat.add_zero] at hx41_1)); (try (have hf41_1 := hfr41 1)); (try (try simp only [show (k97).sz = 7 from rfl, Nat.mul_one, Nat.add_zero] at hf41_1)); (try (have hx41_2 := hcc41 2 _ rfl)); (try (try simp only [show (k97).sz = 7 from rfl, Nat.mul_one, Nat.add_zero] at hx41_2)); (try (have hf41_2 := hfr41 2)); (try (try simp only [show (k97).sz = 7 from rfl, Nat.mul_one, Nat.add_zero] at hf41_2)); (try (have hx41_3 := hcc41 3 _ rfl)); (try (try simp only [show (k97).sz = 7 from rfl, Nat.mul_one, Nat.add_zero] at hx41_3)); (try (have hf41_3 := hfr41 3)); (try (try simp only [show (k97).sz = 7 from rfl, Nat.mul_one, Nat.add_zero] at hf41_3)); (try (have hx41_4 := hcc41 4 _ rfl)); (try (try simp only [show (k97).sz = 7 from rfl, Nat.mul_one, Nat.add_zero] at hx41_4)); (try (have hf41_4 := hfr41 4)); (try (try simp only [show (k97).sz = 7 from rfl, Nat.mul_one, Nat.add_zero] at hf41_4)); (try (have hx41_5 := hcc41 5 _ rfl)); (try (try simp only [show (k97).sz = 7 from rfl, Nat.mul_one, Nat.add_zero] at hx41_5)); (try (have hf41_5 := hfr41 5)); (try (try simp only [show (k97).sz = 7 from rfl, Nat.mul_one, Nat.add_zero] at hf41_5)); (try (have hx41_6 := hcc41 6 _ rfl)); (try (try simp only [show (k97).sz = 7 from rfl, Nat.mul_one, Nat.add_zero] at hx41_6)); (try (have hf41_6 := hfr41 6)); (try (try simp only [show (k97).sz = 7 from rfl, Nat.mul_one, Nat.add_zero] at hf41_6)); (try (clear hcl41 hcc41 hfr41 hM41)))); refine store_event (t := 97) (p := 68) (v := ?vo_w42) (w1 := (((((((wr.setCell ⟨go39, (x6_6 : Int).toNat * 7, none⟩ (.int .i64 x144000_4)).setCell ⟨go39, (x6_6 : Int).toNat * 7 + 1, none⟩ (.int .i64 x144001_4)).setCell ⟨go39, (x6_6 : Int).toNat * 7 + 2, none⟩ (.int .i64 x144002_4)).setCell ⟨go39, (x6_6 : Int).toNat * 7 + 3, none⟩ (.int .i64 x144003_4)).setCell ⟨go39, (x6_6 : Int).toNat * 7 + 4, none⟩ (.int .i64 x144004_4)).setCell ⟨go39, (x6_6 : Int).toNat * 7 + 5, none⟩ (.int .i64 x144005_4)).setCell ⟨go39, (x6_6 : Int).toNat * 7 + 6, none⟩ (.int .i64 x144006_4))) ?hg ?ho ?hn ?hr ?_; (case ho => rfl); (case hg => rfl); (case hn => rfl); (case hr => first | (go_simp; done) | (go_simp; rfl)); intro w42 hw; have hg : wr.grownBy w42 (some go39) := (by rw [hw]; exact HP41.2); have hp_ : Kd.R k97 97 w42 w.heap.size (fun k_ => k_ ≠ gb143) (.slice (some ⟨go39, 0, none⟩) x3_4.length co27) y151 := (by rw [hw, Ny151.out]; exact HP41.1); clear HP41; have n0_ := Aside0.mk (hp_); have n1_ := Aside0.mk (blk_grown (g := gb143) (o := .cells #[.int .i64 x144000_4, .int .i64 x144001_4, .int .i64 x144002_4, .int .i64 x144003_4, .int .i64 x144004_4, .int .i64 x144005_4, .int .i64 x144006_4] 97 (0, 0)) (by (with_reducible repeat (first | refine blk_drewN ?_ _ | refine blk_drew ?_ | refine blk_alloc ?_ _)); exact BK143.out) hg (Kd.R_away HO_3.out (fun _ hk => hk))); have n2_ := Aside0.mk ((by rw [hw]; exact below_set (below_set (below_set (below_set (below_set (below_set (below_set (HB.out) GB39.out) GB39.out) GB39.out) GB39.out) GB39.out) GB39.out) GB39.out : Below w.heap.size w w42)); clear HO_3; clear BK143; clear HB; have HO_3 := n0_; have BK143 := n1_; have HB := n2_; clear n0_ n1_ n2_; clear hg hw hp_))
                                  repeat (go_quiet (first | ((with_reducible refine gate_store (t := 97) (p := 68) rfl ?_); (try (rw [drewN_self wr]; generalize hq_ : World.drewN wr _ = wr; have n0_ := Aside0.mk (Kd.R_at hq_ HO_3.out); have n1_ := Aside0.mk (blk_at hq_ BK143.out); have n2_ := Aside0.mk (below_at hq_ HB.out); clear hq_ HO_3 BK143 HB; have HO_3 := n0_; have BK143 := n1_; have HB := n2_; clear n0_ n1_ n2_; (try (have HX41 := Aside0.mk (show Kd.R k97 97 wr w.heap.size (fun k_ => k_ ≠ gb143) (.slice (some ⟨go39, 0, none⟩) x3_4.length co27) x3_4 from (by (with_reducible repeat (first | apply Kd.R_alloc | apply Kd.R_drewN | apply Kd.R_drew)); exact HO_3.out)))); (try (obtain ⟨ce41, hcl41, hM41, hcc41, hfr41⟩ := Kd.R_elem HX41.out z97 (x6_6 : Int) (of_decide_eq_true (by first | (with_reducible assumption) | assumption)) (by have h_ : (x6_6 : Int) < ((x3_4.length : Int) : Int) := of_decide_eq_true (by first | (with_reducible assumption) | assumption); first | exact h_ | (have e_ := (Kd.R_reads' HO_3.out).1; omega) | simpa using h_))); (try (obtain rfl := k97_openM hM41)); (try (have HP41 := Kd.R_seg HX41.out (x6_6 : Int) (of_decide_eq_true (by first | (with_reducible assumption) | assumption)) (by have h_ : (x6_6 : Int) < ((x3_4.length : Int) : Int) := of_decide_eq_true (by first | (with_reducible assumption) | assumption); first | exact h_ | (have e_ := (Kd.R_reads' HO_3.out).1; omega) | simpa using h_) (seg := [.int .i64 x144000_4, .int .i64 x144001_4, .int .i64 x144002_4, .int .i64 x144003_4, .int .i64 x144004_4, .int .i64 x144005_4, .int .i64 x144006_4]) (j := 0) hcl41 hcc41 (show 7 ≤ 7 from by decide) (x' := (⟨x144000_4, x144001_4, (⟨x144002_4, x144003_4, x144004_4, x144005_4, x144006_4⟩ : S71)⟩ : S97)) (k97_mkM _ _ _ (⟨x144000_4, x144001_4, (⟨x144002_4, x144003_4, x144004_4, x144005_4, x144006_4⟩ : S71)⟩ : S97) ) (fun _ hk => hk))); (try (have hx41_0 := hcc41 0 _ rfl)); (try (try simp only [show (k97).sz = 7 from rfl, Nat.mul_one, Nat.add_zero] at hx41_0)); (try (have hf41_0 := hfr41 0)); (try (try simp only [show (k97).sz = 7 from rfl, Nat.mul_one, Nat.add_zero] at hf41_0)); (try (have hx41_1 := hcc41 1 _ rfl)); (try (try simp only [show (k97).sz = 7 from rfl, Nat.mul_one, Nat.add_zero] at hx41_1)); (try (have hf41_1 := hfr41 1)); (try (try simp only [show (k97).sz = 7 from rfl, Nat.mul_one, Nat.add_zero] at hf41_1)); (try (have hx41_2 := hcc41 2 _ rfl)); (try (try simp only [show (k97).sz = 7 from rfl, Nat.mul_one, Nat.add_zero] at hx41_2)); (try (have hf41_2 := hfr41 2)); (try (try simp only [show (k97).sz = 7 from rfl, Nat.mul_one, Nat.add_zero] at hf41_2)); (try (have hx41_3 := hcc41 3 _ rfl)); (try (try simp only [show (k97).sz = 7 from rfl, Nat.mul_one, Nat.add_zero] at hx41_3)); (try (have hf41_3 := hfr41 3)); (try (try simp only [show (k97).sz = 7 from rfl, Nat.mul_one, Nat.add_zero] at hf41_3)); (try (have hx41_4 := hcc41 4 _ rfl)); (try (try simp only [show (k97).sz = 7 from rfl, Nat.mul_one, Nat.add_zero] at hx41_4)); (try (have hf41_4 := hfr41 4)); (try (try simp only [show (k97).sz = 7 from rfl, Nat.mul_one, Nat.add_zero] at hf41_4)); (try (have hx41_5 := hcc41 5 _ rfl)); (try (try simp only [show (k97).sz = 7 from rfl, Nat.mul_one, Nat.add_zero] at hx41_5)); (try (have hf41_5 := hfr41 5)); (try (try simp only [show (k97).sz = 7 from rfl, Nat.mul_one, Nat.add_zero] at hf41_5)); (try (have hx41_6 := hcc41 6 _ rfl)); (try (try simp only [show (k97).sz = 7 from rfl, Nat.mul_one, Nat.add_zero] at hx41_6)); (try (have hf41_6 := hfr41 6)); (try (try simp only [show (k97).sz = 7 from rfl, Nat.mul_one, Nat.add_zero] at hf41_6)); (try (clear hcl41 hcc41 hfr41 hM41)))); refine store_event (t := 97) (p := 68) (v := ?vo_w42) (w1 := (((((((wr.setCell ⟨go39, (x6_6 : Int).toNat * 7, none⟩ (.int .i64 x144000_4)).setCell ⟨go39, (x6_6 : Int).toNat * 7 + 1, none⟩ (.int .i64 x144001_4)).setCell ⟨go39, (x6_6 : Int).toNat * 7 + 2, none⟩ (.int .i64 x144002_4)).setCell ⟨go39, (x6_6 : Int).toNat * 7 + 3, none⟩ (.int .i64 x144003_4)).setCell ⟨go39, (x6_6 : Int).toNat * 7 + 4, none⟩ (.int .i64 x144004_4)).setCell ⟨go39, (x6_6 : Int).toNat * 7 + 5, none⟩ (.int .i64 x144005_4)).setCell ⟨go39, (x6_6 : Int).toNat * 7 + 6, none⟩ (.int .i64 x144006_4))) ?hg ?ho ?hn ?hr ?_; (case ho => rfl); (case hg => rfl); (case hn => rfl); (case hr => first | (go_simp; done) | (go_simp; rfl)); intro w42 hw; have hg : wr.grownBy w42 (some go39) := (by rw [hw]; exact HP41.2); have hp_ : Kd.R k97 97 w42 w.heap.size (fun k_ => k_ ≠ gb143) (.slice (some ⟨go39, 0, none⟩) x3_4.length co27) y151 := (by rw [hw, Ny151.out]; exact HP41.1); clear HP41; have n0_ := Aside0.mk (hp_); have n1_ := Aside0.mk (blk_grown (g := gb143) (o := .cells #[.int .i64 x144000_4, .int .i64 x144001_4, .int .i64 x144002_4, .int .i64 x144003_4, .int .i64 x144004_4, .int .i64 x144005_4, .int .i64 x144006_4] 97 (0, 0)) (by (with_reducible repeat (first | refine blk_drewN ?_ _ | refine blk_drew ?_ | refine blk_alloc ?_ _)); exact BK143.out) hg (Kd.R_away HO_3.out (fun _ hk => hk))); have n2_ := Aside0.mk ((by rw [hw]; exact below_set (below_set (below_set (below_set (below_set (below_set (below_set (HB.out) GB39.out) GB39.out) GB39.out) GB39.out) GB39.out) GB39.out) GB39.out : Below w.heap.size w w42)); clear HO_3; clear BK143; clear HB; have HO_3 := n0_; have BK143 := n1_; have HB := n2_; clear n0_ n1_ n2_; clear hg hw hp_)); try go_wp2_with (first | ((with_reducible refine gate_store (t := 97) (p := 68) rfl ?_); (try (rw [drewN_self wr]; generalize hq_ : World.drewN wr _ = wr; have n0_ := Aside0.mk (Kd.R_at hq_ HO_3.out); have n1_ := Aside0.mk (blk_at hq_ BK143.out); have n2_ := Aside0.mk (below_at hq_ HB.out); clear hq_ HO_3 BK143 HB; have HO_3 := n0_; have BK143 := n1_; have HB := n2_; clear n0_ n1_ n2_; (try (have HX41 := Aside0.mk (show Kd.R k97 97 wr w.heap.size (fun k_ => k_ ≠ gb143) (.slice (some ⟨go39, 0, none⟩) x3_4.length co27) x3_4 from (by (with_reducible repeat (first | apply Kd.R_alloc | apply Kd.R_drewN | apply Kd.R_drew)); exact HO_3.out)))); (try (obtain ⟨ce41, hcl41, hM41, hcc41, hfr41⟩ := Kd.R_elem HX41.out z97 (x6_6 : Int) (of_decide_eq_true (by first | (with_reducible assumption) | assumption)) (by have h_ : (x6_6 : Int) < ((x3_4.length : Int) : Int) := of_decide_eq_true (by first | (with_reducible assumption) | assumption); first | exact h_ | (have e_ := (Kd.R_reads' HO_3.out).1; omega) | simpa using h_))); (try (obtain rfl := k97_openM hM41)); (try (have HP41 := Kd.R_seg HX41.out (x6_6 : Int) (of_decide_eq_true (by first | (with_reducible assumption) | assumption)) (by have h_ : (x6_6 : Int) < ((x3_4.length : Int) : Int) := of_decide_eq_true (by first | (with_reducible assumption) | assumption); first | exact h_ | (have e_ := (Kd.R_reads' HO_3.out).1; omega) | simpa using h_) (seg := [.int .i64 x144000_4, .int .i64 x144001_4, .int .i64 x144002_4, .int .i64 x144003_4, .int .i64 x144004_4, .int .i64 x144005_4, .int .i64 x144006_4]) (j := 0) hcl41 hcc41 (show 7 ≤ 7 from by decide) (x' := (⟨x144000_4, x144001_4, (⟨x144002_4, x144003_4, x144004_4, x144005_4, x144006_4⟩ : S71)⟩ : S97)) (k97_mkM _ _ _ (⟨x144000_4, x144001_4, (⟨x144002_4, x144003_4, x144004_4, x144005_4, x144006_4⟩ : S71)⟩ : S97) ) (fun _ hk => hk))); (try (have hx41_0 := hcc41 0 _ rfl)); (try (try simp only [show (k97).sz = 7 from rfl, Nat.mul_one, Nat.add_zero] at hx41_0)); (try (have hf41_0 := hfr41 0)); (try (try simp only [show (k97).sz = 7 from rfl, Nat.mul_one, Nat.add_zero] at hf41_0)); (try (have hx41_1 := hcc41 1 _ rfl)); (try (try simp only [show (k97).sz = 7 from rfl, Nat.mul_one, Nat.add_zero] at hx41_1)); (try (have hf41_1 := hfr41 1)); (try (try simp only [show (k97).sz = 7 from rfl, Nat.mul_one, Nat.add_zero] at hf41_1)); (try (have hx41_2 := hcc41 2 _ rfl)); (try (try simp only [show (k97).sz = 7 from rfl, Nat.mul_one, Nat.add_zero] at hx41_2)); (try (have hf41_2 := hfr41 2)); (try (try simp only [show (k97).sz = 7 from rfl, Nat.mul_one, Nat.add_zero] at hf41_2)); (try (have hx41_3 := hcc41 3 _ rfl)); (try (try simp only [show (k97).sz = 7 from rfl, Nat.mul_one, Nat.add_zero] at hx41_3)); (try (have hf41_3 := hfr41 3)); (try (try simp only [show (k97).sz = 7 from rfl, Nat.mul_one, Nat.add_zero] at hf41_3)); (try (have hx41_4 := hcc41 4 _ rfl)); (try (try simp only [show (k97).sz = 7 from rfl, Nat.mul_one, Nat.add_zero] at hx41_4)); (try (have hf41_4 := hfr41 4)); (try (try simp only [show (k97).sz = 7 from rfl, Nat.mul_one, Nat.add_zero] at hf41_4)); (try (have hx41_5 := hcc41 5 _ rfl)); (try (try simp only [show (k97).sz = 7 from rfl, Nat.mul_one, Nat.add_zero] at hx41_5)); (try (have hf41_5 := hfr41 5)); (try (try simp only [show (k97).sz = 7 from rfl, Nat.mul_one, Nat.add_zero] at hf41_5)); (try (have hx41_6 := hcc41 6 _ rfl)); (try (try simp only [show (k97).sz = 7 from rfl, Nat.mul_one, Nat.add_zero] at hx41_6)); (try (have hf41_6 := hfr41 6)); (try (try simp only [show (k97).sz = 7 from rfl, Nat.mul_one, Nat.add_zero] at hf41_6)); (try (clear hcl41 hcc41 hfr41 hM41)))); refine store_event (t := 97) (p := 68) (v := ?vo_w42) (w1 := (((((((wr.setCell ⟨go39, (x6_6 : Int).toNat * 7, none⟩ (.int .i64 x144000_4)).setCell ⟨go39, (x6_6 : Int).toNat * 7 + 1, none⟩ (.int .i64 x144001_4)).setCell ⟨go39, (x6_6 : Int).toNat * 7 + 2, none⟩ (.int .i64 x144002_4)).setCell ⟨go39, (x6_6 : Int).toNat * 7 + 3, none⟩ (.int .i64 x144003_4)).setCell ⟨go39, (x6_6 : Int).toNat * 7 + 4, none⟩ (.int .i64 x144004_4)).setCell ⟨go39, (x6_6 : Int).toNat * 7 + 5, none⟩ (.int .i64 x144005_4)).setCell ⟨go39, (x6_6 : Int).toNat * 7 + 6, none⟩ (.int .i64 x144006_4))) ?hg ?ho ?hn ?hr ?_; (case ho => rfl); (case hg => rfl); (case hn => rfl); (case hr => first | (go_simp; done) | (go_simp; rfl)); intro w42 hw; have hg : wr.grownBy w42 (some go39) := (by rw [hw]; exact HP41.2); have hp_ : Kd.R k97 97 w42 w.heap.size (fun k_ => k_ ≠ gb143) (.slice (some ⟨go39, 0, none⟩) x3_4.length co27) y151 := (by rw [hw, Ny151.out]; exact HP41.1); clear HP41; have n0_ := Aside0.mk (hp_); have n1_ := Aside0.mk (blk_grown (g := gb143) (o := .cells #[.int .i64 x144000_4, .int .i64 x144001_4, .int .i64 x144002_4, .int .i64 x144003_4, .int .i64 x144004_4, .int .i64 x144005_4, .int .i64 x144006_4] 97 (0, 0)) (by (with_reducible repeat (first | refine blk_drewN ?_ _ | refine blk_drew ?_ | refine blk_alloc ?_ _)); exact BK143.out) hg (Kd.R_away HO_3.out (fun _ hk => hk))); have n2_ := Aside0.mk ((by rw [hw]; exact below_set (below_set (below_set (below_set (below_set (below_set (below_set (HB.out) GB39.out) GB39.out) GB39.out) GB39.out) GB39.out) GB39.out) GB39.out : Below w.heap.size w w42)); clear HO_3; clear BK143; clear HB; have HO_3 := n0_; have BK143 := n1_; have HB := n2_; clear n0_ n1_ n2_; clear hg hw hp_)))
                                  (try simp only [← hl3_4])
                                  go_roundg k4
                                  case measure => have := HK1.out; have := HJ6.out; have := HJ17.out; have := HK4.out; omega
                                  case rel => exact ⟨(y151), (wrap64 (x11_1 + 1)), (by first | rfl | (simp; done) | (simp [*]; done)), H', ⟨by have := HK1.out; have := HJ6.out; have := HJ17.out; have := HK4.out; omega⟩, ⟨by (try simp only [hl3_4]); (with_reducible repeat (first | apply Kd.R_alloc | apply Kd.R_drewN | apply Kd.R_drew)); exact Kd.R_mono HO_3.out (fun _ hk => trivial)⟩, ⟨by repeat (first | (with_reducible first | exact HB.out | apply below_alloc | apply pw_below_drewN | apply below_drew1 | refine below_set ?_ GE143.out) | exact HB.out)⟩⟩
                                · rw [if_neg c38] at H
                                  exact absurd H (by simp)
                              · rw [if_neg c37] at H
                                exact absurd H (by simp)
                      · rw [if_neg c25] at H
                        exact absurd H (by simp)
          · rw [if_neg c6] at H
            exact absurd H (by simp)
        · rw [if_neg c5] at H
          exact absurd H (by simp)
      · rw [if_neg c4] at H
        have c4b0 : decide (x11_1 < (l0.length : Int)) = false := decide_eq_false c4
        clear c4
        obtain rfl := Option.some.inj H
        go_wp2
        repeat (go_quiet (fail); try go_wp2)
        go_ret
        exact ⟨_, by first | rfl | (simp [errW_none, errW_some] <;> rfl) | (simp [*, errW_none, errW_some] <;> rfl), by (with_reducible repeat (first | apply Kd.R_alloc | apply Kd.R_drewN | apply Kd.R_drew)); exact HO_3.out, by repeat (first | (with_reducible first | exact HB.out | apply below_alloc | apply pw_below_drewN | apply below_drew1) | exact HB.out)⟩

end Go.Proofs.Ytikfdjgigeggjaa.MFnExactApplyNotes
