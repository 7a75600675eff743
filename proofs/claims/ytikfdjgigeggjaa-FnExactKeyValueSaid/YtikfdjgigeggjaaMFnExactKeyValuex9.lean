/- The functions that FnExactKeyValue reaches, each with its contract: the print's form, by wip/tools/myprint.py; no condition of its own. -/
import Derived.Test.YtikfdjgigeggjaaMFnExactKeyValuex0
import Derived.Test.YtikfdjgigeggjaaMFnExactKeyValuex8
namespace Go.Proofs.Ytikfdjgigeggjaa.MFnExactKeyValue
open Go.RowKit Go.Proofs.YtikfdjgigeggjaaW.PrintWords Go.Proofs.YtikfdjgigeggjaaW.PrintLast Go.Proofs.YtikfdjgigeggjaaW.PrintMore
attribute [local go_sem] max2_int min2_int max_two min_two max_three min_three max_four min_four   -- for this text's walks alone
set_option linter.unusedVariables false
set_option linter.unusedSimpArgs false

/-! ### spec_l07Values: function 97 -/
mutual
def spec_l07Values.l0 : Nat → Int → List Int → List (S74) → Int → Int → List (S151) → Int → Int → Int → List Int → Bool → List (S71) → List Int → List Int → Option (List Int)
  | 0, _, _, _, _, _, _, _, _, _, _, _, _, _, _ => none
  | k + 1, x1, x8, x25, x26, x27, x185000, x185001, x185002, x185003, x185004, x185005, x185006, x185007, x185008 => if x27 < x26 then (if 0 ≤ x27 then (if x27 < (x25.length : Int) then (if x1 = 1 then (if x27 < (x185008.length : Int) then (if x8.length < 17592186044416 then (spec_l07Values.l0 k x1 (x8 ++ [wrap64 (((rd_T74 x25 x27).f6) - (rd x185008 x27))]) x25 x26 (wrap64 (x27 + 1)) x185000 x185001 x185002 x185003 x185004 x185005 x185006 x185007 x185008) else (none)) else (none)) else (if x1 = 5 then (if x8.length < 17592186044416 then (spec_l07Values.l0 k x1 (x8 ++ [(rd_T74 x25 x27).f6]) x25 x26 (wrap64 (x27 + 1)) x185000 x185001 x185002 x185003 x185004 x185005 x185006 x185007 x185008) else (none)) else (if x1 = 2 then (spec_l07Values.j1 k x1 x8 x27 0 x25 x26 x27 x1 (x1 == 2) x185000 x185001 x185002 x185003 x185004 x185005 x185006 x185007 x185008 ((rd_T74 x25 x27).f0) ((rd_T74 x25 x27).f1) ((rd_T74 x25 x27).f2) ((rd_T74 x25 x27).f3) ((rd_T74 x25 x27).f4) ((rd_T74 x25 x27).f5) ((rd_T74 x25 x27).f6)) else (spec_l07Values.j1 k x1 x8 x27 0 x25 x26 x27 x1 (x1 == 6) x185000 x185001 x185002 x185003 x185004 x185005 x185006 x185007 x185008 ((rd_T74 x25 x27).f0) ((rd_T74 x25 x27).f1) ((rd_T74 x25 x27).f2) ((rd_T74 x25 x27).f3) ((rd_T74 x25 x27).f4) ((rd_T74 x25 x27).f5) ((rd_T74 x25 x27).f6))))) else (none)) else (none)) else (some x8)
def spec_l07Values.j1 : Nat → Int → List Int → Int → Int → List (S74) → Int → Int → Int → Bool → List (S151) → Int → Int → Int → List Int → Bool → List (S71) → List Int → List Int → Int → Int → Int → Int → Int → Int → Int → Option (List Int)
  | 0, _, _, _, _, _, _, _, _, _, _, _, _, _, _, _, _, _, _, _, _, _, _, _, _, _ => none
  | k + 1, x1, x8, x9, x11, x25, x26, x27, x32, x47, x185000, x185001, x185002, x185003, x185004, x185005, x185006, x185007, x185008, x194000, x194001, x194002, x194003, x194004, x194005, x194006 => if x47 = true then ((spec_DifferenceOf.f x194000 x194001 x194002 x194003 x194004 x194005 x194006).bind fun t201 => (if x8.length < 17592186044416 then (spec_l07Values.l0 k x1 (x8 ++ [t201]) x25 x26 (wrap64 (x27 + 1)) x185000 x185001 x185002 x185003 x185004 x185005 x185006 x185007 x185008) else (none))) else (if x32 = 3 then (if x8.length < 17592186044416 then (spec_l07Values.l0 k x1 (x8 ++ [x194004]) x25 x26 (wrap64 (x27 + 1)) x185000 x185001 x185002 x185003 x185004 x185005 x185006 x185007 x185008) else (none)) else (if x32 = 4 then (if x8.length < 17592186044416 then (spec_l07Values.l0 k x1 (x8 ++ [x194001]) x25 x26 (wrap64 (x27 + 1)) x185000 x185001 x185002 x185003 x185004 x185005 x185006 x185007 x185008) else (none)) else (if x32 = 7 then (if 0 ≤ x9 then (if x9 < (x185007.length : Int) then (if x8.length < 17592186044416 then (spec_l07Values.l0 k x1 (x8 ++ [wrap64 (-(rd x185007 x9))]) x25 x26 (wrap64 (x27 + 1)) x185000 x185001 x185002 x185003 x185004 x185005 x185006 x185007 x185008) else (none)) else (none)) else (none)) else (if x32 = 8 then (if 0 ≤ x9 then (if x9 < (x185000.length : Int) then (if x8.length < 17592186044416 then (spec_l07Values.l0 k x1 (x8 ++ [wrap64 (-((rd_T151 x185000 x9).f2))]) x25 x26 (wrap64 (x27 + 1)) x185000 x185001 x185002 x185003 x185004 x185005 x185006 x185007 x185008) else (none)) else (none)) else (none)) else (if x8.length < 17592186044416 then (spec_l07Values.l0 k x1 (x8 ++ [x11]) x25 x26 (wrap64 (x27 + 1)) x185000 x185001 x185002 x185003 x185004 x185005 x185006 x185007 x185008) else (none))))))
end
def spec_l07Values.f (k : Nat) (l0_0 : List (S151)) (a0_1 : Int) (a0_2 : Int) (a0_3 : Int) (l0_4 : List Int) (a0_5 : Bool) (l0_6 : List (S71)) (l0_7 : List Int) (l0_8 : List Int) (a1 : Int) (l2 : List Int) : Option (List Int) := (spec_IsMutual.f a1).bind fun t185 => ((spec_l06Among.f k a0_1 a0_2 a0_3 l0_4 a0_5 (l0_0.length : Int) l0_6 l2 (!t185)).bind fun t186 => (spec_l07Values.l0 k a1 (([] : List Int)) t186 (t186.length : Int) 0 l0_0 a0_1 a0_2 a0_3 l0_4 a0_5 l0_6 l0_7 l0_8))
theorem spec_l07Values.mono_l : ∀ k, (∀ y0 y1 y2 y3 y4 y5 y6 y7 y8 y9 y10 y11 y12 y13, LeO (spec_l07Values.l0 k y0 y1 y2 y3 y4 y5 y6 y7 y8 y9 y10 y11 y12 y13) (spec_l07Values.l0 (k + 1) y0 y1 y2 y3 y4 y5 y6 y7 y8 y9 y10 y11 y12 y13)) ∧ (∀ y0 y1 y2 y3 y4 y5 y6 y7 y8 y9 y10 y11 y12 y13 y14 y15 y16 y17 y18 y19 y20 y21 y22 y23 y24, LeO (spec_l07Values.j1 k y0 y1 y2 y3 y4 y5 y6 y7 y8 y9 y10 y11 y12 y13 y14 y15 y16 y17 y18 y19 y20 y21 y22 y23 y24) (spec_l07Values.j1 (k + 1) y0 y1 y2 y3 y4 y5 y6 y7 y8 y9 y10 y11 y12 y13 y14 y15 y16 y17 y18 y19 y20 y21 y22 y23 y24))
  | 0 => ⟨fun _ _ _ _ _ _ _ _ _ _ _ _ _ _ r h => by simp [spec_l07Values.l0] at h, fun _ _ _ _ _ _ _ _ _ _ _ _ _ _ _ _ _ _ _ _ _ _ _ _ _ r h => by simp [spec_l07Values.j1] at h⟩
  | k + 1 => by
    obtain ⟨ih0, ih1⟩ := spec_l07Values.mono_l k
    refine ⟨?_, ?_⟩
    · intro y0 y1 y2 y3 y4 y5 y6 y7 y8 y9 y10 y11 y12 y13
      unfold spec_l07Values.l0
      repeat' first
      | (with_reducible exact ih0 _ _ _ _ _ _ _ _ _ _ _ _ _ _)
      | (with_reducible exact ih1 _ _ _ _ _ _ _ _ _ _ _ _ _ _ _ _ _ _ _ _ _ _ _ _ _)
      | (with_reducible exact spec_l06Among.mono _ _ _ _ _ _ _ _ _ _)
      | (with_reducible exact LeO.refl _)
      | (with_reducible exact LeO.none _)
      | (with_reducible refine LeO.ite ?_ ?_)
      | (with_reducible refine LeO.bind ?_ (fun _ => ?_))
      | exact ih0 _ _ _ _ _ _ _ _ _ _ _ _ _ _
      | exact ih1 _ _ _ _ _ _ _ _ _ _ _ _ _ _ _ _ _ _ _ _ _ _ _ _ _
      | exact spec_l06Among.mono _ _ _ _ _ _ _ _ _ _
      | exact LeO.none _
      | refine LeO.ite ?_ ?_
      | refine LeO.bind ?_ (fun _ => ?_)
    · intro y0 y1 y2 y3 y4 y5 y6 y7 y8 y9 y10 y11 y12 y13 y14 y15 y16 y17 y18 y19 y20 y21 y22 y23 y24
      unfold spec_l07Values.j1
      repeat' first
      | (with_reducible exact ih0 _ _ _ _ _ _ _ _ _ _ _ _ _ _)
      | (with_reducible exact ih1 _ _ _ _ _ _ _ _ _ _ _ _ _ _ _ _ _ _ _ _ _ _ _ _ _)
      | (with_reducible exact spec_l06Among.mono _ _ _ _ _ _ _ _ _ _)
      | (with_reducible exact LeO.refl _)
      | (with_reducible exact LeO.none _)
      | (with_reducible refine LeO.ite ?_ ?_)
      | (with_reducible refine LeO.bind ?_ (fun _ => ?_))
      | exact ih0 _ _ _ _ _ _ _ _ _ _ _ _ _ _
      | exact ih1 _ _ _ _ _ _ _ _ _ _ _ _ _ _ _ _ _ _ _ _ _ _ _ _ _
      | exact spec_l06Among.mono _ _ _ _ _ _ _ _ _ _
      | exact LeO.none _
      | refine LeO.ite ?_ ?_
      | refine LeO.bind ?_ (fun _ => ?_)
theorem spec_l07Values.mono : ∀ a0 a1 a2 a3 a4 a5 a6 a7 a8 a9 a10 k, LeO (spec_l07Values.f k a0 a1 a2 a3 a4 a5 a6 a7 a8 a9 a10) (spec_l07Values.f (k + 1) a0 a1 a2 a3 a4 a5 a6 a7 a8 a9 a10) := by
  intro a0 a1 a2 a3 a4 a5 a6 a7 a8 a9 a10 k
  obtain ⟨ih0, ih1⟩ := spec_l07Values.mono_l k
  unfold spec_l07Values.f
  repeat' first
      | (with_reducible exact ih0 _ _ _ _ _ _ _ _ _ _ _ _ _ _)
      | (with_reducible exact ih1 _ _ _ _ _ _ _ _ _ _ _ _ _ _ _ _ _ _ _ _ _ _ _ _ _)
      | (with_reducible exact spec_l06Among.mono _ _ _ _ _ _ _ _ _ _)
      | (with_reducible exact LeO.refl _)
      | (with_reducible exact LeO.none _)
      | (with_reducible refine LeO.ite ?_ ?_)
      | (with_reducible refine LeO.bind ?_ (fun _ => ?_))
      | exact ih0 _ _ _ _ _ _ _ _ _ _ _ _ _ _
      | exact ih1 _ _ _ _ _ _ _ _ _ _ _ _ _ _ _ _ _ _ _ _ _ _ _ _ _
      | exact spec_l06Among.mono _ _ _ _ _ _ _ _ _ _
      | exact LeO.none _
      | refine LeO.ite ?_ ?_
      | refine LeO.bind ?_ (fun _ => ?_)
def spec_l07Values.T1 : Bool × List (List Nat × List Nat) := (true, [([], []), ([0], [0]), ([], []), ([2], [2]), ([3], [3]), ([], []), ([5], [5]), ([], []), ([], []), ([8], [8]), ([9], [9]), ([1, 4, 6, 7, 10, 9], [1, 4, 6, 7, 10]), ([11, 11, 0, 1, 2, 3, 4, 5, 6, 7, 8, 9, 10, 11], [11])])
def spec_l07Values.B1 : List Nat := [0, 1, 0, 4, 12, 0, 32, 0, 0, 256, 768, 2047, 4095]
theorem spec_l07Values.tab1 : rtab .any (opsOf Try.f97 1) = spec_l07Values.T1 := by kernel_rfl
theorem spec_l07Values.bits1 : waitsOk spec_l07Values.T1.2 spec_l07Values.B1 = true := by kernel_rfl
def spec_l07Values.T9 : Bool × List (List Nat × List Nat) := (true, [([], []), ([0], [0]), ([], []), ([2], [2]), ([], []), ([3, 4], [3, 4]), ([5], [5]), ([1, 6], [1, 6]), ([7, 0, 1, 2, 3, 4, 5, 6, 7], [7])])
def spec_l07Values.B9 : List Nat := [0, 1, 0, 4, 0, 28, 60, 127, 255]
theorem spec_l07Values.tab9 : rtab .any (opsOf Try.f97 9) = spec_l07Values.T9 := by kernel_rfl
theorem spec_l07Values.bits9 : waitsOk spec_l07Values.T9.2 spec_l07Values.B9 = true := by kernel_rfl
set_option maxHeartbeats 8000000 in
set_option maxRecDepth 100000 in
theorem spec_l07Values.calls (k : Nat) (A0_0 : Option Addr) (c0_0 : Nat) (l0_0 : List (S151)) (a0_1 : Int) (a0_2 : Int) (a0_3 : Int) (A0_4 : Option Addr) (c0_4 : Nat) (l0_4 : List Int) (a0_5 : Bool) (A0_6 : Option Addr) (c0_6 : Nat) (l0_6 : List (S71)) (A0_7 : Option Addr) (c0_7 : Nat) (l0_7 : List Int) (A0_8 : Option Addr) (c0_8 : Nat) (l0_8 : List Int) (a1 : Int) (A2 : Option Addr) (c2 : Nat) (l2 : List Int) (r : List Int) (w : World) (hr0_0 : Kd.C k151 w A0_0 l0_0.length l0_0) (hc0_0 : l0_0.length ≤ c0_0) (hr0_4 : Kd.C (Kd.int .i64) w A0_4 l0_4.length l0_4) (hc0_4 : l0_4.length ≤ c0_4) (hr0_6 : Kd.C k71 w A0_6 l0_6.length l0_6) (hc0_6 : l0_6.length ≤ c0_6) (hr0_7 : Kd.C (Kd.int .i64) w A0_7 l0_7.length l0_7) (hc0_7 : l0_7.length ≤ c0_7) (hr0_8 : Kd.C (Kd.int .i64) w A0_8 l0_8.length l0_8) (hc0_8 : l0_8.length ≤ c0_8) (hr2 : Kd.C (Kd.int .i64) w A2 l2.length l2) (hc2 : l2.length ≤ c2) (h : spec_l07Values.f k l0_0 a0_1 a0_2 a0_3 l0_4 a0_5 l0_6 l0_7 l0_8 a1 l2 = some r) :
    Calls Try.prog 97 #[.agg #[.slice A0_0 l0_0.length c0_0, .int .i64 a0_1, .int .i64 a0_2, .int .i64 a0_3, .slice A0_4 l0_4.length c0_4, .bool a0_5, .slice A0_6 l0_6.length c0_6, .slice A0_7 l0_7.length c0_7, .slice A0_8 l0_8.length c0_8], .int .i64 a1, .slice A2 l2.length c2] w fun e w' => ∃ v0_ : Value, e = .returned (v0_) ∧ Kd.R (Kd.int .i64) 3 w' w.heap.size (fun _ => True) v0_ r ∧ Below w.heap.size w w' := by
  have hu67 := Try.underlying67
  have hu25 := Try.underlying25
  have hu74 := Try.underlying74
  have HR0_0 := Aside0.mk hr0_0
  have HC0_0 := Aside0.mk hc0_0
  clear hr0_0 hc0_0
  have HR0_4 := Aside0.mk hr0_4
  have HC0_4 := Aside0.mk hc0_4
  clear hr0_4 hc0_4
  have HR0_6 := Aside0.mk hr0_6
  have HC0_6 := Aside0.mk hc0_6
  clear hr0_6 hc0_6
  have HR0_7 := Aside0.mk hr0_7
  have HC0_7 := Aside0.mk hc0_7
  clear hr0_7 hc0_7
  have HR0_8 := Aside0.mk hr0_8
  have HC0_8 := Aside0.mk hc0_8
  clear hr0_8 hc0_8
  have HR2 := Aside0.mk hr2
  have HC2 := Aside0.mk hc2
  clear hr2 hc2
  have HB := Aside0.mk (Below.refl w.heap.size w)
  have H : ((spec_IsMutual.f a1).bind fun t185 => ((spec_l06Among.f k a0_1 a0_2 a0_3 l0_4 a0_5 (l0_0.length : Int) l0_6 l2 (!t185)).bind fun t186 => (spec_l07Values.l0 k a1 (([] : List Int)) t186 (t186.length : Int) 0 l0_0 a0_1 a0_2 a0_3 l0_4 a0_5 l0_6 l0_7 l0_8))) = some r := h
  clear h
  replace H := Option.bind_eq_some_iff.mp H
  obtain ⟨t185, A40, H⟩ := H
  try dsimp only at H
  have A4 := Aside0.mk A40
  clear A40
  replace H := Option.bind_eq_some_iff.mp H
  obtain ⟨t186, A50, H⟩ := H
  try dsimp only at H
  have A5 := Aside0.mk A50
  clear A50
  obtain ⟨y189, hy189⟩ : ∃ y_ : List Int, y_ = (([] : List Int)) := ⟨_, rfl⟩
  replace H : (spec_l07Values.l0 k a1 y189 t186 (t186.length : Int) 0 l0_0 a0_1 a0_2 a0_3 l0_4 a0_5 l0_6 l0_7 l0_8) = some r := by first | (rw [hy189]; with_reducible exact H) | (have H2_ := (Option.bind_some _ _).symm.trans H; rw [hy189]; with_reducible exact H2_) | (have H2_ := (Option.bind_some _ _).symm.trans H; with_reducible exact H2_) | with_reducible exact H | (rw [hy189]; exact H) | exact H
  have Ny189 := Aside0.mk hy189
  clear hy189
  have H' := Aside0.mk H
  clear H
  go_enter Try.func97, Try.ntmps97
  try go_wp2_with (first | ((with_reducible refine gate_dst (N := 3) rfl ?_); refine box_event ?hg (N := 3) ?hd (cs := #[.slice A0_0 l0_0.length c0_0, .int .i64 a0_1, .int .i64 a0_2, .int .i64 a0_3, .slice A0_4 l0_4.length c0_4, .bool a0_5, .slice A0_6 l0_6.length c0_6, .slice A0_7 l0_7.length c0_7, .slice A0_8 l0_8.length c0_8]) (t := 67) ?hr ?_; (case hd => rfl); (case hg => rfl); (case hr => first | (go_simp; done) | (go_simp; rfl)); intro gb184 hg w6 hbox hb; have n0_ := Aside0.mk (below_step qB hb); have n1_ := Aside0.mk (hbox); have n2_ := Aside0.mk ((qG hg : w.heap.size ≤ gb184)); have n3_ := Aside0.mk ((qG hg : w.heap.size ≤ gb184)); clear HB; have HB := n0_; have BK184 := n1_; have GW184 := n2_; have GE184 := n3_; clear n0_ n1_ n2_ n3_; clear hb hbox hg))
  have n0_ := Aside0.mk (blk_drew BK184.out)
  have n1_ := Aside0.mk (below_drew1 HB.out)
  clear BK184
  clear HB
  have BK184 := n0_
  have HB := n1_
  clear n0_ n1_
  refine start_ (n := 13) (S := fun w' => w'.cell? ⟨gb184, 0, none⟩ = some (.slice A0_0 l0_0.length c0_0) ∧ w'.cell? ⟨gb184, 1, none⟩ = some (.int .i64 a0_1) ∧ w'.cell? ⟨gb184, 2, none⟩ = some (.int .i64 a0_2) ∧ w'.cell? ⟨gb184, 3, none⟩ = some (.int .i64 a0_3) ∧ w'.cell? ⟨gb184, 4, none⟩ = some (.slice A0_4 l0_4.length c0_4) ∧ w'.cell? ⟨gb184, 5, none⟩ = some (.bool a0_5) ∧ w'.cell? ⟨gb184, 6, none⟩ = some (.slice A0_6 l0_6.length c0_6) ∧ w'.cell? ⟨gb184, 7, none⟩ = some (.slice A0_7 l0_7.length c0_7) ∧ w'.cell? ⟨gb184, 8, none⟩ = some (.slice A0_8 l0_8.length c0_8)) (ds := []) #[false, false, false, false, false, false, false, false, false, false, false, false, false] (by kernel_rfl) rfl rfl ⟨(blk_cell BK184.out 0).trans rfl, (blk_cell BK184.out 1).trans rfl, (blk_cell BK184.out 2).trans rfl, (blk_cell BK184.out 3).trans rfl, (blk_cell BK184.out 4).trans rfl, (blk_cell BK184.out 5).trans rfl, (blk_cell BK184.out 6).trans rfl, (blk_cell BK184.out 7).trans rfl, (blk_cell BK184.out 8).trans rfl⟩ (fun hHeld => ?_); refine with_tabW spec_l07Values.tab1 spec_l07Values.bits1 (fun HT_ HW_ => ?_)
  generalize w6.drew = w7 at BK184 HB hHeld ⊢
  refine pure_ (i := 0) (N := some 12) (v := ?_) (a' := ?_) #[true, false, false, false, false, false, false, false, false, false, false, false, false] rfl rfl (any_of HT_.out (by kernel_rfl)) (fun _ _ _ h => h) (Or.inl ⟨by rfl, ?_⟩) ?_ ?_
  rotate_left
  · intro w'
    go_simp
    with_reducible rfl
  rotate_left
  · simp only [Act.put, List.setIfInBounds_toArray, List.set_cons_zero, List.set_cons_succ, i64_w, i32_w]
    rfl
  refine pure_ (i := 2) (N := some 14) (v := ?_) (a' := ?_) #[true, false, true, false, false, false, false, false, false, false, false, false, false] rfl rfl (any_of HT_.out (by kernel_rfl)) (fun _ _ _ h => h) (Or.inl ⟨by rfl, ?_⟩) ?_ ?_
  rotate_left
  · intro w'
    go_simp
    with_reducible rfl
  rotate_left
  · simp only [Act.put, List.setIfInBounds_toArray, List.set_cons_zero, List.set_cons_succ, i64_w, i32_w]
    rfl
  refine pure_ (i := 5) (N := some 17) (v := ?_) (a' := ?_) #[true, false, true, false, false, true, false, false, false, false, false, false, false] rfl rfl (any_of HT_.out (by kernel_rfl)) (fun _ _ _ h => h) (Or.inl ⟨by rfl, ?_⟩) ?_ ?_
  rotate_left
  · intro w'
    go_simp
    with_reducible rfl
  rotate_left
  · simp only [Act.put, List.setIfInBounds_toArray, List.set_cons_zero, List.set_cons_succ, i64_w, i32_w]
    rfl
  refine pure_ (i := 7) (N := some 19) (v := ?_) (a' := ?_) #[true, false, true, false, false, true, false, true, false, false, false, false, false] rfl rfl (any_of HT_.out (by kernel_rfl)) (fun _ _ _ h => h) (Or.inl ⟨by rfl, ?_⟩) ?_ ?_
  rotate_left
  · intro w'
    go_simp
    with_reducible rfl
  rotate_left
  · simp only [Act.put, List.setIfInBounds_toArray, List.set_cons_zero, List.set_cons_succ, i64_w, i32_w]
    rfl
  refine pure_ (i := 8) (N := some 20) (v := ?_) (a' := ?_) #[true, false, true, false, false, true, false, true, true, false, false, false, false] rfl rfl (any_of HT_.out (by kernel_rfl)) (fun _ _ _ h => h) (Or.inl ⟨by rfl, ?_⟩) ?_ ?_
  rotate_left
  · intro w'
    go_simp
    with_reducible rfl
  rotate_left
  · simp only [Act.put, List.setIfInBounds_toArray, List.set_cons_zero, List.set_cons_succ, i64_w, i32_w]
    rfl
  refine take_ (i := 1) (N := some 13) (v := ?_) (a' := ?_) #[true, true, true, false, false, true, false, true, true, false, false, false, false] rfl rfl (take_ofW HT_.out HW_.out (by kernel_rfl)) (fun _ _ _ h => h) (Or.inl ⟨by rfl, ?_⟩) hHeld ?_ ?_
  rotate_left
  · rintro w' ⟨s0, s1, s2, s3, s4, s5, s6, s7, s8⟩
    go_simp
    with_reducible rfl
  rotate_left
  · simp only [Act.put, List.setIfInBounds_toArray, List.set_cons_zero, List.set_cons_succ, i64_w, i32_w]
    rfl
  refine take_ (i := 3) (N := some 15) (v := ?_) (a' := ?_) #[true, true, true, true, false, true, false, true, true, false, false, false, false] rfl rfl (take_ofW HT_.out HW_.out (by kernel_rfl)) (fun _ _ _ h => h) (Or.inl ⟨by rfl, ?_⟩) hHeld ?_ ?_
  rotate_left
  · rintro w' ⟨s0, s1, s2, s3, s4, s5, s6, s7, s8⟩
    go_simp
    with_reducible rfl
  rotate_left
  · simp only [Act.put, List.setIfInBounds_toArray, List.set_cons_zero, List.set_cons_succ, i64_w, i32_w]
    rfl
  refine pure_ (i := 4) (N := some 16) (v := ?_) (a' := ?_) #[true, true, true, true, true, true, false, true, true, false, false, false, false] rfl rfl (any_of HT_.out (by kernel_rfl)) (fun _ _ _ h => h) (Or.inl ⟨by rfl, ?_⟩) ?_ ?_
  rotate_left
  · intro w'
    go_simp
    with_reducible rfl
  rotate_left
  · simp only [Act.put, List.setIfInBounds_toArray, List.set_cons_zero, List.set_cons_succ, i64_w, i32_w]
    rfl
  refine take_ (i := 6) (N := some 18) (v := ?_) (a' := ?_) #[true, true, true, true, true, true, true, true, true, false, false, false, false] rfl rfl (take_ofW HT_.out HW_.out (by kernel_rfl)) (fun _ _ _ h => h) (Or.inl ⟨by rfl, ?_⟩) hHeld ?_ ?_
  rotate_left
  · rintro w' ⟨s0, s1, s2, s3, s4, s5, s6, s7, s8⟩
    go_simp
    with_reducible rfl
  rotate_left
  · simp only [Act.put, List.setIfInBounds_toArray, List.set_cons_zero, List.set_cons_succ, i64_w, i32_w]
    rfl
  refine one_ (i := 9) (N := some 21) #[true, true, true, true, true, true, true, true, true, true, false, false, false] rfl rfl (one_of HT_.out (by kernel_rfl)) (by decide) (fun K hK => ?_)
  refine goes_ Try.func120 (by kernel_rfl) rfl #[.int .i64 a1] (by rfl) rfl rfl qM ?_
  with_reducible refine (spec_IsMutual.calls a1 t185 _ A4.out).mono ?_
  rintro e w' ⟨rfl, ⟨nd, rfl⟩⟩
  refine ⟨_, rfl, ?_⟩
  refine hK.out _ _ ⟨(blk_cell BK184.out 0).trans rfl, (blk_cell BK184.out 1).trans rfl, (blk_cell BK184.out 2).trans rfl, (blk_cell BK184.out 3).trans rfl, (blk_cell BK184.out 4).trans rfl, (blk_cell BK184.out 5).trans rfl, (blk_cell BK184.out 6).trans rfl, (blk_cell BK184.out 7).trans rfl, (blk_cell BK184.out 8).trans rfl⟩ (fun hHeld => ?_)
  clear hK K
  refine norm_ (a' := ?_) ?_ ?_
  rotate_left
  · show Act.put _ (some 21) _ = _
    simp only [Act.put, List.setIfInBounds_toArray, List.set_cons_zero, List.set_cons_succ, i64_w, i32_w]
    rfl
  refine pure_ (i := 10) (N := some 22) (v := ?_) (a' := ?_) #[true, true, true, true, true, true, true, true, true, true, true, false, false] rfl rfl (any_of HT_.out (by kernel_rfl)) (fun _ _ _ h => h) (Or.inl ⟨by rfl, ?_⟩) ?_ ?_
  rotate_left
  · intro w'
    go_simp
    with_reducible rfl
  rotate_left
  · simp only [Act.put, List.setIfInBounds_toArray, List.set_cons_zero, List.set_cons_succ, i64_w, i32_w]
    rfl
  refine one_ (i := 11) (N := some 23) #[true, true, true, true, true, true, true, true, true, true, true, true, false] rfl rfl (one_of HT_.out (by kernel_rfl)) (by decide) (fun K hK => ?_)
  refine goes_ Try.func85 (by kernel_rfl) rfl #[.agg #[.int .i64 a0_1, .int .i64 a0_2, .int .i64 a0_3, .slice A0_4 l0_4.length c0_4, .bool a0_5], .int .i64 (l0_0.length : Int), .slice A0_6 l0_6.length c0_6, .slice A2 l2.length c2, .bool (!t185)] (by rfl) rfl rfl qM ?_
  with_reducible refine (spec_l06Among.calls k a0_1 a0_2 a0_3 _ _ l0_4 a0_5 (l0_0.length : Int) _ _ l0_6 _ _ l2 (!t185) t186 _ ?side1 ?side2 ?side3 ?side4 ?side5 ?side6 A5.out).mono ?_
  (case side1 => repeat (first | exact (Kd.C_below HR0_4.out qB) | (with_reducible refine Kd.C_alloc ?_ _) | (with_reducible refine Kd.C_drewN ?_ _) | (with_reducible refine Kd.C_drew ?_)))
  (case side2 => exact HC0_4.out)
  (case side3 => repeat (first | exact (Kd.C_below HR0_6.out qB) | (with_reducible refine Kd.C_alloc ?_ _) | (with_reducible refine Kd.C_drewN ?_ _) | (with_reducible refine Kd.C_drew ?_)))
  (case side4 => exact HC0_6.out)
  (case side5 => repeat (first | exact (Kd.C_below HR2.out qB) | (with_reducible refine Kd.C_alloc ?_ _) | (with_reducible refine Kd.C_drewN ?_ _) | (with_reducible refine Kd.C_drew ?_)))
  (case side6 => exact HC2.out)
  rintro e w8 ⟨v187, rfl, ho0, hb⟩
  refine ⟨_, rfl, ?_⟩
  have n0_ := Aside0.mk (Kd.R_lower ho0 (below_size qB))
  have n1_ := Aside0.mk (qL BK184.out hb)
  have n2_ := Aside0.mk (below_step qB hb)
  clear BK184
  clear HB
  have HO188 := n0_
  have BK184 := n1_
  have HB := n2_
  clear n0_ n1_ n2_
  (try clear hb)
  (try clear hb2)
  (try clear hk)
  (try clear hi)
  (try clear ho0)
  refine hK.out _ _ ⟨(blk_cell BK184.out 0).trans rfl, (blk_cell BK184.out 1).trans rfl, (blk_cell BK184.out 2).trans rfl, (blk_cell BK184.out 3).trans rfl, (blk_cell BK184.out 4).trans rfl, (blk_cell BK184.out 5).trans rfl, (blk_cell BK184.out 6).trans rfl, (blk_cell BK184.out 7).trans rfl, (blk_cell BK184.out 8).trans rfl⟩ (fun hHeld => ?_)
  clear hK K
  refine norm_ (a' := ?_) ?_ ?_
  rotate_left
  · show Act.put _ (some 23) _ = _
    simp only [Act.put, List.setIfInBounds_toArray, List.set_cons_zero, List.set_cons_succ, i64_w, i32_w]
    rfl
  refine pure_ (i := 12) (N := some 7) (v := ?_) (a' := ?_) #[true, true, true, true, true, true, true, true, true, true, true, true, true] rfl rfl (any_of HT_.out (by kernel_rfl)) (fun _ _ _ h => h) (Or.inl ⟨by rfl, ?_⟩) ?_ ?_
  rotate_left
  · intro w'
    go_simp
    with_reducible rfl
  rotate_left
  · simp only [Act.put, List.setIfInBounds_toArray, List.set_cons_zero, List.set_cons_succ, i64_w, i32_w]
    rfl
  refine done_ (done_of HT_.out (by kernel_rfl)) ?_
  try go_wp2_with (first | ((with_reducible refine gate_dst (N := 24) rfl ?_); refine Kd.R_lit (Kd.int .i64) _ 3 ?hg (N := 24) ?hd (xs := ([] : List Int)) (inner := []) (ok := fun _ => True) (okp := fun _ => True) ?hr ?hp (fun _ hk => hk) trivial (Below.refl _ _) (Nat.le_refl _) (by simp) ?_; (case hd => rfl); (case hg => rfl); (case hr => first | (go_simp; done) | (go_simp; rfl)); (case hp => exact (Reps.none _ _)); intro v190 w9 ho10 hb hg_ hnew_; clear hg_ hnew_; (first | rw [← Ny189.out] at ho10 | (simp only [Int.reduceToNat] at ho10; rw [← Ny189.out] at ho10)); have n0_ := Aside0.mk (Kd.R_below (qR HO188.out) hb); have n1_ := Aside0.mk (Kd.R_lower ho10 (below_size qB)); have n2_ := Aside0.mk (qL BK184.out hb); have n3_ := Aside0.mk (below_step qB hb); clear HO188; clear BK184; clear HB; have HO188 := n0_; have HO191 := n1_; have BK184 := n2_; have HB := n3_; clear n0_ n1_ n2_ n3_; clear hb ho10; obtain ⟨Ao11, co11, eo11⟩ := Kd.R_slice HO188.out; subst eo11))
  go_loopg [8, 27] k (fun kq v8 v27 w' => ∃ (x8_1 : List Int) (x27_1 : Int), v27 = .int .i64 x27_1 ∧ Aside0 (spec_l07Values.l0 kq a1 x8_1 t186 (t186.length : Int) x27_1 l0_0 a0_1 a0_2 a0_3 l0_4 a0_5 l0_6 l0_7 l0_8 = some r) ∧ Aside0 (kq ≤ k) ∧ Aside0 (Kd.R (Kd.int .i64) 3 w' w.heap.size (fun _ => True) v8 x8_1) ∧ Aside0 (Kd.R k74 74 w' w.heap.size (fun _ => True) (.slice Ao11 t186.length co11) t186) ∧ Aside0 (w'.heap[gb184]? = some (.cells #[(.slice A0_0 l0_0.length c0_0), .int .i64 a0_1, .int .i64 a0_2, .int .i64 a0_3, (.slice A0_4 l0_4.length c0_4), .bool a0_5, (.slice A0_6 l0_6.length c0_6), (.slice A0_7 l0_7.length c0_7), (.slice A0_8 l0_8.length c0_8)] 67 (0, 0))) ∧ Aside0 (Below w.heap.size w w'))
  case atStart => exact ⟨(y189), (0), qS, H', ⟨Nat.le_refl _⟩, ⟨qR HO191.out⟩, ⟨qR HO188.out⟩, ⟨qK BK184.out⟩, ⟨qB⟩⟩
  case round =>
    clear H'
    try clear c1
    try clear c2
    try clear p2
    try clear c8
    try clear c9
    obtain ⟨x8_1, x27_1, rfl, HA, HK1, HO_8, HO_25, BK184, HB⟩ := hrel
    cases gk with
    | zero => exact absurd HA.out (by simp [spec_l07Values.l0])
    | succ k1 =>
      have H := HA.out
      clear HA
      simp only [spec_l07Values.l0] at H
      by_cases c12 : x27_1 < (t186.length : Int)
      · rw [if_pos c12] at H
        have c12b0 : decide (x27_1 < (t186.length : Int)) = true := decide_eq_true c12
        clear c12
        by_cases c13 : 0 ≤ x27_1
        · rw [if_pos c13] at H
          have c13b0 : decide (0 ≤ x27_1) = true := decide_eq_true c13
          clear c13
          by_cases c14 : x27_1 < (t186.length : Int)
          · rw [if_pos c14] at H
            have c14b0 : decide (x27_1 < (t186.length : Int)) = true := decide_eq_true c14
            clear c14
            by_cases c15 : a1 = 1
            · rw [if_pos c15] at H
              have c15b0 : (a1 == 1) = true := beq_iff_eq.mpr c15
              have c15b1 : (a1 != 1) = false := bne_eq_false_iff_eq.mpr c15
              clear c15
              by_cases c16 : x27_1 < (l0_8.length : Int)
              · rw [if_pos c16] at H
                have c16b0 : decide (x27_1 < (l0_8.length : Int)) = true := decide_eq_true c16
                clear c16
                by_cases c17 : x8_1.length < 17592186044416
                · rw [if_pos c17] at H
                  have LMc17 := Aside0.mk c17
                  clear c17
                  obtain ⟨y195, hy195⟩ : ∃ y_ : List Int, y_ = (x8_1 ++ [wrap64 (((rd_T74 t186 x27_1).f6) - (rd l0_8 x27_1))]) := ⟨_, rfl⟩
                  replace H : (spec_l07Values.l0 k1 a1 y195 t186 (t186.length : Int) (wrap64 (x27_1 + 1)) l0_0 a0_1 a0_2 a0_3 l0_4 a0_5 l0_6 l0_7 l0_8) = some r := by first | (rw [hy195]; with_reducible exact H) | (have H2_ := (Option.bind_some _ _).symm.trans H; rw [hy195]; with_reducible exact H2_) | (have H2_ := (Option.bind_some _ _).symm.trans H; with_reducible exact H2_) | with_reducible exact H | (rw [hy195]; exact H) | exact H
                  have Ny195 := Aside0.mk hy195
                  clear hy195
                  have H' := Aside0.mk H
                  clear H
                  have p192 : 0 ≤ (x27_1 : Int) := qD
                  have q192 : x27_1 < (t186.length : Int) := qD
                  obtain ⟨ad192, e192, hx192_0, hx192_1, hx192_2, hx192_3, hx192_4, hx192_5, hx192_6⟩ := at_T74 (Kd.R_reads' HO_25.out).2.2 x27_1 p192 q192
                  cases e192
                  replace p192 := eq_true p192
                  replace q192 := eq_true q192
                  try go_wp2_with (first | ((with_reducible refine gate_dst (N := 10) rfl ?_); refine box_event ?hg (N := 10) ?hd (cs := #[.int .i64 0, .int .i64 0, .int .i64 0, .int .i64 0, .int .i64 0, .int .i64 0, .int .i64 0]) (t := 74) ?hr ?_; (case hd => rfl); (case hg => rfl); (case hr => first | (go_simp; done) | (go_simp; rfl)); intro gb193 hg w18 hbox hb; have n0_ := Aside0.mk (Kd.R_below (qR HO_8.out) hb); have n1_ := Aside0.mk (Kd.R_below (Kd.R_elderB (qR HO_25.out) gb193 (Nat.le_of_eq hg.symm)) hb); have n2_ := Aside0.mk (qL BK184.out hb); have n3_ := Aside0.mk (below_step qB hb); have n4_ := Aside0.mk (hbox); have n5_ := Aside0.mk ((qG hg : w.heap.size ≤ gb193)); have n6_ := Aside0.mk ((qG hg : w.heap.size ≤ gb193)); have n7_ := Aside0.mk ((qN hg BK184.out : gb184 ≠ gb193)); have n8_ := Aside0.mk ((qO hg BK184.out : gb193 ≠ gb184)); clear HO_8; clear HO_25; clear BK184; clear HB; have HO_8 := n0_; have HO_25 := n1_; have BK184 := n2_; have HB := n3_; have BK193 := n4_; have GW193 := n5_; have GE193 := n6_; have NB184_193 := n7_; have NB193_184 := n8_; clear n0_ n1_ n2_ n3_ n4_ n5_ n6_ n7_ n8_; clear hb hbox hg; have hnb19 := NB193_184.out; have hnc19 := NB184_193.out; have ⟨hcz20_0, hcz20_1, hcz20_2, hcz20_3, hcz20_4, hcz20_5, hcz20_6⟩ := qc7 BK193.out; have ⟨hfz20_0, hfz20_1, hfz20_2, hfz20_3, hfz20_4, hfz20_5, hfz20_6⟩ := qf7 BK193.out))
                  have n0_ : Aside0 (Kd.R (Kd.int .i64) 3 (((((((w18.setCell ⟨gb193, 0, none⟩ (.int .i64 ((rd_T74 t186 x27_1).f0))).setCell ⟨gb193, 1, none⟩ (.int .i64 ((rd_T74 t186 x27_1).f1))).setCell ⟨gb193, 2, none⟩ (.int .i64 ((rd_T74 t186 x27_1).f2))).setCell ⟨gb193, 3, none⟩ (.int .i64 ((rd_T74 t186 x27_1).f3))).setCell ⟨gb193, 4, none⟩ (.int .i64 ((rd_T74 t186 x27_1).f4))).setCell ⟨gb193, 5, none⟩ (.int .i64 ((rd_T74 t186 x27_1).f5))).setCell ⟨gb193, 6, none⟩ (.int .i64 ((rd_T74 t186 x27_1).f6))) w.heap.size (fun _ => True) u8 x8_1) := ⟨by (with_reducible repeat (first | apply Kd.R_alloc | apply Kd.R_drewN | apply Kd.R_drew)); exact Kd.R_mono (Kd.R_far (p := ⟨gb193, 6, none⟩) (Kd.R_far (p := ⟨gb193, 5, none⟩) (Kd.R_far (p := ⟨gb193, 4, none⟩) (Kd.R_far (p := ⟨gb193, 3, none⟩) (Kd.R_far (p := ⟨gb193, 2, none⟩) (Kd.R_far (p := ⟨gb193, 1, none⟩) (Kd.R_far (p := ⟨gb193, 0, none⟩) (Kd.R_types HO_8.out BK193.out (by decide)) (fun _ hk => hk.2) (.int .i64 ((rd_T74 t186 x27_1).f0))) (fun _ hk => hk.2) (.int .i64 ((rd_T74 t186 x27_1).f1))) (fun _ hk => hk.2) (.int .i64 ((rd_T74 t186 x27_1).f2))) (fun _ hk => hk.2) (.int .i64 ((rd_T74 t186 x27_1).f3))) (fun _ hk => hk.2) (.int .i64 ((rd_T74 t186 x27_1).f4))) (fun _ hk => hk.2) (.int .i64 ((rd_T74 t186 x27_1).f5))) (fun _ hk => hk.2) (.int .i64 ((rd_T74 t186 x27_1).f6))) (fun _ hk => trivial)⟩
                  have n1_ : Aside0 (Kd.R k74 74 (((((((w18.setCell ⟨gb193, 0, none⟩ (.int .i64 ((rd_T74 t186 x27_1).f0))).setCell ⟨gb193, 1, none⟩ (.int .i64 ((rd_T74 t186 x27_1).f1))).setCell ⟨gb193, 2, none⟩ (.int .i64 ((rd_T74 t186 x27_1).f2))).setCell ⟨gb193, 3, none⟩ (.int .i64 ((rd_T74 t186 x27_1).f3))).setCell ⟨gb193, 4, none⟩ (.int .i64 ((rd_T74 t186 x27_1).f4))).setCell ⟨gb193, 5, none⟩ (.int .i64 ((rd_T74 t186 x27_1).f5))).setCell ⟨gb193, 6, none⟩ (.int .i64 ((rd_T74 t186 x27_1).f6))) w.heap.size (fun k_ => k_ ≠ gb193) (.slice (some ad192) t186.length co11) t186) := ⟨by (with_reducible repeat (first | apply Kd.R_alloc | apply Kd.R_drewN | apply Kd.R_drew)); exact Kd.R_mono (Kd.R_far (p := ⟨gb193, 6, none⟩) (Kd.R_far (p := ⟨gb193, 5, none⟩) (Kd.R_far (p := ⟨gb193, 4, none⟩) (Kd.R_far (p := ⟨gb193, 3, none⟩) (Kd.R_far (p := ⟨gb193, 2, none⟩) (Kd.R_far (p := ⟨gb193, 1, none⟩) (Kd.R_far (p := ⟨gb193, 0, none⟩) (Kd.R_mono HO_25.out (fun k_ hk => (⟨hk, hk.2⟩ : _ ∧ k_ ≠ gb193))) (fun _ hk => hk.2) (.int .i64 ((rd_T74 t186 x27_1).f0))) (fun _ hk => hk.2) (.int .i64 ((rd_T74 t186 x27_1).f1))) (fun _ hk => hk.2) (.int .i64 ((rd_T74 t186 x27_1).f2))) (fun _ hk => hk.2) (.int .i64 ((rd_T74 t186 x27_1).f3))) (fun _ hk => hk.2) (.int .i64 ((rd_T74 t186 x27_1).f4))) (fun _ hk => hk.2) (.int .i64 ((rd_T74 t186 x27_1).f5))) (fun _ hk => hk.2) (.int .i64 ((rd_T74 t186 x27_1).f6))) (fun _ hk => hk.1.2)⟩
                  have n2_ : Aside0 ((((((((w18.setCell ⟨gb193, 0, none⟩ (.int .i64 ((rd_T74 t186 x27_1).f0))).setCell ⟨gb193, 1, none⟩ (.int .i64 ((rd_T74 t186 x27_1).f1))).setCell ⟨gb193, 2, none⟩ (.int .i64 ((rd_T74 t186 x27_1).f2))).setCell ⟨gb193, 3, none⟩ (.int .i64 ((rd_T74 t186 x27_1).f3))).setCell ⟨gb193, 4, none⟩ (.int .i64 ((rd_T74 t186 x27_1).f4))).setCell ⟨gb193, 5, none⟩ (.int .i64 ((rd_T74 t186 x27_1).f5))).setCell ⟨gb193, 6, none⟩ (.int .i64 ((rd_T74 t186 x27_1).f6))).heap[gb184]? = some (.cells #[.slice A0_0 l0_0.length c0_0, .int .i64 a0_1, .int .i64 a0_2, .int .i64 a0_3, .slice A0_4 l0_4.length c0_4, .bool a0_5, .slice A0_6 l0_6.length c0_6, .slice A0_7 l0_7.length c0_7, .slice A0_8 l0_8.length c0_8] 67 (0, 0))) := ⟨qK BK184.out⟩
                  have n3_ : Aside0 ((((((((w18.setCell ⟨gb193, 0, none⟩ (.int .i64 ((rd_T74 t186 x27_1).f0))).setCell ⟨gb193, 1, none⟩ (.int .i64 ((rd_T74 t186 x27_1).f1))).setCell ⟨gb193, 2, none⟩ (.int .i64 ((rd_T74 t186 x27_1).f2))).setCell ⟨gb193, 3, none⟩ (.int .i64 ((rd_T74 t186 x27_1).f3))).setCell ⟨gb193, 4, none⟩ (.int .i64 ((rd_T74 t186 x27_1).f4))).setCell ⟨gb193, 5, none⟩ (.int .i64 ((rd_T74 t186 x27_1).f5))).setCell ⟨gb193, 6, none⟩ (.int .i64 ((rd_T74 t186 x27_1).f6))).heap[gb193]? = some (.cells #[.int .i64 ((rd_T74 t186 x27_1).f0), .int .i64 ((rd_T74 t186 x27_1).f1), .int .i64 ((rd_T74 t186 x27_1).f2), .int .i64 ((rd_T74 t186 x27_1).f3), .int .i64 ((rd_T74 t186 x27_1).f4), .int .i64 ((rd_T74 t186 x27_1).f5), .int .i64 ((rd_T74 t186 x27_1).f6)] 74 (0, 0))) := ⟨by (with_reducible repeat (first | refine blk_drewN ?_ _ | refine blk_drew ?_ | refine blk_alloc ?_ _)); refine blk_put (cs := #[.int .i64 ((rd_T74 t186 x27_1).f0), .int .i64 ((rd_T74 t186 x27_1).f1), .int .i64 ((rd_T74 t186 x27_1).f2), .int .i64 ((rd_T74 t186 x27_1).f3), .int .i64 ((rd_T74 t186 x27_1).f4), .int .i64 ((rd_T74 t186 x27_1).f5), .int .i64 0]) ?_ 6 _ rfl; refine blk_put (cs := #[.int .i64 ((rd_T74 t186 x27_1).f0), .int .i64 ((rd_T74 t186 x27_1).f1), .int .i64 ((rd_T74 t186 x27_1).f2), .int .i64 ((rd_T74 t186 x27_1).f3), .int .i64 ((rd_T74 t186 x27_1).f4), .int .i64 0, .int .i64 0]) ?_ 5 _ rfl; refine blk_put (cs := #[.int .i64 ((rd_T74 t186 x27_1).f0), .int .i64 ((rd_T74 t186 x27_1).f1), .int .i64 ((rd_T74 t186 x27_1).f2), .int .i64 ((rd_T74 t186 x27_1).f3), .int .i64 0, .int .i64 0, .int .i64 0]) ?_ 4 _ rfl; refine blk_put (cs := #[.int .i64 ((rd_T74 t186 x27_1).f0), .int .i64 ((rd_T74 t186 x27_1).f1), .int .i64 ((rd_T74 t186 x27_1).f2), .int .i64 0, .int .i64 0, .int .i64 0, .int .i64 0]) ?_ 3 _ rfl; refine blk_put (cs := #[.int .i64 ((rd_T74 t186 x27_1).f0), .int .i64 ((rd_T74 t186 x27_1).f1), .int .i64 0, .int .i64 0, .int .i64 0, .int .i64 0, .int .i64 0]) ?_ 2 _ rfl; refine blk_put (cs := #[.int .i64 ((rd_T74 t186 x27_1).f0), .int .i64 0, .int .i64 0, .int .i64 0, .int .i64 0, .int .i64 0, .int .i64 0]) ?_ 1 _ rfl; refine blk_put (cs := #[.int .i64 0, .int .i64 0, .int .i64 0, .int .i64 0, .int .i64 0, .int .i64 0, .int .i64 0]) ?_ 0 _ rfl; (with_reducible repeat (first | refine blk_drewN ?_ _ | refine blk_drew ?_ | refine blk_alloc ?_ _)); exact BK193.out⟩
                  have n4_ : Aside0 (Below w.heap.size w (((((((w18.setCell ⟨gb193, 0, none⟩ (.int .i64 ((rd_T74 t186 x27_1).f0))).setCell ⟨gb193, 1, none⟩ (.int .i64 ((rd_T74 t186 x27_1).f1))).setCell ⟨gb193, 2, none⟩ (.int .i64 ((rd_T74 t186 x27_1).f2))).setCell ⟨gb193, 3, none⟩ (.int .i64 ((rd_T74 t186 x27_1).f3))).setCell ⟨gb193, 4, none⟩ (.int .i64 ((rd_T74 t186 x27_1).f4))).setCell ⟨gb193, 5, none⟩ (.int .i64 ((rd_T74 t186 x27_1).f5))).setCell ⟨gb193, 6, none⟩ (.int .i64 ((rd_T74 t186 x27_1).f6)))) := ⟨qB⟩
                  (try clear HO_8)
                  (try clear HO_25)
                  (try clear BK184)
                  (try clear BK193)
                  (try clear HB)
                  generalize (((((((w18.setCell ⟨gb193, 0, none⟩ (.int .i64 ((rd_T74 t186 x27_1).f0))).setCell ⟨gb193, 1, none⟩ (.int .i64 ((rd_T74 t186 x27_1).f1))).setCell ⟨gb193, 2, none⟩ (.int .i64 ((rd_T74 t186 x27_1).f2))).setCell ⟨gb193, 3, none⟩ (.int .i64 ((rd_T74 t186 x27_1).f3))).setCell ⟨gb193, 4, none⟩ (.int .i64 ((rd_T74 t186 x27_1).f4))).setCell ⟨gb193, 5, none⟩ (.int .i64 ((rd_T74 t186 x27_1).f5))).setCell ⟨gb193, 6, none⟩ (.int .i64 ((rd_T74 t186 x27_1).f6))) = w21 at n0_ n1_ n2_ n3_ n4_ ⊢
                  have HO_8 := n0_
                  have HO_25 := n1_
                  have BK184 := n2_
                  have BK193 := n3_
                  have HB := n4_
                  clear n0_ n1_ n2_ n3_ n4_
                  have n0_ := Aside0.mk (Kd.R_drew HO_8.out)
                  have n1_ := Aside0.mk (Kd.R_drew HO_25.out)
                  have n2_ := Aside0.mk (blk_drew BK184.out)
                  have n3_ := Aside0.mk (blk_drew BK193.out)
                  have n4_ := Aside0.mk (below_drew1 HB.out)
                  clear HO_8
                  clear HO_25
                  clear BK184
                  clear BK193
                  clear HB
                  have HO_8 := n0_
                  have HO_25 := n1_
                  have BK184 := n2_
                  have BK193 := n3_
                  have HB := n4_
                  clear n0_ n1_ n2_ n3_ n4_
                  have p194 : 0 ≤ (x27_1 : Int) := qD
                  have q194 : x27_1 < (l0_8.length : Int) := qD
                  obtain ⟨ad194, e194, hx194_0⟩ := Kd.at_int HR0_8.out x27_1 p194 q194
                  have hw194_0 := hx194_0
                  cases e194
                  replace hx194_0 := (HB.out.cell (World.block_lt_of_cell? w _ hx194_0)).trans hx194_0
                  replace p194 := eq_true p194
                  replace q194 := eq_true q194
                  refine start_ (n := 9) (S := fun w' => w'.cell? ⟨gb193, 0, none⟩ = some (.int .i64 ((rd_T74 t186 x27_1).f0)) ∧ w'.cell? ⟨gb193, 1, none⟩ = some (.int .i64 ((rd_T74 t186 x27_1).f1)) ∧ w'.cell? ⟨gb193, 2, none⟩ = some (.int .i64 ((rd_T74 t186 x27_1).f2)) ∧ w'.cell? ⟨gb193, 3, none⟩ = some (.int .i64 ((rd_T74 t186 x27_1).f3)) ∧ w'.cell? ⟨gb193, 4, none⟩ = some (.int .i64 ((rd_T74 t186 x27_1).f4)) ∧ w'.cell? ⟨gb193, 5, none⟩ = some (.int .i64 ((rd_T74 t186 x27_1).f5)) ∧ w'.cell? ⟨gb193, 6, none⟩ = some (.int .i64 ((rd_T74 t186 x27_1).f6)) ∧ w'.cell? ⟨gb184, 0, none⟩ = some (.slice A0_0 l0_0.length c0_0) ∧ w'.cell? ⟨gb184, 1, none⟩ = some (.int .i64 a0_1) ∧ w'.cell? ⟨gb184, 2, none⟩ = some (.int .i64 a0_2) ∧ w'.cell? ⟨gb184, 3, none⟩ = some (.int .i64 a0_3) ∧ w'.cell? ⟨gb184, 4, none⟩ = some (.slice A0_4 l0_4.length c0_4) ∧ w'.cell? ⟨gb184, 5, none⟩ = some (.bool a0_5) ∧ w'.cell? ⟨gb184, 6, none⟩ = some (.slice A0_6 l0_6.length c0_6) ∧ w'.cell? ⟨gb184, 7, none⟩ = some (.slice A0_7 l0_7.length c0_7) ∧ w'.cell? ⟨gb184, 8, none⟩ = some (.slice (some ad194) l0_8.length c0_8) ∧ w'.cell? (ad194.add (x27_1).toNat) = some (.int .i64 (rd l0_8 x27_1))) (ds := []) #[false, false, false, false, false, false, false, false, false] (by kernel_rfl) rfl rfl ⟨(blk_cell BK193.out 0).trans rfl, (blk_cell BK193.out 1).trans rfl, (blk_cell BK193.out 2).trans rfl, (blk_cell BK193.out 3).trans rfl, (blk_cell BK193.out 4).trans rfl, (blk_cell BK193.out 5).trans rfl, (blk_cell BK193.out 6).trans rfl, (blk_cell BK184.out 0).trans rfl, (blk_cell BK184.out 1).trans rfl, (blk_cell BK184.out 2).trans rfl, (blk_cell BK184.out 3).trans rfl, (blk_cell BK184.out 4).trans rfl, (blk_cell BK184.out 5).trans rfl, (blk_cell BK184.out 6).trans rfl, (blk_cell BK184.out 7).trans rfl, (blk_cell BK184.out 8).trans rfl, ((HB.out.cell (World.block_lt_of_cell? w _ hw194_0)).trans hw194_0)⟩ (fun hHeld => ?_); refine with_tabW spec_l07Values.tab9 spec_l07Values.bits9 (fun HT_ HW_ => ?_)
                  generalize w21.drew = w22 at HO_8 HO_25 BK184 BK193 HB hx194_0 hHeld ⊢
                  refine pure_ (i := 0) (N := some 35) (v := ?_) (a' := ?_) #[true, false, false, false, false, false, false, false, false] rfl rfl (any_of HT_.out (by kernel_rfl)) (fun _ _ _ h => h) (Or.inl ⟨by rfl, ?_⟩) ?_ ?_
                  rotate_left
                  · intro w'
                    go_simp
                    with_reducible rfl
                  rotate_left
                  · simp only [Act.put, List.setIfInBounds_toArray, List.set_cons_zero, List.set_cons_succ, i64_w, i32_w]
                    rfl
                  refine pure_ (i := 2) (N := some 37) (v := ?_) (a' := ?_) #[true, false, true, false, false, false, false, false, false] rfl rfl (any_of HT_.out (by kernel_rfl)) (fun _ _ _ h => h) (Or.inl ⟨by rfl, ?_⟩) ?_ ?_
                  rotate_left
                  · intro w'
                    go_simp
                    with_reducible rfl
                  rotate_left
                  · simp only [Act.put, List.setIfInBounds_toArray, List.set_cons_zero, List.set_cons_succ, i64_w, i32_w]
                    rfl
                  refine pure_ (i := 4) (N := some 39) (v := ?_) (a' := ?_) #[true, false, true, false, true, false, false, false, false] rfl rfl (any_of HT_.out (by kernel_rfl)) (fun _ _ _ h => h) (Or.inl ⟨by rfl, ?_⟩) ?_ ?_
                  rotate_left
                  · intro w'
                    go_simp
                    with_reducible rfl
                  rotate_left
                  · simp only [Act.put, List.setIfInBounds_toArray, List.set_cons_zero, List.set_cons_succ, i64_w, i32_w]
                    rfl
                  refine take_ (i := 1) (N := some 36) (v := ?_) (a' := ?_) #[true, true, true, false, true, false, false, false, false] rfl rfl (take_ofW HT_.out HW_.out (by kernel_rfl)) (fun _ _ _ h => h) (Or.inl ⟨by rfl, ?_⟩) hHeld ?_ ?_
                  rotate_left
                  · rintro w' ⟨s0, s1, s2, s3, s4, s5, s6, s7, s8, s9, s10, s11, s12, s13, s14, s15, s16⟩
                    go_simp
                    with_reducible rfl
                  rotate_left
                  · simp only [Act.put, List.setIfInBounds_toArray, List.set_cons_zero, List.set_cons_succ, i64_w, i32_w]
                    rfl
                  refine take_ (i := 3) (N := some 38) (v := ?_) (a' := ?_) #[true, true, true, true, true, false, false, false, false] rfl rfl (take_ofW HT_.out HW_.out (by kernel_rfl)) (fun _ _ _ h => h) (Or.inl ⟨by rfl, ?_⟩) hHeld ?_ ?_
                  rotate_left
                  · rintro w' ⟨s0, s1, s2, s3, s4, s5, s6, s7, s8, s9, s10, s11, s12, s13, s14, s15, s16⟩
                    go_simp
                    with_reducible rfl
                  rotate_left
                  · simp only [Act.put, List.setIfInBounds_toArray, List.set_cons_zero, List.set_cons_succ, i64_w, i32_w]
                    rfl
                  refine pure_ (i := 5) (N := some 40) (v := ?_) (a' := ?_) #[true, true, true, true, true, true, false, false, false] rfl rfl (any_of HT_.out (by kernel_rfl)) (fun _ _ _ h => h) (Or.inl ⟨by rfl, ?_⟩) ?_ ?_
                  rotate_left
                  · intro w'
                    go_simp
                    with_reducible rfl
                  rotate_left
                  · simp only [Act.put, List.setIfInBounds_toArray, List.set_cons_zero, List.set_cons_succ, i64_w, i32_w]
                    rfl
                  refine take_ (i := 6) (N := some 41) (v := ?_) (a' := ?_) #[true, true, true, true, true, true, true, false, false] rfl rfl (take_ofW HT_.out HW_.out (by kernel_rfl)) (fun _ _ _ h => h) (Or.inl ⟨by rfl, ?_⟩) hHeld ?_ ?_
                  rotate_left
                  · rintro w' ⟨s0, s1, s2, s3, s4, s5, s6, s7, s8, s9, s10, s11, s12, s13, s14, s15, s16⟩
                    go_simp
                    with_reducible rfl
                  rotate_left
                  · simp only [Act.put, List.setIfInBounds_toArray, List.set_cons_zero, List.set_cons_succ, i64_w, i32_w]
                    rfl
                  refine pure_ (i := 7) (N := some 42) (v := ?_) (a' := ?_) #[true, true, true, true, true, true, true, true, false] rfl rfl (any_of HT_.out (by kernel_rfl)) (fun _ _ _ h => h) (Or.inl ⟨by rfl, ?_⟩) ?_ ?_
                  rotate_left
                  · intro w'
                    go_simp
                    with_reducible rfl
                  rotate_left
                  · simp only [Act.put, List.setIfInBounds_toArray, List.set_cons_zero, List.set_cons_succ, i64_w, i32_w]
                    rfl
                  refine pure_ (i := 8) (N := some 11) (v := ?_) (a' := ?_) #[true, true, true, true, true, true, true, true, true] rfl rfl (any_of HT_.out (by kernel_rfl)) (fun _ _ _ h => h) (Or.inl ⟨by rfl, ?_⟩) ?_ ?_
                  rotate_left
                  · intro w'
                    go_simp
                    with_reducible rfl
                  rotate_left
                  · simp only [Act.put, List.setIfInBounds_toArray, List.set_cons_zero, List.set_cons_succ, i64_w, i32_w]
                    rfl
                  refine done_ (done_of HT_.out (by kernel_rfl)) ?_
                  try go_wp2_with (first | ((with_reducible refine gate_builtin (b := .append) (xs := #[.tmp 77, .tmp 79]) rfl ?_); at_builtin; refine Kd.R_append (Kd.int .i64) (w0 := w) w.heap.size rfl (.tmp 77) (.tmp 79) 23 3 (.int .i64 0) 8 rfl Try.underlying23 info3 rfl (by decide) (by omega) u8 x8_1 (wrap64 (((rd_T74 t186 x27_1).f6) - (rd l0_8 x27_1))) [.int .i64 (wrap64 (((rd_T74 t186 x27_1).f6) - (rd l0_8 x27_1)))] (fun _ => True) (fun _ => False) rfl rfl ?aP (fun _ hk => hk.elim) ?aF ?aO ?aB ?aS ?aL ?_; (case aP => exact rfl); (case aB => exact qB); (case aF => exact (fun _ _ => trivial)); (case aO => exact (qR HO_8.out)); (case aS => exact (below_size qB)); (case aL => have := LMc17.out; omega); intro v196 w23 ho hb hg hat; rw [← Ny195.out] at ho; have n0_ := Aside0.mk (Kd.R_over' (qR HO_25.out) (Kd.R_typed (qR HO_8.out)) (by decide) hg); have n1_ := Aside0.mk (blk_grown (qK BK184.out) hg (Kd.R_ne HO_8.out BK184.out (by decide))); have n2_ := Aside0.mk (blk_grown (qK BK193.out) hg (Kd.R_ne HO_8.out BK193.out (by decide))); have n3_ := Aside0.mk (hb); have n4_ := Aside0.mk (ho); clear HO_25; clear BK184; clear BK193; clear HB; clear HO_8; have HO_25 := n0_; have BK184 := n1_; have BK193 := n2_; have HB := n3_; have HO197 := n4_; clear n0_ n1_ n2_ n3_ n4_; clear ho hb hg hat))
                  go_roundg k1
                  case measure => have := HK1.out; omega
                  case rel => exact ⟨(y195), (wrap64 (x27_1 + 1)), qS, H', ⟨by have := HK1.out; omega⟩, ⟨qR HO197.out⟩, ⟨by (with_reducible repeat (first | apply Kd.R_alloc | apply Kd.R_drewN | apply Kd.R_drew)); exact Kd.R_mono HO_25.out (fun _ hk => trivial)⟩, ⟨qK BK184.out⟩, ⟨qB⟩⟩
                · rw [if_neg c17] at H
                  exact absurd H (by simp)
              · rw [if_neg c16] at H
                exact absurd H (by simp)
            · rw [if_neg c15] at H
              have c15b0 : (a1 == 1) = false := beq_eq_false_iff_ne.mpr c15
              have c15b1 : (a1 != 1) = true := bne_iff_ne.mpr c15
              by_cases c24 : a1 = 5
              · rw [if_pos c24] at H
                have c24b0 : (a1 == 5) = true := beq_iff_eq.mpr c24
                have c24b1 : (a1 != 5) = false := bne_eq_false_iff_eq.mpr c24
                clear c24
                by_cases c25 : x8_1.length < 17592186044416
                · rw [if_pos c25] at H
                  have LMc25 := Aside0.mk c25
                  clear c25
                  obtain ⟨y198, hy198⟩ : ∃ y_ : List Int, y_ = (x8_1 ++ [(rd_T74 t186 x27_1).f6]) := ⟨_, rfl⟩
                  replace H : (spec_l07Values.l0 k1 a1 y198 t186 (t186.length : Int) (wrap64 (x27_1 + 1)) l0_0 a0_1 a0_2 a0_3 l0_4 a0_5 l0_6 l0_7 l0_8) = some r := by first | (rw [hy198]; with_reducible exact H) | (have H2_ := (Option.bind_some _ _).symm.trans H; rw [hy198]; with_reducible exact H2_) | (have H2_ := (Option.bind_some _ _).symm.trans H; with_reducible exact H2_) | with_reducible exact H | (rw [hy198]; exact H) | exact H
                  have Ny198 := Aside0.mk hy198
                  clear hy198
                  have H' := Aside0.mk H
                  clear H
                  have p192 : 0 ≤ (x27_1 : Int) := qD
                  have q192 : x27_1 < (t186.length : Int) := qD
                  obtain ⟨ad192, e192, hx192_0, hx192_1, hx192_2, hx192_3, hx192_4, hx192_5, hx192_6⟩ := at_T74 (Kd.R_reads' HO_25.out).2.2 x27_1 p192 q192
                  cases e192
                  replace p192 := eq_true p192
                  replace q192 := eq_true q192
                  go_wp2_with (first | ((with_reducible refine gate_dst (N := 10) rfl ?_); refine box_event ?hg (N := 10) ?hd (cs := #[.int .i64 0, .int .i64 0, .int .i64 0, .int .i64 0, .int .i64 0, .int .i64 0, .int .i64 0]) (t := 74) ?hr ?_; (case hd => rfl); (case hg => rfl); (case hr => first | (go_simp; done) | (go_simp; rfl)); intro gb193 hg w26 hbox hb; have n0_ := Aside0.mk (Kd.R_below (qR HO_8.out) hb); have n1_ := Aside0.mk (Kd.R_below (Kd.R_elderB (qR HO_25.out) gb193 (Nat.le_of_eq hg.symm)) hb); have n2_ := Aside0.mk (qL BK184.out hb); have n3_ := Aside0.mk (below_step qB hb); have n4_ := Aside0.mk (hbox); have n5_ := Aside0.mk ((qG hg : w.heap.size ≤ gb193)); have n6_ := Aside0.mk ((qG hg : w.heap.size ≤ gb193)); have n7_ := Aside0.mk ((qN hg BK184.out : gb184 ≠ gb193)); have n8_ := Aside0.mk ((qO hg BK184.out : gb193 ≠ gb184)); clear HO_8; clear HO_25; clear BK184; clear HB; have HO_8 := n0_; have HO_25 := n1_; have BK184 := n2_; have HB := n3_; have BK193 := n4_; have GW193 := n5_; have GE193 := n6_; have NB184_193 := n7_; have NB193_184 := n8_; clear n0_ n1_ n2_ n3_ n4_ n5_ n6_ n7_ n8_; clear hb hbox hg; have hnb27 := NB193_184.out; have hnc27 := NB184_193.out; have ⟨hcz28_0, hcz28_1, hcz28_2, hcz28_3, hcz28_4, hcz28_5, hcz28_6⟩ := qc7 BK193.out; have ⟨hfz28_0, hfz28_1, hfz28_2, hfz28_3, hfz28_4, hfz28_5, hfz28_6⟩ := qf7 BK193.out) | ((with_reducible refine gate_builtin (b := .append) (xs := #[.tmp 77, .tmp 79]) rfl ?_); at_builtin; refine Kd.R_append (Kd.int .i64) (w0 := w) w.heap.size rfl (.tmp 77) (.tmp 79) 23 3 (.int .i64 0) 8 rfl Try.underlying23 info3 rfl (by decide) (by omega) u8 x8_1 ((rd_T74 t186 x27_1).f6) [.int .i64 ((rd_T74 t186 x27_1).f6)] (fun _ => True) (fun _ => False) rfl (by first | (go_simp; done) | (go_simp; rfl)) ?aP (fun _ hk => hk.elim) ?aF ?aO ?aB ?aS ?aL ?_; (case aP => exact rfl); (case aB => exact qB); (case aF => exact (fun _ _ => trivial)); (case aO => exact (by (with_reducible repeat (first | apply Kd.R_alloc | apply Kd.R_drewN | apply Kd.R_drew)); exact Kd.R_mono (Kd.R_far (p := ⟨gb193, 6, none⟩) (Kd.R_far (p := ⟨gb193, 5, none⟩) (Kd.R_far (p := ⟨gb193, 4, none⟩) (Kd.R_far (p := ⟨gb193, 3, none⟩) (Kd.R_far (p := ⟨gb193, 2, none⟩) (Kd.R_far (p := ⟨gb193, 1, none⟩) (Kd.R_far (p := ⟨gb193, 0, none⟩) (Kd.R_types HO_8.out BK193.out (by decide)) (fun _ hk => hk.2) (.int .i64 ((rd_T74 t186 x27_1).f0))) (fun _ hk => hk.2) (.int .i64 ((rd_T74 t186 x27_1).f1))) (fun _ hk => hk.2) (.int .i64 ((rd_T74 t186 x27_1).f2))) (fun _ hk => hk.2) (.int .i64 ((rd_T74 t186 x27_1).f3))) (fun _ hk => hk.2) (.int .i64 ((rd_T74 t186 x27_1).f4))) (fun _ hk => hk.2) (.int .i64 ((rd_T74 t186 x27_1).f5))) (fun _ hk => hk.2) (.int .i64 ((rd_T74 t186 x27_1).f6))) (fun _ hk => trivial))); (case aS => exact (below_size qB)); (case aL => have := LMc25.out; omega); intro v199 w29 ho hb hg hat; rw [← Ny198.out] at ho; have n0_ := Aside0.mk (Kd.R_over' (by (with_reducible repeat (first | apply Kd.R_alloc | apply Kd.R_drewN | apply Kd.R_drew)); exact (Kd.R_mono (Kd.R_far (p := ⟨gb193, 6, none⟩) (Kd.R_far (p := ⟨gb193, 5, none⟩) (Kd.R_far (p := ⟨gb193, 4, none⟩) (Kd.R_far (p := ⟨gb193, 3, none⟩) (Kd.R_far (p := ⟨gb193, 2, none⟩) (Kd.R_far (p := ⟨gb193, 1, none⟩) (Kd.R_far (p := ⟨gb193, 0, none⟩) (Kd.R_mono HO_25.out (fun k_ hk => (⟨hk, hk.2⟩ : _ ∧ k_ ≠ gb193))) (fun _ hk => hk.2) (.int .i64 ((rd_T74 t186 x27_1).f0))) (fun _ hk => hk.2) (.int .i64 ((rd_T74 t186 x27_1).f1))) (fun _ hk => hk.2) (.int .i64 ((rd_T74 t186 x27_1).f2))) (fun _ hk => hk.2) (.int .i64 ((rd_T74 t186 x27_1).f3))) (fun _ hk => hk.2) (.int .i64 ((rd_T74 t186 x27_1).f4))) (fun _ hk => hk.2) (.int .i64 ((rd_T74 t186 x27_1).f5))) (fun _ hk => hk.2) (.int .i64 ((rd_T74 t186 x27_1).f6))) (fun _ h_ => h_.1))) (Kd.R_typed (by (with_reducible repeat (first | apply Kd.R_alloc | apply Kd.R_drewN | apply Kd.R_drew)); exact (Kd.R_mono (Kd.R_far (p := ⟨gb193, 6, none⟩) (Kd.R_far (p := ⟨gb193, 5, none⟩) (Kd.R_far (p := ⟨gb193, 4, none⟩) (Kd.R_far (p := ⟨gb193, 3, none⟩) (Kd.R_far (p := ⟨gb193, 2, none⟩) (Kd.R_far (p := ⟨gb193, 1, none⟩) (Kd.R_far (p := ⟨gb193, 0, none⟩) (Kd.R_types HO_8.out BK193.out (by decide)) (fun _ hk => hk.2) (.int .i64 ((rd_T74 t186 x27_1).f0))) (fun _ hk => hk.2) (.int .i64 ((rd_T74 t186 x27_1).f1))) (fun _ hk => hk.2) (.int .i64 ((rd_T74 t186 x27_1).f2))) (fun _ hk => hk.2) (.int .i64 ((rd_T74 t186 x27_1).f3))) (fun _ hk => hk.2) (.int .i64 ((rd_T74 t186 x27_1).f4))) (fun _ hk => hk.2) (.int .i64 ((rd_T74 t186 x27_1).f5))) (fun _ hk => hk.2) (.int .i64 ((rd_T74 t186 x27_1).f6))) (fun _ h_ => h_.1)))) (by decide) hg); have n1_ := Aside0.mk (blk_grown (qK BK184.out) hg (Kd.R_ne HO_8.out BK184.out (by decide))); have n2_ := Aside0.mk (blk_grown (g := gb193) (o := .cells #[.int .i64 ((rd_T74 t186 x27_1).f0), .int .i64 ((rd_T74 t186 x27_1).f1), .int .i64 ((rd_T74 t186 x27_1).f2), .int .i64 ((rd_T74 t186 x27_1).f3), .int .i64 ((rd_T74 t186 x27_1).f4), .int .i64 ((rd_T74 t186 x27_1).f5), .int .i64 ((rd_T74 t186 x27_1).f6)] 74 (0, 0)) (by (with_reducible repeat (first | refine blk_drewN ?_ _ | refine blk_drew ?_ | refine blk_alloc ?_ _)); refine blk_put (cs := #[.int .i64 ((rd_T74 t186 x27_1).f0), .int .i64 ((rd_T74 t186 x27_1).f1), .int .i64 ((rd_T74 t186 x27_1).f2), .int .i64 ((rd_T74 t186 x27_1).f3), .int .i64 ((rd_T74 t186 x27_1).f4), .int .i64 ((rd_T74 t186 x27_1).f5), .int .i64 0]) ?_ 6 _ rfl; refine blk_put (cs := #[.int .i64 ((rd_T74 t186 x27_1).f0), .int .i64 ((rd_T74 t186 x27_1).f1), .int .i64 ((rd_T74 t186 x27_1).f2), .int .i64 ((rd_T74 t186 x27_1).f3), .int .i64 ((rd_T74 t186 x27_1).f4), .int .i64 0, .int .i64 0]) ?_ 5 _ rfl; refine blk_put (cs := #[.int .i64 ((rd_T74 t186 x27_1).f0), .int .i64 ((rd_T74 t186 x27_1).f1), .int .i64 ((rd_T74 t186 x27_1).f2), .int .i64 ((rd_T74 t186 x27_1).f3), .int .i64 0, .int .i64 0, .int .i64 0]) ?_ 4 _ rfl; refine blk_put (cs := #[.int .i64 ((rd_T74 t186 x27_1).f0), .int .i64 ((rd_T74 t186 x27_1).f1), .int .i64 ((rd_T74 t186 x27_1).f2), .int .i64 0, .int .i64 0, .int .i64 0, .int .i64 0]) ?_ 3 _ rfl; refine blk_put (cs := #[.int .i64 ((rd_T74 t186 x27_1).f0), .int .i64 ((rd_T74 t186 x27_1).f1), .int .i64 0, .int .i64 0, .int .i64 0, .int .i64 0, .int .i64 0]) ?_ 2 _ rfl; refine blk_put (cs := #[.int .i64 ((rd_T74 t186 x27_1).f0), .int .i64 0, .int .i64 0, .int .i64 0, .int .i64 0, .int .i64 0, .int .i64 0]) ?_ 1 _ rfl; refine blk_put (cs := #[.int .i64 0, .int .i64 0, .int .i64 0, .int .i64 0, .int .i64 0, .int .i64 0, .int .i64 0]) ?_ 0 _ rfl; (with_reducible repeat (first | refine blk_drewN ?_ _ | refine blk_drew ?_ | refine blk_alloc ?_ _)); exact BK193.out) hg (Kd.R_ne HO_8.out BK193.out (by decide))); have n3_ := Aside0.mk (hb); have n4_ := Aside0.mk (ho); clear HO_25; clear BK184; clear BK193; clear HB; clear HO_8; have HO_25 := n0_; have BK184 := n1_; have BK193 := n2_; have HB := n3_; have HO200 := n4_; clear n0_ n1_ n2_ n3_ n4_; clear ho hb hg hat))
                  go_roundg k1
                  case measure => have := HK1.out; omega
                  case rel => exact ⟨(y198), (wrap64 (x27_1 + 1)), qS, H', ⟨by have := HK1.out; omega⟩, ⟨qR HO200.out⟩, ⟨by (with_reducible repeat (first | apply Kd.R_alloc | apply Kd.R_drewN | apply Kd.R_drew)); exact Kd.R_mono HO_25.out (fun _ hk => trivial)⟩, ⟨qK BK184.out⟩, ⟨qB⟩⟩
                · rw [if_neg c25] at H
                  exact absurd H (by simp)
              · rw [if_neg c24] at H
                have c24b0 : (a1 == 5) = false := beq_eq_false_iff_ne.mpr c24
                have c24b1 : (a1 != 5) = true := bne_iff_ne.mpr c24
                have HC30 := Aside0.mk H
                clear H
                have p192 : 0 ≤ (x27_1 : Int) := qD
                have q192 : x27_1 < (t186.length : Int) := qD
                obtain ⟨ad192, e192, hx192_0, hx192_1, hx192_2, hx192_3, hx192_4, hx192_5, hx192_6⟩ := at_T74 (Kd.R_reads' HO_25.out).2.2 x27_1 p192 q192
                cases e192
                replace p192 := eq_true p192
                replace q192 := eq_true q192
                go_upto_if 47 with (first | ((with_reducible refine gate_dst (N := 10) rfl ?_); refine box_event ?hg (N := 10) ?hd (cs := #[.int .i64 0, .int .i64 0, .int .i64 0, .int .i64 0, .int .i64 0, .int .i64 0, .int .i64 0]) (t := 74) ?hr ?_; (case hd => rfl); (case hg => rfl); (case hr => first | (go_simp; done) | (go_simp; rfl)); intro gb193 hg w31 hbox hb; have n0_ := Aside0.mk (Kd.R_below (qR HO_8.out) hb); have n1_ := Aside0.mk (Kd.R_below (Kd.R_elderB (qR HO_25.out) gb193 (Nat.le_of_eq hg.symm)) hb); have n2_ := Aside0.mk (qL BK184.out hb); have n3_ := Aside0.mk (below_step qB hb); have n4_ := Aside0.mk (hbox); have n5_ := Aside0.mk ((qG hg : w.heap.size ≤ gb193)); have n6_ := Aside0.mk ((qG hg : w.heap.size ≤ gb193)); have n7_ := Aside0.mk ((qN hg BK184.out : gb184 ≠ gb193)); have n8_ := Aside0.mk ((qO hg BK184.out : gb193 ≠ gb184)); clear HO_8; clear HO_25; clear BK184; clear HB; have HO_8 := n0_; have HO_25 := n1_; have BK184 := n2_; have HB := n3_; have BK193 := n4_; have GW193 := n5_; have GE193 := n6_; have NB184_193 := n7_; have NB193_184 := n8_; clear n0_ n1_ n2_ n3_ n4_ n5_ n6_ n7_ n8_; clear hb hbox hg; have hnb32 := NB193_184.out; have hnc32 := NB184_193.out; have ⟨hcz33_0, hcz33_1, hcz33_2, hcz33_3, hcz33_4, hcz33_5, hcz33_6⟩ := qc7 BK193.out; have ⟨hfz33_0, hfz33_1, hfz33_2, hfz33_3, hfz33_4, hfz33_5, hfz33_6⟩ := qf7 BK193.out))
                (try simp only [Act.put, List.setIfInBounds_toArray, List.set_cons_zero, List.set_cons_succ])
                go_cut [47] (fun v47 wc => ∃ (kq : Nat) (x47_29 : Bool), v47 = .bool x47_29 ∧ Aside0 (spec_l07Values.j1 kq a1 x8_1 x27_1 0 t186 (t186.length : Int) x27_1 a1 x47_29 l0_0 a0_1 a0_2 a0_3 l0_4 a0_5 l0_6 l0_7 l0_8 ((rd_T74 t186 x27_1).f0) ((rd_T74 t186 x27_1).f1) ((rd_T74 t186 x27_1).f2) ((rd_T74 t186 x27_1).f3) ((rd_T74 t186 x27_1).f4) ((rd_T74 t186 x27_1).f5) ((rd_T74 t186 x27_1).f6) = some r) ∧ Aside0 (kq ≤ k1) ∧ Aside0 (Kd.R (Kd.int .i64) 3 wc w.heap.size (fun _ => True) u8 x8_1) ∧ Aside0 (Kd.R k74 74 wc w.heap.size (fun k_ => k_ ≠ gb193) (.slice (some ad192) t186.length co11) t186) ∧ Aside0 (wc.heap[gb184]? = some (.cells #[(.slice A0_0 l0_0.length c0_0), .int .i64 a0_1, .int .i64 a0_2, .int .i64 a0_3, (.slice A0_4 l0_4.length c0_4), .bool a0_5, (.slice A0_6 l0_6.length c0_6), (.slice A0_7 l0_7.length c0_7), (.slice A0_8 l0_8.length c0_8)] 67 (0, 0))) ∧ Aside0 (wc.heap[gb193]? = some (.cells #[.int .i64 ((rd_T74 t186 x27_1).f0), .int .i64 ((rd_T74 t186 x27_1).f1), .int .i64 ((rd_T74 t186 x27_1).f2), .int .i64 ((rd_T74 t186 x27_1).f3), .int .i64 ((rd_T74 t186 x27_1).f4), .int .i64 ((rd_T74 t186 x27_1).f5), .int .i64 ((rd_T74 t186 x27_1).f6)] 74 (0, 0))) ∧ Aside0 (Below w.heap.size w wc))
                case first =>
                  have H := HC30.out
                  clear HC30
                  by_cases c34 : a1 = 2
                  · rw [if_pos c34] at H
                    have c34b0 : (a1 == 2) = true := beq_iff_eq.mpr c34
                    have c34b1 : (a1 != 2) = false := bne_eq_false_iff_eq.mpr c34
                    clear c34
                    (first | rw [c34b0] | (simp only [i64_w, i32_w]; rw [c34b0]) | skip)
                    have H' := Aside0.mk H
                    clear H
                    go_wp2
                    go_meet
                    case rel => exact ⟨_, ((a1 == 2)), qS, H', ⟨by have := HK1.out; first | omega | exact Nat.le_refl _⟩, ⟨by (with_reducible repeat (first | apply Kd.R_alloc | apply Kd.R_drewN | apply Kd.R_drew)); exact Kd.R_mono (Kd.R_far (p := ⟨gb193, 6, none⟩) (Kd.R_far (p := ⟨gb193, 5, none⟩) (Kd.R_far (p := ⟨gb193, 4, none⟩) (Kd.R_far (p := ⟨gb193, 3, none⟩) (Kd.R_far (p := ⟨gb193, 2, none⟩) (Kd.R_far (p := ⟨gb193, 1, none⟩) (Kd.R_far (p := ⟨gb193, 0, none⟩) (Kd.R_types HO_8.out BK193.out (by decide)) (fun _ hk => hk.2) (.int .i64 ((rd_T74 t186 x27_1).f0))) (fun _ hk => hk.2) (.int .i64 ((rd_T74 t186 x27_1).f1))) (fun _ hk => hk.2) (.int .i64 ((rd_T74 t186 x27_1).f2))) (fun _ hk => hk.2) (.int .i64 ((rd_T74 t186 x27_1).f3))) (fun _ hk => hk.2) (.int .i64 ((rd_T74 t186 x27_1).f4))) (fun _ hk => hk.2) (.int .i64 ((rd_T74 t186 x27_1).f5))) (fun _ hk => hk.2) (.int .i64 ((rd_T74 t186 x27_1).f6))) (fun _ hk => trivial)⟩, ⟨by (with_reducible repeat (first | apply Kd.R_alloc | apply Kd.R_drewN | apply Kd.R_drew)); exact Kd.R_mono (Kd.R_far (p := ⟨gb193, 6, none⟩) (Kd.R_far (p := ⟨gb193, 5, none⟩) (Kd.R_far (p := ⟨gb193, 4, none⟩) (Kd.R_far (p := ⟨gb193, 3, none⟩) (Kd.R_far (p := ⟨gb193, 2, none⟩) (Kd.R_far (p := ⟨gb193, 1, none⟩) (Kd.R_far (p := ⟨gb193, 0, none⟩) (Kd.R_mono HO_25.out (fun k_ hk => (⟨hk, hk.2⟩ : _ ∧ k_ ≠ gb193))) (fun _ hk => hk.2) (.int .i64 ((rd_T74 t186 x27_1).f0))) (fun _ hk => hk.2) (.int .i64 ((rd_T74 t186 x27_1).f1))) (fun _ hk => hk.2) (.int .i64 ((rd_T74 t186 x27_1).f2))) (fun _ hk => hk.2) (.int .i64 ((rd_T74 t186 x27_1).f3))) (fun _ hk => hk.2) (.int .i64 ((rd_T74 t186 x27_1).f4))) (fun _ hk => hk.2) (.int .i64 ((rd_T74 t186 x27_1).f5))) (fun _ hk => hk.2) (.int .i64 ((rd_T74 t186 x27_1).f6))) (fun _ hk => hk.1.2)⟩, ⟨qK BK184.out⟩, ⟨by (with_reducible repeat (first | refine blk_drewN ?_ _ | refine blk_drew ?_ | refine blk_alloc ?_ _)); refine blk_put (cs := #[.int .i64 ((rd_T74 t186 x27_1).f0), .int .i64 ((rd_T74 t186 x27_1).f1), .int .i64 ((rd_T74 t186 x27_1).f2), .int .i64 ((rd_T74 t186 x27_1).f3), .int .i64 ((rd_T74 t186 x27_1).f4), .int .i64 ((rd_T74 t186 x27_1).f5), .int .i64 0]) ?_ 6 _ rfl; refine blk_put (cs := #[.int .i64 ((rd_T74 t186 x27_1).f0), .int .i64 ((rd_T74 t186 x27_1).f1), .int .i64 ((rd_T74 t186 x27_1).f2), .int .i64 ((rd_T74 t186 x27_1).f3), .int .i64 ((rd_T74 t186 x27_1).f4), .int .i64 0, .int .i64 0]) ?_ 5 _ rfl; refine blk_put (cs := #[.int .i64 ((rd_T74 t186 x27_1).f0), .int .i64 ((rd_T74 t186 x27_1).f1), .int .i64 ((rd_T74 t186 x27_1).f2), .int .i64 ((rd_T74 t186 x27_1).f3), .int .i64 0, .int .i64 0, .int .i64 0]) ?_ 4 _ rfl; refine blk_put (cs := #[.int .i64 ((rd_T74 t186 x27_1).f0), .int .i64 ((rd_T74 t186 x27_1).f1), .int .i64 ((rd_T74 t186 x27_1).f2), .int .i64 0, .int .i64 0, .int .i64 0, .int .i64 0]) ?_ 3 _ rfl; refine blk_put (cs := #[.int .i64 ((rd_T74 t186 x27_1).f0), .int .i64 ((rd_T74 t186 x27_1).f1), .int .i64 0, .int .i64 0, .int .i64 0, .int .i64 0, .int .i64 0]) ?_ 2 _ rfl; refine blk_put (cs := #[.int .i64 ((rd_T74 t186 x27_1).f0), .int .i64 0, .int .i64 0, .int .i64 0, .int .i64 0, .int .i64 0, .int .i64 0]) ?_ 1 _ rfl; refine blk_put (cs := #[.int .i64 0, .int .i64 0, .int .i64 0, .int .i64 0, .int .i64 0, .int .i64 0, .int .i64 0]) ?_ 0 _ rfl; (with_reducible repeat (first | refine blk_drewN ?_ _ | refine blk_drew ?_ | refine blk_alloc ?_ _)); exact BK193.out⟩, ⟨qB⟩⟩
                  · rw [if_neg c34] at H
                    have c34b0 : (a1 == 2) = false := beq_eq_false_iff_ne.mpr c34
                    have c34b1 : (a1 != 2) = true := bne_iff_ne.mpr c34
                    (first | rw [c34b0] | (simp only [i64_w, i32_w]; rw [c34b0]) | skip)
                    have H' := Aside0.mk H
                    clear H
                    go_wp2
                    go_meet
                    case rel => exact ⟨_, ((a1 == 6)), qS, H', ⟨by have := HK1.out; first | omega | exact Nat.le_refl _⟩, ⟨by (with_reducible repeat (first | apply Kd.R_alloc | apply Kd.R_drewN | apply Kd.R_drew)); exact Kd.R_mono (Kd.R_far (p := ⟨gb193, 6, none⟩) (Kd.R_far (p := ⟨gb193, 5, none⟩) (Kd.R_far (p := ⟨gb193, 4, none⟩) (Kd.R_far (p := ⟨gb193, 3, none⟩) (Kd.R_far (p := ⟨gb193, 2, none⟩) (Kd.R_far (p := ⟨gb193, 1, none⟩) (Kd.R_far (p := ⟨gb193, 0, none⟩) (Kd.R_types HO_8.out BK193.out (by decide)) (fun _ hk => hk.2) (.int .i64 ((rd_T74 t186 x27_1).f0))) (fun _ hk => hk.2) (.int .i64 ((rd_T74 t186 x27_1).f1))) (fun _ hk => hk.2) (.int .i64 ((rd_T74 t186 x27_1).f2))) (fun _ hk => hk.2) (.int .i64 ((rd_T74 t186 x27_1).f3))) (fun _ hk => hk.2) (.int .i64 ((rd_T74 t186 x27_1).f4))) (fun _ hk => hk.2) (.int .i64 ((rd_T74 t186 x27_1).f5))) (fun _ hk => hk.2) (.int .i64 ((rd_T74 t186 x27_1).f6))) (fun _ hk => trivial)⟩, ⟨by (with_reducible repeat (first | apply Kd.R_alloc | apply Kd.R_drewN | apply Kd.R_drew)); exact Kd.R_mono (Kd.R_far (p := ⟨gb193, 6, none⟩) (Kd.R_far (p := ⟨gb193, 5, none⟩) (Kd.R_far (p := ⟨gb193, 4, none⟩) (Kd.R_far (p := ⟨gb193, 3, none⟩) (Kd.R_far (p := ⟨gb193, 2, none⟩) (Kd.R_far (p := ⟨gb193, 1, none⟩) (Kd.R_far (p := ⟨gb193, 0, none⟩) (Kd.R_mono HO_25.out (fun k_ hk => (⟨hk, hk.2⟩ : _ ∧ k_ ≠ gb193))) (fun _ hk => hk.2) (.int .i64 ((rd_T74 t186 x27_1).f0))) (fun _ hk => hk.2) (.int .i64 ((rd_T74 t186 x27_1).f1))) (fun _ hk => hk.2) (.int .i64 ((rd_T74 t186 x27_1).f2))) (fun _ hk => hk.2) (.int .i64 ((rd_T74 t186 x27_1).f3))) (fun _ hk => hk.2) (.int .i64 ((rd_T74 t186 x27_1).f4))) (fun _ hk => hk.2) (.int .i64 ((rd_T74 t186 x27_1).f5))) (fun _ hk => hk.2) (.int .i64 ((rd_T74 t186 x27_1).f6))) (fun _ hk => hk.1.2)⟩, ⟨qK BK184.out⟩, ⟨by (with_reducible repeat (first | refine blk_drewN ?_ _ | refine blk_drew ?_ | refine blk_alloc ?_ _)); refine blk_put (cs := #[.int .i64 ((rd_T74 t186 x27_1).f0), .int .i64 ((rd_T74 t186 x27_1).f1), .int .i64 ((rd_T74 t186 x27_1).f2), .int .i64 ((rd_T74 t186 x27_1).f3), .int .i64 ((rd_T74 t186 x27_1).f4), .int .i64 ((rd_T74 t186 x27_1).f5), .int .i64 0]) ?_ 6 _ rfl; refine blk_put (cs := #[.int .i64 ((rd_T74 t186 x27_1).f0), .int .i64 ((rd_T74 t186 x27_1).f1), .int .i64 ((rd_T74 t186 x27_1).f2), .int .i64 ((rd_T74 t186 x27_1).f3), .int .i64 ((rd_T74 t186 x27_1).f4), .int .i64 0, .int .i64 0]) ?_ 5 _ rfl; refine blk_put (cs := #[.int .i64 ((rd_T74 t186 x27_1).f0), .int .i64 ((rd_T74 t186 x27_1).f1), .int .i64 ((rd_T74 t186 x27_1).f2), .int .i64 ((rd_T74 t186 x27_1).f3), .int .i64 0, .int .i64 0, .int .i64 0]) ?_ 4 _ rfl; refine blk_put (cs := #[.int .i64 ((rd_T74 t186 x27_1).f0), .int .i64 ((rd_T74 t186 x27_1).f1), .int .i64 ((rd_T74 t186 x27_1).f2), .int .i64 0, .int .i64 0, .int .i64 0, .int .i64 0]) ?_ 3 _ rfl; refine blk_put (cs := #[.int .i64 ((rd_T74 t186 x27_1).f0), .int .i64 ((rd_T74 t186 x27_1).f1), .int .i64 0, .int .i64 0, .int .i64 0, .int .i64 0, .int .i64 0]) ?_ 2 _ rfl; refine blk_put (cs := #[.int .i64 ((rd_T74 t186 x27_1).f0), .int .i64 0, .int .i64 0, .int .i64 0, .int .i64 0, .int .i64 0, .int .i64 0]) ?_ 1 _ rfl; refine blk_put (cs := #[.int .i64 0, .int .i64 0, .int .i64 0, .int .i64 0, .int .i64 0, .int .i64 0, .int .i64 0]) ?_ 0 _ rfl; (with_reducible repeat (first | refine blk_drewN ?_ _ | refine blk_drew ?_ | refine blk_alloc ?_ _)); exact BK193.out⟩, ⟨qB⟩⟩
                case rest =>
                  clear HC30
                  try clear c1
                  try clear p1
                  try clear q1
                  try clear hx1
                  try clear c2
                  try clear p2
                  try clear c3
                  try clear p6
                  try clear c8
                  try clear c9
                  try clear c12
                  try clear c12b0
                  try clear c13
                  try clear c13b0
                  try clear c14
                  try clear c14b0
                  try clear c15
                  try clear c15b0
                  try clear c15b1
                  try clear c16
                  try clear c16b0
                  try clear c17
                  try clear c19
                  try clear p19
                  try clear q19
                  try clear hx19
                  try clear c24
                  try clear c24b0
                  try clear c24b1
                  try clear c25
                  try clear c27
                  try clear c32
                  try clear c34
                  try clear c34b0
                  try clear c34b1
                  try clear hcz20_0
                  try clear hcz20_1
                  try clear hcz20_2
                  try clear hcz20_3
                  try clear hcz20_4
                  try clear hcz20_5
                  try clear hcz20_6
                  try clear hcz28_0
                  try clear hcz28_1
                  try clear hcz28_2
                  try clear hcz28_3
                  try clear hcz28_4
                  try clear hcz28_5
                  try clear hcz28_6
                  try clear hcz33_0
                  try clear hcz33_1
                  try clear hcz33_2
                  try clear hcz33_3
                  try clear hcz33_4
                  try clear hcz33_5
                  try clear hcz33_6
                  try clear hfz20_0
                  try clear hfz20_1
                  try clear hfz20_2
                  try clear hfz20_3
                  try clear hfz20_4
                  try clear hfz20_5
                  try clear hfz20_6
                  try clear hfz28_0
                  try clear hfz28_1
                  try clear hfz28_2
                  try clear hfz28_3
                  try clear hfz28_4
                  try clear hfz28_5
                  try clear hfz28_6
                  try clear hfz33_0
                  try clear hfz33_1
                  try clear hfz33_2
                  try clear hfz33_3
                  try clear hfz33_4
                  try clear hfz33_5
                  try clear hfz33_6
                  try clear hx192_0
                  try clear hx192_1
                  try clear hx192_2
                  try clear hx192_3
                  try clear hx192_4
                  try clear hx192_5
                  try clear hx192_6
                  try clear hx194_0
                  try clear p192
                  try clear p194
                  try clear p2
                  try clear q192
                  try clear q194
                  obtain ⟨kq, x47_29, rfl, HA, HJ29, HO_8, HO_25, BK184, BK193, HB⟩ := hcut
                  cases kq with
                  | zero => exact absurd HA.out (by simp [spec_l07Values.j1])
                  | succ kj29 =>
                    have H := HA.out
                    clear HA
                    simp only [spec_l07Values.j1] at H
                    by_cases c35 : x47_29 = true
                    · subst c35
                      have H1 : ((spec_DifferenceOf.f ((rd_T74 t186 x27_1).f0) ((rd_T74 t186 x27_1).f1) ((rd_T74 t186 x27_1).f2) ((rd_T74 t186 x27_1).f3) ((rd_T74 t186 x27_1).f4) ((rd_T74 t186 x27_1).f5) ((rd_T74 t186 x27_1).f6)).bind fun t201 => (if x8_1.length < 17592186044416 then (spec_l07Values.l0 kj29 a1 (x8_1 ++ [t201]) t186 (t186.length : Int) (wrap64 (x27_1 + 1)) l0_0 a0_1 a0_2 a0_3 l0_4 a0_5 l0_6 l0_7 l0_8) else (none))) = some r := by rw [if_pos rfl] at H; exact H
                      clear H
                      have H := H1
                      clear H1
                      replace H := Option.bind_eq_some_iff.mp H
                      obtain ⟨t201, A360, H⟩ := H
                      try dsimp only at H
                      have A36 := Aside0.mk A360
                      clear A360
                      by_cases c37 : x8_1.length < 17592186044416
                      · rw [if_pos c37] at H
                        have LMc37 := Aside0.mk c37
                        clear c37
                        obtain ⟨y202, hy202⟩ : ∃ y_ : List Int, y_ = (x8_1 ++ [t201]) := ⟨_, rfl⟩
                        replace H : (spec_l07Values.l0 kj29 a1 y202 t186 (t186.length : Int) (wrap64 (x27_1 + 1)) l0_0 a0_1 a0_2 a0_3 l0_4 a0_5 l0_6 l0_7 l0_8) = some r := by first | (rw [hy202]; with_reducible exact H) | (have H2_ := (Option.bind_some _ _).symm.trans H; rw [hy202]; with_reducible exact H2_) | (have H2_ := (Option.bind_some _ _).symm.trans H; with_reducible exact H2_) | with_reducible exact H | (rw [hy202]; exact H) | exact H
                        have Ny202 := Aside0.mk hy202
                        clear hy202
                        have H' := Aside0.mk H
                        clear H
                        have hnb38 := NB193_184.out
                        have hnc38 := NB184_193.out
                        have hcz39_0 : wc.cell? ⟨gb193, 0, none⟩ = some (.int .i64 ((rd_T74 t186 x27_1).f0)) := (blk_cell BK193.out 0).trans rfl
                        have hcz39_1 : wc.cell? ⟨gb193, 1, none⟩ = some (.int .i64 ((rd_T74 t186 x27_1).f1)) := (blk_cell BK193.out 1).trans rfl
                        have hcz39_2 : wc.cell? ⟨gb193, 2, none⟩ = some (.int .i64 ((rd_T74 t186 x27_1).f2)) := (blk_cell BK193.out 2).trans rfl
                        have hcz39_3 : wc.cell? ⟨gb193, 3, none⟩ = some (.int .i64 ((rd_T74 t186 x27_1).f3)) := (blk_cell BK193.out 3).trans rfl
                        have hcz39_4 : wc.cell? ⟨gb193, 4, none⟩ = some (.int .i64 ((rd_T74 t186 x27_1).f4)) := (blk_cell BK193.out 4).trans rfl
                        have hcz39_5 : wc.cell? ⟨gb193, 5, none⟩ = some (.int .i64 ((rd_T74 t186 x27_1).f5)) := (blk_cell BK193.out 5).trans rfl
                        have hcz39_6 : wc.cell? ⟨gb193, 6, none⟩ = some (.int .i64 ((rd_T74 t186 x27_1).f6)) := (blk_cell BK193.out 6).trans rfl
                        have hfz39_0 := blk_frozen BK193.out 0
                        have hfz39_1 := blk_frozen BK193.out 1
                        have hfz39_2 := blk_frozen BK193.out 2
                        have hfz39_3 := blk_frozen BK193.out 3
                        have hfz39_4 := blk_frozen BK193.out 4
                        have hfz39_5 := blk_frozen BK193.out 5
                        have hfz39_6 := blk_frozen BK193.out 6
                        go_wp2_with (first | ((with_reducible refine gate_callee (f := 121) rfl ?_); refine goesL_ (some 51) rfl rfl Try.func121 (by kernel_rfl) rfl #[.agg #[.int .i64 ((rd_T74 t186 x27_1).f0), .int .i64 ((rd_T74 t186 x27_1).f1), .int .i64 ((rd_T74 t186 x27_1).f2), .int .i64 ((rd_T74 t186 x27_1).f3), .int .i64 ((rd_T74 t186 x27_1).f4), .int .i64 ((rd_T74 t186 x27_1).f5), .int .i64 ((rd_T74 t186 x27_1).f6)]] rfl qM ?_; (with_reducible refine (spec_DifferenceOf.calls ((rd_T74 t186 x27_1).f0) ((rd_T74 t186 x27_1).f1) ((rd_T74 t186 x27_1).f2) ((rd_T74 t186 x27_1).f3) ((rd_T74 t186 x27_1).f4) ((rd_T74 t186 x27_1).f5) ((rd_T74 t186 x27_1).f6) t201 _ A36.out).mono ?_); rintro e w40 ⟨rfl, hb⟩; refine ⟨_, rfl, ?_⟩; have n0_ := Aside0.mk (Kd.R_below (qR HO_8.out) hb); have n1_ := Aside0.mk (Kd.R_below (qR HO_25.out) hb); have n2_ := Aside0.mk (qL BK184.out hb); have n3_ := Aside0.mk (qL BK193.out hb); have n4_ := Aside0.mk (below_step qB hb); clear HO_8; clear HO_25; clear BK184; clear BK193; clear HB; have HO_8 := n0_; have HO_25 := n1_; have BK184 := n2_; have BK193 := n3_; have HB := n4_; clear n0_ n1_ n2_ n3_ n4_; (try clear hb); (try clear hb2); (try clear hk); (try clear hi)) | ((with_reducible refine gate_builtin (b := .append) (xs := #[.tmp 77, .tmp 79]) rfl ?_); at_builtin; refine Kd.R_append (Kd.int .i64) (w0 := w) w.heap.size rfl (.tmp 77) (.tmp 79) 23 3 (.int .i64 0) 8 rfl Try.underlying23 info3 rfl (by decide) (by omega) u8 x8_1 t201 [.int .i64 t201] (fun _ => True) (fun _ => False) rfl rfl ?aP (fun _ hk => hk.elim) ?aF ?aO ?aB ?aS ?aL ?_; (case aP => exact rfl); (case aB => exact qB); (case aF => exact (fun _ _ => trivial)); (case aO => exact (qR HO_8.out)); (case aS => exact (below_size qB)); (case aL => have := LMc37.out; omega); intro v203 w41 ho hb hg hat; rw [← Ny202.out] at ho; have n0_ := Aside0.mk (Kd.R_over' (qR HO_25.out) (Kd.R_typed (qR HO_8.out)) (by decide) hg); have n1_ := Aside0.mk (blk_grown (qK BK184.out) hg (Kd.R_ne HO_8.out BK184.out (by decide))); have n2_ := Aside0.mk (blk_grown (qK BK193.out) hg (Kd.R_ne HO_8.out BK193.out (by decide))); have n3_ := Aside0.mk (hb); have n4_ := Aside0.mk (ho); clear HO_25; clear BK184; clear BK193; clear HB; clear HO_8; have HO_25 := n0_; have BK184 := n1_; have BK193 := n2_; have HB := n3_; have HO204 := n4_; clear n0_ n1_ n2_ n3_ n4_; clear ho hb hg hat))
                        go_roundg kj29
                        case measure => have := HK1.out; have := HJ29.out; omega
                        case rel => exact ⟨(y202), (wrap64 (x27_1 + 1)), qS, H', ⟨by have := HK1.out; have := HJ29.out; omega⟩, ⟨qR HO204.out⟩, ⟨by (with_reducible repeat (first | apply Kd.R_alloc | apply Kd.R_drewN | apply Kd.R_drew)); exact Kd.R_mono HO_25.out (fun _ hk => trivial)⟩, ⟨qK BK184.out⟩, ⟨qB⟩⟩
                      · rw [if_neg c37] at H
                        exact absurd H (by simp)
                    · replace c35 := Bool.eq_false_iff.mpr c35
                      subst c35
                      have H1 : (if a1 = 3 then (if x8_1.length < 17592186044416 then (spec_l07Values.l0 kj29 a1 (x8_1 ++ [((rd_T74 t186 x27_1).f4)]) t186 (t186.length : Int) (wrap64 (x27_1 + 1)) l0_0 a0_1 a0_2 a0_3 l0_4 a0_5 l0_6 l0_7 l0_8) else (none)) else (if a1 = 4 then (if x8_1.length < 17592186044416 then (spec_l07Values.l0 kj29 a1 (x8_1 ++ [((rd_T74 t186 x27_1).f1)]) t186 (t186.length : Int) (wrap64 (x27_1 + 1)) l0_0 a0_1 a0_2 a0_3 l0_4 a0_5 l0_6 l0_7 l0_8) else (none)) else (if a1 = 7 then (if 0 ≤ x27_1 then (if x27_1 < (l0_7.length : Int) then (if x8_1.length < 17592186044416 then (spec_l07Values.l0 kj29 a1 (x8_1 ++ [wrap64 (-(rd l0_7 x27_1))]) t186 (t186.length : Int) (wrap64 (x27_1 + 1)) l0_0 a0_1 a0_2 a0_3 l0_4 a0_5 l0_6 l0_7 l0_8) else (none)) else (none)) else (none)) else (if a1 = 8 then (if 0 ≤ x27_1 then (if x27_1 < (l0_0.length : Int) then (if x8_1.length < 17592186044416 then (spec_l07Values.l0 kj29 a1 (x8_1 ++ [wrap64 (-((rd_T151 l0_0 x27_1).f2))]) t186 (t186.length : Int) (wrap64 (x27_1 + 1)) l0_0 a0_1 a0_2 a0_3 l0_4 a0_5 l0_6 l0_7 l0_8) else (none)) else (none)) else (none)) else (if x8_1.length < 17592186044416 then (spec_l07Values.l0 kj29 a1 (x8_1 ++ [0]) t186 (t186.length : Int) (wrap64 (x27_1 + 1)) l0_0 a0_1 a0_2 a0_3 l0_4 a0_5 l0_6 l0_7 l0_8) else (none)))))) = some r := by rw [if_neg (show ¬ (false = true) by decide)] at H; exact H
                      clear H
                      have H := H1
                      clear H1
                      by_cases c42 : a1 = 3
                      · rw [if_pos c42] at H
                        have c42b0 : (a1 == 3) = true := beq_iff_eq.mpr c42
                        have c42b1 : (a1 != 3) = false := bne_eq_false_iff_eq.mpr c42
                        clear c42
                        by_cases c43 : x8_1.length < 17592186044416
                        · rw [if_pos c43] at H
                          have LMc43 := Aside0.mk c43
                          clear c43
                          obtain ⟨y205, hy205⟩ : ∃ y_ : List Int, y_ = (x8_1 ++ [((rd_T74 t186 x27_1).f4)]) := ⟨_, rfl⟩
                          replace H : (spec_l07Values.l0 kj29 a1 y205 t186 (t186.length : Int) (wrap64 (x27_1 + 1)) l0_0 a0_1 a0_2 a0_3 l0_4 a0_5 l0_6 l0_7 l0_8) = some r := by first | (rw [hy205]; with_reducible exact H) | (have H2_ := (Option.bind_some _ _).symm.trans H; rw [hy205]; with_reducible exact H2_) | (have H2_ := (Option.bind_some _ _).symm.trans H; with_reducible exact H2_) | with_reducible exact H | (rw [hy205]; exact H) | exact H
                          have Ny205 := Aside0.mk hy205
                          clear hy205
                          have H' := Aside0.mk H
                          clear H
                          have hnb44 := NB193_184.out
                          have hnc44 := NB184_193.out
                          have hcz45_0 : wc.cell? ⟨gb193, 0, none⟩ = some (.int .i64 ((rd_T74 t186 x27_1).f0)) := (blk_cell BK193.out 0).trans rfl
                          have hcz45_1 : wc.cell? ⟨gb193, 1, none⟩ = some (.int .i64 ((rd_T74 t186 x27_1).f1)) := (blk_cell BK193.out 1).trans rfl
                          have hcz45_2 : wc.cell? ⟨gb193, 2, none⟩ = some (.int .i64 ((rd_T74 t186 x27_1).f2)) := (blk_cell BK193.out 2).trans rfl
                          have hcz45_3 : wc.cell? ⟨gb193, 3, none⟩ = some (.int .i64 ((rd_T74 t186 x27_1).f3)) := (blk_cell BK193.out 3).trans rfl
                          have hcz45_4 : wc.cell? ⟨gb193, 4, none⟩ = some (.int .i64 ((rd_T74 t186 x27_1).f4)) := (blk_cell BK193.out 4).trans rfl
                          have hcz45_5 : wc.cell? ⟨gb193, 5, none⟩ = some (.int .i64 ((rd_T74 t186 x27_1).f5)) := (blk_cell BK193.out 5).trans rfl
                          have hcz45_6 : wc.cell? ⟨gb193, 6, none⟩ = some (.int .i64 ((rd_T74 t186 x27_1).f6)) := (blk_cell BK193.out 6).trans rfl
                          have hfz45_0 := blk_frozen BK193.out 0
                          have hfz45_1 := blk_frozen BK193.out 1
                          have hfz45_2 := blk_frozen BK193.out 2
                          have hfz45_3 := blk_frozen BK193.out 3
                          have hfz45_4 := blk_frozen BK193.out 4
                          have hfz45_5 := blk_frozen BK193.out 5
                          have hfz45_6 := blk_frozen BK193.out 6
                          go_wp2_with (first | ((with_reducible refine gate_builtin (b := .append) (xs := #[.tmp 77, .tmp 79]) rfl ?_); at_builtin; refine Kd.R_append (Kd.int .i64) (w0 := w) w.heap.size rfl (.tmp 77) (.tmp 79) 23 3 (.int .i64 0) 8 rfl Try.underlying23 info3 rfl (by decide) (by omega) u8 x8_1 ((rd_T74 t186 x27_1).f4) [.int .i64 ((rd_T74 t186 x27_1).f4)] (fun _ => True) (fun _ => False) rfl rfl ?aP (fun _ hk => hk.elim) ?aF ?aO ?aB ?aS ?aL ?_; (case aP => exact rfl); (case aB => exact qB); (case aF => exact (fun _ _ => trivial)); (case aO => exact (qR HO_8.out)); (case aS => exact (below_size qB)); (case aL => have := LMc43.out; omega); intro v206 w46 ho hb hg hat; rw [← Ny205.out] at ho; have n0_ := Aside0.mk (Kd.R_over' (qR HO_25.out) (Kd.R_typed (qR HO_8.out)) (by decide) hg); have n1_ := Aside0.mk (blk_grown (qK BK184.out) hg (Kd.R_ne HO_8.out BK184.out (by decide))); have n2_ := Aside0.mk (blk_grown (qK BK193.out) hg (Kd.R_ne HO_8.out BK193.out (by decide))); have n3_ := Aside0.mk (hb); have n4_ := Aside0.mk (ho); clear HO_25; clear BK184; clear BK193; clear HB; clear HO_8; have HO_25 := n0_; have BK184 := n1_; have BK193 := n2_; have HB := n3_; have HO207 := n4_; clear n0_ n1_ n2_ n3_ n4_; clear ho hb hg hat))
                          go_roundg kj29
                          case measure => have := HK1.out; have := HJ29.out; omega
                          case rel => exact ⟨(y205), (wrap64 (x27_1 + 1)), qS, H', ⟨by have := HK1.out; have := HJ29.out; omega⟩, ⟨qR HO207.out⟩, ⟨by (with_reducible repeat (first | apply Kd.R_alloc | apply Kd.R_drewN | apply Kd.R_drew)); exact Kd.R_mono HO_25.out (fun _ hk => trivial)⟩, ⟨qK BK184.out⟩, ⟨qB⟩⟩
                        · rw [if_neg c43] at H
                          exact absurd H (by simp)
                      · rw [if_neg c42] at H
                        have c42b0 : (a1 == 3) = false := beq_eq_false_iff_ne.mpr c42
                        have c42b1 : (a1 != 3) = true := bne_iff_ne.mpr c42
                        by_cases c47 : a1 = 4
                        · rw [if_pos c47] at H
                          have c47b0 : (a1 == 4) = true := beq_iff_eq.mpr c47
                          have c47b1 : (a1 != 4) = false := bne_eq_false_iff_eq.mpr c47
                          clear c47
                          by_cases c48 : x8_1.length < 17592186044416
                          · rw [if_pos c48] at H
                            have LMc48 := Aside0.mk c48
                            clear c48
                            obtain ⟨y208, hy208⟩ : ∃ y_ : List Int, y_ = (x8_1 ++ [((rd_T74 t186 x27_1).f1)]) := ⟨_, rfl⟩
                            replace H : (spec_l07Values.l0 kj29 a1 y208 t186 (t186.length : Int) (wrap64 (x27_1 + 1)) l0_0 a0_1 a0_2 a0_3 l0_4 a0_5 l0_6 l0_7 l0_8) = some r := by first | (rw [hy208]; with_reducible exact H) | (have H2_ := (Option.bind_some _ _).symm.trans H; rw [hy208]; with_reducible exact H2_) | (have H2_ := (Option.bind_some _ _).symm.trans H; with_reducible exact H2_) | with_reducible exact H | (rw [hy208]; exact H) | exact H
                            have Ny208 := Aside0.mk hy208
                            clear hy208
                            have H' := Aside0.mk H
                            clear H
                            have hnb49 := NB193_184.out
                            have hnc49 := NB184_193.out
                            have hcz50_0 : wc.cell? ⟨gb193, 0, none⟩ = some (.int .i64 ((rd_T74 t186 x27_1).f0)) := (blk_cell BK193.out 0).trans rfl
                            have hcz50_1 : wc.cell? ⟨gb193, 1, none⟩ = some (.int .i64 ((rd_T74 t186 x27_1).f1)) := (blk_cell BK193.out 1).trans rfl
                            have hcz50_2 : wc.cell? ⟨gb193, 2, none⟩ = some (.int .i64 ((rd_T74 t186 x27_1).f2)) := (blk_cell BK193.out 2).trans rfl
                            have hcz50_3 : wc.cell? ⟨gb193, 3, none⟩ = some (.int .i64 ((rd_T74 t186 x27_1).f3)) := (blk_cell BK193.out 3).trans rfl
                            have hcz50_4 : wc.cell? ⟨gb193, 4, none⟩ = some (.int .i64 ((rd_T74 t186 x27_1).f4)) := (blk_cell BK193.out 4).trans rfl
                            have hcz50_5 : wc.cell? ⟨gb193, 5, none⟩ = some (.int .i64 ((rd_T74 t186 x27_1).f5)) := (blk_cell BK193.out 5).trans rfl
                            have hcz50_6 : wc.cell? ⟨gb193, 6, none⟩ = some (.int .i64 ((rd_T74 t186 x27_1).f6)) := (blk_cell BK193.out 6).trans rfl
                            have hfz50_0 := blk_frozen BK193.out 0
                            have hfz50_1 := blk_frozen BK193.out 1
                            have hfz50_2 := blk_frozen BK193.out 2
                            have hfz50_3 := blk_frozen BK193.out 3
                            have hfz50_4 := blk_frozen BK193.out 4
                            have hfz50_5 := blk_frozen BK193.out 5
                            have hfz50_6 := blk_frozen BK193.out 6
                            go_wp2_with (first | ((with_reducible refine gate_builtin (b := .append) (xs := #[.tmp 77, .tmp 79]) rfl ?_); at_builtin; refine Kd.R_append (Kd.int .i64) (w0 := w) w.heap.size rfl (.tmp 77) (.tmp 79) 23 3 (.int .i64 0) 8 rfl Try.underlying23 info3 rfl (by decide) (by omega) u8 x8_1 ((rd_T74 t186 x27_1).f1) [.int .i64 ((rd_T74 t186 x27_1).f1)] (fun _ => True) (fun _ => False) rfl rfl ?aP (fun _ hk => hk.elim) ?aF ?aO ?aB ?aS ?aL ?_; (case aP => exact rfl); (case aB => exact qB); (case aF => exact (fun _ _ => trivial)); (case aO => exact (qR HO_8.out)); (case aS => exact (below_size qB)); (case aL => have := LMc48.out; omega); intro v209 w51 ho hb hg hat; rw [← Ny208.out] at ho; have n0_ := Aside0.mk (Kd.R_over' (qR HO_25.out) (Kd.R_typed (qR HO_8.out)) (by decide) hg); have n1_ := Aside0.mk (blk_grown (qK BK184.out) hg (Kd.R_ne HO_8.out BK184.out (by decide))); have n2_ := Aside0.mk (blk_grown (qK BK193.out) hg (Kd.R_ne HO_8.out BK193.out (by decide))); have n3_ := Aside0.mk (hb); have n4_ := Aside0.mk (ho); clear HO_25; clear BK184; clear BK193; clear HB; clear HO_8; have HO_25 := n0_; have BK184 := n1_; have BK193 := n2_; have HB := n3_; have HO210 := n4_; clear n0_ n1_ n2_ n3_ n4_; clear ho hb hg hat))
                            go_roundg kj29
                            case measure => have := HK1.out; have := HJ29.out; omega
                            case rel => exact ⟨(y208), (wrap64 (x27_1 + 1)), qS, H', ⟨by have := HK1.out; have := HJ29.out; omega⟩, ⟨qR HO210.out⟩, ⟨by (with_reducible repeat (first | apply Kd.R_alloc | apply Kd.R_drewN | apply Kd.R_drew)); exact Kd.R_mono HO_25.out (fun _ hk => trivial)⟩, ⟨qK BK184.out⟩, ⟨qB⟩⟩
                          · rw [if_neg c48] at H
                            exact absurd H (by simp)
                        · rw [if_neg c47] at H
                          have c47b0 : (a1 == 4) = false := beq_eq_false_iff_ne.mpr c47
                          have c47b1 : (a1 != 4) = true := bne_iff_ne.mpr c47
                          by_cases c52 : a1 = 7
                          · rw [if_pos c52] at H
                            have c52b0 : (a1 == 7) = true := beq_iff_eq.mpr c52
                            have c52b1 : (a1 != 7) = false := bne_eq_false_iff_eq.mpr c52
                            clear c52
                            by_cases c53 : 0 ≤ x27_1
                            · rw [if_pos c53] at H
                              have c53b0 : decide (0 ≤ x27_1) = true := decide_eq_true c53
                              clear c53
                              by_cases c54 : x27_1 < (l0_7.length : Int)
                              · rw [if_pos c54] at H
                                have c54b0 : decide (x27_1 < (l0_7.length : Int)) = true := decide_eq_true c54
                                clear c54
                                by_cases c55 : x8_1.length < 17592186044416
                                · rw [if_pos c55] at H
                                  have LMc55 := Aside0.mk c55
                                  clear c55
                                  obtain ⟨y212, hy212⟩ : ∃ y_ : List Int, y_ = (x8_1 ++ [wrap64 (-(rd l0_7 x27_1))]) := ⟨_, rfl⟩
                                  replace H : (spec_l07Values.l0 kj29 a1 y212 t186 (t186.length : Int) (wrap64 (x27_1 + 1)) l0_0 a0_1 a0_2 a0_3 l0_4 a0_5 l0_6 l0_7 l0_8) = some r := by first | (rw [hy212]; with_reducible exact H) | (have H2_ := (Option.bind_some _ _).symm.trans H; rw [hy212]; with_reducible exact H2_) | (have H2_ := (Option.bind_some _ _).symm.trans H; with_reducible exact H2_) | with_reducible exact H | (rw [hy212]; exact H) | exact H
                                  have Ny212 := Aside0.mk hy212
                                  clear hy212
                                  have H' := Aside0.mk H
                                  clear H
                                  have hnb56 := NB184_193.out
                                  have hnc56 := NB193_184.out
                                  have hcz57_0 : wc.cell? ⟨gb184, 0, none⟩ = some (.slice A0_0 l0_0.length c0_0) := (blk_cell BK184.out 0).trans rfl
                                  have hcz57_1 : wc.cell? ⟨gb184, 1, none⟩ = some (.int .i64 a0_1) := (blk_cell BK184.out 1).trans rfl
                                  have hcz57_2 : wc.cell? ⟨gb184, 2, none⟩ = some (.int .i64 a0_2) := (blk_cell BK184.out 2).trans rfl
                                  have hcz57_3 : wc.cell? ⟨gb184, 3, none⟩ = some (.int .i64 a0_3) := (blk_cell BK184.out 3).trans rfl
                                  have hcz57_4 : wc.cell? ⟨gb184, 4, none⟩ = some (.slice A0_4 l0_4.length c0_4) := (blk_cell BK184.out 4).trans rfl
                                  have hcz57_5 : wc.cell? ⟨gb184, 5, none⟩ = some (.bool a0_5) := (blk_cell BK184.out 5).trans rfl
                                  have hcz57_6 : wc.cell? ⟨gb184, 6, none⟩ = some (.slice A0_6 l0_6.length c0_6) := (blk_cell BK184.out 6).trans rfl
                                  have hcz57_7 : wc.cell? ⟨gb184, 7, none⟩ = some (.slice A0_7 l0_7.length c0_7) := (blk_cell BK184.out 7).trans rfl
                                  have hcz57_8 : wc.cell? ⟨gb184, 8, none⟩ = some (.slice A0_8 l0_8.length c0_8) := (blk_cell BK184.out 8).trans rfl
                                  have hfz57_0 := blk_frozen BK184.out 0
                                  have hfz57_1 := blk_frozen BK184.out 1
                                  have hfz57_2 := blk_frozen BK184.out 2
                                  have hfz57_3 := blk_frozen BK184.out 3
                                  have hfz57_4 := blk_frozen BK184.out 4
                                  have hfz57_5 := blk_frozen BK184.out 5
                                  have hfz57_6 := blk_frozen BK184.out 6
                                  have hfz57_7 := blk_frozen BK184.out 7
                                  have hfz57_8 := blk_frozen BK184.out 8
                                  have p211 : 0 ≤ (x27_1 : Int) := qD
                                  have q211 : x27_1 < (l0_7.length : Int) := qD
                                  obtain ⟨ad211, e211, hx211_0⟩ := Kd.at_int HR0_7.out x27_1 p211 q211
                                  cases e211
                                  replace hx211_0 := (HB.out.cell (World.block_lt_of_cell? w _ hx211_0)).trans hx211_0
                                  replace p211 := eq_true p211
                                  replace q211 := eq_true q211
                                  go_wp2_with (first | ((with_reducible refine gate_builtin (b := .append) (xs := #[.tmp 77, .tmp 79]) rfl ?_); at_builtin; refine Kd.R_append (Kd.int .i64) (w0 := w) w.heap.size rfl (.tmp 77) (.tmp 79) 23 3 (.int .i64 0) 8 rfl Try.underlying23 info3 rfl (by decide) (by omega) u8 x8_1 (wrap64 (-(rd l0_7 x27_1))) [.int .i64 (wrap64 (-(rd l0_7 x27_1)))] (fun _ => True) (fun _ => False) rfl rfl ?aP (fun _ hk => hk.elim) ?aF ?aO ?aB ?aS ?aL ?_; (case aP => exact rfl); (case aB => exact qB); (case aF => exact (fun _ _ => trivial)); (case aO => exact (qR HO_8.out)); (case aS => exact (below_size qB)); (case aL => have := LMc55.out; omega); intro v213 w58 ho hb hg hat; rw [← Ny212.out] at ho; have n0_ := Aside0.mk (Kd.R_over' (qR HO_25.out) (Kd.R_typed (qR HO_8.out)) (by decide) hg); have n1_ := Aside0.mk (blk_grown (qK BK184.out) hg (Kd.R_ne HO_8.out BK184.out (by decide))); have n2_ := Aside0.mk (blk_grown (qK BK193.out) hg (Kd.R_ne HO_8.out BK193.out (by decide))); have n3_ := Aside0.mk (hb); have n4_ := Aside0.mk (ho); clear HO_25; clear BK184; clear BK193; clear HB; clear HO_8; have HO_25 := n0_; have BK184 := n1_; have BK193 := n2_; have HB := n3_; have HO214 := n4_; clear n0_ n1_ n2_ n3_ n4_; clear ho hb hg hat))
                                  go_roundg kj29
                                  case measure => have := HK1.out; have := HJ29.out; omega
                                  case rel => exact ⟨(y212), (wrap64 (x27_1 + 1)), qS, H', ⟨by have := HK1.out; have := HJ29.out; omega⟩, ⟨qR HO214.out⟩, ⟨by (with_reducible repeat (first | apply Kd.R_alloc | apply Kd.R_drewN | apply Kd.R_drew)); exact Kd.R_mono HO_25.out (fun _ hk => trivial)⟩, ⟨qK BK184.out⟩, ⟨qB⟩⟩
                                · rw [if_neg c55] at H
                                  exact absurd H (by simp)
                              · rw [if_neg c54] at H
                                exact absurd H (by simp)
                            · rw [if_neg c53] at H
                              exact absurd H (by simp)
                          · rw [if_neg c52] at H
                            have c52b0 : (a1 == 7) = false := beq_eq_false_iff_ne.mpr c52
                            have c52b1 : (a1 != 7) = true := bne_iff_ne.mpr c52
                            by_cases c59 : a1 = 8
                            · rw [if_pos c59] at H
                              have c59b0 : (a1 == 8) = true := beq_iff_eq.mpr c59
                              have c59b1 : (a1 != 8) = false := bne_eq_false_iff_eq.mpr c59
                              clear c59
                              by_cases c60 : 0 ≤ x27_1
                              · rw [if_pos c60] at H
                                have c60b0 : decide (0 ≤ x27_1) = true := decide_eq_true c60
                                clear c60
                                by_cases c61 : x27_1 < (l0_0.length : Int)
                                · rw [if_pos c61] at H
                                  have c61b0 : decide (x27_1 < (l0_0.length : Int)) = true := decide_eq_true c61
                                  clear c61
                                  by_cases c62 : x8_1.length < 17592186044416
                                  · rw [if_pos c62] at H
                                    have LMc62 := Aside0.mk c62
                                    clear c62
                                    obtain ⟨y216, hy216⟩ : ∃ y_ : List Int, y_ = (x8_1 ++ [wrap64 (-((rd_T151 l0_0 x27_1).f2))]) := ⟨_, rfl⟩
                                    replace H : (spec_l07Values.l0 kj29 a1 y216 t186 (t186.length : Int) (wrap64 (x27_1 + 1)) l0_0 a0_1 a0_2 a0_3 l0_4 a0_5 l0_6 l0_7 l0_8) = some r := by first | (rw [hy216]; with_reducible exact H) | (have H2_ := (Option.bind_some _ _).symm.trans H; rw [hy216]; with_reducible exact H2_) | (have H2_ := (Option.bind_some _ _).symm.trans H; with_reducible exact H2_) | with_reducible exact H | (rw [hy216]; exact H) | exact H
                                    have Ny216 := Aside0.mk hy216
                                    clear hy216
                                    have H' := Aside0.mk H
                                    clear H
                                    have hnb63 := NB184_193.out
                                    have hnc63 := NB193_184.out
                                    have hcz64_0 : wc.cell? ⟨gb184, 0, none⟩ = some (.slice A0_0 l0_0.length c0_0) := (blk_cell BK184.out 0).trans rfl
                                    have hcz64_1 : wc.cell? ⟨gb184, 1, none⟩ = some (.int .i64 a0_1) := (blk_cell BK184.out 1).trans rfl
                                    have hcz64_2 : wc.cell? ⟨gb184, 2, none⟩ = some (.int .i64 a0_2) := (blk_cell BK184.out 2).trans rfl
                                    have hcz64_3 : wc.cell? ⟨gb184, 3, none⟩ = some (.int .i64 a0_3) := (blk_cell BK184.out 3).trans rfl
                                    have hcz64_4 : wc.cell? ⟨gb184, 4, none⟩ = some (.slice A0_4 l0_4.length c0_4) := (blk_cell BK184.out 4).trans rfl
                                    have hcz64_5 : wc.cell? ⟨gb184, 5, none⟩ = some (.bool a0_5) := (blk_cell BK184.out 5).trans rfl
                                    have hcz64_6 : wc.cell? ⟨gb184, 6, none⟩ = some (.slice A0_6 l0_6.length c0_6) := (blk_cell BK184.out 6).trans rfl
                                    have hcz64_7 : wc.cell? ⟨gb184, 7, none⟩ = some (.slice A0_7 l0_7.length c0_7) := (blk_cell BK184.out 7).trans rfl
                                    have hcz64_8 : wc.cell? ⟨gb184, 8, none⟩ = some (.slice A0_8 l0_8.length c0_8) := (blk_cell BK184.out 8).trans rfl
                                    have hfz64_0 := blk_frozen BK184.out 0
                                    have hfz64_1 := blk_frozen BK184.out 1
                                    have hfz64_2 := blk_frozen BK184.out 2
                                    have hfz64_3 := blk_frozen BK184.out 3
                                    have hfz64_4 := blk_frozen BK184.out 4
                                    have hfz64_5 := blk_frozen BK184.out 5
                                    have hfz64_6 := blk_frozen BK184.out 6
                                    have hfz64_7 := blk_frozen BK184.out 7
                                    have hfz64_8 := blk_frozen BK184.out 8
                                    have p215 : 0 ≤ (x27_1 : Int) := qD
                                    have q215 : x27_1 < (l0_0.length : Int) := qD
                                    obtain ⟨ad215, e215, hx215_0, hx215_1, hx215_2⟩ := at_T151 HR0_0.out x27_1 p215 q215
                                    cases e215
                                    replace hx215_0 := (HB.out.cell (World.block_lt_of_cell? w _ hx215_0)).trans hx215_0
                                    replace hx215_1 := (HB.out.cell (World.block_lt_of_cell? w _ hx215_1)).trans hx215_1
                                    replace hx215_2 := (HB.out.cell (World.block_lt_of_cell? w _ hx215_2)).trans hx215_2
                                    replace p215 := eq_true p215
                                    replace q215 := eq_true q215
                                    go_wp2_with (first | ((with_reducible refine gate_builtin (b := .append) (xs := #[.tmp 77, .tmp 79]) rfl ?_); at_builtin; refine Kd.R_append (Kd.int .i64) (w0 := w) w.heap.size rfl (.tmp 77) (.tmp 79) 23 3 (.int .i64 0) 8 rfl Try.underlying23 info3 rfl (by decide) (by omega) u8 x8_1 (wrap64 (-((rd_T151 l0_0 x27_1).f2))) [.int .i64 (wrap64 (-((rd_T151 l0_0 x27_1).f2)))] (fun _ => True) (fun _ => False) rfl rfl ?aP (fun _ hk => hk.elim) ?aF ?aO ?aB ?aS ?aL ?_; (case aP => exact rfl); (case aB => exact qB); (case aF => exact (fun _ _ => trivial)); (case aO => exact (qR HO_8.out)); (case aS => exact (below_size qB)); (case aL => have := LMc62.out; omega); intro v217 w65 ho hb hg hat; rw [← Ny216.out] at ho; have n0_ := Aside0.mk (Kd.R_over' (qR HO_25.out) (Kd.R_typed (qR HO_8.out)) (by decide) hg); have n1_ := Aside0.mk (blk_grown (qK BK184.out) hg (Kd.R_ne HO_8.out BK184.out (by decide))); have n2_ := Aside0.mk (blk_grown (qK BK193.out) hg (Kd.R_ne HO_8.out BK193.out (by decide))); have n3_ := Aside0.mk (hb); have n4_ := Aside0.mk (ho); clear HO_25; clear BK184; clear BK193; clear HB; clear HO_8; have HO_25 := n0_; have BK184 := n1_; have BK193 := n2_; have HB := n3_; have HO218 := n4_; clear n0_ n1_ n2_ n3_ n4_; clear ho hb hg hat))
                                    go_roundg kj29
                                    case measure => have := HK1.out; have := HJ29.out; omega
                                    case rel => exact ⟨(y216), (wrap64 (x27_1 + 1)), qS, H', ⟨by have := HK1.out; have := HJ29.out; omega⟩, ⟨qR HO218.out⟩, ⟨by (with_reducible repeat (first | apply Kd.R_alloc | apply Kd.R_drewN | apply Kd.R_drew)); exact Kd.R_mono HO_25.out (fun _ hk => trivial)⟩, ⟨qK BK184.out⟩, ⟨qB⟩⟩
                                  · rw [if_neg c62] at H
                                    exact absurd H (by simp)
                                · rw [if_neg c61] at H
                                  exact absurd H (by simp)
                              · rw [if_neg c60] at H
                                exact absurd H (by simp)
                            · rw [if_neg c59] at H
                              have c59b0 : (a1 == 8) = false := beq_eq_false_iff_ne.mpr c59
                              have c59b1 : (a1 != 8) = true := bne_iff_ne.mpr c59
                              by_cases c66 : x8_1.length < 17592186044416
                              · rw [if_pos c66] at H
                                have LMc66 := Aside0.mk c66
                                clear c66
                                obtain ⟨y219, hy219⟩ : ∃ y_ : List Int, y_ = (x8_1 ++ [0]) := ⟨_, rfl⟩
                                replace H : (spec_l07Values.l0 kj29 a1 y219 t186 (t186.length : Int) (wrap64 (x27_1 + 1)) l0_0 a0_1 a0_2 a0_3 l0_4 a0_5 l0_6 l0_7 l0_8) = some r := by first | (rw [hy219]; with_reducible exact H) | (have H2_ := (Option.bind_some _ _).symm.trans H; rw [hy219]; with_reducible exact H2_) | (have H2_ := (Option.bind_some _ _).symm.trans H; with_reducible exact H2_) | with_reducible exact H | (rw [hy219]; exact H) | exact H
                                have Ny219 := Aside0.mk hy219
                                clear hy219
                                have H' := Aside0.mk H
                                clear H
                                go_wp2_with (first | ((with_reducible refine gate_builtin (b := .append) (xs := #[.tmp 77, .tmp 79]) rfl ?_); at_builtin; refine Kd.R_append (Kd.int .i64) (w0 := w) w.heap.size rfl (.tmp 77) (.tmp 79) 23 3 (.int .i64 0) 8 rfl Try.underlying23 info3 rfl (by decide) (by omega) u8 x8_1 0 [.int .i64 0] (fun _ => True) (fun _ => False) rfl rfl ?aP (fun _ hk => hk.elim) ?aF ?aO ?aB ?aS ?aL ?_; (case aP => exact rfl); (case aB => exact qB); (case aF => exact (fun _ _ => trivial)); (case aO => exact (qR HO_8.out)); (case aS => exact (below_size qB)); (case aL => have := LMc66.out; omega); intro v220 w67 ho hb hg hat; rw [← Ny219.out] at ho; have n0_ := Aside0.mk (Kd.R_over' (qR HO_25.out) (Kd.R_typed (qR HO_8.out)) (by decide) hg); have n1_ := Aside0.mk (blk_grown (qK BK184.out) hg (Kd.R_ne HO_8.out BK184.out (by decide))); have n2_ := Aside0.mk (blk_grown (qK BK193.out) hg (Kd.R_ne HO_8.out BK193.out (by decide))); have n3_ := Aside0.mk (hb); have n4_ := Aside0.mk (ho); clear HO_25; clear BK184; clear BK193; clear HB; clear HO_8; have HO_25 := n0_; have BK184 := n1_; have BK193 := n2_; have HB := n3_; have HO221 := n4_; clear n0_ n1_ n2_ n3_ n4_; clear ho hb hg hat))
                                go_roundg kj29
                                case measure => have := HK1.out; have := HJ29.out; omega
                                case rel => exact ⟨(y219), (wrap64 (x27_1 + 1)), qS, H', ⟨by have := HK1.out; have := HJ29.out; omega⟩, ⟨qR HO221.out⟩, ⟨by (with_reducible repeat (first | apply Kd.R_alloc | apply Kd.R_drewN | apply Kd.R_drew)); exact Kd.R_mono HO_25.out (fun _ hk => trivial)⟩, ⟨qK BK184.out⟩, ⟨qB⟩⟩
                              · rw [if_neg c66] at H
                                exact absurd H (by simp)
          · rw [if_neg c14] at H
            exact absurd H (by simp)
        · rw [if_neg c13] at H
          exact absurd H (by simp)
      · rw [if_neg c12] at H
        have c12b0 : decide (x27_1 < (t186.length : Int)) = false := decide_eq_false c12
        clear c12
        obtain rfl := Option.some.inj H
        go_wp2
        go_ret
        exact ⟨_, by first | rfl | (simp [errW_none, errW_some] <;> rfl) | (simp [*, errW_none, errW_some] <;> rfl), by (with_reducible repeat (first | apply Kd.R_alloc | apply Kd.R_drewN | apply Kd.R_drew)); exact HO_8.out, qB⟩

end Go.Proofs.Ytikfdjgigeggjaa.MFnExactKeyValue
