/- The functions that FnTables reaches, each with its contract: the print's form, by wip/tools/myprint.py; no condition of its own. -/
import Derived.Test.YtikfdjgigeggjaaMFnTablesx0
import Derived.Test.YtikfdjgigeggjaaMFnTablesx5
import Derived.Test.YtikfdjgigeggjaaMFnTablesx6
import Derived.Test.YtikfdjgigeggjaaMFnTablesx7
namespace Go.Proofs.Ytikfdjgigeggjaa.MFnTables
open Go.RowKit Go.Proofs.YtikfdjgigeggjaaW.PrintWords Go.Proofs.YtikfdjgigeggjaaW.PrintLast Go.Proofs.YtikfdjgigeggjaaW.PrintMore
attribute [local go_sem] max2_int min2_int max_two min_two max_three min_three max_four min_four   -- for this text's walks alone
set_option linter.unusedVariables false
set_option linter.unusedSimpArgs false

/-! ### spec_l07Book: function 91 -/
def spec_l07Book.l0 : Nat → Int → Int → List Int → Int → Int → List (S151) → Int → Int → Int → List Int → Bool → List (S71) → List Int → List Int → Option ((List (S151)) × Int × Int × Int × List Int × Bool × (List (S71)) × List Int × List Int × Int × Int)
  | 0, _, _, _, _, _, _, _, _, _, _, _, _, _, _ => none
  | k + 1, x1, x8, x1000, x1001, x1002, x256000, x256001, x256002, x256003, x256004, x256005, x256006, x256007, x256008 => if x8 < x1 then ((spec_l01Below.f x1000 x1001 x1002 4).bind fun bt256 => (if x256007.length < 17592186044416 then ((spec_l01Pick.f x1000 bt256.2.1 bt256.2.2 (([0, 0, 0, 1] : List Int))).bind fun bt265 => (if x256008.length < 17592186044416 then (spec_l07Book.l0 k x1 (wrap64 (x8 + 1)) x1000 bt265.2.1 bt265.2.2 x256000 x256001 x256002 x256003 x256004 x256005 x256006 (x256007 ++ [bt256.1]) (x256008 ++ [bt265.1])) else (none))) else (none))) else (some (x256000, x256001, x256002, x256003, x256004, x256005, x256006, x256007, x256008, x1001, x1002))
def spec_l07Book.f (k : Nat) (s0_0 : List Int) (s0_1 : Int) (s0_2 : Int) (a1 : Int) (a2 : Int) : Option ((List (S151)) × Int × Int × Int × List Int × Bool × (List (S71)) × List Int × List Int × Int × Int) := (spec_l02Field.f k s0_0 s0_1 s0_2 a1).bind fun bt236 => ((spec_l03Draw.f k s0_0 bt236.2.1 bt236.2.2).bind fun bt241 => ((spec_l04Season.f k s0_0 bt241.2.2.2.2.2.1 bt241.2.2.2.2.2.2 a1 a2).bind fun bt250 => (spec_l07Book.l0 k a1 0 s0_0 bt250.2.1 bt250.2.2 bt236.1 bt241.1 bt241.2.1 bt241.2.2.1 bt241.2.2.2.1 bt241.2.2.2.2.1 bt250.1 ([] : List Int) ([] : List Int))))
theorem spec_l07Book.mono_l : ∀ k, (∀ y0 y1 y2 y3 y4 y5 y6 y7 y8 y9 y10 y11 y12 y13, LeO (spec_l07Book.l0 k y0 y1 y2 y3 y4 y5 y6 y7 y8 y9 y10 y11 y12 y13) (spec_l07Book.l0 (k + 1) y0 y1 y2 y3 y4 y5 y6 y7 y8 y9 y10 y11 y12 y13))
  | 0 => fun _ _ _ _ _ _ _ _ _ _ _ _ _ _ r h => by simp [spec_l07Book.l0] at h
  | k + 1 => by
    have ih0 := spec_l07Book.mono_l k
    · intro y0 y1 y2 y3 y4 y5 y6 y7 y8 y9 y10 y11 y12 y13
      unfold spec_l07Book.l0
      repeat' first
      | (with_reducible exact ih0 _ _ _ _ _ _ _ _ _ _ _ _ _ _)
      | (with_reducible exact spec_l02Field.mono _ _ _ _ _)
      | (with_reducible exact spec_l03Draw.mono _ _ _ _)
      | (with_reducible exact spec_l04Season.mono _ _ _ _ _ _)
      | (with_reducible exact LeO.refl _)
      | (with_reducible exact LeO.none _)
      | (with_reducible refine LeO.ite ?_ ?_)
      | (with_reducible refine LeO.bind ?_ (fun _ => ?_))
      | exact ih0 _ _ _ _ _ _ _ _ _ _ _ _ _ _
      | exact spec_l02Field.mono _ _ _ _ _
      | exact spec_l03Draw.mono _ _ _ _
      | exact spec_l04Season.mono _ _ _ _ _ _
      | exact LeO.none _
      | refine LeO.ite ?_ ?_
      | refine LeO.bind ?_ (fun _ => ?_)
theorem spec_l07Book.mono : ∀ a0 a1 a2 a3 a4 k, LeO (spec_l07Book.f k a0 a1 a2 a3 a4) (spec_l07Book.f (k + 1) a0 a1 a2 a3 a4) := by
  intro a0 a1 a2 a3 a4 k
  have ih0 := spec_l07Book.mono_l k
  unfold spec_l07Book.f
  repeat' first
      | (with_reducible exact ih0 _ _ _ _ _ _ _ _ _ _ _ _ _ _)
      | (with_reducible exact spec_l02Field.mono _ _ _ _ _)
      | (with_reducible exact spec_l03Draw.mono _ _ _ _)
      | (with_reducible exact spec_l04Season.mono _ _ _ _ _ _)
      | (with_reducible exact LeO.refl _)
      | (with_reducible exact LeO.none _)
      | (with_reducible refine LeO.ite ?_ ?_)
      | (with_reducible refine LeO.bind ?_ (fun _ => ?_))
      | exact ih0 _ _ _ _ _ _ _ _ _ _ _ _ _ _
      | exact spec_l02Field.mono _ _ _ _ _
      | exact spec_l03Draw.mono _ _ _ _
      | exact spec_l04Season.mono _ _ _ _ _ _
      | exact LeO.none _
      | refine LeO.ite ?_ ?_
      | refine LeO.bind ?_ (fun _ => ?_)
def spec_l07Book.T5 : Bool × List (List Nat × List Nat) := (true, [([], []), ([0], [0]), ([], []), ([2], [2]), ([3], [3]), ([1, 4, 3], [1, 4]), ([0, 1, 2, 3, 4, 5], []), ([6, 5, 5, 0, 1, 2, 3, 4, 5], [5, 6])])
def spec_l07Book.B5 : List Nat := [0, 1, 0, 4, 12, 31, 63, 127]
theorem spec_l07Book.tab5 : rtab .any (opsOf Try.f91 5) = spec_l07Book.T5 := by kernel_rfl
theorem spec_l07Book.bits5 : waitsOk spec_l07Book.T5.2 spec_l07Book.B5 = true := by kernel_rfl
def spec_l07Book.T6 : Bool × List (List Nat × List Nat) := (true, [([], []), ([0], [0]), ([], []), ([], []), ([2, 3], [2, 3]), ([4], [4]), ([1, 5, 4], [1, 5]), ([0, 1, 2, 3, 4, 5, 6], []), ([7, 6, 6, 0, 1, 2, 3, 4, 5, 6], [6, 7])])
def spec_l07Book.B6 : List Nat := [0, 1, 0, 0, 12, 28, 63, 127, 255]
theorem spec_l07Book.tab6 : rtab .any (opsOf Try.f91 6) = spec_l07Book.T6 := by kernel_rfl
theorem spec_l07Book.bits6 : waitsOk spec_l07Book.T6.2 spec_l07Book.B6 = true := by kernel_rfl
set_option maxHeartbeats 8000000 in
set_option maxRecDepth 100000 in
theorem spec_l07Book.calls (k : Nat) (g : Nat) (s0_0 : List Int) (s0_1 : Int) (s0_2 : Int) (a1 : Int) (a2 : Int) (r1 : List (S151)) (r2 : Int) (r3 : Int) (r4 : Int) (r5 : List Int) (r6 : Bool) (r7 : List (S71)) (r8 : List Int) (r9 : List Int) (r10 : Int) (r11 : Int) (w0 w : World) (hI : IsS134 w0 w g s0_0 s0_1 s0_2) (hB : Below w0.heap.size w0 w) (h : spec_l07Book.f k s0_0 s0_1 s0_2 a1 a2 = some (r1, r2, r3, r4, r5, r6, r7, r8, r9, r10, r11)) :
    Calls Try.prog 91 #[.pointer (some ⟨g, 0, none⟩), .int .i64 a1, .int .i64 a2] w fun e w' => ∃ v0_ v4_ v6_ v7_ v8_ : Value, e = .returned (.agg #[v0_, .int .i64 r2, .int .i64 r3, .int .i64 r4, v4_, .bool r6, v6_, v7_, v8_]) ∧ Kd.R k151 151 w' w.heap.size (fun _ => True) v0_ r1 ∧ Kd.R (Kd.int .i64) 3 w' w.heap.size (fun k_ => some k_ ≠ (v7_ : Value).ownBlock ∧ some k_ ≠ (v8_ : Value).ownBlock) v4_ r5 ∧ Kd.R k71 71 w' w.heap.size (fun _ => True) v6_ r7 ∧ Kd.R (Kd.int .i64) 3 w' w.heap.size (fun k_ => some k_ ≠ (v4_ : Value).ownBlock ∧ some k_ ≠ (v8_ : Value).ownBlock) v7_ r8 ∧ Kd.R (Kd.int .i64) 3 w' w.heap.size (fun k_ => some k_ ≠ (v4_ : Value).ownBlock ∧ some k_ ≠ (v7_ : Value).ownBlock) v8_ r9 ∧ IsS134 w0 w' g s0_0 r10 r11 ∧ Below w0.heap.size w0 w' ∧ KeepBut w w' g none := by
  have hu67 := Try.underlying67
  have HI0 := Aside0.mk hI
  have HK := Aside0.mk (KeepBut.refl w g none)
  have HL := Aside0.mk hB.size
  clear hI
  have HW0 := Aside0.mk hB.size
  have HB := Aside0.mk hB
  clear hB
  have H : ((spec_l02Field.f k s0_0 s0_1 s0_2 a1).bind fun bt236 => ((spec_l03Draw.f k s0_0 bt236.2.1 bt236.2.2).bind fun bt241 => ((spec_l04Season.f k s0_0 bt241.2.2.2.2.2.1 bt241.2.2.2.2.2.2 a1 a2).bind fun bt250 => (spec_l07Book.l0 k a1 0 s0_0 bt250.2.1 bt250.2.2 bt236.1 bt241.1 bt241.2.1 bt241.2.2.1 bt241.2.2.2.1 bt241.2.2.2.2.1 bt250.1 ([] : List Int) ([] : List Int))))) = some (r1, r2, r3, r4, r5, r6, r7, r8, r9, r10, r11) := h
  clear h
  replace H := Option.bind_eq_some_iff.mp H
  obtain ⟨⟨t236, t239, t240⟩, A40, H⟩ := H
  replace H : ((spec_l03Draw.f k s0_0 t239 t240).bind fun bt241 => ((spec_l04Season.f k s0_0 bt241.2.2.2.2.2.1 bt241.2.2.2.2.2.2 a1 a2).bind fun bt250 => (spec_l07Book.l0 k a1 0 s0_0 bt250.2.1 bt250.2.2 t236 bt241.1 bt241.2.1 bt241.2.2.1 bt241.2.2.2.1 bt241.2.2.2.2.1 bt250.1 ([] : List Int) ([] : List Int)))) = some (r1, r2, r3, r4, r5, r6, r7, r8, r9, r10, r11) := H
  have A4 := Aside0.mk A40
  clear A40
  replace H := Option.bind_eq_some_iff.mp H
  obtain ⟨⟨t241, t242, t243, t244, t247, t248, t249⟩, A50, H⟩ := H
  replace H : ((spec_l04Season.f k s0_0 t248 t249 a1 a2).bind fun bt250 => (spec_l07Book.l0 k a1 0 s0_0 bt250.2.1 bt250.2.2 t236 t241 t242 t243 t244 t247 bt250.1 ([] : List Int) ([] : List Int))) = some (r1, r2, r3, r4, r5, r6, r7, r8, r9, r10, r11) := H
  have A5 := Aside0.mk A50
  clear A50
  replace H := Option.bind_eq_some_iff.mp H
  obtain ⟨⟨t250, t253, t254⟩, A60, H⟩ := H
  replace H : (spec_l07Book.l0 k a1 0 s0_0 t253 t254 t236 t241 t242 t243 t244 t247 t250 ([] : List Int) ([] : List Int)) = some (r1, r2, r3, r4, r5, r6, r7, r8, r9, r10, r11) := H
  have A6 := Aside0.mk A60
  clear A60
  have H' := Aside0.mk H
  clear H
  go_enter Try.func91, Try.ntmps91
  go_wp2_with (first | ((with_reducible refine gate_dst (N := 6) rfl ?_); refine box_event ?hg (N := 6) ?hd (cs := #[.slice none 0 0, .int .i64 0, .int .i64 0, .int .i64 0, .slice none 0 0, .bool false, .slice none 0 0, .slice none 0 0, .slice none 0 0]) (t := 67) ?hr ?_; (case hd => rfl); (case hg => rfl); (case hr => first | (go_simp; done) | (go_simp; rfl)); intro gb235 hg w7 hbox hb; have n0_ := Aside0.mk (IsS134.below (by repeat (first | (with_reducible first | exact HI0.out | apply IsS134.alloc | apply IsS134.drewN | apply IsS134.drew | apply IsS134.set_1 | apply IsS134.set_2) | exact HI0.out)) hb); have n1_ := Aside0.mk (KeepBut.trans (by repeat (first | (with_reducible first | exact HK.out | apply KeepBut.set_ | apply keep_drewN | apply keep_drew | apply keep_alloc) | exact HK.out)) (KeepBut.of_below hb g none) (.inl rfl)); have n2_ := Aside0.mk (below_step (by repeat (first | (with_reducible first | exact HB.out | apply below_alloc | apply pw_below_drewN | apply below_drew1 | refine below_set ?_ (IsS134.ge HI0.out)) | exact HB.out)) hb); have n3_ := Aside0.mk (hbox); have n4_ := Aside0.mk ((by rw [hg]; exact (keep_size (w := w) (g := g) (row := none) (by repeat (first | (with_reducible first | exact HK.out | apply KeepBut.set_ | apply keep_drewN | apply keep_drew | apply keep_alloc) | exact HK.out))) : w.heap.size ≤ gb235)); have n5_ := Aside0.mk ((Nat.le_trans HW0.out (by rw [hg]; exact (keep_size (w := w) (g := g) (row := none) (by repeat (first | (with_reducible first | exact HK.out | apply KeepBut.set_ | apply keep_drewN | apply keep_drew | apply keep_alloc) | exact HK.out))) : w.heap.size ≤ gb235) : w0.heap.size ≤ gb235)); have n6_ := Aside0.mk ((by rw [hg]; exact Nat.ne_of_lt (IsS134.lt (show IsS134 w0 _ g s0_0 s0_1 s0_2 from by repeat (first | (with_reducible first | exact HI0.out | apply IsS134.alloc | apply IsS134.drewN | apply IsS134.drew | apply IsS134.set_1 | apply IsS134.set_2) | exact HI0.out))) : g ≠ gb235)); have n7_ := Aside0.mk ((by rw [hg]; exact Nat.ne_of_gt (IsS134.lt (show IsS134 w0 _ g s0_0 s0_1 s0_2 from by repeat (first | (with_reducible first | exact HI0.out | apply IsS134.alloc | apply IsS134.drewN | apply IsS134.drew | apply IsS134.set_1 | apply IsS134.set_2) | exact HI0.out))) : gb235 ≠ g)); clear HI0; clear HK; clear HB; have HI0 := n0_; have HK := n1_; have HB := n2_; have BK235 := n3_; have GW235 := n4_; have GE235 := n5_; have NB0_235 := n6_; have NB235_0 := n7_; clear n0_ n1_ n2_ n3_ n4_ n5_ n6_ n7_; clear hb hbox hg) | ((with_reducible refine gate_callee (f := 114) rfl ?_); refine goesL_ (some 11) rfl rfl Try.func114 (by kernel_rfl) rfl #[.pointer (some ⟨g, 0, none⟩), .int .i64 a1] rfl (by (try simp only [List.map_toArray, List.map_cons, List.map_nil]); first | done | rfl | (simp only [List.length_drop, List.length_take]; rfl)) ?_; (with_reducible refine (spec_l02Field.calls k g s0_0 s0_1 s0_2 a1 t236 t239 t240 w0 _ ?side1 ?side2 A4.out).mono ?_); (case side1 => repeat (first | (with_reducible first | exact HI0.out | apply IsS134.alloc | apply IsS134.drewN | apply IsS134.drew | apply IsS134.set_1 | apply IsS134.set_2 | apply IsS134.far (hne := NB0_235.out)) | exact HI0.out)); (case side2 => repeat (first | (with_reducible first | exact HB.out | apply below_alloc | apply pw_below_drewN | apply below_drew1 | refine below_set ?_ (IsS134.ge HI0.out) | refine below_set ?_ GE235.out) | exact HB.out)); rintro e w8 ⟨v237, rfl, ho0, hi, hb, hk⟩; refine ⟨_, rfl, ?_⟩; have n0_ := Aside0.mk (KeepBut.blk hk (g' := gb235) (o := .cells #[.slice none 0 0, .int .i64 0, .int .i64 0, .int .i64 0, .slice none 0 0, .bool false, .slice none 0 0, .slice none 0 0, .slice none 0 0] 67 (0, 0)) (by (with_reducible repeat (first | refine blk_drewN ?_ _ | refine blk_drew ?_ | refine blk_alloc ?_ _)); exact BK235.out) NB235_0.out (by simp)); have n1_ := Aside0.mk (Kd.R_lower ho0 (keep_size (w := w) (g := g) (row := none) (by repeat (first | (with_reducible first | exact HK.out | apply KeepBut.set_ | apply keep_drewN | apply keep_drew | apply keep_alloc | refine keep_far ?_ GW235.out _) | exact HK.out)))); have n2_ := Aside0.mk (KeepBut.trans (by repeat (first | (with_reducible first | exact HK.out | apply KeepBut.set_ | apply keep_drewN | apply keep_drew | apply keep_alloc | refine keep_far ?_ GW235.out _) | exact HK.out)) hk (.inl rfl)); have n3_ := Aside0.mk (hb); have n4_ := Aside0.mk (hi); clear BK235; clear HK; clear HB; clear HI0; have BK235 := n0_; have HO238 := n1_; have HK := n2_; have HB := n3_; have HI0 := n4_; clear n0_ n1_ n2_ n3_ n4_; (try clear hb); (try clear hb2); (try clear hk); (try clear hi); (try clear ho0)) | ((with_reducible refine gate_callee (f := 58) rfl ?_); refine goesL_ (some 13) rfl rfl Try.func58 (by kernel_rfl) rfl #[.pointer (some ⟨g, 0, none⟩)] rfl (by (try simp only [List.map_toArray, List.map_cons, List.map_nil]); first | done | rfl | (simp only [List.length_drop, List.length_take]; rfl)) ?_; (with_reducible refine (spec_l03Draw.calls k g s0_0 t239 t240 t241 t242 t243 t244 t247 t248 t249 w0 _ ?side1 ?side2 A5.out).mono ?_); (case side1 => repeat (first | (with_reducible first | exact HI0.out | apply IsS134.alloc | apply IsS134.drewN | apply IsS134.drew | apply IsS134.set_1 | apply IsS134.set_2 | apply IsS134.far (hne := NB0_235.out)) | exact HI0.out)); (case side2 => repeat (first | (with_reducible first | exact HB.out | apply below_alloc | apply pw_below_drewN | apply below_drew1 | refine below_set ?_ (IsS134.ge HI0.out) | refine below_set ?_ GE235.out) | exact HB.out)); rintro e w9 ⟨v245, rfl, ho0, hi, hb, hk⟩; refine ⟨_, rfl, ?_⟩; have n0_ := Aside0.mk (KeepBut.blk hk (g' := gb235) (o := .cells #[.slice none 0 0, .int .i64 0, .int .i64 0, .int .i64 0, .slice none 0 0, .bool false, .slice none 0 0, .slice none 0 0, .slice none 0 0] 67 (0, 0)) (by (with_reducible repeat (first | refine blk_drewN ?_ _ | refine blk_drew ?_ | refine blk_alloc ?_ _)); exact BK235.out) NB235_0.out (by simp)); have n1_ := Aside0.mk (Kd.R_mono (Kd.R_keep (IsS134.apart (show IsS134 w0 _ g s0_0 t239 t240 from by repeat (first | (with_reducible first | exact HI0.out | apply IsS134.alloc | apply IsS134.drewN | apply IsS134.drew | apply IsS134.set_1 | apply IsS134.set_2 | apply IsS134.far (hne := NB0_235.out)) | exact HI0.out)) (by (with_reducible repeat (first | apply Kd.R_alloc | apply Kd.R_drewN | apply Kd.R_drew)); exact HO238.out) (by decide)) hk (fun _ h => h.2)) (fun _ h => h.1)); have n2_ := Aside0.mk (Kd.R_lower ho0 (keep_size (w := w) (g := g) (row := none) (by repeat (first | (with_reducible first | exact HK.out | apply KeepBut.set_ | apply keep_drewN | apply keep_drew | apply keep_alloc | refine keep_far ?_ GW235.out _) | exact HK.out)))); have n3_ := Aside0.mk (KeepBut.trans (by repeat (first | (with_reducible first | exact HK.out | apply KeepBut.set_ | apply keep_drewN | apply keep_drew | apply keep_alloc | refine keep_far ?_ GW235.out _) | exact HK.out)) hk (.inl rfl)); have n4_ := Aside0.mk (hb); have n5_ := Aside0.mk (hi); clear BK235; clear HO238; clear HK; clear HB; clear HI0; have BK235 := n0_; have HO238 := n1_; have HO246 := n2_; have HK := n3_; have HB := n4_; have HI0 := n5_; clear n0_ n1_ n2_ n3_ n4_ n5_; (try clear hb); (try clear hb2); (try clear hk); (try clear hi); (try clear ho0)) | ((with_reducible refine gate_callee (f := 115) rfl ?_); refine goesL_ (some 17) rfl rfl Try.func115 (by kernel_rfl) rfl #[.pointer (some ⟨g, 0, none⟩), .int .i64 a1, .int .i64 a2] rfl (by (try simp only [List.map_toArray, List.map_cons, List.map_nil]); first | done | rfl | (simp only [List.length_drop, List.length_take]; rfl)) ?_; (with_reducible refine (spec_l04Season.calls k g s0_0 t248 t249 a1 a2 t250 t253 t254 w0 _ ?side1 ?side2 A6.out).mono ?_); (case side1 => repeat (first | (with_reducible first | exact HI0.out | apply IsS134.alloc | apply IsS134.drewN | apply IsS134.drew | apply IsS134.set_1 | apply IsS134.set_2 | apply IsS134.far (hne := NB0_235.out)) | exact HI0.out)); (case side2 => repeat (first | (with_reducible first | exact HB.out | apply below_alloc | apply pw_below_drewN | apply below_drew1 | refine below_set ?_ (IsS134.ge HI0.out) | refine below_set ?_ GE235.out) | exact HB.out)); rintro e w10 ⟨v251, rfl, ho0, hi, hb, hk⟩; refine ⟨_, rfl, ?_⟩; have n0_ := Aside0.mk (KeepBut.blk hk (g' := gb235) (o := .cells #[.slice none 0 0, .int .i64 0, .int .i64 0, .int .i64 0, .slice none 0 0, .bool false, .slice none 0 0, .slice none 0 0, .slice none 0 0] 67 (0, 0)) (by (with_reducible repeat (first | refine blk_drewN ?_ _ | refine blk_drew ?_ | refine blk_alloc ?_ _)); exact BK235.out) NB235_0.out (by simp)); have n1_ := Aside0.mk (Kd.R_mono (Kd.R_keep (IsS134.apart (show IsS134 w0 _ g s0_0 t248 t249 from by repeat (first | (with_reducible first | exact HI0.out | apply IsS134.alloc | apply IsS134.drewN | apply IsS134.drew | apply IsS134.set_1 | apply IsS134.set_2 | apply IsS134.far (hne := NB0_235.out)) | exact HI0.out)) (by (with_reducible repeat (first | apply Kd.R_alloc | apply Kd.R_drewN | apply Kd.R_drew)); exact HO238.out) (by decide)) hk (fun _ h => h.2)) (fun _ h => h.1)); have n2_ := Aside0.mk (Kd.R_mono (Kd.R_keep (IsS134.apart (show IsS134 w0 _ g s0_0 t248 t249 from by repeat (first | (with_reducible first | exact HI0.out | apply IsS134.alloc | apply IsS134.drewN | apply IsS134.drew | apply IsS134.set_1 | apply IsS134.set_2 | apply IsS134.far (hne := NB0_235.out)) | exact HI0.out)) (by (with_reducible repeat (first | apply Kd.R_alloc | apply Kd.R_drewN | apply Kd.R_drew)); exact HO246.out) (by decide)) hk (fun _ h => h.2)) (fun _ h => h.1)); have n3_ := Aside0.mk (Kd.R_lower ho0 (keep_size (w := w) (g := g) (row := none) (by repeat (first | (with_reducible first | exact HK.out | apply KeepBut.set_ | apply keep_drewN | apply keep_drew | apply keep_alloc | refine keep_far ?_ GW235.out _) | exact HK.out)))); have n4_ := Aside0.mk (KeepBut.trans (by repeat (first | (with_reducible first | exact HK.out | apply KeepBut.set_ | apply keep_drewN | apply keep_drew | apply keep_alloc | refine keep_far ?_ GW235.out _) | exact HK.out)) hk (.inl rfl)); have n5_ := Aside0.mk (hb); have n6_ := Aside0.mk (hi); clear BK235; clear HO238; clear HO246; clear HK; clear HB; clear HI0; have BK235 := n0_; have HO238 := n1_; have HO246 := n2_; have HO252 := n3_; have HK := n4_; have HB := n5_; have HI0 := n6_; clear n0_ n1_ n2_ n3_ n4_ n5_ n6_; (try clear hb); (try clear hb2); (try clear hk); (try clear hi); (try clear ho0); obtain ⟨Ao11, co11, eo11⟩ := Kd.R_slice HO252.out; subst eo11; obtain ⟨Ao12, co12, eo12⟩ := Kd.R_slice HO246.out; subst eo12; obtain ⟨Ao13, co13, eo13⟩ := Kd.R_slice HO238.out; subst eo13) | ((with_reducible refine gate_dst (N := 7) rfl ?_); refine box_event ?hg (N := 7) ?hd (cs := #[.slice none 0 0, .int .i64 0, .int .i64 0, .int .i64 0, .slice none 0 0, .bool false, .slice none 0 0, .slice none 0 0, .slice none 0 0]) (t := 67) ?hr ?_; (case hd => rfl); (case hg => rfl); (case hr => first | (go_simp; done) | (go_simp; rfl)); intro gb255 hg w14 hbox hb; have n0_ := Aside0.mk (Kd.R_below (by (with_reducible repeat (first | apply Kd.R_alloc | apply Kd.R_drewN | apply Kd.R_drew)); exact HO238.out) hb); have n1_ := Aside0.mk (Kd.R_below (by (with_reducible repeat (first | apply Kd.R_alloc | apply Kd.R_drewN | apply Kd.R_drew)); exact HO246.out) hb); have n2_ := Aside0.mk (Kd.R_below (by (with_reducible repeat (first | apply Kd.R_alloc | apply Kd.R_drewN | apply Kd.R_drew)); exact HO252.out) hb); have n3_ := Aside0.mk (IsS134.below (by repeat (first | (with_reducible first | exact HI0.out | apply IsS134.alloc | apply IsS134.drewN | apply IsS134.drew | apply IsS134.set_1 | apply IsS134.set_2 | apply IsS134.far (hne := NB0_235.out)) | exact HI0.out)) hb); have n4_ := Aside0.mk (blk_below (g := gb235) (o := .cells #[.slice none 0 0, .int .i64 0, .int .i64 0, .int .i64 0, .slice none 0 0, .bool false, .slice none 0 0, .slice none 0 0, .slice none 0 0] 67 (0, 0)) (by (with_reducible repeat (first | refine blk_drewN ?_ _ | refine blk_drew ?_ | refine blk_alloc ?_ _)); exact BK235.out) hb); have n5_ := Aside0.mk (KeepBut.trans (by repeat (first | (with_reducible first | exact HK.out | apply KeepBut.set_ | apply keep_drewN | apply keep_drew | apply keep_alloc | refine keep_far ?_ GW235.out _) | exact HK.out)) (KeepBut.of_below hb g none) (.inl rfl)); have n6_ := Aside0.mk (below_step (by repeat (first | (with_reducible first | exact HB.out | apply below_alloc | apply pw_below_drewN | apply below_drew1 | refine below_set ?_ (IsS134.ge HI0.out) | refine below_set ?_ GE235.out) | exact HB.out)) hb); have n7_ := Aside0.mk (hbox); have n8_ := Aside0.mk ((by rw [hg]; exact (keep_size (w := w) (g := g) (row := none) (by repeat (first | (with_reducible first | exact HK.out | apply KeepBut.set_ | apply keep_drewN | apply keep_drew | apply keep_alloc | refine keep_far ?_ GW235.out _) | exact HK.out))) : w.heap.size ≤ gb255)); have n9_ := Aside0.mk ((Nat.le_trans HW0.out (by rw [hg]; exact (keep_size (w := w) (g := g) (row := none) (by repeat (first | (with_reducible first | exact HK.out | apply KeepBut.set_ | apply keep_drewN | apply keep_drew | apply keep_alloc | refine keep_far ?_ GW235.out _) | exact HK.out))) : w.heap.size ≤ gb255) : w0.heap.size ≤ gb255)); have n10_ := Aside0.mk ((by rw [hg]; exact Nat.ne_of_lt (blk_lt (g := gb235) (o := .cells #[.slice none 0 0, .int .i64 0, .int .i64 0, .int .i64 0, .slice none 0 0, .bool false, .slice none 0 0, .slice none 0 0, .slice none 0 0] 67 (0, 0)) (by (with_reducible repeat (first | refine blk_drewN ?_ _ | refine blk_drew ?_ | refine blk_alloc ?_ _)); exact BK235.out)) : gb235 ≠ gb255)); have n11_ := Aside0.mk ((by rw [hg]; exact Nat.ne_of_gt (blk_lt (g := gb235) (o := .cells #[.slice none 0 0, .int .i64 0, .int .i64 0, .int .i64 0, .slice none 0 0, .bool false, .slice none 0 0, .slice none 0 0, .slice none 0 0] 67 (0, 0)) (by (with_reducible repeat (first | refine blk_drewN ?_ _ | refine blk_drew ?_ | refine blk_alloc ?_ _)); exact BK235.out)) : gb255 ≠ gb235)); have n12_ := Aside0.mk ((by rw [hg]; exact Nat.ne_of_lt (IsS134.lt (show IsS134 w0 _ g s0_0 t253 t254 from by repeat (first | (with_reducible first | exact HI0.out | apply IsS134.alloc | apply IsS134.drewN | apply IsS134.drew | apply IsS134.set_1 | apply IsS134.set_2 | apply IsS134.far (hne := NB0_235.out)) | exact HI0.out))) : g ≠ gb255)); have n13_ := Aside0.mk ((by rw [hg]; exact Nat.ne_of_gt (IsS134.lt (show IsS134 w0 _ g s0_0 t253 t254 from by repeat (first | (with_reducible first | exact HI0.out | apply IsS134.alloc | apply IsS134.drewN | apply IsS134.drew | apply IsS134.set_1 | apply IsS134.set_2 | apply IsS134.far (hne := NB0_235.out)) | exact HI0.out))) : gb255 ≠ g)); clear HO238; clear HO246; clear HO252; clear HI0; clear BK235; clear HK; clear HB; have HO238 := n0_; have HO246 := n1_; have HO252 := n2_; have HI0 := n3_; have BK235 := n4_; have HK := n5_; have HB := n6_; have BK255 := n7_; have GW255 := n8_; have GE255 := n9_; have NB235_255 := n10_; have NB255_235 := n11_; have NB0_255 := n12_; have NB255_0 := n13_; clear n0_ n1_ n2_ n3_ n4_ n5_ n6_ n7_ n8_ n9_ n10_ n11_ n12_ n13_; clear hb hbox hg; have hnb15 := NB255_235.out; have hnc15 := NB235_255.out; have hnb16 := NB255_0.out; have hnc16 := NB0_255.out; have hcz17_0 : w14.cell? ⟨gb255, 0, none⟩ = some (.slice none 0 0) := (blk_cell BK255.out 0).trans rfl; have hcz17_1 : w14.cell? ⟨gb255, 1, none⟩ = some (.int .i64 0) := (blk_cell BK255.out 1).trans rfl; have hcz17_2 : w14.cell? ⟨gb255, 2, none⟩ = some (.int .i64 0) := (blk_cell BK255.out 2).trans rfl; have hcz17_3 : w14.cell? ⟨gb255, 3, none⟩ = some (.int .i64 0) := (blk_cell BK255.out 3).trans rfl; have hcz17_4 : w14.cell? ⟨gb255, 4, none⟩ = some (.slice none 0 0) := (blk_cell BK255.out 4).trans rfl; have hcz17_5 : w14.cell? ⟨gb255, 5, none⟩ = some (.bool false) := (blk_cell BK255.out 5).trans rfl; have hcz17_6 : w14.cell? ⟨gb255, 6, none⟩ = some (.slice none 0 0) := (blk_cell BK255.out 6).trans rfl; have hcz17_7 : w14.cell? ⟨gb255, 7, none⟩ = some (.slice none 0 0) := (blk_cell BK255.out 7).trans rfl; have hcz17_8 : w14.cell? ⟨gb255, 8, none⟩ = some (.slice none 0 0) := (blk_cell BK255.out 8).trans rfl; have hfz17_0 := blk_frozen BK255.out 0; have hfz17_1 := blk_frozen BK255.out 1; have hfz17_2 := blk_frozen BK255.out 2; have hfz17_3 := blk_frozen BK255.out 3; have hfz17_4 := blk_frozen BK255.out 4; have hfz17_5 := blk_frozen BK255.out 5; have hfz17_6 := blk_frozen BK255.out 6; have hfz17_7 := blk_frozen BK255.out 7; have hfz17_8 := blk_frozen BK255.out 8))
  go_loopg [8] k (fun kq v8 w' => ∃ (x8_1 : Int) (x1001_1 : Int) (x1002_1 : Int) (x256007_1 : List Int) (x256008_1 : List Int) (u256007 : Value) (u256008 : Value), v8 = .int .i64 x8_1 ∧ Aside0 (spec_l07Book.l0 kq a1 x8_1 s0_0 x1001_1 x1002_1 t236 t241 t242 t243 t244 t247 t250 x256007_1 x256008_1 = some (r1, r2, r3, r4, r5, r6, r7, r8, r9, r10, r11)) ∧ Aside0 (kq ≤ k) ∧ Aside0 (Kd.R k151 151 w' w.heap.size (fun _ => True) (.slice Ao13 t236.length co13) t236) ∧ Aside0 (Kd.R (Kd.int .i64) 3 w' w.heap.size (fun k_ => some k_ ≠ (u256007 : Value).ownBlock ∧ some k_ ≠ (u256008 : Value).ownBlock) (.slice Ao12 t244.length co12) t244) ∧ Aside0 (Kd.R k71 71 w' w.heap.size (fun _ => True) (.slice Ao11 t250.length co11) t250) ∧ Aside0 (Kd.R (Kd.int .i64) 3 w' w.heap.size (fun k_ => some k_ ≠ ((.slice Ao12 t244.length co12) : Value).ownBlock ∧ some k_ ≠ (u256008 : Value).ownBlock) u256007 x256007_1) ∧ Aside0 (Kd.R (Kd.int .i64) 3 w' w.heap.size (fun k_ => some k_ ≠ ((.slice Ao12 t244.length co12) : Value).ownBlock ∧ some k_ ≠ (u256007 : Value).ownBlock) u256008 x256008_1) ∧ Aside0 (w'.heap[gb235]? = some (.cells #[(.slice none 0 0), .int .i64 0, .int .i64 0, .int .i64 0, (.slice none 0 0), .bool false, (.slice none 0 0), (.slice none 0 0), (.slice none 0 0)] 67 (0, 0))) ∧ Aside0 (w'.heap[gb255]? = some (.cells #[(.slice Ao13 t236.length co13), .int .i64 t241, .int .i64 t242, .int .i64 t243, (.slice Ao12 t244.length co12), .bool t247, (.slice Ao11 t250.length co11), u256007, u256008] 67 (0, 0))) ∧ Aside0 (IsS134 w0 w' g s0_0 x1001_1 x1002_1) ∧ Aside0 (KeepBut w w' g none) ∧ Aside0 (Below w0.heap.size w0 w'))
  case atStart => exact ⟨(0), (t253), (t254), (([] : List Int)), (([] : List Int)), (.slice none 0 0), (.slice none 0 0), (by first | rfl | (simp; done) | (simp [*]; done)), H', ⟨Nat.le_refl _⟩, ⟨by (with_reducible repeat (first | apply Kd.R_alloc | apply Kd.R_drewN | apply Kd.R_drew)); exact Kd.R_mono (Kd.R_far (p := ⟨gb255, 8, none⟩) (Kd.R_far (p := ⟨gb255, 7, none⟩) (Kd.R_far (p := ⟨gb255, 6, none⟩) (Kd.R_far (p := ⟨gb255, 5, none⟩) (Kd.R_far (p := ⟨gb255, 4, none⟩) (Kd.R_far (p := ⟨gb255, 3, none⟩) (Kd.R_far (p := ⟨gb255, 2, none⟩) (Kd.R_far (p := ⟨gb255, 1, none⟩) (Kd.R_far (p := ⟨gb255, 0, none⟩) (Kd.R_types HO238.out BK255.out (by decide)) (fun _ hk => hk.2) (.slice Ao13 t236.length co13)) (fun _ hk => hk.2) (.int .i64 t241)) (fun _ hk => hk.2) (.int .i64 t242)) (fun _ hk => hk.2) (.int .i64 t243)) (fun _ hk => hk.2) (.slice Ao12 t244.length co12)) (fun _ hk => hk.2) (.bool t247)) (fun _ hk => hk.2) (.slice Ao11 t250.length co11)) (fun _ hk => hk.2) (.slice none 0 0)) (fun _ hk => hk.2) (.slice none 0 0)) (fun _ hk => trivial)⟩, ⟨by (with_reducible repeat (first | apply Kd.R_alloc | apply Kd.R_drewN | apply Kd.R_drew)); exact Kd.R_mono (Kd.R_far (p := ⟨gb255, 8, none⟩) (Kd.R_far (p := ⟨gb255, 7, none⟩) (Kd.R_far (p := ⟨gb255, 6, none⟩) (Kd.R_far (p := ⟨gb255, 5, none⟩) (Kd.R_far (p := ⟨gb255, 4, none⟩) (Kd.R_far (p := ⟨gb255, 3, none⟩) (Kd.R_far (p := ⟨gb255, 2, none⟩) (Kd.R_far (p := ⟨gb255, 1, none⟩) (Kd.R_far (p := ⟨gb255, 0, none⟩) (Kd.R_types HO246.out BK255.out (by decide)) (fun _ hk => hk.2) (.slice Ao13 t236.length co13)) (fun _ hk => hk.2) (.int .i64 t241)) (fun _ hk => hk.2) (.int .i64 t242)) (fun _ hk => hk.2) (.int .i64 t243)) (fun _ hk => hk.2) (.slice Ao12 t244.length co12)) (fun _ hk => hk.2) (.bool t247)) (fun _ hk => hk.2) (.slice Ao11 t250.length co11)) (fun _ hk => hk.2) (.slice none 0 0)) (fun _ hk => hk.2) (.slice none 0 0)) (fun _ hk => ⟨(by simp [Value.ownBlock]), (by simp [Value.ownBlock])⟩)⟩, ⟨by (with_reducible repeat (first | apply Kd.R_alloc | apply Kd.R_drewN | apply Kd.R_drew)); exact Kd.R_mono (Kd.R_far (p := ⟨gb255, 8, none⟩) (Kd.R_far (p := ⟨gb255, 7, none⟩) (Kd.R_far (p := ⟨gb255, 6, none⟩) (Kd.R_far (p := ⟨gb255, 5, none⟩) (Kd.R_far (p := ⟨gb255, 4, none⟩) (Kd.R_far (p := ⟨gb255, 3, none⟩) (Kd.R_far (p := ⟨gb255, 2, none⟩) (Kd.R_far (p := ⟨gb255, 1, none⟩) (Kd.R_far (p := ⟨gb255, 0, none⟩) (Kd.R_types HO252.out BK255.out (by decide)) (fun _ hk => hk.2) (.slice Ao13 t236.length co13)) (fun _ hk => hk.2) (.int .i64 t241)) (fun _ hk => hk.2) (.int .i64 t242)) (fun _ hk => hk.2) (.int .i64 t243)) (fun _ hk => hk.2) (.slice Ao12 t244.length co12)) (fun _ hk => hk.2) (.bool t247)) (fun _ hk => hk.2) (.slice Ao11 t250.length co11)) (fun _ hk => hk.2) (.slice none 0 0)) (fun _ hk => hk.2) (.slice none 0 0)) (fun _ hk => trivial)⟩, ⟨by first | exact Kd.R_nil _ _ _ _ _ | exact Kd.N_nil _ _ _ _ _ | exact Kd.V_nil _ _ _ _ _ | exact Kd.Q_nil _ _ _ _ _ | exact Kd.S_nil _ _ _ _ _⟩, ⟨by first | exact Kd.R_nil _ _ _ _ _ | exact Kd.N_nil _ _ _ _ _ | exact Kd.V_nil _ _ _ _ _ | exact Kd.Q_nil _ _ _ _ _ | exact Kd.S_nil _ _ _ _ _⟩, ⟨by (with_reducible repeat (first | refine blk_drewN ?_ _ | refine blk_drew ?_ | refine blk_alloc ?_ _)); refine blk_far ?_ NB235_255.out _; (with_reducible repeat (first | refine blk_drewN ?_ _ | refine blk_drew ?_ | refine blk_alloc ?_ _)); refine blk_far ?_ NB235_255.out _; (with_reducible repeat (first | refine blk_drewN ?_ _ | refine blk_drew ?_ | refine blk_alloc ?_ _)); refine blk_far ?_ NB235_255.out _; (with_reducible repeat (first | refine blk_drewN ?_ _ | refine blk_drew ?_ | refine blk_alloc ?_ _)); refine blk_far ?_ NB235_255.out _; (with_reducible repeat (first | refine blk_drewN ?_ _ | refine blk_drew ?_ | refine blk_alloc ?_ _)); refine blk_far ?_ NB235_255.out _; (with_reducible repeat (first | refine blk_drewN ?_ _ | refine blk_drew ?_ | refine blk_alloc ?_ _)); refine blk_far ?_ NB235_255.out _; (with_reducible repeat (first | refine blk_drewN ?_ _ | refine blk_drew ?_ | refine blk_alloc ?_ _)); refine blk_far ?_ NB235_255.out _; (with_reducible repeat (first | refine blk_drewN ?_ _ | refine blk_drew ?_ | refine blk_alloc ?_ _)); refine blk_far ?_ NB235_255.out _; (with_reducible repeat (first | refine blk_drewN ?_ _ | refine blk_drew ?_ | refine blk_alloc ?_ _)); refine blk_far ?_ NB235_255.out _; (with_reducible repeat (first | refine blk_drewN ?_ _ | refine blk_drew ?_ | refine blk_alloc ?_ _)); exact BK235.out⟩, ⟨by (with_reducible repeat (first | refine blk_drewN ?_ _ | refine blk_drew ?_ | refine blk_alloc ?_ _)); refine blk_put (cs := #[.slice Ao13 t236.length co13, .int .i64 t241, .int .i64 t242, .int .i64 t243, .slice Ao12 t244.length co12, .bool t247, .slice Ao11 t250.length co11, .slice none 0 0, .slice none 0 0]) ?_ 8 _ rfl; (with_reducible repeat (first | refine blk_drewN ?_ _ | refine blk_drew ?_ | refine blk_alloc ?_ _)); refine blk_put (cs := #[.slice Ao13 t236.length co13, .int .i64 t241, .int .i64 t242, .int .i64 t243, .slice Ao12 t244.length co12, .bool t247, .slice Ao11 t250.length co11, .slice none 0 0, .slice none 0 0]) ?_ 7 _ rfl; (with_reducible repeat (first | refine blk_drewN ?_ _ | refine blk_drew ?_ | refine blk_alloc ?_ _)); refine blk_put (cs := #[.slice Ao13 t236.length co13, .int .i64 t241, .int .i64 t242, .int .i64 t243, .slice Ao12 t244.length co12, .bool t247, .slice none 0 0, .slice none 0 0, .slice none 0 0]) ?_ 6 _ rfl; (with_reducible repeat (first | refine blk_drewN ?_ _ | refine blk_drew ?_ | refine blk_alloc ?_ _)); refine blk_put (cs := #[.slice Ao13 t236.length co13, .int .i64 t241, .int .i64 t242, .int .i64 t243, .slice Ao12 t244.length co12, .bool false, .slice none 0 0, .slice none 0 0, .slice none 0 0]) ?_ 5 _ rfl; (with_reducible repeat (first | refine blk_drewN ?_ _ | refine blk_drew ?_ | refine blk_alloc ?_ _)); refine blk_put (cs := #[.slice Ao13 t236.length co13, .int .i64 t241, .int .i64 t242, .int .i64 t243, .slice none 0 0, .bool false, .slice none 0 0, .slice none 0 0, .slice none 0 0]) ?_ 4 _ rfl; (with_reducible repeat (first | refine blk_drewN ?_ _ | refine blk_drew ?_ | refine blk_alloc ?_ _)); refine blk_put (cs := #[.slice Ao13 t236.length co13, .int .i64 t241, .int .i64 t242, .int .i64 0, .slice none 0 0, .bool false, .slice none 0 0, .slice none 0 0, .slice none 0 0]) ?_ 3 _ rfl; (with_reducible repeat (first | refine blk_drewN ?_ _ | refine blk_drew ?_ | refine blk_alloc ?_ _)); refine blk_put (cs := #[.slice Ao13 t236.length co13, .int .i64 t241, .int .i64 0, .int .i64 0, .slice none 0 0, .bool false, .slice none 0 0, .slice none 0 0, .slice none 0 0]) ?_ 2 _ rfl; (with_reducible repeat (first | refine blk_drewN ?_ _ | refine blk_drew ?_ | refine blk_alloc ?_ _)); refine blk_put (cs := #[.slice Ao13 t236.length co13, .int .i64 0, .int .i64 0, .int .i64 0, .slice none 0 0, .bool false, .slice none 0 0, .slice none 0 0, .slice none 0 0]) ?_ 1 _ rfl; (with_reducible repeat (first | refine blk_drewN ?_ _ | refine blk_drew ?_ | refine blk_alloc ?_ _)); refine blk_put (cs := #[.slice none 0 0, .int .i64 0, .int .i64 0, .int .i64 0, .slice none 0 0, .bool false, .slice none 0 0, .slice none 0 0, .slice none 0 0]) ?_ 0 _ rfl; (with_reducible repeat (first | refine blk_drewN ?_ _ | refine blk_drew ?_ | refine blk_alloc ?_ _)); exact BK255.out⟩, ⟨by repeat (first | (with_reducible first | exact HI0.out | apply IsS134.alloc | apply IsS134.drewN | apply IsS134.drew | apply IsS134.set_1 | apply IsS134.set_2 | apply IsS134.far (hne := NB0_235.out) | apply IsS134.far (hne := NB0_255.out)) | exact HI0.out)⟩, ⟨by repeat (first | (with_reducible first | exact HK.out | apply KeepBut.set_ | apply keep_drewN | apply keep_drew | apply keep_alloc | refine keep_far ?_ GW235.out _ | refine keep_far ?_ GW255.out _) | exact HK.out)⟩, ⟨by repeat (first | (with_reducible first | exact HB.out | apply below_alloc | apply pw_below_drewN | apply below_drew1 | refine below_set ?_ (IsS134.ge HI0.out) | refine below_set ?_ GE235.out | refine below_set ?_ GE255.out) | exact HB.out)⟩⟩
  case round =>
    clear H'
    try clear c1
    try clear p2
    try clear c5
    try clear c9
    try clear c11
    try clear c15
    try clear c16
    try clear hcz17_0
    try clear hcz17_1
    try clear hcz17_2
    try clear hcz17_3
    try clear hcz17_4
    try clear hcz17_5
    try clear hcz17_6
    try clear hcz17_7
    try clear hcz17_8
    try clear hfz17_0
    try clear hfz17_1
    try clear hfz17_2
    try clear hfz17_3
    try clear hfz17_4
    try clear hfz17_5
    try clear hfz17_6
    try clear hfz17_7
    try clear hfz17_8
    obtain ⟨x8_1, x1001_1, x1002_1, x256007_1, x256008_1, u256007, u256008, rfl, HA, HK1, HO_256000, HO_256004, HO_256006, HO_256007, HO_256008, BK235, BK255, HI0, HK, HB⟩ := hrel
    cases gk with
    | zero => exact absurd HA.out (by simp [spec_l07Book.l0])
    | succ k1 =>
      have H := HA.out
      clear HA
      simp only [spec_l07Book.l0] at H
      by_cases c18 : x8_1 < a1
      · rw [if_pos c18] at H
        have c18b0 : decide (x8_1 < a1) = true := decide_eq_true c18
        clear c18
        replace H := Option.bind_eq_some_iff.mp H
        obtain ⟨⟨t256, t257, t258⟩, A190, H⟩ := H
        replace H : (if x256007_1.length < 17592186044416 then ((spec_l01Pick.f s0_0 t257 t258 (([0, 0, 0, 1] : List Int))).bind fun bt265 => (if x256008_1.length < 17592186044416 then (spec_l07Book.l0 k1 a1 (wrap64 (x8_1 + 1)) s0_0 bt265.2.1 bt265.2.2 t236 t241 t242 t243 t244 t247 t250 (x256007_1 ++ [t256]) (x256008_1 ++ [bt265.1])) else (none))) else (none)) = some (r1, r2, r3, r4, r5, r6, r7, r8, r9, r10, r11) := H
        have A19 := Aside0.mk A190
        clear A190
        by_cases c20 : x256007_1.length < 17592186044416
        · rw [if_pos c20] at H
          have LMc20 := Aside0.mk c20
          clear c20
          obtain ⟨y259, hy259⟩ : ∃ y_ : List Int, y_ = (x256007_1 ++ [t256]) := ⟨_, rfl⟩
          replace H : ((spec_l01Pick.f s0_0 t257 t258 (([0, 0, 0, 1] : List Int))).bind fun bt265 => (if x256008_1.length < 17592186044416 then (spec_l07Book.l0 k1 a1 (wrap64 (x8_1 + 1)) s0_0 bt265.2.1 bt265.2.2 t236 t241 t242 t243 t244 t247 t250 y259 (x256008_1 ++ [bt265.1])) else (none))) = some (r1, r2, r3, r4, r5, r6, r7, r8, r9, r10, r11) := by first | (rw [hy259]; with_reducible exact H) | (have H2_ := (Option.bind_some _ _).symm.trans H; rw [hy259]; with_reducible exact H2_) | (have H2_ := (Option.bind_some _ _).symm.trans H; with_reducible exact H2_) | with_reducible exact H | (rw [hy259]; exact H) | exact H
          have Ny259 := Aside0.mk hy259
          clear hy259
          obtain ⟨y262, hy262⟩ : ∃ y_ : List Int, y_ = (([0, 0, 0, 1] : List Int)) := ⟨_, rfl⟩
          replace H : ((spec_l01Pick.f s0_0 t257 t258 y262).bind fun bt265 => (if x256008_1.length < 17592186044416 then (spec_l07Book.l0 k1 a1 (wrap64 (x8_1 + 1)) s0_0 bt265.2.1 bt265.2.2 t236 t241 t242 t243 t244 t247 t250 y259 (x256008_1 ++ [bt265.1])) else (none))) = some (r1, r2, r3, r4, r5, r6, r7, r8, r9, r10, r11) := by first | (rw [hy262]; with_reducible exact H) | (have H2_ := (Option.bind_some _ _).symm.trans H; rw [hy262]; with_reducible exact H2_) | (have H2_ := (Option.bind_some _ _).symm.trans H; with_reducible exact H2_) | with_reducible exact H | (rw [hy262]; exact H) | exact H
          have Ny262 := Aside0.mk hy262
          clear hy262
          replace H := Option.bind_eq_some_iff.mp H
          obtain ⟨⟨t265, t266, t267⟩, A210, H⟩ := H
          replace H : (if x256008_1.length < 17592186044416 then (spec_l07Book.l0 k1 a1 (wrap64 (x8_1 + 1)) s0_0 t266 t267 t236 t241 t242 t243 t244 t247 t250 y259 (x256008_1 ++ [t265])) else (none)) = some (r1, r2, r3, r4, r5, r6, r7, r8, r9, r10, r11) := H
          have A21 := Aside0.mk A210
          clear A210
          by_cases c22 : x256008_1.length < 17592186044416
          · rw [if_pos c22] at H
            have LMc22 := Aside0.mk c22
            clear c22
            obtain ⟨y268, hy268⟩ : ∃ y_ : List Int, y_ = (x256008_1 ++ [t265]) := ⟨_, rfl⟩
            replace H : (spec_l07Book.l0 k1 a1 (wrap64 (x8_1 + 1)) s0_0 t266 t267 t236 t241 t242 t243 t244 t247 t250 y259 y268) = some (r1, r2, r3, r4, r5, r6, r7, r8, r9, r10, r11) := by first | (rw [hy268]; with_reducible exact H) | (have H2_ := (Option.bind_some _ _).symm.trans H; rw [hy268]; with_reducible exact H2_) | (have H2_ := (Option.bind_some _ _).symm.trans H; with_reducible exact H2_) | with_reducible exact H | (rw [hy268]; exact H) | exact H
            have Ny268 := Aside0.mk hy268
            clear hy268
            have H' := Aside0.mk H
            clear H
            try go_wp2
            have n0_ := Aside0.mk (Kd.R_drew HO_256000.out)
            have n1_ := Aside0.mk (Kd.R_drew HO_256004.out)
            have n2_ := Aside0.mk (Kd.R_drew HO_256006.out)
            have n3_ := Aside0.mk (Kd.R_drew HO_256007.out)
            have n4_ := Aside0.mk (Kd.R_drew HO_256008.out)
            have n5_ := Aside0.mk (blk_drew BK235.out)
            have n6_ := Aside0.mk (blk_drew BK255.out)
            have n7_ := Aside0.mk (IsS134.drew HI0.out)
            have n8_ := Aside0.mk (keep_drew HK.out)
            have n9_ := Aside0.mk (below_drew1 HB.out)
            clear HO_256000
            clear HO_256004
            clear HO_256006
            clear HO_256007
            clear HO_256008
            clear BK235
            clear BK255
            clear HI0
            clear HK
            clear HB
            have HO_256000 := n0_
            have HO_256004 := n1_
            have HO_256006 := n2_
            have HO_256007 := n3_
            have HO_256008 := n4_
            have BK235 := n5_
            have BK255 := n6_
            have HI0 := n7_
            have HK := n8_
            have HB := n9_
            clear n0_ n1_ n2_ n3_ n4_ n5_ n6_ n7_ n8_ n9_
            refine start_ (n := 8) (S := fun w' => w'.cell? ⟨gb255, 0, none⟩ = some (.slice Ao13 t236.length co13) ∧ w'.cell? ⟨gb255, 1, none⟩ = some (.int .i64 t241) ∧ w'.cell? ⟨gb255, 2, none⟩ = some (.int .i64 t242) ∧ w'.cell? ⟨gb255, 3, none⟩ = some (.int .i64 t243) ∧ w'.cell? ⟨gb255, 4, none⟩ = some (.slice Ao12 t244.length co12) ∧ w'.cell? ⟨gb255, 5, none⟩ = some (.bool t247) ∧ w'.cell? ⟨gb255, 6, none⟩ = some (.slice Ao11 t250.length co11) ∧ w'.cell? ⟨gb255, 7, none⟩ = some (u256007) ∧ w'.cell? ⟨gb255, 8, none⟩ = some (u256008)) (ds := [7]) #[false, false, false, false, false, false, false, false] (by kernel_rfl) rfl rfl ⟨(blk_cell BK255.out 0).trans rfl, (blk_cell BK255.out 1).trans rfl, (blk_cell BK255.out 2).trans rfl, (blk_cell BK255.out 3).trans rfl, (blk_cell BK255.out 4).trans rfl, (blk_cell BK255.out 5).trans rfl, (blk_cell BK255.out 6).trans rfl, (blk_cell BK255.out 7).trans rfl, (blk_cell BK255.out 8).trans rfl⟩ (fun hHeld => ?_); refine with_tabW spec_l07Book.tab5 spec_l07Book.bits5 (fun HT_ HW_ => ?_)
            generalize wr.drew = w23 at HO_256000 HO_256004 HO_256006 HO_256007 HO_256008 BK235 BK255 HI0 HK HB hHeld ⊢
            refine pure_ (i := 0) (N := some 24) (v := ?_) (a' := ?_) #[true, false, false, false, false, false, false, false] rfl rfl (any_of HT_.out (by kernel_rfl)) (fun _ _ _ h => h) (Or.inl ⟨by rfl, ?_⟩) ?_ ?_
            rotate_left
            · intro w'
              go_simp
              with_reducible rfl
            rotate_left
            · simp only [Act.put, List.setIfInBounds_toArray, List.set_cons_zero, List.set_cons_succ, i64_w, i32_w]
              rfl
            refine pure_ (i := 2) (N := some 26) (v := ?_) (a' := ?_) #[true, false, true, false, false, false, false, false] rfl rfl (any_of HT_.out (by kernel_rfl)) (fun _ _ _ h => h) (Or.inl ⟨by rfl, ?_⟩) ?_ ?_
            rotate_left
            · intro w'
              go_simp
              with_reducible rfl
            rotate_left
            · simp only [Act.put, List.setIfInBounds_toArray, List.set_cons_zero, List.set_cons_succ, i64_w, i32_w]
              rfl
            refine take_ (i := 1) (N := some 25) (v := ?_) (a' := ?_) #[true, true, true, false, false, false, false, false] rfl rfl (take_ofW HT_.out HW_.out (by kernel_rfl)) (fun _ _ _ h => h) (Or.inl ⟨by rfl, ?_⟩) hHeld ?_ ?_
            rotate_left
            · rintro w' ⟨s0, s1, s2, s3, s4, s5, s6, s7, s8⟩
              go_simp
              with_reducible rfl
            rotate_left
            · simp only [Act.put, List.setIfInBounds_toArray, List.set_cons_zero, List.set_cons_succ, i64_w, i32_w]
              rfl
            refine one_ (i := 3) (N := some 27) #[true, true, true, true, false, false, false, false] rfl rfl (one_of HT_.out (by kernel_rfl)) (by decide) (fun K hK => ?_)
            refine goes_ Try.func92 (by kernel_rfl) rfl #[.pointer (some ⟨g, 0, none⟩), .int .i64 4] (by rfl) rfl rfl (by (try simp only [List.map_toArray, List.map_cons, List.map_nil]); first | done | rfl | (simp only [List.length_drop, List.length_take]; rfl)) ?_
            with_reducible refine (spec_l01Below.calls g s0_0 x1001_1 x1002_1 4 t256 t257 t258 w0 _ ?side1 ?side2 A19.out).mono ?_
            (case side1 => repeat (first | (with_reducible first | exact HI0.out | apply IsS134.alloc | apply IsS134.drewN | apply IsS134.drew | apply IsS134.set_1 | apply IsS134.set_2 | apply IsS134.far (hne := NB0_235.out) | apply IsS134.far (hne := NB0_255.out)) | exact HI0.out))
            (case side2 => repeat (first | (with_reducible first | exact HB.out | apply below_alloc | apply pw_below_drewN | apply below_drew1 | refine below_set ?_ (IsS134.ge HI0.out) | refine below_set ?_ GE235.out | refine below_set ?_ GE255.out) | exact HB.out))
            rintro e w24 ⟨rfl, hi, hb, hk⟩
            refine ⟨_, rfl, ?_⟩
            have n0_ := Aside0.mk (Kd.R_mono (Kd.R_keep (IsS134.apart (show IsS134 w0 _ g s0_0 x1001_1 x1002_1 from by repeat (first | (with_reducible first | exact HI0.out | apply IsS134.alloc | apply IsS134.drewN | apply IsS134.drew | apply IsS134.set_1 | apply IsS134.set_2 | apply IsS134.far (hne := NB0_235.out) | apply IsS134.far (hne := NB0_255.out)) | exact HI0.out)) (by (with_reducible repeat (first | apply Kd.R_alloc | apply Kd.R_drewN | apply Kd.R_drew)); exact HO_256000.out) (by decide)) hk (fun _ h => h.2)) (fun _ h => h.1))
            have n1_ := Aside0.mk (Kd.R_mono (Kd.R_keep (IsS134.apart (show IsS134 w0 _ g s0_0 x1001_1 x1002_1 from by repeat (first | (with_reducible first | exact HI0.out | apply IsS134.alloc | apply IsS134.drewN | apply IsS134.drew | apply IsS134.set_1 | apply IsS134.set_2 | apply IsS134.far (hne := NB0_235.out) | apply IsS134.far (hne := NB0_255.out)) | exact HI0.out)) (by (with_reducible repeat (first | apply Kd.R_alloc | apply Kd.R_drewN | apply Kd.R_drew)); exact HO_256004.out) (by decide)) hk (fun _ h => h.2)) (fun _ h => h.1))
            have n2_ := Aside0.mk (Kd.R_mono (Kd.R_keep (IsS134.apart (show IsS134 w0 _ g s0_0 x1001_1 x1002_1 from by repeat (first | (with_reducible first | exact HI0.out | apply IsS134.alloc | apply IsS134.drewN | apply IsS134.drew | apply IsS134.set_1 | apply IsS134.set_2 | apply IsS134.far (hne := NB0_235.out) | apply IsS134.far (hne := NB0_255.out)) | exact HI0.out)) (by (with_reducible repeat (first | apply Kd.R_alloc | apply Kd.R_drewN | apply Kd.R_drew)); exact HO_256006.out) (by decide)) hk (fun _ h => h.2)) (fun _ h => h.1))
            have n3_ := Aside0.mk (Kd.R_mono (Kd.R_keep (IsS134.apart (show IsS134 w0 _ g s0_0 x1001_1 x1002_1 from by repeat (first | (with_reducible first | exact HI0.out | apply IsS134.alloc | apply IsS134.drewN | apply IsS134.drew | apply IsS134.set_1 | apply IsS134.set_2 | apply IsS134.far (hne := NB0_235.out) | apply IsS134.far (hne := NB0_255.out)) | exact HI0.out)) (by (with_reducible repeat (first | apply Kd.R_alloc | apply Kd.R_drewN | apply Kd.R_drew)); exact HO_256007.out) (by decide)) hk (fun _ h => h.2)) (fun _ h => h.1))
            have n4_ := Aside0.mk (Kd.R_mono (Kd.R_keep (IsS134.apart (show IsS134 w0 _ g s0_0 x1001_1 x1002_1 from by repeat (first | (with_reducible first | exact HI0.out | apply IsS134.alloc | apply IsS134.drewN | apply IsS134.drew | apply IsS134.set_1 | apply IsS134.set_2 | apply IsS134.far (hne := NB0_235.out) | apply IsS134.far (hne := NB0_255.out)) | exact HI0.out)) (by (with_reducible repeat (first | apply Kd.R_alloc | apply Kd.R_drewN | apply Kd.R_drew)); exact HO_256008.out) (by decide)) hk (fun _ h => h.2)) (fun _ h => h.1))
            have n5_ := Aside0.mk (KeepBut.blk hk (g' := gb235) (o := .cells #[.slice none 0 0, .int .i64 0, .int .i64 0, .int .i64 0, .slice none 0 0, .bool false, .slice none 0 0, .slice none 0 0, .slice none 0 0] 67 (0, 0)) (by (with_reducible repeat (first | refine blk_drewN ?_ _ | refine blk_drew ?_ | refine blk_alloc ?_ _)); exact BK235.out) NB235_0.out (by simp))
            have n6_ := Aside0.mk (KeepBut.blk hk (g' := gb255) (o := .cells #[.slice Ao13 t236.length co13, .int .i64 t241, .int .i64 t242, .int .i64 t243, .slice Ao12 t244.length co12, .bool t247, .slice Ao11 t250.length co11, u256007, u256008] 67 (0, 0)) (by (with_reducible repeat (first | refine blk_drewN ?_ _ | refine blk_drew ?_ | refine blk_alloc ?_ _)); exact BK255.out) NB255_0.out (by simp))
            have n7_ := Aside0.mk (KeepBut.trans (by repeat (first | (with_reducible first | exact HK.out | apply KeepBut.set_ | apply keep_drewN | apply keep_drew | apply keep_alloc | refine keep_far ?_ GW235.out _ | refine keep_far ?_ GW255.out _) | exact HK.out)) hk (.inl rfl))
            have n8_ := Aside0.mk (hb)
            have n9_ := Aside0.mk (hi)
            clear HO_256000
            clear HO_256004
            clear HO_256006
            clear HO_256007
            clear HO_256008
            clear BK235
            clear BK255
            clear HK
            clear HB
            clear HI0
            have HO_256000 := n0_
            have HO_256004 := n1_
            have HO_256006 := n2_
            have HO_256007 := n3_
            have HO_256008 := n4_
            have BK235 := n5_
            have BK255 := n6_
            have HK := n7_
            have HB := n8_
            have HI0 := n9_
            clear n0_ n1_ n2_ n3_ n4_ n5_ n6_ n7_ n8_ n9_
            (try clear hb)
            (try clear hb2)
            (try clear hk)
            (try clear hi)
            refine hK.out _ _ ⟨(blk_cell BK255.out 0).trans rfl, (blk_cell BK255.out 1).trans rfl, (blk_cell BK255.out 2).trans rfl, (blk_cell BK255.out 3).trans rfl, (blk_cell BK255.out 4).trans rfl, (blk_cell BK255.out 5).trans rfl, (blk_cell BK255.out 6).trans rfl, (blk_cell BK255.out 7).trans rfl, (blk_cell BK255.out 8).trans rfl⟩ (fun hHeld => ?_)
            clear hK K
            refine norm_ (a' := ?_) ?_ ?_
            rotate_left
            · show Act.put _ (some 27) _ = _
              simp only [Act.put, List.setIfInBounds_toArray, List.set_cons_zero, List.set_cons_succ, i64_w, i32_w]
              rfl
            refine one_ (i := 4) (N := some 28) #[true, true, true, true, true, false, false, false] rfl rfl (one_of HT_.out (by kernel_rfl)) (by decide) (fun K hK => ?_)
            refine value_ (w1 := ?_) (v := ?_) (by rfl) rfl ?_ ?_
            rotate_left 2
            · go_simp
              constructor
              · rfl
              · rfl
            refine hK.out _ _ ⟨(blk_cell (blk_alloc BK255.out _) 0).trans rfl, (blk_cell (blk_alloc BK255.out _) 1).trans rfl, (blk_cell (blk_alloc BK255.out _) 2).trans rfl, (blk_cell (blk_alloc BK255.out _) 3).trans rfl, (blk_cell (blk_alloc BK255.out _) 4).trans rfl, (blk_cell (blk_alloc BK255.out _) 5).trans rfl, (blk_cell (blk_alloc BK255.out _) 6).trans rfl, (blk_cell (blk_alloc BK255.out _) 7).trans rfl, (blk_cell (blk_alloc BK255.out _) 8).trans rfl⟩ (fun hHeld => ?_)
            clear hK K
            refine norm_ (a' := ?_) ?_ ?_
            rotate_left
            · show Act.put _ (some 28) _ = _
              simp only [Act.put, List.setIfInBounds_toArray, List.set_cons_zero, List.set_cons_succ, i64_w, i32_w]
              rfl
            refine one_ (i := 5) (N := some 29) #[true, true, true, true, true, true, false, false] rfl rfl (one_of HT_.out (by kernel_rfl)) (by decide) (fun K hK => ?_)
            refine Kd.R_append_step (Kd.int .i64) w.heap.size (by rfl) (.tmp 25) (.tmp 28) 23 3 (.int .i64 0) 8 rfl Try.underlying23 info3 rfl (by decide) (by omega) u256007 x256007_1 t256 [.int .i64 t256] (fun k_ => some k_ ≠ (.slice Ao12 t244.length co12 : Value).ownBlock ∧ some k_ ≠ (u256008 : Value).ownBlock) (fun _ => False) rfl rfl ?aP (fun _ hk => hk.elim) ?aF ?aO (Below.refl _ _) ?aS ?aL ?_
            (case aP => exact rfl)
            (case aF => exact (fun k_ hk => ⟨Kd.fresh' (Kd.R_lt (by (with_reducible repeat (first | apply Kd.R_alloc | apply Kd.R_drewN | apply Kd.R_drew)); exact HO_256004.out)) k_ hk, Kd.fresh' (Kd.R_lt (by (with_reducible repeat (first | apply Kd.R_alloc | apply Kd.R_drewN | apply Kd.R_drew)); exact HO_256008.out)) k_ hk⟩))
            (case aO => exact (by (with_reducible repeat (first | apply Kd.R_alloc | apply Kd.R_drewN | apply Kd.R_drew)); exact HO_256007.out))
            (case aS => exact (keep_size (w := w) (g := g) (row := none) (by repeat (first | (with_reducible first | exact HK.out | apply KeepBut.set_ | apply keep_drewN | apply keep_drew | apply keep_alloc | refine keep_far ?_ GW235.out _ | refine keep_far ?_ GW255.out _) | exact HK.out))))
            (case aL => have := LMc20.out; omega)
            intro v260 w25 ho hb hg hat
            rw [← Ny259.out] at ho
            have n0_ := Aside0.mk (Kd.R_over' (by (with_reducible repeat (first | apply Kd.R_alloc | apply Kd.R_drewN | apply Kd.R_drew)); exact HO_256000.out) (Kd.R_typed (by (with_reducible repeat (first | apply Kd.R_alloc | apply Kd.R_drewN | apply Kd.R_drew)); exact HO_256007.out)) (by decide) hg)
            have n1_ := Aside0.mk (Kd.R_after (ok := (fun k_ => some k_ ≠ (u256008 : Value).ownBlock)) (by (with_reducible repeat (first | apply Kd.R_alloc | apply Kd.R_drewN | apply Kd.R_drew)); exact Kd.R_mono HO_256004.out (fun _ hk => ⟨hk.2, hk.1⟩)) hg hat)
            have n2_ := Aside0.mk (Kd.R_over' (by (with_reducible repeat (first | apply Kd.R_alloc | apply Kd.R_drewN | apply Kd.R_drew)); exact HO_256006.out) (Kd.R_typed (by (with_reducible repeat (first | apply Kd.R_alloc | apply Kd.R_drewN | apply Kd.R_drew)); exact HO_256007.out)) (by decide) hg)
            have n3_ := Aside0.mk (Kd.R_after (ok := (fun k_ => some k_ ≠ (.slice Ao12 t244.length co12 : Value).ownBlock)) (by (with_reducible repeat (first | apply Kd.R_alloc | apply Kd.R_drewN | apply Kd.R_drew)); exact HO_256008.out) hg hat)
            have n4_ := Aside0.mk (blk_grown (g := gb235) (o := .cells #[.slice none 0 0, .int .i64 0, .int .i64 0, .int .i64 0, .slice none 0 0, .bool false, .slice none 0 0, .slice none 0 0, .slice none 0 0] 67 (0, 0)) (by (with_reducible repeat (first | refine blk_drewN ?_ _ | refine blk_drew ?_ | refine blk_alloc ?_ _)); exact BK235.out) hg (Kd.R_ne HO_256007.out BK235.out (by decide)))
            have n5_ := Aside0.mk (blk_grown (g := gb255) (o := .cells #[.slice Ao13 t236.length co13, .int .i64 t241, .int .i64 t242, .int .i64 t243, .slice Ao12 t244.length co12, .bool t247, .slice Ao11 t250.length co11, u256007, u256008] 67 (0, 0)) (by (with_reducible repeat (first | refine blk_drewN ?_ _ | refine blk_drew ?_ | refine blk_alloc ?_ _)); exact BK255.out) hg (Kd.R_ne HO_256007.out BK255.out (by decide)))
            have n6_ := Aside0.mk (IsS134.grown (by repeat (first | (with_reducible first | exact HI0.out | apply IsS134.alloc | apply IsS134.drewN | apply IsS134.drew | apply IsS134.set_1 | apply IsS134.set_2 | apply IsS134.far (hne := NB0_235.out) | apply IsS134.far (hne := NB0_255.out)) | exact HI0.out)) hg (IsS134.own_ne HI0.out HO_256007.out (by decide)))
            have n7_ := Aside0.mk (below_weaken (by repeat (first | (with_reducible first | exact HB.out | apply below_alloc | apply pw_below_drewN | apply below_drew1 | refine below_set ?_ (IsS134.ge HI0.out) | refine below_set ?_ GE235.out | refine below_set ?_ GE255.out) | exact HB.out)) HL.out hb)
            have n8_ := Aside0.mk (KeepBut.trans (by repeat (first | (with_reducible first | exact HK.out | apply KeepBut.set_ | apply keep_drewN | apply keep_drew | apply keep_alloc | refine keep_far ?_ GW235.out _ | refine keep_far ?_ GW255.out _) | exact HK.out)) (KeepBut.of_grown hg g) (Kd.R_base2 HO_256007.out))
            have n9_ := Aside0.mk (ho)
            clear HO_256000
            clear HO_256004
            clear HO_256006
            clear HO_256008
            clear BK235
            clear BK255
            clear HI0
            clear HB
            clear HK
            clear HO_256007
            have HO_256000 := n0_
            have HO_256004 := n1_
            have HO_256006 := n2_
            have HO_256008 := n3_
            have BK235 := n4_
            have BK255 := n5_
            have HI0 := n6_
            have HB := n7_
            have HK := n8_
            have HO261 := n9_
            clear n0_ n1_ n2_ n3_ n4_ n5_ n6_ n7_ n8_ n9_
            clear ho hb hg hat
            obtain ⟨Ao26, co26, eo26⟩ := Kd.R_slice HO261.out
            (first | subst eo26 | (injection eo26 with f1_ f2_ f3_; have f4_ := f1_.symm; have f5_ := f3_.symm; clear f1_ f2_ f3_; subst f4_; subst f5_))
            refine hK.out _ _ ⟨(blk_cell BK255.out 0).trans rfl, (blk_cell BK255.out 1).trans rfl, (blk_cell BK255.out 2).trans rfl, (blk_cell BK255.out 3).trans rfl, (blk_cell BK255.out 4).trans rfl, (blk_cell BK255.out 5).trans rfl, (blk_cell BK255.out 6).trans rfl, (blk_cell BK255.out 7).trans rfl, (blk_cell BK255.out 8).trans rfl⟩ (fun hHeld => ?_)
            clear hK K
            refine norm_ (a' := ?_) ?_ ?_
            rotate_left
            · show Act.put _ (some 29) _ = _
              simp only [Act.put, List.setIfInBounds_toArray, List.set_cons_zero, List.set_cons_succ, i64_w, i32_w]
              rfl
            refine pure_ (i := 6) (N := some 30) (v := ?_) (a' := ?_) #[true, true, true, true, true, true, true, false] rfl rfl (any_of HT_.out (by kernel_rfl)) (fun _ _ _ h => h) (Or.inl ⟨by rfl, ?_⟩) ?_ ?_
            rotate_left
            · intro w'
              go_simp
              with_reducible rfl
            rotate_left
            · simp only [Act.put, List.setIfInBounds_toArray, List.set_cons_zero, List.set_cons_succ, i64_w, i32_w]
              rfl
            refine last_ (i := 7) (N := none) #[true, true, true, true, true, true, true, true] rfl rfl (one_of HT_.out (by kernel_rfl)) (by decide) (fun K hK => ?_)
            have hs27 : w25.cell? ⟨gb255, 7, none⟩ = some (u256007) := (blk_cell BK255.out 7).trans rfl
            have hfs27 := blk_frozen BK255.out 7
            have hns27_0 := NB235_255.out
            have hms27_0 := NB255_235.out
            refine skip_ (w1 := ?_) (by rfl) rfl ?_ ?_
            rotate_left
            · go_simp
              rfl
            refine hK.out _ _ ?_
            clear hK K
            refine done_ (done_of HT_.out (by kernel_rfl)) ?_
            try go_wp2
            have n0_ : Aside0 (Kd.R k151 151 (w25.setCell ⟨gb255, 7, none⟩ (.slice Ao26 y259.length co26)) w.heap.size (fun _ => True) (.slice Ao13 t236.length co13) t236) := ⟨by (with_reducible repeat (first | apply Kd.R_alloc | apply Kd.R_drewN | apply Kd.R_drew)); exact Kd.R_mono (Kd.R_far (p := ⟨gb255, 7, none⟩) (Kd.R_types HO_256000.out BK255.out (by decide)) (fun _ hk => hk.2) (.slice Ao26 y259.length co26)) (fun _ hk => trivial)⟩
            have n1_ : Aside0 (Kd.R (Kd.int .i64) 3 (w25.setCell ⟨gb255, 7, none⟩ (.slice Ao26 y259.length co26)) w.heap.size (fun k_ => some k_ ≠ (u256008 : Value).ownBlock ∧ some k_ ≠ (.slice Ao26 y259.length co26 : Value).ownBlock) (.slice Ao12 t244.length co12) t244) := ⟨by (with_reducible repeat (first | apply Kd.R_alloc | apply Kd.R_drewN | apply Kd.R_drew)); exact Kd.R_mono (Kd.R_far (p := ⟨gb255, 7, none⟩) (Kd.R_types HO_256004.out BK255.out (by decide)) (fun _ hk => hk.2) (.slice Ao26 y259.length co26)) (fun _ hk => ⟨hk.1.1, hk.1.2⟩)⟩
            have n2_ : Aside0 (Kd.R k71 71 (w25.setCell ⟨gb255, 7, none⟩ (.slice Ao26 y259.length co26)) w.heap.size (fun _ => True) (.slice Ao11 t250.length co11) t250) := ⟨by (with_reducible repeat (first | apply Kd.R_alloc | apply Kd.R_drewN | apply Kd.R_drew)); exact Kd.R_mono (Kd.R_far (p := ⟨gb255, 7, none⟩) (Kd.R_types HO_256006.out BK255.out (by decide)) (fun _ hk => hk.2) (.slice Ao26 y259.length co26)) (fun _ hk => trivial)⟩
            have n3_ : Aside0 (Kd.R (Kd.int .i64) 3 (w25.setCell ⟨gb255, 7, none⟩ (.slice Ao26 y259.length co26)) w.heap.size (fun k_ => some k_ ≠ (.slice Ao12 t244.length co12 : Value).ownBlock ∧ some k_ ≠ (.slice Ao26 y259.length co26 : Value).ownBlock) u256008 x256008_1) := ⟨by (with_reducible repeat (first | apply Kd.R_alloc | apply Kd.R_drewN | apply Kd.R_drew)); exact Kd.R_mono (Kd.R_far (p := ⟨gb255, 7, none⟩) (Kd.R_types HO_256008.out BK255.out (by decide)) (fun _ hk => hk.2) (.slice Ao26 y259.length co26)) (fun _ hk => ⟨hk.1.1, hk.1.2⟩)⟩
            have n4_ : Aside0 (Kd.R (Kd.int .i64) 3 (w25.setCell ⟨gb255, 7, none⟩ (.slice Ao26 y259.length co26)) w.heap.size (fun k_ => some k_ ≠ (.slice Ao12 t244.length co12 : Value).ownBlock ∧ some k_ ≠ (u256008 : Value).ownBlock) (.slice Ao26 y259.length co26) y259) := ⟨by (with_reducible repeat (first | apply Kd.R_alloc | apply Kd.R_drewN | apply Kd.R_drew)); exact Kd.R_mono (Kd.R_far (p := ⟨gb255, 7, none⟩) (Kd.R_types HO261.out BK255.out (by decide)) (fun _ hk => hk.2) (.slice Ao26 y259.length co26)) (fun _ hk => ⟨hk.1.1, hk.1.2⟩)⟩
            have n5_ : Aside0 ((w25.setCell ⟨gb255, 7, none⟩ (.slice Ao26 y259.length co26)).heap[gb235]? = some (.cells #[.slice none 0 0, .int .i64 0, .int .i64 0, .int .i64 0, .slice none 0 0, .bool false, .slice none 0 0, .slice none 0 0, .slice none 0 0] 67 (0, 0))) := ⟨by (with_reducible repeat (first | refine blk_drewN ?_ _ | refine blk_drew ?_ | refine blk_alloc ?_ _)); refine blk_far ?_ NB235_255.out _; (with_reducible repeat (first | refine blk_drewN ?_ _ | refine blk_drew ?_ | refine blk_alloc ?_ _)); exact BK235.out⟩
            have n6_ : Aside0 ((w25.setCell ⟨gb255, 7, none⟩ (.slice Ao26 y259.length co26)).heap[gb255]? = some (.cells #[.slice Ao13 t236.length co13, .int .i64 t241, .int .i64 t242, .int .i64 t243, .slice Ao12 t244.length co12, .bool t247, .slice Ao11 t250.length co11, .slice Ao26 y259.length co26, u256008] 67 (0, 0))) := ⟨by (with_reducible repeat (first | refine blk_drewN ?_ _ | refine blk_drew ?_ | refine blk_alloc ?_ _)); refine blk_put (cs := #[.slice Ao13 t236.length co13, .int .i64 t241, .int .i64 t242, .int .i64 t243, .slice Ao12 t244.length co12, .bool t247, .slice Ao11 t250.length co11, u256007, u256008]) ?_ 7 _ rfl; (with_reducible repeat (first | refine blk_drewN ?_ _ | refine blk_drew ?_ | refine blk_alloc ?_ _)); exact BK255.out⟩
            have n7_ : Aside0 (IsS134 w0 (w25.setCell ⟨gb255, 7, none⟩ (.slice Ao26 y259.length co26)) g s0_0 t257 t258) := ⟨by repeat (first | (with_reducible first | exact HI0.out | apply IsS134.alloc | apply IsS134.drewN | apply IsS134.drew | apply IsS134.set_1 | apply IsS134.set_2 | apply IsS134.far (hne := NB0_235.out) | apply IsS134.far (hne := NB0_255.out)) | exact HI0.out)⟩
            have n8_ : Aside0 (KeepBut w (w25.setCell ⟨gb255, 7, none⟩ (.slice Ao26 y259.length co26)) g none) := ⟨by repeat (first | (with_reducible first | exact HK.out | apply KeepBut.set_ | apply keep_drewN | apply keep_drew | apply keep_alloc | refine keep_far ?_ GW235.out _ | refine keep_far ?_ GW255.out _) | exact HK.out)⟩
            have n9_ : Aside0 (Below w0.heap.size w0 (w25.setCell ⟨gb255, 7, none⟩ (.slice Ao26 y259.length co26))) := ⟨by repeat (first | (with_reducible first | exact HB.out | apply below_alloc | apply pw_below_drewN | apply below_drew1 | refine below_set ?_ (IsS134.ge HI0.out) | refine below_set ?_ GE235.out | refine below_set ?_ GE255.out) | exact HB.out)⟩
            (try clear HO_256000)
            (try clear HO_256004)
            (try clear HO_256006)
            (try clear HO_256008)
            (try clear HO261)
            (try clear BK235)
            (try clear BK255)
            (try clear HI0)
            (try clear HK)
            (try clear HB)
            generalize (w25.setCell ⟨gb255, 7, none⟩ (.slice Ao26 y259.length co26)) = w28 at n0_ n1_ n2_ n3_ n4_ n5_ n6_ n7_ n8_ n9_ ⊢
            have HO_256000 := n0_
            have HO_256004 := n1_
            have HO_256006 := n2_
            have HO_256008 := n3_
            have HO261 := n4_
            have BK235 := n5_
            have BK255 := n6_
            have HI0 := n7_
            have HK := n8_
            have HB := n9_
            clear n0_ n1_ n2_ n3_ n4_ n5_ n6_ n7_ n8_ n9_
            have n0_ := Aside0.mk (Kd.R_drew HO_256000.out)
            have n1_ := Aside0.mk (Kd.R_drew HO_256004.out)
            have n2_ := Aside0.mk (Kd.R_drew HO_256006.out)
            have n3_ := Aside0.mk (Kd.R_drew HO_256008.out)
            have n4_ := Aside0.mk (Kd.R_drew HO261.out)
            have n5_ := Aside0.mk (blk_drew BK235.out)
            have n6_ := Aside0.mk (blk_drew BK255.out)
            have n7_ := Aside0.mk (IsS134.drew HI0.out)
            have n8_ := Aside0.mk (keep_drew HK.out)
            have n9_ := Aside0.mk (below_drew1 HB.out)
            clear HO_256000
            clear HO_256004
            clear HO_256006
            clear HO_256008
            clear HO261
            clear BK235
            clear BK255
            clear HI0
            clear HK
            clear HB
            have HO_256000 := n0_
            have HO_256004 := n1_
            have HO_256006 := n2_
            have HO_256008 := n3_
            have HO261 := n4_
            have BK235 := n5_
            have BK255 := n6_
            have HI0 := n7_
            have HK := n8_
            have HB := n9_
            clear n0_ n1_ n2_ n3_ n4_ n5_ n6_ n7_ n8_ n9_
            refine start_ (n := 9) (S := fun w' => w'.cell? ⟨gb255, 0, none⟩ = some (.slice Ao13 t236.length co13) ∧ w'.cell? ⟨gb255, 1, none⟩ = some (.int .i64 t241) ∧ w'.cell? ⟨gb255, 2, none⟩ = some (.int .i64 t242) ∧ w'.cell? ⟨gb255, 3, none⟩ = some (.int .i64 t243) ∧ w'.cell? ⟨gb255, 4, none⟩ = some (.slice Ao12 t244.length co12) ∧ w'.cell? ⟨gb255, 5, none⟩ = some (.bool t247) ∧ w'.cell? ⟨gb255, 6, none⟩ = some (.slice Ao11 t250.length co11) ∧ w'.cell? ⟨gb255, 7, none⟩ = some (.slice Ao26 y259.length co26) ∧ w'.cell? ⟨gb255, 8, none⟩ = some (u256008)) (ds := [8]) #[false, false, false, false, false, false, false, false, false] (by kernel_rfl) rfl rfl ⟨(blk_cell BK255.out 0).trans rfl, (blk_cell BK255.out 1).trans rfl, (blk_cell BK255.out 2).trans rfl, (blk_cell BK255.out 3).trans rfl, (blk_cell BK255.out 4).trans rfl, (blk_cell BK255.out 5).trans rfl, (blk_cell BK255.out 6).trans rfl, (blk_cell BK255.out 7).trans rfl, (blk_cell BK255.out 8).trans rfl⟩ (fun hHeld => ?_); refine with_tabW spec_l07Book.tab6 spec_l07Book.bits6 (fun HT_ HW_ => ?_)
            generalize w28.drew = w29 at HO_256000 HO_256004 HO_256006 HO_256008 HO261 BK235 BK255 HI0 HK HB hHeld ⊢
            refine pure_ (i := 0) (N := some 31) (v := ?_) (a' := ?_) #[true, false, false, false, false, false, false, false, false] rfl rfl (any_of HT_.out (by kernel_rfl)) (fun _ _ _ h => h) (Or.inl ⟨by rfl, ?_⟩) ?_ ?_
            rotate_left
            · intro w'
              go_simp
              with_reducible rfl
            rotate_left
            · simp only [Act.put, List.setIfInBounds_toArray, List.set_cons_zero, List.set_cons_succ, i64_w, i32_w]
              rfl
            refine pure_ (i := 2) (N := some 33) (v := ?_) (a' := ?_) #[true, false, true, false, false, false, false, false, false] rfl rfl (any_of HT_.out (by kernel_rfl)) (fun _ _ _ h => h) (Or.inl ⟨by rfl, ?_⟩) ?_ ?_
            rotate_left
            · intro w'
              go_simp
              with_reducible rfl
            rotate_left
            · simp only [Act.put, List.setIfInBounds_toArray, List.set_cons_zero, List.set_cons_succ, i64_w, i32_w]
              rfl
            refine take_ (i := 1) (N := some 32) (v := ?_) (a' := ?_) #[true, true, true, false, false, false, false, false, false] rfl rfl (take_ofW HT_.out HW_.out (by kernel_rfl)) (fun _ _ _ h => h) (Or.inl ⟨by rfl, ?_⟩) hHeld ?_ ?_
            rotate_left
            · rintro w' ⟨s0, s1, s2, s3, s4, s5, s6, s7, s8⟩
              go_simp
              with_reducible rfl
            rotate_left
            · simp only [Act.put, List.setIfInBounds_toArray, List.set_cons_zero, List.set_cons_succ, i64_w, i32_w]
              rfl
            refine one_ (i := 3) (N := some 34) #[true, true, true, true, false, false, false, false, false] rfl rfl (one_of HT_.out (by kernel_rfl)) (by decide) (fun K hK => ?_)
            refine Kd.R_lit_step (Kd.int .i64) _ 3 ?hg (N := 34) ?hd (xs := ([0, 0, 0, 1] : List Int)) (inner := [.int .i64 0, .int .i64 0, .int .i64 0, .int .i64 1]) (ok := fun _ => True) (okp := fun _ => True) ?hr ?hp (fun _ hk => hk) trivial (Below.refl _ _) (Nat.le_refl _) (by simp) ?_; (case hd => rfl); (case hg => rfl); (case hr => first | (go_simp; done) | (go_simp; rfl)); (case hp => exact (Reps.one (show Kd.M (Kd.int .i64) _ _ _ 0 [.int .i64 0] from rfl) (Reps.one (show Kd.M (Kd.int .i64) _ _ _ 0 [.int .i64 0] from rfl) (Reps.one (show Kd.M (Kd.int .i64) _ _ _ 0 [.int .i64 0] from rfl) (Reps.one (show Kd.M (Kd.int .i64) _ _ _ 1 [.int .i64 1] from rfl) (Reps.none _ _))))))
            intro v263 w30 ho31 hb hg_ hnew_
            clear hg_ hnew_
            (first | rw [← Ny262.out] at ho31 | (simp only [Int.reduceToNat] at ho31; rw [← Ny262.out] at ho31))
            have n0_ := Aside0.mk (Kd.R_below (by (with_reducible repeat (first | apply Kd.R_alloc | apply Kd.R_drewN | apply Kd.R_drew)); exact HO_256000.out) hb)
            have n1_ := Aside0.mk (Kd.R_elder' (by (with_reducible repeat (first | apply Kd.R_alloc | apply Kd.R_drewN | apply Kd.R_drew)); exact HO_256004.out) (Kd.R_base ho31) hb)
            have n2_ := Aside0.mk (Kd.R_below (by (with_reducible repeat (first | apply Kd.R_alloc | apply Kd.R_drewN | apply Kd.R_drew)); exact HO_256006.out) hb)
            have n3_ := Aside0.mk (Kd.R_elder' (by (with_reducible repeat (first | apply Kd.R_alloc | apply Kd.R_drewN | apply Kd.R_drew)); exact HO_256008.out) (Kd.R_base ho31) hb)
            have n4_ := Aside0.mk (Kd.R_elder' (by (with_reducible repeat (first | apply Kd.R_alloc | apply Kd.R_drewN | apply Kd.R_drew)); exact HO261.out) (Kd.R_base ho31) hb)
            have n5_ := Aside0.mk (Kd.R_lower (Kd.R_new' (Kd.R_new' (Kd.R_new' ho31 (Kd.R_lt (by (with_reducible repeat (first | apply Kd.R_alloc | apply Kd.R_drewN | apply Kd.R_drew)); exact HO_256004.out))) (Kd.R_lt (by (with_reducible repeat (first | apply Kd.R_alloc | apply Kd.R_drewN | apply Kd.R_drew)); exact HO_256008.out))) (Kd.R_lt (by (with_reducible repeat (first | apply Kd.R_alloc | apply Kd.R_drewN | apply Kd.R_drew)); exact HO261.out))) (keep_size (w := w) (g := g) (row := none) (by repeat (first | (with_reducible first | exact HK.out | apply KeepBut.set_ | apply keep_drewN | apply keep_drew | apply keep_alloc | refine keep_far ?_ GW235.out _ | refine keep_far ?_ GW255.out _) | exact HK.out))))
            have n6_ := Aside0.mk (blk_below (g := gb235) (o := .cells #[.slice none 0 0, .int .i64 0, .int .i64 0, .int .i64 0, .slice none 0 0, .bool false, .slice none 0 0, .slice none 0 0, .slice none 0 0] 67 (0, 0)) (by (with_reducible repeat (first | refine blk_drewN ?_ _ | refine blk_drew ?_ | refine blk_alloc ?_ _)); exact BK235.out) hb)
            have n7_ := Aside0.mk (blk_below (g := gb255) (o := .cells #[.slice Ao13 t236.length co13, .int .i64 t241, .int .i64 t242, .int .i64 t243, .slice Ao12 t244.length co12, .bool t247, .slice Ao11 t250.length co11, .slice Ao26 y259.length co26, u256008] 67 (0, 0)) (by (with_reducible repeat (first | refine blk_drewN ?_ _ | refine blk_drew ?_ | refine blk_alloc ?_ _)); exact BK255.out) hb)
            have n8_ := Aside0.mk (IsS134.below (by repeat (first | (with_reducible first | exact HI0.out | apply IsS134.alloc | apply IsS134.drewN | apply IsS134.drew | apply IsS134.set_1 | apply IsS134.set_2 | apply IsS134.far (hne := NB0_235.out) | apply IsS134.far (hne := NB0_255.out)) | exact HI0.out)) hb)
            have n9_ := Aside0.mk (KeepBut.trans (by repeat (first | (with_reducible first | exact HK.out | apply KeepBut.set_ | apply keep_drewN | apply keep_drew | apply keep_alloc | refine keep_far ?_ GW235.out _ | refine keep_far ?_ GW255.out _) | exact HK.out)) (KeepBut.of_below hb g none) (.inl rfl))
            have n10_ := Aside0.mk (below_step (by repeat (first | (with_reducible first | exact HB.out | apply below_alloc | apply pw_below_drewN | apply below_drew1 | refine below_set ?_ (IsS134.ge HI0.out) | refine below_set ?_ GE235.out | refine below_set ?_ GE255.out) | exact HB.out)) hb)
            clear HO_256000
            clear HO_256004
            clear HO_256006
            clear HO_256008
            clear HO261
            clear BK235
            clear BK255
            clear HI0
            clear HK
            clear HB
            have HO_256000 := n0_
            have HO_256004 := n1_
            have HO_256006 := n2_
            have HO_256008 := n3_
            have HO261 := n4_
            have HO264 := n5_
            have BK235 := n6_
            have BK255 := n7_
            have HI0 := n8_
            have HK := n9_
            have HB := n10_
            clear n0_ n1_ n2_ n3_ n4_ n5_ n6_ n7_ n8_ n9_ n10_
            clear hb ho31
            obtain ⟨Ao32, co32, eo32⟩ := Kd.R_slice HO264.out
            (first | subst eo32 | (injection eo32 with f1_ f2_ f3_; have f4_ := f1_.symm; have f5_ := f3_.symm; clear f1_ f2_ f3_; subst f4_; subst f5_))
            refine hK.out _ _ ⟨(blk_cell BK255.out 0).trans rfl, (blk_cell BK255.out 1).trans rfl, (blk_cell BK255.out 2).trans rfl, (blk_cell BK255.out 3).trans rfl, (blk_cell BK255.out 4).trans rfl, (blk_cell BK255.out 5).trans rfl, (blk_cell BK255.out 6).trans rfl, (blk_cell BK255.out 7).trans rfl, (blk_cell BK255.out 8).trans rfl⟩ (fun hHeld => ?_)
            clear hK K
            refine norm_ (a' := ?_) ?_ ?_
            rotate_left
            · show Act.put _ (some 34) _ = _
              simp only [Act.put, List.setIfInBounds_toArray, List.set_cons_zero, List.set_cons_succ, i64_w, i32_w]
              rfl
            refine one_ (i := 4) (N := some 35) #[true, true, true, true, true, false, false, false, false] rfl rfl (one_of HT_.out (by kernel_rfl)) (by decide) (fun K hK => ?_)
            refine goes_ Try.func116 (by kernel_rfl) rfl #[.pointer (some ⟨g, 0, none⟩), .slice Ao32 y262.length co32] (by rfl) rfl rfl (by (try simp only [List.map_toArray, List.map_cons, List.map_nil]); first | done | rfl | (simp only [List.length_drop, List.length_take]; rfl)) ?_
            with_reducible refine (spec_l01Pick.calls g s0_0 t257 t258 _ _ y262 t265 t266 t267 w0 _ ?side1 ?side2 ?side3 ?side4 ?side5 A21.out).mono ?_
            (case side1 => repeat (first | (with_reducible first | exact HI0.out | apply IsS134.alloc | apply IsS134.drewN | apply IsS134.drew | apply IsS134.set_1 | apply IsS134.set_2 | apply IsS134.far (hne := NB0_235.out) | apply IsS134.far (hne := NB0_255.out)) | exact HI0.out))
            (case side2 => repeat (first | (with_reducible first | exact HB.out | apply below_alloc | apply pw_below_drewN | apply below_drew1 | refine below_set ?_ (IsS134.ge HI0.out) | refine below_set ?_ GE235.out | refine below_set ?_ GE255.out) | exact HB.out))
            (case side3 => repeat (first | exact (Kd.R_reads' HO264.out).2.2 | (with_reducible refine Kd.C_alloc ?_ _) | (with_reducible refine Kd.C_drewN ?_ _) | (with_reducible refine Kd.C_drew ?_)))
            (case side4 => exact (Kd.R_reads' HO264.out).2.1)
            (case side5 => exact far_slice (IsS134.own_ne HI0.out HO264.out (by decide)))
            rintro e w33 ⟨rfl, hi, hb, hk⟩
            refine ⟨_, rfl, ?_⟩
            have n0_ := Aside0.mk (Kd.R_mono (Kd.R_keep (IsS134.apart (show IsS134 w0 _ g s0_0 t257 t258 from by repeat (first | (with_reducible first | exact HI0.out | apply IsS134.alloc | apply IsS134.drewN | apply IsS134.drew | apply IsS134.set_1 | apply IsS134.set_2 | apply IsS134.far (hne := NB0_235.out) | apply IsS134.far (hne := NB0_255.out)) | exact HI0.out)) (by (with_reducible repeat (first | apply Kd.R_alloc | apply Kd.R_drewN | apply Kd.R_drew)); exact HO_256000.out) (by decide)) hk (fun _ h => h.2)) (fun _ h => h.1))
            have n1_ := Aside0.mk (Kd.R_mono (Kd.R_keep (IsS134.apart (show IsS134 w0 _ g s0_0 t257 t258 from by repeat (first | (with_reducible first | exact HI0.out | apply IsS134.alloc | apply IsS134.drewN | apply IsS134.drew | apply IsS134.set_1 | apply IsS134.set_2 | apply IsS134.far (hne := NB0_235.out) | apply IsS134.far (hne := NB0_255.out)) | exact HI0.out)) (by (with_reducible repeat (first | apply Kd.R_alloc | apply Kd.R_drewN | apply Kd.R_drew)); exact HO_256004.out) (by decide)) hk (fun _ h => h.2)) (fun _ h => h.1))
            have n2_ := Aside0.mk (Kd.R_mono (Kd.R_keep (IsS134.apart (show IsS134 w0 _ g s0_0 t257 t258 from by repeat (first | (with_reducible first | exact HI0.out | apply IsS134.alloc | apply IsS134.drewN | apply IsS134.drew | apply IsS134.set_1 | apply IsS134.set_2 | apply IsS134.far (hne := NB0_235.out) | apply IsS134.far (hne := NB0_255.out)) | exact HI0.out)) (by (with_reducible repeat (first | apply Kd.R_alloc | apply Kd.R_drewN | apply Kd.R_drew)); exact HO_256006.out) (by decide)) hk (fun _ h => h.2)) (fun _ h => h.1))
            have n3_ := Aside0.mk (Kd.R_mono (Kd.R_keep (IsS134.apart (show IsS134 w0 _ g s0_0 t257 t258 from by repeat (first | (with_reducible first | exact HI0.out | apply IsS134.alloc | apply IsS134.drewN | apply IsS134.drew | apply IsS134.set_1 | apply IsS134.set_2 | apply IsS134.far (hne := NB0_235.out) | apply IsS134.far (hne := NB0_255.out)) | exact HI0.out)) (by (with_reducible repeat (first | apply Kd.R_alloc | apply Kd.R_drewN | apply Kd.R_drew)); exact HO_256008.out) (by decide)) hk (fun _ h => h.2)) (fun _ h => h.1))
            have n4_ := Aside0.mk (KeepBut.blk hk (g' := gb235) (o := .cells #[.slice none 0 0, .int .i64 0, .int .i64 0, .int .i64 0, .slice none 0 0, .bool false, .slice none 0 0, .slice none 0 0, .slice none 0 0] 67 (0, 0)) (by (with_reducible repeat (first | refine blk_drewN ?_ _ | refine blk_drew ?_ | refine blk_alloc ?_ _)); exact BK235.out) NB235_0.out (by simp))
            have n5_ := Aside0.mk (KeepBut.blk hk (g' := gb255) (o := .cells #[.slice Ao13 t236.length co13, .int .i64 t241, .int .i64 t242, .int .i64 t243, .slice Ao12 t244.length co12, .bool t247, .slice Ao11 t250.length co11, .slice Ao26 y259.length co26, u256008] 67 (0, 0)) (by (with_reducible repeat (first | refine blk_drewN ?_ _ | refine blk_drew ?_ | refine blk_alloc ?_ _)); exact BK255.out) NB255_0.out (by simp))
            have n6_ := Aside0.mk (Kd.R_mono (Kd.R_keep (IsS134.apart (show IsS134 w0 _ g s0_0 t257 t258 from by repeat (first | (with_reducible first | exact HI0.out | apply IsS134.alloc | apply IsS134.drewN | apply IsS134.drew | apply IsS134.set_1 | apply IsS134.set_2 | apply IsS134.far (hne := NB0_235.out) | apply IsS134.far (hne := NB0_255.out)) | exact HI0.out)) (by (with_reducible repeat (first | apply Kd.R_alloc | apply Kd.R_drewN | apply Kd.R_drew)); exact HO261.out) (by decide)) hk (fun _ h => h.2)) (fun _ h => h.1))
            have n7_ := Aside0.mk (Kd.R_mono (Kd.R_keep (IsS134.apart (show IsS134 w0 _ g s0_0 t257 t258 from by repeat (first | (with_reducible first | exact HI0.out | apply IsS134.alloc | apply IsS134.drewN | apply IsS134.drew | apply IsS134.set_1 | apply IsS134.set_2 | apply IsS134.far (hne := NB0_235.out) | apply IsS134.far (hne := NB0_255.out)) | exact HI0.out)) (by (with_reducible repeat (first | apply Kd.R_alloc | apply Kd.R_drewN | apply Kd.R_drew)); exact HO264.out) (by decide)) hk (fun _ h => h.2)) (fun _ h => h.1))
            have n8_ := Aside0.mk (KeepBut.trans (by repeat (first | (with_reducible first | exact HK.out | apply KeepBut.set_ | apply keep_drewN | apply keep_drew | apply keep_alloc | refine keep_far ?_ GW235.out _ | refine keep_far ?_ GW255.out _) | exact HK.out)) hk (.inl rfl))
            have n9_ := Aside0.mk (hb)
            have n10_ := Aside0.mk (hi)
            clear HO_256000
            clear HO_256004
            clear HO_256006
            clear HO_256008
            clear BK235
            clear BK255
            clear HO261
            clear HO264
            clear HK
            clear HB
            clear HI0
            have HO_256000 := n0_
            have HO_256004 := n1_
            have HO_256006 := n2_
            have HO_256008 := n3_
            have BK235 := n4_
            have BK255 := n5_
            have HO261 := n6_
            have HO264 := n7_
            have HK := n8_
            have HB := n9_
            have HI0 := n10_
            clear n0_ n1_ n2_ n3_ n4_ n5_ n6_ n7_ n8_ n9_ n10_
            (try clear hb)
            (try clear hb2)
            (try clear hk)
            (try clear hi)
            refine hK.out _ _ ⟨(blk_cell BK255.out 0).trans rfl, (blk_cell BK255.out 1).trans rfl, (blk_cell BK255.out 2).trans rfl, (blk_cell BK255.out 3).trans rfl, (blk_cell BK255.out 4).trans rfl, (blk_cell BK255.out 5).trans rfl, (blk_cell BK255.out 6).trans rfl, (blk_cell BK255.out 7).trans rfl, (blk_cell BK255.out 8).trans rfl⟩ (fun hHeld => ?_)
            clear hK K
            refine norm_ (a' := ?_) ?_ ?_
            rotate_left
            · show Act.put _ (some 35) _ = _
              simp only [Act.put, List.setIfInBounds_toArray, List.set_cons_zero, List.set_cons_succ, i64_w, i32_w]
              rfl
            refine one_ (i := 5) (N := some 36) #[true, true, true, true, true, true, false, false, false] rfl rfl (one_of HT_.out (by kernel_rfl)) (by decide) (fun K hK => ?_)
            refine value_ (w1 := ?_) (v := ?_) (by rfl) rfl ?_ ?_
            rotate_left 2
            · go_simp
              constructor
              · rfl
              · rfl
            refine hK.out _ _ ⟨(blk_cell (blk_alloc BK255.out _) 0).trans rfl, (blk_cell (blk_alloc BK255.out _) 1).trans rfl, (blk_cell (blk_alloc BK255.out _) 2).trans rfl, (blk_cell (blk_alloc BK255.out _) 3).trans rfl, (blk_cell (blk_alloc BK255.out _) 4).trans rfl, (blk_cell (blk_alloc BK255.out _) 5).trans rfl, (blk_cell (blk_alloc BK255.out _) 6).trans rfl, (blk_cell (blk_alloc BK255.out _) 7).trans rfl, (blk_cell (blk_alloc BK255.out _) 8).trans rfl⟩ (fun hHeld => ?_)
            clear hK K
            refine norm_ (a' := ?_) ?_ ?_
            rotate_left
            · show Act.put _ (some 36) _ = _
              simp only [Act.put, List.setIfInBounds_toArray, List.set_cons_zero, List.set_cons_succ, i64_w, i32_w]
              rfl
            refine one_ (i := 6) (N := some 37) #[true, true, true, true, true, true, true, false, false] rfl rfl (one_of HT_.out (by kernel_rfl)) (by decide) (fun K hK => ?_)
            refine Kd.R_append_step (Kd.int .i64) w.heap.size (by rfl) (.tmp 32) (.tmp 36) 23 3 (.int .i64 0) 8 rfl Try.underlying23 info3 rfl (by decide) (by omega) u256008 x256008_1 t265 [.int .i64 t265] (fun k_ => some k_ ≠ (.slice Ao12 t244.length co12 : Value).ownBlock ∧ some k_ ≠ (.slice Ao26 y259.length co26 : Value).ownBlock ∧ some k_ ≠ (.slice Ao32 y262.length co32 : Value).ownBlock) (fun _ => False) rfl rfl ?aP (fun _ hk => hk.elim) ?aF ?aO (Below.refl _ _) ?aS ?aL ?_
            (case aP => exact rfl)
            (case aF => exact (fun k_ hk => ⟨Kd.fresh' (Kd.R_lt (by (with_reducible repeat (first | apply Kd.R_alloc | apply Kd.R_drewN | apply Kd.R_drew)); exact HO_256004.out)) k_ hk, Kd.fresh' (Kd.R_lt (by (with_reducible repeat (first | apply Kd.R_alloc | apply Kd.R_drewN | apply Kd.R_drew)); exact HO261.out)) k_ hk, Kd.fresh' (Kd.R_lt (by (with_reducible repeat (first | apply Kd.R_alloc | apply Kd.R_drewN | apply Kd.R_drew)); exact HO264.out)) k_ hk⟩))
            (case aO => exact (by (with_reducible repeat (first | apply Kd.R_alloc | apply Kd.R_drewN | apply Kd.R_drew)); exact Kd.R_mono HO_256008.out (fun _ hk => ⟨hk.1.1, ⟨hk.1.2, hk.2⟩⟩)))
            (case aS => exact (keep_size (w := w) (g := g) (row := none) (by repeat (first | (with_reducible first | exact HK.out | apply KeepBut.set_ | apply keep_drewN | apply keep_drew | apply keep_alloc | refine keep_far ?_ GW235.out _ | refine keep_far ?_ GW255.out _) | exact HK.out))))
            (case aL => have := LMc22.out; omega)
            intro v269 w34 ho hb hg hat
            rw [← Ny268.out] at ho
            have n0_ := Aside0.mk (Kd.R_over' (by (with_reducible repeat (first | apply Kd.R_alloc | apply Kd.R_drewN | apply Kd.R_drew)); exact HO_256000.out) (Kd.R_typed (by (with_reducible repeat (first | apply Kd.R_alloc | apply Kd.R_drewN | apply Kd.R_drew)); exact HO_256008.out)) (by decide) hg)
            have n1_ := Aside0.mk (Kd.R_after (ok := (fun k_ => some k_ ≠ (.slice Ao26 y259.length co26 : Value).ownBlock ∧ some k_ ≠ (.slice Ao32 y262.length co32 : Value).ownBlock)) (by (with_reducible repeat (first | apply Kd.R_alloc | apply Kd.R_drewN | apply Kd.R_drew)); exact Kd.R_mono HO_256004.out (fun _ hk => ⟨⟨hk.1.2, hk.2⟩, hk.1.1⟩)) hg hat)
            have n2_ := Aside0.mk (Kd.R_over' (by (with_reducible repeat (first | apply Kd.R_alloc | apply Kd.R_drewN | apply Kd.R_drew)); exact HO_256006.out) (Kd.R_typed (by (with_reducible repeat (first | apply Kd.R_alloc | apply Kd.R_drewN | apply Kd.R_drew)); exact HO_256008.out)) (by decide) hg)
            have n3_ := Aside0.mk (blk_grown (g := gb235) (o := .cells #[.slice none 0 0, .int .i64 0, .int .i64 0, .int .i64 0, .slice none 0 0, .bool false, .slice none 0 0, .slice none 0 0, .slice none 0 0] 67 (0, 0)) (by (with_reducible repeat (first | refine blk_drewN ?_ _ | refine blk_drew ?_ | refine blk_alloc ?_ _)); exact BK235.out) hg (Kd.R_ne HO_256008.out BK235.out (by decide)))
            have n4_ := Aside0.mk (blk_grown (g := gb255) (o := .cells #[.slice Ao13 t236.length co13, .int .i64 t241, .int .i64 t242, .int .i64 t243, .slice Ao12 t244.length co12, .bool t247, .slice Ao11 t250.length co11, .slice Ao26 y259.length co26, u256008] 67 (0, 0)) (by (with_reducible repeat (first | refine blk_drewN ?_ _ | refine blk_drew ?_ | refine blk_alloc ?_ _)); exact BK255.out) hg (Kd.R_ne HO_256008.out BK255.out (by decide)))
            have n5_ := Aside0.mk (IsS134.grown (by repeat (first | (with_reducible first | exact HI0.out | apply IsS134.alloc | apply IsS134.drewN | apply IsS134.drew | apply IsS134.set_1 | apply IsS134.set_2 | apply IsS134.far (hne := NB0_235.out) | apply IsS134.far (hne := NB0_255.out)) | exact HI0.out)) hg (IsS134.own_ne HI0.out HO_256008.out (by decide)))
            have n6_ := Aside0.mk (Kd.R_after (ok := (fun k_ => some k_ ≠ (.slice Ao12 t244.length co12 : Value).ownBlock ∧ some k_ ≠ (.slice Ao32 y262.length co32 : Value).ownBlock)) (by (with_reducible repeat (first | apply Kd.R_alloc | apply Kd.R_drewN | apply Kd.R_drew)); exact Kd.R_mono HO261.out (fun _ hk => ⟨⟨hk.1.1, hk.2⟩, hk.1.2⟩)) hg hat)
            have n7_ := Aside0.mk (Kd.R_after (ok := (fun k_ => some k_ ≠ (.slice Ao12 t244.length co12 : Value).ownBlock ∧ some k_ ≠ (.slice Ao26 y259.length co26 : Value).ownBlock)) (by (with_reducible repeat (first | apply Kd.R_alloc | apply Kd.R_drewN | apply Kd.R_drew)); exact Kd.R_mono HO264.out (fun _ hk => ⟨⟨hk.1.1.2, hk.2⟩, hk.1.2⟩)) hg hat)
            have n8_ := Aside0.mk (below_weaken (by repeat (first | (with_reducible first | exact HB.out | apply below_alloc | apply pw_below_drewN | apply below_drew1 | refine below_set ?_ (IsS134.ge HI0.out) | refine below_set ?_ GE235.out | refine below_set ?_ GE255.out) | exact HB.out)) HL.out hb)
            have n9_ := Aside0.mk (KeepBut.trans (by repeat (first | (with_reducible first | exact HK.out | apply KeepBut.set_ | apply keep_drewN | apply keep_drew | apply keep_alloc | refine keep_far ?_ GW235.out _ | refine keep_far ?_ GW255.out _) | exact HK.out)) (KeepBut.of_grown hg g) (Kd.R_base2 HO_256008.out))
            have n10_ := Aside0.mk (ho)
            clear HO_256000
            clear HO_256004
            clear HO_256006
            clear BK235
            clear BK255
            clear HI0
            clear HO261
            clear HO264
            clear HB
            clear HK
            clear HO_256008
            have HO_256000 := n0_
            have HO_256004 := n1_
            have HO_256006 := n2_
            have BK235 := n3_
            have BK255 := n4_
            have HI0 := n5_
            have HO261 := n6_
            have HO264 := n7_
            have HB := n8_
            have HK := n9_
            have HO270 := n10_
            clear n0_ n1_ n2_ n3_ n4_ n5_ n6_ n7_ n8_ n9_ n10_
            clear ho hb hg hat
            obtain ⟨Ao35, co35, eo35⟩ := Kd.R_slice HO270.out
            (first | subst eo35 | (injection eo35 with f1_ f2_ f3_; have f4_ := f1_.symm; have f5_ := f3_.symm; clear f1_ f2_ f3_; subst f4_; subst f5_))
            refine hK.out _ _ ⟨(blk_cell BK255.out 0).trans rfl, (blk_cell BK255.out 1).trans rfl, (blk_cell BK255.out 2).trans rfl, (blk_cell BK255.out 3).trans rfl, (blk_cell BK255.out 4).trans rfl, (blk_cell BK255.out 5).trans rfl, (blk_cell BK255.out 6).trans rfl, (blk_cell BK255.out 7).trans rfl, (blk_cell BK255.out 8).trans rfl⟩ (fun hHeld => ?_)
            clear hK K
            refine norm_ (a' := ?_) ?_ ?_
            rotate_left
            · show Act.put _ (some 37) _ = _
              simp only [Act.put, List.setIfInBounds_toArray, List.set_cons_zero, List.set_cons_succ, i64_w, i32_w]
              rfl
            refine pure_ (i := 7) (N := some 38) (v := ?_) (a' := ?_) #[true, true, true, true, true, true, true, true, false] rfl rfl (any_of HT_.out (by kernel_rfl)) (fun _ _ _ h => h) (Or.inl ⟨by rfl, ?_⟩) ?_ ?_
            rotate_left
            · intro w'
              go_simp
              with_reducible rfl
            rotate_left
            · simp only [Act.put, List.setIfInBounds_toArray, List.set_cons_zero, List.set_cons_succ, i64_w, i32_w]
              rfl
            refine last_ (i := 8) (N := none) #[true, true, true, true, true, true, true, true, true] rfl rfl (one_of HT_.out (by kernel_rfl)) (by decide) (fun K hK => ?_)
            have hs36 : w34.cell? ⟨gb255, 8, none⟩ = some (u256008) := (blk_cell BK255.out 8).trans rfl
            have hfs36 := blk_frozen BK255.out 8
            have hns36_0 := NB235_255.out
            have hms36_0 := NB255_235.out
            refine skip_ (w1 := ?_) (by rfl) rfl ?_ ?_
            rotate_left
            · go_simp
              rfl
            refine hK.out _ _ ?_
            clear hK K
            refine done_ (done_of HT_.out (by kernel_rfl)) ?_
            try go_wp2
            go_roundg k1
            case measure => have := HK1.out; omega
            case rel => exact ⟨(wrap64 (x8_1 + 1)), (t266), (t267), (y259), (y268), (.slice Ao26 y259.length co26), (.slice Ao35 y268.length co35), (by first | rfl | (simp; done) | (simp [*]; done)), H', ⟨by have := HK1.out; omega⟩, ⟨by (with_reducible repeat (first | apply Kd.R_alloc | apply Kd.R_drewN | apply Kd.R_drew)); exact Kd.R_mono (Kd.R_far (p := ⟨gb255, 8, none⟩) (Kd.R_types HO_256000.out BK255.out (by decide)) (fun _ hk => hk.2) (.slice Ao35 y268.length co35)) (fun _ hk => trivial)⟩, ⟨by (with_reducible repeat (first | apply Kd.R_alloc | apply Kd.R_drewN | apply Kd.R_drew)); exact Kd.R_mono (Kd.R_far (p := ⟨gb255, 8, none⟩) (Kd.R_types HO_256004.out BK255.out (by decide)) (fun _ hk => hk.2) (.slice Ao35 y268.length co35)) (fun _ hk => ⟨hk.1.1.1, hk.1.2⟩)⟩, ⟨by (with_reducible repeat (first | apply Kd.R_alloc | apply Kd.R_drewN | apply Kd.R_drew)); exact Kd.R_mono (Kd.R_far (p := ⟨gb255, 8, none⟩) (Kd.R_types HO_256006.out BK255.out (by decide)) (fun _ hk => hk.2) (.slice Ao35 y268.length co35)) (fun _ hk => trivial)⟩, ⟨by (with_reducible repeat (first | apply Kd.R_alloc | apply Kd.R_drewN | apply Kd.R_drew)); exact Kd.R_mono (Kd.R_far (p := ⟨gb255, 8, none⟩) (Kd.R_types HO261.out BK255.out (by decide)) (fun _ hk => hk.2) (.slice Ao35 y268.length co35)) (fun _ hk => ⟨hk.1.1.1, hk.1.2⟩)⟩, ⟨by (with_reducible repeat (first | apply Kd.R_alloc | apply Kd.R_drewN | apply Kd.R_drew)); exact Kd.R_mono (Kd.R_far (p := ⟨gb255, 8, none⟩) (Kd.R_types HO270.out BK255.out (by decide)) (fun _ hk => hk.2) (.slice Ao35 y268.length co35)) (fun _ hk => ⟨hk.1.1, hk.1.2.1⟩)⟩, ⟨by (with_reducible repeat (first | refine blk_drewN ?_ _ | refine blk_drew ?_ | refine blk_alloc ?_ _)); refine blk_far ?_ NB235_255.out _; (with_reducible repeat (first | refine blk_drewN ?_ _ | refine blk_drew ?_ | refine blk_alloc ?_ _)); exact BK235.out⟩, ⟨by (with_reducible repeat (first | refine blk_drewN ?_ _ | refine blk_drew ?_ | refine blk_alloc ?_ _)); refine blk_put (cs := #[.slice Ao13 t236.length co13, .int .i64 t241, .int .i64 t242, .int .i64 t243, .slice Ao12 t244.length co12, .bool t247, .slice Ao11 t250.length co11, .slice Ao26 y259.length co26, u256008]) ?_ 8 _ rfl; (with_reducible repeat (first | refine blk_drewN ?_ _ | refine blk_drew ?_ | refine blk_alloc ?_ _)); exact BK255.out⟩, ⟨by repeat (first | (with_reducible first | exact HI0.out | apply IsS134.alloc | apply IsS134.drewN | apply IsS134.drew | apply IsS134.set_1 | apply IsS134.set_2 | apply IsS134.far (hne := NB0_235.out) | apply IsS134.far (hne := NB0_255.out)) | exact HI0.out)⟩, ⟨by repeat (first | (with_reducible first | exact HK.out | apply KeepBut.set_ | apply keep_drewN | apply keep_drew | apply keep_alloc | refine keep_far ?_ GW235.out _ | refine keep_far ?_ GW255.out _) | exact HK.out)⟩, ⟨by repeat (first | (with_reducible first | exact HB.out | apply below_alloc | apply pw_below_drewN | apply below_drew1 | refine below_set ?_ (IsS134.ge HI0.out) | refine below_set ?_ GE235.out | refine below_set ?_ GE255.out) | exact HB.out)⟩⟩
          · rw [if_neg c22] at H
            exact absurd H (by simp)
        · rw [if_neg c20] at H
          exact absurd H (by simp)
      · rw [if_neg c18] at H
        have c18b0 : decide (x8_1 < a1) = false := decide_eq_false c18
        clear c18
        simp only [Option.some.injEq, Prod.mk.injEq] at H
        obtain ⟨rfl, rfl, rfl, rfl, rfl, rfl, rfl, rfl, rfl, rfl, rfl⟩ := H
        have hnb37 := NB255_235.out
        have hnc37 := NB235_255.out
        have hnb38 := NB255_0.out
        have hnc38 := NB0_255.out
        have hcz39_0 : wr.cell? ⟨gb255, 0, none⟩ = some (.slice Ao13 t236.length co13) := (blk_cell BK255.out 0).trans rfl
        have hcz39_1 : wr.cell? ⟨gb255, 1, none⟩ = some (.int .i64 t241) := (blk_cell BK255.out 1).trans rfl
        have hcz39_2 : wr.cell? ⟨gb255, 2, none⟩ = some (.int .i64 t242) := (blk_cell BK255.out 2).trans rfl
        have hcz39_3 : wr.cell? ⟨gb255, 3, none⟩ = some (.int .i64 t243) := (blk_cell BK255.out 3).trans rfl
        have hcz39_4 : wr.cell? ⟨gb255, 4, none⟩ = some (.slice Ao12 t244.length co12) := (blk_cell BK255.out 4).trans rfl
        have hcz39_5 : wr.cell? ⟨gb255, 5, none⟩ = some (.bool t247) := (blk_cell BK255.out 5).trans rfl
        have hcz39_6 : wr.cell? ⟨gb255, 6, none⟩ = some (.slice Ao11 t250.length co11) := (blk_cell BK255.out 6).trans rfl
        have hcz39_7 : wr.cell? ⟨gb255, 7, none⟩ = some (u256007) := (blk_cell BK255.out 7).trans rfl
        have hcz39_8 : wr.cell? ⟨gb255, 8, none⟩ = some (u256008) := (blk_cell BK255.out 8).trans rfl
        have hfz39_0 := blk_frozen BK255.out 0
        have hfz39_1 := blk_frozen BK255.out 1
        have hfz39_2 := blk_frozen BK255.out 2
        have hfz39_3 := blk_frozen BK255.out 3
        have hfz39_4 := blk_frozen BK255.out 4
        have hfz39_5 := blk_frozen BK255.out 5
        have hfz39_6 := blk_frozen BK255.out 6
        have hfz39_7 := blk_frozen BK255.out 7
        have hfz39_8 := blk_frozen BK255.out 8
        have hnb40 := NB235_0.out
        have hnc40 := NB0_235.out
        have hcz41_0 : wr.cell? ⟨gb235, 0, none⟩ = some (.slice none 0 0) := (blk_cell BK235.out 0).trans rfl
        have hcz41_1 : wr.cell? ⟨gb235, 1, none⟩ = some (.int .i64 0) := (blk_cell BK235.out 1).trans rfl
        have hcz41_2 : wr.cell? ⟨gb235, 2, none⟩ = some (.int .i64 0) := (blk_cell BK235.out 2).trans rfl
        have hcz41_3 : wr.cell? ⟨gb235, 3, none⟩ = some (.int .i64 0) := (blk_cell BK235.out 3).trans rfl
        have hcz41_4 : wr.cell? ⟨gb235, 4, none⟩ = some (.slice none 0 0) := (blk_cell BK235.out 4).trans rfl
        have hcz41_5 : wr.cell? ⟨gb235, 5, none⟩ = some (.bool false) := (blk_cell BK235.out 5).trans rfl
        have hcz41_6 : wr.cell? ⟨gb235, 6, none⟩ = some (.slice none 0 0) := (blk_cell BK235.out 6).trans rfl
        have hcz41_7 : wr.cell? ⟨gb235, 7, none⟩ = some (.slice none 0 0) := (blk_cell BK235.out 7).trans rfl
        have hcz41_8 : wr.cell? ⟨gb235, 8, none⟩ = some (.slice none 0 0) := (blk_cell BK235.out 8).trans rfl
        have hfz41_0 := blk_frozen BK235.out 0
        have hfz41_1 := blk_frozen BK235.out 1
        have hfz41_2 := blk_frozen BK235.out 2
        have hfz41_3 := blk_frozen BK235.out 3
        have hfz41_4 := blk_frozen BK235.out 4
        have hfz41_5 := blk_frozen BK235.out 5
        have hfz41_6 := blk_frozen BK235.out 6
        have hfz41_7 := blk_frozen BK235.out 7
        have hfz41_8 := blk_frozen BK235.out 8
        obtain ⟨Ao42, co42, eo42⟩ := Kd.R_slice HO_256007.out
        subst eo42
        obtain ⟨Ao43, co43, eo43⟩ := Kd.R_slice HO_256008.out
        subst eo43
        go_wp2
        refine bodyPost_ret (results_cell_row rfl _ _ gb235 67 #[.slice Ao13 t236.length co13, .int .i64 t241, .int .i64 t242, .int .i64 t243, .slice Ao12 t244.length co12, .bool t247, .slice Ao11 t250.length co11, .slice Ao42 x256007_1.length co42, .slice Ao43 x256008_1.length co43] (0, 0) _ rfl (by (with_reducible repeat (first | refine blk_drewN ?_ _ | refine blk_drew ?_ | refine blk_alloc ?_ _)); refine blk_put (cs := #[.slice Ao13 t236.length co13, .int .i64 t241, .int .i64 t242, .int .i64 t243, .slice Ao12 t244.length co12, .bool t247, .slice Ao11 t250.length co11, .slice Ao42 x256007_1.length co42, .slice none 0 0]) ?_ 8 _ rfl; (with_reducible repeat (first | refine blk_drewN ?_ _ | refine blk_drew ?_ | refine blk_alloc ?_ _)); refine blk_put (cs := #[.slice Ao13 t236.length co13, .int .i64 t241, .int .i64 t242, .int .i64 t243, .slice Ao12 t244.length co12, .bool t247, .slice Ao11 t250.length co11, .slice none 0 0, .slice none 0 0]) ?_ 7 _ rfl; (with_reducible repeat (first | refine blk_drewN ?_ _ | refine blk_drew ?_ | refine blk_alloc ?_ _)); refine blk_put (cs := #[.slice Ao13 t236.length co13, .int .i64 t241, .int .i64 t242, .int .i64 t243, .slice Ao12 t244.length co12, .bool t247, .slice none 0 0, .slice none 0 0, .slice none 0 0]) ?_ 6 _ rfl; (with_reducible repeat (first | refine blk_drewN ?_ _ | refine blk_drew ?_ | refine blk_alloc ?_ _)); refine blk_put (cs := #[.slice Ao13 t236.length co13, .int .i64 t241, .int .i64 t242, .int .i64 t243, .slice Ao12 t244.length co12, .bool false, .slice none 0 0, .slice none 0 0, .slice none 0 0]) ?_ 5 _ rfl; (with_reducible repeat (first | refine blk_drewN ?_ _ | refine blk_drew ?_ | refine blk_alloc ?_ _)); refine blk_put (cs := #[.slice Ao13 t236.length co13, .int .i64 t241, .int .i64 t242, .int .i64 t243, .slice none 0 0, .bool false, .slice none 0 0, .slice none 0 0, .slice none 0 0]) ?_ 4 _ rfl; (with_reducible repeat (first | refine blk_drewN ?_ _ | refine blk_drew ?_ | refine blk_alloc ?_ _)); refine blk_put (cs := #[.slice Ao13 t236.length co13, .int .i64 t241, .int .i64 t242, .int .i64 0, .slice none 0 0, .bool false, .slice none 0 0, .slice none 0 0, .slice none 0 0]) ?_ 3 _ rfl; (with_reducible repeat (first | refine blk_drewN ?_ _ | refine blk_drew ?_ | refine blk_alloc ?_ _)); refine blk_put (cs := #[.slice Ao13 t236.length co13, .int .i64 t241, .int .i64 0, .int .i64 0, .slice none 0 0, .bool false, .slice none 0 0, .slice none 0 0, .slice none 0 0]) ?_ 2 _ rfl; (with_reducible repeat (first | refine blk_drewN ?_ _ | refine blk_drew ?_ | refine blk_alloc ?_ _)); refine blk_put (cs := #[.slice Ao13 t236.length co13, .int .i64 0, .int .i64 0, .int .i64 0, .slice none 0 0, .bool false, .slice none 0 0, .slice none 0 0, .slice none 0 0]) ?_ 1 _ rfl; (with_reducible repeat (first | refine blk_drewN ?_ _ | refine blk_drew ?_ | refine blk_alloc ?_ _)); refine blk_put (cs := #[.slice none 0 0, .int .i64 0, .int .i64 0, .int .i64 0, .slice none 0 0, .bool false, .slice none 0 0, .slice none 0 0, .slice none 0 0]) ?_ 0 _ rfl; (with_reducible repeat (first | refine blk_drewN ?_ _ | refine blk_drew ?_ | refine blk_alloc ?_ _)); exact BK235.out) Try.underlying67 rfl (by kernel_rfl)) rfl ?_
        exact ⟨_, _, _, _, _, by first | rfl | (simp [errW_none, errW_some] <;> rfl) | (simp [*, errW_none, errW_some] <;> rfl), by (with_reducible repeat (first | apply Kd.R_alloc | apply Kd.R_drewN | apply Kd.R_drew)); exact Kd.R_mono (Kd.R_far (p := ⟨gb235, 8, none⟩) (Kd.R_far (p := ⟨gb235, 7, none⟩) (Kd.R_far (p := ⟨gb235, 6, none⟩) (Kd.R_far (p := ⟨gb235, 5, none⟩) (Kd.R_far (p := ⟨gb235, 4, none⟩) (Kd.R_far (p := ⟨gb235, 3, none⟩) (Kd.R_far (p := ⟨gb235, 2, none⟩) (Kd.R_far (p := ⟨gb235, 1, none⟩) (Kd.R_far (p := ⟨gb235, 0, none⟩) (Kd.R_types HO_256000.out BK235.out (by decide)) (fun _ hk => hk.2) (.slice Ao13 t236.length co13)) (fun _ hk => hk.2) (.int .i64 t241)) (fun _ hk => hk.2) (.int .i64 t242)) (fun _ hk => hk.2) (.int .i64 t243)) (fun _ hk => hk.2) (.slice Ao12 t244.length co12)) (fun _ hk => hk.2) (.bool t247)) (fun _ hk => hk.2) (.slice Ao11 t250.length co11)) (fun _ hk => hk.2) (.slice Ao42 x256007_1.length co42)) (fun _ hk => hk.2) (.slice Ao43 x256008_1.length co43)) (fun _ hk => trivial), by (with_reducible repeat (first | apply Kd.R_alloc | apply Kd.R_drewN | apply Kd.R_drew)); exact Kd.R_mono (Kd.R_far (p := ⟨gb235, 8, none⟩) (Kd.R_far (p := ⟨gb235, 7, none⟩) (Kd.R_far (p := ⟨gb235, 6, none⟩) (Kd.R_far (p := ⟨gb235, 5, none⟩) (Kd.R_far (p := ⟨gb235, 4, none⟩) (Kd.R_far (p := ⟨gb235, 3, none⟩) (Kd.R_far (p := ⟨gb235, 2, none⟩) (Kd.R_far (p := ⟨gb235, 1, none⟩) (Kd.R_far (p := ⟨gb235, 0, none⟩) (Kd.R_types HO_256004.out BK235.out (by decide)) (fun _ hk => hk.2) (.slice Ao13 t236.length co13)) (fun _ hk => hk.2) (.int .i64 t241)) (fun _ hk => hk.2) (.int .i64 t242)) (fun _ hk => hk.2) (.int .i64 t243)) (fun _ hk => hk.2) (.slice Ao12 t244.length co12)) (fun _ hk => hk.2) (.bool t247)) (fun _ hk => hk.2) (.slice Ao11 t250.length co11)) (fun _ hk => hk.2) (.slice Ao42 x256007_1.length co42)) (fun _ hk => hk.2) (.slice Ao43 x256008_1.length co43)) (fun _ hk => ⟨hk.1.1, hk.1.2⟩), by (with_reducible repeat (first | apply Kd.R_alloc | apply Kd.R_drewN | apply Kd.R_drew)); exact Kd.R_mono (Kd.R_far (p := ⟨gb235, 8, none⟩) (Kd.R_far (p := ⟨gb235, 7, none⟩) (Kd.R_far (p := ⟨gb235, 6, none⟩) (Kd.R_far (p := ⟨gb235, 5, none⟩) (Kd.R_far (p := ⟨gb235, 4, none⟩) (Kd.R_far (p := ⟨gb235, 3, none⟩) (Kd.R_far (p := ⟨gb235, 2, none⟩) (Kd.R_far (p := ⟨gb235, 1, none⟩) (Kd.R_far (p := ⟨gb235, 0, none⟩) (Kd.R_types HO_256006.out BK235.out (by decide)) (fun _ hk => hk.2) (.slice Ao13 t236.length co13)) (fun _ hk => hk.2) (.int .i64 t241)) (fun _ hk => hk.2) (.int .i64 t242)) (fun _ hk => hk.2) (.int .i64 t243)) (fun _ hk => hk.2) (.slice Ao12 t244.length co12)) (fun _ hk => hk.2) (.bool t247)) (fun _ hk => hk.2) (.slice Ao11 t250.length co11)) (fun _ hk => hk.2) (.slice Ao42 x256007_1.length co42)) (fun _ hk => hk.2) (.slice Ao43 x256008_1.length co43)) (fun _ hk => trivial), by (with_reducible repeat (first | apply Kd.R_alloc | apply Kd.R_drewN | apply Kd.R_drew)); exact Kd.R_mono (Kd.R_far (p := ⟨gb235, 8, none⟩) (Kd.R_far (p := ⟨gb235, 7, none⟩) (Kd.R_far (p := ⟨gb235, 6, none⟩) (Kd.R_far (p := ⟨gb235, 5, none⟩) (Kd.R_far (p := ⟨gb235, 4, none⟩) (Kd.R_far (p := ⟨gb235, 3, none⟩) (Kd.R_far (p := ⟨gb235, 2, none⟩) (Kd.R_far (p := ⟨gb235, 1, none⟩) (Kd.R_far (p := ⟨gb235, 0, none⟩) (Kd.R_types HO_256007.out BK235.out (by decide)) (fun _ hk => hk.2) (.slice Ao13 t236.length co13)) (fun _ hk => hk.2) (.int .i64 t241)) (fun _ hk => hk.2) (.int .i64 t242)) (fun _ hk => hk.2) (.int .i64 t243)) (fun _ hk => hk.2) (.slice Ao12 t244.length co12)) (fun _ hk => hk.2) (.bool t247)) (fun _ hk => hk.2) (.slice Ao11 t250.length co11)) (fun _ hk => hk.2) (.slice Ao42 x256007_1.length co42)) (fun _ hk => hk.2) (.slice Ao43 x256008_1.length co43)) (fun _ hk => ⟨hk.1.1, hk.1.2⟩), by (with_reducible repeat (first | apply Kd.R_alloc | apply Kd.R_drewN | apply Kd.R_drew)); exact Kd.R_mono (Kd.R_far (p := ⟨gb235, 8, none⟩) (Kd.R_far (p := ⟨gb235, 7, none⟩) (Kd.R_far (p := ⟨gb235, 6, none⟩) (Kd.R_far (p := ⟨gb235, 5, none⟩) (Kd.R_far (p := ⟨gb235, 4, none⟩) (Kd.R_far (p := ⟨gb235, 3, none⟩) (Kd.R_far (p := ⟨gb235, 2, none⟩) (Kd.R_far (p := ⟨gb235, 1, none⟩) (Kd.R_far (p := ⟨gb235, 0, none⟩) (Kd.R_types HO_256008.out BK235.out (by decide)) (fun _ hk => hk.2) (.slice Ao13 t236.length co13)) (fun _ hk => hk.2) (.int .i64 t241)) (fun _ hk => hk.2) (.int .i64 t242)) (fun _ hk => hk.2) (.int .i64 t243)) (fun _ hk => hk.2) (.slice Ao12 t244.length co12)) (fun _ hk => hk.2) (.bool t247)) (fun _ hk => hk.2) (.slice Ao11 t250.length co11)) (fun _ hk => hk.2) (.slice Ao42 x256007_1.length co42)) (fun _ hk => hk.2) (.slice Ao43 x256008_1.length co43)) (fun _ hk => ⟨hk.1.1, hk.1.2⟩), by repeat (first | (with_reducible first | exact HI0.out | apply IsS134.alloc | apply IsS134.drewN | apply IsS134.drew | apply IsS134.set_1 | apply IsS134.set_2 | apply IsS134.far (hne := NB0_235.out) | apply IsS134.far (hne := NB0_255.out)) | exact HI0.out), by repeat (first | (with_reducible first | exact HB.out | apply below_alloc | apply pw_below_drewN | apply below_drew1 | refine below_set ?_ (IsS134.ge HI0.out) | refine below_set ?_ GE235.out | refine below_set ?_ GE255.out) | exact HB.out), by repeat (first | (with_reducible first | exact HK.out | apply KeepBut.set_ | apply keep_drewN | apply keep_drew | apply keep_alloc | refine keep_far ?_ GW235.out _ | refine keep_far ?_ GW255.out _) | exact HK.out)⟩

/-! ### spec_MakeBook: function 46 -/
def spec_MakeBook.f (k : Nat) (l0 : List Int) : Option ((List (S151)) × Int × Int × Int × List Int × Bool × (List (S71)) × List Int × List Int) := (spec_l01New.f k l0).bind fun bt272 => ((spec_l01Below.f bt272.1 bt272.2.1 bt272.2.2 3).bind fun bt276 => ((spec_l07Book.f k bt272.1 bt276.2.1 bt276.2.2 (wrap64 (3 + bt276.1)) 3).bind fun bt279 => (some (bt279.1, bt279.2.1, bt279.2.2.1, bt279.2.2.2.1, bt279.2.2.2.2.1, bt279.2.2.2.2.2.1, bt279.2.2.2.2.2.2.1, bt279.2.2.2.2.2.2.2.1, bt279.2.2.2.2.2.2.2.2.1))))
theorem spec_MakeBook.mono : ∀ a0 k, LeO (spec_MakeBook.f k a0) (spec_MakeBook.f (k + 1) a0) := by
  intro a0 k
  unfold spec_MakeBook.f
  repeat' first
      | (with_reducible exact spec_l01New.mono _ _)
      | (with_reducible exact spec_l07Book.mono _ _ _ _ _ _)
      | (with_reducible exact LeO.refl _)
      | (with_reducible exact LeO.none _)
      | (with_reducible refine LeO.ite ?_ ?_)
      | (with_reducible refine LeO.bind ?_ (fun _ => ?_))
      | exact spec_l01New.mono _ _
      | exact spec_l07Book.mono _ _ _ _ _ _
      | exact LeO.none _
      | refine LeO.ite ?_ ?_
      | refine LeO.bind ?_ (fun _ => ?_)
set_option maxHeartbeats 8000000 in
set_option maxRecDepth 100000 in
theorem spec_MakeBook.calls (k : Nat) (A0 : Option Addr) (c0 : Nat) (l0 : List Int) (r1 : List (S151)) (r2 : Int) (r3 : Int) (r4 : Int) (r5 : List Int) (r6 : Bool) (r7 : List (S71)) (r8 : List Int) (r9 : List Int) (w : World) (hr0 : Kd.C (Kd.int .u8) w A0 l0.length l0) (hc0 : l0.length ≤ c0) (h : spec_MakeBook.f k l0 = some (r1, r2, r3, r4, r5, r6, r7, r8, r9)) :
    Calls Try.prog 46 #[.slice A0 l0.length c0] w fun e w' => ∃ v0_ v4_ v6_ v7_ v8_ : Value, e = .returned (.agg #[v0_, .int .i64 r2, .int .i64 r3, .int .i64 r4, v4_, .bool r6, v6_, v7_, v8_]) ∧ Kd.R k151 151 w' w.heap.size (fun _ => True) v0_ r1 ∧ Kd.R (Kd.int .i64) 3 w' w.heap.size (fun k_ => some k_ ≠ (v7_ : Value).ownBlock ∧ some k_ ≠ (v8_ : Value).ownBlock) v4_ r5 ∧ Kd.R k71 71 w' w.heap.size (fun _ => True) v6_ r7 ∧ Kd.R (Kd.int .i64) 3 w' w.heap.size (fun k_ => some k_ ≠ (v4_ : Value).ownBlock ∧ some k_ ≠ (v8_ : Value).ownBlock) v7_ r8 ∧ Kd.R (Kd.int .i64) 3 w' w.heap.size (fun k_ => some k_ ≠ (v4_ : Value).ownBlock ∧ some k_ ≠ (v7_ : Value).ownBlock) v8_ r9 ∧ Below w.heap.size w w' := by
  have hu67 := Try.underlying67
  have HR0 := Aside0.mk hr0
  have HC0 := Aside0.mk hc0
  clear hr0 hc0
  have HB := Aside0.mk (Below.refl w.heap.size w)
  have H : ((spec_l01New.f k l0).bind fun bt272 => ((spec_l01Below.f bt272.1 bt272.2.1 bt272.2.2 3).bind fun bt276 => ((spec_l07Book.f k bt272.1 bt276.2.1 bt276.2.2 (wrap64 (3 + bt276.1)) 3).bind fun bt279 => (some (bt279.1, bt279.2.1, bt279.2.2.1, bt279.2.2.2.1, bt279.2.2.2.2.1, bt279.2.2.2.2.2.1, bt279.2.2.2.2.2.2.1, bt279.2.2.2.2.2.2.2.1, bt279.2.2.2.2.2.2.2.2.1))))) = some (r1, r2, r3, r4, r5, r6, r7, r8, r9) := h
  clear h
  replace H := Option.bind_eq_some_iff.mp H
  obtain ⟨⟨t272, t273, t274⟩, A20, H⟩ := H
  replace H : ((spec_l01Below.f t272 t273 t274 3).bind fun bt276 => ((spec_l07Book.f k t272 bt276.2.1 bt276.2.2 (wrap64 (3 + bt276.1)) 3).bind fun bt279 => (some (bt279.1, bt279.2.1, bt279.2.2.1, bt279.2.2.2.1, bt279.2.2.2.2.1, bt279.2.2.2.2.2.1, bt279.2.2.2.2.2.2.1, bt279.2.2.2.2.2.2.2.1, bt279.2.2.2.2.2.2.2.2.1)))) = some (r1, r2, r3, r4, r5, r6, r7, r8, r9) := H
  have A2 := Aside0.mk A20
  clear A20
  replace H := Option.bind_eq_some_iff.mp H
  obtain ⟨⟨t276, t277, t278⟩, A30, H⟩ := H
  replace H : ((spec_l07Book.f k t272 t277 t278 (wrap64 (3 + t276)) 3).bind fun bt279 => (some (bt279.1, bt279.2.1, bt279.2.2.1, bt279.2.2.2.1, bt279.2.2.2.2.1, bt279.2.2.2.2.2.1, bt279.2.2.2.2.2.2.1, bt279.2.2.2.2.2.2.2.1, bt279.2.2.2.2.2.2.2.2.1))) = some (r1, r2, r3, r4, r5, r6, r7, r8, r9) := H
  have A3 := Aside0.mk A30
  clear A30
  replace H := Option.bind_eq_some_iff.mp H
  obtain ⟨⟨t279, t282, t283, t284, t285, t288, t289, t292, t295, t298, t299⟩, A40, H⟩ := H
  replace H : (some (t279, t282, t283, t284, t285, t288, t289, t292, t295)) = some (r1, r2, r3, r4, r5, r6, r7, r8, r9) := H
  have A4 := Aside0.mk A40
  clear A40
  simp only [Option.some.injEq, Prod.mk.injEq] at H
  obtain ⟨rfl, rfl, rfl, rfl, rfl, rfl, rfl, rfl, rfl⟩ := H
  go_enter Try.func46, Try.ntmps46
  go_wp2_with (first | ((with_reducible refine gate_dst (N := 2) rfl ?_); refine box_event ?hg (N := 2) ?hd (cs := #[.slice none 0 0, .int .i64 0, .int .i64 0, .int .i64 0, .slice none 0 0, .bool false, .slice none 0 0, .slice none 0 0, .slice none 0 0]) (t := 67) ?hr ?_; (case hd => rfl); (case hg => rfl); (case hr => first | (go_simp; done) | (go_simp; rfl)); intro gb271 hg w5 hbox hb; have n0_ := Aside0.mk (below_step (by repeat (first | (with_reducible first | exact HB.out | apply below_alloc | apply pw_below_drewN | apply below_drew1) | exact HB.out)) hb); have n1_ := Aside0.mk (hbox); have n2_ := Aside0.mk ((by rw [hg]; exact (below_size (by repeat (first | (with_reducible first | exact HB.out | apply below_alloc | apply pw_below_drewN | apply below_drew1) | exact HB.out))) : w.heap.size ≤ gb271)); have n3_ := Aside0.mk ((by rw [hg]; exact (below_size (by repeat (first | (with_reducible first | exact HB.out | apply below_alloc | apply pw_below_drewN | apply below_drew1) | exact HB.out))) : w.heap.size ≤ gb271)); clear HB; have HB := n0_; have BK271 := n1_; have GW271 := n2_; have GE271 := n3_; clear n0_ n1_ n2_ n3_; clear hb hbox hg) | ((with_reducible refine gate_callee (f := 59) rfl ?_); refine goesL_ (some 5) rfl rfl Try.func59 (by kernel_rfl) rfl #[.slice A0 l0.length c0] rfl (by (try simp only [List.map_toArray, List.map_cons, List.map_nil]); first | done | rfl | (simp only [List.length_drop, List.length_take]; rfl)) ?_; (with_reducible refine (spec_l01New.calls k _ _ l0 t272 t273 t274 w _ ?side1 ?side2 ?side3 A2.out).mono ?_); (case side1 => repeat (first | (with_reducible first | exact HB.out | apply below_alloc | apply pw_below_drewN | apply below_drew1 | refine below_set ?_ GE271.out) | exact HB.out)); (case side2 => exact HR0.out); (case side3 => exact HC0.out); rintro e w6 ⟨g275, rfl, hi, hb, hb2⟩; refine ⟨_, rfl, ?_⟩; have n0_ := Aside0.mk (blk_below (g := gb271) (o := .cells #[.slice none 0 0, .int .i64 0, .int .i64 0, .int .i64 0, .slice none 0 0, .bool false, .slice none 0 0, .slice none 0 0, .slice none 0 0] 67 (0, 0)) (by (with_reducible repeat (first | refine blk_drewN ?_ _ | refine blk_drew ?_ | refine blk_alloc ?_ _)); exact BK271.out) hb2); have n1_ := Aside0.mk (hb); have n2_ := Aside0.mk (hi); have n3_ := Aside0.mk (IsS134.ne_blk hi (blk_below (g := gb271) (o := .cells #[.slice none 0 0, .int .i64 0, .int .i64 0, .int .i64 0, .slice none 0 0, .bool false, .slice none 0 0, .slice none 0 0, .slice none 0 0] 67 (0, 0)) (by (with_reducible repeat (first | refine blk_drewN ?_ _ | refine blk_drew ?_ | refine blk_alloc ?_ _)); exact BK271.out) hb2) (by decide)); have n4_ := Aside0.mk (Ne.symm (IsS134.ne_blk hi (blk_below (g := gb271) (o := .cells #[.slice none 0 0, .int .i64 0, .int .i64 0, .int .i64 0, .slice none 0 0, .bool false, .slice none 0 0, .slice none 0 0, .slice none 0 0] 67 (0, 0)) (by (with_reducible repeat (first | refine blk_drewN ?_ _ | refine blk_drew ?_ | refine blk_alloc ?_ _)); exact BK271.out) hb2) (by decide))); clear BK271; clear HB; have BK271 := n0_; have HB := n1_; have HI275 := n2_; have NB275_271 := n3_; have NB271_275 := n4_; clear n0_ n1_ n2_ n3_ n4_; (try clear hb); (try clear hb2); (try clear hk); (try clear hi)) | ((with_reducible refine gate_callee (f := 92) rfl ?_); refine goesL_ (some 8) rfl rfl Try.func92 (by kernel_rfl) rfl #[.pointer (some ⟨g275, 0, none⟩), .int .i64 3] rfl (by (try simp only [List.map_toArray, List.map_cons, List.map_nil]); first | done | rfl | (simp only [List.length_drop, List.length_take]; rfl)) ?_; (with_reducible refine (spec_l01Below.calls g275 t272 t273 t274 3 t276 t277 t278 w _ ?side1 ?side2 A3.out).mono ?_); (case side1 => repeat (first | (with_reducible first | exact HI275.out | apply IsS134.alloc | apply IsS134.drewN | apply IsS134.drew | apply IsS134.set_1 | apply IsS134.set_2 | apply IsS134.far (hne := NB275_271.out)) | exact HI275.out)); (case side2 => repeat (first | (with_reducible first | exact HB.out | apply below_alloc | apply pw_below_drewN | apply below_drew1 | refine below_set ?_ (IsS134.ge HI275.out) | refine below_set ?_ GE271.out) | exact HB.out)); rintro e w7 ⟨rfl, hi, hb, hk⟩; refine ⟨_, rfl, ?_⟩; have n0_ := Aside0.mk (KeepBut.blk hk (g' := gb271) (o := .cells #[.slice none 0 0, .int .i64 0, .int .i64 0, .int .i64 0, .slice none 0 0, .bool false, .slice none 0 0, .slice none 0 0, .slice none 0 0] 67 (0, 0)) (by (with_reducible repeat (first | refine blk_drewN ?_ _ | refine blk_drew ?_ | refine blk_alloc ?_ _)); exact BK271.out) NB271_275.out (by simp)); have n1_ := Aside0.mk (hb); have n2_ := Aside0.mk (hi); clear BK271; clear HB; clear HI275; have BK271 := n0_; have HB := n1_; have HI275 := n2_; clear n0_ n1_ n2_; (try clear hb); (try clear hb2); (try clear hk); (try clear hi)) | ((with_reducible refine gate_callee (f := 91) rfl ?_); refine goesL_ (some 10) rfl rfl Try.func91 (by kernel_rfl) rfl #[.pointer (some ⟨g275, 0, none⟩), .int .i64 (wrap64 (3 + t276)), .int .i64 3] rfl (by (try simp only [List.map_toArray, List.map_cons, List.map_nil]); first | done | rfl | (simp only [List.length_drop, List.length_take]; rfl)) ?_; (with_reducible refine (spec_l07Book.calls k g275 t272 t277 t278 (wrap64 (3 + t276)) 3 t279 t282 t283 t284 t285 t288 t289 t292 t295 t298 t299 w _ ?side1 ?side2 A4.out).mono ?_); (case side1 => repeat (first | (with_reducible first | exact HI275.out | apply IsS134.alloc | apply IsS134.drewN | apply IsS134.drew | apply IsS134.set_1 | apply IsS134.set_2 | apply IsS134.far (hne := NB275_271.out)) | exact HI275.out)); (case side2 => repeat (first | (with_reducible first | exact HB.out | apply below_alloc | apply pw_below_drewN | apply below_drew1 | refine below_set ?_ (IsS134.ge HI275.out) | refine below_set ?_ GE271.out) | exact HB.out)); rintro e w8 ⟨v280, v286, v290, v293, v296, rfl, ho0, ho1, ho2, ho3, ho4, hi, hb, hk⟩; refine ⟨_, rfl, ?_⟩; have n0_ := Aside0.mk (KeepBut.blk hk (g' := gb271) (o := .cells #[.slice none 0 0, .int .i64 0, .int .i64 0, .int .i64 0, .slice none 0 0, .bool false, .slice none 0 0, .slice none 0 0, .slice none 0 0] 67 (0, 0)) (by (with_reducible repeat (first | refine blk_drewN ?_ _ | refine blk_drew ?_ | refine blk_alloc ?_ _)); exact BK271.out) NB271_275.out (by simp)); have n1_ := Aside0.mk (Kd.R_lower ho0 (below_size (by repeat (first | (with_reducible first | exact HB.out | apply below_alloc | apply pw_below_drewN | apply below_drew1 | refine below_set ?_ (IsS134.ge HI275.out) | refine below_set ?_ GE271.out) | exact HB.out)))); have n2_ := Aside0.mk (Kd.R_lower ho1 (below_size (by repeat (first | (with_reducible first | exact HB.out | apply below_alloc | apply pw_below_drewN | apply below_drew1 | refine below_set ?_ (IsS134.ge HI275.out) | refine below_set ?_ GE271.out) | exact HB.out)))); have n3_ := Aside0.mk (Kd.R_lower ho2 (below_size (by repeat (first | (with_reducible first | exact HB.out | apply below_alloc | apply pw_below_drewN | apply below_drew1 | refine below_set ?_ (IsS134.ge HI275.out) | refine below_set ?_ GE271.out) | exact HB.out)))); have n4_ := Aside0.mk (Kd.R_lower ho3 (below_size (by repeat (first | (with_reducible first | exact HB.out | apply below_alloc | apply pw_below_drewN | apply below_drew1 | refine below_set ?_ (IsS134.ge HI275.out) | refine below_set ?_ GE271.out) | exact HB.out)))); have n5_ := Aside0.mk (Kd.R_lower ho4 (below_size (by repeat (first | (with_reducible first | exact HB.out | apply below_alloc | apply pw_below_drewN | apply below_drew1 | refine below_set ?_ (IsS134.ge HI275.out) | refine below_set ?_ GE271.out) | exact HB.out)))); have n6_ := Aside0.mk (hb); have n7_ := Aside0.mk (hi); clear BK271; clear HB; clear HI275; have BK271 := n0_; have HO281 := n1_; have HO287 := n2_; have HO291 := n3_; have HO294 := n4_; have HO297 := n5_; have HB := n6_; have HI275 := n7_; clear n0_ n1_ n2_ n3_ n4_ n5_ n6_ n7_; (try clear hb); (try clear hb2); (try clear hk); (try clear hi); (try clear ho0); (try clear ho1); (try clear ho2); (try clear ho3); (try clear ho4); obtain ⟨Ao9, co9, eo9⟩ := Kd.R_slice HO281.out; subst eo9; have hnb10 := NB271_275.out; have hnc10 := NB275_271.out; have hcz11_0 : w8.cell? ⟨gb271, 0, none⟩ = some (.slice none 0 0) := (blk_cell BK271.out 0).trans rfl; have hcz11_1 : w8.cell? ⟨gb271, 1, none⟩ = some (.int .i64 0) := (blk_cell BK271.out 1).trans rfl; have hcz11_2 : w8.cell? ⟨gb271, 2, none⟩ = some (.int .i64 0) := (blk_cell BK271.out 2).trans rfl; have hcz11_3 : w8.cell? ⟨gb271, 3, none⟩ = some (.int .i64 0) := (blk_cell BK271.out 3).trans rfl; have hcz11_4 : w8.cell? ⟨gb271, 4, none⟩ = some (.slice none 0 0) := (blk_cell BK271.out 4).trans rfl; have hcz11_5 : w8.cell? ⟨gb271, 5, none⟩ = some (.bool false) := (blk_cell BK271.out 5).trans rfl; have hcz11_6 : w8.cell? ⟨gb271, 6, none⟩ = some (.slice none 0 0) := (blk_cell BK271.out 6).trans rfl; have hcz11_7 : w8.cell? ⟨gb271, 7, none⟩ = some (.slice none 0 0) := (blk_cell BK271.out 7).trans rfl; have hcz11_8 : w8.cell? ⟨gb271, 8, none⟩ = some (.slice none 0 0) := (blk_cell BK271.out 8).trans rfl; have hfz11_0 := blk_frozen BK271.out 0; have hfz11_1 := blk_frozen BK271.out 1; have hfz11_2 := blk_frozen BK271.out 2; have hfz11_3 := blk_frozen BK271.out 3; have hfz11_4 := blk_frozen BK271.out 4; have hfz11_5 := blk_frozen BK271.out 5; have hfz11_6 := blk_frozen BK271.out 6; have hfz11_7 := blk_frozen BK271.out 7; have hfz11_8 := blk_frozen BK271.out 8; obtain ⟨Ao12, co12, eo12⟩ := Kd.R_slice HO287.out; subst eo12; obtain ⟨Ao13, co13, eo13⟩ := Kd.R_slice HO291.out; subst eo13; obtain ⟨Ao14, co14, eo14⟩ := Kd.R_slice HO294.out; subst eo14; obtain ⟨Ao15, co15, eo15⟩ := Kd.R_slice HO297.out; subst eo15))
  refine bodyPost_ret (results_cell_row rfl _ _ gb271 67 #[.slice Ao9 t279.length co9, .int .i64 t282, .int .i64 t283, .int .i64 t284, .slice Ao12 t285.length co12, .bool t288, .slice Ao13 t289.length co13, .slice Ao14 t292.length co14, .slice Ao15 t295.length co15] (0, 0) _ rfl (by (with_reducible repeat (first | refine blk_drewN ?_ _ | refine blk_drew ?_ | refine blk_alloc ?_ _)); refine blk_put (cs := #[.slice Ao9 t279.length co9, .int .i64 t282, .int .i64 t283, .int .i64 t284, .slice Ao12 t285.length co12, .bool t288, .slice Ao13 t289.length co13, .slice Ao14 t292.length co14, .slice none 0 0]) ?_ 8 _ rfl; (with_reducible repeat (first | refine blk_drewN ?_ _ | refine blk_drew ?_ | refine blk_alloc ?_ _)); refine blk_put (cs := #[.slice Ao9 t279.length co9, .int .i64 t282, .int .i64 t283, .int .i64 t284, .slice Ao12 t285.length co12, .bool t288, .slice Ao13 t289.length co13, .slice none 0 0, .slice none 0 0]) ?_ 7 _ rfl; (with_reducible repeat (first | refine blk_drewN ?_ _ | refine blk_drew ?_ | refine blk_alloc ?_ _)); refine blk_put (cs := #[.slice Ao9 t279.length co9, .int .i64 t282, .int .i64 t283, .int .i64 t284, .slice Ao12 t285.length co12, .bool t288, .slice none 0 0, .slice none 0 0, .slice none 0 0]) ?_ 6 _ rfl; (with_reducible repeat (first | refine blk_drewN ?_ _ | refine blk_drew ?_ | refine blk_alloc ?_ _)); refine blk_put (cs := #[.slice Ao9 t279.length co9, .int .i64 t282, .int .i64 t283, .int .i64 t284, .slice Ao12 t285.length co12, .bool false, .slice none 0 0, .slice none 0 0, .slice none 0 0]) ?_ 5 _ rfl; (with_reducible repeat (first | refine blk_drewN ?_ _ | refine blk_drew ?_ | refine blk_alloc ?_ _)); refine blk_put (cs := #[.slice Ao9 t279.length co9, .int .i64 t282, .int .i64 t283, .int .i64 t284, .slice none 0 0, .bool false, .slice none 0 0, .slice none 0 0, .slice none 0 0]) ?_ 4 _ rfl; (with_reducible repeat (first | refine blk_drewN ?_ _ | refine blk_drew ?_ | refine blk_alloc ?_ _)); refine blk_put (cs := #[.slice Ao9 t279.length co9, .int .i64 t282, .int .i64 t283, .int .i64 0, .slice none 0 0, .bool false, .slice none 0 0, .slice none 0 0, .slice none 0 0]) ?_ 3 _ rfl; (with_reducible repeat (first | refine blk_drewN ?_ _ | refine blk_drew ?_ | refine blk_alloc ?_ _)); refine blk_put (cs := #[.slice Ao9 t279.length co9, .int .i64 t282, .int .i64 0, .int .i64 0, .slice none 0 0, .bool false, .slice none 0 0, .slice none 0 0, .slice none 0 0]) ?_ 2 _ rfl; (with_reducible repeat (first | refine blk_drewN ?_ _ | refine blk_drew ?_ | refine blk_alloc ?_ _)); refine blk_put (cs := #[.slice Ao9 t279.length co9, .int .i64 0, .int .i64 0, .int .i64 0, .slice none 0 0, .bool false, .slice none 0 0, .slice none 0 0, .slice none 0 0]) ?_ 1 _ rfl; (with_reducible repeat (first | refine blk_drewN ?_ _ | refine blk_drew ?_ | refine blk_alloc ?_ _)); refine blk_put (cs := #[.slice none 0 0, .int .i64 0, .int .i64 0, .int .i64 0, .slice none 0 0, .bool false, .slice none 0 0, .slice none 0 0, .slice none 0 0]) ?_ 0 _ rfl; (with_reducible repeat (first | refine blk_drewN ?_ _ | refine blk_drew ?_ | refine blk_alloc ?_ _)); exact BK271.out) Try.underlying67 rfl (by kernel_rfl)) rfl ?_
  exact ⟨_, _, _, _, _, by first | rfl | (simp [errW_none, errW_some] <;> rfl) | (simp [*, errW_none, errW_some] <;> rfl), by (with_reducible repeat (first | apply Kd.R_alloc | apply Kd.R_drewN | apply Kd.R_drew)); exact Kd.R_mono (Kd.R_far (p := ⟨gb271, 8, none⟩) (Kd.R_far (p := ⟨gb271, 7, none⟩) (Kd.R_far (p := ⟨gb271, 6, none⟩) (Kd.R_far (p := ⟨gb271, 5, none⟩) (Kd.R_far (p := ⟨gb271, 4, none⟩) (Kd.R_far (p := ⟨gb271, 3, none⟩) (Kd.R_far (p := ⟨gb271, 2, none⟩) (Kd.R_far (p := ⟨gb271, 1, none⟩) (Kd.R_far (p := ⟨gb271, 0, none⟩) (Kd.R_types HO281.out BK271.out (by decide)) (fun _ hk => hk.2) (.slice Ao9 t279.length co9)) (fun _ hk => hk.2) (.int .i64 t282)) (fun _ hk => hk.2) (.int .i64 t283)) (fun _ hk => hk.2) (.int .i64 t284)) (fun _ hk => hk.2) (.slice Ao12 t285.length co12)) (fun _ hk => hk.2) (.bool t288)) (fun _ hk => hk.2) (.slice Ao13 t289.length co13)) (fun _ hk => hk.2) (.slice Ao14 t292.length co14)) (fun _ hk => hk.2) (.slice Ao15 t295.length co15)) (fun _ hk => trivial), by (with_reducible repeat (first | apply Kd.R_alloc | apply Kd.R_drewN | apply Kd.R_drew)); exact Kd.R_mono (Kd.R_far (p := ⟨gb271, 8, none⟩) (Kd.R_far (p := ⟨gb271, 7, none⟩) (Kd.R_far (p := ⟨gb271, 6, none⟩) (Kd.R_far (p := ⟨gb271, 5, none⟩) (Kd.R_far (p := ⟨gb271, 4, none⟩) (Kd.R_far (p := ⟨gb271, 3, none⟩) (Kd.R_far (p := ⟨gb271, 2, none⟩) (Kd.R_far (p := ⟨gb271, 1, none⟩) (Kd.R_far (p := ⟨gb271, 0, none⟩) (Kd.R_types HO287.out BK271.out (by decide)) (fun _ hk => hk.2) (.slice Ao9 t279.length co9)) (fun _ hk => hk.2) (.int .i64 t282)) (fun _ hk => hk.2) (.int .i64 t283)) (fun _ hk => hk.2) (.int .i64 t284)) (fun _ hk => hk.2) (.slice Ao12 t285.length co12)) (fun _ hk => hk.2) (.bool t288)) (fun _ hk => hk.2) (.slice Ao13 t289.length co13)) (fun _ hk => hk.2) (.slice Ao14 t292.length co14)) (fun _ hk => hk.2) (.slice Ao15 t295.length co15)) (fun _ hk => ⟨hk.1.1, hk.1.2⟩), by (with_reducible repeat (first | apply Kd.R_alloc | apply Kd.R_drewN | apply Kd.R_drew)); exact Kd.R_mono (Kd.R_far (p := ⟨gb271, 8, none⟩) (Kd.R_far (p := ⟨gb271, 7, none⟩) (Kd.R_far (p := ⟨gb271, 6, none⟩) (Kd.R_far (p := ⟨gb271, 5, none⟩) (Kd.R_far (p := ⟨gb271, 4, none⟩) (Kd.R_far (p := ⟨gb271, 3, none⟩) (Kd.R_far (p := ⟨gb271, 2, none⟩) (Kd.R_far (p := ⟨gb271, 1, none⟩) (Kd.R_far (p := ⟨gb271, 0, none⟩) (Kd.R_types HO291.out BK271.out (by decide)) (fun _ hk => hk.2) (.slice Ao9 t279.length co9)) (fun _ hk => hk.2) (.int .i64 t282)) (fun _ hk => hk.2) (.int .i64 t283)) (fun _ hk => hk.2) (.int .i64 t284)) (fun _ hk => hk.2) (.slice Ao12 t285.length co12)) (fun _ hk => hk.2) (.bool t288)) (fun _ hk => hk.2) (.slice Ao13 t289.length co13)) (fun _ hk => hk.2) (.slice Ao14 t292.length co14)) (fun _ hk => hk.2) (.slice Ao15 t295.length co15)) (fun _ hk => trivial), by (with_reducible repeat (first | apply Kd.R_alloc | apply Kd.R_drewN | apply Kd.R_drew)); exact Kd.R_mono (Kd.R_far (p := ⟨gb271, 8, none⟩) (Kd.R_far (p := ⟨gb271, 7, none⟩) (Kd.R_far (p := ⟨gb271, 6, none⟩) (Kd.R_far (p := ⟨gb271, 5, none⟩) (Kd.R_far (p := ⟨gb271, 4, none⟩) (Kd.R_far (p := ⟨gb271, 3, none⟩) (Kd.R_far (p := ⟨gb271, 2, none⟩) (Kd.R_far (p := ⟨gb271, 1, none⟩) (Kd.R_far (p := ⟨gb271, 0, none⟩) (Kd.R_types HO294.out BK271.out (by decide)) (fun _ hk => hk.2) (.slice Ao9 t279.length co9)) (fun _ hk => hk.2) (.int .i64 t282)) (fun _ hk => hk.2) (.int .i64 t283)) (fun _ hk => hk.2) (.int .i64 t284)) (fun _ hk => hk.2) (.slice Ao12 t285.length co12)) (fun _ hk => hk.2) (.bool t288)) (fun _ hk => hk.2) (.slice Ao13 t289.length co13)) (fun _ hk => hk.2) (.slice Ao14 t292.length co14)) (fun _ hk => hk.2) (.slice Ao15 t295.length co15)) (fun _ hk => ⟨hk.1.1, hk.1.2⟩), by (with_reducible repeat (first | apply Kd.R_alloc | apply Kd.R_drewN | apply Kd.R_drew)); exact Kd.R_mono (Kd.R_far (p := ⟨gb271, 8, none⟩) (Kd.R_far (p := ⟨gb271, 7, none⟩) (Kd.R_far (p := ⟨gb271, 6, none⟩) (Kd.R_far (p := ⟨gb271, 5, none⟩) (Kd.R_far (p := ⟨gb271, 4, none⟩) (Kd.R_far (p := ⟨gb271, 3, none⟩) (Kd.R_far (p := ⟨gb271, 2, none⟩) (Kd.R_far (p := ⟨gb271, 1, none⟩) (Kd.R_far (p := ⟨gb271, 0, none⟩) (Kd.R_types HO297.out BK271.out (by decide)) (fun _ hk => hk.2) (.slice Ao9 t279.length co9)) (fun _ hk => hk.2) (.int .i64 t282)) (fun _ hk => hk.2) (.int .i64 t283)) (fun _ hk => hk.2) (.int .i64 t284)) (fun _ hk => hk.2) (.slice Ao12 t285.length co12)) (fun _ hk => hk.2) (.bool t288)) (fun _ hk => hk.2) (.slice Ao13 t289.length co13)) (fun _ hk => hk.2) (.slice Ao14 t292.length co14)) (fun _ hk => hk.2) (.slice Ao15 t295.length co15)) (fun _ hk => ⟨hk.1.1, hk.1.2⟩), by repeat (first | (with_reducible first | exact HB.out | apply below_alloc | apply pw_below_drewN | apply below_drew1 | refine below_set ?_ (IsS134.ge HI275.out) | refine below_set ?_ GE271.out) | exact HB.out)⟩

/-! ### impl_AddRows: function 52 -/
def impl_AddRows.f (a0_0 : Int) (a0_1 : Int) (a0_2 : Int) (a0_3 : Int) (a0_4 : Int) (a0_5 : Int) (a0_6 : Int) (a1_0 : Int) (a1_1 : Int) (a1_2 : Int) (a1_3 : Int) (a1_4 : Int) (a1_5 : Int) (a1_6 : Int) : Option (Int × Int × Int × Int × Int × Int × Int) := some (wrap64 (a0_0 + a1_0), wrap64 (a0_1 + a1_1), wrap64 (a0_2 + a1_2), wrap64 (a0_3 + a1_3), wrap64 (a0_4 + a1_4), wrap64 (a0_5 + a1_5), wrap64 (a0_6 + a1_6))
set_option maxHeartbeats 8000000 in
set_option maxRecDepth 100000 in
theorem impl_AddRows.calls (a0_0 : Int) (a0_1 : Int) (a0_2 : Int) (a0_3 : Int) (a0_4 : Int) (a0_5 : Int) (a0_6 : Int) (a1_0 : Int) (a1_1 : Int) (a1_2 : Int) (a1_3 : Int) (a1_4 : Int) (a1_5 : Int) (a1_6 : Int) (r1 : Int) (r2 : Int) (r3 : Int) (r4 : Int) (r5 : Int) (r6 : Int) (r7 : Int) (w : World) (h : impl_AddRows.f a0_0 a0_1 a0_2 a0_3 a0_4 a0_5 a0_6 a1_0 a1_1 a1_2 a1_3 a1_4 a1_5 a1_6 = some (r1, r2, r3, r4, r5, r6, r7)) :
    Calls Try.prog 52 #[.agg #[.int .i64 a0_0, .int .i64 a0_1, .int .i64 a0_2, .int .i64 a0_3, .int .i64 a0_4, .int .i64 a0_5, .int .i64 a0_6], .agg #[.int .i64 a1_0, .int .i64 a1_1, .int .i64 a1_2, .int .i64 a1_3, .int .i64 a1_4, .int .i64 a1_5, .int .i64 a1_6]] w fun e w' => e = .returned (.agg #[.int .i64 r1, .int .i64 r2, .int .i64 r3, .int .i64 r4, .int .i64 r5, .int .i64 r6, .int .i64 r7]) ∧ Below w.heap.size w w' := by
  have hu74 := Try.underlying74
  have HB := Aside0.mk (Below.refl w.heap.size w)
  have H : (some (wrap64 (a0_0 + a1_0), wrap64 (a0_1 + a1_1), wrap64 (a0_2 + a1_2), wrap64 (a0_3 + a1_3), wrap64 (a0_4 + a1_4), wrap64 (a0_5 + a1_5), wrap64 (a0_6 + a1_6))) = some (r1, r2, r3, r4, r5, r6, r7) := h
  clear h
  simp only [Option.some.injEq, Prod.mk.injEq] at H
  obtain ⟨rfl, rfl, rfl, rfl, rfl, rfl, rfl⟩ := H
  go_enter Try.func52, Try.ntmps52
  go_wp2_with (first | ((with_reducible refine gate_dst (N := 2) rfl ?_); refine box_event ?hg (N := 2) ?hd (cs := #[.int .i64 a0_0, .int .i64 a0_1, .int .i64 a0_2, .int .i64 a0_3, .int .i64 a0_4, .int .i64 a0_5, .int .i64 a0_6]) (t := 74) ?hr ?_; (case hd => rfl); (case hg => rfl); (case hr => first | (go_simp; done) | (go_simp; rfl)); intro gb300 hg w3 hbox hb; have n0_ := Aside0.mk (below_step (by repeat (first | (with_reducible first | exact HB.out | apply below_alloc | apply pw_below_drewN | apply below_drew1) | exact HB.out)) hb); have n1_ := Aside0.mk (hbox); have n2_ := Aside0.mk ((by rw [hg]; exact (below_size (by repeat (first | (with_reducible first | exact HB.out | apply below_alloc | apply pw_below_drewN | apply below_drew1) | exact HB.out))) : w.heap.size ≤ gb300)); have n3_ := Aside0.mk ((by rw [hg]; exact (below_size (by repeat (first | (with_reducible first | exact HB.out | apply below_alloc | apply pw_below_drewN | apply below_drew1) | exact HB.out))) : w.heap.size ≤ gb300)); clear HB; have HB := n0_; have BK300 := n1_; have GW300 := n2_; have GE300 := n3_; clear n0_ n1_ n2_ n3_; clear hb hbox hg) | ((with_reducible refine gate_dst (N := 3) rfl ?_); refine box_event ?hg (N := 3) ?hd (cs := #[.int .i64 a1_0, .int .i64 a1_1, .int .i64 a1_2, .int .i64 a1_3, .int .i64 a1_4, .int .i64 a1_5, .int .i64 a1_6]) (t := 74) ?hr ?_; (case hd => rfl); (case hg => rfl); (case hr => first | (go_simp; done) | (go_simp; rfl)); intro gb301 hg w4 hbox hb; have n0_ := Aside0.mk (blk_below (g := gb300) (o := .cells #[.int .i64 a0_0, .int .i64 a0_1, .int .i64 a0_2, .int .i64 a0_3, .int .i64 a0_4, .int .i64 a0_5, .int .i64 a0_6] 74 (0, 0)) (by (with_reducible repeat (first | refine blk_drewN ?_ _ | refine blk_drew ?_ | refine blk_alloc ?_ _)); exact BK300.out) hb); have n1_ := Aside0.mk (below_step (by repeat (first | (with_reducible first | exact HB.out | apply below_alloc | apply pw_below_drewN | apply below_drew1 | refine below_set ?_ GE300.out) | exact HB.out)) hb); have n2_ := Aside0.mk (hbox); have n3_ := Aside0.mk ((by rw [hg]; exact (below_size (by repeat (first | (with_reducible first | exact HB.out | apply below_alloc | apply pw_below_drewN | apply below_drew1 | refine below_set ?_ GE300.out) | exact HB.out))) : w.heap.size ≤ gb301)); have n4_ := Aside0.mk ((by rw [hg]; exact (below_size (by repeat (first | (with_reducible first | exact HB.out | apply below_alloc | apply pw_below_drewN | apply below_drew1 | refine below_set ?_ GE300.out) | exact HB.out))) : w.heap.size ≤ gb301)); have n5_ := Aside0.mk ((by rw [hg]; exact Nat.ne_of_lt (blk_lt (g := gb300) (o := .cells #[.int .i64 a0_0, .int .i64 a0_1, .int .i64 a0_2, .int .i64 a0_3, .int .i64 a0_4, .int .i64 a0_5, .int .i64 a0_6] 74 (0, 0)) (by (with_reducible repeat (first | refine blk_drewN ?_ _ | refine blk_drew ?_ | refine blk_alloc ?_ _)); exact BK300.out)) : gb300 ≠ gb301)); have n6_ := Aside0.mk ((by rw [hg]; exact Nat.ne_of_gt (blk_lt (g := gb300) (o := .cells #[.int .i64 a0_0, .int .i64 a0_1, .int .i64 a0_2, .int .i64 a0_3, .int .i64 a0_4, .int .i64 a0_5, .int .i64 a0_6] 74 (0, 0)) (by (with_reducible repeat (first | refine blk_drewN ?_ _ | refine blk_drew ?_ | refine blk_alloc ?_ _)); exact BK300.out)) : gb301 ≠ gb300)); clear BK300; clear HB; have BK300 := n0_; have HB := n1_; have BK301 := n2_; have GW301 := n3_; have GE301 := n4_; have NB300_301 := n5_; have NB301_300 := n6_; clear n0_ n1_ n2_ n3_ n4_ n5_ n6_; clear hb hbox hg) | ((with_reducible refine gate_dst (N := 4) rfl ?_); refine box_event ?hg (N := 4) ?hd (cs := #[.int .i64 0, .int .i64 0, .int .i64 0, .int .i64 0, .int .i64 0, .int .i64 0, .int .i64 0]) (t := 74) ?hr ?_; (case hd => rfl); (case hg => rfl); (case hr => first | (go_simp; done) | (go_simp; rfl)); intro gb302 hg w5 hbox hb; have n0_ := Aside0.mk (blk_below (g := gb300) (o := .cells #[.int .i64 a0_0, .int .i64 a0_1, .int .i64 a0_2, .int .i64 a0_3, .int .i64 a0_4, .int .i64 a0_5, .int .i64 a0_6] 74 (0, 0)) (by (with_reducible repeat (first | refine blk_drewN ?_ _ | refine blk_drew ?_ | refine blk_alloc ?_ _)); exact BK300.out) hb); have n1_ := Aside0.mk (blk_below (g := gb301) (o := .cells #[.int .i64 a1_0, .int .i64 a1_1, .int .i64 a1_2, .int .i64 a1_3, .int .i64 a1_4, .int .i64 a1_5, .int .i64 a1_6] 74 (0, 0)) (by (with_reducible repeat (first | refine blk_drewN ?_ _ | refine blk_drew ?_ | refine blk_alloc ?_ _)); exact BK301.out) hb); have n2_ := Aside0.mk (below_step (by repeat (first | (with_reducible first | exact HB.out | apply below_alloc | apply pw_below_drewN | apply below_drew1 | refine below_set ?_ GE300.out | refine below_set ?_ GE301.out) | exact HB.out)) hb); have n3_ := Aside0.mk (hbox); have n4_ := Aside0.mk ((by rw [hg]; exact (below_size (by repeat (first | (with_reducible first | exact HB.out | apply below_alloc | apply pw_below_drewN | apply below_drew1 | refine below_set ?_ GE300.out | refine below_set ?_ GE301.out) | exact HB.out))) : w.heap.size ≤ gb302)); have n5_ := Aside0.mk ((by rw [hg]; exact (below_size (by repeat (first | (with_reducible first | exact HB.out | apply below_alloc | apply pw_below_drewN | apply below_drew1 | refine below_set ?_ GE300.out | refine below_set ?_ GE301.out) | exact HB.out))) : w.heap.size ≤ gb302)); have n6_ := Aside0.mk ((by rw [hg]; exact Nat.ne_of_lt (blk_lt (g := gb300) (o := .cells #[.int .i64 a0_0, .int .i64 a0_1, .int .i64 a0_2, .int .i64 a0_3, .int .i64 a0_4, .int .i64 a0_5, .int .i64 a0_6] 74 (0, 0)) (by (with_reducible repeat (first | refine blk_drewN ?_ _ | refine blk_drew ?_ | refine blk_alloc ?_ _)); exact BK300.out)) : gb300 ≠ gb302)); have n7_ := Aside0.mk ((by rw [hg]; exact Nat.ne_of_gt (blk_lt (g := gb300) (o := .cells #[.int .i64 a0_0, .int .i64 a0_1, .int .i64 a0_2, .int .i64 a0_3, .int .i64 a0_4, .int .i64 a0_5, .int .i64 a0_6] 74 (0, 0)) (by (with_reducible repeat (first | refine blk_drewN ?_ _ | refine blk_drew ?_ | refine blk_alloc ?_ _)); exact BK300.out)) : gb302 ≠ gb300)); have n8_ := Aside0.mk ((by rw [hg]; exact Nat.ne_of_lt (blk_lt (g := gb301) (o := .cells #[.int .i64 a1_0, .int .i64 a1_1, .int .i64 a1_2, .int .i64 a1_3, .int .i64 a1_4, .int .i64 a1_5, .int .i64 a1_6] 74 (0, 0)) (by (with_reducible repeat (first | refine blk_drewN ?_ _ | refine blk_drew ?_ | refine blk_alloc ?_ _)); exact BK301.out)) : gb301 ≠ gb302)); have n9_ := Aside0.mk ((by rw [hg]; exact Nat.ne_of_gt (blk_lt (g := gb301) (o := .cells #[.int .i64 a1_0, .int .i64 a1_1, .int .i64 a1_2, .int .i64 a1_3, .int .i64 a1_4, .int .i64 a1_5, .int .i64 a1_6] 74 (0, 0)) (by (with_reducible repeat (first | refine blk_drewN ?_ _ | refine blk_drew ?_ | refine blk_alloc ?_ _)); exact BK301.out)) : gb302 ≠ gb301)); clear BK300; clear BK301; clear HB; have BK300 := n0_; have BK301 := n1_; have HB := n2_; have BK302 := n3_; have GW302 := n4_; have GE302 := n5_; have NB300_302 := n6_; have NB302_300 := n7_; have NB301_302 := n8_; have NB302_301 := n9_; clear n0_ n1_ n2_ n3_ n4_ n5_ n6_ n7_ n8_ n9_; clear hb hbox hg; have hnb6 := NB300_301.out; have hnc6 := NB301_300.out; have hnb7 := NB300_302.out; have hnc7 := NB302_300.out; have hcz8_0 : w5.cell? ⟨gb300, 0, none⟩ = some (.int .i64 a0_0) := (blk_cell BK300.out 0).trans rfl; have hcz8_1 : w5.cell? ⟨gb300, 1, none⟩ = some (.int .i64 a0_1) := (blk_cell BK300.out 1).trans rfl; have hcz8_2 : w5.cell? ⟨gb300, 2, none⟩ = some (.int .i64 a0_2) := (blk_cell BK300.out 2).trans rfl; have hcz8_3 : w5.cell? ⟨gb300, 3, none⟩ = some (.int .i64 a0_3) := (blk_cell BK300.out 3).trans rfl; have hcz8_4 : w5.cell? ⟨gb300, 4, none⟩ = some (.int .i64 a0_4) := (blk_cell BK300.out 4).trans rfl; have hcz8_5 : w5.cell? ⟨gb300, 5, none⟩ = some (.int .i64 a0_5) := (blk_cell BK300.out 5).trans rfl; have hcz8_6 : w5.cell? ⟨gb300, 6, none⟩ = some (.int .i64 a0_6) := (blk_cell BK300.out 6).trans rfl; have hfz8_0 := blk_frozen BK300.out 0; have hfz8_1 := blk_frozen BK300.out 1; have hfz8_2 := blk_frozen BK300.out 2; have hfz8_3 := blk_frozen BK300.out 3; have hfz8_4 := blk_frozen BK300.out 4; have hfz8_5 := blk_frozen BK300.out 5; have hfz8_6 := blk_frozen BK300.out 6; have hnb9 := NB301_302.out; have hnc9 := NB302_301.out; have hcz10_0 : w5.cell? ⟨gb301, 0, none⟩ = some (.int .i64 a1_0) := (blk_cell BK301.out 0).trans rfl; have hcz10_1 : w5.cell? ⟨gb301, 1, none⟩ = some (.int .i64 a1_1) := (blk_cell BK301.out 1).trans rfl; have hcz10_2 : w5.cell? ⟨gb301, 2, none⟩ = some (.int .i64 a1_2) := (blk_cell BK301.out 2).trans rfl; have hcz10_3 : w5.cell? ⟨gb301, 3, none⟩ = some (.int .i64 a1_3) := (blk_cell BK301.out 3).trans rfl; have hcz10_4 : w5.cell? ⟨gb301, 4, none⟩ = some (.int .i64 a1_4) := (blk_cell BK301.out 4).trans rfl; have hcz10_5 : w5.cell? ⟨gb301, 5, none⟩ = some (.int .i64 a1_5) := (blk_cell BK301.out 5).trans rfl; have hcz10_6 : w5.cell? ⟨gb301, 6, none⟩ = some (.int .i64 a1_6) := (blk_cell BK301.out 6).trans rfl; have hfz10_0 := blk_frozen BK301.out 0; have hfz10_1 := blk_frozen BK301.out 1; have hfz10_2 := blk_frozen BK301.out 2; have hfz10_3 := blk_frozen BK301.out 3; have hfz10_4 := blk_frozen BK301.out 4; have hfz10_5 := blk_frozen BK301.out 5; have hfz10_6 := blk_frozen BK301.out 6; have hcz11_0 : w5.cell? ⟨gb302, 0, none⟩ = some (.int .i64 0) := (blk_cell BK302.out 0).trans rfl; have hcz11_1 : w5.cell? ⟨gb302, 1, none⟩ = some (.int .i64 0) := (blk_cell BK302.out 1).trans rfl; have hcz11_2 : w5.cell? ⟨gb302, 2, none⟩ = some (.int .i64 0) := (blk_cell BK302.out 2).trans rfl; have hcz11_3 : w5.cell? ⟨gb302, 3, none⟩ = some (.int .i64 0) := (blk_cell BK302.out 3).trans rfl; have hcz11_4 : w5.cell? ⟨gb302, 4, none⟩ = some (.int .i64 0) := (blk_cell BK302.out 4).trans rfl; have hcz11_5 : w5.cell? ⟨gb302, 5, none⟩ = some (.int .i64 0) := (blk_cell BK302.out 5).trans rfl; have hcz11_6 : w5.cell? ⟨gb302, 6, none⟩ = some (.int .i64 0) := (blk_cell BK302.out 6).trans rfl; have hfz11_0 := blk_frozen BK302.out 0; have hfz11_1 := blk_frozen BK302.out 1; have hfz11_2 := blk_frozen BK302.out 2; have hfz11_3 := blk_frozen BK302.out 3; have hfz11_4 := blk_frozen BK302.out 4; have hfz11_5 := blk_frozen BK302.out 5; have hfz11_6 := blk_frozen BK302.out 6))
  refine bodyPost_ret (results_cell_row rfl _ _ gb302 74 #[.int .i64 (wrap64 (a0_0 + a1_0)), .int .i64 (wrap64 (a0_1 + a1_1)), .int .i64 (wrap64 (a0_2 + a1_2)), .int .i64 (wrap64 (a0_3 + a1_3)), .int .i64 (wrap64 (a0_4 + a1_4)), .int .i64 (wrap64 (a0_5 + a1_5)), .int .i64 (wrap64 (a0_6 + a1_6))] (0, 0) _ rfl (by (with_reducible repeat (first | refine blk_drewN ?_ _ | refine blk_drew ?_ | refine blk_alloc ?_ _)); refine blk_put (cs := #[.int .i64 (wrap64 (a0_0 + a1_0)), .int .i64 (wrap64 (a0_1 + a1_1)), .int .i64 (wrap64 (a0_2 + a1_2)), .int .i64 (wrap64 (a0_3 + a1_3)), .int .i64 (wrap64 (a0_4 + a1_4)), .int .i64 (wrap64 (a0_5 + a1_5)), .int .i64 0]) ?_ 6 _ rfl; (with_reducible repeat (first | refine blk_drewN ?_ _ | refine blk_drew ?_ | refine blk_alloc ?_ _)); refine blk_put (cs := #[.int .i64 (wrap64 (a0_0 + a1_0)), .int .i64 (wrap64 (a0_1 + a1_1)), .int .i64 (wrap64 (a0_2 + a1_2)), .int .i64 (wrap64 (a0_3 + a1_3)), .int .i64 (wrap64 (a0_4 + a1_4)), .int .i64 0, .int .i64 0]) ?_ 5 _ rfl; (with_reducible repeat (first | refine blk_drewN ?_ _ | refine blk_drew ?_ | refine blk_alloc ?_ _)); refine blk_put (cs := #[.int .i64 (wrap64 (a0_0 + a1_0)), .int .i64 (wrap64 (a0_1 + a1_1)), .int .i64 (wrap64 (a0_2 + a1_2)), .int .i64 (wrap64 (a0_3 + a1_3)), .int .i64 0, .int .i64 0, .int .i64 0]) ?_ 4 _ rfl; (with_reducible repeat (first | refine blk_drewN ?_ _ | refine blk_drew ?_ | refine blk_alloc ?_ _)); refine blk_put (cs := #[.int .i64 (wrap64 (a0_0 + a1_0)), .int .i64 (wrap64 (a0_1 + a1_1)), .int .i64 (wrap64 (a0_2 + a1_2)), .int .i64 0, .int .i64 0, .int .i64 0, .int .i64 0]) ?_ 3 _ rfl; (with_reducible repeat (first | refine blk_drewN ?_ _ | refine blk_drew ?_ | refine blk_alloc ?_ _)); refine blk_put (cs := #[.int .i64 (wrap64 (a0_0 + a1_0)), .int .i64 (wrap64 (a0_1 + a1_1)), .int .i64 0, .int .i64 0, .int .i64 0, .int .i64 0, .int .i64 0]) ?_ 2 _ rfl; (with_reducible repeat (first | refine blk_drewN ?_ _ | refine blk_drew ?_ | refine blk_alloc ?_ _)); refine blk_put (cs := #[.int .i64 (wrap64 (a0_0 + a1_0)), .int .i64 0, .int .i64 0, .int .i64 0, .int .i64 0, .int .i64 0, .int .i64 0]) ?_ 1 _ rfl; (with_reducible repeat (first | refine blk_drewN ?_ _ | refine blk_drew ?_ | refine blk_alloc ?_ _)); refine blk_put (cs := #[.int .i64 0, .int .i64 0, .int .i64 0, .int .i64 0, .int .i64 0, .int .i64 0, .int .i64 0]) ?_ 0 _ rfl; (with_reducible repeat (first | refine blk_drewN ?_ _ | refine blk_drew ?_ | refine blk_alloc ?_ _)); exact BK302.out) Try.underlying74 rfl (by kernel_rfl)) rfl ?_
  exact ⟨by first | rfl | (simp [errW_none, errW_some] <;> rfl) | (simp [*, errW_none, errW_some] <;> rfl), by repeat (first | (with_reducible first | exact HB.out | apply below_alloc | apply pw_below_drewN | apply below_drew1 | refine below_set ?_ GE300.out | refine below_set ?_ GE301.out | refine below_set ?_ GE302.out) | exact HB.out)⟩

end Go.Proofs.Ytikfdjgigeggjaa.MFnTables
