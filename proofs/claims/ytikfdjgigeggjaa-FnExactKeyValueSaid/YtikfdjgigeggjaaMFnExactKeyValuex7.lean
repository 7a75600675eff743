/- The functions that FnExactKeyValue reaches, each with its contract: the print's form, by wip/tools/myprint.py; no condition of its own. -/
import Derived.Test.YtikfdjgigeggjaaMFnExactKeyValuex0
import Derived.Test.YtikfdjgigeggjaaMFnExactKeyValuex6
namespace Go.Proofs.Ytikfdjgigeggjaa.MFnExactKeyValue
open Go.RowKit Go.Proofs.YtikfdjgigeggjaaW.PrintWords Go.Proofs.YtikfdjgigeggjaaW.PrintLast Go.Proofs.YtikfdjgigeggjaaW.PrintMore
attribute [local go_sem] max2_int min2_int max_two min_two max_three min_three max_four min_four   -- for this text's walks alone
set_option linter.unusedVariables false
set_option linter.unusedSimpArgs false

/-! ### spec_l06Add: function 112 -/
theorem sp_new2 (w : World) (o o' : Obj) : ((w.alloc o).alloc o').heap[w.heap.size + 1]? = some o' := by
  have h := blk_new (w.alloc o) o'
  have e : (w.alloc o).heap.size = w.heap.size + 1 := Array.size_push _
  rwa [e] at h
def spG (s2 s3 s4 : Int) : Int × Int × Bool := if s4 = 1 then (s2, s3, true) else (if s4 = 2 then (3, 0, true) else (if s4 = 3 then (0, 3, true) else (0, 0, false)))
theorem spG_eq (a b s2 s3 s4 : Int) : spec_GoalsOf.f a b s2 s3 s4 = some ((spG s2 s3 s4).1, (spG s2 s3 s4).2.1, (spG s2 s3 s4).2.2) := by
  unfold spec_GoalsOf.f spG
  repeat' split
  all_goals rfl
def spOut (h a : Int) : Int := if h > a then 1 else if h = a then 2 else 3
theorem spOut_eq (a b s2 s3 s4 : Int) (h : (spG s2 s3 s4).2.2 = true) : spec_OutcomeOf.f a b s2 s3 s4 = some (spOut (spG s2 s3 s4).1 (spG s2 s3 s4).2.1) := by
  unfold spec_OutcomeOf.f
  rw [spG_eq, Option.bind_some]
  show (if (spG s2 s3 s4).2.2 = true then _ else _) = _
  rw [if_pos h]
  unfold spOut
  split
  · rfl
  · split <;> rfl
theorem spOut_ways (a b : Int) : (spOut a b = 1 ∧ b < a) ∨ (spOut a b = 2 ∧ a = b) ∨ (spOut a b = 3 ∧ a < b) := by
  unfold spOut
  split
  · exact .inl ⟨rfl, by omega⟩
  · split
    · exact .inr (.inl ⟨rfl, by assumption⟩)
    · exact .inr (.inr ⟨rfl, by omega⟩)
def spRow (u0 u1 u2 h a : Int) : S74 := if h > a then ⟨1, 1, 0, 0, h, a, u0⟩ else if h = a then ⟨1, 0, 1, 0, h, a, u1⟩ else ⟨1, 0, 0, 1, h, a, u2⟩
def spSet (x : S74) (j : Nat) (v : Int) : S74 := match j with | 0 => { x with f0 := v } | 1 => { x with f1 := v } | 2 => { x with f2 := v } | 3 => { x with f3 := v } | 4 => { x with f4 := v } | 5 => { x with f5 := v } | 6 => { x with f6 := v } | _ => x
def spSum (X x : S74) : S74 := ⟨wrap64 (X.f0 + x.f0), wrap64 (X.f1 + x.f1), wrap64 (X.f2 + x.f2), wrap64 (X.f3 + x.f3), wrap64 (X.f4 + x.f4), wrap64 (X.f5 + x.f5), wrap64 (X.f6 + x.f6)⟩
def spAdd (l : List S74) (i : Int) (x : S74) : List S74 := l.set i.toNat (spSum (rd_T74 l i) x)
def spec_l06Add.f (a0_0 : Int) (a0_1 : Int) (a0_2 : Int) (l0_3 : List Int) (a0_4 : Bool) (l1 : List (S74)) (a2_0 : Int) (a2_1 : Int) (a2_2 : Int) (a2_3 : Int) (a2_4 : Int) : Option ((List (S74))) :=
  if (spG a2_2 a2_3 a2_4).2.2 = true then (if ((decide (0 ≤ a2_0) && decide (a2_0 < (l1.length : Int))) && (decide (0 ≤ a2_1) && decide (a2_1 < (l1.length : Int)))) = true then some (spAdd (spAdd l1 a2_0 (spRow a0_0 a0_1 a0_2 (spG a2_2 a2_3 a2_4).1 (spG a2_2 a2_3 a2_4).2.1)) a2_1 (spRow a0_0 a0_1 a0_2 (spG a2_2 a2_3 a2_4).2.1 (spG a2_2 a2_3 a2_4).1)) else none) else some l1
/-- What holds while the two rows are written. -/
structure AdS (w0 w : World) (P1_ : Nat → Prop) (g cap n gb gx gy : Nat) (gc : Array Value) (X Y : S74) (xs : List S74) (W : World) : Prop where
  row : Kd.R k74 74 W w0.heap.size (fun k_ => k_ = g) (.slice (some ⟨g, 0, none⟩) n cap) xs
  game : W.heap[gb]? = some (.cells gc 71 (0, 0))
  bx : W.heap[gx]? = some (.cells #[.int .i64 X.f0, .int .i64 X.f1, .int .i64 X.f2, .int .i64 X.f3, .int .i64 X.f4, .int .i64 X.f5, .int .i64 X.f6] 74 (0, 0))
  by_ : W.heap[gy]? = some (.cells #[.int .i64 Y.f0, .int .i64 Y.f1, .int .i64 Y.f2, .int .i64 Y.f3, .int .i64 Y.f4, .int .i64 Y.f5, .int .i64 Y.f6] 74 (0, 0))
  kept : Kept w W (fun k_ => P1_ k_)
  bel : Below w0.heap.size w0 W
  hg : P1_ g
  neX : gx ≠ g
  neY : gy ≠ g
  nXY : gx ≠ gy
  nbX : gb ≠ gx
  nbY : gb ≠ gy
  geX : w.heap.size ≤ gx
  geY : w.heap.size ≤ gy
  w0w : w0.heap.size ≤ w.heap.size
  old : w0.heap.size ≤ g
  len : xs.length = n
section
variable {w0 w : World} {P1_ : Nat → Prop} {g cap n gb gx gy : Nat} {gc : Array Value} {X Y : S74} {xs : List S74} {W : World}
theorem AdS.below (s : AdS w0 w P1_ g cap n gb gx gy gc X Y xs W) {W1 : World} (hb : Below W.heap.size W W1) : AdS w0 w P1_ g cap n gb gx gy gc X Y xs W1 :=
  ⟨Kd.R_below s.row hb, blk_below s.game hb, blk_below s.bx hb, blk_below s.by_ hb, Kept.below (S := fun k_ => P1_ k_) s.kept hb, below_step s.bel hb, s.hg, s.neX, s.neY, s.nXY, s.nbX, s.nbY, s.geX, s.geY, s.w0w, s.old, s.len⟩
theorem AdS.drew (s : AdS w0 w P1_ g cap n gb gx gy gc X Y xs W) : AdS w0 w P1_ g cap n gb gx gy gc X Y xs W.drew := s.below (below_drew (Below.refl _ _))
theorem AdS.gneb (s : AdS w0 w P1_ g cap n gb gx gy gc X Y xs W) : gb ≠ g := by
  intro e
  obtain ⟨cells, hc⟩ := Kd.R_typed s.row g rfl
  have hb := s.game
  rw [e, hc] at hb
  injection hb with hb
  injection hb with _ hb _
  exact absurd hb (by decide)
theorem AdS.put (s : AdS w0 w P1_ g cap n gb gx gy gc X Y xs W) (i : Int) (h0 : 0 ≤ i) (h1 : i < (n : Int)) (x : S74) : AdS w0 w P1_ g cap n gb gx gy gc X Y (xs.set i.toNat x) (W.setCells g (i.toNat * 7) [.int .i64 x.f0, .int .i64 x.f1, .int .i64 x.f2, .int .i64 x.f3, .int .i64 x.f4, .int .i64 x.f5, .int .i64 x.f6]) := by
  obtain ⟨c, hcl, hM, hcc, hf⟩ := Kd.R_elem s.row z74 i h0 h1
  obtain rfl := k74_openM hM
  obtain ⟨hr, hg⟩ := Kd.R_seg (okp := fun k => k = g ∧ k ≠ g) s.row i h0 h1 (seg := [.int .i64 x.f0, .int .i64 x.f1, .int .i64 x.f2, .int .i64 x.f3, .int .i64 x.f4, .int .i64 x.f5, .int .i64 x.f6]) (j := 0) hcl hcc (show 7 ≤ 7 from by decide) (x' := x) (k74_mkM _ _ _ x) (fun _ hk => hk)
  have hfar : ∀ k, k ≠ g → (W.setCells g (i.toNat * 7) [.int .i64 x.f0, .int .i64 x.f1, .int .i64 x.f2, .int .i64 x.f3, .int .i64 x.f4, .int .i64 x.f5, .int .i64 x.f6]).heap[k]? = W.heap[k]? := fun k hk => setCells_far _ _ k hk
  refine ⟨hr, (hfar _ s.gneb).trans s.game, (hfar _ s.neX).trans s.bx, (hfar _ s.neY).trans s.by_, ?_, s.bel.grown hg (Nat.le_trans s.old (Nat.le_of_lt (Kd.R_lt s.row g rfl))) (fun k hk => by injection hk with hk; rw [← hk]; exact s.old), s.hg, s.neX, s.neY, s.nXY, s.nbX, s.nbY, s.geX, s.geY, s.w0w, s.old, by rw [List.length_set]; exact s.len⟩
  exact Kept.of_grown hg s.kept (fun k hk => .inl (by injection hk with hk; rw [← hk]; exact s.hg))
theorem AdS.cells (s : AdS w0 w P1_ g cap n gb gx gy gc X Y xs W) (i : Int) (h0 : 0 ≤ i) (h1 : i < (n : Int)) : (∀ j : Nat, j < 7 → W.frozen? ⟨g, i.toNat * 7 + j, none⟩ = false) ∧ W.cell? ⟨g, i.toNat * 7, none⟩ = some (.int .i64 (rd_T74 xs i).f0) ∧ W.cell? ⟨g, i.toNat * 7 + 1, none⟩ = some (.int .i64 (rd_T74 xs i).f1) ∧ W.cell? ⟨g, i.toNat * 7 + 2, none⟩ = some (.int .i64 (rd_T74 xs i).f2) ∧ W.cell? ⟨g, i.toNat * 7 + 3, none⟩ = some (.int .i64 (rd_T74 xs i).f3) ∧ W.cell? ⟨g, i.toNat * 7 + 4, none⟩ = some (.int .i64 (rd_T74 xs i).f4) ∧ W.cell? ⟨g, i.toNat * 7 + 5, none⟩ = some (.int .i64 (rd_T74 xs i).f5) ∧ W.cell? ⟨g, i.toNat * 7 + 6, none⟩ = some (.int .i64 (rd_T74 xs i).f6) := by
  obtain ⟨c, hcl, hM, hcc, hf⟩ := Kd.R_elem s.row z74 i h0 h1
  obtain rfl := k74_openM hM
  exact ⟨fun j _ => hf j, hcc 0 _ rfl, hcc 1 _ rfl, hcc 2 _ rfl, hcc 3 _ rfl, hcc 4 _ rfl, hcc 5 _ rfl, hcc 6 _ rfl⟩
theorem AdS.setX (s : AdS w0 w P1_ g cap n gb gx gy gc X Y xs W) (j : Nat) (hj : j < 7) (v : Int) : AdS w0 w P1_ g cap n gb gx gy gc (spSet X j v) Y xs (W.setCell ⟨gx, j, none⟩ (.int .i64 v)) := by
  refine ⟨Kd.R_far s.row (p := ⟨gx, j, none⟩) (fun k hk => by rw [hk]; exact Ne.symm s.neX) _, blk_far s.game (p := ⟨gx, j, none⟩) s.nbX _, ?_, blk_far s.by_ (p := ⟨gx, j, none⟩) (Ne.symm s.nXY) _, Kept.setCell s.kept (.inr s.geX) _, below_set s.bel (Nat.le_trans s.w0w s.geX), s.hg, s.neX, s.neY, s.nXY, s.nbX, s.nbY, s.geX, s.geY, s.w0w, s.old, s.len⟩
  have h := s.bx
  match j, hj with
  | 0, _ => exact blk_put h 0 _ rfl
  | 1, _ => exact blk_put h 1 _ rfl
  | 2, _ => exact blk_put h 2 _ rfl
  | 3, _ => exact blk_put h 3 _ rfl
  | 4, _ => exact blk_put h 4 _ rfl
  | 5, _ => exact blk_put h 5 _ rfl
  | 6, _ => exact blk_put h 6 _ rfl
theorem AdS.setY (s : AdS w0 w P1_ g cap n gb gx gy gc X Y xs W) (j : Nat) (hj : j < 7) (v : Int) : AdS w0 w P1_ g cap n gb gx gy gc X (spSet Y j v) xs (W.setCell ⟨gy, j, none⟩ (.int .i64 v)) := by
  refine ⟨Kd.R_far s.row (p := ⟨gy, j, none⟩) (fun k hk => by rw [hk]; exact Ne.symm s.neY) _, blk_far s.game (p := ⟨gy, j, none⟩) s.nbY _, blk_far s.bx (p := ⟨gy, j, none⟩) s.nXY _, ?_, Kept.setCell s.kept (.inr s.geY) _, below_set s.bel (Nat.le_trans s.w0w s.geY), s.hg, s.neX, s.neY, s.nXY, s.nbX, s.nbY, s.geX, s.geY, s.w0w, s.old, s.len⟩
  have h := s.by_
  match j, hj with
  | 0, _ => exact blk_put h 0 _ rfl
  | 1, _ => exact blk_put h 1 _ rfl
  | 2, _ => exact blk_put h 2 _ rfl
  | 3, _ => exact blk_put h 3 _ rfl
  | 4, _ => exact blk_put h 4 _ rfl
  | 5, _ => exact blk_put h 5 _ rfl
  | 6, _ => exact blk_put h 6 _ rfl
end
def spec_l06Add.T21 : Bool × List (List Nat × List Nat) := (true, [([], []), ([], []), ([1], [1]), ([], []), ([], []), ([4], [4]), ([3, 5], [3, 5]), ([6], [6]), ([], []), ([7, 8], [7, 8]), ([0, 2, 0, 1, 2, 3, 4, 5, 6, 7, 8, 9], [0, 2]), ([10, 9, 9, 0, 1, 2, 3, 4, 5, 6, 7, 8, 9], [9, 10])])
def spec_l06Add.B21 : List Nat := [0, 0, 2, 0, 0, 16, 56, 120, 0, 504, 1023, 2047]
theorem spec_l06Add.tab21 : rtab .any (opsOf Try.f112 21) = spec_l06Add.T21 := by kernel_rfl
theorem spec_l06Add.tab22 : rtab .any (opsOf Try.f112 22) = spec_l06Add.T21 := by kernel_rfl
theorem spec_l06Add.bits21 : waitsOk spec_l06Add.T21.2 spec_l06Add.B21 = true := by kernel_rfl
set_option maxHeartbeats 16000000 in
set_option maxRecDepth 100000 in
theorem spec_l06Add.calls (a0_0 : Int) (a0_1 : Int) (a0_2 : Int) (A0_3 : Option Addr) (c0_3 : Nat) (l0_3 : List Int) (a0_4 : Bool) (P1_ : Nat → Prop) (u9000_ : Value) (l1 : List (S74)) (a2_0 : Int) (a2_1 : Int) (a2_2 : Int) (a2_3 : Int) (a2_4 : Int) (r : List (S74)) (w0 w : World) (hB : Below w0.heap.size w0 w) (hr0_3 : ∀ W_, Kept w W_ (fun k_ => P1_ k_) → Kd.C (Kd.int .i64) W_ A0_3 l0_3.length l0_3) (hc0_3 : l0_3.length ≤ c0_3) (ho1 : Kd.R k74 74 w w0.heap.size P1_ u9000_ l1) (h : spec_l06Add.f a0_0 a0_1 a0_2 l0_3 a0_4 l1 a2_0 a2_1 a2_2 a2_3 a2_4 = some r) :
    Calls Try.prog 112 #[.agg #[.int .i64 a0_0, .int .i64 a0_1, .int .i64 a0_2, .slice A0_3 l0_3.length c0_3, .bool a0_4], u9000_, .agg #[.int .i64 a2_0, .int .i64 a2_1, .int .i64 a2_2, .int .i64 a2_3, .int .i64 a2_4]] w fun e w' => e = .returned (.tuple #[]) ∧ Kd.R k74 74 w' w0.heap.size (fun k_ => (P1_ k_ ∨ w.heap.size ≤ k_)) u9000_ r ∧ Below w0.heap.size w0 w' ∧ Kept w w' (fun k_ => P1_ k_) := by
  have hu25 := Try.underlying25
  have hu71 := Try.underlying71
  have hu74 := Try.underlying74
  clear hr0_3 hc0_3
  have hG := spG_eq a2_0 a2_1 a2_2 a2_3 a2_4
  have hO := spOut_eq a2_0 a2_1 a2_2 a2_3 a2_4
  unfold spec_l06Add.f at h
  obtain ⟨r1, hr1⟩ : ∃ z, z = (spG a2_2 a2_3 a2_4).1 := ⟨_, rfl⟩
  obtain ⟨r2, hr2⟩ : ∃ z, z = (spG a2_2 a2_3 a2_4).2.1 := ⟨_, rfl⟩
  obtain ⟨r3, hr3⟩ : ∃ z, z = (spG a2_2 a2_3 a2_4).2.2 := ⟨_, rfl⟩
  rw [← hr1, ← hr2, ← hr3] at hG h
  rw [← hr1, ← hr2, ← hr3] at hO
  clear hr1 hr2 hr3
  have HB := Aside0.mk hB
  have HO := Aside0.mk ho1
  have HG := Aside0.mk hG
  have HW0 := Aside0.mk hB.size
  clear hB ho1 hG
  cases r3 with
  | false =>
    rw [if_neg (by simp)] at h
    obtain rfl := Option.some.inj h
    clear h hO
    go_enter Try.func112, Try.ntmps112
    go_wp2_with fail
    refine (spec_GoalsOf.calls a2_0 a2_1 a2_2 a2_3 a2_4 r1 r2 false _ HG.out).mono ?_
    rintro e w1 ⟨rfl, hb⟩
    have HB1 := Aside0.mk (show Below w.heap.size w w1 from ((below_alloc (below_alloc (Below.refl _ _) _) _).trans (hb.mono (by simp; omega))))
    clear hb
    go_wp2
    refine bodyPost_ret (results_none rfl _ _ _) rfl ?_
    exact ⟨rfl, Kd.R_mono (Kd.R_below HO.out HB1.out) (fun k_ hk => .inl hk), below_step HB.out HB1.out, Kept.of_below HB1.out _⟩
  | true =>
    rw [if_pos rfl] at h
    by_cases hall : ((decide (0 ≤ a2_0) && decide (a2_0 < (l1.length : Int))) && (decide (0 ≤ a2_1) && decide (a2_1 < (l1.length : Int)))) = true
    · rw [if_pos hall] at h
      obtain rfl := Option.some.inj h
      simp only [Bool.and_eq_true, decide_eq_true_eq] at hall
      obtain ⟨⟨i0, i1⟩, i2, i3⟩ := hall
      obtain ⟨g, cap, ev, hgb, hgl, _⟩ := Kd.R_form HO.out (by omega)
      subst ev
      have HROW := Aside0.mk (Kd.R_mono (Kd.R_tight rfl HO.out) (ok' := fun k_ => k_ = g) (fun k_ hk => by have h_ : some k_ = some g := hk; injection h_))
      have HPG := Aside0.mk (HO.out.1 g rfl)
      have HGB := Aside0.mk hgb
      have HGL := Aside0.mk hgl
      have HO2 := Aside0.mk (hO rfl)
      have HI := Aside0.mk (And.intro i0 (And.intro i1 (And.intro i2 i3)))
      clear h hgb hgl HO i0 i1 i2 i3 hO
      go_enter Try.func112, Try.ntmps112
      go_wp2_with fail
      refine (spec_GoalsOf.calls a2_0 a2_1 a2_2 a2_3 a2_4 r1 r2 true _ HG.out).mono ?_
      rintro e w1 ⟨rfl, hb⟩
      have HB1 := Aside0.mk (show Below w.heap.size w w1 from ((below_alloc (below_alloc (Below.refl _ _) _) _).trans (hb.mono (by simp; omega))))
      have B25 := Aside0.mk (blk_below (blk_alloc (blk_new w _) _) hb)
      have B71 := Aside0.mk (blk_below (sp_new2 w _ _) hb)
      clear hb
      have hl25 := blk_lt B25.out
      have hl71 := blk_lt B71.out
      have hy0 := (blk_cell B71.out 0).trans rfl; have hy1 := (blk_cell B71.out 1).trans rfl; have hy2 := (blk_cell B71.out 2).trans rfl; have hy3 := (blk_cell B71.out 3).trans rfl; have hy4 := (blk_cell B71.out 4).trans rfl
      go_wp2_with fail
      refine (spec_OutcomeOf.calls a2_0 a2_1 a2_2 a2_3 a2_4 (spOut r1 r2) _ HO2.out).mono ?_
      rintro e w2 ⟨rfl, hb⟩
      have BX2 := Aside0.mk (blk_below (blk_alloc (blk_new w1 _) _) hb)
      have BY2 := Aside0.mk (blk_below (sp_new2 w1 _ _) hb)
      have HB2 := Aside0.mk (show Below w1.heap.size w1 w2 from ((below_alloc (below_alloc (Below.refl _ _) _) _).trans (hb.mono (by simp; omega))))
      have B252 := Aside0.mk (blk_below B25.out HB2.out)
      have B712 := Aside0.mk (blk_below B71.out HB2.out)
      have HB02 := Aside0.mk (HB1.out.trans (HB2.out.mono HB1.out.size))
      clear hb hy0 hy1 hy2 hy3 hy4
      have hS : AdS w0 w P1_ g cap l1.length (w.heap.size + 1) w1.heap.size (w1.heap.size + 1) #[.int .i64 a2_0, .int .i64 a2_1, .int .i64 a2_2, .int .i64 a2_3, .int .i64 a2_4] ⟨1, 0, 0, 0, r1, r2, 0⟩ ⟨1, 0, 0, 0, r2, r1, 0⟩ l1 w2 :=
        ⟨Kd.R_below HROW.out HB02.out, B712.out, BX2.out, BY2.out, Kept.of_below HB02.out _, below_step HB.out HB02.out, HPG.out, by have := HGL.out; omega, by have := HGL.out; omega, by omega, by omega, by omega, by omega, by omega, HW0.out, HGB.out, rfl⟩
      have S0 := Aside0.mk hS
      clear hS BX2 BY2 HB2 B71 B712 B25 HB1
      have hneb : w.heap.size ≠ w1.heap.size := by omega
      have hneb2 : w.heap.size ≠ w1.heap.size + 1 := by omega
      generalize w1.heap.size + 1 = gy at S0 hneb2 ⊢
      generalize w1.heap.size = gx at S0 hneb ⊢
      generalize hgb : w.heap.size + 1 = gb at S0 ⊢
      generalize hgr : w.heap.size = gr at B252 hneb hneb2 ⊢
      have hnb' := Ne.symm hneb
      have hnb2' := Ne.symm hneb2
      have hxy := S0.out.nXY
      have hyx := Ne.symm hxy
      have hc0 := (blk_cell B252.out 0).trans rfl; have hc1 := (blk_cell B252.out 1).trans rfl; have hc2 := (blk_cell B252.out 2).trans rfl
      have hx1 := (blk_cell S0.out.bx 1).trans rfl; have hx2 := (blk_cell S0.out.bx 2).trans rfl; have hx3 := (blk_cell S0.out.bx 3).trans rfl; have hx6 := (blk_cell S0.out.bx 6).trans rfl
      have hv1 := (blk_cell S0.out.by_ 1).trans rfl; have hv2 := (blk_cell S0.out.by_ 2).trans rfl; have hv3 := (blk_cell S0.out.by_ 3).trans rfl; have hv6 := (blk_cell S0.out.by_ 6).trans rfl
      have fx1 := blk_frozen S0.out.bx 1; have fx2 := blk_frozen S0.out.bx 2; have fx3 := blk_frozen S0.out.bx 3; have fx6 := blk_frozen S0.out.bx 6
      have fy1 := blk_frozen S0.out.by_ 1; have fy2 := blk_frozen S0.out.by_ 2; have fy3 := blk_frozen S0.out.by_ 3; have fy6 := blk_frozen S0.out.by_ 6
      rcases spOut_ways r1 r2 with ⟨ho, c⟩ | ⟨ho, c⟩ | ⟨ho, c⟩
      · rw [ho]
        clear ho
        have HC := Aside0.mk c
        clear c
        go_wp2_with fail
        have hS := ((((S0.out.setX 1 (by decide) 1).setY 3 (by decide) 1).setX 6 (by decide) a0_0).setY 6 (by decide) a0_2)
        have eX : spSet (spSet (⟨1, 0, 0, 0, r1, r2, 0⟩ : S74) 1 1) 6 a0_0 = spRow a0_0 a0_1 a0_2 r1 r2 := by have c := HC.out; unfold spRow; rw [if_pos (show r1 > r2 by omega)]; rfl
        have eY : spSet (spSet (⟨1, 0, 0, 0, r2, r1, 0⟩ : S74) 3 1) 6 a0_2 = spRow a0_0 a0_1 a0_2 r2 r1 := by have c := HC.out; unfold spRow; rw [if_neg (show ¬ r2 > r1 by omega), if_neg (show ¬ r2 = r1 by omega)]; rfl
        rw [eX, eY] at hS
        have S1 := Aside0.mk hS
        clear hS S0 eX eY HC hc0 hc1 hc2 hx1 hx2 hx3 hx6 hv1 hv2 hv3 hv6 fx1 fx2 fx3 fx6 fy1 fy2 fy3 fy6 B252 HB02
        generalize (((w2.setCell ⟨gx, 1, none⟩ (.int .i64 1)).setCell ⟨gy, 3, none⟩ (.int .i64 1)).setCell ⟨gx, 6, none⟩ (.int .i64 a0_0)).setCell ⟨gy, 6, none⟩ (.int .i64 a0_2) = W3 at S1 ⊢
        obtain ⟨X, hX⟩ : ∃ z, z = spRow a0_0 a0_1 a0_2 r1 r2 := ⟨_, rfl⟩
        obtain ⟨Y, hY⟩ : ∃ z, z = spRow a0_0 a0_1 a0_2 r2 r1 := ⟨_, rfl⟩
        rw [← hX, ← hY] at S1
        have HX := Aside0.mk hX
        have HY := Aside0.mk hY
        clear hX hY hnb' hnb2' hxy hyx
        have S2 := Aside0.mk S1.out.drew
        have hi0 : (0 ≤ a2_0) = True := eq_true HI.out.1
        have hi1 : (a2_0 < (l1.length : Int)) = True := eq_true HI.out.2.1
        refine start_ (n := 12) (S := fun w' => w'.cell? ⟨gb, 0, none⟩ = some (.int .i64 a2_0) ∧ w'.cell? ⟨gx, 0, none⟩ = some (.int .i64 X.f0) ∧ w'.cell? ⟨gx, 1, none⟩ = some (.int .i64 X.f1) ∧ w'.cell? ⟨gx, 2, none⟩ = some (.int .i64 X.f2) ∧ w'.cell? ⟨gx, 3, none⟩ = some (.int .i64 X.f3) ∧ w'.cell? ⟨gx, 4, none⟩ = some (.int .i64 X.f4) ∧ w'.cell? ⟨gx, 5, none⟩ = some (.int .i64 X.f5) ∧ w'.cell? ⟨gx, 6, none⟩ = some (.int .i64 X.f6) ∧ w'.cell? ⟨g, a2_0.toNat * 7, none⟩ = some (.int .i64 (rd_T74 l1 a2_0).f0) ∧ w'.cell? ⟨g, a2_0.toNat * 7 + 1, none⟩ = some (.int .i64 (rd_T74 l1 a2_0).f1) ∧ w'.cell? ⟨g, a2_0.toNat * 7 + 2, none⟩ = some (.int .i64 (rd_T74 l1 a2_0).f2) ∧ w'.cell? ⟨g, a2_0.toNat * 7 + 3, none⟩ = some (.int .i64 (rd_T74 l1 a2_0).f3) ∧ w'.cell? ⟨g, a2_0.toNat * 7 + 4, none⟩ = some (.int .i64 (rd_T74 l1 a2_0).f4) ∧ w'.cell? ⟨g, a2_0.toNat * 7 + 5, none⟩ = some (.int .i64 (rd_T74 l1 a2_0).f5) ∧ w'.cell? ⟨g, a2_0.toNat * 7 + 6, none⟩ = some (.int .i64 (rd_T74 l1 a2_0).f6)) (ds := [11]) #[false, false, false, false, false, false, false, false, false, false, false, false] (by kernel_rfl) rfl rfl ⟨(blk_cell S2.out.game 0).trans rfl, (blk_cell S2.out.bx 0).trans rfl, (blk_cell S2.out.bx 1).trans rfl, (blk_cell S2.out.bx 2).trans rfl, (blk_cell S2.out.bx 3).trans rfl, (blk_cell S2.out.bx 4).trans rfl, (blk_cell S2.out.bx 5).trans rfl, (blk_cell S2.out.bx 6).trans rfl, (S2.out.cells a2_0 HI.out.1 HI.out.2.1).2⟩ (fun hHeld => ?_); refine with_tabW spec_l06Add.tab21 spec_l06Add.bits21 (fun HT_ HW_ => ?_)
        generalize W3.drew = W3d at S2 hHeld ⊢
        clear S1
        refine pure_ (i := 0) (N := some 57) (v := ?_) (a' := ?_) #[true, false, false, false, false, false, false, false, false, false, false, false] rfl rfl (any_of HT_.out (by kernel_rfl)) (fun _ _ _ h => h) (Or.inl ⟨by rfl, ?_⟩) ?_ ?_
        rotate_left
        · (intro w'; go_simp; with_reducible rfl)
        rotate_left
        · (simp only [Act.put, List.setIfInBounds_toArray, List.set_cons_zero, List.set_cons_succ, i64_w, i32_w]; rfl)
        refine pure_ (i := 1) (N := some 58) (v := ?_) (a' := ?_) #[true, true, false, false, false, false, false, false, false, false, false, false] rfl rfl (any_of HT_.out (by kernel_rfl)) (fun _ _ _ h => h) (Or.inl ⟨by rfl, ?_⟩) ?_ ?_
        rotate_left
        · (intro w'; go_simp; with_reducible rfl)
        rotate_left
        · (simp only [Act.put, List.setIfInBounds_toArray, List.set_cons_zero, List.set_cons_succ, i64_w, i32_w]; rfl)
        refine pure_ (i := 3) (N := some 60) (v := ?_) (a' := ?_) #[true, true, false, true, false, false, false, false, false, false, false, false] rfl rfl (any_of HT_.out (by kernel_rfl)) (fun _ _ _ h => h) (Or.inl ⟨by rfl, ?_⟩) ?_ ?_
        rotate_left
        · (intro w'; go_simp; with_reducible rfl)
        rotate_left
        · (simp only [Act.put, List.setIfInBounds_toArray, List.set_cons_zero, List.set_cons_succ, i64_w, i32_w]; rfl)
        refine pure_ (i := 4) (N := some 61) (v := ?_) (a' := ?_) #[true, true, false, true, true, false, false, false, false, false, false, false] rfl rfl (any_of HT_.out (by kernel_rfl)) (fun _ _ _ h => h) (Or.inl ⟨by rfl, ?_⟩) ?_ ?_
        rotate_left
        · (intro w'; go_simp; with_reducible rfl)
        rotate_left
        · (simp only [Act.put, List.setIfInBounds_toArray, List.set_cons_zero, List.set_cons_succ, i64_w, i32_w]; rfl)
        refine take_ (i := 2) (N := some 59) (v := ?_) (a' := ?_) #[true, true, true, true, true, false, false, false, false, false, false, false] rfl rfl (take_ofW HT_.out HW_.out (by kernel_rfl)) (fun _ _ _ h => h) (Or.inl ⟨by rfl, ?_⟩) hHeld ?_ ?_
        rotate_left
        · (rintro w' ⟨s0, s1, s2, s3, s4, s5, s6, s7, s8, s9, s10, s11, s12, s13, s14⟩; go_simp; with_reducible rfl)
        rotate_left
        · (simp only [Act.put, List.setIfInBounds_toArray, List.set_cons_zero, List.set_cons_succ, i64_w, i32_w]; rfl)
        refine take_ (i := 5) (N := some 62) (v := ?_) (a' := ?_) #[true, true, true, true, true, true, false, false, false, false, false, false] rfl rfl (take_ofW HT_.out HW_.out (by kernel_rfl)) (fun _ _ _ h => h) (Or.inl ⟨by rfl, ?_⟩) hHeld ?_ ?_
        rotate_left
        · (rintro w' ⟨s0, s1, s2, s3, s4, s5, s6, s7, s8, s9, s10, s11, s12, s13, s14⟩; go_simp; with_reducible rfl)
        rotate_left
        · (simp only [Act.put, List.setIfInBounds_toArray, List.set_cons_zero, List.set_cons_succ, i64_w, i32_w]; rfl)
        refine pure_ (i := 6) (N := some 63) (v := ?_) (a' := ?_) #[true, true, true, true, true, true, true, false, false, false, false, false] rfl rfl (any_of HT_.out (by kernel_rfl)) (fun _ _ _ h => h) (Or.inl ⟨by rfl, ?_⟩) ?_ ?_
        rotate_left
        · (intro w'; go_simp; with_reducible rfl)
        rotate_left
        · (simp only [Act.put, List.setIfInBounds_toArray, List.set_cons_zero, List.set_cons_succ, i64_w, i32_w]; rfl)
        refine take_ (i := 7) (N := some 64) (v := ?_) (a' := ?_) #[true, true, true, true, true, true, true, true, false, false, false, false] rfl rfl (take_ofW HT_.out HW_.out (by kernel_rfl)) (fun _ _ _ h => h) (Or.inl ⟨by rfl, ?_⟩) hHeld ?_ ?_
        rotate_left
        · (rintro w' ⟨s0, s1, s2, s3, s4, s5, s6, s7, s8, s9, s10, s11, s12, s13, s14⟩; go_simp; with_reducible rfl)
        rotate_left
        · (simp only [Act.put, List.setIfInBounds_toArray, List.set_cons_zero, List.set_cons_succ, i64_w, i32_w]; rfl)
        refine take_ (i := 8) (N := some 65) (v := ?_) (a' := ?_) #[true, true, true, true, true, true, true, true, true, false, false, false] rfl rfl (take_ofW HT_.out HW_.out (by kernel_rfl)) (fun _ _ _ h => h) (Or.inl ⟨by rfl, ?_⟩) hHeld ?_ ?_
        rotate_left
        · (rintro w' ⟨s0, s1, s2, s3, s4, s5, s6, s7, s8, s9, s10, s11, s12, s13, s14⟩; go_simp; with_reducible rfl)
        rotate_left
        · (simp only [Act.put, List.setIfInBounds_toArray, List.set_cons_zero, List.set_cons_succ, i64_w, i32_w]; rfl)
        refine one_ (i := 9) (N := some 66) #[true, true, true, true, true, true, true, true, true, true, false, false] rfl rfl (one_of HT_.out (by kernel_rfl)) (by decide) (fun K hK => ?_)
        refine goes_ Try.func135 (by kernel_rfl) rfl #[.agg #[.int .i64 (rd_T74 l1 a2_0).f0, .int .i64 (rd_T74 l1 a2_0).f1, .int .i64 (rd_T74 l1 a2_0).f2, .int .i64 (rd_T74 l1 a2_0).f3, .int .i64 (rd_T74 l1 a2_0).f4, .int .i64 (rd_T74 l1 a2_0).f5, .int .i64 (rd_T74 l1 a2_0).f6], .agg #[.int .i64 X.f0, .int .i64 X.f1, .int .i64 X.f2, .int .i64 X.f3, .int .i64 X.f4, .int .i64 X.f5, .int .i64 X.f6]] (by rfl) rfl rfl (by (try simp only [List.map_toArray, List.map_cons, List.map_nil]); first | done | rfl) ?_
        with_reducible refine (spec_AddRows.calls ((rd_T74 l1 a2_0).f0) ((rd_T74 l1 a2_0).f1) ((rd_T74 l1 a2_0).f2) ((rd_T74 l1 a2_0).f3) ((rd_T74 l1 a2_0).f4) ((rd_T74 l1 a2_0).f5) ((rd_T74 l1 a2_0).f6) (X.f0) (X.f1) (X.f2) (X.f3) (X.f4) (X.f5) (X.f6) _ _ _ _ _ _ _ _ rfl).mono ?_
        rintro e W3c ⟨rfl, hb⟩
        refine ⟨_, rfl, ?_⟩
        have S3 := Aside0.mk (S2.out.below hb)
        clear hb S2
        have hfz := (S3.out.cells a2_0 HI.out.1 HI.out.2.1).1
        have hf0 : W3c.frozen? ⟨g, a2_0.toNat * 7, none⟩ = false := hfz 0 (by decide)
        have hf1 : W3c.frozen? ⟨g, a2_0.toNat * 7 + 1, none⟩ = false := hfz 1 (by decide)
        have hf2 : W3c.frozen? ⟨g, a2_0.toNat * 7 + 2, none⟩ = false := hfz 2 (by decide)
        have hf3 : W3c.frozen? ⟨g, a2_0.toNat * 7 + 3, none⟩ = false := hfz 3 (by decide)
        have hf4 : W3c.frozen? ⟨g, a2_0.toNat * 7 + 4, none⟩ = false := hfz 4 (by decide)
        have hf5 : W3c.frozen? ⟨g, a2_0.toNat * 7 + 5, none⟩ = false := hfz 5 (by decide)
        have hf6 : W3c.frozen? ⟨g, a2_0.toNat * 7 + 6, none⟩ = false := hfz 6 (by decide)
        clear hfz
        obtain ⟨hq0, hq1, hq2, hq3, hq4, hq5, hq6⟩ := (S3.out.cells a2_0 HI.out.1 HI.out.2.1).2
        refine hK.out _ _ ⟨(blk_cell S3.out.game 0).trans rfl, (blk_cell S3.out.bx 0).trans rfl, (blk_cell S3.out.bx 1).trans rfl, (blk_cell S3.out.bx 2).trans rfl, (blk_cell S3.out.bx 3).trans rfl, (blk_cell S3.out.bx 4).trans rfl, (blk_cell S3.out.bx 5).trans rfl, (blk_cell S3.out.bx 6).trans rfl, (S3.out.cells a2_0 HI.out.1 HI.out.2.1).2⟩ (fun hHeld => ?_)
        clear hK K
        refine norm_ (a' := ?_) ?_ ?_
        rotate_left
        · (show Act.put _ (some 66) _ = _; simp only [Act.put, List.setIfInBounds_toArray, List.set_cons_zero, List.set_cons_succ, i64_w, i32_w]; rfl)
        refine pure_ (i := 10) (N := some 67) (v := ?_) (a' := ?_) #[true, true, true, true, true, true, true, true, true, true, true, false] rfl rfl (any_of HT_.out (by kernel_rfl)) (fun _ _ _ h => h) (Or.inl ⟨by rfl, ?_⟩) ?_ ?_
        rotate_left
        · (intro w'; go_simp; with_reducible rfl)
        rotate_left
        · (simp only [Act.put, List.setIfInBounds_toArray, List.set_cons_zero, List.set_cons_succ, i64_w, i32_w]; rfl)
        refine last_ (i := 11) (N := none) #[true, true, true, true, true, true, true, true, true, true, true, true] rfl rfl (one_of HT_.out (by kernel_rfl)) (by decide) (fun K hK => ?_)
        refine skip_ (w1 := ?_) (by rfl) rfl ?_ ?_
        rotate_left
        · (go_simp; rfl)
        refine hK.out _ _ ?_
        clear hK K
        refine done_ (done_of HT_.out (by kernel_rfl)) ?_
        try go_wp2
        clear hf0 hf1 hf2 hf3 hf4 hf5 hf6 hq0 hq1 hq2 hq3 hq4 hq5 hq6 hi0 hi1
        have S4 := Aside0.mk (S3.out.put a2_0 HI.out.1 HI.out.2.1 (spSum (rd_T74 l1 a2_0) X))
        clear S3 HT_ HW_ hHeld
        replace S4 : Aside0 (AdS w0 w P1_ g cap l1.length gb gx gy #[.int .i64 a2_0, .int .i64 a2_1, .int .i64 a2_2, .int .i64 a2_3, .int .i64 a2_4] X Y (spAdd l1 a2_0 X) (((((((W3c.setCell ⟨g, a2_0.toNat * 7, none⟩ (.int .i64 (wrap64 ((rd_T74 l1 a2_0).f0 + X.f0)))).setCell ⟨g, a2_0.toNat * 7 + 1, none⟩ (.int .i64 (wrap64 ((rd_T74 l1 a2_0).f1 + X.f1)))).setCell ⟨g, a2_0.toNat * 7 + 2, none⟩ (.int .i64 (wrap64 ((rd_T74 l1 a2_0).f2 + X.f2)))).setCell ⟨g, a2_0.toNat * 7 + 3, none⟩ (.int .i64 (wrap64 ((rd_T74 l1 a2_0).f3 + X.f3)))).setCell ⟨g, a2_0.toNat * 7 + 4, none⟩ (.int .i64 (wrap64 ((rd_T74 l1 a2_0).f4 + X.f4)))).setCell ⟨g, a2_0.toNat * 7 + 5, none⟩ (.int .i64 (wrap64 ((rd_T74 l1 a2_0).f5 + X.f5)))).setCell ⟨g, a2_0.toNat * 7 + 6, none⟩ (.int .i64 (wrap64 ((rd_T74 l1 a2_0).f6 + X.f6))))) := S4
        generalize (((((((W3c.setCell ⟨g, a2_0.toNat * 7, none⟩ (.int .i64 (wrap64 ((rd_T74 l1 a2_0).f0 + X.f0)))).setCell ⟨g, a2_0.toNat * 7 + 1, none⟩ (.int .i64 (wrap64 ((rd_T74 l1 a2_0).f1 + X.f1)))).setCell ⟨g, a2_0.toNat * 7 + 2, none⟩ (.int .i64 (wrap64 ((rd_T74 l1 a2_0).f2 + X.f2)))).setCell ⟨g, a2_0.toNat * 7 + 3, none⟩ (.int .i64 (wrap64 ((rd_T74 l1 a2_0).f3 + X.f3)))).setCell ⟨g, a2_0.toNat * 7 + 4, none⟩ (.int .i64 (wrap64 ((rd_T74 l1 a2_0).f4 + X.f4)))).setCell ⟨g, a2_0.toNat * 7 + 5, none⟩ (.int .i64 (wrap64 ((rd_T74 l1 a2_0).f5 + X.f5)))).setCell ⟨g, a2_0.toNat * 7 + 6, none⟩ (.int .i64 (wrap64 ((rd_T74 l1 a2_0).f6 + X.f6)))) = W3n at S4 ⊢
        obtain ⟨L1, hL1⟩ : ∃ z, z = spAdd l1 a2_0 X := ⟨_, rfl⟩
        rw [← hL1] at S4
        have HL := Aside0.mk hL1
        clear hL1
        have S5 := Aside0.mk S4.out.drew
        have hi0 : (0 ≤ a2_1) = True := eq_true HI.out.2.2.1
        have hi1 : (a2_1 < (l1.length : Int)) = True := eq_true HI.out.2.2.2
        refine start_ (n := 12) (S := fun w' => w'.cell? ⟨gb, 1, none⟩ = some (.int .i64 a2_1) ∧ w'.cell? ⟨gy, 0, none⟩ = some (.int .i64 Y.f0) ∧ w'.cell? ⟨gy, 1, none⟩ = some (.int .i64 Y.f1) ∧ w'.cell? ⟨gy, 2, none⟩ = some (.int .i64 Y.f2) ∧ w'.cell? ⟨gy, 3, none⟩ = some (.int .i64 Y.f3) ∧ w'.cell? ⟨gy, 4, none⟩ = some (.int .i64 Y.f4) ∧ w'.cell? ⟨gy, 5, none⟩ = some (.int .i64 Y.f5) ∧ w'.cell? ⟨gy, 6, none⟩ = some (.int .i64 Y.f6) ∧ w'.cell? ⟨g, a2_1.toNat * 7, none⟩ = some (.int .i64 (rd_T74 L1 a2_1).f0) ∧ w'.cell? ⟨g, a2_1.toNat * 7 + 1, none⟩ = some (.int .i64 (rd_T74 L1 a2_1).f1) ∧ w'.cell? ⟨g, a2_1.toNat * 7 + 2, none⟩ = some (.int .i64 (rd_T74 L1 a2_1).f2) ∧ w'.cell? ⟨g, a2_1.toNat * 7 + 3, none⟩ = some (.int .i64 (rd_T74 L1 a2_1).f3) ∧ w'.cell? ⟨g, a2_1.toNat * 7 + 4, none⟩ = some (.int .i64 (rd_T74 L1 a2_1).f4) ∧ w'.cell? ⟨g, a2_1.toNat * 7 + 5, none⟩ = some (.int .i64 (rd_T74 L1 a2_1).f5) ∧ w'.cell? ⟨g, a2_1.toNat * 7 + 6, none⟩ = some (.int .i64 (rd_T74 L1 a2_1).f6)) (ds := [11]) #[false, false, false, false, false, false, false, false, false, false, false, false] (by kernel_rfl) rfl rfl ⟨(blk_cell S5.out.game 1).trans rfl, (blk_cell S5.out.by_ 0).trans rfl, (blk_cell S5.out.by_ 1).trans rfl, (blk_cell S5.out.by_ 2).trans rfl, (blk_cell S5.out.by_ 3).trans rfl, (blk_cell S5.out.by_ 4).trans rfl, (blk_cell S5.out.by_ 5).trans rfl, (blk_cell S5.out.by_ 6).trans rfl, (S5.out.cells a2_1 HI.out.2.2.1 HI.out.2.2.2).2⟩ (fun hHeld => ?_); refine with_tabW spec_l06Add.tab22 spec_l06Add.bits21 (fun HT_ HW_ => ?_)
        generalize W3n.drew = W3nd at S5 hHeld ⊢
        clear S4
        refine pure_ (i := 0) (N := some 68) (v := ?_) (a' := ?_) #[true, false, false, false, false, false, false, false, false, false, false, false] rfl rfl (any_of HT_.out (by kernel_rfl)) (fun _ _ _ h => h) (Or.inl ⟨by rfl, ?_⟩) ?_ ?_
        rotate_left
        · (intro w'; go_simp; with_reducible rfl)
        rotate_left
        · (simp only [Act.put, List.setIfInBounds_toArray, List.set_cons_zero, List.set_cons_succ, i64_w, i32_w]; rfl)
        refine pure_ (i := 1) (N := some 69) (v := ?_) (a' := ?_) #[true, true, false, false, false, false, false, false, false, false, false, false] rfl rfl (any_of HT_.out (by kernel_rfl)) (fun _ _ _ h => h) (Or.inl ⟨by rfl, ?_⟩) ?_ ?_
        rotate_left
        · (intro w'; go_simp; with_reducible rfl)
        rotate_left
        · (simp only [Act.put, List.setIfInBounds_toArray, List.set_cons_zero, List.set_cons_succ, i64_w, i32_w]; rfl)
        refine pure_ (i := 3) (N := some 71) (v := ?_) (a' := ?_) #[true, true, false, true, false, false, false, false, false, false, false, false] rfl rfl (any_of HT_.out (by kernel_rfl)) (fun _ _ _ h => h) (Or.inl ⟨by rfl, ?_⟩) ?_ ?_
        rotate_left
        · (intro w'; go_simp; with_reducible rfl)
        rotate_left
        · (simp only [Act.put, List.setIfInBounds_toArray, List.set_cons_zero, List.set_cons_succ, i64_w, i32_w]; rfl)
        refine pure_ (i := 4) (N := some 72) (v := ?_) (a' := ?_) #[true, true, false, true, true, false, false, false, false, false, false, false] rfl rfl (any_of HT_.out (by kernel_rfl)) (fun _ _ _ h => h) (Or.inl ⟨by rfl, ?_⟩) ?_ ?_
        rotate_left
        · (intro w'; go_simp; with_reducible rfl)
        rotate_left
        · (simp only [Act.put, List.setIfInBounds_toArray, List.set_cons_zero, List.set_cons_succ, i64_w, i32_w]; rfl)
        refine take_ (i := 2) (N := some 70) (v := ?_) (a' := ?_) #[true, true, true, true, true, false, false, false, false, false, false, false] rfl rfl (take_ofW HT_.out HW_.out (by kernel_rfl)) (fun _ _ _ h => h) (Or.inl ⟨by rfl, ?_⟩) hHeld ?_ ?_
        rotate_left
        · (rintro w' ⟨s0, s1, s2, s3, s4, s5, s6, s7, s8, s9, s10, s11, s12, s13, s14⟩; go_simp; with_reducible rfl)
        rotate_left
        · (simp only [Act.put, List.setIfInBounds_toArray, List.set_cons_zero, List.set_cons_succ, i64_w, i32_w]; rfl)
        refine take_ (i := 5) (N := some 73) (v := ?_) (a' := ?_) #[true, true, true, true, true, true, false, false, false, false, false, false] rfl rfl (take_ofW HT_.out HW_.out (by kernel_rfl)) (fun _ _ _ h => h) (Or.inl ⟨by rfl, ?_⟩) hHeld ?_ ?_
        rotate_left
        · (rintro w' ⟨s0, s1, s2, s3, s4, s5, s6, s7, s8, s9, s10, s11, s12, s13, s14⟩; go_simp; with_reducible rfl)
        rotate_left
        · (simp only [Act.put, List.setIfInBounds_toArray, List.set_cons_zero, List.set_cons_succ, i64_w, i32_w]; rfl)
        refine pure_ (i := 6) (N := some 74) (v := ?_) (a' := ?_) #[true, true, true, true, true, true, true, false, false, false, false, false] rfl rfl (any_of HT_.out (by kernel_rfl)) (fun _ _ _ h => h) (Or.inl ⟨by rfl, ?_⟩) ?_ ?_
        rotate_left
        · (intro w'; go_simp; with_reducible rfl)
        rotate_left
        · (simp only [Act.put, List.setIfInBounds_toArray, List.set_cons_zero, List.set_cons_succ, i64_w, i32_w]; rfl)
        refine take_ (i := 7) (N := some 75) (v := ?_) (a' := ?_) #[true, true, true, true, true, true, true, true, false, false, false, false] rfl rfl (take_ofW HT_.out HW_.out (by kernel_rfl)) (fun _ _ _ h => h) (Or.inl ⟨by rfl, ?_⟩) hHeld ?_ ?_
        rotate_left
        · (rintro w' ⟨s0, s1, s2, s3, s4, s5, s6, s7, s8, s9, s10, s11, s12, s13, s14⟩; go_simp; with_reducible rfl)
        rotate_left
        · (simp only [Act.put, List.setIfInBounds_toArray, List.set_cons_zero, List.set_cons_succ, i64_w, i32_w]; rfl)
        refine take_ (i := 8) (N := some 76) (v := ?_) (a' := ?_) #[true, true, true, true, true, true, true, true, true, false, false, false] rfl rfl (take_ofW HT_.out HW_.out (by kernel_rfl)) (fun _ _ _ h => h) (Or.inl ⟨by rfl, ?_⟩) hHeld ?_ ?_
        rotate_left
        · (rintro w' ⟨s0, s1, s2, s3, s4, s5, s6, s7, s8, s9, s10, s11, s12, s13, s14⟩; go_simp; with_reducible rfl)
        rotate_left
        · (simp only [Act.put, List.setIfInBounds_toArray, List.set_cons_zero, List.set_cons_succ, i64_w, i32_w]; rfl)
        refine one_ (i := 9) (N := some 77) #[true, true, true, true, true, true, true, true, true, true, false, false] rfl rfl (one_of HT_.out (by kernel_rfl)) (by decide) (fun K hK => ?_)
        refine goes_ Try.func135 (by kernel_rfl) rfl #[.agg #[.int .i64 (rd_T74 L1 a2_1).f0, .int .i64 (rd_T74 L1 a2_1).f1, .int .i64 (rd_T74 L1 a2_1).f2, .int .i64 (rd_T74 L1 a2_1).f3, .int .i64 (rd_T74 L1 a2_1).f4, .int .i64 (rd_T74 L1 a2_1).f5, .int .i64 (rd_T74 L1 a2_1).f6], .agg #[.int .i64 Y.f0, .int .i64 Y.f1, .int .i64 Y.f2, .int .i64 Y.f3, .int .i64 Y.f4, .int .i64 Y.f5, .int .i64 Y.f6]] (by rfl) rfl rfl (by (try simp only [List.map_toArray, List.map_cons, List.map_nil]); first | done | rfl) ?_
        with_reducible refine (spec_AddRows.calls ((rd_T74 L1 a2_1).f0) ((rd_T74 L1 a2_1).f1) ((rd_T74 L1 a2_1).f2) ((rd_T74 L1 a2_1).f3) ((rd_T74 L1 a2_1).f4) ((rd_T74 L1 a2_1).f5) ((rd_T74 L1 a2_1).f6) (Y.f0) (Y.f1) (Y.f2) (Y.f3) (Y.f4) (Y.f5) (Y.f6) _ _ _ _ _ _ _ _ rfl).mono ?_
        rintro e W3nc ⟨rfl, hb⟩
        refine ⟨_, rfl, ?_⟩
        have S6 := Aside0.mk (S5.out.below hb)
        clear hb S5
        have hfz := (S6.out.cells a2_1 HI.out.2.2.1 HI.out.2.2.2).1
        have hf0 : W3nc.frozen? ⟨g, a2_1.toNat * 7, none⟩ = false := hfz 0 (by decide)
        have hf1 : W3nc.frozen? ⟨g, a2_1.toNat * 7 + 1, none⟩ = false := hfz 1 (by decide)
        have hf2 : W3nc.frozen? ⟨g, a2_1.toNat * 7 + 2, none⟩ = false := hfz 2 (by decide)
        have hf3 : W3nc.frozen? ⟨g, a2_1.toNat * 7 + 3, none⟩ = false := hfz 3 (by decide)
        have hf4 : W3nc.frozen? ⟨g, a2_1.toNat * 7 + 4, none⟩ = false := hfz 4 (by decide)
        have hf5 : W3nc.frozen? ⟨g, a2_1.toNat * 7 + 5, none⟩ = false := hfz 5 (by decide)
        have hf6 : W3nc.frozen? ⟨g, a2_1.toNat * 7 + 6, none⟩ = false := hfz 6 (by decide)
        clear hfz
        obtain ⟨hq0, hq1, hq2, hq3, hq4, hq5, hq6⟩ := (S6.out.cells a2_1 HI.out.2.2.1 HI.out.2.2.2).2
        refine hK.out _ _ ⟨(blk_cell S6.out.game 1).trans rfl, (blk_cell S6.out.by_ 0).trans rfl, (blk_cell S6.out.by_ 1).trans rfl, (blk_cell S6.out.by_ 2).trans rfl, (blk_cell S6.out.by_ 3).trans rfl, (blk_cell S6.out.by_ 4).trans rfl, (blk_cell S6.out.by_ 5).trans rfl, (blk_cell S6.out.by_ 6).trans rfl, (S6.out.cells a2_1 HI.out.2.2.1 HI.out.2.2.2).2⟩ (fun hHeld => ?_)
        clear hK K
        refine norm_ (a' := ?_) ?_ ?_
        rotate_left
        · (show Act.put _ (some 77) _ = _; simp only [Act.put, List.setIfInBounds_toArray, List.set_cons_zero, List.set_cons_succ, i64_w, i32_w]; rfl)
        refine pure_ (i := 10) (N := some 78) (v := ?_) (a' := ?_) #[true, true, true, true, true, true, true, true, true, true, true, false] rfl rfl (any_of HT_.out (by kernel_rfl)) (fun _ _ _ h => h) (Or.inl ⟨by rfl, ?_⟩) ?_ ?_
        rotate_left
        · (intro w'; go_simp; with_reducible rfl)
        rotate_left
        · (simp only [Act.put, List.setIfInBounds_toArray, List.set_cons_zero, List.set_cons_succ, i64_w, i32_w]; rfl)
        refine last_ (i := 11) (N := none) #[true, true, true, true, true, true, true, true, true, true, true, true] rfl rfl (one_of HT_.out (by kernel_rfl)) (by decide) (fun K hK => ?_)
        refine skip_ (w1 := ?_) (by rfl) rfl ?_ ?_
        rotate_left
        · (go_simp; rfl)
        refine hK.out _ _ ?_
        clear hK K
        refine done_ (done_of HT_.out (by kernel_rfl)) ?_
        try go_wp2
        clear hf0 hf1 hf2 hf3 hf4 hf5 hf6 hq0 hq1 hq2 hq3 hq4 hq5 hq6 hi0 hi1
        have S7 := Aside0.mk (S6.out.put a2_1 HI.out.2.2.1 HI.out.2.2.2 (spSum (rd_T74 L1 a2_1) Y))
        clear S6 HT_ HW_ hHeld
        replace S7 : Aside0 (AdS w0 w P1_ g cap l1.length gb gx gy #[.int .i64 a2_0, .int .i64 a2_1, .int .i64 a2_2, .int .i64 a2_3, .int .i64 a2_4] X Y (spAdd L1 a2_1 Y) (((((((W3nc.setCell ⟨g, a2_1.toNat * 7, none⟩ (.int .i64 (wrap64 ((rd_T74 L1 a2_1).f0 + Y.f0)))).setCell ⟨g, a2_1.toNat * 7 + 1, none⟩ (.int .i64 (wrap64 ((rd_T74 L1 a2_1).f1 + Y.f1)))).setCell ⟨g, a2_1.toNat * 7 + 2, none⟩ (.int .i64 (wrap64 ((rd_T74 L1 a2_1).f2 + Y.f2)))).setCell ⟨g, a2_1.toNat * 7 + 3, none⟩ (.int .i64 (wrap64 ((rd_T74 L1 a2_1).f3 + Y.f3)))).setCell ⟨g, a2_1.toNat * 7 + 4, none⟩ (.int .i64 (wrap64 ((rd_T74 L1 a2_1).f4 + Y.f4)))).setCell ⟨g, a2_1.toNat * 7 + 5, none⟩ (.int .i64 (wrap64 ((rd_T74 L1 a2_1).f5 + Y.f5)))).setCell ⟨g, a2_1.toNat * 7 + 6, none⟩ (.int .i64 (wrap64 ((rd_T74 L1 a2_1).f6 + Y.f6))))) := S7
        generalize (((((((W3nc.setCell ⟨g, a2_1.toNat * 7, none⟩ (.int .i64 (wrap64 ((rd_T74 L1 a2_1).f0 + Y.f0)))).setCell ⟨g, a2_1.toNat * 7 + 1, none⟩ (.int .i64 (wrap64 ((rd_T74 L1 a2_1).f1 + Y.f1)))).setCell ⟨g, a2_1.toNat * 7 + 2, none⟩ (.int .i64 (wrap64 ((rd_T74 L1 a2_1).f2 + Y.f2)))).setCell ⟨g, a2_1.toNat * 7 + 3, none⟩ (.int .i64 (wrap64 ((rd_T74 L1 a2_1).f3 + Y.f3)))).setCell ⟨g, a2_1.toNat * 7 + 4, none⟩ (.int .i64 (wrap64 ((rd_T74 L1 a2_1).f4 + Y.f4)))).setCell ⟨g, a2_1.toNat * 7 + 5, none⟩ (.int .i64 (wrap64 ((rd_T74 L1 a2_1).f5 + Y.f5)))).setCell ⟨g, a2_1.toNat * 7 + 6, none⟩ (.int .i64 (wrap64 ((rd_T74 L1 a2_1).f6 + Y.f6)))) = W3nn at S7 ⊢
        go_wp2
        go_end0
        refine ⟨rfl, ?_, S7.out.bel, S7.out.kept⟩
        rw [← HX.out, ← HY.out, ← HL.out]
        exact Kd.R_mono S7.out.row (fun k_ hk => .inl (by rw [hk]; exact HPG.out))
      · rw [ho]
        clear ho
        have HC := Aside0.mk c
        clear c
        go_wp2_with fail
        have hS := ((((S0.out.setX 2 (by decide) 1).setY 2 (by decide) 1).setX 6 (by decide) a0_1).setY 6 (by decide) a0_1)
        have eX : spSet (spSet (⟨1, 0, 0, 0, r1, r2, 0⟩ : S74) 2 1) 6 a0_1 = spRow a0_0 a0_1 a0_2 r1 r2 := by have c := HC.out; unfold spRow; rw [if_neg (show ¬ r1 > r2 by omega), if_pos (show r1 = r2 by omega)]; rfl
        have eY : spSet (spSet (⟨1, 0, 0, 0, r2, r1, 0⟩ : S74) 2 1) 6 a0_1 = spRow a0_0 a0_1 a0_2 r2 r1 := by have c := HC.out; unfold spRow; rw [if_neg (show ¬ r2 > r1 by omega), if_pos (show r2 = r1 by omega)]; rfl
        rw [eX, eY] at hS
        have S1 := Aside0.mk hS
        clear hS S0 eX eY HC hc0 hc1 hc2 hx1 hx2 hx3 hx6 hv1 hv2 hv3 hv6 fx1 fx2 fx3 fx6 fy1 fy2 fy3 fy6 B252 HB02
        generalize (((w2.setCell ⟨gx, 2, none⟩ (.int .i64 1)).setCell ⟨gy, 2, none⟩ (.int .i64 1)).setCell ⟨gx, 6, none⟩ (.int .i64 a0_1)).setCell ⟨gy, 6, none⟩ (.int .i64 a0_1) = W3 at S1 ⊢
        obtain ⟨X, hX⟩ : ∃ z, z = spRow a0_0 a0_1 a0_2 r1 r2 := ⟨_, rfl⟩
        obtain ⟨Y, hY⟩ : ∃ z, z = spRow a0_0 a0_1 a0_2 r2 r1 := ⟨_, rfl⟩
        rw [← hX, ← hY] at S1
        have HX := Aside0.mk hX
        have HY := Aside0.mk hY
        clear hX hY hnb' hnb2' hxy hyx
        have S2 := Aside0.mk S1.out.drew
        have hi0 : (0 ≤ a2_0) = True := eq_true HI.out.1
        have hi1 : (a2_0 < (l1.length : Int)) = True := eq_true HI.out.2.1
        refine start_ (n := 12) (S := fun w' => w'.cell? ⟨gb, 0, none⟩ = some (.int .i64 a2_0) ∧ w'.cell? ⟨gx, 0, none⟩ = some (.int .i64 X.f0) ∧ w'.cell? ⟨gx, 1, none⟩ = some (.int .i64 X.f1) ∧ w'.cell? ⟨gx, 2, none⟩ = some (.int .i64 X.f2) ∧ w'.cell? ⟨gx, 3, none⟩ = some (.int .i64 X.f3) ∧ w'.cell? ⟨gx, 4, none⟩ = some (.int .i64 X.f4) ∧ w'.cell? ⟨gx, 5, none⟩ = some (.int .i64 X.f5) ∧ w'.cell? ⟨gx, 6, none⟩ = some (.int .i64 X.f6) ∧ w'.cell? ⟨g, a2_0.toNat * 7, none⟩ = some (.int .i64 (rd_T74 l1 a2_0).f0) ∧ w'.cell? ⟨g, a2_0.toNat * 7 + 1, none⟩ = some (.int .i64 (rd_T74 l1 a2_0).f1) ∧ w'.cell? ⟨g, a2_0.toNat * 7 + 2, none⟩ = some (.int .i64 (rd_T74 l1 a2_0).f2) ∧ w'.cell? ⟨g, a2_0.toNat * 7 + 3, none⟩ = some (.int .i64 (rd_T74 l1 a2_0).f3) ∧ w'.cell? ⟨g, a2_0.toNat * 7 + 4, none⟩ = some (.int .i64 (rd_T74 l1 a2_0).f4) ∧ w'.cell? ⟨g, a2_0.toNat * 7 + 5, none⟩ = some (.int .i64 (rd_T74 l1 a2_0).f5) ∧ w'.cell? ⟨g, a2_0.toNat * 7 + 6, none⟩ = some (.int .i64 (rd_T74 l1 a2_0).f6)) (ds := [11]) #[false, false, false, false, false, false, false, false, false, false, false, false] (by kernel_rfl) rfl rfl ⟨(blk_cell S2.out.game 0).trans rfl, (blk_cell S2.out.bx 0).trans rfl, (blk_cell S2.out.bx 1).trans rfl, (blk_cell S2.out.bx 2).trans rfl, (blk_cell S2.out.bx 3).trans rfl, (blk_cell S2.out.bx 4).trans rfl, (blk_cell S2.out.bx 5).trans rfl, (blk_cell S2.out.bx 6).trans rfl, (S2.out.cells a2_0 HI.out.1 HI.out.2.1).2⟩ (fun hHeld => ?_); refine with_tabW spec_l06Add.tab21 spec_l06Add.bits21 (fun HT_ HW_ => ?_)
        generalize W3.drew = W3d at S2 hHeld ⊢
        clear S1
        refine pure_ (i := 0) (N := some 57) (v := ?_) (a' := ?_) #[true, false, false, false, false, false, false, false, false, false, false, false] rfl rfl (any_of HT_.out (by kernel_rfl)) (fun _ _ _ h => h) (Or.inl ⟨by rfl, ?_⟩) ?_ ?_
        rotate_left
        · (intro w'; go_simp; with_reducible rfl)
        rotate_left
        · (simp only [Act.put, List.setIfInBounds_toArray, List.set_cons_zero, List.set_cons_succ, i64_w, i32_w]; rfl)
        refine pure_ (i := 1) (N := some 58) (v := ?_) (a' := ?_) #[true, true, false, false, false, false, false, false, false, false, false, false] rfl rfl (any_of HT_.out (by kernel_rfl)) (fun _ _ _ h => h) (Or.inl ⟨by rfl, ?_⟩) ?_ ?_
        rotate_left
        · (intro w'; go_simp; with_reducible rfl)
        rotate_left
        · (simp only [Act.put, List.setIfInBounds_toArray, List.set_cons_zero, List.set_cons_succ, i64_w, i32_w]; rfl)
        refine pure_ (i := 3) (N := some 60) (v := ?_) (a' := ?_) #[true, true, false, true, false, false, false, false, false, false, false, false] rfl rfl (any_of HT_.out (by kernel_rfl)) (fun _ _ _ h => h) (Or.inl ⟨by rfl, ?_⟩) ?_ ?_
        rotate_left
        · (intro w'; go_simp; with_reducible rfl)
        rotate_left
        · (simp only [Act.put, List.setIfInBounds_toArray, List.set_cons_zero, List.set_cons_succ, i64_w, i32_w]; rfl)
        refine pure_ (i := 4) (N := some 61) (v := ?_) (a' := ?_) #[true, true, false, true, true, false, false, false, false, false, false, false] rfl rfl (any_of HT_.out (by kernel_rfl)) (fun _ _ _ h => h) (Or.inl ⟨by rfl, ?_⟩) ?_ ?_
        rotate_left
        · (intro w'; go_simp; with_reducible rfl)
        rotate_left
        · (simp only [Act.put, List.setIfInBounds_toArray, List.set_cons_zero, List.set_cons_succ, i64_w, i32_w]; rfl)
        refine take_ (i := 2) (N := some 59) (v := ?_) (a' := ?_) #[true, true, true, true, true, false, false, false, false, false, false, false] rfl rfl (take_ofW HT_.out HW_.out (by kernel_rfl)) (fun _ _ _ h => h) (Or.inl ⟨by rfl, ?_⟩) hHeld ?_ ?_
        rotate_left
        · (rintro w' ⟨s0, s1, s2, s3, s4, s5, s6, s7, s8, s9, s10, s11, s12, s13, s14⟩; go_simp; with_reducible rfl)
        rotate_left
        · (simp only [Act.put, List.setIfInBounds_toArray, List.set_cons_zero, List.set_cons_succ, i64_w, i32_w]; rfl)
        refine take_ (i := 5) (N := some 62) (v := ?_) (a' := ?_) #[true, true, true, true, true, true, false, false, false, false, false, false] rfl rfl (take_ofW HT_.out HW_.out (by kernel_rfl)) (fun _ _ _ h => h) (Or.inl ⟨by rfl, ?_⟩) hHeld ?_ ?_
        rotate_left
        · (rintro w' ⟨s0, s1, s2, s3, s4, s5, s6, s7, s8, s9, s10, s11, s12, s13, s14⟩; go_simp; with_reducible rfl)
        rotate_left
        · (simp only [Act.put, List.setIfInBounds_toArray, List.set_cons_zero, List.set_cons_succ, i64_w, i32_w]; rfl)
        refine pure_ (i := 6) (N := some 63) (v := ?_) (a' := ?_) #[true, true, true, true, true, true, true, false, false, false, false, false] rfl rfl (any_of HT_.out (by kernel_rfl)) (fun _ _ _ h => h) (Or.inl ⟨by rfl, ?_⟩) ?_ ?_
        rotate_left
        · (intro w'; go_simp; with_reducible rfl)
        rotate_left
        · (simp only [Act.put, List.setIfInBounds_toArray, List.set_cons_zero, List.set_cons_succ, i64_w, i32_w]; rfl)
        refine take_ (i := 7) (N := some 64) (v := ?_) (a' := ?_) #[true, true, true, true, true, true, true, true, false, false, false, false] rfl rfl (take_ofW HT_.out HW_.out (by kernel_rfl)) (fun _ _ _ h => h) (Or.inl ⟨by rfl, ?_⟩) hHeld ?_ ?_
        rotate_left
        · (rintro w' ⟨s0, s1, s2, s3, s4, s5, s6, s7, s8, s9, s10, s11, s12, s13, s14⟩; go_simp; with_reducible rfl)
        rotate_left
        · (simp only [Act.put, List.setIfInBounds_toArray, List.set_cons_zero, List.set_cons_succ, i64_w, i32_w]; rfl)
        refine take_ (i := 8) (N := some 65) (v := ?_) (a' := ?_) #[true, true, true, true, true, true, true, true, true, false, false, false] rfl rfl (take_ofW HT_.out HW_.out (by kernel_rfl)) (fun _ _ _ h => h) (Or.inl ⟨by rfl, ?_⟩) hHeld ?_ ?_
        rotate_left
        · (rintro w' ⟨s0, s1, s2, s3, s4, s5, s6, s7, s8, s9, s10, s11, s12, s13, s14⟩; go_simp; with_reducible rfl)
        rotate_left
        · (simp only [Act.put, List.setIfInBounds_toArray, List.set_cons_zero, List.set_cons_succ, i64_w, i32_w]; rfl)
        refine one_ (i := 9) (N := some 66) #[true, true, true, true, true, true, true, true, true, true, false, false] rfl rfl (one_of HT_.out (by kernel_rfl)) (by decide) (fun K hK => ?_)
        refine goes_ Try.func135 (by kernel_rfl) rfl #[.agg #[.int .i64 (rd_T74 l1 a2_0).f0, .int .i64 (rd_T74 l1 a2_0).f1, .int .i64 (rd_T74 l1 a2_0).f2, .int .i64 (rd_T74 l1 a2_0).f3, .int .i64 (rd_T74 l1 a2_0).f4, .int .i64 (rd_T74 l1 a2_0).f5, .int .i64 (rd_T74 l1 a2_0).f6], .agg #[.int .i64 X.f0, .int .i64 X.f1, .int .i64 X.f2, .int .i64 X.f3, .int .i64 X.f4, .int .i64 X.f5, .int .i64 X.f6]] (by rfl) rfl rfl (by (try simp only [List.map_toArray, List.map_cons, List.map_nil]); first | done | rfl) ?_
        with_reducible refine (spec_AddRows.calls ((rd_T74 l1 a2_0).f0) ((rd_T74 l1 a2_0).f1) ((rd_T74 l1 a2_0).f2) ((rd_T74 l1 a2_0).f3) ((rd_T74 l1 a2_0).f4) ((rd_T74 l1 a2_0).f5) ((rd_T74 l1 a2_0).f6) (X.f0) (X.f1) (X.f2) (X.f3) (X.f4) (X.f5) (X.f6) _ _ _ _ _ _ _ _ rfl).mono ?_
        rintro e W3c ⟨rfl, hb⟩
        refine ⟨_, rfl, ?_⟩
        have S3 := Aside0.mk (S2.out.below hb)
        clear hb S2
        have hfz := (S3.out.cells a2_0 HI.out.1 HI.out.2.1).1
        have hf0 : W3c.frozen? ⟨g, a2_0.toNat * 7, none⟩ = false := hfz 0 (by decide)
        have hf1 : W3c.frozen? ⟨g, a2_0.toNat * 7 + 1, none⟩ = false := hfz 1 (by decide)
        have hf2 : W3c.frozen? ⟨g, a2_0.toNat * 7 + 2, none⟩ = false := hfz 2 (by decide)
        have hf3 : W3c.frozen? ⟨g, a2_0.toNat * 7 + 3, none⟩ = false := hfz 3 (by decide)
        have hf4 : W3c.frozen? ⟨g, a2_0.toNat * 7 + 4, none⟩ = false := hfz 4 (by decide)
        have hf5 : W3c.frozen? ⟨g, a2_0.toNat * 7 + 5, none⟩ = false := hfz 5 (by decide)
        have hf6 : W3c.frozen? ⟨g, a2_0.toNat * 7 + 6, none⟩ = false := hfz 6 (by decide)
        clear hfz
        obtain ⟨hq0, hq1, hq2, hq3, hq4, hq5, hq6⟩ := (S3.out.cells a2_0 HI.out.1 HI.out.2.1).2
        refine hK.out _ _ ⟨(blk_cell S3.out.game 0).trans rfl, (blk_cell S3.out.bx 0).trans rfl, (blk_cell S3.out.bx 1).trans rfl, (blk_cell S3.out.bx 2).trans rfl, (blk_cell S3.out.bx 3).trans rfl, (blk_cell S3.out.bx 4).trans rfl, (blk_cell S3.out.bx 5).trans rfl, (blk_cell S3.out.bx 6).trans rfl, (S3.out.cells a2_0 HI.out.1 HI.out.2.1).2⟩ (fun hHeld => ?_)
        clear hK K
        refine norm_ (a' := ?_) ?_ ?_
        rotate_left
        · (show Act.put _ (some 66) _ = _; simp only [Act.put, List.setIfInBounds_toArray, List.set_cons_zero, List.set_cons_succ, i64_w, i32_w]; rfl)
        refine pure_ (i := 10) (N := some 67) (v := ?_) (a' := ?_) #[true, true, true, true, true, true, true, true, true, true, true, false] rfl rfl (any_of HT_.out (by kernel_rfl)) (fun _ _ _ h => h) (Or.inl ⟨by rfl, ?_⟩) ?_ ?_
        rotate_left
        · (intro w'; go_simp; with_reducible rfl)
        rotate_left
        · (simp only [Act.put, List.setIfInBounds_toArray, List.set_cons_zero, List.set_cons_succ, i64_w, i32_w]; rfl)
        refine last_ (i := 11) (N := none) #[true, true, true, true, true, true, true, true, true, true, true, true] rfl rfl (one_of HT_.out (by kernel_rfl)) (by decide) (fun K hK => ?_)
        refine skip_ (w1 := ?_) (by rfl) rfl ?_ ?_
        rotate_left
        · (go_simp; rfl)
        refine hK.out _ _ ?_
        clear hK K
        refine done_ (done_of HT_.out (by kernel_rfl)) ?_
        try go_wp2
        clear hf0 hf1 hf2 hf3 hf4 hf5 hf6 hq0 hq1 hq2 hq3 hq4 hq5 hq6 hi0 hi1
        have S4 := Aside0.mk (S3.out.put a2_0 HI.out.1 HI.out.2.1 (spSum (rd_T74 l1 a2_0) X))
        clear S3 HT_ HW_ hHeld
        replace S4 : Aside0 (AdS w0 w P1_ g cap l1.length gb gx gy #[.int .i64 a2_0, .int .i64 a2_1, .int .i64 a2_2, .int .i64 a2_3, .int .i64 a2_4] X Y (spAdd l1 a2_0 X) (((((((W3c.setCell ⟨g, a2_0.toNat * 7, none⟩ (.int .i64 (wrap64 ((rd_T74 l1 a2_0).f0 + X.f0)))).setCell ⟨g, a2_0.toNat * 7 + 1, none⟩ (.int .i64 (wrap64 ((rd_T74 l1 a2_0).f1 + X.f1)))).setCell ⟨g, a2_0.toNat * 7 + 2, none⟩ (.int .i64 (wrap64 ((rd_T74 l1 a2_0).f2 + X.f2)))).setCell ⟨g, a2_0.toNat * 7 + 3, none⟩ (.int .i64 (wrap64 ((rd_T74 l1 a2_0).f3 + X.f3)))).setCell ⟨g, a2_0.toNat * 7 + 4, none⟩ (.int .i64 (wrap64 ((rd_T74 l1 a2_0).f4 + X.f4)))).setCell ⟨g, a2_0.toNat * 7 + 5, none⟩ (.int .i64 (wrap64 ((rd_T74 l1 a2_0).f5 + X.f5)))).setCell ⟨g, a2_0.toNat * 7 + 6, none⟩ (.int .i64 (wrap64 ((rd_T74 l1 a2_0).f6 + X.f6))))) := S4
        generalize (((((((W3c.setCell ⟨g, a2_0.toNat * 7, none⟩ (.int .i64 (wrap64 ((rd_T74 l1 a2_0).f0 + X.f0)))).setCell ⟨g, a2_0.toNat * 7 + 1, none⟩ (.int .i64 (wrap64 ((rd_T74 l1 a2_0).f1 + X.f1)))).setCell ⟨g, a2_0.toNat * 7 + 2, none⟩ (.int .i64 (wrap64 ((rd_T74 l1 a2_0).f2 + X.f2)))).setCell ⟨g, a2_0.toNat * 7 + 3, none⟩ (.int .i64 (wrap64 ((rd_T74 l1 a2_0).f3 + X.f3)))).setCell ⟨g, a2_0.toNat * 7 + 4, none⟩ (.int .i64 (wrap64 ((rd_T74 l1 a2_0).f4 + X.f4)))).setCell ⟨g, a2_0.toNat * 7 + 5, none⟩ (.int .i64 (wrap64 ((rd_T74 l1 a2_0).f5 + X.f5)))).setCell ⟨g, a2_0.toNat * 7 + 6, none⟩ (.int .i64 (wrap64 ((rd_T74 l1 a2_0).f6 + X.f6)))) = W3n at S4 ⊢
        obtain ⟨L1, hL1⟩ : ∃ z, z = spAdd l1 a2_0 X := ⟨_, rfl⟩
        rw [← hL1] at S4
        have HL := Aside0.mk hL1
        clear hL1
        have S5 := Aside0.mk S4.out.drew
        have hi0 : (0 ≤ a2_1) = True := eq_true HI.out.2.2.1
        have hi1 : (a2_1 < (l1.length : Int)) = True := eq_true HI.out.2.2.2
        refine start_ (n := 12) (S := fun w' => w'.cell? ⟨gb, 1, none⟩ = some (.int .i64 a2_1) ∧ w'.cell? ⟨gy, 0, none⟩ = some (.int .i64 Y.f0) ∧ w'.cell? ⟨gy, 1, none⟩ = some (.int .i64 Y.f1) ∧ w'.cell? ⟨gy, 2, none⟩ = some (.int .i64 Y.f2) ∧ w'.cell? ⟨gy, 3, none⟩ = some (.int .i64 Y.f3) ∧ w'.cell? ⟨gy, 4, none⟩ = some (.int .i64 Y.f4) ∧ w'.cell? ⟨gy, 5, none⟩ = some (.int .i64 Y.f5) ∧ w'.cell? ⟨gy, 6, none⟩ = some (.int .i64 Y.f6) ∧ w'.cell? ⟨g, a2_1.toNat * 7, none⟩ = some (.int .i64 (rd_T74 L1 a2_1).f0) ∧ w'.cell? ⟨g, a2_1.toNat * 7 + 1, none⟩ = some (.int .i64 (rd_T74 L1 a2_1).f1) ∧ w'.cell? ⟨g, a2_1.toNat * 7 + 2, none⟩ = some (.int .i64 (rd_T74 L1 a2_1).f2) ∧ w'.cell? ⟨g, a2_1.toNat * 7 + 3, none⟩ = some (.int .i64 (rd_T74 L1 a2_1).f3) ∧ w'.cell? ⟨g, a2_1.toNat * 7 + 4, none⟩ = some (.int .i64 (rd_T74 L1 a2_1).f4) ∧ w'.cell? ⟨g, a2_1.toNat * 7 + 5, none⟩ = some (.int .i64 (rd_T74 L1 a2_1).f5) ∧ w'.cell? ⟨g, a2_1.toNat * 7 + 6, none⟩ = some (.int .i64 (rd_T74 L1 a2_1).f6)) (ds := [11]) #[false, false, false, false, false, false, false, false, false, false, false, false] (by kernel_rfl) rfl rfl ⟨(blk_cell S5.out.game 1).trans rfl, (blk_cell S5.out.by_ 0).trans rfl, (blk_cell S5.out.by_ 1).trans rfl, (blk_cell S5.out.by_ 2).trans rfl, (blk_cell S5.out.by_ 3).trans rfl, (blk_cell S5.out.by_ 4).trans rfl, (blk_cell S5.out.by_ 5).trans rfl, (blk_cell S5.out.by_ 6).trans rfl, (S5.out.cells a2_1 HI.out.2.2.1 HI.out.2.2.2).2⟩ (fun hHeld => ?_); refine with_tabW spec_l06Add.tab22 spec_l06Add.bits21 (fun HT_ HW_ => ?_)
        generalize W3n.drew = W3nd at S5 hHeld ⊢
        clear S4
        refine pure_ (i := 0) (N := some 68) (v := ?_) (a' := ?_) #[true, false, false, false, false, false, false, false, false, false, false, false] rfl rfl (any_of HT_.out (by kernel_rfl)) (fun _ _ _ h => h) (Or.inl ⟨by rfl, ?_⟩) ?_ ?_
        rotate_left
        · (intro w'; go_simp; with_reducible rfl)
        rotate_left
        · (simp only [Act.put, List.setIfInBounds_toArray, List.set_cons_zero, List.set_cons_succ, i64_w, i32_w]; rfl)
        refine pure_ (i := 1) (N := some 69) (v := ?_) (a' := ?_) #[true, true, false, false, false, false, false, false, false, false, false, false] rfl rfl (any_of HT_.out (by kernel_rfl)) (fun _ _ _ h => h) (Or.inl ⟨by rfl, ?_⟩) ?_ ?_
        rotate_left
        · (intro w'; go_simp; with_reducible rfl)
        rotate_left
        · (simp only [Act.put, List.setIfInBounds_toArray, List.set_cons_zero, List.set_cons_succ, i64_w, i32_w]; rfl)
        refine pure_ (i := 3) (N := some 71) (v := ?_) (a' := ?_) #[true, true, false, true, false, false, false, false, false, false, false, false] rfl rfl (any_of HT_.out (by kernel_rfl)) (fun _ _ _ h => h) (Or.inl ⟨by rfl, ?_⟩) ?_ ?_
        rotate_left
        · (intro w'; go_simp; with_reducible rfl)
        rotate_left
        · (simp only [Act.put, List.setIfInBounds_toArray, List.set_cons_zero, List.set_cons_succ, i64_w, i32_w]; rfl)
        refine pure_ (i := 4) (N := some 72) (v := ?_) (a' := ?_) #[true, true, false, true, true, false, false, false, false, false, false, false] rfl rfl (any_of HT_.out (by kernel_rfl)) (fun _ _ _ h => h) (Or.inl ⟨by rfl, ?_⟩) ?_ ?_
        rotate_left
        · (intro w'; go_simp; with_reducible rfl)
        rotate_left
        · (simp only [Act.put, List.setIfInBounds_toArray, List.set_cons_zero, List.set_cons_succ, i64_w, i32_w]; rfl)
        refine take_ (i := 2) (N := some 70) (v := ?_) (a' := ?_) #[true, true, true, true, true, false, false, false, false, false, false, false] rfl rfl (take_ofW HT_.out HW_.out (by kernel_rfl)) (fun _ _ _ h => h) (Or.inl ⟨by rfl, ?_⟩) hHeld ?_ ?_
        rotate_left
        · (rintro w' ⟨s0, s1, s2, s3, s4, s5, s6, s7, s8, s9, s10, s11, s12, s13, s14⟩; go_simp; with_reducible rfl)
        rotate_left
        · (simp only [Act.put, List.setIfInBounds_toArray, List.set_cons_zero, List.set_cons_succ, i64_w, i32_w]; rfl)
        refine take_ (i := 5) (N := some 73) (v := ?_) (a' := ?_) #[true, true, true, true, true, true, false, false, false, false, false, false] rfl rfl (take_ofW HT_.out HW_.out (by kernel_rfl)) (fun _ _ _ h => h) (Or.inl ⟨by rfl, ?_⟩) hHeld ?_ ?_
        rotate_left
        · (rintro w' ⟨s0, s1, s2, s3, s4, s5, s6, s7, s8, s9, s10, s11, s12, s13, s14⟩; go_simp; with_reducible rfl)
        rotate_left
        · (simp only [Act.put, List.setIfInBounds_toArray, List.set_cons_zero, List.set_cons_succ, i64_w, i32_w]; rfl)
        refine pure_ (i := 6) (N := some 74) (v := ?_) (a' := ?_) #[true, true, true, true, true, true, true, false, false, false, false, false] rfl rfl (any_of HT_.out (by kernel_rfl)) (fun _ _ _ h => h) (Or.inl ⟨by rfl, ?_⟩) ?_ ?_
        rotate_left
        · (intro w'; go_simp; with_reducible rfl)
        rotate_left
        · (simp only [Act.put, List.setIfInBounds_toArray, List.set_cons_zero, List.set_cons_succ, i64_w, i32_w]; rfl)
        refine take_ (i := 7) (N := some 75) (v := ?_) (a' := ?_) #[true, true, true, true, true, true, true, true, false, false, false, false] rfl rfl (take_ofW HT_.out HW_.out (by kernel_rfl)) (fun _ _ _ h => h) (Or.inl ⟨by rfl, ?_⟩) hHeld ?_ ?_
        rotate_left
        · (rintro w' ⟨s0, s1, s2, s3, s4, s5, s6, s7, s8, s9, s10, s11, s12, s13, s14⟩; go_simp; with_reducible rfl)
        rotate_left
        · (simp only [Act.put, List.setIfInBounds_toArray, List.set_cons_zero, List.set_cons_succ, i64_w, i32_w]; rfl)
        refine take_ (i := 8) (N := some 76) (v := ?_) (a' := ?_) #[true, true, true, true, true, true, true, true, true, false, false, false] rfl rfl (take_ofW HT_.out HW_.out (by kernel_rfl)) (fun _ _ _ h => h) (Or.inl ⟨by rfl, ?_⟩) hHeld ?_ ?_
        rotate_left
        · (rintro w' ⟨s0, s1, s2, s3, s4, s5, s6, s7, s8, s9, s10, s11, s12, s13, s14⟩; go_simp; with_reducible rfl)
        rotate_left
        · (simp only [Act.put, List.setIfInBounds_toArray, List.set_cons_zero, List.set_cons_succ, i64_w, i32_w]; rfl)
        refine one_ (i := 9) (N := some 77) #[true, true, true, true, true, true, true, true, true, true, false, false] rfl rfl (one_of HT_.out (by kernel_rfl)) (by decide) (fun K hK => ?_)
        refine goes_ Try.func135 (by kernel_rfl) rfl #[.agg #[.int .i64 (rd_T74 L1 a2_1).f0, .int .i64 (rd_T74 L1 a2_1).f1, .int .i64 (rd_T74 L1 a2_1).f2, .int .i64 (rd_T74 L1 a2_1).f3, .int .i64 (rd_T74 L1 a2_1).f4, .int .i64 (rd_T74 L1 a2_1).f5, .int .i64 (rd_T74 L1 a2_1).f6], .agg #[.int .i64 Y.f0, .int .i64 Y.f1, .int .i64 Y.f2, .int .i64 Y.f3, .int .i64 Y.f4, .int .i64 Y.f5, .int .i64 Y.f6]] (by rfl) rfl rfl (by (try simp only [List.map_toArray, List.map_cons, List.map_nil]); first | done | rfl) ?_
        with_reducible refine (spec_AddRows.calls ((rd_T74 L1 a2_1).f0) ((rd_T74 L1 a2_1).f1) ((rd_T74 L1 a2_1).f2) ((rd_T74 L1 a2_1).f3) ((rd_T74 L1 a2_1).f4) ((rd_T74 L1 a2_1).f5) ((rd_T74 L1 a2_1).f6) (Y.f0) (Y.f1) (Y.f2) (Y.f3) (Y.f4) (Y.f5) (Y.f6) _ _ _ _ _ _ _ _ rfl).mono ?_
        rintro e W3nc ⟨rfl, hb⟩
        refine ⟨_, rfl, ?_⟩
        have S6 := Aside0.mk (S5.out.below hb)
        clear hb S5
        have hfz := (S6.out.cells a2_1 HI.out.2.2.1 HI.out.2.2.2).1
        have hf0 : W3nc.frozen? ⟨g, a2_1.toNat * 7, none⟩ = false := hfz 0 (by decide)
        have hf1 : W3nc.frozen? ⟨g, a2_1.toNat * 7 + 1, none⟩ = false := hfz 1 (by decide)
        have hf2 : W3nc.frozen? ⟨g, a2_1.toNat * 7 + 2, none⟩ = false := hfz 2 (by decide)
        have hf3 : W3nc.frozen? ⟨g, a2_1.toNat * 7 + 3, none⟩ = false := hfz 3 (by decide)
        have hf4 : W3nc.frozen? ⟨g, a2_1.toNat * 7 + 4, none⟩ = false := hfz 4 (by decide)
        have hf5 : W3nc.frozen? ⟨g, a2_1.toNat * 7 + 5, none⟩ = false := hfz 5 (by decide)
        have hf6 : W3nc.frozen? ⟨g, a2_1.toNat * 7 + 6, none⟩ = false := hfz 6 (by decide)
        clear hfz
        obtain ⟨hq0, hq1, hq2, hq3, hq4, hq5, hq6⟩ := (S6.out.cells a2_1 HI.out.2.2.1 HI.out.2.2.2).2
        refine hK.out _ _ ⟨(blk_cell S6.out.game 1).trans rfl, (blk_cell S6.out.by_ 0).trans rfl, (blk_cell S6.out.by_ 1).trans rfl, (blk_cell S6.out.by_ 2).trans rfl, (blk_cell S6.out.by_ 3).trans rfl, (blk_cell S6.out.by_ 4).trans rfl, (blk_cell S6.out.by_ 5).trans rfl, (blk_cell S6.out.by_ 6).trans rfl, (S6.out.cells a2_1 HI.out.2.2.1 HI.out.2.2.2).2⟩ (fun hHeld => ?_)
        clear hK K
        refine norm_ (a' := ?_) ?_ ?_
        rotate_left
        · (show Act.put _ (some 77) _ = _; simp only [Act.put, List.setIfInBounds_toArray, List.set_cons_zero, List.set_cons_succ, i64_w, i32_w]; rfl)
        refine pure_ (i := 10) (N := some 78) (v := ?_) (a' := ?_) #[true, true, true, true, true, true, true, true, true, true, true, false] rfl rfl (any_of HT_.out (by kernel_rfl)) (fun _ _ _ h => h) (Or.inl ⟨by rfl, ?_⟩) ?_ ?_
        rotate_left
        · (intro w'; go_simp; with_reducible rfl)
        rotate_left
        · (simp only [Act.put, List.setIfInBounds_toArray, List.set_cons_zero, List.set_cons_succ, i64_w, i32_w]; rfl)
        refine last_ (i := 11) (N := none) #[true, true, true, true, true, true, true, true, true, true, true, true] rfl rfl (one_of HT_.out (by kernel_rfl)) (by decide) (fun K hK => ?_)
        refine skip_ (w1 := ?_) (by rfl) rfl ?_ ?_
        rotate_left
        · (go_simp; rfl)
        refine hK.out _ _ ?_
        clear hK K
        refine done_ (done_of HT_.out (by kernel_rfl)) ?_
        try go_wp2
        clear hf0 hf1 hf2 hf3 hf4 hf5 hf6 hq0 hq1 hq2 hq3 hq4 hq5 hq6 hi0 hi1
        have S7 := Aside0.mk (S6.out.put a2_1 HI.out.2.2.1 HI.out.2.2.2 (spSum (rd_T74 L1 a2_1) Y))
        clear S6 HT_ HW_ hHeld
        replace S7 : Aside0 (AdS w0 w P1_ g cap l1.length gb gx gy #[.int .i64 a2_0, .int .i64 a2_1, .int .i64 a2_2, .int .i64 a2_3, .int .i64 a2_4] X Y (spAdd L1 a2_1 Y) (((((((W3nc.setCell ⟨g, a2_1.toNat * 7, none⟩ (.int .i64 (wrap64 ((rd_T74 L1 a2_1).f0 + Y.f0)))).setCell ⟨g, a2_1.toNat * 7 + 1, none⟩ (.int .i64 (wrap64 ((rd_T74 L1 a2_1).f1 + Y.f1)))).setCell ⟨g, a2_1.toNat * 7 + 2, none⟩ (.int .i64 (wrap64 ((rd_T74 L1 a2_1).f2 + Y.f2)))).setCell ⟨g, a2_1.toNat * 7 + 3, none⟩ (.int .i64 (wrap64 ((rd_T74 L1 a2_1).f3 + Y.f3)))).setCell ⟨g, a2_1.toNat * 7 + 4, none⟩ (.int .i64 (wrap64 ((rd_T74 L1 a2_1).f4 + Y.f4)))).setCell ⟨g, a2_1.toNat * 7 + 5, none⟩ (.int .i64 (wrap64 ((rd_T74 L1 a2_1).f5 + Y.f5)))).setCell ⟨g, a2_1.toNat * 7 + 6, none⟩ (.int .i64 (wrap64 ((rd_T74 L1 a2_1).f6 + Y.f6))))) := S7
        generalize (((((((W3nc.setCell ⟨g, a2_1.toNat * 7, none⟩ (.int .i64 (wrap64 ((rd_T74 L1 a2_1).f0 + Y.f0)))).setCell ⟨g, a2_1.toNat * 7 + 1, none⟩ (.int .i64 (wrap64 ((rd_T74 L1 a2_1).f1 + Y.f1)))).setCell ⟨g, a2_1.toNat * 7 + 2, none⟩ (.int .i64 (wrap64 ((rd_T74 L1 a2_1).f2 + Y.f2)))).setCell ⟨g, a2_1.toNat * 7 + 3, none⟩ (.int .i64 (wrap64 ((rd_T74 L1 a2_1).f3 + Y.f3)))).setCell ⟨g, a2_1.toNat * 7 + 4, none⟩ (.int .i64 (wrap64 ((rd_T74 L1 a2_1).f4 + Y.f4)))).setCell ⟨g, a2_1.toNat * 7 + 5, none⟩ (.int .i64 (wrap64 ((rd_T74 L1 a2_1).f5 + Y.f5)))).setCell ⟨g, a2_1.toNat * 7 + 6, none⟩ (.int .i64 (wrap64 ((rd_T74 L1 a2_1).f6 + Y.f6)))) = W3nn at S7 ⊢
        go_wp2
        go_end0
        refine ⟨rfl, ?_, S7.out.bel, S7.out.kept⟩
        rw [← HX.out, ← HY.out, ← HL.out]
        exact Kd.R_mono S7.out.row (fun k_ hk => .inl (by rw [hk]; exact HPG.out))
      · rw [ho]
        clear ho
        have HC := Aside0.mk c
        clear c
        go_wp2_with fail
        have hS := ((((S0.out.setX 3 (by decide) 1).setY 1 (by decide) 1).setX 6 (by decide) a0_2).setY 6 (by decide) a0_0)
        have eX : spSet (spSet (⟨1, 0, 0, 0, r1, r2, 0⟩ : S74) 3 1) 6 a0_2 = spRow a0_0 a0_1 a0_2 r1 r2 := by have c := HC.out; unfold spRow; rw [if_neg (show ¬ r1 > r2 by omega), if_neg (show ¬ r1 = r2 by omega)]; rfl
        have eY : spSet (spSet (⟨1, 0, 0, 0, r2, r1, 0⟩ : S74) 1 1) 6 a0_0 = spRow a0_0 a0_1 a0_2 r2 r1 := by have c := HC.out; unfold spRow; rw [if_pos (show r2 > r1 by omega)]; rfl
        rw [eX, eY] at hS
        have S1 := Aside0.mk hS
        clear hS S0 eX eY HC hc0 hc1 hc2 hx1 hx2 hx3 hx6 hv1 hv2 hv3 hv6 fx1 fx2 fx3 fx6 fy1 fy2 fy3 fy6 B252 HB02
        generalize (((w2.setCell ⟨gx, 3, none⟩ (.int .i64 1)).setCell ⟨gy, 1, none⟩ (.int .i64 1)).setCell ⟨gx, 6, none⟩ (.int .i64 a0_2)).setCell ⟨gy, 6, none⟩ (.int .i64 a0_0) = W3 at S1 ⊢
        obtain ⟨X, hX⟩ : ∃ z, z = spRow a0_0 a0_1 a0_2 r1 r2 := ⟨_, rfl⟩
        obtain ⟨Y, hY⟩ : ∃ z, z = spRow a0_0 a0_1 a0_2 r2 r1 := ⟨_, rfl⟩
        rw [← hX, ← hY] at S1
        have HX := Aside0.mk hX
        have HY := Aside0.mk hY
        clear hX hY hnb' hnb2' hxy hyx
        have S2 := Aside0.mk S1.out.drew
        have hi0 : (0 ≤ a2_0) = True := eq_true HI.out.1
        have hi1 : (a2_0 < (l1.length : Int)) = True := eq_true HI.out.2.1
        refine start_ (n := 12) (S := fun w' => w'.cell? ⟨gb, 0, none⟩ = some (.int .i64 a2_0) ∧ w'.cell? ⟨gx, 0, none⟩ = some (.int .i64 X.f0) ∧ w'.cell? ⟨gx, 1, none⟩ = some (.int .i64 X.f1) ∧ w'.cell? ⟨gx, 2, none⟩ = some (.int .i64 X.f2) ∧ w'.cell? ⟨gx, 3, none⟩ = some (.int .i64 X.f3) ∧ w'.cell? ⟨gx, 4, none⟩ = some (.int .i64 X.f4) ∧ w'.cell? ⟨gx, 5, none⟩ = some (.int .i64 X.f5) ∧ w'.cell? ⟨gx, 6, none⟩ = some (.int .i64 X.f6) ∧ w'.cell? ⟨g, a2_0.toNat * 7, none⟩ = some (.int .i64 (rd_T74 l1 a2_0).f0) ∧ w'.cell? ⟨g, a2_0.toNat * 7 + 1, none⟩ = some (.int .i64 (rd_T74 l1 a2_0).f1) ∧ w'.cell? ⟨g, a2_0.toNat * 7 + 2, none⟩ = some (.int .i64 (rd_T74 l1 a2_0).f2) ∧ w'.cell? ⟨g, a2_0.toNat * 7 + 3, none⟩ = some (.int .i64 (rd_T74 l1 a2_0).f3) ∧ w'.cell? ⟨g, a2_0.toNat * 7 + 4, none⟩ = some (.int .i64 (rd_T74 l1 a2_0).f4) ∧ w'.cell? ⟨g, a2_0.toNat * 7 + 5, none⟩ = some (.int .i64 (rd_T74 l1 a2_0).f5) ∧ w'.cell? ⟨g, a2_0.toNat * 7 + 6, none⟩ = some (.int .i64 (rd_T74 l1 a2_0).f6)) (ds := [11]) #[false, false, false, false, false, false, false, false, false, false, false, false] (by kernel_rfl) rfl rfl ⟨(blk_cell S2.out.game 0).trans rfl, (blk_cell S2.out.bx 0).trans rfl, (blk_cell S2.out.bx 1).trans rfl, (blk_cell S2.out.bx 2).trans rfl, (blk_cell S2.out.bx 3).trans rfl, (blk_cell S2.out.bx 4).trans rfl, (blk_cell S2.out.bx 5).trans rfl, (blk_cell S2.out.bx 6).trans rfl, (S2.out.cells a2_0 HI.out.1 HI.out.2.1).2⟩ (fun hHeld => ?_); refine with_tabW spec_l06Add.tab21 spec_l06Add.bits21 (fun HT_ HW_ => ?_)
        generalize W3.drew = W3d at S2 hHeld ⊢
        clear S1
        refine pure_ (i := 0) (N := some 57) (v := ?_) (a' := ?_) #[true, false, false, false, false, false, false, false, false, false, false, false] rfl rfl (any_of HT_.out (by kernel_rfl)) (fun _ _ _ h => h) (Or.inl ⟨by rfl, ?_⟩) ?_ ?_
        rotate_left
        · (intro w'; go_simp; with_reducible rfl)
        rotate_left
        · (simp only [Act.put, List.setIfInBounds_toArray, List.set_cons_zero, List.set_cons_succ, i64_w, i32_w]; rfl)
        refine pure_ (i := 1) (N := some 58) (v := ?_) (a' := ?_) #[true, true, false, false, false, false, false, false, false, false, false, false] rfl rfl (any_of HT_.out (by kernel_rfl)) (fun _ _ _ h => h) (Or.inl ⟨by rfl, ?_⟩) ?_ ?_
        rotate_left
        · (intro w'; go_simp; with_reducible rfl)
        rotate_left
        · (simp only [Act.put, List.setIfInBounds_toArray, List.set_cons_zero, List.set_cons_succ, i64_w, i32_w]; rfl)
        refine pure_ (i := 3) (N := some 60) (v := ?_) (a' := ?_) #[true, true, false, true, false, false, false, false, false, false, false, false] rfl rfl (any_of HT_.out (by kernel_rfl)) (fun _ _ _ h => h) (Or.inl ⟨by rfl, ?_⟩) ?_ ?_
        rotate_left
        · (intro w'; go_simp; with_reducible rfl)
        rotate_left
        · (simp only [Act.put, List.setIfInBounds_toArray, List.set_cons_zero, List.set_cons_succ, i64_w, i32_w]; rfl)
        refine pure_ (i := 4) (N := some 61) (v := ?_) (a' := ?_) #[true, true, false, true, true, false, false, false, false, false, false, false] rfl rfl (any_of HT_.out (by kernel_rfl)) (fun _ _ _ h => h) (Or.inl ⟨by rfl, ?_⟩) ?_ ?_
        rotate_left
        · (intro w'; go_simp; with_reducible rfl)
        rotate_left
        · (simp only [Act.put, List.setIfInBounds_toArray, List.set_cons_zero, List.set_cons_succ, i64_w, i32_w]; rfl)
        refine take_ (i := 2) (N := some 59) (v := ?_) (a' := ?_) #[true, true, true, true, true, false, false, false, false, false, false, false] rfl rfl (take_ofW HT_.out HW_.out (by kernel_rfl)) (fun _ _ _ h => h) (Or.inl ⟨by rfl, ?_⟩) hHeld ?_ ?_
        rotate_left
        · (rintro w' ⟨s0, s1, s2, s3, s4, s5, s6, s7, s8, s9, s10, s11, s12, s13, s14⟩; go_simp; with_reducible rfl)
        rotate_left
        · (simp only [Act.put, List.setIfInBounds_toArray, List.set_cons_zero, List.set_cons_succ, i64_w, i32_w]; rfl)
        refine take_ (i := 5) (N := some 62) (v := ?_) (a' := ?_) #[true, true, true, true, true, true, false, false, false, false, false, false] rfl rfl (take_ofW HT_.out HW_.out (by kernel_rfl)) (fun _ _ _ h => h) (Or.inl ⟨by rfl, ?_⟩) hHeld ?_ ?_
        rotate_left
        · (rintro w' ⟨s0, s1, s2, s3, s4, s5, s6, s7, s8, s9, s10, s11, s12, s13, s14⟩; go_simp; with_reducible rfl)
        rotate_left
        · (simp only [Act.put, List.setIfInBounds_toArray, List.set_cons_zero, List.set_cons_succ, i64_w, i32_w]; rfl)
        refine pure_ (i := 6) (N := some 63) (v := ?_) (a' := ?_) #[true, true, true, true, true, true, true, false, false, false, false, false] rfl rfl (any_of HT_.out (by kernel_rfl)) (fun _ _ _ h => h) (Or.inl ⟨by rfl, ?_⟩) ?_ ?_
        rotate_left
        · (intro w'; go_simp; with_reducible rfl)
        rotate_left
        · (simp only [Act.put, List.setIfInBounds_toArray, List.set_cons_zero, List.set_cons_succ, i64_w, i32_w]; rfl)
        refine take_ (i := 7) (N := some 64) (v := ?_) (a' := ?_) #[true, true, true, true, true, true, true, true, false, false, false, false] rfl rfl (take_ofW HT_.out HW_.out (by kernel_rfl)) (fun _ _ _ h => h) (Or.inl ⟨by rfl, ?_⟩) hHeld ?_ ?_
        rotate_left
        · (rintro w' ⟨s0, s1, s2, s3, s4, s5, s6, s7, s8, s9, s10, s11, s12, s13, s14⟩; go_simp; with_reducible rfl)
        rotate_left
        · (simp only [Act.put, List.setIfInBounds_toArray, List.set_cons_zero, List.set_cons_succ, i64_w, i32_w]; rfl)
        refine take_ (i := 8) (N := some 65) (v := ?_) (a' := ?_) #[true, true, true, true, true, true, true, true, true, false, false, false] rfl rfl (take_ofW HT_.out HW_.out (by kernel_rfl)) (fun _ _ _ h => h) (Or.inl ⟨by rfl, ?_⟩) hHeld ?_ ?_
        rotate_left
        · (rintro w' ⟨s0, s1, s2, s3, s4, s5, s6, s7, s8, s9, s10, s11, s12, s13, s14⟩; go_simp; with_reducible rfl)
        rotate_left
        · (simp only [Act.put, List.setIfInBounds_toArray, List.set_cons_zero, List.set_cons_succ, i64_w, i32_w]; rfl)
        refine one_ (i := 9) (N := some 66) #[true, true, true, true, true, true, true, true, true, true, false, false] rfl rfl (one_of HT_.out (by kernel_rfl)) (by decide) (fun K hK => ?_)
        refine goes_ Try.func135 (by kernel_rfl) rfl #[.agg #[.int .i64 (rd_T74 l1 a2_0).f0, .int .i64 (rd_T74 l1 a2_0).f1, .int .i64 (rd_T74 l1 a2_0).f2, .int .i64 (rd_T74 l1 a2_0).f3, .int .i64 (rd_T74 l1 a2_0).f4, .int .i64 (rd_T74 l1 a2_0).f5, .int .i64 (rd_T74 l1 a2_0).f6], .agg #[.int .i64 X.f0, .int .i64 X.f1, .int .i64 X.f2, .int .i64 X.f3, .int .i64 X.f4, .int .i64 X.f5, .int .i64 X.f6]] (by rfl) rfl rfl (by (try simp only [List.map_toArray, List.map_cons, List.map_nil]); first | done | rfl) ?_
        with_reducible refine (spec_AddRows.calls ((rd_T74 l1 a2_0).f0) ((rd_T74 l1 a2_0).f1) ((rd_T74 l1 a2_0).f2) ((rd_T74 l1 a2_0).f3) ((rd_T74 l1 a2_0).f4) ((rd_T74 l1 a2_0).f5) ((rd_T74 l1 a2_0).f6) (X.f0) (X.f1) (X.f2) (X.f3) (X.f4) (X.f5) (X.f6) _ _ _ _ _ _ _ _ rfl).mono ?_
        rintro e W3c ⟨rfl, hb⟩
        refine ⟨_, rfl, ?_⟩
        have S3 := Aside0.mk (S2.out.below hb)
        clear hb S2
        have hfz := (S3.out.cells a2_0 HI.out.1 HI.out.2.1).1
        have hf0 : W3c.frozen? ⟨g, a2_0.toNat * 7, none⟩ = false := hfz 0 (by decide)
        have hf1 : W3c.frozen? ⟨g, a2_0.toNat * 7 + 1, none⟩ = false := hfz 1 (by decide)
        have hf2 : W3c.frozen? ⟨g, a2_0.toNat * 7 + 2, none⟩ = false := hfz 2 (by decide)
        have hf3 : W3c.frozen? ⟨g, a2_0.toNat * 7 + 3, none⟩ = false := hfz 3 (by decide)
        have hf4 : W3c.frozen? ⟨g, a2_0.toNat * 7 + 4, none⟩ = false := hfz 4 (by decide)
        have hf5 : W3c.frozen? ⟨g, a2_0.toNat * 7 + 5, none⟩ = false := hfz 5 (by decide)
        have hf6 : W3c.frozen? ⟨g, a2_0.toNat * 7 + 6, none⟩ = false := hfz 6 (by decide)
        clear hfz
        obtain ⟨hq0, hq1, hq2, hq3, hq4, hq5, hq6⟩ := (S3.out.cells a2_0 HI.out.1 HI.out.2.1).2
        refine hK.out _ _ ⟨(blk_cell S3.out.game 0).trans rfl, (blk_cell S3.out.bx 0).trans rfl, (blk_cell S3.out.bx 1).trans rfl, (blk_cell S3.out.bx 2).trans rfl, (blk_cell S3.out.bx 3).trans rfl, (blk_cell S3.out.bx 4).trans rfl, (blk_cell S3.out.bx 5).trans rfl, (blk_cell S3.out.bx 6).trans rfl, (S3.out.cells a2_0 HI.out.1 HI.out.2.1).2⟩ (fun hHeld => ?_)
        clear hK K
        refine norm_ (a' := ?_) ?_ ?_
        rotate_left
        · (show Act.put _ (some 66) _ = _; simp only [Act.put, List.setIfInBounds_toArray, List.set_cons_zero, List.set_cons_succ, i64_w, i32_w]; rfl)
        refine pure_ (i := 10) (N := some 67) (v := ?_) (a' := ?_) #[true, true, true, true, true, true, true, true, true, true, true, false] rfl rfl (any_of HT_.out (by kernel_rfl)) (fun _ _ _ h => h) (Or.inl ⟨by rfl, ?_⟩) ?_ ?_
        rotate_left
        · (intro w'; go_simp; with_reducible rfl)
        rotate_left
        · (simp only [Act.put, List.setIfInBounds_toArray, List.set_cons_zero, List.set_cons_succ, i64_w, i32_w]; rfl)
        refine last_ (i := 11) (N := none) #[true, true, true, true, true, true, true, true, true, true, true, true] rfl rfl (one_of HT_.out (by kernel_rfl)) (by decide) (fun K hK => ?_)
        refine skip_ (w1 := ?_) (by rfl) rfl ?_ ?_
        rotate_left
        · (go_simp; rfl)
        refine hK.out _ _ ?_
        clear hK K
        refine done_ (done_of HT_.out (by kernel_rfl)) ?_
        try go_wp2
        clear hf0 hf1 hf2 hf3 hf4 hf5 hf6 hq0 hq1 hq2 hq3 hq4 hq5 hq6 hi0 hi1
        have S4 := Aside0.mk (S3.out.put a2_0 HI.out.1 HI.out.2.1 (spSum (rd_T74 l1 a2_0) X))
        clear S3 HT_ HW_ hHeld
        replace S4 : Aside0 (AdS w0 w P1_ g cap l1.length gb gx gy #[.int .i64 a2_0, .int .i64 a2_1, .int .i64 a2_2, .int .i64 a2_3, .int .i64 a2_4] X Y (spAdd l1 a2_0 X) (((((((W3c.setCell ⟨g, a2_0.toNat * 7, none⟩ (.int .i64 (wrap64 ((rd_T74 l1 a2_0).f0 + X.f0)))).setCell ⟨g, a2_0.toNat * 7 + 1, none⟩ (.int .i64 (wrap64 ((rd_T74 l1 a2_0).f1 + X.f1)))).setCell ⟨g, a2_0.toNat * 7 + 2, none⟩ (.int .i64 (wrap64 ((rd_T74 l1 a2_0).f2 + X.f2)))).setCell ⟨g, a2_0.toNat * 7 + 3, none⟩ (.int .i64 (wrap64 ((rd_T74 l1 a2_0).f3 + X.f3)))).setCell ⟨g, a2_0.toNat * 7 + 4, none⟩ (.int .i64 (wrap64 ((rd_T74 l1 a2_0).f4 + X.f4)))).setCell ⟨g, a2_0.toNat * 7 + 5, none⟩ (.int .i64 (wrap64 ((rd_T74 l1 a2_0).f5 + X.f5)))).setCell ⟨g, a2_0.toNat * 7 + 6, none⟩ (.int .i64 (wrap64 ((rd_T74 l1 a2_0).f6 + X.f6))))) := S4
        generalize (((((((W3c.setCell ⟨g, a2_0.toNat * 7, none⟩ (.int .i64 (wrap64 ((rd_T74 l1 a2_0).f0 + X.f0)))).setCell ⟨g, a2_0.toNat * 7 + 1, none⟩ (.int .i64 (wrap64 ((rd_T74 l1 a2_0).f1 + X.f1)))).setCell ⟨g, a2_0.toNat * 7 + 2, none⟩ (.int .i64 (wrap64 ((rd_T74 l1 a2_0).f2 + X.f2)))).setCell ⟨g, a2_0.toNat * 7 + 3, none⟩ (.int .i64 (wrap64 ((rd_T74 l1 a2_0).f3 + X.f3)))).setCell ⟨g, a2_0.toNat * 7 + 4, none⟩ (.int .i64 (wrap64 ((rd_T74 l1 a2_0).f4 + X.f4)))).setCell ⟨g, a2_0.toNat * 7 + 5, none⟩ (.int .i64 (wrap64 ((rd_T74 l1 a2_0).f5 + X.f5)))).setCell ⟨g, a2_0.toNat * 7 + 6, none⟩ (.int .i64 (wrap64 ((rd_T74 l1 a2_0).f6 + X.f6)))) = W3n at S4 ⊢
        obtain ⟨L1, hL1⟩ : ∃ z, z = spAdd l1 a2_0 X := ⟨_, rfl⟩
        rw [← hL1] at S4
        have HL := Aside0.mk hL1
        clear hL1
        have S5 := Aside0.mk S4.out.drew
        have hi0 : (0 ≤ a2_1) = True := eq_true HI.out.2.2.1
        have hi1 : (a2_1 < (l1.length : Int)) = True := eq_true HI.out.2.2.2
        refine start_ (n := 12) (S := fun w' => w'.cell? ⟨gb, 1, none⟩ = some (.int .i64 a2_1) ∧ w'.cell? ⟨gy, 0, none⟩ = some (.int .i64 Y.f0) ∧ w'.cell? ⟨gy, 1, none⟩ = some (.int .i64 Y.f1) ∧ w'.cell? ⟨gy, 2, none⟩ = some (.int .i64 Y.f2) ∧ w'.cell? ⟨gy, 3, none⟩ = some (.int .i64 Y.f3) ∧ w'.cell? ⟨gy, 4, none⟩ = some (.int .i64 Y.f4) ∧ w'.cell? ⟨gy, 5, none⟩ = some (.int .i64 Y.f5) ∧ w'.cell? ⟨gy, 6, none⟩ = some (.int .i64 Y.f6) ∧ w'.cell? ⟨g, a2_1.toNat * 7, none⟩ = some (.int .i64 (rd_T74 L1 a2_1).f0) ∧ w'.cell? ⟨g, a2_1.toNat * 7 + 1, none⟩ = some (.int .i64 (rd_T74 L1 a2_1).f1) ∧ w'.cell? ⟨g, a2_1.toNat * 7 + 2, none⟩ = some (.int .i64 (rd_T74 L1 a2_1).f2) ∧ w'.cell? ⟨g, a2_1.toNat * 7 + 3, none⟩ = some (.int .i64 (rd_T74 L1 a2_1).f3) ∧ w'.cell? ⟨g, a2_1.toNat * 7 + 4, none⟩ = some (.int .i64 (rd_T74 L1 a2_1).f4) ∧ w'.cell? ⟨g, a2_1.toNat * 7 + 5, none⟩ = some (.int .i64 (rd_T74 L1 a2_1).f5) ∧ w'.cell? ⟨g, a2_1.toNat * 7 + 6, none⟩ = some (.int .i64 (rd_T74 L1 a2_1).f6)) (ds := [11]) #[false, false, false, false, false, false, false, false, false, false, false, false] (by kernel_rfl) rfl rfl ⟨(blk_cell S5.out.game 1).trans rfl, (blk_cell S5.out.by_ 0).trans rfl, (blk_cell S5.out.by_ 1).trans rfl, (blk_cell S5.out.by_ 2).trans rfl, (blk_cell S5.out.by_ 3).trans rfl, (blk_cell S5.out.by_ 4).trans rfl, (blk_cell S5.out.by_ 5).trans rfl, (blk_cell S5.out.by_ 6).trans rfl, (S5.out.cells a2_1 HI.out.2.2.1 HI.out.2.2.2).2⟩ (fun hHeld => ?_); refine with_tabW spec_l06Add.tab22 spec_l06Add.bits21 (fun HT_ HW_ => ?_)
        generalize W3n.drew = W3nd at S5 hHeld ⊢
        clear S4
        refine pure_ (i := 0) (N := some 68) (v := ?_) (a' := ?_) #[true, false, false, false, false, false, false, false, false, false, false, false] rfl rfl (any_of HT_.out (by kernel_rfl)) (fun _ _ _ h => h) (Or.inl ⟨by rfl, ?_⟩) ?_ ?_
        rotate_left
        · (intro w'; go_simp; with_reducible rfl)
        rotate_left
        · (simp only [Act.put, List.setIfInBounds_toArray, List.set_cons_zero, List.set_cons_succ, i64_w, i32_w]; rfl)
        refine pure_ (i := 1) (N := some 69) (v := ?_) (a' := ?_) #[true, true, false, false, false, false, false, false, false, false, false, false] rfl rfl (any_of HT_.out (by kernel_rfl)) (fun _ _ _ h => h) (Or.inl ⟨by rfl, ?_⟩) ?_ ?_
        rotate_left
        · (intro w'; go_simp; with_reducible rfl)
        rotate_left
        · (simp only [Act.put, List.setIfInBounds_toArray, List.set_cons_zero, List.set_cons_succ, i64_w, i32_w]; rfl)
        refine pure_ (i := 3) (N := some 71) (v := ?_) (a' := ?_) #[true, true, false, true, false, false, false, false, false, false, false, false] rfl rfl (any_of HT_.out (by kernel_rfl)) (fun _ _ _ h => h) (Or.inl ⟨by rfl, ?_⟩) ?_ ?_
        rotate_left
        · (intro w'; go_simp; with_reducible rfl)
        rotate_left
        · (simp only [Act.put, List.setIfInBounds_toArray, List.set_cons_zero, List.set_cons_succ, i64_w, i32_w]; rfl)
        refine pure_ (i := 4) (N := some 72) (v := ?_) (a' := ?_) #[true, true, false, true, true, false, false, false, false, false, false, false] rfl rfl (any_of HT_.out (by kernel_rfl)) (fun _ _ _ h => h) (Or.inl ⟨by rfl, ?_⟩) ?_ ?_
        rotate_left
        · (intro w'; go_simp; with_reducible rfl)
        rotate_left
        · (simp only [Act.put, List.setIfInBounds_toArray, List.set_cons_zero, List.set_cons_succ, i64_w, i32_w]; rfl)
        refine take_ (i := 2) (N := some 70) (v := ?_) (a' := ?_) #[true, true, true, true, true, false, false, false, false, false, false, false] rfl rfl (take_ofW HT_.out HW_.out (by kernel_rfl)) (fun _ _ _ h => h) (Or.inl ⟨by rfl, ?_⟩) hHeld ?_ ?_
        rotate_left
        · (rintro w' ⟨s0, s1, s2, s3, s4, s5, s6, s7, s8, s9, s10, s11, s12, s13, s14⟩; go_simp; with_reducible rfl)
        rotate_left
        · (simp only [Act.put, List.setIfInBounds_toArray, List.set_cons_zero, List.set_cons_succ, i64_w, i32_w]; rfl)
        refine take_ (i := 5) (N := some 73) (v := ?_) (a' := ?_) #[true, true, true, true, true, true, false, false, false, false, false, false] rfl rfl (take_ofW HT_.out HW_.out (by kernel_rfl)) (fun _ _ _ h => h) (Or.inl ⟨by rfl, ?_⟩) hHeld ?_ ?_
        rotate_left
        · (rintro w' ⟨s0, s1, s2, s3, s4, s5, s6, s7, s8, s9, s10, s11, s12, s13, s14⟩; go_simp; with_reducible rfl)
        rotate_left
        · (simp only [Act.put, List.setIfInBounds_toArray, List.set_cons_zero, List.set_cons_succ, i64_w, i32_w]; rfl)
        refine pure_ (i := 6) (N := some 74) (v := ?_) (a' := ?_) #[true, true, true, true, true, true, true, false, false, false, false, false] rfl rfl (any_of HT_.out (by kernel_rfl)) (fun _ _ _ h => h) (Or.inl ⟨by rfl, ?_⟩) ?_ ?_
        rotate_left
        · (intro w'; go_simp; with_reducible rfl)
        rotate_left
        · (simp only [Act.put, List.setIfInBounds_toArray, List.set_cons_zero, List.set_cons_succ, i64_w, i32_w]; rfl)
        refine take_ (i := 7) (N := some 75) (v := ?_) (a' := ?_) #[true, true, true, true, true, true, true, true, false, false, false, false] rfl rfl (take_ofW HT_.out HW_.out (by kernel_rfl)) (fun _ _ _ h => h) (Or.inl ⟨by rfl, ?_⟩) hHeld ?_ ?_
        rotate_left
        · (rintro w' ⟨s0, s1, s2, s3, s4, s5, s6, s7, s8, s9, s10, s11, s12, s13, s14⟩; go_simp; with_reducible rfl)
        rotate_left
        · (simp only [Act.put, List.setIfInBounds_toArray, List.set_cons_zero, List.set_cons_succ, i64_w, i32_w]; rfl)
        refine take_ (i := 8) (N := some 76) (v := ?_) (a' := ?_) #[true, true, true, true, true, true, true, true, true, false, false, false] rfl rfl (take_ofW HT_.out HW_.out (by kernel_rfl)) (fun _ _ _ h => h) (Or.inl ⟨by rfl, ?_⟩) hHeld ?_ ?_
        rotate_left
        · (rintro w' ⟨s0, s1, s2, s3, s4, s5, s6, s7, s8, s9, s10, s11, s12, s13, s14⟩; go_simp; with_reducible rfl)
        rotate_left
        · (simp only [Act.put, List.setIfInBounds_toArray, List.set_cons_zero, List.set_cons_succ, i64_w, i32_w]; rfl)
        refine one_ (i := 9) (N := some 77) #[true, true, true, true, true, true, true, true, true, true, false, false] rfl rfl (one_of HT_.out (by kernel_rfl)) (by decide) (fun K hK => ?_)
        refine goes_ Try.func135 (by kernel_rfl) rfl #[.agg #[.int .i64 (rd_T74 L1 a2_1).f0, .int .i64 (rd_T74 L1 a2_1).f1, .int .i64 (rd_T74 L1 a2_1).f2, .int .i64 (rd_T74 L1 a2_1).f3, .int .i64 (rd_T74 L1 a2_1).f4, .int .i64 (rd_T74 L1 a2_1).f5, .int .i64 (rd_T74 L1 a2_1).f6], .agg #[.int .i64 Y.f0, .int .i64 Y.f1, .int .i64 Y.f2, .int .i64 Y.f3, .int .i64 Y.f4, .int .i64 Y.f5, .int .i64 Y.f6]] (by rfl) rfl rfl (by (try simp only [List.map_toArray, List.map_cons, List.map_nil]); first | done | rfl) ?_
        with_reducible refine (spec_AddRows.calls ((rd_T74 L1 a2_1).f0) ((rd_T74 L1 a2_1).f1) ((rd_T74 L1 a2_1).f2) ((rd_T74 L1 a2_1).f3) ((rd_T74 L1 a2_1).f4) ((rd_T74 L1 a2_1).f5) ((rd_T74 L1 a2_1).f6) (Y.f0) (Y.f1) (Y.f2) (Y.f3) (Y.f4) (Y.f5) (Y.f6) _ _ _ _ _ _ _ _ rfl).mono ?_
        rintro e W3nc ⟨rfl, hb⟩
        refine ⟨_, rfl, ?_⟩
        have S6 := Aside0.mk (S5.out.below hb)
        clear hb S5
        have hfz := (S6.out.cells a2_1 HI.out.2.2.1 HI.out.2.2.2).1
        have hf0 : W3nc.frozen? ⟨g, a2_1.toNat * 7, none⟩ = false := hfz 0 (by decide)
        have hf1 : W3nc.frozen? ⟨g, a2_1.toNat * 7 + 1, none⟩ = false := hfz 1 (by decide)
        have hf2 : W3nc.frozen? ⟨g, a2_1.toNat * 7 + 2, none⟩ = false := hfz 2 (by decide)
        have hf3 : W3nc.frozen? ⟨g, a2_1.toNat * 7 + 3, none⟩ = false := hfz 3 (by decide)
        have hf4 : W3nc.frozen? ⟨g, a2_1.toNat * 7 + 4, none⟩ = false := hfz 4 (by decide)
        have hf5 : W3nc.frozen? ⟨g, a2_1.toNat * 7 + 5, none⟩ = false := hfz 5 (by decide)
        have hf6 : W3nc.frozen? ⟨g, a2_1.toNat * 7 + 6, none⟩ = false := hfz 6 (by decide)
        clear hfz
        obtain ⟨hq0, hq1, hq2, hq3, hq4, hq5, hq6⟩ := (S6.out.cells a2_1 HI.out.2.2.1 HI.out.2.2.2).2
        refine hK.out _ _ ⟨(blk_cell S6.out.game 1).trans rfl, (blk_cell S6.out.by_ 0).trans rfl, (blk_cell S6.out.by_ 1).trans rfl, (blk_cell S6.out.by_ 2).trans rfl, (blk_cell S6.out.by_ 3).trans rfl, (blk_cell S6.out.by_ 4).trans rfl, (blk_cell S6.out.by_ 5).trans rfl, (blk_cell S6.out.by_ 6).trans rfl, (S6.out.cells a2_1 HI.out.2.2.1 HI.out.2.2.2).2⟩ (fun hHeld => ?_)
        clear hK K
        refine norm_ (a' := ?_) ?_ ?_
        rotate_left
        · (show Act.put _ (some 77) _ = _; simp only [Act.put, List.setIfInBounds_toArray, List.set_cons_zero, List.set_cons_succ, i64_w, i32_w]; rfl)
        refine pure_ (i := 10) (N := some 78) (v := ?_) (a' := ?_) #[true, true, true, true, true, true, true, true, true, true, true, false] rfl rfl (any_of HT_.out (by kernel_rfl)) (fun _ _ _ h => h) (Or.inl ⟨by rfl, ?_⟩) ?_ ?_
        rotate_left
        · (intro w'; go_simp; with_reducible rfl)
        rotate_left
        · (simp only [Act.put, List.setIfInBounds_toArray, List.set_cons_zero, List.set_cons_succ, i64_w, i32_w]; rfl)
        refine last_ (i := 11) (N := none) #[true, true, true, true, true, true, true, true, true, true, true, true] rfl rfl (one_of HT_.out (by kernel_rfl)) (by decide) (fun K hK => ?_)
        refine skip_ (w1 := ?_) (by rfl) rfl ?_ ?_
        rotate_left
        · (go_simp; rfl)
        refine hK.out _ _ ?_
        clear hK K
        refine done_ (done_of HT_.out (by kernel_rfl)) ?_
        try go_wp2
        clear hf0 hf1 hf2 hf3 hf4 hf5 hf6 hq0 hq1 hq2 hq3 hq4 hq5 hq6 hi0 hi1
        have S7 := Aside0.mk (S6.out.put a2_1 HI.out.2.2.1 HI.out.2.2.2 (spSum (rd_T74 L1 a2_1) Y))
        clear S6 HT_ HW_ hHeld
        replace S7 : Aside0 (AdS w0 w P1_ g cap l1.length gb gx gy #[.int .i64 a2_0, .int .i64 a2_1, .int .i64 a2_2, .int .i64 a2_3, .int .i64 a2_4] X Y (spAdd L1 a2_1 Y) (((((((W3nc.setCell ⟨g, a2_1.toNat * 7, none⟩ (.int .i64 (wrap64 ((rd_T74 L1 a2_1).f0 + Y.f0)))).setCell ⟨g, a2_1.toNat * 7 + 1, none⟩ (.int .i64 (wrap64 ((rd_T74 L1 a2_1).f1 + Y.f1)))).setCell ⟨g, a2_1.toNat * 7 + 2, none⟩ (.int .i64 (wrap64 ((rd_T74 L1 a2_1).f2 + Y.f2)))).setCell ⟨g, a2_1.toNat * 7 + 3, none⟩ (.int .i64 (wrap64 ((rd_T74 L1 a2_1).f3 + Y.f3)))).setCell ⟨g, a2_1.toNat * 7 + 4, none⟩ (.int .i64 (wrap64 ((rd_T74 L1 a2_1).f4 + Y.f4)))).setCell ⟨g, a2_1.toNat * 7 + 5, none⟩ (.int .i64 (wrap64 ((rd_T74 L1 a2_1).f5 + Y.f5)))).setCell ⟨g, a2_1.toNat * 7 + 6, none⟩ (.int .i64 (wrap64 ((rd_T74 L1 a2_1).f6 + Y.f6))))) := S7
        generalize (((((((W3nc.setCell ⟨g, a2_1.toNat * 7, none⟩ (.int .i64 (wrap64 ((rd_T74 L1 a2_1).f0 + Y.f0)))).setCell ⟨g, a2_1.toNat * 7 + 1, none⟩ (.int .i64 (wrap64 ((rd_T74 L1 a2_1).f1 + Y.f1)))).setCell ⟨g, a2_1.toNat * 7 + 2, none⟩ (.int .i64 (wrap64 ((rd_T74 L1 a2_1).f2 + Y.f2)))).setCell ⟨g, a2_1.toNat * 7 + 3, none⟩ (.int .i64 (wrap64 ((rd_T74 L1 a2_1).f3 + Y.f3)))).setCell ⟨g, a2_1.toNat * 7 + 4, none⟩ (.int .i64 (wrap64 ((rd_T74 L1 a2_1).f4 + Y.f4)))).setCell ⟨g, a2_1.toNat * 7 + 5, none⟩ (.int .i64 (wrap64 ((rd_T74 L1 a2_1).f5 + Y.f5)))).setCell ⟨g, a2_1.toNat * 7 + 6, none⟩ (.int .i64 (wrap64 ((rd_T74 L1 a2_1).f6 + Y.f6)))) = W3nn at S7 ⊢
        go_wp2
        go_end0
        refine ⟨rfl, ?_, S7.out.bel, S7.out.kept⟩
        rw [← HX.out, ← HY.out, ← HL.out]
        exact Kd.R_mono S7.out.row (fun k_ hk => .inl (by rw [hk]; exact HPG.out))
    · rw [if_neg hall] at h; cases h

end Go.Proofs.Ytikfdjgigeggjaa.MFnExactKeyValue
