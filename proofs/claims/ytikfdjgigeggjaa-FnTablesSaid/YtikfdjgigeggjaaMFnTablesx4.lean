/- The functions that FnTables reaches, each with its contract: the print's form, by wip/tools/myprint.py; no condition of its own. -/
import Derived.Test.YtikfdjgigeggjaaMFnTablesx0
import Derived.Test.YtikfdjgigeggjaaMFnTablesx2
import Derived.Test.YtikfdjgigeggjaaMFnTablesx3
namespace Go.Proofs.Ytikfdjgigeggjaa.MFnTables
open Go.RowKit Go.Proofs.YtikfdjgigeggjaaW.PrintWords Go.Proofs.YtikfdjgigeggjaaW.PrintLast Go.Proofs.YtikfdjgigeggjaaW.PrintMore
attribute [local go_sem] max2_int min2_int max_two min_two max_three min_three max_four min_four   -- for this text's walks alone
set_option linter.unusedVariables false
set_option linter.unusedSimpArgs false

/-! ### impl_TableOf: function 35 -/
/-! A table's rows while a game is counted: two rows X and Y, at the places h and a, in a row of the call's own. -/
def tbSet (x : S74) (j : Nat) (v : Int) : S74 := match j with | 0 => { x with f0 := v } | 1 => { x with f1 := v } | 2 => { x with f2 := v } | 3 => { x with f3 := v } | 4 => { x with f4 := v } | 5 => { x with f5 := v } | 6 => { x with f6 := v } | _ => x
def tbGet (x : S74) (j : Nat) : Int := match j with | 0 => x.f0 | 1 => x.f1 | 2 => x.f2 | 3 => x.f3 | 4 => x.f4 | 5 => x.f5 | _ => x.f6
theorem tb_getElem (x : S74) (j : Nat) (hj : j < 7) : ([.int .i64 x.f0, .int .i64 x.f1, .int .i64 x.f2, .int .i64 x.f3, .int .i64 x.f4, .int .i64 x.f5, .int .i64 x.f6] : List Value)[j]? = some (.int .i64 (tbGet x j)) := by
  match j, hj with
  | 0, _ => rfl
  | 1, _ => rfl
  | 2, _ => rfl
  | 3, _ => rfl
  | 4, _ => rfl
  | 5, _ => rfl
  | 6, _ => rfl
theorem tb_seg (w : World) (base : Nat) (ok : Nat → Prop) (x : S74) (j : Nat) (v : Int) (hj : j < 7) : k74.M w base ok (tbSet x j v) ((([.int .i64 x.f0, .int .i64 x.f1, .int .i64 x.f2, .int .i64 x.f3, .int .i64 x.f4, .int .i64 x.f5, .int .i64 x.f6] : List Value).take j ++ [.int .i64 v]) ++ ([.int .i64 x.f0, .int .i64 x.f1, .int .i64 x.f2, .int .i64 x.f3, .int .i64 x.f4, .int .i64 x.f5, .int .i64 x.f6] : List Value).drop (j + 1)) := by
  match j, hj with
  | 0, _ => exact k74_mkM w base ok (tbSet x 0 v)
  | 1, _ => exact k74_mkM w base ok (tbSet x 1 v)
  | 2, _ => exact k74_mkM w base ok (tbSet x 2 v)
  | 3, _ => exact k74_mkM w base ok (tbSet x 3 v)
  | 4, _ => exact k74_mkM w base ok (tbSet x 4 v)
  | 5, _ => exact k74_mkM w base ok (tbSet x 5 v)
  | 6, _ => exact k74_mkM w base ok (tbSet x 6 v)
section
variable {base g n cap : Nat} {ok : Nat → Prop} {W : World} {xs : List S74}
theorem tb_store (h : Kd.R k74 74 W base ok (.slice (some ⟨g, 0, none⟩) n cap) xs) (i : Nat) (hi : i < n) (j : Nat) (hj : j < 7) (v : Int) :
    Kd.R k74 74 (W.setCell ⟨g, i * 7 + j, none⟩ (.int .i64 v)) base ok (.slice (some ⟨g, 0, none⟩) n cap) (xs.set i (tbSet (xs.getD i z74) j v)) ∧ W.grownBy (W.setCell ⟨g, i * 7 + j, none⟩ (.int .i64 v)) (some g) := by
  obtain ⟨c, hcl, hM, hcc, _⟩ := Kd.R_elem h z74 (i : Int) (by omega) (by omega)
  rw [Int.toNat_natCast] at hM hcc
  have hc := k74_openM hM
  rw [hc] at hcc hcl
  have := Kd.R_seg (okp := fun k => ok k ∧ k ≠ g) h (i : Int) (by omega) (by omega) (seg := [.int .i64 v]) (j := j) hcl (by rw [Int.toNat_natCast]; exact hcc) (show j + 1 ≤ 7 by omega) (tb_seg W base _ _ j v hj) (fun k hk => hk)
  rw [Int.toNat_natCast] at this
  exact this
theorem tb_cell (h : Kd.R k74 74 W base ok (.slice (some ⟨g, 0, none⟩) n cap) xs) (i : Nat) (hi : i < n) (j : Nat) (hj : j < 7) :
    W.cell? ⟨g, i * 7 + j, none⟩ = some (.int .i64 (tbGet (xs.getD i z74) j)) ∧ W.frozen? ⟨g, i * 7 + j, none⟩ = false := by
  obtain ⟨c, hcl, hM, hcc, hf⟩ := Kd.R_elem h z74 (i : Int) (by omega) (by omega)
  rw [Int.toNat_natCast] at hM hcc hf
  rw [k74_openM hM] at hcc
  exact ⟨hcc j _ (tb_getElem _ j hj), hf j⟩
end
/-- What holds while a game is counted: rows X at h and Y at a, the box of the rules, what was there before. -/
structure TbS (w : World) (g cap n : Nat) (xs : List S74) (h a b4 : Nat) (rc : Array Value) (W : World) (X Y : S74) : Prop where
  row : Kd.R k74 74 W w.heap.size (fun k_ => k_ = g) (.slice (some ⟨g, 0, none⟩) n cap) ((xs.set h X).set a Y)
  box : W.heap[b4]? = some (.cells rc 25 (0, 0))
  bel : Below w.heap.size w W
  ne : h ≠ a
  hn : h < n
  an : a < n
  len : xs.length = n
  old : w.heap.size ≤ g
section
variable {w : World} {g cap n : Nat} {xs : List S74} {h a b4 : Nat} {rc : Array Value} {W : World} {X Y : S74}
theorem TbS.atH (s : TbS w g cap n xs h a b4 rc W X Y) : ((xs.set h X).set a Y).getD h z74 = X := by
  rw [List.getD_eq_getElem?_getD, List.getElem?_set_ne (Ne.symm s.ne), List.getElem?_set_self (by rw [s.len]; exact s.hn)]; rfl
theorem TbS.atA (s : TbS w g cap n xs h a b4 rc W X Y) : ((xs.set h X).set a Y).getD a z74 = Y := by
  rw [List.getD_eq_getElem?_getD, List.getElem?_set_self (by rw [List.length_set, s.len]; exact s.an)]; rfl
theorem TbS.gne (s : TbS w g cap n xs h a b4 rc W X Y) : b4 ≠ g := by
  intro e
  have ht := Kd.R_typed s.row g rfl
  obtain ⟨cells, hc⟩ := ht
  have hb := s.box
  rw [e, hc] at hb
  injection hb with hb
  injection hb with _ hb _
  exact absurd hb (by decide)
theorem TbS.cellH (s : TbS w g cap n xs h a b4 rc W X Y) (j : Nat) (hj : j < 7) : W.cell? ⟨g, h * 7 + j, none⟩ = some (.int .i64 (tbGet X j)) := by
  have := (tb_cell s.row h s.hn j hj).1; rwa [s.atH] at this
theorem TbS.frzH (s : TbS w g cap n xs h a b4 rc W X Y) (j : Nat) (hj : j < 7) : W.frozen? ⟨g, h * 7 + j, none⟩ = false := (tb_cell s.row h s.hn j hj).2
theorem TbS.cellA (s : TbS w g cap n xs h a b4 rc W X Y) (j : Nat) (hj : j < 7) : W.cell? ⟨g, a * 7 + j, none⟩ = some (.int .i64 (tbGet Y j)) := by
  have := (tb_cell s.row a s.an j hj).1; rwa [s.atA] at this
theorem TbS.frzA (s : TbS w g cap n xs h a b4 rc W X Y) (j : Nat) (hj : j < 7) : W.frozen? ⟨g, a * 7 + j, none⟩ = false := (tb_cell s.row a s.an j hj).2
theorem TbS.setH (s : TbS w g cap n xs h a b4 rc W X Y) (j : Nat) (hj : j < 7) (v : Int) : TbS w g cap n xs h a b4 rc (W.setCell ⟨g, h * 7 + j, none⟩ (.int .i64 v)) (tbSet X j v) Y := by
  obtain ⟨h1, h2⟩ := tb_store s.row h s.hn j hj v
  rw [s.atH, List.set_comm _ _ s.ne.symm, List.set_set] at h1
  exact ⟨h1, (Below.heap_setCell W _ _ b4 s.gne).trans s.box, below_set s.bel s.old, s.ne, s.hn, s.an, s.len, s.old⟩
theorem TbS.setA (s : TbS w g cap n xs h a b4 rc W X Y) (j : Nat) (hj : j < 7) (v : Int) : TbS w g cap n xs h a b4 rc (W.setCell ⟨g, a * 7 + j, none⟩ (.int .i64 v)) X (tbSet Y j v) := by
  obtain ⟨h1, h2⟩ := tb_store s.row a s.an j hj v
  rw [s.atA, List.set_set] at h1
  exact ⟨h1, (Below.heap_setCell W _ _ b4 s.gne).trans s.box, below_set s.bel s.old, s.ne, s.hn, s.an, s.len, s.old⟩
theorem TbS.drewN (s : TbS w g cap n xs h a b4 rc W X Y) (m : Nat) : TbS w g cap n xs h a b4 rc (W.drewN m) X Y :=
  ⟨Kd.R_drewN s.row m, s.box, pw_below_drewN s.bel m, s.ne, s.hn, s.an, s.len, s.old⟩
theorem TbS.drew (s : TbS w g cap n xs h a b4 rc W X Y) : TbS w g cap n xs h a b4 rc W.drew X Y :=
  ⟨Kd.R_drew s.row, s.box, below_drew s.bel, s.ne, s.hn, s.an, s.len, s.old⟩
theorem TbS.start (hr : Kd.R k74 74 W w.heap.size (fun k_ => k_ = g) (.slice (some ⟨g, 0, none⟩) n cap) xs) (hb : W.heap[b4]? = some (.cells rc 25 (0, 0))) (bel : Below w.heap.size w W) (ne : h ≠ a) (hn : h < n) (an : a < n) (len : xs.length = n) (old : w.heap.size ≤ g) :
    TbS w g cap n xs h a b4 rc W (xs.getD h z74) (xs.getD a z74) := by
  refine ⟨?_, hb, bel, ne, hn, an, len, old⟩
  have e1 : xs.set h (xs.getD h z74) = xs := by
    apply List.ext_getElem?
    intro k
    by_cases c : h = k
    · subst c
      rw [List.getElem?_set_self (by omega), List.getD_eq_getElem?_getD, List.getElem?_eq_getElem (by omega)]
      rfl
    · rw [List.getElem?_set_ne c]
  have e2 : xs.set a (xs.getD a z74) = xs := by
    apply List.ext_getElem?
    intro k
    by_cases c : a = k
    · subst c
      rw [List.getElem?_set_self (by omega), List.getD_eq_getElem?_getD, List.getElem?_eq_getElem (by omega)]
      rfl
    · rw [List.getElem?_set_ne c]
  rw [e1, e2]
  exact hr
end
/-! What tableOf makes of games. -/
def tbAdd (x : S74) (j : Nat) (d : Int) : S74 := tbSet x j (wrap64 (tbGet x j + d))
def tbGoals (x : S71) : Int × Int × Bool := if x.f4 = 1 then (x.f2, x.f3, true) else (if x.f4 = 2 then (3, 0, true) else (if x.f4 = 3 then (0, 3, true) else (0, 0, false)))
theorem tbGoals_eq (x : S71) : impl_GoalsOf.f x.f0 x.f1 x.f2 x.f3 x.f4 = some ((tbGoals x).1, (tbGoals x).2.1, (tbGoals x).2.2) := by
  unfold impl_GoalsOf.f tbGoals
  repeat' split
  all_goals rfl
def tbIn (X : S74) (r1 r2 : Int) : S74 := tbAdd (tbAdd (tbAdd X 0 1) 4 r1) 5 r2
def tbPlay (u0 u1 u2 r1 r2 : Int) (X Y : S74) : S74 × S74 :=
  if r1 > r2 then (tbAdd (tbAdd (tbIn X r1 r2) 1 1) 6 u0, tbAdd (tbAdd (tbIn Y r2 r1) 3 1) 6 u2)
  else if r1 < r2 then (tbAdd (tbAdd (tbIn X r1 r2) 3 1) 6 u2, tbAdd (tbAdd (tbIn Y r2 r1) 1 1) 6 u0)
  else (tbAdd (tbAdd (tbIn X r1 r2) 2 1) 6 u1, tbAdd (tbAdd (tbIn Y r2 r1) 2 1) 6 u1)
def tbStep (u0 u1 u2 : Int) (p : S71 → Bool) (rows : List S74) (g : S71) : List S74 :=
  if ((tbGoals g).2.2 && p g) = true then
    (rows.set g.f0.toNat (tbPlay u0 u1 u2 (tbGoals g).1 (tbGoals g).2.1 (rows.getD g.f0.toNat z74) (rows.getD g.f1.toNat z74)).1).set g.f1.toNat (tbPlay u0 u1 u2 (tbGoals g).1 (tbGoals g).2.1 (rows.getD g.f0.toNat z74) (rows.getD g.f1.toNat z74)).2
  else rows
theorem tbStep_len (u0 u1 u2 : Int) (p : S71 → Bool) (rows : List S74) (g : S71) : (tbStep u0 u1 u2 p rows g).length = rows.length := by
  unfold tbStep
  split
  · rw [List.length_set, List.length_set]
  · rfl
def tbTable (u0 u1 u2 : Int) (p : S71 → Bool) (n : Int) (l : List S71) : List S74 := l.foldl (tbStep u0 u1 u2 p) (List.replicate n.toNat z74)
theorem tbFold_len (u0 u1 u2 : Int) (p : S71 → Bool) (l : List S71) : ∀ rows : List S74, (l.foldl (tbStep u0 u1 u2 p) rows).length = rows.length := by
  induction l with
  | nil => intro rows; rfl
  | cons g l ih => intro rows; rw [List.foldl_cons, ih, tbStep_len]
theorem tbTable_len (u0 u1 u2 : Int) (p : S71 → Bool) (n : Int) (l : List S71) : (tbTable u0 u1 u2 p n l).length = n.toNat := by
  unfold tbTable; rw [tbFold_len, List.length_replicate]
theorem tbTable_next (u0 u1 u2 : Int) (p : S71 → Bool) (n : Int) (l : List S71) (i : Nat) (y : S71) (h : l[i]? = some y) : tbTable u0 u1 u2 p n (l.take (i + 1)) = tbStep u0 u1 u2 p (tbTable u0 u1 u2 p n (l.take i)) y := by
  obtain ⟨hi, hy⟩ := List.getElem?_eq_some_iff.1 h
  rw [List.take_succ_eq_append_getElem hi, hy]
  unfold tbTable
  rw [List.foldl_append]; rfl
/-- A game between two teams of n. -/
def tbOk (n : Int) (g : S71) : Bool := decide (0 ≤ g.f0) && decide (g.f0 < n) && decide (0 ≤ g.f1) && decide (g.f1 < n) && decide (g.f0 ≠ g.f1)
theorem tbOk_iff {n : Int} {g : S71} (h : tbOk n g = true) : 0 ≤ g.f0 ∧ g.f0 < n ∧ 0 ≤ g.f1 ∧ g.f1 < n ∧ g.f0 ≠ g.f1 := by
  simp only [tbOk, Bool.and_eq_true, decide_eq_true_eq] at h
  obtain ⟨⟨⟨⟨a, b⟩, c⟩, d⟩, e⟩ := h
  exact ⟨a, b, c, d, e⟩
theorem tb_info : (Try.prog.info? 74).map (fun i => (i.zero, i.size, i.bytes)) = some (some (.agg #[(.int .i64 0), (.int .i64 0), (.int .i64 0), (.int .i64 0), (.int .i64 0), (.int .i64 0), (.int .i64 0)]), 7, 56) := by kernel_rfl
set_option maxHeartbeats 16000000 in
set_option maxRecDepth 100000 in
/-- tableOf: whatever the function value says of each game. -/
theorem tableOfG (p : S71 → Bool) (G : Nat) (lb : Array Value) (u0 u1 u2 : Int) (A3 : Option Addr) (n3 c3 : Nat) (b4 : Bool) (n : Int) (A0 : Option Addr) (c0 : Nat) (l0 : List S71) (w : World) (hr0 : Kd.C k71 w A0 l0.length l0) (hc0 : l0.length ≤ c0)
    (hn1 : 1 ≤ n) (hn2 : n ≤ 100000) (hok : ∀ g ∈ l0, tbOk n g = true) (eg : ∀ args w, (callFunc G args).run Try.prog w = .ok (.enter G args) w)
    (hp : ∀ (W : World) (x : S71), x ∈ l0 → Below w.heap.size w W → Calls Try.prog G (#[.agg #[.int .i64 x.f0, .int .i64 x.f1, .int .i64 x.f2, .int .i64 x.f3, .int .i64 x.f4]] ++ lb) W fun e w' => e = .returned (.bool (p x)) ∧ Below W.heap.size W w') :
    Calls Try.prog 87 #[.agg #[.int .i64 u0, .int .i64 u1, .int .i64 u2, .slice A3 n3 c3, .bool b4], .int .i64 n, .slice A0 l0.length c0, .func (.func G) #[] lb] w fun e w' => ∃ v0_ : Value, e = .returned (v0_) ∧ Kd.R k74 74 w' w.heap.size (fun _ => True) v0_ (tbTable u0 u1 u2 p n l0) ∧ Below w.heap.size w w' := by
  have hu25 := Try.underlying25
  have hu71 := Try.underlying71
  have hu74 := Try.underlying74
  have HR0 := Aside0.mk hr0
  have HC0 := Aside0.mk hc0
  have HP := Aside0.mk hp
  have HOK := Aside0.mk hok
  have HN1 := Aside0.mk hn1
  have HN2 := Aside0.mk hn2
  have hmax : l0.length ≤ 9223372036854775807 := hr0.2.1
  have hn0 : 0 ≤ n := by omega
  clear hr0 hc0 hp hok hn1 hn2
  obtain ⟨N, rfl⟩ := Int.eq_ofNat_of_zero_le hn0
  go_enter Try.func87, Try.ntmps87
  go_wp2_with (first | ((with_reducible refine gate_dst (N := 18) rfl ?_); refine Kd.R_make k74 _ 74 rfl (N := 18) rfl 53 _ _ rfl (N : Int) rfl rfl Try.underlying53 (.agg #[(.int .i64 0), (.int .i64 0), (.int .i64 0), (.int .i64 0), (.int .i64 0), (.int .i64 0), (.int .i64 0)]) 56 tb_info rfl (by decide) (by omega) z74 (ok := fun _ => True) (okp := fun _ => True) (k74_mkM _ _ _ z74) (fun _ hk => hk) trivial hn0 (by have := HN2.out; omega) (Below.refl _ _) (Nat.le_refl _) ?_; intro v18 w4 ho5 hb hg_ hnew_; clear hg_ hnew_; obtain ⟨g, cap, ev, hgb, hgl, _⟩ := Kd.R_form ho5 (by rw [List.length_replicate]; have := HN1.out; omega); rw [List.length_replicate, Int.toNat_natCast] at ev; subst ev; have HO := Aside0.mk (Kd.R_mono (Kd.R_tight rfl (Kd.R_lower (base' := w.heap.size) ho5 (by simp))) (ok' := fun k_ => k_ = g) (fun k_ hk => by have h_ : some k_ = some g := hk; injection h_)); have HB := Aside0.mk (((Below.refl w.heap.size w).alloc (Nat.le_refl _) _).trans (hb.mono (by simp))); have BX := Aside0.mk (blk_below (blk_new w _) hb); have HG := Aside0.mk (show w.heap.size ≤ g by simp at hgb; omega); clear ho5 hb hgb hgl))
  go_loopg [21] l0.length (fun gk v21 w' => ∃ i : Nat, v21 = .int .i64 i ∧ Aside0 (i ≤ l0.length) ∧ Aside0 (l0.length - i ≤ gk) ∧ Aside0 (Kd.R k74 74 w' w.heap.size (fun k_ => k_ = g) (.slice (some ⟨g, 0, none⟩) N cap) (tbTable u0 u1 u2 p (N : Int) (l0.take i))) ∧ Aside0 (w'.heap[w.heap.size]? = some (.cells #[.int .i64 u0, .int .i64 u1, .int .i64 u2, .slice A3 n3 c3, .bool b4] 25 (0, 0))) ∧ Aside0 (Below w.heap.size w w'))
  case atStart => exact ⟨0, rfl, ⟨Nat.zero_le _⟩, ⟨by omega⟩, HO, BX, HB⟩
  case round =>
    clear HO HB BX
    obtain ⟨i, rfl, HI, HGK, HO, BX, HB⟩ := hrel
    by_cases hlt : i < l0.length
    · have hltz : decide ((i : Int) < (l0.length : Int)) = true := decide_eq_true (by omega)
      obtain ⟨ad, ea, hx0, hx1, hx2, hx3, hx4⟩ := at_T71 HR0.out (i : Int) (by omega) (by omega)
      cases ea
      rw [Int.toNat_natCast] at hx0 hx1 hx2 hx3 hx4
      obtain ⟨y, hy⟩ : ∃ y, l0[i]? = some y := ⟨_, List.getElem?_eq_getElem hlt⟩
      have hrd : rd_T71 l0 (i : Int) = y := by simp [rd_T71, List.getD_eq_getElem?_getD, hy]
      have HY := Aside0.mk hy
      rw [hrd] at hx0 hx1 hx2 hx3 hx4
      clear hrd hy
      have up : ∀ (a : Addr) (v : Value), w.cell? a = some v → wr.cell? a = some v := fun a v h => (HB.out.cell (World.block_lt_of_cell? w _ h)).trans h
      replace hx0 := up _ _ hx0; replace hx1 := up _ _ hx1; replace hx2 := up _ _ hx2; replace hx3 := up _ _ hx3; replace hx4 := up _ _ hx4
      clear up
      have h0 : decide (0 ≤ (i : Int)) = true := decide_eq_true (by omega)
      have HYM := Aside0.mk (List.mem_of_getElem? HY.out)
      obtain ⟨q0, q1, q2, q3, q4⟩ := tbOk_iff (HOK.out y HYM.out)
      have hgo := tbGoals_eq y
      have HST := Aside0.mk (tbTable_next u0 u1 u2 p (N : Int) l0 i y HY.out)
      have htl := tbTable_len u0 u1 u2 p (N : Int) (l0.take i)
      obtain ⟨r1, hr1⟩ : ∃ r, r = (tbGoals y).1 := ⟨_, rfl⟩
      obtain ⟨r2, hr2⟩ : ∃ r, r = (tbGoals y).2.1 := ⟨_, rfl⟩
      obtain ⟨r3, hr3⟩ : ∃ r, r = (tbGoals y).2.2 := ⟨_, rfl⟩
      rw [← hr1, ← hr2, ← hr3] at hgo
      have HGO := Aside0.mk hgo
      have HR1 := Aside0.mk hr1
      have HR2 := Aside0.mk hr2
      have HR3 := Aside0.mk hr3
      have HTL := Aside0.mk htl
      have Q := Aside0.mk (And.intro q0 (And.intro q1 (And.intro q2 (And.intro q3 q4))))
      clear hgo hr1 hr2 hr3 htl q0 q1 q2 q3 q4
      generalize tbTable u0 u1 u2 p (N : Int) (l0.take i) = T at HO HST HTL
      cases r3 with
      | false =>
        go_wp2_with fail
        refine (impl_GoalsOf.calls y.f0 y.f1 y.f2 y.f3 y.f4 r1 r2 false _ HGO.out).mono ?_
        rintro e w1 ⟨rfl, hb⟩
        have HO1 := Aside0.mk (Kd.R_below (Kd.R_alloc HO.out _) hb)
        have BX1 := Aside0.mk (blk_below (blk_alloc BX.out _) hb)
        have HB1 := Aside0.mk (below_then (below_alloc HB.out _) (below_size (below_alloc HB.out _)) hb)
        clear hb
        go_wp2
        go_roundg (l0.length - (i + 1))
        case measure => have := HGK.out; omega
        case rel => exact ⟨i + 1, by go_num, ⟨by omega⟩, ⟨Nat.le_refl _⟩, ⟨by rw [HST.out, tbStep, ← HR3.out]; simpa using HO1.out⟩, BX1, HB1⟩
      | true =>
        have hcall : ∀ W, Below w.heap.size w W → Calls Try.prog G (#[.agg #[.int .i64 y.f0, .int .i64 y.f1, .int .i64 y.f2, .int .i64 y.f3, .int .i64 y.f4]] ++ lb) W fun e w' => e = .returned (.bool (p y)) ∧ Below W.heap.size W w' := fun W hW => HP.out W y HYM.out hW
        rcases Bool.eq_false_or_eq_true (p y) with hq | hq
        all_goals
          have HQ := Aside0.mk hq
          rw [hq] at hcall
          have HC := Aside0.mk hcall
          clear hq hcall
          go_wp2_with fail
          refine (impl_GoalsOf.calls y.f0 y.f1 y.f2 y.f3 y.f4 r1 r2 true _ HGO.out).mono ?_
          rintro e w1 ⟨rfl, hb⟩
          have HO1 := Aside0.mk (Kd.R_below (Kd.R_alloc HO.out _) hb)
          have BX1 := Aside0.mk (blk_below (blk_alloc BX.out _) hb)
          have HB1 := Aside0.mk (below_then (below_alloc HB.out _) (below_size (below_alloc HB.out _)) hb)
          have BY1 := Aside0.mk (blk_below (blk_new wr _) hb)
          clear hb
          have hy0 := (blk_cell BY1.out 0).trans rfl; have hy1 := (blk_cell BY1.out 1).trans rfl; have hy2 := (blk_cell BY1.out 2).trans rfl; have hy3 := (blk_cell BY1.out 3).trans rfl; have hy4 := (blk_cell BY1.out 4).trans rfl
          go_wp2_with fail
          refine (HC.out _ HB1.out).mono ?_
          rintro e w2 ⟨rfl, hb⟩
          have HO2 := Aside0.mk (Kd.R_below HO1.out hb)
          have BX2 := Aside0.mk (blk_below BX1.out hb)
          have HB2 := Aside0.mk (below_then HB1.out (below_size HB1.out) hb)
          have BY2 := Aside0.mk (blk_below BY1.out hb)
          clear hb hy0 hy1 hy2 hy3 hy4 HO BX HB HO1 BX1 HB1 BY1 HC
        · have hy0 := (blk_cell BY2.out 0).trans rfl; have hy1 := (blk_cell BY2.out 1).trans rfl
          have b0 := eq_true Q.out.1
          have b1 := eq_true Q.out.2.1
          have b2 := eq_true Q.out.2.2.1
          have b3 := eq_true Q.out.2.2.2.1
          go_wp2_with fail
          go_quiet (fail)
          obtain ⟨W0, hW0⟩ : ∃ W0, W0 = w2.drewN nq := ⟨_, rfl⟩
          have S0 := Aside0.mk ((TbS.start (a := y.f1.toNat) (h := y.f0.toNat) HO2.out BX2.out HB2.out (by have := Q.out; omega) (by have := Q.out; omega) (by have := Q.out; omega) (by rw [HTL.out, Int.toNat_natCast]) HG.out).drewN nq)
          rw [← hW0] at S0
          rw [← hW0]
          clear hW0 HO2 BX2 HB2 BY2 hy0 hy1 b0 b1 b2 b3
          obtain ⟨X0, EX0⟩ : ∃ z, z = T.getD y.f0.toNat z74 := ⟨_, rfl⟩
          obtain ⟨Y0, EY0⟩ : ∃ z, z = T.getD y.f1.toNat z74 := ⟨_, rfl⟩
          rw [← EX0, ← EY0] at S0
          replace EX0 := Aside0.mk EX0
          replace EY0 := Aside0.mk EY0
          go_upto_region 8 with (fail)
          have hcl : W0.cell? ⟨g, y.f0.toNat * 7, none⟩ = some (.int .i64 (tbGet X0 0)) := S0.out.cellH 0 (by decide)
          have hfl : W0.frozen? ⟨g, y.f0.toNat * 7, none⟩ = false := S0.out.frzH 0 (by decide)
          go_upto_region 9 with (fail)
          have S1 := Aside0.mk ((S0.out.setH 0 (by decide) (wrap64 (tbGet X0 0 + 1))))
          clear S0 hcl hfl
          obtain ⟨X1, EX1⟩ : ∃ z, z = tbAdd X0 0 1 := ⟨_, rfl⟩
          replace S1 : Aside0 (TbS w g cap N T y.f0.toNat y.f1.toNat w.heap.size #[.int .i64 u0, .int .i64 u1, .int .i64 u2, .slice A3 n3 c3, .bool b4] (W0.setCell ⟨g, y.f0.toNat * 7, none⟩ (.int .i64 (wrap64 (tbGet X0 0 + 1)))) X1 Y0) := by rw [EX1]; exact S1
          replace EX1 := Aside0.mk EX1
          generalize W0.setCell ⟨g, y.f0.toNat * 7, none⟩ (.int .i64 (wrap64 (tbGet X0 0 + 1))) = W1 at S1 ⊢
          have hcl : W1.cell? ⟨g, y.f1.toNat * 7, none⟩ = some (.int .i64 (tbGet Y0 0)) := S1.out.cellA 0 (by decide)
          have hfl : W1.frozen? ⟨g, y.f1.toNat * 7, none⟩ = false := S1.out.frzA 0 (by decide)
          go_upto_region 10 with (fail)
          have S2 := Aside0.mk ((S1.out.setA 0 (by decide) (wrap64 (tbGet Y0 0 + 1))))
          clear S1 hcl hfl
          obtain ⟨Y1, EY1⟩ : ∃ z, z = tbAdd Y0 0 1 := ⟨_, rfl⟩
          replace S2 : Aside0 (TbS w g cap N T y.f0.toNat y.f1.toNat w.heap.size #[.int .i64 u0, .int .i64 u1, .int .i64 u2, .slice A3 n3 c3, .bool b4] (W1.setCell ⟨g, y.f1.toNat * 7, none⟩ (.int .i64 (wrap64 (tbGet Y0 0 + 1)))) X1 Y1) := by rw [EY1]; exact S2
          replace EY1 := Aside0.mk EY1
          generalize W1.setCell ⟨g, y.f1.toNat * 7, none⟩ (.int .i64 (wrap64 (tbGet Y0 0 + 1))) = W2 at S2 ⊢
          have hcl : W2.cell? ⟨g, y.f0.toNat * 7 + 4, none⟩ = some (.int .i64 (tbGet X1 4)) := S2.out.cellH 4 (by decide)
          have hfl : W2.frozen? ⟨g, y.f0.toNat * 7 + 4, none⟩ = false := S2.out.frzH 4 (by decide)
          go_upto_region 11 with (fail)
          have S3 := Aside0.mk ((S2.out.setH 4 (by decide) (wrap64 (tbGet X1 4 + r1))))
          clear S2 hcl hfl
          obtain ⟨X2, EX2⟩ : ∃ z, z = tbAdd X1 4 r1 := ⟨_, rfl⟩
          replace S3 : Aside0 (TbS w g cap N T y.f0.toNat y.f1.toNat w.heap.size #[.int .i64 u0, .int .i64 u1, .int .i64 u2, .slice A3 n3 c3, .bool b4] (W2.setCell ⟨g, y.f0.toNat * 7 + 4, none⟩ (.int .i64 (wrap64 (tbGet X1 4 + r1)))) X2 Y1) := by rw [EX2]; exact S3
          replace EX2 := Aside0.mk EX2
          generalize W2.setCell ⟨g, y.f0.toNat * 7 + 4, none⟩ (.int .i64 (wrap64 (tbGet X1 4 + r1))) = W3 at S3 ⊢
          have hcl : W3.cell? ⟨g, y.f0.toNat * 7 + 5, none⟩ = some (.int .i64 (tbGet X2 5)) := S3.out.cellH 5 (by decide)
          have hfl : W3.frozen? ⟨g, y.f0.toNat * 7 + 5, none⟩ = false := S3.out.frzH 5 (by decide)
          go_upto_region 12 with (fail)
          have S4 := Aside0.mk ((S3.out.setH 5 (by decide) (wrap64 (tbGet X2 5 + r2))))
          clear S3 hcl hfl
          obtain ⟨X3, EX3⟩ : ∃ z, z = tbAdd X2 5 r2 := ⟨_, rfl⟩
          replace S4 : Aside0 (TbS w g cap N T y.f0.toNat y.f1.toNat w.heap.size #[.int .i64 u0, .int .i64 u1, .int .i64 u2, .slice A3 n3 c3, .bool b4] (W3.setCell ⟨g, y.f0.toNat * 7 + 5, none⟩ (.int .i64 (wrap64 (tbGet X2 5 + r2)))) X3 Y1) := by rw [EX3]; exact S4
          replace EX3 := Aside0.mk EX3
          generalize W3.setCell ⟨g, y.f0.toNat * 7 + 5, none⟩ (.int .i64 (wrap64 (tbGet X2 5 + r2))) = W4 at S4 ⊢
          have hcl : W4.cell? ⟨g, y.f1.toNat * 7 + 4, none⟩ = some (.int .i64 (tbGet Y1 4)) := S4.out.cellA 4 (by decide)
          have hfl : W4.frozen? ⟨g, y.f1.toNat * 7 + 4, none⟩ = false := S4.out.frzA 4 (by decide)
          go_upto_region 13 with (fail)
          have S5 := Aside0.mk ((S4.out.setA 4 (by decide) (wrap64 (tbGet Y1 4 + r2))))
          clear S4 hcl hfl
          obtain ⟨Y2, EY2⟩ : ∃ z, z = tbAdd Y1 4 r2 := ⟨_, rfl⟩
          replace S5 : Aside0 (TbS w g cap N T y.f0.toNat y.f1.toNat w.heap.size #[.int .i64 u0, .int .i64 u1, .int .i64 u2, .slice A3 n3 c3, .bool b4] (W4.setCell ⟨g, y.f1.toNat * 7 + 4, none⟩ (.int .i64 (wrap64 (tbGet Y1 4 + r2)))) X3 Y2) := by rw [EY2]; exact S5
          replace EY2 := Aside0.mk EY2
          generalize W4.setCell ⟨g, y.f1.toNat * 7 + 4, none⟩ (.int .i64 (wrap64 (tbGet Y1 4 + r2))) = W5 at S5 ⊢
          have hcl : W5.cell? ⟨g, y.f1.toNat * 7 + 5, none⟩ = some (.int .i64 (tbGet Y2 5)) := S5.out.cellA 5 (by decide)
          have hfl : W5.frozen? ⟨g, y.f1.toNat * 7 + 5, none⟩ = false := S5.out.frzA 5 (by decide)
          go_upto_region 18 with (fail)
          have S6 := Aside0.mk ((S5.out.setA 5 (by decide) (wrap64 (tbGet Y2 5 + r1))))
          clear S5 hcl hfl
          obtain ⟨Y3, EY3⟩ : ∃ z, z = tbAdd Y2 5 r1 := ⟨_, rfl⟩
          replace S6 : Aside0 (TbS w g cap N T y.f0.toNat y.f1.toNat w.heap.size #[.int .i64 u0, .int .i64 u1, .int .i64 u2, .slice A3 n3 c3, .bool b4] (W5.setCell ⟨g, y.f1.toNat * 7 + 5, none⟩ (.int .i64 (wrap64 (tbGet Y2 5 + r1)))) X3 Y3) := by rw [EY3]; exact S6
          replace EY3 := Aside0.mk EY3
          generalize W5.setCell ⟨g, y.f1.toNat * 7 + 5, none⟩ (.int .i64 (wrap64 (tbGet Y2 5 + r1))) = W6 at S6 ⊢
          rcases (show r2 < r1 ∨ (¬ r2 < r1 ∧ r1 < r2) ∨ (¬ r2 < r1 ∧ ¬ r1 < r2) by omega) with k1 | ⟨k1, k2⟩ | ⟨k1, k2⟩
          · go_upto_region 19 with (fail)
            have hcl : W6.cell? ⟨g, y.f0.toNat * 7 + 1, none⟩ = some (.int .i64 (tbGet X3 1)) := S6.out.cellH 1 (by decide)
            have hfl : W6.frozen? ⟨g, y.f0.toNat * 7 + 1, none⟩ = false := S6.out.frzH 1 (by decide)
            go_upto_region 20 with (fail)
            have S7 := Aside0.mk ((S6.out.setH 1 (by decide) (wrap64 (tbGet X3 1 + 1))))
            clear S6 hcl hfl
            obtain ⟨X4, EX4⟩ : ∃ z, z = tbAdd X3 1 1 := ⟨_, rfl⟩
            replace S7 : Aside0 (TbS w g cap N T y.f0.toNat y.f1.toNat w.heap.size #[.int .i64 u0, .int .i64 u1, .int .i64 u2, .slice A3 n3 c3, .bool b4] (W6.setCell ⟨g, y.f0.toNat * 7 + 1, none⟩ (.int .i64 (wrap64 (tbGet X3 1 + 1)))) X4 Y3) := by rw [EX4]; exact S7
            replace EX4 := Aside0.mk EX4
            generalize W6.setCell ⟨g, y.f0.toNat * 7 + 1, none⟩ (.int .i64 (wrap64 (tbGet X3 1 + 1))) = W7 at S7 ⊢
            have hcl : W7.cell? ⟨g, y.f1.toNat * 7 + 3, none⟩ = some (.int .i64 (tbGet Y3 3)) := S7.out.cellA 3 (by decide)
            have hfl : W7.frozen? ⟨g, y.f1.toNat * 7 + 3, none⟩ = false := S7.out.frzA 3 (by decide)
            go_upto_region 21 with (fail)
            have S8 := Aside0.mk ((S7.out.setA 3 (by decide) (wrap64 (tbGet Y3 3 + 1))))
            clear S7 hcl hfl
            obtain ⟨Y4, EY4⟩ : ∃ z, z = tbAdd Y3 3 1 := ⟨_, rfl⟩
            replace S8 : Aside0 (TbS w g cap N T y.f0.toNat y.f1.toNat w.heap.size #[.int .i64 u0, .int .i64 u1, .int .i64 u2, .slice A3 n3 c3, .bool b4] (W7.setCell ⟨g, y.f1.toNat * 7 + 3, none⟩ (.int .i64 (wrap64 (tbGet Y3 3 + 1)))) X4 Y4) := by rw [EY4]; exact S8
            replace EY4 := Aside0.mk EY4
            generalize W7.setCell ⟨g, y.f1.toNat * 7 + 3, none⟩ (.int .i64 (wrap64 (tbGet Y3 3 + 1))) = W8 at S8 ⊢
            have hcl : W8.cell? ⟨g, y.f0.toNat * 7 + 6, none⟩ = some (.int .i64 (tbGet X4 6)) := S8.out.cellH 6 (by decide)
            have hfl : W8.frozen? ⟨g, y.f0.toNat * 7 + 6, none⟩ = false := S8.out.frzH 6 (by decide)
            have hbl : W8.cell? ⟨w.heap.size, 0, none⟩ = some (.int .i64 u0) := (blk_cell S8.out.box 0).trans rfl
            go_region
            have S9 := Aside0.mk ((S8.out.setH 6 (by decide) (wrap64 (tbGet X4 6 + u0))).drew)
            clear S8 hcl hfl hbl
            obtain ⟨X5, EX5⟩ : ∃ z, z = tbAdd X4 6 u0 := ⟨_, rfl⟩
            replace S9 : Aside0 (TbS w g cap N T y.f0.toNat y.f1.toNat w.heap.size #[.int .i64 u0, .int .i64 u1, .int .i64 u2, .slice A3 n3 c3, .bool b4] ((W8.setCell ⟨g, y.f0.toNat * 7 + 6, none⟩ (.int .i64 (wrap64 (tbGet X4 6 + u0)))).drew) X5 Y4) := by rw [EX5]; exact S9
            replace EX5 := Aside0.mk EX5
            generalize (W8.setCell ⟨g, y.f0.toNat * 7 + 6, none⟩ (.int .i64 (wrap64 (tbGet X4 6 + u0)))).drew = W9 at S9 ⊢
            go_upto_region 22 with (fail)
            have hcl : W9.cell? ⟨g, y.f1.toNat * 7 + 6, none⟩ = some (.int .i64 (tbGet Y4 6)) := S9.out.cellA 6 (by decide)
            have hfl : W9.frozen? ⟨g, y.f1.toNat * 7 + 6, none⟩ = false := S9.out.frzA 6 (by decide)
            have hbl : W9.cell? ⟨w.heap.size, 2, none⟩ = some (.int .i64 u2) := (blk_cell S9.out.box 2).trans rfl
            go_region
            have S10 := Aside0.mk ((S9.out.setA 6 (by decide) (wrap64 (tbGet Y4 6 + u2))).drew)
            clear S9 hcl hfl hbl
            obtain ⟨Y5, EY5⟩ : ∃ z, z = tbAdd Y4 6 u2 := ⟨_, rfl⟩
            replace S10 : Aside0 (TbS w g cap N T y.f0.toNat y.f1.toNat w.heap.size #[.int .i64 u0, .int .i64 u1, .int .i64 u2, .slice A3 n3 c3, .bool b4] ((W9.setCell ⟨g, y.f1.toNat * 7 + 6, none⟩ (.int .i64 (wrap64 (tbGet Y4 6 + u2)))).drew) X5 Y5) := by rw [EY5]; exact S10
            replace EY5 := Aside0.mk EY5
            generalize (W9.setCell ⟨g, y.f1.toNat * 7 + 6, none⟩ (.int .i64 (wrap64 (tbGet Y4 6 + u2)))).drew = W10 at S10 ⊢
            go_wp2
            go_roundg (l0.length - (i + 1))
            case measure => have := HGK.out; omega
            case rel =>
              refine ⟨i + 1, by go_num, ⟨by omega⟩, ⟨Nat.le_refl _⟩, ⟨?_⟩, ⟨S10.out.box⟩, ⟨S10.out.bel⟩⟩
              have e1 : tbStep u0 u1 u2 p T y = (T.set y.f0.toNat X5).set y.f1.toNat Y5 := by
                unfold tbStep tbPlay tbIn
                rw [← HR3.out, HQ.out, ← HR1.out, ← HR2.out, Bool.and_self, if_pos rfl, ← EX0.out, ← EY0.out, if_pos (show r1 > r2 by omega), EX5.out, EX4.out, EX3.out, EX2.out, EX1.out, EY5.out, EY4.out, EY3.out, EY2.out, EY1.out]
              rw [HST.out, e1]
              exact S10.out.row
          · go_upto_region 24 with (fail)
            have hcl : W6.cell? ⟨g, y.f1.toNat * 7 + 1, none⟩ = some (.int .i64 (tbGet Y3 1)) := S6.out.cellA 1 (by decide)
            have hfl : W6.frozen? ⟨g, y.f1.toNat * 7 + 1, none⟩ = false := S6.out.frzA 1 (by decide)
            go_upto_region 25 with (fail)
            have S7 := Aside0.mk ((S6.out.setA 1 (by decide) (wrap64 (tbGet Y3 1 + 1))))
            clear S6 hcl hfl
            obtain ⟨Y4, EY4⟩ : ∃ z, z = tbAdd Y3 1 1 := ⟨_, rfl⟩
            replace S7 : Aside0 (TbS w g cap N T y.f0.toNat y.f1.toNat w.heap.size #[.int .i64 u0, .int .i64 u1, .int .i64 u2, .slice A3 n3 c3, .bool b4] (W6.setCell ⟨g, y.f1.toNat * 7 + 1, none⟩ (.int .i64 (wrap64 (tbGet Y3 1 + 1)))) X3 Y4) := by rw [EY4]; exact S7
            replace EY4 := Aside0.mk EY4
            generalize W6.setCell ⟨g, y.f1.toNat * 7 + 1, none⟩ (.int .i64 (wrap64 (tbGet Y3 1 + 1))) = W7 at S7 ⊢
            have hcl : W7.cell? ⟨g, y.f0.toNat * 7 + 3, none⟩ = some (.int .i64 (tbGet X3 3)) := S7.out.cellH 3 (by decide)
            have hfl : W7.frozen? ⟨g, y.f0.toNat * 7 + 3, none⟩ = false := S7.out.frzH 3 (by decide)
            go_upto_region 26 with (fail)
            have S8 := Aside0.mk ((S7.out.setH 3 (by decide) (wrap64 (tbGet X3 3 + 1))))
            clear S7 hcl hfl
            obtain ⟨X4, EX4⟩ : ∃ z, z = tbAdd X3 3 1 := ⟨_, rfl⟩
            replace S8 : Aside0 (TbS w g cap N T y.f0.toNat y.f1.toNat w.heap.size #[.int .i64 u0, .int .i64 u1, .int .i64 u2, .slice A3 n3 c3, .bool b4] (W7.setCell ⟨g, y.f0.toNat * 7 + 3, none⟩ (.int .i64 (wrap64 (tbGet X3 3 + 1)))) X4 Y4) := by rw [EX4]; exact S8
            replace EX4 := Aside0.mk EX4
            generalize W7.setCell ⟨g, y.f0.toNat * 7 + 3, none⟩ (.int .i64 (wrap64 (tbGet X3 3 + 1))) = W8 at S8 ⊢
            have hcl : W8.cell? ⟨g, y.f1.toNat * 7 + 6, none⟩ = some (.int .i64 (tbGet Y4 6)) := S8.out.cellA 6 (by decide)
            have hfl : W8.frozen? ⟨g, y.f1.toNat * 7 + 6, none⟩ = false := S8.out.frzA 6 (by decide)
            have hbl : W8.cell? ⟨w.heap.size, 0, none⟩ = some (.int .i64 u0) := (blk_cell S8.out.box 0).trans rfl
            go_region
            have S9 := Aside0.mk ((S8.out.setA 6 (by decide) (wrap64 (tbGet Y4 6 + u0))).drew)
            clear S8 hcl hfl hbl
            obtain ⟨Y5, EY5⟩ : ∃ z, z = tbAdd Y4 6 u0 := ⟨_, rfl⟩
            replace S9 : Aside0 (TbS w g cap N T y.f0.toNat y.f1.toNat w.heap.size #[.int .i64 u0, .int .i64 u1, .int .i64 u2, .slice A3 n3 c3, .bool b4] ((W8.setCell ⟨g, y.f1.toNat * 7 + 6, none⟩ (.int .i64 (wrap64 (tbGet Y4 6 + u0)))).drew) X4 Y5) := by rw [EY5]; exact S9
            replace EY5 := Aside0.mk EY5
            generalize (W8.setCell ⟨g, y.f1.toNat * 7 + 6, none⟩ (.int .i64 (wrap64 (tbGet Y4 6 + u0)))).drew = W9 at S9 ⊢
            go_upto_region 27 with (fail)
            have hcl : W9.cell? ⟨g, y.f0.toNat * 7 + 6, none⟩ = some (.int .i64 (tbGet X4 6)) := S9.out.cellH 6 (by decide)
            have hfl : W9.frozen? ⟨g, y.f0.toNat * 7 + 6, none⟩ = false := S9.out.frzH 6 (by decide)
            have hbl : W9.cell? ⟨w.heap.size, 2, none⟩ = some (.int .i64 u2) := (blk_cell S9.out.box 2).trans rfl
            go_region
            have S10 := Aside0.mk ((S9.out.setH 6 (by decide) (wrap64 (tbGet X4 6 + u2))).drew)
            clear S9 hcl hfl hbl
            obtain ⟨X5, EX5⟩ : ∃ z, z = tbAdd X4 6 u2 := ⟨_, rfl⟩
            replace S10 : Aside0 (TbS w g cap N T y.f0.toNat y.f1.toNat w.heap.size #[.int .i64 u0, .int .i64 u1, .int .i64 u2, .slice A3 n3 c3, .bool b4] ((W9.setCell ⟨g, y.f0.toNat * 7 + 6, none⟩ (.int .i64 (wrap64 (tbGet X4 6 + u2)))).drew) X5 Y5) := by rw [EX5]; exact S10
            replace EX5 := Aside0.mk EX5
            generalize (W9.setCell ⟨g, y.f0.toNat * 7 + 6, none⟩ (.int .i64 (wrap64 (tbGet X4 6 + u2)))).drew = W10 at S10 ⊢
            go_wp2
            go_roundg (l0.length - (i + 1))
            case measure => have := HGK.out; omega
            case rel =>
              refine ⟨i + 1, by go_num, ⟨by omega⟩, ⟨Nat.le_refl _⟩, ⟨?_⟩, ⟨S10.out.box⟩, ⟨S10.out.bel⟩⟩
              have e1 : tbStep u0 u1 u2 p T y = (T.set y.f0.toNat X5).set y.f1.toNat Y5 := by
                unfold tbStep tbPlay tbIn
                rw [← HR3.out, HQ.out, ← HR1.out, ← HR2.out, Bool.and_self, if_pos rfl, ← EX0.out, ← EY0.out, if_neg (show ¬ r1 > r2 by omega), if_pos (show r1 < r2 by omega), EX5.out, EX4.out, EX3.out, EX2.out, EX1.out, EY5.out, EY4.out, EY3.out, EY2.out, EY1.out]
              rw [HST.out, e1]
              exact S10.out.row
          · go_upto_region 14 with (fail)
            have hcl : W6.cell? ⟨g, y.f0.toNat * 7 + 2, none⟩ = some (.int .i64 (tbGet X3 2)) := S6.out.cellH 2 (by decide)
            have hfl : W6.frozen? ⟨g, y.f0.toNat * 7 + 2, none⟩ = false := S6.out.frzH 2 (by decide)
            go_upto_region 15 with (fail)
            have S7 := Aside0.mk ((S6.out.setH 2 (by decide) (wrap64 (tbGet X3 2 + 1))))
            clear S6 hcl hfl
            obtain ⟨X4, EX4⟩ : ∃ z, z = tbAdd X3 2 1 := ⟨_, rfl⟩
            replace S7 : Aside0 (TbS w g cap N T y.f0.toNat y.f1.toNat w.heap.size #[.int .i64 u0, .int .i64 u1, .int .i64 u2, .slice A3 n3 c3, .bool b4] (W6.setCell ⟨g, y.f0.toNat * 7 + 2, none⟩ (.int .i64 (wrap64 (tbGet X3 2 + 1)))) X4 Y3) := by rw [EX4]; exact S7
            replace EX4 := Aside0.mk EX4
            generalize W6.setCell ⟨g, y.f0.toNat * 7 + 2, none⟩ (.int .i64 (wrap64 (tbGet X3 2 + 1))) = W7 at S7 ⊢
            have hcl : W7.cell? ⟨g, y.f1.toNat * 7 + 2, none⟩ = some (.int .i64 (tbGet Y3 2)) := S7.out.cellA 2 (by decide)
            have hfl : W7.frozen? ⟨g, y.f1.toNat * 7 + 2, none⟩ = false := S7.out.frzA 2 (by decide)
            go_upto_region 16 with (fail)
            have S8 := Aside0.mk ((S7.out.setA 2 (by decide) (wrap64 (tbGet Y3 2 + 1))))
            clear S7 hcl hfl
            obtain ⟨Y4, EY4⟩ : ∃ z, z = tbAdd Y3 2 1 := ⟨_, rfl⟩
            replace S8 : Aside0 (TbS w g cap N T y.f0.toNat y.f1.toNat w.heap.size #[.int .i64 u0, .int .i64 u1, .int .i64 u2, .slice A3 n3 c3, .bool b4] (W7.setCell ⟨g, y.f1.toNat * 7 + 2, none⟩ (.int .i64 (wrap64 (tbGet Y3 2 + 1)))) X4 Y4) := by rw [EY4]; exact S8
            replace EY4 := Aside0.mk EY4
            generalize W7.setCell ⟨g, y.f1.toNat * 7 + 2, none⟩ (.int .i64 (wrap64 (tbGet Y3 2 + 1))) = W8 at S8 ⊢
            have hcl : W8.cell? ⟨g, y.f0.toNat * 7 + 6, none⟩ = some (.int .i64 (tbGet X4 6)) := S8.out.cellH 6 (by decide)
            have hfl : W8.frozen? ⟨g, y.f0.toNat * 7 + 6, none⟩ = false := S8.out.frzH 6 (by decide)
            have hbl : W8.cell? ⟨w.heap.size, 1, none⟩ = some (.int .i64 u1) := (blk_cell S8.out.box 1).trans rfl
            go_region
            have S9 := Aside0.mk ((S8.out.setH 6 (by decide) (wrap64 (tbGet X4 6 + u1))).drew)
            clear S8 hcl hfl hbl
            obtain ⟨X5, EX5⟩ : ∃ z, z = tbAdd X4 6 u1 := ⟨_, rfl⟩
            replace S9 : Aside0 (TbS w g cap N T y.f0.toNat y.f1.toNat w.heap.size #[.int .i64 u0, .int .i64 u1, .int .i64 u2, .slice A3 n3 c3, .bool b4] ((W8.setCell ⟨g, y.f0.toNat * 7 + 6, none⟩ (.int .i64 (wrap64 (tbGet X4 6 + u1)))).drew) X5 Y4) := by rw [EX5]; exact S9
            replace EX5 := Aside0.mk EX5
            generalize (W8.setCell ⟨g, y.f0.toNat * 7 + 6, none⟩ (.int .i64 (wrap64 (tbGet X4 6 + u1)))).drew = W9 at S9 ⊢
            go_upto_region 17 with (fail)
            have hcl : W9.cell? ⟨g, y.f1.toNat * 7 + 6, none⟩ = some (.int .i64 (tbGet Y4 6)) := S9.out.cellA 6 (by decide)
            have hfl : W9.frozen? ⟨g, y.f1.toNat * 7 + 6, none⟩ = false := S9.out.frzA 6 (by decide)
            have hbl : W9.cell? ⟨w.heap.size, 1, none⟩ = some (.int .i64 u1) := (blk_cell S9.out.box 1).trans rfl
            go_region
            have S10 := Aside0.mk ((S9.out.setA 6 (by decide) (wrap64 (tbGet Y4 6 + u1))).drew)
            clear S9 hcl hfl hbl
            obtain ⟨Y5, EY5⟩ : ∃ z, z = tbAdd Y4 6 u1 := ⟨_, rfl⟩
            replace S10 : Aside0 (TbS w g cap N T y.f0.toNat y.f1.toNat w.heap.size #[.int .i64 u0, .int .i64 u1, .int .i64 u2, .slice A3 n3 c3, .bool b4] ((W9.setCell ⟨g, y.f1.toNat * 7 + 6, none⟩ (.int .i64 (wrap64 (tbGet Y4 6 + u1)))).drew) X5 Y5) := by rw [EY5]; exact S10
            replace EY5 := Aside0.mk EY5
            generalize (W9.setCell ⟨g, y.f1.toNat * 7 + 6, none⟩ (.int .i64 (wrap64 (tbGet Y4 6 + u1)))).drew = W10 at S10 ⊢
            go_wp2
            go_roundg (l0.length - (i + 1))
            case measure => have := HGK.out; omega
            case rel =>
              refine ⟨i + 1, by go_num, ⟨by omega⟩, ⟨Nat.le_refl _⟩, ⟨?_⟩, ⟨S10.out.box⟩, ⟨S10.out.bel⟩⟩
              have e1 : tbStep u0 u1 u2 p T y = (T.set y.f0.toNat X5).set y.f1.toNat Y5 := by
                unfold tbStep tbPlay tbIn
                rw [← HR3.out, HQ.out, ← HR1.out, ← HR2.out, Bool.and_self, if_pos rfl, ← EX0.out, ← EY0.out, if_neg (show ¬ r1 > r2 by omega), if_neg (show ¬ r1 < r2 by omega), EX5.out, EX4.out, EX3.out, EX2.out, EX1.out, EY5.out, EY4.out, EY3.out, EY2.out, EY1.out]
              rw [HST.out, e1]
              exact S10.out.row
        · go_wp2
          go_roundg (l0.length - (i + 1))
          case measure => have := HGK.out; omega
          case rel => exact ⟨i + 1, by go_num, ⟨by omega⟩, ⟨Nat.le_refl _⟩, ⟨by rw [HST.out, tbStep, HQ.out, Bool.and_false]; simpa using HO2.out⟩, BX2, HB2⟩
    · have hltz : decide ((i : Int) < (l0.length : Int)) = false := decide_eq_false (by omega)
      have hi : i = l0.length := by have := HI.out; omega
      have HO' := Aside0.mk (p := Kd.R k74 74 wr w.heap.size (fun _ => True) (.slice (some ⟨g, 0, none⟩) N cap) (tbTable u0 u1 u2 p (N : Int) l0)) (by have h1 := HO.out; rw [hi, List.take_length] at h1; exact Kd.R_mono h1 (fun _ _ => trivial))
      clear hi HO
      go_wp2
      go_ret
      exact ⟨_, rfl, HO'.out, HB.out⟩
def impl_TableOf.g (a0_0 a0_1 a0_2 : Int) (a1 : Int) (l2 : List (S71)) : Option (List (S74)) := if ((decide (1 ≤ a1) && decide (a1 ≤ 100000)) && l2.all (tbOk a1)) = true then some (tbTable a0_0 a0_1 a0_2 (fun _ => true) a1 l2) else none
def impl_TableOf.f (k : Nat) (a0_0 : Int) (a0_1 : Int) (a0_2 : Int) (l0_3 : List Int) (a0_4 : Bool) (a1 : Int) (l2 : List (S71)) : Option (List (S74)) := (impl_areTables.f k a0_0 a0_1 a0_2 l0_3 a0_4 a1 l2).bind fun b => if b = true then impl_TableOf.g a0_0 a0_1 a0_2 a1 l2 else some []
theorem impl_TableOf.mono : ∀ a0_0 a0_1 a0_2 l0_3 a0_4 a1 l2 k, LeO (impl_TableOf.f k a0_0 a0_1 a0_2 l0_3 a0_4 a1 l2) (impl_TableOf.f (k + 1) a0_0 a0_1 a0_2 l0_3 a0_4 a1 l2) := fun a0_0 a0_1 a0_2 l0_3 a0_4 a1 l2 k =>
  LeO.bind (impl_areTables.mono _ _ _ _ _ _ _ k) (fun b => LeO.ite (LeO.refl _) (LeO.refl _))
set_option maxHeartbeats 800000 in
theorem impl_TableOf.lit (x : S71) (W : World) : Calls Try.prog 88 (#[.agg #[.int .i64 x.f0, .int .i64 x.f1, .int .i64 x.f2, .int .i64 x.f3, .int .i64 x.f4]] ++ #[]) W fun e w' => e = .returned (.bool true) ∧ Below W.heap.size W w' := by
  have hu71 := Try.underlying71
  go_enter Try.func88, Try.ntmps88
  go_wp2
  go_ret
  exact ⟨rfl, (Below.refl _ _).alloc (Nat.le_refl _) _⟩
set_option maxHeartbeats 2000000 in
theorem impl_TableOf.calls (k : Nat) (a0_0 : Int) (a0_1 : Int) (a0_2 : Int) (A0_3 : Option Addr) (c0_3 : Nat) (l0_3 : List Int) (a0_4 : Bool) (a1 : Int) (A2 : Option Addr) (c2 : Nat) (l2 : List (S71)) (r : List (S74)) (w : World) (hr0_3 : Kd.C (Kd.int .i64) w A0_3 l0_3.length l0_3) (hc0_3 : l0_3.length ≤ c0_3) (hr2 : Kd.C k71 w A2 l2.length l2) (hc2 : l2.length ≤ c2) (h : impl_TableOf.f k a0_0 a0_1 a0_2 l0_3 a0_4 a1 l2 = some r) :
    Calls Try.prog 35 #[.agg #[.int .i64 a0_0, .int .i64 a0_1, .int .i64 a0_2, .slice A0_3 l0_3.length c0_3, .bool a0_4], .int .i64 a1, .slice A2 l2.length c2] w fun e w' => ∃ v0_ : Value, e = .returned (v0_) ∧ Kd.R k74 74 w' w.heap.size (fun _ => True) v0_ r ∧ Below w.heap.size w w' := by
  have hu25 := Try.underlying25
  obtain ⟨b, hA, h⟩ := Option.bind_eq_some_iff.mp h
  have HR := Aside0.mk hr0_3
  have HC := Aside0.mk hc0_3
  have HR2 := Aside0.mk hr2
  have HC2 := Aside0.mk hc2
  have HA := Aside0.mk hA
  have H := Aside0.mk h
  have hmax : l2.length ≤ 9223372036854775807 := hr2.2.1
  clear hr0_3 hc0_3 hr2 hc2 hA h
  have HB0 := Aside0.mk ((Below.refl w.heap.size w).alloc (Nat.le_refl _) (.cells #[.int .i64 a0_0, .int .i64 a0_1, .int .i64 a0_2, .slice A0_3 l0_3.length c0_3, .bool a0_4] 25 (0, 0)))
  cases b with
  | false =>
    have hr := H.out
    rw [if_neg (by simp)] at hr
    obtain rfl := Option.some.inj hr
    clear hr H
    go_enter Try.func35, Try.ntmps35
    go_wp2_with fail
    refine (impl_areTables.calls k a0_0 a0_1 a0_2 A0_3 c0_3 l0_3 a0_4 a1 A2 c2 l2 false _ (Kd.C_below HR.out HB0.out) HC.out (Kd.C_below HR2.out HB0.out) HC2.out HA.out).mono ?_
    rintro e w2 ⟨rfl, hb⟩
    have HB := Aside0.mk (HB0.out.trans (hb.mono (by simp)))
    clear hb HB0
    go_wp2
    go_ret
    exact ⟨_, rfl, Kd.R_nil _ _ _ _ _, HB.out⟩
  | true =>
    have hr := H.out
    rw [if_pos rfl] at hr
    unfold impl_TableOf.g at hr
    by_cases hall : ((decide (1 ≤ a1) && decide (a1 ≤ 100000)) && l2.all (tbOk a1)) = true
    · rw [if_pos hall] at hr
      obtain rfl := Option.some.inj hr
      simp only [Bool.and_eq_true, decide_eq_true_eq, List.all_eq_true] at hall
      have HALL := Aside0.mk hall
      clear hr H hall
      go_enter Try.func35, Try.ntmps35
      go_wp2_with fail
      refine (impl_areTables.calls k a0_0 a0_1 a0_2 A0_3 c0_3 l0_3 a0_4 a1 A2 c2 l2 true _ (Kd.C_below HR.out HB0.out) HC.out (Kd.C_below HR2.out HB0.out) HC2.out HA.out).mono ?_
      rintro e w2 ⟨rfl, hb⟩
      have HB := Aside0.mk (HB0.out.trans (hb.mono (by simp)))
      have BX := Aside0.mk (blk_below (blk_new w _) hb)
      clear hb HB0
      have hx0 := (blk_cell BX.out 0).trans rfl; have hx1 := (blk_cell BX.out 1).trans rfl; have hx2 := (blk_cell BX.out 2).trans rfl; have hx3 := (blk_cell BX.out 3).trans rfl; have hx4 := (blk_cell BX.out 4).trans rfl
      go_wp2_with fail
      refine (tableOfG (fun _ => true) 88 #[] a0_0 a0_1 a0_2 A0_3 l0_3.length c0_3 a0_4 a1 A2 c2 l2 _ (Kd.C_below HR2.out HB.out) HC2.out HALL.out.1.1 HALL.out.1.2 HALL.out.2 (by intro args w; kernel_rfl) (fun W x _ _ => impl_TableOf.lit x W)).mono ?_
      rintro e w3 ⟨v0, rfl, ho, hb⟩
      have HO := Aside0.mk (Kd.R_lower (base' := w.heap.size) ho (below_size HB.out))
      have n1_ := Aside0.mk (below_then HB.out (below_size HB.out) hb)
      clear ho hb HB
      have HB := n1_
      clear n1_
      go_wp2
      go_ret
      exact ⟨_, rfl, HO.out, HB.out⟩
    · rw [if_neg hall] at hr; cases hr

-- NOT PRINTED: function 90 (impl_among)

/-! ### impl_TableAmong: function 43 -/
/-! among: the function value that impl.among makes of a group. -/
theorem am_index (t : Int) (x : List Int) (hn : x.length ≤ 9223372036854775807) (d : Nat) : ∀ (k i : Nat), i + d = x.length → d < k →
    ∃ r : Int, slices_Index_int_int.l0 k x t x.length i = some r ∧ ((0 ≤ r) ↔ t ∈ x.drop i) := by
  induction d with
  | zero =>
    intro k i hd hk
    obtain ⟨k, rfl⟩ : ∃ m, k = m + 1 := ⟨k - 1, by omega⟩
    simp only [slices_Index_int_int.l0]
    rw [if_neg (by omega), List.drop_of_length_le (by omega)]
    exact ⟨_, rfl, by simp⟩
  | succ d ih =>
    intro k i hd hk
    obtain ⟨k, rfl⟩ : ∃ m, k = m + 1 := ⟨k - 1, by omega⟩
    have hi : i < x.length := by omega
    obtain ⟨r, e, hr⟩ := ih k (i + 1) (by omega) (by omega)
    have hw : wrap64 ((i : Int) + 1) = ((i + 1 : Nat) : Int) := by unfold wrap64; omega
    have hrd : rd x (i : Int) = x[i] := by simp [rd, List.getD_eq_getElem?_getD, hi]
    simp only [slices_Index_int_int.l0]
    rw [if_pos (by omega), if_pos (by omega), if_pos (by omega), hrd, hw, e, List.drop_eq_getElem_cons hi]
    by_cases c : t = x[i]
    · rw [if_pos c]; exact ⟨_, rfl, ⟨fun _ => List.mem_cons.2 (.inl c), fun _ => by omega⟩⟩
    · rw [if_neg c]; exact ⟨_, rfl, hr.trans ⟨fun h => List.mem_cons_of_mem _ h, fun h => (List.mem_cons.1 h).resolve_left c⟩⟩
theorem am_contains (t : Int) (x : List Int) (hn : x.length ≤ 9223372036854775807) : slices_Contains_int_int.f (x.length + 1) x t = some (decide (t ∈ x)) := by
  unfold slices_Contains_int_int.f slices_Index_int_int.f
  obtain ⟨r, e, hr⟩ := am_index t x hn x.length (x.length + 1) 0 (by omega) (by omega)
  rw [show ((0 : Nat) : Int) = 0 from rfl] at e
  rw [e]
  rw [List.drop_zero] at hr
  show some (decide (r ≥ 0)) = _
  congr 1
  rw [decide_eq_decide]
  exact hr
def amongIn (l : List Int) (x : S71) : Bool := decide (x.f0 ∈ l) && decide (x.f1 ∈ l)
set_option maxHeartbeats 2000000 in
theorem am_lit (l : List Int) (A : Option Addr) (c : Nat) (x : S71) (b1 : Nat) (w : World) (hr : Kd.C (Kd.int .i64) w A l.length l) (hc : l.length ≤ c) (h1 : w.cell? ⟨b1, 0, none⟩ = some (.slice A l.length c)) :
    Calls Try.prog 113 #[.agg #[.int .i64 x.f0, .int .i64 x.f1, .int .i64 x.f2, .int .i64 x.f3, .int .i64 x.f4], .pointer (some ⟨b1, 0, none⟩)] w fun e w' => e = .returned (.bool (amongIn l x)) ∧ Below w.heap.size w w' := by
  have hu71 := Try.underlying71
  have hmax : l.length ≤ 9223372036854775807 := hr.2.1
  have l1 : b1 < w.heap.size := World.block_lt_of_cell? w _ h1
  have HC := Aside0.mk hc
  have HR := Aside0.mk hr
  have C1 := Aside0.mk (am_contains x.f0 l hmax)
  have C2 := Aside0.mk (am_contains x.f1 l hmax)
  clear hr hc
  unfold amongIn
  obtain ⟨p, hp⟩ : ∃ p, p = decide (x.f0 ∈ l) := ⟨_, rfl⟩
  obtain ⟨q, hq⟩ : ∃ q, q = decide (x.f1 ∈ l) := ⟨_, rfl⟩
  rw [← hp] at C1 ⊢
  rw [← hq] at C2 ⊢
  clear hp hq
  cases p with
  | false =>
    go_enter Try.func113, Try.ntmps113
    go_wp2_with fail
    refine (slices_Contains_int_int.calls (l.length + 1) A c l x.f0 false _ (Kd.C_alloc HR.out _) HC.out C1.out).mono ?_
    rintro e w2 ⟨rfl, hb⟩
    have HB := Aside0.mk (below_then ((Below.refl w.heap.size w).alloc (Nat.le_refl _) _) (by simp) hb.below)
    clear hb
    go_wp2
    go_ret
    exact ⟨rfl, HB.out⟩
  | true =>
    go_enter Try.func113, Try.ntmps113
    go_wp2_with fail
    refine (slices_Contains_int_int.calls (l.length + 1) A c l x.f0 true _ (Kd.C_alloc HR.out _) HC.out C1.out).mono ?_
    rintro e w2 ⟨rfl, hb⟩
    have HB := Aside0.mk (below_then ((Below.refl w.heap.size w).alloc (Nat.le_refl _) (.cells #[.int .i64 x.f0, .int .i64 x.f1, .int .i64 x.f2, .int .i64 x.f3, .int .i64 x.f4] 71 (0, 0))) (by simp) hb.below)
    have B71 := Aside0.mk (blk_below (blk_new w _) hb.below)
    have hc2 : w2.cell? ⟨b1, 0, none⟩ = some (.slice A l.length c) := (HB.out.cell l1).trans h1
    have hy1 := (blk_cell B71.out 1).trans rfl
    clear hb
    go_wp2_with fail
    refine (slices_Contains_int_int.calls (l.length + 1) A c l x.f1 q _ (Kd.C_below HR.out HB.out) HC.out C2.out).mono ?_
    rintro e w3 ⟨rfl, hb⟩
    have HB3 := Aside0.mk (below_then HB.out (below_size HB.out) hb.below)
    clear hb
    go_wp2
    go_ret
    exact ⟨by simp, HB3.out⟩
set_option maxHeartbeats 800000 in
theorem am_calls (A : Option Addr) (n c : Nat) (w : World) : Calls Try.prog 90 #[.slice A n c] w fun e w' => e = .returned (.func (.func 113) #[] #[.pointer (some ⟨w.heap.size, 0, none⟩)]) ∧ w' = w.alloc (.cells #[.slice A n c] 23 (0, 0)) := by
  go_enter Try.func90, Try.ntmps90
  go_wp2
  go_ret
  exact ⟨rfl, rfl⟩
def impl_TableAmong.g (a0_0 a0_1 a0_2 : Int) (a1 : Int) (l2 : List (S71)) (l3 : List Int) : Option (List (S74)) := if ((decide (1 ≤ a1) && decide (a1 ≤ 100000)) && l2.all (tbOk a1)) = true then some (tbTable a0_0 a0_1 a0_2 (amongIn l3) a1 l2) else none
def impl_TableAmong.f (k : Nat) (a0_0 : Int) (a0_1 : Int) (a0_2 : Int) (l0_3 : List Int) (a0_4 : Bool) (a1 : Int) (l2 : List (S71)) (l3 : List Int) : Option (List (S74)) := (impl_areTables.f k a0_0 a0_1 a0_2 l0_3 a0_4 a1 l2).bind fun b => if b = true then impl_TableAmong.g a0_0 a0_1 a0_2 a1 l2 l3 else some []
theorem impl_TableAmong.mono : ∀ a0_0 a0_1 a0_2 l0_3 a0_4 a1 l2 l3 k, LeO (impl_TableAmong.f k a0_0 a0_1 a0_2 l0_3 a0_4 a1 l2 l3) (impl_TableAmong.f (k + 1) a0_0 a0_1 a0_2 l0_3 a0_4 a1 l2 l3) := fun a0_0 a0_1 a0_2 l0_3 a0_4 a1 l2 l3 k =>
  LeO.bind (impl_areTables.mono _ _ _ _ _ _ _ k) (fun b => LeO.ite (LeO.refl _) (LeO.refl _))
set_option maxHeartbeats 4000000 in
set_option maxRecDepth 100000 in
theorem impl_TableAmong.calls (k : Nat) (a0_0 : Int) (a0_1 : Int) (a0_2 : Int) (A0_3 : Option Addr) (c0_3 : Nat) (l0_3 : List Int) (a0_4 : Bool) (a1 : Int) (A2 : Option Addr) (c2 : Nat) (l2 : List (S71)) (A3 : Option Addr) (c3 : Nat) (l3 : List Int) (r : List (S74)) (w : World) (hr0_3 : Kd.C (Kd.int .i64) w A0_3 l0_3.length l0_3) (hc0_3 : l0_3.length ≤ c0_3) (hr2 : Kd.C k71 w A2 l2.length l2) (hc2 : l2.length ≤ c2) (hr3 : Kd.C (Kd.int .i64) w A3 l3.length l3) (hc3 : l3.length ≤ c3) (h : impl_TableAmong.f k a0_0 a0_1 a0_2 l0_3 a0_4 a1 l2 l3 = some r) :
    Calls Try.prog 43 #[.agg #[.int .i64 a0_0, .int .i64 a0_1, .int .i64 a0_2, .slice A0_3 l0_3.length c0_3, .bool a0_4], .int .i64 a1, .slice A2 l2.length c2, .slice A3 l3.length c3] w fun e w' => ∃ v0_ : Value, e = .returned (v0_) ∧ Kd.R k74 74 w' w.heap.size (fun _ => True) v0_ r ∧ Below w.heap.size w w' := by
  have hu25 := Try.underlying25
  obtain ⟨b, hA, h⟩ := Option.bind_eq_some_iff.mp h
  have HR := Aside0.mk hr0_3
  have HC := Aside0.mk hc0_3
  have HR2 := Aside0.mk hr2
  have HC2 := Aside0.mk hc2
  have HR3 := Aside0.mk hr3
  have HC3 := Aside0.mk hc3
  have HA := Aside0.mk hA
  have H := Aside0.mk h
  have hmax : l2.length ≤ 9223372036854775807 := hr2.2.1
  have hmax3 : l3.length ≤ 9223372036854775807 := hr3.2.1
  clear hr0_3 hc0_3 hr2 hc2 hr3 hc3 hA h
  have HB0 := Aside0.mk ((Below.refl w.heap.size w).alloc (Nat.le_refl _) (.cells #[.int .i64 a0_0, .int .i64 a0_1, .int .i64 a0_2, .slice A0_3 l0_3.length c0_3, .bool a0_4] 25 (0, 0)))
  cases b with
  | false =>
    have hr := H.out
    rw [if_neg (by simp)] at hr
    obtain rfl := Option.some.inj hr
    clear hr H
    go_enter Try.func43, Try.ntmps43
    go_wp2_with fail
    refine (impl_areTables.calls k a0_0 a0_1 a0_2 A0_3 c0_3 l0_3 a0_4 a1 A2 c2 l2 false _ (Kd.C_below HR.out HB0.out) HC.out (Kd.C_below HR2.out HB0.out) HC2.out HA.out).mono ?_
    rintro e w2 ⟨rfl, hb⟩
    have HB := Aside0.mk (HB0.out.trans (hb.mono (by simp)))
    clear hb HB0
    go_wp2
    go_ret
    exact ⟨_, rfl, Kd.R_nil _ _ _ _ _, HB.out⟩
  | true =>
    have hr := H.out
    rw [if_pos rfl] at hr
    unfold impl_TableAmong.g at hr
    by_cases hall : ((decide (1 ≤ a1) && decide (a1 ≤ 100000)) && l2.all (tbOk a1)) = true
    · rw [if_pos hall] at hr
      obtain rfl := Option.some.inj hr
      simp only [Bool.and_eq_true, decide_eq_true_eq, List.all_eq_true] at hall
      have HALL := Aside0.mk hall
      clear hr H hall
      go_enter Try.func43, Try.ntmps43
      go_wp2_with fail
      refine (impl_areTables.calls k a0_0 a0_1 a0_2 A0_3 c0_3 l0_3 a0_4 a1 A2 c2 l2 true _ (Kd.C_below HR.out HB0.out) HC.out (Kd.C_below HR2.out HB0.out) HC2.out HA.out).mono ?_
      rintro e w2 ⟨rfl, hb⟩
      have HB := Aside0.mk (HB0.out.trans (hb.mono (by simp)))
      have BX := Aside0.mk (blk_below (blk_new w _) hb)
      clear hb HB0
      go_wp2_with fail
      refine start_ (n := 7) (S := fun w' => w'.cell? ⟨w.heap.size, 0, none⟩ = some (.int .i64 a0_0) ∧ w'.cell? ⟨w.heap.size, 1, none⟩ = some (.int .i64 a0_1) ∧ w'.cell? ⟨w.heap.size, 2, none⟩ = some (.int .i64 a0_2) ∧ w'.cell? ⟨w.heap.size, 3, none⟩ = some (.slice A0_3 l0_3.length c0_3) ∧ w'.cell? ⟨w.heap.size, 4, none⟩ = some (.bool a0_4)) (ds := []) #[false, false, false, false, false, false, false] (by kernel_rfl) rfl rfl ⟨(blk_cell BX.out 0).trans rfl, (blk_cell BX.out 1).trans rfl, (blk_cell BX.out 2).trans rfl, (blk_cell BX.out 3).trans rfl, (blk_cell BX.out 4).trans rfl⟩ (fun hHeld => ?_)
      refine pure_ (i := 1) (N := some 15) (v := ?_) (a' := ?_) #[false, true, false, false, false, false, false] rfl rfl (by kernel_rfl) (fun _ _ _ h => h) (Or.inl ⟨by rfl, ?_⟩) ?_ ?_
      rotate_left
      · (intro w'; go_simp; with_reducible rfl)
      rotate_left
      · (simp only [Act.put, List.setIfInBounds_toArray, List.set_cons_zero, List.set_cons_succ, i64_w, i32_w]; rfl)
      refine pure_ (i := 2) (N := some 16) (v := ?_) (a' := ?_) #[false, true, true, false, false, false, false] rfl rfl (by kernel_rfl) (fun _ _ _ h => h) (Or.inl ⟨by rfl, ?_⟩) ?_ ?_
      rotate_left
      · (intro w'; go_simp; with_reducible rfl)
      rotate_left
      · (simp only [Act.put, List.setIfInBounds_toArray, List.set_cons_zero, List.set_cons_succ, i64_w, i32_w]; rfl)
      refine pure_ (i := 3) (N := some 17) (v := ?_) (a' := ?_) #[false, true, true, true, false, false, false] rfl rfl (by kernel_rfl) (fun _ _ _ h => h) (Or.inl ⟨by rfl, ?_⟩) ?_ ?_
      rotate_left
      · (intro w'; go_simp; with_reducible rfl)
      rotate_left
      · (simp only [Act.put, List.setIfInBounds_toArray, List.set_cons_zero, List.set_cons_succ, i64_w, i32_w]; rfl)
      refine take_ (i := 0) (N := some 14) (v := ?_) (a' := ?_) #[true, true, true, true, false, false, false] rfl rfl (by kernel_rfl) (fun _ _ _ h => h) (Or.inl ⟨by rfl, ?_⟩) hHeld ?_ ?_
      rotate_left
      · (rintro w' ⟨s0, s1, s2, s3, s4⟩; go_simp; with_reducible rfl)
      rotate_left
      · (simp only [Act.put, List.setIfInBounds_toArray, List.set_cons_zero, List.set_cons_succ, i64_w, i32_w]; rfl)
      refine one_ (i := 4) (N := some 18) #[true, true, true, true, true, false, false] rfl rfl (by kernel_rfl) (by decide) (fun K hK => ?_)
      refine goes_ Try.func90 (by kernel_rfl) rfl #[.slice A3 l3.length c3] (by rfl) rfl rfl (by simp only [List.map_toArray, List.map_cons, List.map_nil]; rfl) ?_
      with_reducible refine (am_calls A3 l3.length c3 _).mono ?_
      rintro e w3 ⟨rfl, rfl⟩
      refine ⟨_, rfl, ?_⟩
      have HB2 := Aside0.mk (below_drew1 HB.out)
      have HB3 := Aside0.mk (below_alloc HB2.out (.cells #[.slice A3 l3.length c3] 23 (0, 0)))
      have HGR := Aside0.mk (show (w2.drew.alloc (.cells #[.slice A3 l3.length c3] 23 (0, 0))).cell? ⟨w2.drew.heap.size, 0, none⟩ = some (.slice A3 l3.length c3) from (blk_cell (blk_new w2.drew _) 0).trans rfl)
      refine hK.out _ _ ⟨(blk_cell (blk_alloc (blk_drew BX.out) _) 0).trans rfl, (blk_cell (blk_alloc (blk_drew BX.out) _) 1).trans rfl, (blk_cell (blk_alloc (blk_drew BX.out) _) 2).trans rfl, (blk_cell (blk_alloc (blk_drew BX.out) _) 3).trans rfl, (blk_cell (blk_alloc (blk_drew BX.out) _) 4).trans rfl⟩ (fun hHeld => ?_)
      clear hK K
      refine norm_ (a' := ?_) ?_ ?_
      rotate_left
      · (show Act.put _ (some 18) _ = _; simp only [Act.put, List.setIfInBounds_toArray, List.set_cons_zero, List.set_cons_succ, i64_w, i32_w]; rfl)
      refine one_ (i := 5) (N := some 19) #[true, true, true, true, true, true, false] rfl rfl (by kernel_rfl) (by decide) (fun K hK => ?_)
      have hsz2 : w2.drew.heap.size < (w2.drew.alloc (.cells #[.slice A3 l3.length c3] 23 (0, 0))).heap.size := blk_lt (blk_new w2.drew _)
      have HSZ := Aside0.mk hsz2
      clear hsz2
      generalize w2.drew.heap.size = gb at HGR HSZ hHeld ⊢
      generalize w2.drew.alloc (.cells #[.slice A3 l3.length c3] 23 (0, 0)) = w3 at HB3 HGR HSZ hHeld ⊢
      refine goes_ Try.func87 (by kernel_rfl) rfl #[.agg #[.int .i64 a0_0, .int .i64 a0_1, .int .i64 a0_2, .slice A0_3 l0_3.length c0_3, .bool a0_4], .int .i64 a1, .slice A2 l2.length c2, .func (.func 113) #[] #[.pointer (some ⟨gb, 0, none⟩)]] (by rfl) rfl rfl (by simp only [List.map_toArray, List.map_cons, List.map_nil]; rfl) ?_
      refine (tableOfG (amongIn l3) 113 #[.pointer (some ⟨gb, 0, none⟩)] a0_0 a0_1 a0_2 A0_3 l0_3.length c0_3 a0_4 a1 A2 c2 l2 _ (Kd.C_below HR2.out HB3.out) HC2.out HALL.out.1.1 HALL.out.1.2 HALL.out.2 (by intro args w; kernel_rfl) (fun W x _ hW => am_lit l3 A3 c3 x gb W (Kd.C_below (Kd.C_below HR3.out HB3.out) hW) HC3.out ((hW.cell HSZ.out).trans HGR.out))).mono ?_
      rintro e w4 ⟨v0, rfl, ho, hb⟩
      refine ⟨_, rfl, ?_⟩
      have HO := Aside0.mk (Kd.R_lower (base' := w.heap.size) ho (below_size HB3.out))
      have HB4 := Aside0.mk (below_then HB3.out (below_size HB3.out) hb)
      refine hK.out _ _ ⟨(hb.cell (World.block_lt_of_cell? _ _ hHeld.1)).trans hHeld.1, (hb.cell (World.block_lt_of_cell? _ _ hHeld.2.1)).trans hHeld.2.1, (hb.cell (World.block_lt_of_cell? _ _ hHeld.2.2.1)).trans hHeld.2.2.1, (hb.cell (World.block_lt_of_cell? _ _ hHeld.2.2.2.1)).trans hHeld.2.2.2.1, (hb.cell (World.block_lt_of_cell? _ _ hHeld.2.2.2.2)).trans hHeld.2.2.2.2⟩ (fun hHeld => ?_)
      clear hK K hb ho
      refine norm_ (a' := ?_) ?_ ?_
      rotate_left
      · (show Act.put _ (some 19) _ = _; simp only [Act.put, List.setIfInBounds_toArray, List.set_cons_zero, List.set_cons_succ, i64_w, i32_w]; rfl)
      refine pure_ (i := 6) (N := some 8) (v := ?_) (a' := ?_) #[true, true, true, true, true, true, true] rfl rfl (by kernel_rfl) (fun _ _ _ h => h) (Or.inl ⟨by rfl, ?_⟩) ?_ ?_
      rotate_left
      · (intro w'; go_simp; with_reducible rfl)
      rotate_left
      · (simp only [Act.put, List.setIfInBounds_toArray, List.set_cons_zero, List.set_cons_succ, i64_w, i32_w]; rfl)
      refine done_ (by kernel_rfl) ?_
      go_wp2
      go_ret
      exact ⟨_, rfl, HO.out, HB4.out⟩
    · rw [if_neg hall] at hr; cases hr

end Go.Proofs.Ytikfdjgigeggjaa.MFnTables
