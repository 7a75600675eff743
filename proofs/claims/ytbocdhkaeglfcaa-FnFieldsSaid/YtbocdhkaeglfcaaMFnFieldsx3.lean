/- The functions that FnFields reaches, each with its contract: the print's form, by wip/tools/myprint.py; no condition of its own. -/
import Derived.Test.YtbocdhkaeglfcaaMFnFieldsx0
import Derived.Test.YtbocdhkaeglfcaaMFnFieldsx2
namespace Go.Proofs.Ytbocdhkaeglfcaa.MFnFields
open Go.RowKit Go.Proofs.YtbocdhkaeglfcaaW.PrintWords Go.Proofs.YtbocdhkaeglfcaaW.PrintLast Go.Proofs.YtbocdhkaeglfcaaW.PrintMore
attribute [local go_sem] max2_int min2_int max_two min_two max_three min_three max_four min_four   -- for this text's walks alone
set_option linter.unusedVariables false
set_option linter.unusedSimpArgs false

/-! ### impl_TeamOk: function 43 -/
def impl_TeamOk.f (k : Nat) (a0_0 : ByteArray) (a0_1 : Int) (a0_2 : Int) : Option (Bool) := (impl_IsName.f k a0_0).bind fun t165 => (if t165 = true then ((impl_within.f a0_1 0 5).bind fun t166 => (if t166 = true then ((impl_within.f a0_2 1 8).bind fun t167 => (some t167)) else (some false))) else (some false))
theorem impl_TeamOk.mono : ∀ a0 a1 a2 k, LeO (impl_TeamOk.f k a0 a1 a2) (impl_TeamOk.f (k + 1) a0 a1 a2) := by
  intro a0 a1 a2 k
  unfold impl_TeamOk.f
  repeat' first
      | (with_reducible exact impl_IsName.mono _ _)
      | (with_reducible exact LeO.refl _)
      | (with_reducible exact LeO.none _)
      | (with_reducible refine LeO.ite ?_ ?_)
      | (with_reducible refine LeO.bind ?_ (fun _ => ?_))
      | exact impl_IsName.mono _ _
      | exact LeO.none _
      | refine LeO.ite ?_ ?_
      | refine LeO.bind ?_ (fun _ => ?_)
set_option maxHeartbeats 8000000 in
set_option maxRecDepth 100000 in
theorem impl_TeamOk.calls (k : Nat) (a0_0 : ByteArray) (a0_1 : Int) (a0_2 : Int) (r : Bool) (w : World) (h : impl_TeamOk.f k a0_0 a0_1 a0_2 = some r) :
    Calls Try.prog 43 #[.agg #[.string a0_0, .int .i64 a0_1, .int .i64 a0_2]] w fun e w' => e = .returned (.bool r) ∧ Below w.heap.size w w' := by
  have hu48 := Try.underlying48
  have HB := Aside0.mk (Below.refl w.heap.size w)
  have H : ((impl_IsName.f k a0_0).bind fun t165 => (if t165 = true then ((impl_within.f a0_1 0 5).bind fun t166 => (if t166 = true then ((impl_within.f a0_2 1 8).bind fun t167 => (some t167)) else (some false))) else (some false))) = some r := h
  clear h
  replace H := Option.bind_eq_some_iff.mp H
  obtain ⟨t165, A20, H⟩ := H
  replace H : (if t165 = true then ((impl_within.f a0_1 0 5).bind fun t166 => (if t166 = true then ((impl_within.f a0_2 1 8).bind fun t167 => (some t167)) else (some false))) else (some false)) = some r := H
  have A2 := Aside0.mk A20
  clear A20
  by_cases c3 : t165 = true
  · subst c3
    have H1 : ((impl_within.f a0_1 0 5).bind fun t166 => (if t166 = true then ((impl_within.f a0_2 1 8).bind fun t167 => (some t167)) else (some false))) = some r := by rw [if_pos rfl] at H; exact H
    clear H
    have H := H1
    clear H1
    replace H := Option.bind_eq_some_iff.mp H
    obtain ⟨t166, A40, H⟩ := H
    replace H : (if t166 = true then ((impl_within.f a0_2 1 8).bind fun t167 => (some t167)) else (some false)) = some r := H
    have A4 := Aside0.mk A40
    clear A40
    by_cases c5 : t166 = true
    · subst c5
      have H1 : ((impl_within.f a0_2 1 8).bind fun t167 => (some t167)) = some r := by rw [if_pos rfl] at H; exact H
      clear H
      have H := H1
      clear H1
      replace H := Option.bind_eq_some_iff.mp H
      obtain ⟨t167, A60, H⟩ := H
      replace H : (some t167) = some r := H
      have A6 := Aside0.mk A60
      clear A60
      obtain rfl := Option.some.inj H
      go_enter Try.func43, Try.ntmps43
      go_wp2_with (first | ((with_reducible refine gate_dst (N := 1) rfl ?_); refine box_event ?hg (N := 1) ?hd (cs := #[.string a0_0, .int .i64 a0_1, .int .i64 a0_2]) (t := 48) ?hr ?_; (case hd => rfl); (case hg => rfl); (case hr => first | (go_simp; done) | (go_simp; rfl)); intro gb164 hg w7 hbox hb; have n0_ := Aside0.mk (below_step (by repeat (first | (with_reducible first | exact HB.out | apply below_alloc | apply pw_below_drewN | apply below_drew1) | exact HB.out)) hb); have n1_ := Aside0.mk (hbox); have n2_ := Aside0.mk ((by rw [hg]; exact (below_size (by repeat (first | (with_reducible first | exact HB.out | apply below_alloc | apply pw_below_drewN | apply below_drew1) | exact HB.out))) : w.heap.size ≤ gb164)); have n3_ := Aside0.mk ((by rw [hg]; exact (below_size (by repeat (first | (with_reducible first | exact HB.out | apply below_alloc | apply pw_below_drewN | apply below_drew1) | exact HB.out))) : w.heap.size ≤ gb164)); clear HB; have HB := n0_; have BK164 := n1_; have GW164 := n2_; have GE164 := n3_; clear n0_ n1_ n2_ n3_; clear hb hbox hg; have hcz8_0 : w7.cell? ⟨gb164, 0, none⟩ = some (.string a0_0) := (blk_cell BK164.out 0).trans rfl; have hcz8_1 : w7.cell? ⟨gb164, 1, none⟩ = some (.int .i64 a0_1) := (blk_cell BK164.out 1).trans rfl; have hcz8_2 : w7.cell? ⟨gb164, 2, none⟩ = some (.int .i64 a0_2) := (blk_cell BK164.out 2).trans rfl; have hfz8_0 := blk_frozen BK164.out 0; have hfz8_1 := blk_frozen BK164.out 1; have hfz8_2 := blk_frozen BK164.out 2) | ((with_reducible refine gate_callee (f := 78) rfl ?_); refine goesL_ (some 5) rfl rfl Try.func78 (by kernel_rfl) rfl #[.string a0_0] rfl (by (try simp only [List.map_toArray, List.map_cons, List.map_nil]); first | done | rfl | (simp only [List.length_drop, List.length_take]; rfl)) ?_; (with_reducible refine (impl_IsName.calls k a0_0 true _ A2.out).mono ?_); rintro e w' ⟨rfl, ⟨nd, rfl⟩⟩; refine ⟨_, rfl, ?_⟩) | (go_at_call 46; (with_reducible refine (impl_within.calls a0_1 0 5 true _ A4.out).mono ?_); rintro e w' ⟨rfl, ⟨nd, rfl⟩⟩) | (go_at_call 46; (with_reducible refine (impl_within.calls a0_2 1 8 t167 _ A6.out).mono ?_); rintro e w' ⟨rfl, ⟨nd, rfl⟩⟩))
      go_ret
      exact ⟨by first | rfl | (simp [errW_none, errW_some] <;> rfl) | (simp [*, errW_none, errW_some] <;> rfl), by repeat (first | (with_reducible first | exact HB.out | apply below_alloc | apply pw_below_drewN | apply below_drew1 | refine below_set ?_ GE164.out) | exact HB.out)⟩
    · replace c5 := Bool.eq_false_iff.mpr c5
      subst c5
      have H1 : (some false) = some r := by rw [if_neg (show ¬ (false = true) by decide)] at H; exact H
      clear H
      have H := H1
      clear H1
      obtain rfl := Option.some.inj H
      go_enter Try.func43, Try.ntmps43
      go_wp2_with (first | ((with_reducible refine gate_dst (N := 1) rfl ?_); refine box_event ?hg (N := 1) ?hd (cs := #[.string a0_0, .int .i64 a0_1, .int .i64 a0_2]) (t := 48) ?hr ?_; (case hd => rfl); (case hg => rfl); (case hr => first | (go_simp; done) | (go_simp; rfl)); intro gb164 hg w9 hbox hb; have n0_ := Aside0.mk (below_step (by repeat (first | (with_reducible first | exact HB.out | apply below_alloc | apply pw_below_drewN | apply below_drew1) | exact HB.out)) hb); have n1_ := Aside0.mk (hbox); have n2_ := Aside0.mk ((by rw [hg]; exact (below_size (by repeat (first | (with_reducible first | exact HB.out | apply below_alloc | apply pw_below_drewN | apply below_drew1) | exact HB.out))) : w.heap.size ≤ gb164)); have n3_ := Aside0.mk ((by rw [hg]; exact (below_size (by repeat (first | (with_reducible first | exact HB.out | apply below_alloc | apply pw_below_drewN | apply below_drew1) | exact HB.out))) : w.heap.size ≤ gb164)); clear HB; have HB := n0_; have BK164 := n1_; have GW164 := n2_; have GE164 := n3_; clear n0_ n1_ n2_ n3_; clear hb hbox hg; have hcz10_0 : w9.cell? ⟨gb164, 0, none⟩ = some (.string a0_0) := (blk_cell BK164.out 0).trans rfl; have hcz10_1 : w9.cell? ⟨gb164, 1, none⟩ = some (.int .i64 a0_1) := (blk_cell BK164.out 1).trans rfl; have hcz10_2 : w9.cell? ⟨gb164, 2, none⟩ = some (.int .i64 a0_2) := (blk_cell BK164.out 2).trans rfl; have hfz10_0 := blk_frozen BK164.out 0; have hfz10_1 := blk_frozen BK164.out 1; have hfz10_2 := blk_frozen BK164.out 2) | ((with_reducible refine gate_callee (f := 78) rfl ?_); refine goesL_ (some 5) rfl rfl Try.func78 (by kernel_rfl) rfl #[.string a0_0] rfl (by (try simp only [List.map_toArray, List.map_cons, List.map_nil]); first | done | rfl | (simp only [List.length_drop, List.length_take]; rfl)) ?_; (with_reducible refine (impl_IsName.calls k a0_0 true _ A2.out).mono ?_); rintro e w' ⟨rfl, ⟨nd, rfl⟩⟩; refine ⟨_, rfl, ?_⟩) | (go_at_call 46; (with_reducible refine (impl_within.calls a0_1 0 5 false _ A4.out).mono ?_); rintro e w' ⟨rfl, ⟨nd, rfl⟩⟩))
      go_ret
      exact ⟨by first | rfl | (simp [errW_none, errW_some] <;> rfl) | (simp [*, errW_none, errW_some] <;> rfl), by repeat (first | (with_reducible first | exact HB.out | apply below_alloc | apply pw_below_drewN | apply below_drew1 | refine below_set ?_ GE164.out) | exact HB.out)⟩
  · replace c3 := Bool.eq_false_iff.mpr c3
    subst c3
    have H1 : (some false) = some r := by rw [if_neg (show ¬ (false = true) by decide)] at H; exact H
    clear H
    have H := H1
    clear H1
    obtain rfl := Option.some.inj H
    go_enter Try.func43, Try.ntmps43
    go_wp2_with (first | ((with_reducible refine gate_dst (N := 1) rfl ?_); refine box_event ?hg (N := 1) ?hd (cs := #[.string a0_0, .int .i64 a0_1, .int .i64 a0_2]) (t := 48) ?hr ?_; (case hd => rfl); (case hg => rfl); (case hr => first | (go_simp; done) | (go_simp; rfl)); intro gb164 hg w11 hbox hb; have n0_ := Aside0.mk (below_step (by repeat (first | (with_reducible first | exact HB.out | apply below_alloc | apply pw_below_drewN | apply below_drew1) | exact HB.out)) hb); have n1_ := Aside0.mk (hbox); have n2_ := Aside0.mk ((by rw [hg]; exact (below_size (by repeat (first | (with_reducible first | exact HB.out | apply below_alloc | apply pw_below_drewN | apply below_drew1) | exact HB.out))) : w.heap.size ≤ gb164)); have n3_ := Aside0.mk ((by rw [hg]; exact (below_size (by repeat (first | (with_reducible first | exact HB.out | apply below_alloc | apply pw_below_drewN | apply below_drew1) | exact HB.out))) : w.heap.size ≤ gb164)); clear HB; have HB := n0_; have BK164 := n1_; have GW164 := n2_; have GE164 := n3_; clear n0_ n1_ n2_ n3_; clear hb hbox hg; have hcz12_0 : w11.cell? ⟨gb164, 0, none⟩ = some (.string a0_0) := (blk_cell BK164.out 0).trans rfl; have hcz12_1 : w11.cell? ⟨gb164, 1, none⟩ = some (.int .i64 a0_1) := (blk_cell BK164.out 1).trans rfl; have hcz12_2 : w11.cell? ⟨gb164, 2, none⟩ = some (.int .i64 a0_2) := (blk_cell BK164.out 2).trans rfl; have hfz12_0 := blk_frozen BK164.out 0; have hfz12_1 := blk_frozen BK164.out 1; have hfz12_2 := blk_frozen BK164.out 2) | ((with_reducible refine gate_callee (f := 78) rfl ?_); refine goesL_ (some 5) rfl rfl Try.func78 (by kernel_rfl) rfl #[.string a0_0] rfl (by (try simp only [List.map_toArray, List.map_cons, List.map_nil]); first | done | rfl | (simp only [List.length_drop, List.length_take]; rfl)) ?_; (with_reducible refine (impl_IsName.calls k a0_0 false _ A2.out).mono ?_); rintro e w' ⟨rfl, ⟨nd, rfl⟩⟩; refine ⟨_, rfl, ?_⟩))
    go_ret
    exact ⟨by first | rfl | (simp [errW_none, errW_some] <;> rfl) | (simp [*, errW_none, errW_some] <;> rfl), by repeat (first | (with_reducible first | exact HB.out | apply below_alloc | apply pw_below_drewN | apply below_drew1 | refine below_set ?_ GE164.out) | exact HB.out)⟩

-- NOT PRINTED: function 53 (impl_Team_53)

-- NOT PRINTED: function 44 (impl_Team_44)

/-! ### impl_FieldOk: function 14 -/
/-- The index of the first element for which p holds, or -1. -/
def idxP {α : Type} (p : α → Bool) (l : List α) : Int := match l.findIdx? p with | some i => (i : Int) | none => -1
theorem idxP_hit {α : Type} (p : α → Bool) (l : List α) (i : Nat) (y : α) (h : l[i]? = some y) (hp : p y = true) (hb : ∀ j z, j < i → l[j]? = some z → p z = false) : idxP p l = i := by
  have hi : i < l.length := (List.getElem?_eq_some_iff.1 h).1
  have hy : l[i] = y := (List.getElem?_eq_some_iff.1 h).2
  have : l.findIdx? p = some i := by
    rw [List.findIdx?_eq_some_iff_getElem]
    exact ⟨hi, by rw [hy]; exact hp, fun j hj => by simp [hb j _ hj (List.getElem?_eq_getElem (by omega))]⟩
  simp [idxP, this]
theorem idxP_miss {α : Type} (p : α → Bool) (l : List α) (hb : ∀ j z, j < l.length → l[j]? = some z → p z = false) : idxP p l = -1 := by
  have : l.findIdx? p = none := by
    rw [List.findIdx?_eq_none_iff]
    intro x hx
    obtain ⟨j, hj, rfl⟩ := List.mem_iff_getElem.1 hx
    exact hb j _ hj (List.getElem?_eq_getElem hj)
  simp [idxP, this]
theorem C_take {α : Type} {d : Kd α} {w : World} {A : Option Addr} {n : Nat} {xs : List α} (h : d.C w A n xs) (m : Nat) : d.C w A (xs.take m).length (xs.take m) := by
  have h1 := h.1
  have h2 := h.2.1
  refine ⟨rfl, by rw [List.length_take]; omega, fun hp => ?_⟩
  rw [List.length_take] at hp
  obtain ⟨ad, e, hc⟩ := h.2.2 (by omega)
  refine ⟨ad, e, fun j p hj => hc j p ?_⟩
  rw [List.getElem?_take] at hj
  split at hj
  · exact hj
  · cases hj
set_option maxHeartbeats 2000000 in
/-- slices.IndexFunc over structs: whatever the function value says of each element. -/
theorem impl_FieldOk.idx.calls (p : S48 → Bool) (lb : Array Value) (A0 : Option Addr) (c0 : Nat) (l0 : List S48) (w : World) (hr0 : Kd.C k48 w A0 l0.length l0) (hc0 : l0.length ≤ c0)
    (hp : ∀ (W : World) (x : S48), Below w.heap.size w W → Calls Try.prog 45 (#[.agg #[.string x.f0, .int .i64 x.f1, .int .i64 x.f2]] ++ lb) W fun e w' => e = .returned (.bool (p x)) ∧ Below W.heap.size W w') :
    Calls Try.prog 53 #[.slice A0 l0.length c0, .func (.func 45) #[] lb] w fun e w' => e = .returned (.int .i64 (idxP p l0)) ∧ Below w.heap.size w w' := by
  have hu90 := Try.underlying48
  have HR0 := Aside0.mk hr0
  have HC0 := Aside0.mk hc0
  have HP := Aside0.mk hp
  have hmax : l0.length ≤ 9223372036854775807 := hr0.2.1
  clear hr0 hc0 hp
  have HB := Aside0.mk (Below.refl w.heap.size w)
  go_enter Try.func53, Try.ntmps53
  go_wp2
  go_loopg [8] l0.length (fun gk v8 w' => ∃ i : Nat, v8 = .int .i64 i ∧ Aside0 (i ≤ l0.length) ∧ Aside0 (l0.length - i ≤ gk) ∧ Aside0 (Below w.heap.size w w') ∧ Aside0 (∀ j z, j < i → l0[j]? = some z → p z = false))
  case atStart => exact ⟨0, rfl, ⟨Nat.zero_le _⟩, ⟨by omega⟩, HB, ⟨fun j z hj => absurd hj (Nat.not_lt_zero _)⟩⟩
  case round =>
    obtain ⟨i, rfl, HI, HG, HB1, HF⟩ := hrel
    by_cases hlt : i < l0.length
    · have hltz : decide ((i : Int) < (l0.length : Int)) = true := decide_eq_true (by omega)
      obtain ⟨ad, ea, hx0, hx1, hx2⟩ := at_T48 HR0.out (i : Int) (by omega) (by omega)
      cases ea
      rw [Int.toNat_natCast] at hx0 hx1 hx2
      obtain ⟨y, hy⟩ : ∃ y, l0[i]? = some y := ⟨_, List.getElem?_eq_getElem hlt⟩
      have hrd : rd_T48 l0 (i : Int) = y := by simp [rd_T48, List.getD_eq_getElem?_getD, hy]
      have HY := Aside0.mk hy
      rw [hrd] at hx0 hx1 hx2
      clear hrd hy
      have up : ∀ (a : Addr) (v : Value), w.cell? a = some v → wr.cell? a = some v := fun a v h => (HB1.out.cell (World.block_lt_of_cell? w _ h)).trans h
      replace hx0 := up _ _ hx0; replace hx1 := up _ _ hx1; replace hx2 := up _ _ hx2
      clear up
      have h0 : decide (0 ≤ (i : Int)) = true := decide_eq_true (by omega)
      rcases Bool.eq_false_or_eq_true (p y) with hq | hq
      · have hcall := HP.out wr y HB1.out
        rw [hq] at hcall
        have HQ := Aside0.mk hq
        have HC := Aside0.mk hcall
        clear hq hcall
        go_wp2_with fail
        refine HC.out.mono ?_
        rintro e w2 ⟨rfl, hb2⟩
        have HB2 := Aside0.mk (HB1.out.trans (hb2.mono HB1.out.size))
        clear hb2
        go_wp2
        go_ret
        exact ⟨by rw [idxP_hit p l0 i y HY.out HQ.out HF.out]; rfl, HB2.out⟩
      · have hcall := HP.out wr y HB1.out
        rw [hq] at hcall
        have HQ := Aside0.mk hq
        have HC := Aside0.mk hcall
        clear hq hcall
        go_wp2_with fail
        refine HC.out.mono ?_
        rintro e w2 ⟨rfl, hb2⟩
        have HB2 := Aside0.mk (HB1.out.trans (hb2.mono HB1.out.size))
        clear hb2
        go_wp2
        go_roundg (l0.length - (i + 1))
        case measure => have := HG.out; omega
        case rel =>
          refine ⟨i + 1, by go_num, ⟨by omega⟩, ⟨Nat.le_refl _⟩, HB2, ⟨fun j z hj hz => ?_⟩⟩
          by_cases e : j = i
          · subst e
            rw [HY.out] at hz
            cases hz
            exact HQ.out
          · exact HF.out j z (by omega) hz
    · have hltz : decide ((i : Int) < (l0.length : Int)) = false := decide_eq_false (by omega)
      go_wp2
      go_ret
      exact ⟨by rw [idxP_miss p l0 (fun j z hj hz => HF.out j z (by omega) hz)]; rfl, HB1.out⟩
set_option maxHeartbeats 800000 in
/-- slices.ContainsFunc over structs. -/
theorem impl_FieldOk.cf.calls (p : S48 → Bool) (lb : Array Value) (A0 : Option Addr) (c0 : Nat) (l0 : List S48) (r : Bool) (hr : decide (0 ≤ idxP p l0) = r) (w : World) (hr0 : Kd.C k48 w A0 l0.length l0) (hc0 : l0.length ≤ c0)
    (hp : ∀ (W : World) (x : S48), Below w.heap.size w W → Calls Try.prog 45 (#[.agg #[.string x.f0, .int .i64 x.f1, .int .i64 x.f2]] ++ lb) W fun e w' => e = .returned (.bool (p x)) ∧ Below W.heap.size W w') :
    Calls Try.prog 44 #[.slice A0 l0.length c0, .func (.func 45) #[] lb] w fun e w' => e = .returned (.bool r) ∧ Below w.heap.size w w' := by
  have HI := Aside0.mk (impl_FieldOk.idx.calls p lb A0 c0 l0 w hr0 hc0 hp)
  have HH := Aside0.mk hr
  clear hr0 hc0 hp hr
  go_enter Try.func44, Try.ntmps44
  go_wp2_with fail
  refine HI.out.mono ?_
  rintro e w2 ⟨rfl, hb⟩
  have HB := Aside0.mk hb
  clear hb
  go_wp2
  go_ret
  exact ⟨by rw [← HH.out]; first | rfl | simp, HB.out⟩
def clashP (t x : S48) : Bool := (x.f0.toList == t.f0.toList) || (x.f2 == t.f2)
set_option maxHeartbeats 800000 in
theorem impl_FieldOk.lit (x t : S48) (b1 : Nat) (w : World) (h0 : w.cell? ⟨b1, 0, none⟩ = some (.string t.f0)) (h2 : w.cell? ⟨b1, 2, none⟩ = some (.int .i64 t.f2)) :
    Calls Try.prog 45 #[.agg #[.string x.f0, .int .i64 x.f1, .int .i64 x.f2], .pointer (some ⟨b1, 0, none⟩)] w
      fun e w' => e = .returned (.bool (clashP t x)) ∧ Below w.heap.size w w' := by
  have hu90 := Try.underlying48
  have l1 : b1 < w.heap.size := World.block_lt_of_cell? w _ h0
  unfold clashP
  rcases Bool.eq_false_or_eq_true (x.f0.toList == t.f0.toList) with d1 | d1
  all_goals
    go_enter Try.func45, Try.ntmps45
    go_wp2
    go_ret
    exact ⟨by simp [d1], (Below.refl _ _).alloc (Nat.le_refl _) _⟩
def impl_FieldOk.l0 (k : Nat) (l : List S48) : Nat → Nat → Option Bool
  | 0, _ => impl_within.f (l.length : Int) 2 8
  | d + 1, i => (impl_TeamOk.f k (rd_T48 l i).f0 (rd_T48 l i).f1 (rd_T48 l i).f2).bind fun b => if b = true then (if 0 ≤ idxP (clashP (rd_T48 l i)) (l.take i) then some false else impl_FieldOk.l0 k l d (i + 1)) else some false
def impl_FieldOk.f (k : Nat) (l0 : List (S48)) : Option (Bool) := impl_FieldOk.l0 k l0 l0.length 0
theorem impl_FieldOk.mono_l (l : List S48) (k : Nat) (d : Nat) : ∀ i, LeO (impl_FieldOk.l0 k l d i) (impl_FieldOk.l0 (k + 1) l d i) := by
  induction d with
  | zero => intro i; exact LeO.refl _
  | succ d ih =>
    intro i
    simp only [impl_FieldOk.l0]
    refine LeO.bind (impl_TeamOk.mono _ _ _ k) (fun b => ?_)
    refine LeO.ite ?_ (LeO.refl _)
    exact LeO.ite (LeO.refl _) (ih (i + 1))
theorem impl_FieldOk.mono : ∀ a0 k, LeO (impl_FieldOk.f k a0) (impl_FieldOk.f (k + 1) a0) := fun a0 k => impl_FieldOk.mono_l a0 k a0.length 0
set_option maxHeartbeats 8000000 in
set_option maxRecDepth 100000 in
theorem impl_FieldOk.calls (k : Nat) (A0 : Option Addr) (c0 : Nat) (l0 : List (S48)) (r : Bool) (w : World) (hr0 : Kd.C k48 w A0 l0.length l0) (hc0 : l0.length ≤ c0) (h : impl_FieldOk.f k l0 = some r) :
    Calls Try.prog 14 #[.slice A0 l0.length c0] w fun e w' => e = .returned (.bool r) ∧ Below w.heap.size w w' := by
  have hu90 := Try.underlying48
  have HR0 := Aside0.mk hr0
  have HC0 := Aside0.mk hc0
  have H0 : Aside0 (impl_FieldOk.l0 k l0 (l0.length - 0) 0 = some r) := ⟨h⟩
  have hmax : l0.length ≤ 9223372036854775807 := hr0.2.1
  clear hr0 hc0 h
  have HB := Aside0.mk (Below.refl w.heap.size w)
  go_enter Try.func14, Try.ntmps14
  go_wp2
  go_loopg [7] l0.length (fun gk v7 w' => ∃ i : Nat, v7 = .int .i64 i ∧ Aside0 (i ≤ l0.length) ∧ Aside0 (l0.length - i ≤ gk) ∧ Aside0 (impl_FieldOk.l0 k l0 (l0.length - i) i = some r) ∧ Aside0 (Below w.heap.size w w'))
  case atStart => exact ⟨0, rfl, ⟨Nat.zero_le _⟩, ⟨by omega⟩, H0, HB⟩
  case round =>
    clear HB H0
    obtain ⟨i, rfl, HI, HG, HS, HB⟩ := hrel
    by_cases hlt : i < l0.length
    · have hltz : decide ((i : Int) < (l0.length : Int)) = true := decide_eq_true (by omega)
      have hlez : decide ((i : Int) ≤ (l0.length : Int)) = true := decide_eq_true (by omega)
      have h0 : decide (0 ≤ (i : Int)) = true := decide_eq_true (by omega)
      obtain ⟨ad, ea, hx0, hx1, hx2⟩ := at_T48 HR0.out (i : Int) (by omega) (by omega)
      cases ea
      rw [Int.toNat_natCast] at hx0 hx1 hx2
      obtain ⟨y, hy⟩ : ∃ y, rd_T48 l0 (i : Int) = y := ⟨_, rfl⟩
      rw [hy] at hx0 hx1 hx2
      have up : ∀ (a : Addr) (v : Value), w.cell? a = some v → wr.cell? a = some v := fun a v h => (HB.out.cell (World.block_lt_of_cell? w _ h)).trans h
      replace hx0 := up _ _ hx0; replace hx1 := up _ _ hx1; replace hx2 := up _ _ hx2
      clear up
      have H := HS.out
      rw [show l0.length - i = (l0.length - (i + 1)) + 1 by omega] at H
      simp only [impl_FieldOk.l0] at H
      rw [hy] at H
      clear hy HS
      obtain ⟨b, A1, H⟩ := Option.bind_eq_some_iff.mp H
      have A := Aside0.mk A1
      clear A1
      have htk : (l0.take i).length = i := by rw [List.length_take]; omega
      have HTK := Aside0.mk htk
      clear htk
      have hic : i ≤ c0 := by have := HC0.out; omega
      have hcz : decide ((i : Int) ≤ (c0 : Int)) = true := decide_eq_true (by omega)
      have hc1 : 0 < c0 := by have := HC0.out; omega
      have hadd : ad.add 0 = ad := by simp [Addr.add]
      cases b with
      | false =>
        rw [if_neg (by simp)] at H
        obtain rfl := Option.some.inj H
        clear H
        go_wp2_with (first | ((with_reducible refine gate_dst (N := 4) rfl ?_); refine box_event ?hg (N := 4) ?hd (cs := #[.string (⟨#[]⟩ : ByteArray), .int .i64 0, .int .i64 0]) (t := 48) ?hr ?_; (case hd => rfl); (case hg => rfl); (case hr => first | (go_simp; done) | (go_simp; rfl)); intro gb hg w10 hbox hb; have n1_ := Aside0.mk (below_step HB.out hb); have n2_ := Aside0.mk hbox; have n3_ := Aside0.mk ((by rw [hg]; exact (below_size HB.out) : w.heap.size ≤ gb)); clear HB; have HB := n1_; have BK := n2_; have GE := n3_; clear n1_ n2_ n3_; clear hb hbox hg; have hcz_0 : w10.cell? ⟨gb, 0, none⟩ = some (.string (⟨#[]⟩ : ByteArray)) := (blk_cell BK.out 0).trans rfl; have hfz_0 := blk_frozen BK.out 0; have hcz_1 : w10.cell? ⟨gb, 1, none⟩ = some (.int .i64 0) := (blk_cell BK.out 1).trans rfl; have hfz_1 := blk_frozen BK.out 1; have hcz_2 : w10.cell? ⟨gb, 2, none⟩ = some (.int .i64 0) := (blk_cell BK.out 2).trans rfl; have hfz_2 := blk_frozen BK.out 2) | fail)
        refine (impl_TeamOk.calls k y.f0 y.f1 y.f2 false _ A.out).mono ?_
        rintro e w12 ⟨rfl, hb⟩
        have n1_ := Aside0.mk (below_then (by repeat (first | (with_reducible first | exact HB.out | apply below_alloc | apply pw_below_drewN | apply below_drew1 | refine below_set ?_ GE.out) | exact HB.out)) (below_size (by repeat (first | (with_reducible first | exact HB.out | apply below_alloc | apply pw_below_drewN | apply below_drew1 | refine below_set ?_ GE.out) | exact HB.out))) hb)
        clear hb HB
        go_wp2
        go_ret
        exact ⟨rfl, n1_.out⟩
      | true =>
        rw [if_pos rfl] at H
        have H2 := Aside0.mk H
        clear H
        go_wp2_with (first | ((with_reducible refine gate_dst (N := 4) rfl ?_); refine box_event ?hg (N := 4) ?hd (cs := #[.string (⟨#[]⟩ : ByteArray), .int .i64 0, .int .i64 0]) (t := 48) ?hr ?_; (case hd => rfl); (case hg => rfl); (case hr => first | (go_simp; done) | (go_simp; rfl)); intro gb hg w10 hbox hb; have n1_ := Aside0.mk (below_step HB.out hb); have n2_ := Aside0.mk hbox; have n3_ := Aside0.mk ((by rw [hg]; exact (below_size HB.out) : w.heap.size ≤ gb)); clear HB; have HB := n1_; have BK := n2_; have GE := n3_; clear n1_ n2_ n3_; clear hb hbox hg; have hcz_0 : w10.cell? ⟨gb, 0, none⟩ = some (.string (⟨#[]⟩ : ByteArray)) := (blk_cell BK.out 0).trans rfl; have hfz_0 := blk_frozen BK.out 0; have hcz_1 : w10.cell? ⟨gb, 1, none⟩ = some (.int .i64 0) := (blk_cell BK.out 1).trans rfl; have hfz_1 := blk_frozen BK.out 1; have hcz_2 : w10.cell? ⟨gb, 2, none⟩ = some (.int .i64 0) := (blk_cell BK.out 2).trans rfl; have hfz_2 := blk_frozen BK.out 2) | fail)
        refine (impl_TeamOk.calls k y.f0 y.f1 y.f2 true _ A.out).mono ?_
        rintro e w12 ⟨rfl, hb⟩
        have n1_ := Aside0.mk (below_then (by repeat (first | (with_reducible first | exact HB.out | apply below_alloc | apply pw_below_drewN | apply below_drew1 | refine below_set ?_ GE.out) | exact HB.out)) (below_size (by repeat (first | (with_reducible first | exact HB.out | apply below_alloc | apply pw_below_drewN | apply below_drew1 | refine below_set ?_ GE.out) | exact HB.out))) hb)
        have n2_ := Aside0.mk (blk_below (g := gb) (o := .cells #[.string (y.f0), .int .i64 (y.f1), .int .i64 (y.f2)] 48 (0, 0)) (by refine blk_put (cs := #[.string (y.f0), .int .i64 (y.f1), .int .i64 0]) ?_ 2 _ rfl; refine blk_put (cs := #[.string (y.f0), .int .i64 0, .int .i64 0]) ?_ 1 _ rfl; refine blk_put (cs := #[.string (⟨#[]⟩ : ByteArray), .int .i64 0, .int .i64 0]) ?_ 0 _ rfl; exact BK.out) hb)
        clear hb HB BK
        have HB := n1_
        have BK := n2_
        clear n1_ n2_
        go_wp2_with fail
        refine calls_of_args (args' := #[.slice (some ad) (l0.take i).length c0, .func (.func 45) #[] #[.pointer (some ⟨gb, 0, none⟩)]]) (by rw [HTK.out]) ?_
        by_cases c : 0 ≤ idxP (clashP y) (l0.take i)
        · have H3 := H2.out
          rw [if_pos c] at H3
          obtain rfl := Option.some.inj H3
          clear H3 H2
          refine (impl_FieldOk.cf.calls (clashP y) #[.pointer (some ⟨gb, 0, none⟩)] (some ad) c0 (l0.take i) true (decide_eq_true c) _ (C_take (Kd.C_below HR0.out HB.out) i) (by have := HC0.out; have := HTK.out; omega) ?_).mono ?_
          · intro W x hW
            exact impl_FieldOk.lit x y gb W (pw_cell_below hW ((blk_cell BK.out 0).trans rfl)) (pw_cell_below hW ((blk_cell BK.out 2).trans rfl))
          · rintro e w13 ⟨rfl, hb⟩
            have n1_ := Aside0.mk (below_then HB.out (below_size HB.out) hb)
            clear hb HB c
            go_wp2
            go_ret
            exact ⟨rfl, n1_.out⟩
        · have H3 := H2.out
          rw [if_neg c] at H3
          have H4 := Aside0.mk H3
          clear H3 H2
          refine (impl_FieldOk.cf.calls (clashP y) #[.pointer (some ⟨gb, 0, none⟩)] (some ad) c0 (l0.take i) false (decide_eq_false c) _ (C_take (Kd.C_below HR0.out HB.out) i) (by have := HC0.out; have := HTK.out; omega) ?_).mono ?_
          · intro W x hW
            exact impl_FieldOk.lit x y gb W (pw_cell_below hW ((blk_cell BK.out 0).trans rfl)) (pw_cell_below hW ((blk_cell BK.out 2).trans rfl))
          · rintro e w13 ⟨rfl, hb⟩
            have n1_ := Aside0.mk (below_then HB.out (below_size HB.out) hb)
            clear hb HB c
            go_wp2
            go_roundg (l0.length - (i + 1))
            case measure => have := HG.out; omega
            case rel => exact ⟨i + 1, by go_num, ⟨by omega⟩, ⟨Nat.le_refl _⟩, H4, n1_⟩
    · have hltz : decide ((i : Int) < (l0.length : Int)) = false := decide_eq_false (by omega)
      have H := HS.out
      rw [show l0.length - i = 0 by omega] at H
      simp only [impl_FieldOk.l0] at H
      have H1 := Aside0.mk H
      clear H HS
      go_wp2_with fail
      refine (impl_within.calls (l0.length : Int) 2 8 r _ H1.out).mono ?_
      rintro e w13 ⟨rfl, hb⟩
      have n1_ := Aside0.mk (below_then HB.out (below_size HB.out) hb.below)
      clear hb HB
      go_wp2
      go_ret
      exact ⟨rfl, n1_.out⟩

/-! ### impl_upTo: function 40 -/
def impl_upTo.l0 : Nat → List Int → Int → Int → Option (List Int)
  | 0, _, _, _ => none
  | k + 1, x3, x7, x8 => if x8 < x7 then (if x3.length < 17592186044416 then (impl_upTo.l0 k (x3 ++ [x8]) x7 (wrap64 (x8 + 1))) else (none)) else (some x3)
def impl_upTo.f (k : Nat) (a0 : Int) : Option (List Int) := impl_upTo.l0 k (([] : List Int)) (mx a0 0) 0
theorem impl_upTo.mono_l : ∀ k, (∀ y0 y1 y2, LeO (impl_upTo.l0 k y0 y1 y2) (impl_upTo.l0 (k + 1) y0 y1 y2))
  | 0 => fun _ _ _ r h => by simp [impl_upTo.l0] at h
  | k + 1 => by
    have ih0 := impl_upTo.mono_l k
    · intro y0 y1 y2
      unfold impl_upTo.l0
      repeat' first
      | (with_reducible exact ih0 _ _ _)
      | (with_reducible exact LeO.refl _)
      | (with_reducible exact LeO.none _)
      | (with_reducible refine LeO.ite ?_ ?_)
      | (with_reducible refine LeO.bind ?_ (fun _ => ?_))
      | exact ih0 _ _ _
      | exact LeO.none _
      | refine LeO.ite ?_ ?_
      | refine LeO.bind ?_ (fun _ => ?_)
theorem impl_upTo.mono : ∀ a0 k, LeO (impl_upTo.f k a0) (impl_upTo.f (k + 1) a0) := by
  intro a0 k
  have ih0 := impl_upTo.mono_l k
  unfold impl_upTo.f
  repeat' first
      | (with_reducible exact ih0 _ _ _)
      | (with_reducible exact LeO.refl _)
      | (with_reducible exact LeO.none _)
      | (with_reducible refine LeO.ite ?_ ?_)
      | (with_reducible refine LeO.bind ?_ (fun _ => ?_))
      | exact ih0 _ _ _
      | exact LeO.none _
      | refine LeO.ite ?_ ?_
      | refine LeO.bind ?_ (fun _ => ?_)
set_option maxHeartbeats 8000000 in
set_option maxRecDepth 100000 in
theorem impl_upTo.calls (k : Nat) (a0 : Int) (r : List Int) (w : World) (h : impl_upTo.f k a0 = some r) :
    Calls Try.prog 40 #[.int .i64 a0] w fun e w' => ∃ v0_ : Value, e = .returned (v0_) ∧ Kd.R (Kd.int .i64) 3 w' w.heap.size (fun _ => True) v0_ r ∧ Below w.heap.size w w' := by
  have HB := Aside0.mk (Below.refl w.heap.size w)
  have H : (impl_upTo.l0 k (([] : List Int)) (mx a0 0) 0) = some r := h
  clear h
  obtain ⟨y168, hy168⟩ : ∃ y_ : List Int, y_ = (([] : List Int)) := ⟨_, rfl⟩
  replace H : (impl_upTo.l0 k y168 (mx a0 0) 0) = some r := by first | (rw [hy168]; with_reducible exact H) | (have H2_ := (Option.bind_some _ _).symm.trans H; rw [hy168]; with_reducible exact H2_) | (have H2_ := (Option.bind_some _ _).symm.trans H; with_reducible exact H2_) | with_reducible exact H | (rw [hy168]; exact H) | exact H
  have Ny168 := Aside0.mk hy168
  clear hy168
  obtain ⟨ji2, hji2⟩ : ∃ j_ : Int, (mx a0 0) = j_ := ⟨_, rfl⟩
  replace H : (impl_upTo.l0 k y168 ji2 0) = some r := by first | (rw [hji2] at H; exact H) | (simp only [hji2] at H ⊢; exact H)
  (try (have hji2l : 0 ≤ ji2 := by (rw [← hji2]; unfold mx; (repeat' split) <;> omega)))
  (try (have hji2m : 0 ≤ ji2 := by omega))
  have hji2_ : (if a0 < 0 then 0 else a0) = ji2 := hji2
  have H' := Aside0.mk H
  clear H
  go_enter Try.func40, Try.ntmps40
  go_wp2_with (first | ((with_reducible refine gate_dst (N := 5) rfl ?_); refine Kd.R_lit (Kd.int .i64) _ 3 ?hg (N := 5) ?hd (xs := ([] : List Int)) (inner := []) (ok := fun _ => True) (okp := fun _ => True) ?hr ?hp (fun _ hk => hk) trivial (Below.refl _ _) (Nat.le_refl _) (by simp) ?_; (case hd => rfl); (case hg => rfl); (case hr => first | (go_simp; done) | (go_simp; rfl)); (case hp => exact (Reps.none _ _)); intro v169 w3 ho4 hb hg_ hnew_; clear hg_ hnew_; (first | rw [← Ny168.out] at ho4 | (simp only [Int.reduceToNat] at ho4; rw [← Ny168.out] at ho4)); have n0_ := Aside0.mk (Kd.R_lower ho4 (below_size (by repeat (first | (with_reducible first | exact HB.out | apply below_alloc | apply pw_below_drewN | apply below_drew1) | exact HB.out)))); have n1_ := Aside0.mk (below_step (by repeat (first | (with_reducible first | exact HB.out | apply below_alloc | apply pw_below_drewN | apply below_drew1) | exact HB.out)) hb); clear HB; have HO170 := n0_; have HB := n1_; clear n0_ n1_; clear hb ho4))
  go_loopg [3, 8] k (fun kq v3 v8 w' => ∃ (x3_1 : List Int) (x8_1 : Int), v8 = .int .i64 x8_1 ∧ Aside0 (impl_upTo.l0 kq x3_1 ji2 x8_1 = some r) ∧ Aside0 (kq ≤ k) ∧ Aside0 (Kd.R (Kd.int .i64) 3 w' w.heap.size (fun _ => True) v3 x3_1) ∧ Aside0 (Below w.heap.size w w'))
  case atStart => exact ⟨(y168), (0), (by first | rfl | (simp; done) | (simp [*]; done)), H', ⟨Nat.le_refl _⟩, ⟨by (with_reducible repeat (first | apply Kd.R_alloc | apply Kd.R_drewN | apply Kd.R_drew)); exact HO170.out⟩, ⟨by repeat (first | (with_reducible first | exact HB.out | apply below_alloc | apply pw_below_drewN | apply below_drew1) | exact HB.out)⟩⟩
  case round =>
    clear H'
    try clear p2
    try clear c4
    obtain ⟨x3_1, x8_1, rfl, HA, HK1, HO_3, HB⟩ := hrel
    cases gk with
    | zero => exact absurd HA.out (by simp [impl_upTo.l0])
    | succ k1 =>
      have H := HA.out
      clear HA
      simp only [impl_upTo.l0] at H
      by_cases c5 : x8_1 < ji2
      · rw [if_pos c5] at H
        have c5b0 : decide (x8_1 < ji2) = true := decide_eq_true c5
        clear c5
        by_cases c6 : x3_1.length < 17592186044416
        · rw [if_pos c6] at H
          have LMc6 := Aside0.mk c6
          clear c6
          obtain ⟨y171, hy171⟩ : ∃ y_ : List Int, y_ = (x3_1 ++ [x8_1]) := ⟨_, rfl⟩
          replace H : (impl_upTo.l0 k1 y171 ji2 (wrap64 (x8_1 + 1))) = some r := by first | (rw [hy171]; with_reducible exact H) | (have H2_ := (Option.bind_some _ _).symm.trans H; rw [hy171]; with_reducible exact H2_) | (have H2_ := (Option.bind_some _ _).symm.trans H; with_reducible exact H2_) | with_reducible exact H | (rw [hy171]; exact H) | exact H
          have Ny171 := Aside0.mk hy171
          clear hy171
          have H' := Aside0.mk H
          clear H
          go_wp2_with (first | ((with_reducible refine gate_builtin (b := .append) (xs := #[.tmp 11, .tmp 13]) rfl ?_); at_builtin; refine Kd.R_append (Kd.int .i64) (w0 := w) w.heap.size rfl (.tmp 11) (.tmp 13) 23 3 (.int .i64 0) 8 rfl Try.underlying23 info3 rfl (by decide) (by omega) u3 x3_1 x8_1 [.int .i64 x8_1] (fun _ => True) (fun _ => False) rfl rfl ?aP (fun _ hk => hk.elim) ?aF ?aO ?aB ?aS ?aL ?_; (case aP => exact rfl); (case aB => exact (by repeat (first | (with_reducible first | exact HB.out | apply below_alloc | apply pw_below_drewN | apply below_drew1) | exact HB.out))); (case aF => exact (fun _ _ => trivial)); (case aO => exact (by (with_reducible repeat (first | apply Kd.R_alloc | apply Kd.R_drewN | apply Kd.R_drew)); exact HO_3.out)); (case aS => exact (below_size (by repeat (first | (with_reducible first | exact HB.out | apply below_alloc | apply pw_below_drewN | apply below_drew1) | exact HB.out)))); (case aL => have := LMc6.out; omega); intro v172 w7 ho hb hg hat; rw [← Ny171.out] at ho; have n0_ := Aside0.mk (hb); have n1_ := Aside0.mk (ho); clear HB; clear HO_3; have HB := n0_; have HO173 := n1_; clear n0_ n1_; clear ho hb hg hat))
          go_roundg k1
          case measure => have := HK1.out; omega
          case rel => exact ⟨(y171), (wrap64 (x8_1 + 1)), (by first | rfl | (simp; done) | (simp [*]; done)), H', ⟨by have := HK1.out; omega⟩, ⟨by (with_reducible repeat (first | apply Kd.R_alloc | apply Kd.R_drewN | apply Kd.R_drew)); exact HO173.out⟩, ⟨by repeat (first | (with_reducible first | exact HB.out | apply below_alloc | apply pw_below_drewN | apply below_drew1) | exact HB.out)⟩⟩
        · rw [if_neg c6] at H
          exact absurd H (by simp)
      · rw [if_neg c5] at H
        have c5b0 : decide (x8_1 < ji2) = false := decide_eq_false c5
        clear c5
        obtain rfl := Option.some.inj H
        go_wp2
        go_ret
        exact ⟨_, by first | rfl | (simp [errW_none, errW_some] <;> rfl) | (simp only [← hji2]; first | rfl | (simp [errW_none, errW_some] <;> rfl)) | (simp [*, errW_none, errW_some] <;> rfl), by (with_reducible repeat (first | apply Kd.R_alloc | apply Kd.R_drewN | apply Kd.R_drew)); exact HO_3.out, by repeat (first | (with_reducible first | exact HB.out | apply below_alloc | apply pw_below_drewN | apply below_drew1) | exact HB.out)⟩

-- NOT PRINTED: function 97 (slices_insertionSortCmpFunc_int)

-- NOT PRINTED: function 115 (slices_siftDownCmpFunc_int)

-- NOT PRINTED: function 98 (slices_heapSortCmpFunc_int)

-- NOT PRINTED: function 105 (bits_Len32)

-- NOT PRINTED: function 106 (bits_Len64)

-- NOT PRINTED: function 77 (bits_Len)

-- NOT PRINTED: function 116 (slices_nextPowerOfTwo)

-- NOT PRINTED: function 117 (slices_xorshift_Next)

-- NOT PRINTED: function 99 (slices_breakPatternsCmpFunc_int)

-- NOT PRINTED: function 129 (slices_order2CmpFunc_int)

-- NOT PRINTED: function 119 (slices_medianCmpFunc_int)

-- NOT PRINTED: function 118 (slices_medianAdjacentCmpFunc_int)

-- NOT PRINTED: function 100 (slices_choosePivotCmpFunc_int)

-- NOT PRINTED: function 101 (slices_reverseRangeCmpFunc_int)

-- NOT PRINTED: function 102 (slices_partialInsertionSortCmpFunc_int)

-- NOT PRINTED: function 103 (slices_partitionEqualCmpFunc_int)

-- NOT PRINTED: function 104 (slices_partitionCmpFunc_int)

-- NOT PRINTED: function 76 (slices_pdqsortCmpFunc_int)

-- NOT PRINTED: function 41 (slices_SortFunc_int_int)

/-! ### impl_SeedOrder: function 13 -/
section
open Go.Sort
variable {α : Type} [Inhabited α] {enc : α → Value}
theorem so_holds {w : World} {g : Nat} {cur : Array Value} {e : TypeId} {xs : List α} (hb : w.heap[g]? = some (.cells cur e (0, 0))) (ht : cur.toList.take xs.length = xs.map enc) : Holds enc w g 0 xs.toArray := by
  intro j hj
  have hj' : j < xs.length := by simpa using hj
  refine ⟨?_, by simp [World.frozen?, hb]⟩
  have h1 : (cur.toList.take xs.length)[j]? = (xs.map enc)[j]? := by rw [ht]
  rw [List.getElem?_take_of_lt hj'] at h1
  simp only [World.cell?, hb, Nat.zero_add]
  simp only [Option.isSome_none, Bool.false_eq_true, if_false]
  rw [← Array.getElem?_toList, h1]
  simp [hj']
theorem so_other {w : World} {g n : Nat} {os : Array Obj} (d : Array α) (k : Nat) (hk : k < w.heap.size) (hne : k ≠ g) : (grow (putRow enc (Sort.ahead w n) g 0 d) os).heap[k]? = w.heap[k]? := by
  rw [heap_grow_old _ _ (by simpa using hk)]
  simp [putRow, mapBlock, Sort.ahead, Array.getElem?_modify, Ne.symm hne]
theorem so_heap {w : World} {g n : Nat} {os : Array Obj} {cur : Array Value} {e : TypeId} {fr : Nat × Nat} (d : Array α) (hb : w.heap[g]? = some (.cells cur e fr)) :
    (grow (putRow enc (Sort.ahead w n) g 0 d) os).heap[g]? = some (.cells (putCells enc 0 d cur) e fr) := by
  have hg : g < w.heap.size := (Array.getElem?_eq_some_iff.1 hb).1
  rw [heap_grow_old _ _ (by simpa using hg)]
  simp [putRow, mapBlock, Sort.ahead, Array.getElem?_modify, hb, onCells]
theorem so_take (cur : Array Value) (ts : List α) (h : ts.length ≤ cur.size) : (putCells enc 0 ts.toArray cur).toList.take ts.length = ts.map enc := by
  apply List.ext_getElem?
  intro j
  by_cases hj : j < ts.length
  · rw [List.getElem?_take_of_lt hj, Array.getElem?_toList]
    simp [putCells, hj, show j < cur.size by omega]
  · rw [List.getElem?_take_eq_none (by omega), List.getElem?_eq_none (by simp; omega)]
theorem so_grownBy {w : World} {g n : Nat} {os : Array Obj} (d : Array α) : w.grownBy (grow (putRow enc (Sort.ahead w n) g 0 d) os) (some g) := by
  refine ⟨rfl, rfl, rfl, by simp, fun k hk hne => so_other d k hk (fun e => hne (by rw [e]))⟩
/-- Behind the sort the same slice owns the sorted list. -/
theorem so_own {w : World} {base g cap n m : Nat} {e : TypeId} {os : Array Obj} {cur : Array Value} {ts : List α} (hl : ts.length = m) (hbase : base ≤ g) (hb : w.heap[g]? = some (.cells cur e (0, 0)))
    (h1 : m ≤ cap) (h2 : cap ≤ maxLen) (h3 : cur.size = cap * 1) :
    (grow (putRow enc (Sort.ahead w n) g 0 ts.toArray) os).ownsRow base e 1 (.slice (some ⟨g, 0, none⟩) m cap) m (ts.map enc) := by
  subst hl
  exact ⟨by simp, .inr ⟨g, cap, _, rfl, hbase, so_heap _ hb, h1, h2, by simp [putCells, h3], by rw [Nat.mul_one]; exact so_take cur ts (by omega)⟩⟩
end
def impl_SeedOrder.sd (l0 : List (S48)) (i : Int) : Int := (rd_T48 l0 i).f2
/-- What the sort asks: members within the list; seeds small, and no two alike. -/
def impl_SeedOrder.ok (l0 : List (S48)) (u : List Int) : Bool := (u.all fun x => decide (0 ≤ x) && decide (x < (l0.length : Int))) && ((l0.all fun t => decide (0 ≤ t.f2) && decide (t.f2 ≤ 1000)) && (decide (l0.map fun t => t.f2).Nodup && decide (0 < u.length ∧ u.length < 4611686018427387904)))
def impl_SeedOrder.g (l0 : List (S48)) (u : List Int) : Option (List Int) := if impl_SeedOrder.ok l0 u = true then some (u.mergeSort fun i j => decide (impl_SeedOrder.sd l0 i ≤ impl_SeedOrder.sd l0 j)) else none
def impl_SeedOrder.f (k : Nat) (l0 : List (S48)) : Option (List Int) := (impl_FieldOk.f k l0).bind fun b => if b = true then (impl_upTo.f k (l0.length : Int)).bind fun u => impl_SeedOrder.g l0 u else some []
theorem impl_SeedOrder.mono : ∀ a0 k, LeO (impl_SeedOrder.f k a0) (impl_SeedOrder.f (k + 1) a0) := fun a0 k =>
  LeO.bind (impl_FieldOk.mono a0 k) (fun b => LeO.ite (LeO.bind (impl_upTo.mono _ k) (fun _ => LeO.refl _)) (LeO.refl _))
abbrev impl_SeedOrder.Ix (l0 : List (S48)) : Type := {i : Int // 0 ≤ i ∧ i < (l0.length : Int)}
def impl_SeedOrder.enc (l0 : List (S48)) (x : impl_SeedOrder.Ix l0) : Value := .int .i64 x.1
def impl_SeedOrder.cf (l0 : List (S48)) (x y : impl_SeedOrder.Ix l0) : Int := wrap64 (impl_SeedOrder.sd l0 x.1 - impl_SeedOrder.sd l0 y.1)
theorem impl_SeedOrder.lt {l0 : List (S48)} (h : (l0.all fun t => decide (0 ≤ t.f2) && decide (t.f2 ≤ 1000)) = true) (x y : impl_SeedOrder.Ix l0) : Go.Proofs.ltOf (impl_SeedOrder.cf l0) x y = decide (impl_SeedOrder.sd l0 x.1 < impl_SeedOrder.sd l0 y.1) := by
  have hb : ∀ x : impl_SeedOrder.Ix l0, 0 ≤ impl_SeedOrder.sd l0 x.1 ∧ impl_SeedOrder.sd l0 x.1 ≤ 1000 := by
    intro x
    obtain ⟨i, h0, h1⟩ := x
    have hm : rd_T48 l0 i ∈ l0 := by
      have hi : i.toNat < l0.length := by omega
      have e : rd_T48 l0 i = l0[i.toNat] := by simp [rd_T48, List.getD_eq_getElem?_getD, hi]
      rw [e]; exact List.getElem_mem hi
    have := List.all_eq_true.1 h _ hm
    simpa [impl_SeedOrder.sd] using this
  unfold Go.Proofs.ltOf impl_SeedOrder.cf
  have hx := hb x
  have hy := hb y
  have e : wrap64 (impl_SeedOrder.sd l0 x.1 - impl_SeedOrder.sd l0 y.1) = impl_SeedOrder.sd l0 x.1 - impl_SeedOrder.sd l0 y.1 := by unfold wrap64; omega
  rw [e, decide_eq_decide]
  omega
theorem impl_SeedOrder.swo {l0 : List (S48)} (h : (l0.all fun t => decide (0 ≤ t.f2) && decide (t.f2 ≤ 1000)) = true) : Go.Sort.SWO (Go.Proofs.ltOf (impl_SeedOrder.cf l0)) where
  irrefl := fun x => by rw [impl_SeedOrder.lt h]; exact decide_eq_false (by omega)
  trans := fun x y z a b => by
    rw [impl_SeedOrder.lt h] at a b ⊢
    have a := of_decide_eq_true a
    have b := of_decide_eq_true b
    exact decide_eq_true (by omega)
  ntrans := fun x y z a b => by
    rw [impl_SeedOrder.lt h] at a b ⊢
    have a := of_decide_eq_false a
    have b := of_decide_eq_false b
    exact decide_eq_false (by omega)
theorem impl_SeedOrder.inj {l0 : List (S48)} (h : (l0.map fun t => t.f2).Nodup) (x y : impl_SeedOrder.Ix l0) (e : impl_SeedOrder.sd l0 x.1 = impl_SeedOrder.sd l0 y.1) : x = y := by
  obtain ⟨i, i0, i1⟩ := x
  obtain ⟨j, j0, j1⟩ := y
  apply Subtype.ext
  show i = j
  have hi : i.toNat < l0.length := by omega
  have hj : j.toNat < l0.length := by omega
  have ei : impl_SeedOrder.sd l0 i = (l0.map fun t => t.f2)[i.toNat]'(by simpa using hi) := by simp [impl_SeedOrder.sd, rd_T48, List.getD_eq_getElem?_getD, hi]
  have ej : impl_SeedOrder.sd l0 j = (l0.map fun t => t.f2)[j.toNat]'(by simpa using hj) := by simp [impl_SeedOrder.sd, rd_T48, List.getD_eq_getElem?_getD, hj]
  have e' : impl_SeedOrder.sd l0 i = impl_SeedOrder.sd l0 j := e
  rw [ei, ej] at e'
  have hp := List.pairwise_iff_getElem.1 h
  rcases Nat.lt_trichotomy i.toNat j.toNat with c | c | c
  · exact absurd e' (hp _ _ (by simpa using hi) (by simpa using hj) c)
  · omega
  · exact absurd e'.symm (hp _ _ (by simpa using hj) (by simpa using hi) c)
set_option maxHeartbeats 800000 in
theorem impl_SeedOrder.lit (A0 : Option Addr) (c0 : Nat) (l0 : List (S48)) (i j : Int) (b1 : Nat) (w : World) (hr0 : Kd.C k48 w A0 l0.length l0) (h0 : 0 ≤ i) (h1 : i < (l0.length : Int)) (h2 : 0 ≤ j) (h3 : j < (l0.length : Int)) (hc1 : w.cell? ⟨b1, 0, none⟩ = some (.slice A0 l0.length c0)) :
    Calls Try.prog 42 #[.int .i64 i, .int .i64 j, .pointer (some ⟨b1, 0, none⟩)] w fun e w' => e = .returned (.int .i64 (wrap64 (impl_SeedOrder.sd l0 i - impl_SeedOrder.sd l0 j))) ∧ ∃ q, w' = w.drewN q := by
  have hu90 := Try.underlying48
  obtain ⟨ad, ea, hx0, hx1, hx2⟩ := at_T48 hr0 i h0 h1
  cases ea
  have h0z : decide (0 ≤ i) = true := decide_eq_true h0
  have h1z : decide (i < (l0.length : Int)) = true := decide_eq_true h1
  unfold impl_SeedOrder.sd
  generalize hy : rd_T48 l0 i = y at hx0 hx1 hx2 ⊢
  have gx2 := hx2
  clear hx0 hx1 hx2
  obtain ⟨ad', ea', hx0, hx1, hx2⟩ := at_T48 hr0 j h2 h3
  cases ea'
  have h2z : decide (0 ≤ j) = true := decide_eq_true h2
  have h3z : decide (j < (l0.length : Int)) = true := decide_eq_true h3
  generalize hy' : rd_T48 l0 j = y' at hx0 hx1 hx2 ⊢
  clear hr0 hy hy'
  go_enter Try.func42, Try.ntmps42
  go_wp2
  go_quiet (fail)
  go_wp2
  go_ret
  exact ⟨rfl, _, rfl⟩
set_option maxHeartbeats 2000000 in
theorem impl_SeedOrder.calls (k : Nat) (A0 : Option Addr) (c0 : Nat) (l0 : List (S48)) (r : List Int) (w : World) (hr0 : Kd.C k48 w A0 l0.length l0) (hc0 : l0.length ≤ c0) (h : impl_SeedOrder.f k l0 = some r) :
    Calls Try.prog 13 #[.slice A0 l0.length c0] w fun e w' => ∃ v0_ : Value, e = .returned (v0_) ∧ Kd.R (Kd.int .i64) 3 w' w.heap.size (fun _ => True) v0_ r ∧ Below w.heap.size w w' := by
  obtain ⟨b, hA, h⟩ := Option.bind_eq_some_iff.mp h
  have HR := Aside0.mk hr0
  have HC := Aside0.mk hc0
  have HA := Aside0.mk hA
  have H := Aside0.mk h
  have hmax : l0.length ≤ 9223372036854775807 := hr0.2.1
  clear hr0 hc0 hA h
  have HB0 := Aside0.mk ((Below.refl w.heap.size w).alloc (Nat.le_refl _) (.cells #[.slice A0 l0.length c0] 31 (0, 0)))
  cases b with
  | false =>
    have hr := H.out
    rw [if_neg (by simp)] at hr
    obtain rfl := Option.some.inj hr
    clear hr H
    go_enter Try.func13, Try.ntmps13
    go_wp2_with fail
    refine (impl_FieldOk.calls k A0 c0 l0 false _ (Kd.C_below HR.out HB0.out) HC.out HA.out).mono ?_
    rintro e w2 ⟨rfl, hb⟩
    have HB := Aside0.mk (HB0.out.trans (hb.mono (by simp)))
    clear hb HB0
    go_wp2
    go_ret
    exact ⟨_, rfl, Kd.R_nil _ _ _ _ _, HB.out⟩
  | true =>
    have hr := H.out
    rw [if_pos rfl] at hr
    obtain ⟨u, hU, hr⟩ := Option.bind_eq_some_iff.mp hr
    unfold impl_SeedOrder.g at hr
    by_cases hall : impl_SeedOrder.ok l0 u = true
    · rw [if_pos hall] at hr
      obtain rfl := Option.some.inj hr
      clear hr H
      have HU := Aside0.mk hU
      have HALL := Aside0.mk hall
      clear hU hall
      go_enter Try.func13, Try.ntmps13
      go_wp2_with fail
      refine (impl_FieldOk.calls k A0 c0 l0 true _ (Kd.C_below HR.out HB0.out) HC.out HA.out).mono ?_
      rintro e w2 ⟨rfl, hb⟩
      have HB := Aside0.mk (HB0.out.trans (hb.mono (by simp)))
      have hcl : w2.cell? ⟨w.heap.size, 0, none⟩ = some (.slice A0 l0.length c0) := by rw [hb.cell (by simp)]; simp
      have hsz : w.heap.size < w2.heap.size := by have := hb.size; simp at this; omega
      have HSZ := Aside0.mk hsz
      clear hb HB0 hsz
      go_wp2_with fail
      refine (impl_upTo.calls k (l0.length : Int) u _ HU.out).mono ?_
      rintro e w3 ⟨v0, rfl, ho, hb⟩
      have HO := Aside0.mk (Kd.R_lower (base' := w.heap.size) ho (below_size HB.out))
      have HNE : Aside0 (∀ b, b < w2.heap.size → ¬ v0.ownBlock = some b) := ⟨fun b hb' he => by have := Kd.R_base ho _ he; omega⟩
      have HCL := Aside0.mk (show w3.cell? ⟨w.heap.size, 0, none⟩ = some (.slice A0 l0.length c0) from pw_cell_below hb hcl)
      have n1_ := Aside0.mk (HB.out.trans (hb.mono (below_size HB.out)))
      clear ho hb hcl HB
      have HB := n1_
      clear n1_
      go_wp2_with fail
      have hok := HALL.out
      unfold impl_SeedOrder.ok at hok
      simp only [Bool.and_eq_true, decide_eq_true_eq] at hok
      obtain ⟨ok1, ok2, ok3, ok4, ok5⟩ := hok
      have OK1 := Aside0.mk ok1
      have OK2 := Aside0.mk ok2
      have OK3 := Aside0.mk ok3
      clear ok1 ok2 ok3 HALL
      have hown := Kd.own_of_R HO.out
      rcases hown.2 with ⟨_, h0⟩ | ⟨g, cap, cur, rfl, hbase, hbk, q1, q2, q3, q4⟩
      · exact absurd h0 (by omega)
      · have hg2 : w2.heap.size ≤ g := by
          rcases Nat.lt_or_ge g w2.heap.size with c | c
          · exact absurd rfl (HNE.out g c)
          · exact c
        have hlt := (Array.getElem?_eq_some_iff.1 hbk).1
        have hmem : ∀ x ∈ u, 0 ≤ x ∧ x < (l0.length : Int) := by
          intro x hx
          have := List.all_eq_true.1 OK1.out x hx
          simpa using this
        have hpos : 0 ≤ (0 : Int) ∧ (0 : Int) < (l0.length : Int) := by
          cases u with
          | nil => simp at ok4
          | cons x u => have := hmem x (List.mem_cons_self); omega
        have hUV : u = (u.attach.map fun x => (⟨x.1, hmem x.1 x.2⟩ : impl_SeedOrder.Ix l0)).map Subtype.val := by
          rw [List.map_map]
          exact (List.attach_map_subtype_val u).symm
        generalize hV : (u.attach.map fun x => (⟨x.1, hmem x.1 x.2⟩ : impl_SeedOrder.Ix l0)) = V at hUV
        have hVl : V.length = u.length := by rw [hUV]; simp
        haveI : Inhabited (impl_SeedOrder.Ix l0) := ⟨⟨0, hpos⟩⟩
        have henc : V.map (impl_SeedOrder.enc l0) = encs (Value.int .i64) u := by
          rw [hUV]; unfold encs; rw [List.map_map]; rfl
        have hH : Go.Sort.Holds (impl_SeedOrder.enc l0) w3 g 0 V.toArray := so_holds hbk (by rw [henc, hVl]; rw [Nat.mul_one] at q4; exact q4)
        have hms : (V.mergeSort fun x y => !(Go.Proofs.ltOf (impl_SeedOrder.cf l0)) y x).map Subtype.val = u.mergeSort fun i j => decide (impl_SeedOrder.sd l0 i ≤ impl_SeedOrder.sd l0 j) := by
          rw [hUV]
          apply List.map_mergeSort
          intro a _ b _
          rw [impl_SeedOrder.lt OK2.out, ← decide_not, decide_eq_decide]
          omega
        have cS := Try.slices_SortFunc_total (impl_SeedOrder.enc l0) (fun _ => rfl) (impl_SeedOrder.cf l0) (impl_SeedOrder.swo OK2.out) 42 #[.pointer (some ⟨w.heap.size, 0, none⟩)] g 0 cap V.toArray w3 (by intro args w; exact enters_of Try.func42 (by kernel_rfl) rfl args w) (by
          apply CmpReads.lays
          intro m os dk hs x y
          refine impl_SeedOrder.lit A0 c0 l0 x.1 y.1 _ _ ?_ x.2.1 x.2.2 y.2.1 y.2.2 ?_
          · exact Kd.Heap.C (by unfold k48; exact Kd.heap_iso _ (Kd.heap_pair Kd.heap_string (Kd.heap_pair (Kd.heap_int _) (Kd.heap_int _)))) (fun b hb => (so_other dk b (by have := HB.out.size; omega) (by have := HSZ.out; omega)).trans (HB.out.block b hb)) HR.out
          · have e := so_other (os := os) (n := m) (enc := impl_SeedOrder.enc l0) dk w.heap.size (w := w3) (g := g) (by have := HSZ.out; omega) (by have := HSZ.out; omega)
            have hc := HCL.out
            unfold World.cell? at hc ⊢
            unfold sortWorld
            rw [e]; exact hc) hH hlt (by simp [hVl]; omega) (fun x y a b => by
          rw [impl_SeedOrder.lt OK2.out] at a b
          have a := of_decide_eq_false a
          have b := of_decide_eq_false b
          exact impl_SeedOrder.inj OK3.out x y (by omega))
        rw [show V.toArray.size = u.length by simp [hVl]] at cS
        refine cS.mono ?_
        rintro e w4 ⟨rfl, n, os, rfl⟩
        have hl : (V.mergeSort fun x y => !(Go.Proofs.ltOf (impl_SeedOrder.cf l0)) y x).length = u.length := by simp [hVl]
        have ho2 := so_own (enc := impl_SeedOrder.enc l0) (n := n) (os := os) hl hbase hbk q1 q2 q3
        rw [show (V.mergeSort fun x y => !(Go.Proofs.ltOf (impl_SeedOrder.cf l0)) y x).map (impl_SeedOrder.enc l0) = encs (Value.int .i64) (u.mergeSort fun i j => decide (impl_SeedOrder.sd l0 i ≤ impl_SeedOrder.sd l0 j)) from by rw [← hms]; unfold encs; rw [List.map_map]; rfl] at ho2
        have HO2 : Aside0 (Kd.R (Kd.int .i64) 3 (sortWorld (impl_SeedOrder.enc l0) w3 g 0 n (V.mergeSort fun x y => !(Go.Proofs.ltOf (impl_SeedOrder.cf l0)) y x).toArray os) w.heap.size (fun _ => True) (.slice (some ⟨g, 0, none⟩) u.length cap) (u.mergeSort fun i j => decide (impl_SeedOrder.sd l0 i ≤ impl_SeedOrder.sd l0 j))) := ⟨Kd.R_of_own (by rw [List.length_mergeSort]; exact ho2) (fun _ _ => trivial)⟩
        have HB2 : Aside0 (Below w.heap.size w (sortWorld (impl_SeedOrder.enc l0) w3 g 0 n (V.mergeSort fun x y => !(Go.Proofs.ltOf (impl_SeedOrder.cf l0)) y x).toArray os)) := ⟨HB.out.grown (so_grownBy _) (by have := HB.out.size; omega) (by intro k hk; simp at hk; omega)⟩
        clear ho2 hl cS hms hH
        generalize sortWorld (impl_SeedOrder.enc l0) w3 g 0 n (V.mergeSort fun x y => !(Go.Proofs.ltOf (impl_SeedOrder.cf l0)) y x).toArray os = w4 at HO2 HB2 ⊢
        clear hV henc hUV hVl hmem hpos hown
        go_wp2
        go_ret
        exact ⟨_, rfl, HO2.out, HB2.out⟩
    · rw [if_neg hall] at hr; cases hr

/-! ### slices_Equal_int_int: function 47 -/
def slices_Equal_int_int.l0 : Nat → List Int → List Int → Int → Int → Option (Bool)
  | 0, _, _, _, _ => none
  | k + 1, x0, x1, x12, x13 => if x13 < x12 then (if 0 ≤ x13 then (if x13 < (x0.length : Int) then (if x13 < (x1.length : Int) then (if (rd x0 x13) = (rd x1 x13) then (slices_Equal_int_int.l0 k x0 x1 x12 (wrap64 (x13 + 1))) else (some false)) else (none)) else (none)) else (none)) else (some true)
def slices_Equal_int_int.f (k : Nat) (l0 : List Int) (l1 : List Int) : Option (Bool) := if (l0.length : Int) = (l1.length : Int) then (slices_Equal_int_int.l0 k l0 l1 (l0.length : Int) 0) else (some false)
theorem slices_Equal_int_int.mono_l : ∀ k, (∀ y0 y1 y2 y3, LeO (slices_Equal_int_int.l0 k y0 y1 y2 y3) (slices_Equal_int_int.l0 (k + 1) y0 y1 y2 y3))
  | 0 => fun _ _ _ _ r h => by simp [slices_Equal_int_int.l0] at h
  | k + 1 => by
    have ih0 := slices_Equal_int_int.mono_l k
    · intro y0 y1 y2 y3
      unfold slices_Equal_int_int.l0
      repeat' first
      | (with_reducible exact ih0 _ _ _ _)
      | (with_reducible exact LeO.refl _)
      | (with_reducible exact LeO.none _)
      | (with_reducible refine LeO.ite ?_ ?_)
      | (with_reducible refine LeO.bind ?_ (fun _ => ?_))
      | exact ih0 _ _ _ _
      | exact LeO.none _
      | refine LeO.ite ?_ ?_
      | refine LeO.bind ?_ (fun _ => ?_)
theorem slices_Equal_int_int.mono : ∀ a0 a1 k, LeO (slices_Equal_int_int.f k a0 a1) (slices_Equal_int_int.f (k + 1) a0 a1) := by
  intro a0 a1 k
  have ih0 := slices_Equal_int_int.mono_l k
  unfold slices_Equal_int_int.f
  repeat' first
      | (with_reducible exact ih0 _ _ _ _)
      | (with_reducible exact LeO.refl _)
      | (with_reducible exact LeO.none _)
      | (with_reducible refine LeO.ite ?_ ?_)
      | (with_reducible refine LeO.bind ?_ (fun _ => ?_))
      | exact ih0 _ _ _ _
      | exact LeO.none _
      | refine LeO.ite ?_ ?_
      | refine LeO.bind ?_ (fun _ => ?_)
set_option maxHeartbeats 8000000 in
set_option maxRecDepth 100000 in
theorem slices_Equal_int_int.calls (k : Nat) (A0 : Option Addr) (c0 : Nat) (l0 : List Int) (A1 : Option Addr) (c1 : Nat) (l1 : List Int) (r : Bool) (w : World) (hr0 : Kd.C (Kd.int .i64) w A0 l0.length l0) (hc0 : l0.length ≤ c0) (hr1 : Kd.C (Kd.int .i64) w A1 l1.length l1) (hc1 : l1.length ≤ c1) (h : slices_Equal_int_int.f k l0 l1 = some r) :
    Calls Try.prog 47 #[.slice A0 l0.length c0, .slice A1 l1.length c1] w fun e w' => e = .returned (.bool r) ∧ Drawn0 w w' := by
  have HR0 := Aside0.mk hr0
  have HC0 := Aside0.mk hc0
  clear hr0 hc0
  have HR1 := Aside0.mk hr1
  have HC1 := Aside0.mk hc1
  clear hr1 hc1
  have H : (if (l0.length : Int) = (l1.length : Int) then (slices_Equal_int_int.l0 k l0 l1 (l0.length : Int) 0) else (some false)) = some r := h
  clear h
  by_cases c3 : (l0.length : Int) = (l1.length : Int)
  · rw [if_pos c3] at H
    have c3b0 : ((l0.length : Int) == (l1.length : Int)) = true := beq_iff_eq.mpr c3
    have c3b1 : ((l0.length : Int) != (l1.length : Int)) = false := bne_eq_false_iff_eq.mpr c3
    have c3b2 : (l0.length == l1.length) = true := by first | simpa using c3 | (simp at c3 ⊢; omega)
    clear c3
    have H' := Aside0.mk H
    clear H
    go_enter Try.func47, Try.ntmps47
    go_wp2
    repeat (go_quiet (fail); try go_wp2)
    go_loopg [13] k (fun kq v13 w' => ∃ (x13_1 : Int), v13 = .int .i64 x13_1 ∧ Aside0 (slices_Equal_int_int.l0 kq l0 l1 (l0.length : Int) x13_1 = some r) ∧ Aside0 (kq ≤ k) ∧ Drawn0 w w')
    case atStart => exact ⟨(0), (by first | rfl | (simp; done) | (simp [*]; done)), H', ⟨Nat.le_refl _⟩, by repeat (first | exact Drawn0.refl _ | apply Drawn0.step)⟩
    case round =>
      clear H'
      try clear c1
      try clear p2
      try clear c3
      try clear c3b0
      try clear c3b1
      try clear c3b2
      obtain ⟨x13_1, rfl, HA, HK1, ⟨m1, rfl⟩⟩ := hrel
      cases gk with
      | zero => exact absurd HA.out (by simp [slices_Equal_int_int.l0])
      | succ k1 =>
        have H := HA.out
        clear HA
        simp only [slices_Equal_int_int.l0] at H
        by_cases c4 : x13_1 < (l0.length : Int)
        · rw [if_pos c4] at H
          have c4b0 : decide (x13_1 < (l0.length : Int)) = true := decide_eq_true c4
          clear c4
          by_cases c5 : 0 ≤ x13_1
          · rw [if_pos c5] at H
            have c5b0 : decide (0 ≤ x13_1) = true := decide_eq_true c5
            clear c5
            by_cases c6 : x13_1 < (l0.length : Int)
            · rw [if_pos c6] at H
              have c6b0 : decide (x13_1 < (l0.length : Int)) = true := decide_eq_true c6
              clear c6
              by_cases c7 : x13_1 < (l1.length : Int)
              · rw [if_pos c7] at H
                have c7b0 : decide (x13_1 < (l1.length : Int)) = true := decide_eq_true c7
                clear c7
                by_cases c8 : (rd l0 x13_1) = (rd l1 x13_1)
                · rw [if_pos c8] at H
                  have c8b0 : ((rd l0 x13_1) == (rd l1 x13_1)) = true := beq_iff_eq.mpr c8
                  have c8b1 : ((rd l0 x13_1) != (rd l1 x13_1)) = false := bne_eq_false_iff_eq.mpr c8
                  clear c8
                  have H' := Aside0.mk H
                  clear H
                  have p174 : 0 ≤ (x13_1 : Int) := of_decide_eq_true (by first | (with_reducible assumption) | assumption)
                  have q174 : x13_1 < (l0.length : Int) := of_decide_eq_true (by first | (with_reducible assumption) | assumption)
                  obtain ⟨ad174, e174, hx174_0⟩ := Kd.at_int HR0.out x13_1 p174 q174
                  cases e174
                  replace p174 := eq_true p174
                  replace q174 := eq_true q174
                  have p175 : 0 ≤ (x13_1 : Int) := of_decide_eq_true (by first | (with_reducible assumption) | assumption)
                  have q175 : x13_1 < (l1.length : Int) := of_decide_eq_true (by first | (with_reducible assumption) | assumption)
                  obtain ⟨ad175, e175, hx175_0⟩ := Kd.at_int HR1.out x13_1 p175 q175
                  cases e175
                  replace p175 := eq_true p175
                  replace q175 := eq_true q175
                  go_wp2
                  repeat (go_quiet (fail); try go_wp2)
                  go_roundg k1
                  case measure => have := HK1.out; omega
                  case rel => exact ⟨(wrap64 (x13_1 + 1)), (by first | rfl | (simp; done) | (simp [*]; done)), H', ⟨by have := HK1.out; omega⟩, by repeat (first | exact Drawn0.refl _ | apply Drawn0.step)⟩
                · rw [if_neg c8] at H
                  have c8b0 : ((rd l0 x13_1) == (rd l1 x13_1)) = false := beq_eq_false_iff_ne.mpr c8
                  have c8b1 : ((rd l0 x13_1) != (rd l1 x13_1)) = true := bne_iff_ne.mpr c8
                  obtain rfl := Option.some.inj H
                  have p174 : 0 ≤ (x13_1 : Int) := of_decide_eq_true (by first | (with_reducible assumption) | assumption)
                  have q174 : x13_1 < (l0.length : Int) := of_decide_eq_true (by first | (with_reducible assumption) | assumption)
                  obtain ⟨ad174, e174, hx174_0⟩ := Kd.at_int HR0.out x13_1 p174 q174
                  cases e174
                  replace p174 := eq_true p174
                  replace q174 := eq_true q174
                  have p175 : 0 ≤ (x13_1 : Int) := of_decide_eq_true (by first | (with_reducible assumption) | assumption)
                  have q175 : x13_1 < (l1.length : Int) := of_decide_eq_true (by first | (with_reducible assumption) | assumption)
                  obtain ⟨ad175, e175, hx175_0⟩ := Kd.at_int HR1.out x13_1 p175 q175
                  cases e175
                  replace p175 := eq_true p175
                  replace q175 := eq_true q175
                  go_wp2
                  repeat (go_quiet (fail); try go_wp2)
                  go_ret
                  exact ⟨by first | rfl | (simp; done) | (simp [*]; done), by repeat (first | exact Drawn0.refl _ | apply Drawn0.step)⟩
              · rw [if_neg c7] at H
                exact absurd H (by simp)
            · rw [if_neg c6] at H
              exact absurd H (by simp)
          · rw [if_neg c5] at H
            exact absurd H (by simp)
        · rw [if_neg c4] at H
          have c4b0 : decide (x13_1 < (l0.length : Int)) = false := decide_eq_false c4
          clear c4
          obtain rfl := Option.some.inj H
          go_wp2
          repeat (go_quiet (fail); try go_wp2)
          go_ret
          exact ⟨by first | rfl | (simp; done) | (simp [*]; done), by repeat (first | exact Drawn0.refl _ | apply Drawn0.step)⟩
  · rw [if_neg c3] at H
    have c3b0 : ((l0.length : Int) == (l1.length : Int)) = false := beq_eq_false_iff_ne.mpr c3
    have c3b1 : ((l0.length : Int) != (l1.length : Int)) = true := bne_iff_ne.mpr c3
    have c3b2 : (l0.length == l1.length) = false := by first | simpa using c3 | (simp at c3 ⊢; omega)
    obtain rfl := Option.some.inj H
    go_enter Try.func47, Try.ntmps47
    go_wp2
    repeat (go_quiet (fail); try go_wp2)
    go_ret
    exact ⟨by first | rfl | (simp; done) | (simp [*]; done), by repeat (first | exact Drawn0.refl _ | apply Drawn0.step)⟩

-- NOT PRINTED: function 107 (slices_AppendSeq_int_int)

-- NOT PRINTED: function 79 (slices_Collect_int)

/-! ### cmp_isNaN_int: function 133 -/
def cmp_isNaN_int.f (a0 : Int) : Option (Bool) := some (a0 != a0)
set_option maxHeartbeats 8000000 in
set_option maxRecDepth 100000 in
theorem cmp_isNaN_int.calls (a0 : Int) (r : Bool) (w : World) (h : cmp_isNaN_int.f a0 = some r) :
    Calls Try.prog 133 #[.int .i64 a0] w fun e w' => e = .returned (.bool r) ∧ Drawn0 w w' := by
  have H : (some (a0 != a0)) = some r := h
  clear h
  obtain rfl := Option.some.inj H
  go_enter Try.func133, Try.ntmps133
  go_wp2
  go_ret
  exact ⟨by first | rfl | (simp; done) | (simp [*]; done), by repeat (first | exact Drawn0.refl _ | apply Drawn0.step)⟩

end Go.Proofs.Ytbocdhkaeglfcaa.MFnFields
