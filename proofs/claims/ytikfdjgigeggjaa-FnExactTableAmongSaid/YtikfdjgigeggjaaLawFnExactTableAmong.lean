/- The row of FnExactTableAmong: for every input that can be read the law answers true and leaves its arguments as they were; no condition. -/
import Derived.Test.YtikfdjgigeggjaaRows
import Derived.Test.YtikfdjgigeggjaaMFnExactTableAmongx11
import Derived.Test.YtikfdjgigeggjaaPureFnExactTableAmong
import Derived.Test.YtikfdjgigeggjaaVFnExactTableAmongOpen
import Derived.WalkKit
import Derived.ProofKit
import Derived.OpenShut
import Derived.ShutString
import Derived.ChangeOld
import Derived.Below
import Derived.Carry
import Derived.SizedLaws
namespace Go.Proofs.Ytikfdjgigeggjaa.fnExactTableAmong
open Go.ChangeShapes Go.WideShapes Go.ChangeAt Go.RowKit Go.Proofs.Ytikfdjgigeggjaa.Opn Go.Proofs.Ytikfdjgigeggjaa.MFnExactTableAmong Go.Proofs.YtikfdjgigeggjaaW.PrintWords
open Go.ChangeMaps (open_string shut_string)
set_option linter.unusedVariables false
theorem own : ownKnob Try.prog.godebug = none := by kernel_rfl
theorem laidOut : laidOutB Try.prog = true := by kernel_rfl
set_option maxRecDepth 100000 in
theorem lifted (os : Os) (started : os.Started) (H : Type) (enc : TypeId × Value → H) :
    ReturnsInHanded {} Try.checked os 7 .any (Rows.fnExactTableAmongSpec.pre6 enc Try.prog Try.f7 Rows.fnExactTableAmongRow.domain false) (Rows.fnExactTableAmongSpec.post enc Try.prog Try.f7 false true false false) := by
  refine returnsInHanded_of_change_sized (C := Try.checked) own started (by kernel_rfl) Try.func7
    (ChangeSpec.witness6 (enc := enc) (C := Try.checked) false ⟨#[], #[.agg #[.int .i64 0, .int .i64 0, .int .i64 0, .slice none 0 0, .bool false], .int .i64 0, .slice none 0 0, .slice none 0 0], []⟩ 8 (by kernel_rfl) (by kernel_rfl) (by kernel_rfl) (by kernel_rfl)) ?_
  intro W base args ds gs before hval0 hW hcnd hsz0 _
  have hval : ∀ (j : Nat) t v, Try.f7.params[j]? = some t → args[j]? = some v → Value.okWide Try.prog W .any base t v := hval0
  have hW' := hW
  obtain ⟨p, q, hA0, hV, rfl, hfz, hnd⟩ := hW
  have hA : DataW.TrodAll enc Try.prog W 0 (fun _ => true) true Try.f7.params.toList args.toList ds p := hA0
  rw [Try.params7] at hA hval
  obtain ⟨v0, vs0, d0, ds0, p0, q0, hargs, rfl, rfl, h0, r0⟩ := trodAll_cons hA
  obtain ⟨v1, vs1, d1, ds1, p1, q1, rfl, rfl, rfl, h1, r1⟩ := trodAll_cons r0
  obtain ⟨v2, vs2, d2, ds2, p2, q2, rfl, rfl, rfl, h2, r2⟩ := trodAll_cons r1
  obtain ⟨v3, vs3, d3, ds3, p3, q3, rfl, rfl, rfl, h3, r3⟩ := trodAll_cons r2
  obtain ⟨rfl, rfl, rfl⟩ := trodAll_nil r3
  obtain rfl : args = #[v0, v1, v2, v3] := by cases args; simp_all
  obtain ⟨rfl, rfl⟩ := trodVars_none hV
  have k0 := h0
  have lt0 : ∀ x ∈ p0, x.block < W.heap.size := by obtain ⟨m, hm⟩ := k0; exact DataW.trod_lt m _ _ _ hm
  obtain ⟨cs0, rfl, _⟩ := okWide_struct Try.underlying51 (hval 0 51 v0 rfl rfl)
  obtain ⟨⟨a0_0, ⟨a0_1, ⟨a0_2, ⟨l0_3, a0_4⟩⟩⟩⟩, ⟨_, _, e0, rfl, ⟨_, _, rfl, rfl, ⟨_, _, rfl, rfl, ⟨_, _, rfl, ⟨A0_3, c0_3, rfl, hc0_3, hr0_3⟩, rfl⟩⟩⟩⟩, ⟨w0_0, ⟨w0_1, ⟨w0_2, ⟨⟨z0_3, y0_3⟩, _⟩⟩⟩⟩⟩ := (Opens.struct Try.underlying51 (OpensF.cons (Opens.int Try.underlying3) rfl (by kernel_rfl) (OpensF.cons (Opens.int Try.underlying3) rfl (by kernel_rfl) (OpensF.cons (Opens.int Try.underlying3) rfl (by kernel_rfl) (OpensF.cons (Opens.slice Try.underlying23 (by kernel_rfl) (Opens.int Try.underlying3)) rfl (by kernel_rfl) (OpensF.last (Opens.bool Try.underlying4) rfl (by kernel_rfl))))))).trod h0
  obtain rfl : cs0 = #[.int .i64 a0_0, .int .i64 a0_1, .int .i64 a0_2, .slice A0_3 l0_3.length c0_3, .bool a0_4] := Array.ext' e0
  clear e0
  obtain ⟨a1, rfl, rfl, rfl, w1⟩ := open_int Try.underlying3 (hval 1 3 v1 rfl rfl) h1
  have k2 := h2
  have lt2 : ∀ x ∈ p2, x.block < W.heap.size := by obtain ⟨m, hm⟩ := k2; exact DataW.trod_lt m _ _ _ hm
  obtain ⟨A2, len2, c2, rfl⟩ := okWide_slice Try.underlying42 (hval 2 42 v2 rfl rfl)
  obtain ⟨l2, ⟨A2', c2', e2, hc2, hr2⟩, z2, y2⟩ := (Opens.slice Try.underlying42 (by kernel_rfl) (((Opens.struct Try.underlying99 (OpensF.cons (Opens.int Try.underlying3) rfl (by kernel_rfl) (OpensF.cons (Opens.int Try.underlying3) rfl (by kernel_rfl) (OpensF.cons (Opens.int Try.underlying3) rfl (by kernel_rfl) (OpensF.cons (Opens.int Try.underlying3) rfl (by kernel_rfl) (OpensF.last (Opens.int Try.underlying3) rfl (by kernel_rfl)))))))).iso (fun x : S99 => (x.f0, x.f1, x.f2, x.f3, x.f4)) (fun y => (⟨y.1, y.2.1, y.2.2.1, y.2.2.2.1, y.2.2.2.2⟩ : S99)) (fun _ => rfl) : Opens Try.prog 99 k99 _)).trod h2
  replace e2 : [Value.slice A2 len2 c2] = [Value.slice A2' l2.length c2'] := e2
  obtain ⟨rfl, rfl, rfl⟩ : A2 = A2' ∧ len2 = l2.length ∧ c2 = c2' := by simpa using e2
  clear e2
  have k3 := h3
  have lt3 : ∀ x ∈ p3, x.block < W.heap.size := by obtain ⟨m, hm⟩ := k3; exact DataW.trod_lt m _ _ _ hm
  obtain ⟨A3, len3, c3, rfl⟩ := okWide_slice Try.underlying23 (hval 3 23 v3 rfl rfl)
  obtain ⟨l3, ⟨A3', c3', e3, hc3, hr3⟩, z3, y3⟩ := (Opens.slice Try.underlying23 (by kernel_rfl) (Opens.int Try.underlying3)).trod h3
  replace e3 : [Value.slice A3 len3 c3] = [Value.slice A3' l3.length c3'] := e3
  obtain ⟨rfl, rfl, rfl⟩ : A3 = A3' ∧ len3 = l3.length ∧ c3 = c3' := by simpa using e3
  clear e3
  clear hA0 hval0 hsz0
  obtain ⟨k, hh⟩ := Pure.FnExactTableAmong _ _ _ _ _ _ _ _ w0_0 w0_1 w0_2 z0_3 y0_3 w1 z2 y2 z3 y3
  refine (laws_FnExactTableAmong.calls k a0_0 a0_1 a0_2 A0_3 c0_3 l0_3 a0_4 a1 A2 c2 l2 A3 c3 l3 true W rfl hr0_3 hc0_3 hr2 hc2 hr3 hc3 hh).mono fun e W' ⟨he, hd⟩ => ?_
  subst he
  have bel : Below W.heap.size W W' := hd
  exact ⟨_, rfl, _, _, _, [], _, [], hW', trodAll_mk1 (shut_bool Try.underlying4 _), (trodAll_cons_mk (Below.trod laidOut (by kernel_rfl) (of_decide_eq_true (by kernel_rfl)) k0 bel lt0) (trodAll_cons_mk (shut_int Try.underlying3 w1) (trodAll_cons_mk (Below.trod laidOut (by kernel_rfl) (of_decide_eq_true (by kernel_rfl)) k2 bel lt2) (trodAll_cons_mk (Below.trod laidOut (by kernel_rfl) (of_decide_eq_true (by kernel_rfl)) k3 bel lt3) trodAll_mk0)))), rfl, bel.frame _, fun h => by cases h⟩
theorem over : Rows.fnExactTableAmongRow.holds Try.pinned (OpenSpec.ofChange Rows.fnExactTableAmongSpec) :=
  OpenClaim.holds_of_wide 7 Try.f7 rfl rfl rfl rfl rfl rfl rfl ⟨rfl, rfl, rfl, rfl, rfl⟩ rfl rfl rfl rfl rfl (by kernel_rfl) Try.func7 (by kernel_rfl)
    (of_decide_eq_true (by kernel_rfl)) (by unfold Func.isWrapper; first | (rw [if_pos (by decide +kernel)]; kernel_rfl) | (rw [if_neg (by decide +kernel)]; exact ⟨rfl, rfl⟩))
    (fun os started H enc _ => lifted os started H enc)
theorem proved : Rows.FnExactTableAmongSaid := over
#print axioms proved
end Go.Proofs.Ytikfdjgigeggjaa.fnExactTableAmong
namespace Go.Proofs.Ytikfdjgigeggjaa
/-- The row, under a short name, for the claim. -/
theorem fnExactTableAmong_holds : Rows.FnExactTableAmongSaid := fnExactTableAmong.proved
end Go.Proofs.Ytikfdjgigeggjaa
