/- The row of FnExactKeyValue: for every input that can be read the law answers true and leaves its arguments as they were; no condition. -/
import Derived.Test.YtikfdjgigeggjaaRows
import Derived.Test.YtikfdjgigeggjaaMFnExactKeyValuex17
import Derived.Test.YtikfdjgigeggjaaPureFnExactKeyValue
import Derived.Test.YtikfdjgigeggjaaVFnExactKeyValueOpen
import Derived.WalkKit
import Derived.ProofKit
import Derived.OpenShut
import Derived.ShutString
import Derived.ChangeOld
import Derived.Below
import Derived.Carry
import Derived.SizedLaws
namespace Go.Proofs.Ytikfdjgigeggjaa.fnExactKeyValue
open Go.ChangeShapes Go.WideShapes Go.ChangeAt Go.RowKit Go.Proofs.Ytikfdjgigeggjaa.Opn Go.Proofs.Ytikfdjgigeggjaa.MFnExactKeyValue Go.Proofs.YtikfdjgigeggjaaW.PrintWords
open Go.ChangeMaps (open_string shut_string)
set_option linter.unusedVariables false
theorem own : ownKnob Try.prog.godebug = none := by kernel_rfl
theorem laidOut : laidOutB Try.prog = true := by kernel_rfl
set_option maxRecDepth 100000 in
theorem lifted (os : Os) (started : os.Started) (H : Type) (enc : TypeId × Value → H) :
    ReturnsInHanded {} Try.checked os 9 .any (Rows.fnExactKeyValueSpec.pre6 enc Try.prog Try.f9 Rows.fnExactKeyValueRow.domain false) (Rows.fnExactKeyValueSpec.post enc Try.prog Try.f9 false true false false) := by
  refine returnsInHanded_of_change_sized (C := Try.checked) own started (by kernel_rfl) Try.func9
    (ChangeSpec.witness6 (enc := enc) (C := Try.checked) false ⟨#[], #[.agg #[.slice none 0 0, .int .i64 0, .int .i64 0, .int .i64 0, .slice none 0 0, .bool false, .slice none 0 0, .slice none 0 0, .slice none 0 0], .int .i64 0, .int .i64 0, .slice none 0 0], []⟩ 8 (by kernel_rfl) (by kernel_rfl) (by kernel_rfl) (by kernel_rfl)) ?_
  intro W base args ds gs before hval0 hW hcnd hsz0 _
  have hval : ∀ (j : Nat) t v, Try.f9.params[j]? = some t → args[j]? = some v → Value.okWide Try.prog W .any base t v := hval0
  have hW' := hW
  obtain ⟨p, q, hA0, hV, rfl, hfz, hnd⟩ := hW
  have hA : DataW.TrodAll enc Try.prog W 0 (fun _ => true) true Try.f9.params.toList args.toList ds p := hA0
  rw [Try.params9] at hA hval
  obtain ⟨v0, vs0, d0, ds0, p0, q0, hargs, rfl, rfl, h0, r0⟩ := trodAll_cons hA
  obtain ⟨v1, vs1, d1, ds1, p1, q1, rfl, rfl, rfl, h1, r1⟩ := trodAll_cons r0
  obtain ⟨v2, vs2, d2, ds2, p2, q2, rfl, rfl, rfl, h2, r2⟩ := trodAll_cons r1
  obtain ⟨v3, vs3, d3, ds3, p3, q3, rfl, rfl, rfl, h3, r3⟩ := trodAll_cons r2
  obtain ⟨rfl, rfl, rfl⟩ := trodAll_nil r3
  obtain rfl : args = #[v0, v1, v2, v3] := by cases args; simp_all
  obtain ⟨rfl, rfl⟩ := trodVars_none hV
  have k0 := h0
  have lt0 : ∀ x ∈ p0, x.block < W.heap.size := by obtain ⟨m, hm⟩ := k0; exact DataW.trod_lt m _ _ _ hm
  obtain ⟨cs0, rfl, _⟩ := okWide_struct Try.underlying80 (hval 0 80 v0 rfl rfl)
  obtain ⟨⟨l0_0, ⟨⟨a0_1, ⟨a0_2, ⟨a0_3, ⟨l0_4, a0_5⟩⟩⟩⟩, ⟨l0_6, ⟨l0_7, l0_8⟩⟩⟩⟩, ⟨_, _, e0, ⟨A0_0, c0_0, rfl, hc0_0, hr0_0⟩, ⟨_, _, rfl, ⟨_, _, rfl, rfl, ⟨_, _, rfl, rfl, ⟨_, _, rfl, rfl, ⟨_, _, rfl, ⟨A0_4, c0_4, rfl, hc0_4, hr0_4⟩, rfl⟩⟩⟩⟩, ⟨_, _, rfl, ⟨A0_6, c0_6, rfl, hc0_6, hr0_6⟩, ⟨_, _, rfl, ⟨A0_7, c0_7, rfl, hc0_7, hr0_7⟩, ⟨A0_8, c0_8, rfl, hc0_8, hr0_8⟩⟩⟩⟩⟩, ⟨⟨z0_0, y0_0⟩, ⟨⟨w0_1, ⟨w0_2, ⟨w0_3, ⟨⟨z0_4, y0_4⟩, _⟩⟩⟩⟩, ⟨⟨z0_6, y0_6⟩, ⟨⟨z0_7, y0_7⟩, ⟨z0_8, y0_8⟩⟩⟩⟩⟩⟩ := (Opens.struct Try.underlying80 (OpensF.cons (Opens.slice Try.underlying78 (by kernel_rfl) (((Opens.struct Try.underlying149 (OpensF.cons (Opens.string Try.underlying9) rfl (by kernel_rfl) (OpensF.cons (Opens.int Try.underlying3) rfl (by kernel_rfl) (OpensF.last (Opens.int Try.underlying3) rfl (by kernel_rfl)))))).iso (fun x : S149 => (x.f0, x.f1, x.f2)) (fun y => (⟨y.1, y.2.1, y.2.2⟩ : S149)) (fun _ => rfl) : Opens Try.prog 149 k149 _)) rfl (by kernel_rfl) (OpensF.cons (Opens.struct Try.underlying51 (OpensF.cons (Opens.int Try.underlying3) rfl (by kernel_rfl) (OpensF.cons (Opens.int Try.underlying3) rfl (by kernel_rfl) (OpensF.cons (Opens.int Try.underlying3) rfl (by kernel_rfl) (OpensF.cons (Opens.slice Try.underlying23 (by kernel_rfl) (Opens.int Try.underlying3)) rfl (by kernel_rfl) (OpensF.last (Opens.bool Try.underlying4) rfl (by kernel_rfl))))))) rfl (by kernel_rfl) (OpensF.cons (Opens.slice Try.underlying42 (by kernel_rfl) (((Opens.struct Try.underlying99 (OpensF.cons (Opens.int Try.underlying3) rfl (by kernel_rfl) (OpensF.cons (Opens.int Try.underlying3) rfl (by kernel_rfl) (OpensF.cons (Opens.int Try.underlying3) rfl (by kernel_rfl) (OpensF.cons (Opens.int Try.underlying3) rfl (by kernel_rfl) (OpensF.last (Opens.int Try.underlying3) rfl (by kernel_rfl)))))))).iso (fun x : S99 => (x.f0, x.f1, x.f2, x.f3, x.f4)) (fun y => (⟨y.1, y.2.1, y.2.2.1, y.2.2.2.1, y.2.2.2.2⟩ : S99)) (fun _ => rfl) : Opens Try.prog 99 k99 _)) rfl (by kernel_rfl) (OpensF.cons (Opens.slice Try.underlying23 (by kernel_rfl) (Opens.int Try.underlying3)) rfl (by kernel_rfl) (OpensF.last (Opens.slice Try.underlying23 (by kernel_rfl) (Opens.int Try.underlying3)) rfl (by kernel_rfl))))))).trod h0
  obtain rfl : cs0 = #[.slice A0_0 l0_0.length c0_0, .int .i64 a0_1, .int .i64 a0_2, .int .i64 a0_3, .slice A0_4 l0_4.length c0_4, .bool a0_5, .slice A0_6 l0_6.length c0_6, .slice A0_7 l0_7.length c0_7, .slice A0_8 l0_8.length c0_8] := Array.ext' e0
  clear e0
  obtain ⟨a1, rfl, rfl, rfl, w1⟩ := open_int Try.underlying3 (hval 1 3 v1 rfl rfl) h1
  obtain ⟨a2, rfl, rfl, rfl, w2⟩ := open_int Try.underlying3 (hval 2 3 v2 rfl rfl) h2
  have k3 := h3
  have lt3 : ∀ x ∈ p3, x.block < W.heap.size := by obtain ⟨m, hm⟩ := k3; exact DataW.trod_lt m _ _ _ hm
  obtain ⟨A3, len3, c3, rfl⟩ := okWide_slice Try.underlying23 (hval 3 23 v3 rfl rfl)
  obtain ⟨l3, ⟨A3', c3', e3, hc3, hr3⟩, z3, y3⟩ := (Opens.slice Try.underlying23 (by kernel_rfl) (Opens.int Try.underlying3)).trod h3
  replace e3 : [Value.slice A3 len3 c3] = [Value.slice A3' l3.length c3'] := e3
  obtain ⟨rfl, rfl, rfl⟩ : A3 = A3' ∧ len3 = l3.length ∧ c3 = c3' := by simpa using e3
  clear e3
  clear hA0 hval0 hsz0
  obtain ⟨k, hh⟩ := Pure.FnExactKeyValue _ _ _ _ _ _ _ _ _ _ _ _ z0_0 y0_0 w0_1 w0_2 w0_3 z0_4 y0_4 z0_6 y0_6 z0_7 y0_7 z0_8 y0_8 w1 w2 z3 y3
  refine (laws_FnExactKeyValue.calls k A0_0 c0_0 l0_0 a0_1 a0_2 a0_3 A0_4 c0_4 l0_4 a0_5 A0_6 c0_6 l0_6 A0_7 c0_7 l0_7 A0_8 c0_8 l0_8 a1 a2 A3 c3 l3 true W rfl hr0_0 hc0_0 hr0_4 hc0_4 hr0_6 hc0_6 hr0_7 hc0_7 hr0_8 hc0_8 hr3 hc3 hh).mono fun e W' ⟨he, hd⟩ => ?_
  subst he
  have bel : Below W.heap.size W W' := hd
  exact ⟨_, rfl, _, _, _, [], _, [], hW', trodAll_mk1 (shut_bool Try.underlying4 _), (trodAll_cons_mk (Below.trod laidOut (by kernel_rfl) (of_decide_eq_true (by kernel_rfl)) k0 bel lt0) (trodAll_cons_mk (shut_int Try.underlying3 w1) (trodAll_cons_mk (shut_int Try.underlying3 w2) (trodAll_cons_mk (Below.trod laidOut (by kernel_rfl) (of_decide_eq_true (by kernel_rfl)) k3 bel lt3) trodAll_mk0)))), rfl, bel.frame _, fun h => by cases h⟩
theorem over : Rows.fnExactKeyValueRow.holds Try.pinned (OpenSpec.ofChange Rows.fnExactKeyValueSpec) :=
  OpenClaim.holds_of_wide 9 Try.f9 rfl rfl rfl rfl rfl rfl rfl ⟨rfl, rfl, rfl, rfl, rfl⟩ rfl rfl rfl rfl rfl (by kernel_rfl) Try.func9 (by kernel_rfl)
    (of_decide_eq_true (by kernel_rfl)) (by unfold Func.isWrapper; first | (rw [if_pos (by decide +kernel)]; kernel_rfl) | (rw [if_neg (by decide +kernel)]; exact ⟨rfl, rfl⟩))
    (fun os started H enc _ => lifted os started H enc)
theorem proved : Rows.FnExactKeyValueSaid := over
#print axioms proved
end Go.Proofs.Ytikfdjgigeggjaa.fnExactKeyValue
namespace Go.Proofs.Ytikfdjgigeggjaa
/-- The row, under a short name, for the claim. -/
theorem fnExactKeyValue_holds : Rows.FnExactKeyValueSaid := fnExactKeyValue.proved
end Go.Proofs.Ytikfdjgigeggjaa
