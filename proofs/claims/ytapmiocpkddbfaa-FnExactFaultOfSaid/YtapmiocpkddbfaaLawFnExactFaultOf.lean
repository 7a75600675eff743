/- The row of FnExactFaultOf: for every input that can be read the law answers true and leaves its arguments as they were; no condition. -/
import Derived.Test.YtapmiocpkddbfaaRows
import Derived.Test.YtapmiocpkddbfaaMFnExactFaultOfx4
import Derived.Test.YtapmiocpkddbfaaPureFnExactFaultOf
import Derived.Test.YtapmiocpkddbfaaOpen
import Derived.WalkKit
import Derived.ProofKit
import Derived.OpenShut
import Derived.ShutString
import Derived.ChangeOld
import Derived.Below
import Derived.Carry
import Derived.SizedLaws
namespace Go.Proofs.Ytapmiocpkddbfaa.fnExactFaultOf
open Go.ChangeShapes Go.WideShapes Go.ChangeAt Go.RowKit Go.Proofs.Ytapmiocpkddbfaa.Opn Go.Proofs.Ytapmiocpkddbfaa.MFnExactFaultOf Go.Proofs.YtapmiocpkddbfaaW.PrintWords
open Go.ChangeMaps (open_string shut_string)
set_option linter.unusedVariables false
theorem own : ownKnob Try.prog.godebug = none := by kernel_rfl
theorem laidOut : laidOutB Try.prog = true := by kernel_rfl
set_option maxRecDepth 100000 in
theorem lifted (os : Os) (started : os.Started) (H : Type) (enc : TypeId × Value → H) :
    ReturnsInHanded {} Try.checked os 7 .any (Rows.fnExactFaultOfSpec.pre6 enc Try.prog Try.f7 Rows.fnExactFaultOfRow.domain false) (Rows.fnExactFaultOfSpec.post enc Try.prog Try.f7 false true false false) := by
  refine returnsInHanded_of_change_sized (C := Try.checked) own started (by kernel_rfl) Try.func7
    (ChangeSpec.witness6 (enc := enc) (C := Try.checked) false ⟨#[], #[.agg #[.int .i64 0, .int .i64 0, .int .i64 0, .slice none 0 0, .bool false]], []⟩ 8 (by kernel_rfl) (by kernel_rfl) (by kernel_rfl) (by kernel_rfl)) ?_
  intro W base args ds gs before hval0 hW hcnd hsz0 _
  have hval : ∀ (j : Nat) t v, Try.f7.params[j]? = some t → args[j]? = some v → Value.okWide Try.prog W .any base t v := hval0
  have hW' := hW
  obtain ⟨p, q, hA0, hV, rfl, hfz, hnd⟩ := hW
  have hA : DataW.TrodAll enc Try.prog W 0 (fun _ => true) true Try.f7.params.toList args.toList ds p := hA0
  rw [Try.params7] at hA hval
  obtain ⟨v0, vs0, d0, ds0, p0, q0, hargs, rfl, rfl, h0, r0⟩ := trodAll_cons hA
  obtain ⟨rfl, rfl, rfl⟩ := trodAll_nil r0
  obtain rfl : args = #[v0] := by cases args; simp_all
  obtain ⟨rfl, rfl⟩ := trodVars_none hV
  have k0 := h0
  have lt0 : ∀ x ∈ p0, x.block < W.heap.size := by obtain ⟨m, hm⟩ := k0; exact DataW.trod_lt m _ _ _ hm
  obtain ⟨cs0, rfl, _⟩ := okWide_struct Try.underlying38 (hval 0 38 v0 rfl rfl)
  obtain ⟨⟨a0_0, ⟨a0_1, ⟨a0_2, ⟨l0_3, a0_4⟩⟩⟩⟩, ⟨_, _, e0, rfl, ⟨_, _, rfl, rfl, ⟨_, _, rfl, rfl, ⟨_, _, rfl, ⟨A0_3, c0_3, rfl, hc0_3, hr0_3⟩, rfl⟩⟩⟩⟩, ⟨w0_0, ⟨w0_1, ⟨w0_2, ⟨⟨z0_3, y0_3⟩, _⟩⟩⟩⟩⟩ := (Opens.struct Try.underlying38 (OpensF.cons (Opens.int Try.underlying3) rfl (by kernel_rfl) (OpensF.cons (Opens.int Try.underlying3) rfl (by kernel_rfl) (OpensF.cons (Opens.int Try.underlying3) rfl (by kernel_rfl) (OpensF.cons (Opens.slice Try.underlying30 (by kernel_rfl) (Opens.int Try.underlying3)) rfl (by kernel_rfl) (OpensF.last (Opens.bool Try.underlying4) rfl (by kernel_rfl))))))).trod h0
  obtain rfl : cs0 = #[.int .i64 a0_0, .int .i64 a0_1, .int .i64 a0_2, .slice A0_3 l0_3.length c0_3, .bool a0_4] := Array.ext' e0
  clear e0
  clear hA0 hval0 hsz0
  obtain ⟨k, hh⟩ := Pure.FnExactFaultOf _ _ _ _ _ w0_0 w0_1 w0_2 z0_3 y0_3
  refine (laws_FnExactFaultOf.calls k a0_0 a0_1 a0_2 A0_3 c0_3 l0_3 a0_4 true W rfl hr0_3 hc0_3 hh).mono fun e W' ⟨he, hd⟩ => ?_
  subst he
  have bel : Below W.heap.size W W' := hd
  exact ⟨_, rfl, _, _, _, [], _, [], hW', trodAll_mk1 (shut_bool Try.underlying4 _), (trodAll_cons_mk (Below.trod laidOut (by kernel_rfl) (of_decide_eq_true (by kernel_rfl)) k0 bel lt0) trodAll_mk0), rfl, bel.frame _, fun h => by cases h⟩
theorem over : Rows.fnExactFaultOfRow.holds Try.pinned (OpenSpec.ofChange Rows.fnExactFaultOfSpec) :=
  OpenClaim.holds_of_wide 7 Try.f7 rfl rfl rfl rfl rfl rfl rfl ⟨rfl, rfl, rfl, rfl, rfl⟩ rfl rfl rfl rfl rfl (by kernel_rfl) Try.func7 (by kernel_rfl)
    (of_decide_eq_true (by kernel_rfl)) (by unfold Func.isWrapper; first | (rw [if_pos (by decide +kernel)]; kernel_rfl) | (rw [if_neg (by decide +kernel)]; exact ⟨rfl, rfl⟩))
    (fun os started H enc _ => lifted os started H enc)
theorem proved : Rows.FnExactFaultOfSaid := over
#print axioms proved
end Go.Proofs.Ytapmiocpkddbfaa.fnExactFaultOf
namespace Go.Proofs.Ytapmiocpkddbfaa
/-- The row, under a short name, for the claim. -/
theorem fnExactFaultOf_holds : Rows.FnExactFaultOfSaid := fnExactFaultOf.proved
end Go.Proofs.Ytapmiocpkddbfaa
