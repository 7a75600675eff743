/- The row of FnExactBookOk: for every input that can be read the law answers true and leaves its arguments as they were; no condition. -/
import Derived.Test.YtapmiocpkddbfaaRows
import Derived.Test.YtapmiocpkddbfaaMFnExactBookOkx10
import Derived.Test.YtapmiocpkddbfaaPureFnExactBookOk
import Derived.Test.YtapmiocpkddbfaaVFnExactBookOkOpen
import Derived.WalkKit
import Derived.ProofKit
import Derived.OpenShut
import Derived.ShutString
import Derived.ChangeOld
import Derived.Below
import Derived.Carry
import Derived.SizedLaws
namespace Go.Proofs.Ytapmiocpkddbfaa.fnExactBookOk
open Go.ChangeShapes Go.WideShapes Go.ChangeAt Go.RowKit Go.Proofs.Ytapmiocpkddbfaa.Opn Go.Proofs.Ytapmiocpkddbfaa.MFnExactBookOk Go.Proofs.YtapmiocpkddbfaaW.PrintWords
open Go.ChangeMaps (open_string shut_string)
set_option linter.unusedVariables false
theorem own : ownKnob Try.prog.godebug = none := by kernel_rfl
theorem laidOut : laidOutB Try.prog = true := by kernel_rfl
set_option maxRecDepth 100000 in
theorem lifted (os : Os) (started : os.Started) (H : Type) (enc : TypeId × Value → H) :
    ReturnsInHanded {} Try.checked os 13 .any (Rows.fnExactBookOkSpec.pre6 enc Try.prog Try.f13 Rows.fnExactBookOkRow.domain false) (Rows.fnExactBookOkSpec.post enc Try.prog Try.f13 false true false false) := by
  refine returnsInHanded_of_change_sized (C := Try.checked) own started (by kernel_rfl) Try.func13
    (ChangeSpec.witness6 (enc := enc) (C := Try.checked) false ⟨#[], #[.agg #[.slice none 0 0, .int .i64 0, .int .i64 0, .int .i64 0, .slice none 0 0, .bool false, .slice none 0 0, .slice none 0 0, .slice none 0 0]], []⟩ 8 (by kernel_rfl) (by kernel_rfl) (by kernel_rfl) (by kernel_rfl)) ?_
  intro W base args ds gs before hval0 hW hcnd hsz0 _
  have hval : ∀ (j : Nat) t v, Try.f13.params[j]? = some t → args[j]? = some v → Value.okWide Try.prog W .any base t v := hval0
  have hW' := hW
  obtain ⟨p, q, hA0, hV, rfl, hfz, hnd⟩ := hW
  have hA : DataW.TrodAll enc Try.prog W 0 (fun _ => true) true Try.f13.params.toList args.toList ds p := hA0
  rw [Try.params13] at hA hval
  obtain ⟨v0, vs0, d0, ds0, p0, q0, hargs, rfl, rfl, h0, r0⟩ := trodAll_cons hA
  obtain ⟨rfl, rfl, rfl⟩ := trodAll_nil r0
  obtain rfl : args = #[v0] := by cases args; simp_all
  obtain ⟨rfl, rfl⟩ := trodVars_none hV
  have k0 := h0
  have lt0 : ∀ x ∈ p0, x.block < W.heap.size := by obtain ⟨m, hm⟩ := k0; exact DataW.trod_lt m _ _ _ hm
  obtain ⟨cs0, rfl, _⟩ := okWide_struct Try.underlying90 (hval 0 90 v0 rfl rfl)
  obtain ⟨⟨l0_0, ⟨⟨a0_1, ⟨a0_2, ⟨a0_3, ⟨l0_4, a0_5⟩⟩⟩⟩, ⟨l0_6, ⟨l0_7, l0_8⟩⟩⟩⟩, ⟨_, _, e0, ⟨A0_0, c0_0, rfl, hc0_0, hr0_0⟩, ⟨_, _, rfl, ⟨_, _, rfl, rfl, ⟨_, _, rfl, rfl, ⟨_, _, rfl, rfl, ⟨_, _, rfl, ⟨A0_4, c0_4, rfl, hc0_4, hr0_4⟩, rfl⟩⟩⟩⟩, ⟨_, _, rfl, ⟨A0_6, c0_6, rfl, hc0_6, hr0_6⟩, ⟨_, _, rfl, ⟨A0_7, c0_7, rfl, hc0_7, hr0_7⟩, ⟨A0_8, c0_8, rfl, hc0_8, hr0_8⟩⟩⟩⟩⟩, ⟨⟨z0_0, y0_0⟩, ⟨⟨w0_1, ⟨w0_2, ⟨w0_3, ⟨⟨z0_4, y0_4⟩, _⟩⟩⟩⟩, ⟨⟨z0_6, y0_6⟩, ⟨⟨z0_7, y0_7⟩, ⟨z0_8, y0_8⟩⟩⟩⟩⟩⟩ := (Opens.struct Try.underlying90 (OpensF.cons (Opens.slice Try.underlying22 (by kernel_rfl) (((Opens.struct Try.underlying100 (OpensF.cons (Opens.string Try.underlying9) rfl (by kernel_rfl) (OpensF.cons (Opens.int Try.underlying3) rfl (by kernel_rfl) (OpensF.last (Opens.int Try.underlying3) rfl (by kernel_rfl)))))).iso (fun x : S100 => (x.f0, x.f1, x.f2)) (fun y => (⟨y.1, y.2.1, y.2.2⟩ : S100)) (fun _ => rfl) : Opens Try.prog 100 k100 _)) rfl (by kernel_rfl) (OpensF.cons (Opens.struct Try.underlying38 (OpensF.cons (Opens.int Try.underlying3) rfl (by kernel_rfl) (OpensF.cons (Opens.int Try.underlying3) rfl (by kernel_rfl) (OpensF.cons (Opens.int Try.underlying3) rfl (by kernel_rfl) (OpensF.cons (Opens.slice Try.underlying30 (by kernel_rfl) (Opens.int Try.underlying3)) rfl (by kernel_rfl) (OpensF.last (Opens.bool Try.underlying4) rfl (by kernel_rfl))))))) rfl (by kernel_rfl) (OpensF.cons (Opens.slice Try.underlying52 (by kernel_rfl) (((Opens.struct Try.underlying54 (OpensF.cons (Opens.int Try.underlying3) rfl (by kernel_rfl) (OpensF.cons (Opens.int Try.underlying3) rfl (by kernel_rfl) (OpensF.cons (Opens.int Try.underlying3) rfl (by kernel_rfl) (OpensF.cons (Opens.int Try.underlying3) rfl (by kernel_rfl) (OpensF.last (Opens.int Try.underlying3) rfl (by kernel_rfl)))))))).iso (fun x : S54 => (x.f0, x.f1, x.f2, x.f3, x.f4)) (fun y => (⟨y.1, y.2.1, y.2.2.1, y.2.2.2.1, y.2.2.2.2⟩ : S54)) (fun _ => rfl) : Opens Try.prog 54 k54 _)) rfl (by kernel_rfl) (OpensF.cons (Opens.slice Try.underlying30 (by kernel_rfl) (Opens.int Try.underlying3)) rfl (by kernel_rfl) (OpensF.last (Opens.slice Try.underlying30 (by kernel_rfl) (Opens.int Try.underlying3)) rfl (by kernel_rfl))))))).trod h0
  obtain rfl : cs0 = #[.slice A0_0 l0_0.length c0_0, .int .i64 a0_1, .int .i64 a0_2, .int .i64 a0_3, .slice A0_4 l0_4.length c0_4, .bool a0_5, .slice A0_6 l0_6.length c0_6, .slice A0_7 l0_7.length c0_7, .slice A0_8 l0_8.length c0_8] := Array.ext' e0
  clear e0
  clear hA0 hval0 hsz0
  obtain ⟨k, hh⟩ := Pure.FnExactBookOk _ _ _ _ _ _ _ _ _ z0_0 y0_0 w0_1 w0_2 w0_3 z0_4 y0_4 z0_6 y0_6 z0_7 y0_7 z0_8 y0_8
  refine (laws_FnExactBookOk.calls k A0_0 c0_0 l0_0 a0_1 a0_2 a0_3 A0_4 c0_4 l0_4 a0_5 A0_6 c0_6 l0_6 A0_7 c0_7 l0_7 A0_8 c0_8 l0_8 true W rfl hr0_0 hc0_0 hr0_4 hc0_4 hr0_6 hc0_6 hr0_7 hc0_7 hr0_8 hc0_8 hh).mono fun e W' ⟨he, hd⟩ => ?_
  subst he
  have bel : Below W.heap.size W W' := hd
  exact ⟨_, rfl, _, _, _, [], _, [], hW', trodAll_mk1 (shut_bool Try.underlying4 _), (trodAll_cons_mk (Below.trod laidOut (by kernel_rfl) (of_decide_eq_true (by kernel_rfl)) k0 bel lt0) trodAll_mk0), rfl, bel.frame _, fun h => by cases h⟩
theorem over : Rows.fnExactBookOkRow.holds Try.pinned (OpenSpec.ofChange Rows.fnExactBookOkSpec) :=
  OpenClaim.holds_of_wide 13 Try.f13 rfl rfl rfl rfl rfl rfl rfl ⟨rfl, rfl, rfl, rfl, rfl⟩ rfl rfl rfl rfl rfl (by kernel_rfl) Try.func13 (by kernel_rfl)
    (of_decide_eq_true (by kernel_rfl)) (by unfold Func.isWrapper; first | (rw [if_pos (by decide +kernel)]; kernel_rfl) | (rw [if_neg (by decide +kernel)]; exact ⟨rfl, rfl⟩))
    (fun os started H enc _ => lifted os started H enc)
theorem proved : Rows.FnExactBookOkSaid := over
#print axioms proved
end Go.Proofs.Ytapmiocpkddbfaa.fnExactBookOk
namespace Go.Proofs.Ytapmiocpkddbfaa
/-- The row, under a short name, for the claim. -/
theorem fnExactBookOk_holds : Rows.FnExactBookOkSaid := fnExactBookOk.proved
end Go.Proofs.Ytapmiocpkddbfaa
