/- The functions that FnRules reaches, each with its contract: the print's form, by wip/tools/myprint.py; no condition of its own. -/
import Derived.Test.YtikfdjgigeggjaaMFnRulesx0
import Derived.Test.YtikfdjgigeggjaaMFnRulesx1
import Derived.Test.YtikfdjgigeggjaaMFnRulesx2
import Derived.Test.YtikfdjgigeggjaaMFnRulesx3
namespace Go.Proofs.Ytikfdjgigeggjaa.MFnRules
open Go.RowKit Go.Proofs.YtikfdjgigeggjaaW.PrintWords Go.Proofs.YtikfdjgigeggjaaW.PrintLast Go.Proofs.YtikfdjgigeggjaaW.PrintMore
attribute [local go_sem] max2_int min2_int max_two min_two max_three min_three max_four min_four   -- for this text's walks alone
set_option linter.unusedVariables false
set_option linter.unusedSimpArgs false

/-! ### laws_FnRules: function 3 -/
def laws_FnRules.f (k : Nat) (l0 : List Int) : Option (Bool) := if (l0.length : Int) > 1048576 then (some true) else ((spec_MakeRules.f k l0).bind fun bt202 => ((some (([] : List Int) : List Int)).bind fun y211 => (if 0 ≤ (wrap64 ((bt202.2.2.2.1.length : Int) - 1)) then (if (wrap64 ((bt202.2.2.2.1.length : Int) - 1)) ≤ (bt202.2.2.2.1.length : Int) then ((some (bt202.2.2.2.1.take ((wrap64 ((bt202.2.2.2.1.length : Int) - 1)) : Int).toNat : List Int)).bind fun y214 => (if y211.length + y214.length < 17592186044416 then ((some (y211 ++ y214 : List Int)).bind fun y218 => ((some (([] : List Int) : List Int)).bind fun y222 => (if y222.length + bt202.2.2.2.1.length < 17592186044416 then ((some (y222 ++ bt202.2.2.2.1 : List Int)).bind fun y225 => (if 0 < (bt202.2.2.2.1.length : Int) then ((some (([rd bt202.2.2.2.1 0] : List Int) : List Int)).bind fun y229 => (if y225.length + y229.length < 17592186044416 then ((impl_RulesOk.f k bt202.1 bt202.2.1 bt202.2.2.1 bt202.2.2.2.1 bt202.2.2.2.2).bind fun t236 => (if t236 = true then ((impl_IsDecisive.f k bt202.1 bt202.2.1 bt202.2.2.1 bt202.2.2.2.1 bt202.2.2.2.2).bind fun t237 => (if t237 = true then ((impl_FaultOf.f k bt202.1 bt202.2.1 bt202.2.2.1 bt202.2.2.2.1 bt202.2.2.2.2).bind fun t238 => (if t238.toList = ([110, 111, 110, 101] : List UInt8) then ((impl_FaultOf.f k bt202.1 bt202.2.1 bt202.2.2.1 y218 bt202.2.2.2.2).bind fun t239 => (if t239.toList = ([117, 110, 100, 101, 99, 105, 100, 101, 100] : List UInt8) then ((impl_FaultOf.f k bt202.1 bt202.2.1 bt202.2.2.1 (y225 ++ y229) bt202.2.2.2.2).bind fun t240 => (if t240.toList = ([105, 110, 118, 97, 108, 105, 100] : List UInt8) then ((impl_FaultOf.f k bt202.2.2.1 bt202.2.2.1 bt202.2.2.1 bt202.2.2.2.1 bt202.2.2.2.2).bind fun t241 => (if t241.toList = ([112, 111, 105, 110, 116, 108, 101, 115, 115] : List UInt8) then ((impl_UsualRules.f).bind fun bt242 => ((impl_FaultOf.f k bt242.1 bt242.2.1 bt242.2.2.1 bt242.2.2.2.1 bt242.2.2.2.2).bind fun t249 => (if t249.toList = ([110, 111, 110, 101] : List UInt8) then ((impl_KeyName.f (rd bt202.2.2.2.1 0)).bind fun t251 => ((impl_KeyNamed.f k t251).bind fun t252 => (if t252 = (rd bt202.2.2.2.1 0) then ((impl_SameRules.f k bt202.1 bt202.2.1 bt202.2.2.1 bt202.2.2.2.1 bt202.2.2.2.2 bt202.1 bt202.2.1 bt202.2.2.1 y218 bt202.2.2.2.2).bind fun t254 => (some (!t254))) else (some false)))) else (some false)))) else (some false))) else (some false))) else (some false))) else (some false))) else (some false))) else (some false))) else (none))) else (none))) else (none)))) else (none))) else (none)) else (none))))
theorem laws_FnRules.mono : ∀ a0 k, LeO (laws_FnRules.f k a0) (laws_FnRules.f (k + 1) a0) := by
  intro a0 k
  unfold laws_FnRules.f
  repeat' first
      | (with_reducible exact impl_FaultOf.mono _ _ _ _ _ _)
      | (with_reducible exact impl_IsDecisive.mono _ _ _ _ _ _)
      | (with_reducible exact impl_KeyNamed.mono _ _)
      | (with_reducible exact impl_RulesOk.mono _ _ _ _ _ _)
      | (with_reducible exact impl_SameRules.mono _ _ _ _ _ _ _ _ _ _ _)
      | (with_reducible exact spec_MakeRules.mono _ _)
      | (with_reducible exact LeO.refl _)
      | (with_reducible exact LeO.none _)
      | (with_reducible refine LeO.ite ?_ ?_)
      | (with_reducible refine LeO.bind ?_ (fun _ => ?_))
      | exact impl_FaultOf.mono _ _ _ _ _ _
      | exact impl_IsDecisive.mono _ _ _ _ _ _
      | exact impl_KeyNamed.mono _ _
      | exact impl_RulesOk.mono _ _ _ _ _ _
      | exact impl_SameRules.mono _ _ _ _ _ _ _ _ _ _ _
      | exact spec_MakeRules.mono _ _
      | exact LeO.none _
      | refine LeO.ite ?_ ?_
      | refine LeO.bind ?_ (fun _ => ?_)
def laws_FnRules.T7 : Bool × List (List Nat × List Nat) := (true, [([], []), ([], []), ([1], [1]), ([0, 2], [0, 2]), ([], []), ([4], [4]), ([5], [5]), ([6], [6]), ([7], [7]), ([3, 8, 3], [3, 8]), ([0, 1, 2, 3, 4, 5, 6, 7, 8, 9], []), ([10, 9, 9, 0, 1, 2, 3, 4, 5, 6, 7, 8, 9], [9, 10])])
def laws_FnRules.B7 : List Nat := [0, 0, 2, 7, 0, 16, 48, 112, 240, 511, 1023, 2047]
theorem laws_FnRules.tab7 : rtab .any (opsOf Try.f3 7) = laws_FnRules.T7 := by kernel_rfl
theorem laws_FnRules.bits7 : waitsOk laws_FnRules.T7.2 laws_FnRules.B7 = true := by kernel_rfl
def laws_FnRules.T11 : Bool × List (List Nat × List Nat) := (true, [([], []), ([0], [0]), ([1, 1], [1]), ([2], [2]), ([3, 2, 2], [2, 3]), ([2, 4], [2, 4]), ([5, 4], [5]), ([6], [6]), ([7, 6, 6], [6, 7]), ([8, 6], [6, 8]), ([6, 9], [6, 9]), ([10, 8], [10]), ([11], [11]), ([12, 11, 11], [11, 12]), ([13, 11], [11, 13]), ([11, 14], [11, 14]), ([15, 13], [15]), ([16], [16]), ([17, 16, 16], [16, 17]), ([18, 16], [16, 18]), ([16, 19], [16, 19]), ([20, 18], [20]), ([21], [21]), ([22, 21, 21], [21, 22]), ([23, 21], [21, 23]), ([21, 24], [21, 24]), ([25, 23], [25]), ([26, 26], [26]), ([27, 27, 26], [26, 27]), ([28, 26], [26, 28]), ([26, 29], [26, 29]), ([30, 28], [30]), ([31], [31]), ([32, 31], [31, 32]), ([33, 31], [31, 33]), ([34, 31], [31, 34]), ([35, 31, 31], [31, 35]), ([36, 36, 31], [31, 36]), ([31], [31]), ([38, 31], [31, 38]), ([39, 31], [31, 39]), ([40, 31], [31, 40]), ([37, 41, 31], [31, 37, 41]), ([31, 42], [31, 42]), ([43, 37], [43]), ([44], [44]), ([44], [44]), ([45, 46, 44, 44], [44, 45, 46]), ([47, 44], [44, 47]), ([44, 48], [44, 48]), ([49, 47, 0, 1, 2, 3, 4, 5, 6, 7, 8, 9, 10, 11, 12, 13, 14, 15, 16, 17, 18, 19, 20, 21, 22, 23, 24, 25, 26, 27, 28, 29, 30, 31, 32, 33, 34, 35, 36, 37, 38, 39, 40, 41, 42, 43, 44, 45, 46, 47, 48, 49], [49])])
def laws_FnRules.B11 : List Nat := [0, 1, 3, 7, 15, 31, 63, 127, 255, 511, 1023, 2047, 4095, 8191, 16383, 32767, 65535, 131071, 262143, 524287, 1048575, 2097151, 4194303, 8388607, 16777215, 33554431, 67108863, 134217727, 268435455, 536870911, 1073741823, 2147483647, 4294967295, 8589934591, 17179869183, 34359738367, 68719476735, 137438953471, 4294967295, 279172874239, 828928688127, 1928440315903, 4398046511103, 8796093022207, 17592186044415, 35184372088831, 35184372088831, 140737488355327, 281474976710655, 562949953421311, 1125899906842623]
theorem laws_FnRules.tab11 : rtab .any (opsOf Try.f3 11) = laws_FnRules.T11 := by kernel_rfl
theorem laws_FnRules.bits11 : waitsOk laws_FnRules.T11.2 laws_FnRules.B11 = true := by kernel_rfl
set_option maxHeartbeats 8000000 in
set_option maxRecDepth 100000 in
theorem laws_FnRules.calls (k : Nat) (A0 : Option Addr) (c0 : Nat) (l0 : List Int) (r : Bool) (w : World) (hr_ : r = true) (hr0 : Kd.C (Kd.int .u8) w A0 l0.length l0) (hc0 : l0.length ≤ c0) (h : laws_FnRules.f k l0 = some r) :
    Calls Try.prog 3 #[.slice A0 l0.length c0] w fun e w' => e = .returned (.bool r) ∧ Below w.heap.size w w' := by
  have HR_ := Aside0.mk hr_
  clear hr_
  have hu25 := Try.underlying25
  have HR0 := Aside0.mk hr0
  have HC0 := Aside0.mk hc0
  clear hr0 hc0
  have HB := Aside0.mk (Below.refl w.heap.size w)
  have H : (if (l0.length : Int) > 1048576 then (some true) else ((spec_MakeRules.f k l0).bind fun bt202 => ((some (([] : List Int) : List Int)).bind fun y211 => (if 0 ≤ (wrap64 ((bt202.2.2.2.1.length : Int) - 1)) then (if (wrap64 ((bt202.2.2.2.1.length : Int) - 1)) ≤ (bt202.2.2.2.1.length : Int) then ((some (bt202.2.2.2.1.take ((wrap64 ((bt202.2.2.2.1.length : Int) - 1)) : Int).toNat : List Int)).bind fun y214 => (if y211.length + y214.length < 17592186044416 then ((some (y211 ++ y214 : List Int)).bind fun y218 => ((some (([] : List Int) : List Int)).bind fun y222 => (if y222.length + bt202.2.2.2.1.length < 17592186044416 then ((some (y222 ++ bt202.2.2.2.1 : List Int)).bind fun y225 => (if 0 < (bt202.2.2.2.1.length : Int) then ((some (([rd bt202.2.2.2.1 0] : List Int) : List Int)).bind fun y229 => (if y225.length + y229.length < 17592186044416 then ((impl_RulesOk.f k bt202.1 bt202.2.1 bt202.2.2.1 bt202.2.2.2.1 bt202.2.2.2.2).bind fun t236 => (if t236 = true then ((impl_IsDecisive.f k bt202.1 bt202.2.1 bt202.2.2.1 bt202.2.2.2.1 bt202.2.2.2.2).bind fun t237 => (if t237 = true then ((impl_FaultOf.f k bt202.1 bt202.2.1 bt202.2.2.1 bt202.2.2.2.1 bt202.2.2.2.2).bind fun t238 => (if t238.toList = ([110, 111, 110, 101] : List UInt8) then ((impl_FaultOf.f k bt202.1 bt202.2.1 bt202.2.2.1 y218 bt202.2.2.2.2).bind fun t239 => (if t239.toList = ([117, 110, 100, 101, 99, 105, 100, 101, 100] : List UInt8) then ((impl_FaultOf.f k bt202.1 bt202.2.1 bt202.2.2.1 (y225 ++ y229) bt202.2.2.2.2).bind fun t240 => (if t240.toList = ([105, 110, 118, 97, 108, 105, 100] : List UInt8) then ((impl_FaultOf.f k bt202.2.2.1 bt202.2.2.1 bt202.2.2.1 bt202.2.2.2.1 bt202.2.2.2.2).bind fun t241 => (if t241.toList = ([112, 111, 105, 110, 116, 108, 101, 115, 115] : List UInt8) then ((impl_UsualRules.f).bind fun bt242 => ((impl_FaultOf.f k bt242.1 bt242.2.1 bt242.2.2.1 bt242.2.2.2.1 bt242.2.2.2.2).bind fun t249 => (if t249.toList = ([110, 111, 110, 101] : List UInt8) then ((impl_KeyName.f (rd bt202.2.2.2.1 0)).bind fun t251 => ((impl_KeyNamed.f k t251).bind fun t252 => (if t252 = (rd bt202.2.2.2.1 0) then ((impl_SameRules.f k bt202.1 bt202.2.1 bt202.2.2.1 bt202.2.2.2.1 bt202.2.2.2.2 bt202.1 bt202.2.1 bt202.2.2.1 y218 bt202.2.2.2.2).bind fun t254 => (some (!t254))) else (some false)))) else (some false)))) else (some false))) else (some false))) else (some false))) else (some false))) else (some false))) else (some false))) else (none))) else (none))) else (none)))) else (none))) else (none)) else (none))))) = some r := h
  clear h
  by_cases c2 : (l0.length : Int) > 1048576
  · rw [if_pos c2] at H
    have c2b0 : decide (1048576 < (l0.length : Int)) = true := decide_eq_true c2
    have c2b1 : decide (1048576 < l0.length) = true := decide_eq_true (by omega)
    clear c2
    obtain rfl := Option.some.inj H
    go_enter Try.func3, Try.ntmps3
    go_wp2
    go_ret
    exact ⟨by first | rfl | (simp [errW_none, errW_some] <;> rfl) | (simp [*, errW_none, errW_some] <;> rfl), by repeat (first | (with_reducible first | exact HB.out | apply below_alloc | apply pw_below_drewN | apply below_drew1) | exact HB.out)⟩
  · rw [if_neg c2] at H
    have c2b0 : decide (1048576 < (l0.length : Int)) = false := decide_eq_false c2
    have c2b1 : decide (1048576 < l0.length) = false := decide_eq_false (by omega)
    clear c2
    replace H := Option.bind_eq_some_iff.mp H
    obtain ⟨⟨t202, t203, t204, t205, t208⟩, A30, H⟩ := H
    replace H : ((some (([] : List Int) : List Int)).bind fun y211 => (if 0 ≤ (wrap64 ((t205.length : Int) - 1)) then (if (wrap64 ((t205.length : Int) - 1)) ≤ (t205.length : Int) then ((some (t205.take ((wrap64 ((t205.length : Int) - 1)) : Int).toNat : List Int)).bind fun y214 => (if y211.length + y214.length < 17592186044416 then ((some (y211 ++ y214 : List Int)).bind fun y218 => ((some (([] : List Int) : List Int)).bind fun y222 => (if y222.length + t205.length < 17592186044416 then ((some (y222 ++ t205 : List Int)).bind fun y225 => (if 0 < (t205.length : Int) then ((some (([rd t205 0] : List Int) : List Int)).bind fun y229 => (if y225.length + y229.length < 17592186044416 then ((impl_RulesOk.f k t202 t203 t204 t205 t208).bind fun t236 => (if t236 = true then ((impl_IsDecisive.f k t202 t203 t204 t205 t208).bind fun t237 => (if t237 = true then ((impl_FaultOf.f k t202 t203 t204 t205 t208).bind fun t238 => (if t238.toList = ([110, 111, 110, 101] : List UInt8) then ((impl_FaultOf.f k t202 t203 t204 y218 t208).bind fun t239 => (if t239.toList = ([117, 110, 100, 101, 99, 105, 100, 101, 100] : List UInt8) then ((impl_FaultOf.f k t202 t203 t204 (y225 ++ y229) t208).bind fun t240 => (if t240.toList = ([105, 110, 118, 97, 108, 105, 100] : List UInt8) then ((impl_FaultOf.f k t204 t204 t204 t205 t208).bind fun t241 => (if t241.toList = ([112, 111, 105, 110, 116, 108, 101, 115, 115] : List UInt8) then ((impl_UsualRules.f).bind fun bt242 => ((impl_FaultOf.f k bt242.1 bt242.2.1 bt242.2.2.1 bt242.2.2.2.1 bt242.2.2.2.2).bind fun t249 => (if t249.toList = ([110, 111, 110, 101] : List UInt8) then ((impl_KeyName.f (rd t205 0)).bind fun t251 => ((impl_KeyNamed.f k t251).bind fun t252 => (if t252 = (rd t205 0) then ((impl_SameRules.f k t202 t203 t204 t205 t208 t202 t203 t204 y218 t208).bind fun t254 => (some (!t254))) else (some false)))) else (some false)))) else (some false))) else (some false))) else (some false))) else (some false))) else (some false))) else (some false))) else (none))) else (none))) else (none)))) else (none))) else (none)) else (none))) = some r := H
    have A3 := Aside0.mk A30
    clear A30
    obtain ⟨y211, hy211⟩ : ∃ y_ : List Int, y_ = (([] : List Int)) := ⟨_, rfl⟩
    replace H : (if 0 ≤ (wrap64 ((t205.length : Int) - 1)) then (if (wrap64 ((t205.length : Int) - 1)) ≤ (t205.length : Int) then ((some (t205.take ((wrap64 ((t205.length : Int) - 1)) : Int).toNat : List Int)).bind fun y214 => (if y211.length + y214.length < 17592186044416 then ((some (y211 ++ y214 : List Int)).bind fun y218 => ((some (([] : List Int) : List Int)).bind fun y222 => (if y222.length + t205.length < 17592186044416 then ((some (y222 ++ t205 : List Int)).bind fun y225 => (if 0 < (t205.length : Int) then ((some (([rd t205 0] : List Int) : List Int)).bind fun y229 => (if y225.length + y229.length < 17592186044416 then ((impl_RulesOk.f k t202 t203 t204 t205 t208).bind fun t236 => (if t236 = true then ((impl_IsDecisive.f k t202 t203 t204 t205 t208).bind fun t237 => (if t237 = true then ((impl_FaultOf.f k t202 t203 t204 t205 t208).bind fun t238 => (if t238.toList = ([110, 111, 110, 101] : List UInt8) then ((impl_FaultOf.f k t202 t203 t204 y218 t208).bind fun t239 => (if t239.toList = ([117, 110, 100, 101, 99, 105, 100, 101, 100] : List UInt8) then ((impl_FaultOf.f k t202 t203 t204 (y225 ++ y229) t208).bind fun t240 => (if t240.toList = ([105, 110, 118, 97, 108, 105, 100] : List UInt8) then ((impl_FaultOf.f k t204 t204 t204 t205 t208).bind fun t241 => (if t241.toList = ([112, 111, 105, 110, 116, 108, 101, 115, 115] : List UInt8) then ((impl_UsualRules.f).bind fun bt242 => ((impl_FaultOf.f k bt242.1 bt242.2.1 bt242.2.2.1 bt242.2.2.2.1 bt242.2.2.2.2).bind fun t249 => (if t249.toList = ([110, 111, 110, 101] : List UInt8) then ((impl_KeyName.f (rd t205 0)).bind fun t251 => ((impl_KeyNamed.f k t251).bind fun t252 => (if t252 = (rd t205 0) then ((impl_SameRules.f k t202 t203 t204 t205 t208 t202 t203 t204 y218 t208).bind fun t254 => (some (!t254))) else (some false)))) else (some false)))) else (some false))) else (some false))) else (some false))) else (some false))) else (some false))) else (some false))) else (none))) else (none))) else (none)))) else (none))) else (none)) else (none)) = some r := by first | (rw [hy211]; with_reducible exact H) | (have H2_ := (Option.bind_some _ _).symm.trans H; rw [hy211]; with_reducible exact H2_) | (have H2_ := (Option.bind_some _ _).symm.trans H; with_reducible exact H2_) | with_reducible exact H | (rw [hy211]; exact H) | exact H
    have Ny211 := Aside0.mk hy211
    clear hy211
    obtain ⟨ji4, hji4⟩ : ∃ j_ : Int, (wrap64 ((t205.length : Int) - 1)) = j_ := ⟨_, rfl⟩
    replace H : (if 0 ≤ (ji4) then (if (ji4) ≤ (t205.length : Int) then ((some (t205.take ((ji4) : Int).toNat : List Int)).bind fun y214 => (if y211.length + y214.length < 17592186044416 then ((some (y211 ++ y214 : List Int)).bind fun y218 => ((some (([] : List Int) : List Int)).bind fun y222 => (if y222.length + t205.length < 17592186044416 then ((some (y222 ++ t205 : List Int)).bind fun y225 => (if 0 < (t205.length : Int) then ((some (([rd t205 0] : List Int) : List Int)).bind fun y229 => (if y225.length + y229.length < 17592186044416 then ((impl_RulesOk.f k t202 t203 t204 t205 t208).bind fun t236 => (if t236 = true then ((impl_IsDecisive.f k t202 t203 t204 t205 t208).bind fun t237 => (if t237 = true then ((impl_FaultOf.f k t202 t203 t204 t205 t208).bind fun t238 => (if t238.toList = ([110, 111, 110, 101] : List UInt8) then ((impl_FaultOf.f k t202 t203 t204 y218 t208).bind fun t239 => (if t239.toList = ([117, 110, 100, 101, 99, 105, 100, 101, 100] : List UInt8) then ((impl_FaultOf.f k t202 t203 t204 (y225 ++ y229) t208).bind fun t240 => (if t240.toList = ([105, 110, 118, 97, 108, 105, 100] : List UInt8) then ((impl_FaultOf.f k t204 t204 t204 t205 t208).bind fun t241 => (if t241.toList = ([112, 111, 105, 110, 116, 108, 101, 115, 115] : List UInt8) then ((impl_UsualRules.f).bind fun bt242 => ((impl_FaultOf.f k bt242.1 bt242.2.1 bt242.2.2.1 bt242.2.2.2.1 bt242.2.2.2.2).bind fun t249 => (if t249.toList = ([110, 111, 110, 101] : List UInt8) then ((impl_KeyName.f (rd t205 0)).bind fun t251 => ((impl_KeyNamed.f k t251).bind fun t252 => (if t252 = (rd t205 0) then ((impl_SameRules.f k t202 t203 t204 t205 t208 t202 t203 t204 y218 t208).bind fun t254 => (some (!t254))) else (some false)))) else (some false)))) else (some false))) else (some false))) else (some false))) else (some false))) else (some false))) else (some false))) else (none))) else (none))) else (none)))) else (none))) else (none)) else (none)) = some r := by first | (rw [hji4] at H; exact H) | (simp only [hji4] at H ⊢; exact H)
    (try rw [hji4] at A3)
    have hji4w : (IntKind.i64.wrap ((t205.length : Int) - 1)) = ji4 := (i64_w _).trans hji4
    by_cases c5 : 0 ≤ (ji4)
    · rw [if_pos c5] at H
      have c5b0 := eq_true c5
      have c5b1 : decide (0 ≤ (ji4)) = true := decide_eq_true c5
      clear c5
      by_cases c6 : (ji4) ≤ (t205.length : Int)
      · rw [if_pos c6] at H
        have c6b0 := eq_true c6
        have c6b1 : decide ((ji4) ≤ (t205.length : Int)) = true := decide_eq_true c6
        clear c6
        obtain ⟨y214, hy214⟩ : ∃ y_ : List Int, y_ = (t205.take ((ji4) : Int).toNat) := ⟨_, rfl⟩
        replace H : (if y211.length + y214.length < 17592186044416 then ((some (y211 ++ y214 : List Int)).bind fun y218 => ((some (([] : List Int) : List Int)).bind fun y222 => (if y222.length + t205.length < 17592186044416 then ((some (y222 ++ t205 : List Int)).bind fun y225 => (if 0 < (t205.length : Int) then ((some (([rd t205 0] : List Int) : List Int)).bind fun y229 => (if y225.length + y229.length < 17592186044416 then ((impl_RulesOk.f k t202 t203 t204 t205 t208).bind fun t236 => (if t236 = true then ((impl_IsDecisive.f k t202 t203 t204 t205 t208).bind fun t237 => (if t237 = true then ((impl_FaultOf.f k t202 t203 t204 t205 t208).bind fun t238 => (if t238.toList = ([110, 111, 110, 101] : List UInt8) then ((impl_FaultOf.f k t202 t203 t204 y218 t208).bind fun t239 => (if t239.toList = ([117, 110, 100, 101, 99, 105, 100, 101, 100] : List UInt8) then ((impl_FaultOf.f k t202 t203 t204 (y225 ++ y229) t208).bind fun t240 => (if t240.toList = ([105, 110, 118, 97, 108, 105, 100] : List UInt8) then ((impl_FaultOf.f k t204 t204 t204 t205 t208).bind fun t241 => (if t241.toList = ([112, 111, 105, 110, 116, 108, 101, 115, 115] : List UInt8) then ((impl_UsualRules.f).bind fun bt242 => ((impl_FaultOf.f k bt242.1 bt242.2.1 bt242.2.2.1 bt242.2.2.2.1 bt242.2.2.2.2).bind fun t249 => (if t249.toList = ([110, 111, 110, 101] : List UInt8) then ((impl_KeyName.f (rd t205 0)).bind fun t251 => ((impl_KeyNamed.f k t251).bind fun t252 => (if t252 = (rd t205 0) then ((impl_SameRules.f k t202 t203 t204 t205 t208 t202 t203 t204 y218 t208).bind fun t254 => (some (!t254))) else (some false)))) else (some false)))) else (some false))) else (some false))) else (some false))) else (some false))) else (some false))) else (some false))) else (none))) else (none))) else (none)))) else (none)) = some r := by first | (rw [hy214]; with_reducible exact H) | (have H2_ := (Option.bind_some _ _).symm.trans H; rw [hy214]; with_reducible exact H2_) | (have H2_ := (Option.bind_some _ _).symm.trans H; with_reducible exact H2_) | with_reducible exact H | (rw [hy214]; exact H) | exact H
        have Ny214 := Aside0.mk hy214
        clear hy214
        by_cases c7 : y211.length + y214.length < 17592186044416
        · rw [if_pos c7] at H
          have LMc7 := Aside0.mk c7
          clear c7
          obtain ⟨y218, hy218⟩ : ∃ y_ : List Int, y_ = (y211 ++ y214) := ⟨_, rfl⟩
          replace H : ((some (([] : List Int) : List Int)).bind fun y222 => (if y222.length + t205.length < 17592186044416 then ((some (y222 ++ t205 : List Int)).bind fun y225 => (if 0 < (t205.length : Int) then ((some (([rd t205 0] : List Int) : List Int)).bind fun y229 => (if y225.length + y229.length < 17592186044416 then ((impl_RulesOk.f k t202 t203 t204 t205 t208).bind fun t236 => (if t236 = true then ((impl_IsDecisive.f k t202 t203 t204 t205 t208).bind fun t237 => (if t237 = true then ((impl_FaultOf.f k t202 t203 t204 t205 t208).bind fun t238 => (if t238.toList = ([110, 111, 110, 101] : List UInt8) then ((impl_FaultOf.f k t202 t203 t204 y218 t208).bind fun t239 => (if t239.toList = ([117, 110, 100, 101, 99, 105, 100, 101, 100] : List UInt8) then ((impl_FaultOf.f k t202 t203 t204 (y225 ++ y229) t208).bind fun t240 => (if t240.toList = ([105, 110, 118, 97, 108, 105, 100] : List UInt8) then ((impl_FaultOf.f k t204 t204 t204 t205 t208).bind fun t241 => (if t241.toList = ([112, 111, 105, 110, 116, 108, 101, 115, 115] : List UInt8) then ((impl_UsualRules.f).bind fun bt242 => ((impl_FaultOf.f k bt242.1 bt242.2.1 bt242.2.2.1 bt242.2.2.2.1 bt242.2.2.2.2).bind fun t249 => (if t249.toList = ([110, 111, 110, 101] : List UInt8) then ((impl_KeyName.f (rd t205 0)).bind fun t251 => ((impl_KeyNamed.f k t251).bind fun t252 => (if t252 = (rd t205 0) then ((impl_SameRules.f k t202 t203 t204 t205 t208 t202 t203 t204 y218 t208).bind fun t254 => (some (!t254))) else (some false)))) else (some false)))) else (some false))) else (some false))) else (some false))) else (some false))) else (some false))) else (some false))) else (none))) else (none))) else (none))) = some r := by first | (rw [hy218]; with_reducible exact H) | (have H2_ := (Option.bind_some _ _).symm.trans H; rw [hy218]; with_reducible exact H2_) | (have H2_ := (Option.bind_some _ _).symm.trans H; with_reducible exact H2_) | with_reducible exact H | (rw [hy218]; exact H) | exact H
          have Ny218 := Aside0.mk hy218
          clear hy218
          obtain ⟨y222, hy222⟩ : ∃ y_ : List Int, y_ = (([] : List Int)) := ⟨_, rfl⟩
          replace H : (if y222.length + t205.length < 17592186044416 then ((some (y222 ++ t205 : List Int)).bind fun y225 => (if 0 < (t205.length : Int) then ((some (([rd t205 0] : List Int) : List Int)).bind fun y229 => (if y225.length + y229.length < 17592186044416 then ((impl_RulesOk.f k t202 t203 t204 t205 t208).bind fun t236 => (if t236 = true then ((impl_IsDecisive.f k t202 t203 t204 t205 t208).bind fun t237 => (if t237 = true then ((impl_FaultOf.f k t202 t203 t204 t205 t208).bind fun t238 => (if t238.toList = ([110, 111, 110, 101] : List UInt8) then ((impl_FaultOf.f k t202 t203 t204 y218 t208).bind fun t239 => (if t239.toList = ([117, 110, 100, 101, 99, 105, 100, 101, 100] : List UInt8) then ((impl_FaultOf.f k t202 t203 t204 (y225 ++ y229) t208).bind fun t240 => (if t240.toList = ([105, 110, 118, 97, 108, 105, 100] : List UInt8) then ((impl_FaultOf.f k t204 t204 t204 t205 t208).bind fun t241 => (if t241.toList = ([112, 111, 105, 110, 116, 108, 101, 115, 115] : List UInt8) then ((impl_UsualRules.f).bind fun bt242 => ((impl_FaultOf.f k bt242.1 bt242.2.1 bt242.2.2.1 bt242.2.2.2.1 bt242.2.2.2.2).bind fun t249 => (if t249.toList = ([110, 111, 110, 101] : List UInt8) then ((impl_KeyName.f (rd t205 0)).bind fun t251 => ((impl_KeyNamed.f k t251).bind fun t252 => (if t252 = (rd t205 0) then ((impl_SameRules.f k t202 t203 t204 t205 t208 t202 t203 t204 y218 t208).bind fun t254 => (some (!t254))) else (some false)))) else (some false)))) else (some false))) else (some false))) else (some false))) else (some false))) else (some false))) else (some false))) else (none))) else (none))) else (none)) = some r := by first | (rw [hy222]; with_reducible exact H) | (have H2_ := (Option.bind_some _ _).symm.trans H; rw [hy222]; with_reducible exact H2_) | (have H2_ := (Option.bind_some _ _).symm.trans H; with_reducible exact H2_) | with_reducible exact H | (rw [hy222]; exact H) | exact H
          have Ny222 := Aside0.mk hy222
          clear hy222
          by_cases c8 : y222.length + t205.length < 17592186044416
          · rw [if_pos c8] at H
            have LMc8 := Aside0.mk c8
            clear c8
            obtain ⟨y225, hy225⟩ : ∃ y_ : List Int, y_ = (y222 ++ t205) := ⟨_, rfl⟩
            replace H : (if 0 < (t205.length : Int) then ((some (([rd t205 0] : List Int) : List Int)).bind fun y229 => (if y225.length + y229.length < 17592186044416 then ((impl_RulesOk.f k t202 t203 t204 t205 t208).bind fun t236 => (if t236 = true then ((impl_IsDecisive.f k t202 t203 t204 t205 t208).bind fun t237 => (if t237 = true then ((impl_FaultOf.f k t202 t203 t204 t205 t208).bind fun t238 => (if t238.toList = ([110, 111, 110, 101] : List UInt8) then ((impl_FaultOf.f k t202 t203 t204 y218 t208).bind fun t239 => (if t239.toList = ([117, 110, 100, 101, 99, 105, 100, 101, 100] : List UInt8) then ((impl_FaultOf.f k t202 t203 t204 (y225 ++ y229) t208).bind fun t240 => (if t240.toList = ([105, 110, 118, 97, 108, 105, 100] : List UInt8) then ((impl_FaultOf.f k t204 t204 t204 t205 t208).bind fun t241 => (if t241.toList = ([112, 111, 105, 110, 116, 108, 101, 115, 115] : List UInt8) then ((impl_UsualRules.f).bind fun bt242 => ((impl_FaultOf.f k bt242.1 bt242.2.1 bt242.2.2.1 bt242.2.2.2.1 bt242.2.2.2.2).bind fun t249 => (if t249.toList = ([110, 111, 110, 101] : List UInt8) then ((impl_KeyName.f (rd t205 0)).bind fun t251 => ((impl_KeyNamed.f k t251).bind fun t252 => (if t252 = (rd t205 0) then ((impl_SameRules.f k t202 t203 t204 t205 t208 t202 t203 t204 y218 t208).bind fun t254 => (some (!t254))) else (some false)))) else (some false)))) else (some false))) else (some false))) else (some false))) else (some false))) else (some false))) else (some false))) else (none))) else (none)) = some r := by first | (rw [hy225]; with_reducible exact H) | (have H2_ := (Option.bind_some _ _).symm.trans H; rw [hy225]; with_reducible exact H2_) | (have H2_ := (Option.bind_some _ _).symm.trans H; with_reducible exact H2_) | with_reducible exact H | (rw [hy225]; exact H) | exact H
            have Ny225 := Aside0.mk hy225
            clear hy225
            by_cases c9 : 0 < (t205.length : Int)
            · rw [if_pos c9] at H
              have c9b0 : decide (0 < (t205.length : Int)) = true := decide_eq_true c9
              have c9b1 : decide (0 < t205.length) = true := decide_eq_true (by omega)
              clear c9
              obtain ⟨y229, hy229⟩ : ∃ y_ : List Int, y_ = (([rd t205 0] : List Int)) := ⟨_, rfl⟩
              replace H : (if y225.length + y229.length < 17592186044416 then ((impl_RulesOk.f k t202 t203 t204 t205 t208).bind fun t236 => (if t236 = true then ((impl_IsDecisive.f k t202 t203 t204 t205 t208).bind fun t237 => (if t237 = true then ((impl_FaultOf.f k t202 t203 t204 t205 t208).bind fun t238 => (if t238.toList = ([110, 111, 110, 101] : List UInt8) then ((impl_FaultOf.f k t202 t203 t204 y218 t208).bind fun t239 => (if t239.toList = ([117, 110, 100, 101, 99, 105, 100, 101, 100] : List UInt8) then ((impl_FaultOf.f k t202 t203 t204 (y225 ++ y229) t208).bind fun t240 => (if t240.toList = ([105, 110, 118, 97, 108, 105, 100] : List UInt8) then ((impl_FaultOf.f k t204 t204 t204 t205 t208).bind fun t241 => (if t241.toList = ([112, 111, 105, 110, 116, 108, 101, 115, 115] : List UInt8) then ((impl_UsualRules.f).bind fun bt242 => ((impl_FaultOf.f k bt242.1 bt242.2.1 bt242.2.2.1 bt242.2.2.2.1 bt242.2.2.2.2).bind fun t249 => (if t249.toList = ([110, 111, 110, 101] : List UInt8) then ((impl_KeyName.f (rd t205 0)).bind fun t251 => ((impl_KeyNamed.f k t251).bind fun t252 => (if t252 = (rd t205 0) then ((impl_SameRules.f k t202 t203 t204 t205 t208 t202 t203 t204 y218 t208).bind fun t254 => (some (!t254))) else (some false)))) else (some false)))) else (some false))) else (some false))) else (some false))) else (some false))) else (some false))) else (some false))) else (none)) = some r := by first | (rw [hy229]; with_reducible exact H) | (have H2_ := (Option.bind_some _ _).symm.trans H; rw [hy229]; with_reducible exact H2_) | (have H2_ := (Option.bind_some _ _).symm.trans H; with_reducible exact H2_) | with_reducible exact H | (rw [hy229]; exact H) | exact H
              have Ny229 := Aside0.mk hy229
              clear hy229
              by_cases c10 : y225.length + y229.length < 17592186044416
              · rw [if_pos c10] at H
                have LMc10 := Aside0.mk c10
                clear c10
                obtain ⟨y232, hy232⟩ : ∃ y_ : List Int, y_ = (y225 ++ y229) := ⟨_, rfl⟩
                replace H : ((impl_RulesOk.f k t202 t203 t204 t205 t208).bind fun t236 => (if t236 = true then ((impl_IsDecisive.f k t202 t203 t204 t205 t208).bind fun t237 => (if t237 = true then ((impl_FaultOf.f k t202 t203 t204 t205 t208).bind fun t238 => (if t238.toList = ([110, 111, 110, 101] : List UInt8) then ((impl_FaultOf.f k t202 t203 t204 y218 t208).bind fun t239 => (if t239.toList = ([117, 110, 100, 101, 99, 105, 100, 101, 100] : List UInt8) then ((impl_FaultOf.f k t202 t203 t204 y232 t208).bind fun t240 => (if t240.toList = ([105, 110, 118, 97, 108, 105, 100] : List UInt8) then ((impl_FaultOf.f k t204 t204 t204 t205 t208).bind fun t241 => (if t241.toList = ([112, 111, 105, 110, 116, 108, 101, 115, 115] : List UInt8) then ((impl_UsualRules.f).bind fun bt242 => ((impl_FaultOf.f k bt242.1 bt242.2.1 bt242.2.2.1 bt242.2.2.2.1 bt242.2.2.2.2).bind fun t249 => (if t249.toList = ([110, 111, 110, 101] : List UInt8) then ((impl_KeyName.f (rd t205 0)).bind fun t251 => ((impl_KeyNamed.f k t251).bind fun t252 => (if t252 = (rd t205 0) then ((impl_SameRules.f k t202 t203 t204 t205 t208 t202 t203 t204 y218 t208).bind fun t254 => (some (!t254))) else (some false)))) else (some false)))) else (some false))) else (some false))) else (some false))) else (some false))) else (some false))) else (some false))) = some r := by first | (rw [hy232]; with_reducible exact H) | (have H2_ := (Option.bind_some _ _).symm.trans H; rw [hy232]; with_reducible exact H2_) | (have H2_ := (Option.bind_some _ _).symm.trans H; with_reducible exact H2_) | with_reducible exact H | (rw [hy232]; exact H) | exact H
                have Ny232 := Aside0.mk hy232
                clear hy232
                replace H := Option.bind_eq_some_iff.mp H
                obtain ⟨t236, A110, H⟩ := H
                replace H : (if t236 = true then ((impl_IsDecisive.f k t202 t203 t204 t205 t208).bind fun t237 => (if t237 = true then ((impl_FaultOf.f k t202 t203 t204 t205 t208).bind fun t238 => (if t238.toList = ([110, 111, 110, 101] : List UInt8) then ((impl_FaultOf.f k t202 t203 t204 y218 t208).bind fun t239 => (if t239.toList = ([117, 110, 100, 101, 99, 105, 100, 101, 100] : List UInt8) then ((impl_FaultOf.f k t202 t203 t204 y232 t208).bind fun t240 => (if t240.toList = ([105, 110, 118, 97, 108, 105, 100] : List UInt8) then ((impl_FaultOf.f k t204 t204 t204 t205 t208).bind fun t241 => (if t241.toList = ([112, 111, 105, 110, 116, 108, 101, 115, 115] : List UInt8) then ((impl_UsualRules.f).bind fun bt242 => ((impl_FaultOf.f k bt242.1 bt242.2.1 bt242.2.2.1 bt242.2.2.2.1 bt242.2.2.2.2).bind fun t249 => (if t249.toList = ([110, 111, 110, 101] : List UInt8) then ((impl_KeyName.f (rd t205 0)).bind fun t251 => ((impl_KeyNamed.f k t251).bind fun t252 => (if t252 = (rd t205 0) then ((impl_SameRules.f k t202 t203 t204 t205 t208 t202 t203 t204 y218 t208).bind fun t254 => (some (!t254))) else (some false)))) else (some false)))) else (some false))) else (some false))) else (some false))) else (some false))) else (some false))) else (some false)) = some r := H
                have A11 := Aside0.mk A110
                clear A110
                by_cases c12 : t236 = true
                · subst c12
                  have H1 : ((impl_IsDecisive.f k t202 t203 t204 t205 t208).bind fun t237 => (if t237 = true then ((impl_FaultOf.f k t202 t203 t204 t205 t208).bind fun t238 => (if t238.toList = ([110, 111, 110, 101] : List UInt8) then ((impl_FaultOf.f k t202 t203 t204 y218 t208).bind fun t239 => (if t239.toList = ([117, 110, 100, 101, 99, 105, 100, 101, 100] : List UInt8) then ((impl_FaultOf.f k t202 t203 t204 y232 t208).bind fun t240 => (if t240.toList = ([105, 110, 118, 97, 108, 105, 100] : List UInt8) then ((impl_FaultOf.f k t204 t204 t204 t205 t208).bind fun t241 => (if t241.toList = ([112, 111, 105, 110, 116, 108, 101, 115, 115] : List UInt8) then ((impl_UsualRules.f).bind fun bt242 => ((impl_FaultOf.f k bt242.1 bt242.2.1 bt242.2.2.1 bt242.2.2.2.1 bt242.2.2.2.2).bind fun t249 => (if t249.toList = ([110, 111, 110, 101] : List UInt8) then ((impl_KeyName.f (rd t205 0)).bind fun t251 => ((impl_KeyNamed.f k t251).bind fun t252 => (if t252 = (rd t205 0) then ((impl_SameRules.f k t202 t203 t204 t205 t208 t202 t203 t204 y218 t208).bind fun t254 => (some (!t254))) else (some false)))) else (some false)))) else (some false))) else (some false))) else (some false))) else (some false))) else (some false))) = some r := by rw [if_pos rfl] at H; exact H
                  clear H
                  have H := H1
                  clear H1
                  replace H := Option.bind_eq_some_iff.mp H
                  obtain ⟨t237, A130, H⟩ := H
                  replace H : (if t237 = true then ((impl_FaultOf.f k t202 t203 t204 t205 t208).bind fun t238 => (if t238.toList = ([110, 111, 110, 101] : List UInt8) then ((impl_FaultOf.f k t202 t203 t204 y218 t208).bind fun t239 => (if t239.toList = ([117, 110, 100, 101, 99, 105, 100, 101, 100] : List UInt8) then ((impl_FaultOf.f k t202 t203 t204 y232 t208).bind fun t240 => (if t240.toList = ([105, 110, 118, 97, 108, 105, 100] : List UInt8) then ((impl_FaultOf.f k t204 t204 t204 t205 t208).bind fun t241 => (if t241.toList = ([112, 111, 105, 110, 116, 108, 101, 115, 115] : List UInt8) then ((impl_UsualRules.f).bind fun bt242 => ((impl_FaultOf.f k bt242.1 bt242.2.1 bt242.2.2.1 bt242.2.2.2.1 bt242.2.2.2.2).bind fun t249 => (if t249.toList = ([110, 111, 110, 101] : List UInt8) then ((impl_KeyName.f (rd t205 0)).bind fun t251 => ((impl_KeyNamed.f k t251).bind fun t252 => (if t252 = (rd t205 0) then ((impl_SameRules.f k t202 t203 t204 t205 t208 t202 t203 t204 y218 t208).bind fun t254 => (some (!t254))) else (some false)))) else (some false)))) else (some false))) else (some false))) else (some false))) else (some false))) else (some false)) = some r := H
                  have A13 := Aside0.mk A130
                  clear A130
                  by_cases c14 : t237 = true
                  · subst c14
                    have H1 : ((impl_FaultOf.f k t202 t203 t204 t205 t208).bind fun t238 => (if t238.toList = ([110, 111, 110, 101] : List UInt8) then ((impl_FaultOf.f k t202 t203 t204 y218 t208).bind fun t239 => (if t239.toList = ([117, 110, 100, 101, 99, 105, 100, 101, 100] : List UInt8) then ((impl_FaultOf.f k t202 t203 t204 y232 t208).bind fun t240 => (if t240.toList = ([105, 110, 118, 97, 108, 105, 100] : List UInt8) then ((impl_FaultOf.f k t204 t204 t204 t205 t208).bind fun t241 => (if t241.toList = ([112, 111, 105, 110, 116, 108, 101, 115, 115] : List UInt8) then ((impl_UsualRules.f).bind fun bt242 => ((impl_FaultOf.f k bt242.1 bt242.2.1 bt242.2.2.1 bt242.2.2.2.1 bt242.2.2.2.2).bind fun t249 => (if t249.toList = ([110, 111, 110, 101] : List UInt8) then ((impl_KeyName.f (rd t205 0)).bind fun t251 => ((impl_KeyNamed.f k t251).bind fun t252 => (if t252 = (rd t205 0) then ((impl_SameRules.f k t202 t203 t204 t205 t208 t202 t203 t204 y218 t208).bind fun t254 => (some (!t254))) else (some false)))) else (some false)))) else (some false))) else (some false))) else (some false))) else (some false))) = some r := by rw [if_pos rfl] at H; exact H
                    clear H
                    have H := H1
                    clear H1
                    replace H := Option.bind_eq_some_iff.mp H
                    obtain ⟨t238, A150, H⟩ := H
                    replace H : (if t238.toList = ([110, 111, 110, 101] : List UInt8) then ((impl_FaultOf.f k t202 t203 t204 y218 t208).bind fun t239 => (if t239.toList = ([117, 110, 100, 101, 99, 105, 100, 101, 100] : List UInt8) then ((impl_FaultOf.f k t202 t203 t204 y232 t208).bind fun t240 => (if t240.toList = ([105, 110, 118, 97, 108, 105, 100] : List UInt8) then ((impl_FaultOf.f k t204 t204 t204 t205 t208).bind fun t241 => (if t241.toList = ([112, 111, 105, 110, 116, 108, 101, 115, 115] : List UInt8) then ((impl_UsualRules.f).bind fun bt242 => ((impl_FaultOf.f k bt242.1 bt242.2.1 bt242.2.2.1 bt242.2.2.2.1 bt242.2.2.2.2).bind fun t249 => (if t249.toList = ([110, 111, 110, 101] : List UInt8) then ((impl_KeyName.f (rd t205 0)).bind fun t251 => ((impl_KeyNamed.f k t251).bind fun t252 => (if t252 = (rd t205 0) then ((impl_SameRules.f k t202 t203 t204 t205 t208 t202 t203 t204 y218 t208).bind fun t254 => (some (!t254))) else (some false)))) else (some false)))) else (some false))) else (some false))) else (some false))) else (some false)) = some r := H
                    have A15 := Aside0.mk A150
                    clear A150
                    by_cases c16 : t238.toList = ([110, 111, 110, 101] : List UInt8)
                    · rw [if_pos c16] at H
                      have c16b0 : (t238.toList == ([110, 111, 110, 101] : List UInt8)) = true := beq_iff_eq.mpr c16
                      have c16b1 : (t238.toList != ([110, 111, 110, 101] : List UInt8)) = false := bne_eq_false_iff_eq.mpr c16
                      clear c16
                      replace H := Option.bind_eq_some_iff.mp H
                      obtain ⟨t239, A170, H⟩ := H
                      replace H : (if t239.toList = ([117, 110, 100, 101, 99, 105, 100, 101, 100] : List UInt8) then ((impl_FaultOf.f k t202 t203 t204 y232 t208).bind fun t240 => (if t240.toList = ([105, 110, 118, 97, 108, 105, 100] : List UInt8) then ((impl_FaultOf.f k t204 t204 t204 t205 t208).bind fun t241 => (if t241.toList = ([112, 111, 105, 110, 116, 108, 101, 115, 115] : List UInt8) then ((impl_UsualRules.f).bind fun bt242 => ((impl_FaultOf.f k bt242.1 bt242.2.1 bt242.2.2.1 bt242.2.2.2.1 bt242.2.2.2.2).bind fun t249 => (if t249.toList = ([110, 111, 110, 101] : List UInt8) then ((impl_KeyName.f (rd t205 0)).bind fun t251 => ((impl_KeyNamed.f k t251).bind fun t252 => (if t252 = (rd t205 0) then ((impl_SameRules.f k t202 t203 t204 t205 t208 t202 t203 t204 y218 t208).bind fun t254 => (some (!t254))) else (some false)))) else (some false)))) else (some false))) else (some false))) else (some false)) = some r := H
                      have A17 := Aside0.mk A170
                      clear A170
                      by_cases c18 : t239.toList = ([117, 110, 100, 101, 99, 105, 100, 101, 100] : List UInt8)
                      · rw [if_pos c18] at H
                        have c18b0 : (t239.toList == ([117, 110, 100, 101, 99, 105, 100, 101, 100] : List UInt8)) = true := beq_iff_eq.mpr c18
                        have c18b1 : (t239.toList != ([117, 110, 100, 101, 99, 105, 100, 101, 100] : List UInt8)) = false := bne_eq_false_iff_eq.mpr c18
                        clear c18
                        replace H := Option.bind_eq_some_iff.mp H
                        obtain ⟨t240, A190, H⟩ := H
                        replace H : (if t240.toList = ([105, 110, 118, 97, 108, 105, 100] : List UInt8) then ((impl_FaultOf.f k t204 t204 t204 t205 t208).bind fun t241 => (if t241.toList = ([112, 111, 105, 110, 116, 108, 101, 115, 115] : List UInt8) then ((impl_UsualRules.f).bind fun bt242 => ((impl_FaultOf.f k bt242.1 bt242.2.1 bt242.2.2.1 bt242.2.2.2.1 bt242.2.2.2.2).bind fun t249 => (if t249.toList = ([110, 111, 110, 101] : List UInt8) then ((impl_KeyName.f (rd t205 0)).bind fun t251 => ((impl_KeyNamed.f k t251).bind fun t252 => (if t252 = (rd t205 0) then ((impl_SameRules.f k t202 t203 t204 t205 t208 t202 t203 t204 y218 t208).bind fun t254 => (some (!t254))) else (some false)))) else (some false)))) else (some false))) else (some false)) = some r := H
                        have A19 := Aside0.mk A190
                        clear A190
                        by_cases c20 : t240.toList = ([105, 110, 118, 97, 108, 105, 100] : List UInt8)
                        · rw [if_pos c20] at H
                          have c20b0 : (t240.toList == ([105, 110, 118, 97, 108, 105, 100] : List UInt8)) = true := beq_iff_eq.mpr c20
                          have c20b1 : (t240.toList != ([105, 110, 118, 97, 108, 105, 100] : List UInt8)) = false := bne_eq_false_iff_eq.mpr c20
                          clear c20
                          replace H := Option.bind_eq_some_iff.mp H
                          obtain ⟨t241, A210, H⟩ := H
                          replace H : (if t241.toList = ([112, 111, 105, 110, 116, 108, 101, 115, 115] : List UInt8) then ((impl_UsualRules.f).bind fun bt242 => ((impl_FaultOf.f k bt242.1 bt242.2.1 bt242.2.2.1 bt242.2.2.2.1 bt242.2.2.2.2).bind fun t249 => (if t249.toList = ([110, 111, 110, 101] : List UInt8) then ((impl_KeyName.f (rd t205 0)).bind fun t251 => ((impl_KeyNamed.f k t251).bind fun t252 => (if t252 = (rd t205 0) then ((impl_SameRules.f k t202 t203 t204 t205 t208 t202 t203 t204 y218 t208).bind fun t254 => (some (!t254))) else (some false)))) else (some false)))) else (some false)) = some r := H
                          have A21 := Aside0.mk A210
                          clear A210
                          by_cases c22 : t241.toList = ([112, 111, 105, 110, 116, 108, 101, 115, 115] : List UInt8)
                          · rw [if_pos c22] at H
                            have c22b0 : (t241.toList == ([112, 111, 105, 110, 116, 108, 101, 115, 115] : List UInt8)) = true := beq_iff_eq.mpr c22
                            have c22b1 : (t241.toList != ([112, 111, 105, 110, 116, 108, 101, 115, 115] : List UInt8)) = false := bne_eq_false_iff_eq.mpr c22
                            clear c22
                            replace H := Option.bind_eq_some_iff.mp H
                            obtain ⟨⟨t242, t243, t244, t245, t248⟩, A230, H⟩ := H
                            replace H : ((impl_FaultOf.f k t242 t243 t244 t245 t248).bind fun t249 => (if t249.toList = ([110, 111, 110, 101] : List UInt8) then ((impl_KeyName.f (rd t205 0)).bind fun t251 => ((impl_KeyNamed.f k t251).bind fun t252 => (if t252 = (rd t205 0) then ((impl_SameRules.f k t202 t203 t204 t205 t208 t202 t203 t204 y218 t208).bind fun t254 => (some (!t254))) else (some false)))) else (some false))) = some r := H
                            have A23 := Aside0.mk A230
                            clear A230
                            replace H := Option.bind_eq_some_iff.mp H
                            obtain ⟨t249, A240, H⟩ := H
                            replace H : (if t249.toList = ([110, 111, 110, 101] : List UInt8) then ((impl_KeyName.f (rd t205 0)).bind fun t251 => ((impl_KeyNamed.f k t251).bind fun t252 => (if t252 = (rd t205 0) then ((impl_SameRules.f k t202 t203 t204 t205 t208 t202 t203 t204 y218 t208).bind fun t254 => (some (!t254))) else (some false)))) else (some false)) = some r := H
                            have A24 := Aside0.mk A240
                            clear A240
                            by_cases c25 : t249.toList = ([110, 111, 110, 101] : List UInt8)
                            · rw [if_pos c25] at H
                              have c25b0 : (t249.toList == ([110, 111, 110, 101] : List UInt8)) = true := beq_iff_eq.mpr c25
                              have c25b1 : (t249.toList != ([110, 111, 110, 101] : List UInt8)) = false := bne_eq_false_iff_eq.mpr c25
                              clear c25
                              replace H := Option.bind_eq_some_iff.mp H
                              obtain ⟨t251, A260, H⟩ := H
                              replace H : ((impl_KeyNamed.f k t251).bind fun t252 => (if t252 = (rd t205 0) then ((impl_SameRules.f k t202 t203 t204 t205 t208 t202 t203 t204 y218 t208).bind fun t254 => (some (!t254))) else (some false))) = some r := H
                              have A26 := Aside0.mk A260
                              clear A260
                              replace H := Option.bind_eq_some_iff.mp H
                              obtain ⟨t252, A270, H⟩ := H
                              replace H : (if t252 = (rd t205 0) then ((impl_SameRules.f k t202 t203 t204 t205 t208 t202 t203 t204 y218 t208).bind fun t254 => (some (!t254))) else (some false)) = some r := H
                              have A27 := Aside0.mk A270
                              clear A270
                              by_cases c28 : t252 = (rd t205 0)
                              · rw [if_pos c28] at H
                                have c28b0 : (t252 == (rd t205 0)) = true := beq_iff_eq.mpr c28
                                have c28b1 : (t252 != (rd t205 0)) = false := bne_eq_false_iff_eq.mpr c28
                                clear c28
                                replace H := Option.bind_eq_some_iff.mp H
                                obtain ⟨t254, A290, H⟩ := H
                                replace H : (some (!t254)) = some r := H
                                have A29 := Aside0.mk A290
                                clear A290
                                obtain rfl := Option.some.inj H
                                go_enter Try.func3, Try.ntmps3
                                try go_wp2_with (first | ((with_reducible refine gate_callee (f := 10) rfl ?_); refine goesL_ (some 11) rfl rfl Try.func10 (by kernel_rfl) rfl #[.slice A0 l0.length c0] rfl (by (try simp only [List.map_toArray, List.map_cons, List.map_nil]); first | done | rfl | (simp only [List.length_drop, List.length_take]; rfl)) ?_; (with_reducible refine (spec_MakeRules.calls k _ _ l0 t202 t203 t204 t205 t208 _ ?side1 ?side2 A3.out).mono ?_); (case side1 => repeat (first | exact HR0.out | (with_reducible refine Kd.C_alloc ?_ _) | (with_reducible refine Kd.C_drewN ?_ _) | (with_reducible refine Kd.C_drew ?_))); (case side2 => exact HC0.out); rintro e w30 ⟨v206, rfl, ho0, hb⟩; refine ⟨_, rfl, ?_⟩; have n0_ := Aside0.mk (Kd.R_lower ho0 (below_size (by repeat (first | (with_reducible first | exact HB.out | apply below_alloc | apply pw_below_drewN | apply below_drew1) | exact HB.out)))); have n1_ := Aside0.mk (below_step (by repeat (first | (with_reducible first | exact HB.out | apply below_alloc | apply pw_below_drewN | apply below_drew1) | exact HB.out)) hb); clear HB; have HO207 := n0_; have HB := n1_; clear n0_ n1_; (try clear hb); (try clear hb2); (try clear hk); (try clear hi); (try clear ho0)) | ((with_reducible refine gate_dst (N := 3) rfl ?_); refine box_event ?hg (N := 3) ?hd (cs := #[.int .i64 0, .int .i64 0, .int .i64 0, .slice none 0 0, .bool false]) (t := 25) ?hr ?_; (case hd => rfl); (case hg => rfl); (case hr => first | (go_simp; done) | (go_simp; rfl)); intro gb209 hg w31 hbox hb; have n0_ := Aside0.mk (Kd.R_below (by (with_reducible repeat (first | apply Kd.R_alloc | apply Kd.R_drewN | apply Kd.R_drew)); exact HO207.out) hb); have n1_ := Aside0.mk (below_step (by repeat (first | (with_reducible first | exact HB.out | apply below_alloc | apply pw_below_drewN | apply below_drew1) | exact HB.out)) hb); have n2_ := Aside0.mk (hbox); have n3_ := Aside0.mk ((by rw [hg]; exact (below_size (by repeat (first | (with_reducible first | exact HB.out | apply below_alloc | apply pw_below_drewN | apply below_drew1) | exact HB.out))) : w.heap.size ≤ gb209)); have n4_ := Aside0.mk ((by rw [hg]; exact (below_size (by repeat (first | (with_reducible first | exact HB.out | apply below_alloc | apply pw_below_drewN | apply below_drew1) | exact HB.out))) : w.heap.size ≤ gb209)); clear HO207; clear HB; have HO207 := n0_; have HB := n1_; have BK209 := n2_; have GW209 := n3_; have GE209 := n4_; clear n0_ n1_ n2_ n3_ n4_; clear hb hbox hg; have hcz32_0 : w31.cell? ⟨gb209, 0, none⟩ = some (.int .i64 0) := (blk_cell BK209.out 0).trans rfl; have hcz32_1 : w31.cell? ⟨gb209, 1, none⟩ = some (.int .i64 0) := (blk_cell BK209.out 1).trans rfl; have hcz32_2 : w31.cell? ⟨gb209, 2, none⟩ = some (.int .i64 0) := (blk_cell BK209.out 2).trans rfl; have hcz32_3 : w31.cell? ⟨gb209, 3, none⟩ = some (.slice none 0 0) := (blk_cell BK209.out 3).trans rfl; have hcz32_4 : w31.cell? ⟨gb209, 4, none⟩ = some (.bool false) := (blk_cell BK209.out 4).trans rfl; have hfz32_0 := blk_frozen BK209.out 0; have hfz32_1 := blk_frozen BK209.out 1; have hfz32_2 := blk_frozen BK209.out 2; have hfz32_3 := blk_frozen BK209.out 3; have hfz32_4 := blk_frozen BK209.out 4; obtain ⟨Ao33, co33, eo33⟩ := Kd.R_slice HO207.out; subst eo33) | ((with_reducible refine gate_dst (N := 4) rfl ?_); refine box_event ?hg (N := 4) ?hd (cs := #[.int .i64 0, .int .i64 0, .int .i64 0, .slice none 0 0, .bool false]) (t := 25) ?hr ?_; (case hd => rfl); (case hg => rfl); (case hr => first | (go_simp; done) | (go_simp; rfl)); intro gb210 hg w34 hbox hb; have n0_ := Aside0.mk (Kd.R_below (by (with_reducible repeat (first | apply Kd.R_alloc | apply Kd.R_drewN | apply Kd.R_drew)); exact (Kd.R_mono (Kd.R_far (p := ⟨gb209, 4, none⟩) (Kd.R_far (p := ⟨gb209, 3, none⟩) (Kd.R_far (p := ⟨gb209, 2, none⟩) (Kd.R_far (p := ⟨gb209, 1, none⟩) (Kd.R_far (p := ⟨gb209, 0, none⟩) (Kd.R_types HO207.out BK209.out (by decide)) (fun _ hk => hk.2) (.int .i64 t202)) (fun _ hk => hk.2) (.int .i64 t203)) (fun _ hk => hk.2) (.int .i64 t204)) (fun _ hk => hk.2) (.slice Ao33 t205.length co33)) (fun _ hk => hk.2) (.bool t208)) (fun _ h_ => h_.1))) hb); have n1_ := Aside0.mk (blk_below (g := gb209) (o := .cells #[.int .i64 t202, .int .i64 t203, .int .i64 t204, .slice Ao33 t205.length co33, .bool t208] 25 (0, 0)) (by (with_reducible repeat (first | refine blk_drewN ?_ _ | refine blk_drew ?_ | refine blk_alloc ?_ _)); refine blk_put (cs := #[.int .i64 t202, .int .i64 t203, .int .i64 t204, .slice Ao33 t205.length co33, .bool false]) ?_ 4 _ rfl; (with_reducible repeat (first | refine blk_drewN ?_ _ | refine blk_drew ?_ | refine blk_alloc ?_ _)); refine blk_put (cs := #[.int .i64 t202, .int .i64 t203, .int .i64 t204, .slice none 0 0, .bool false]) ?_ 3 _ rfl; (with_reducible repeat (first | refine blk_drewN ?_ _ | refine blk_drew ?_ | refine blk_alloc ?_ _)); refine blk_put (cs := #[.int .i64 t202, .int .i64 t203, .int .i64 0, .slice none 0 0, .bool false]) ?_ 2 _ rfl; (with_reducible repeat (first | refine blk_drewN ?_ _ | refine blk_drew ?_ | refine blk_alloc ?_ _)); refine blk_put (cs := #[.int .i64 t202, .int .i64 0, .int .i64 0, .slice none 0 0, .bool false]) ?_ 1 _ rfl; (with_reducible repeat (first | refine blk_drewN ?_ _ | refine blk_drew ?_ | refine blk_alloc ?_ _)); refine blk_put (cs := #[.int .i64 0, .int .i64 0, .int .i64 0, .slice none 0 0, .bool false]) ?_ 0 _ rfl; (with_reducible repeat (first | refine blk_drewN ?_ _ | refine blk_drew ?_ | refine blk_alloc ?_ _)); exact BK209.out) hb); have n2_ := Aside0.mk (below_step (by repeat (first | (with_reducible first | exact HB.out | apply below_alloc | apply pw_below_drewN | apply below_drew1 | refine below_set ?_ GE209.out) | exact HB.out)) hb); have n3_ := Aside0.mk (hbox); have n4_ := Aside0.mk ((by rw [hg]; exact (below_size (by repeat (first | (with_reducible first | exact HB.out | apply below_alloc | apply pw_below_drewN | apply below_drew1 | refine below_set ?_ GE209.out) | exact HB.out))) : w.heap.size ≤ gb210)); have n5_ := Aside0.mk ((by rw [hg]; exact (below_size (by repeat (first | (with_reducible first | exact HB.out | apply below_alloc | apply pw_below_drewN | apply below_drew1 | refine below_set ?_ GE209.out) | exact HB.out))) : w.heap.size ≤ gb210)); have n6_ := Aside0.mk ((by rw [hg]; exact Nat.ne_of_lt (blk_lt (g := gb209) (o := .cells #[.int .i64 t202, .int .i64 t203, .int .i64 t204, .slice Ao33 t205.length co33, .bool t208] 25 (0, 0)) (by (with_reducible repeat (first | refine blk_drewN ?_ _ | refine blk_drew ?_ | refine blk_alloc ?_ _)); refine blk_put (cs := #[.int .i64 t202, .int .i64 t203, .int .i64 t204, .slice Ao33 t205.length co33, .bool false]) ?_ 4 _ rfl; (with_reducible repeat (first | refine blk_drewN ?_ _ | refine blk_drew ?_ | refine blk_alloc ?_ _)); refine blk_put (cs := #[.int .i64 t202, .int .i64 t203, .int .i64 t204, .slice none 0 0, .bool false]) ?_ 3 _ rfl; (with_reducible repeat (first | refine blk_drewN ?_ _ | refine blk_drew ?_ | refine blk_alloc ?_ _)); refine blk_put (cs := #[.int .i64 t202, .int .i64 t203, .int .i64 0, .slice none 0 0, .bool false]) ?_ 2 _ rfl; (with_reducible repeat (first | refine blk_drewN ?_ _ | refine blk_drew ?_ | refine blk_alloc ?_ _)); refine blk_put (cs := #[.int .i64 t202, .int .i64 0, .int .i64 0, .slice none 0 0, .bool false]) ?_ 1 _ rfl; (with_reducible repeat (first | refine blk_drewN ?_ _ | refine blk_drew ?_ | refine blk_alloc ?_ _)); refine blk_put (cs := #[.int .i64 0, .int .i64 0, .int .i64 0, .slice none 0 0, .bool false]) ?_ 0 _ rfl; (with_reducible repeat (first | refine blk_drewN ?_ _ | refine blk_drew ?_ | refine blk_alloc ?_ _)); exact BK209.out)) : gb209 ≠ gb210)); have n7_ := Aside0.mk ((by rw [hg]; exact Nat.ne_of_gt (blk_lt (g := gb209) (o := .cells #[.int .i64 t202, .int .i64 t203, .int .i64 t204, .slice Ao33 t205.length co33, .bool t208] 25 (0, 0)) (by (with_reducible repeat (first | refine blk_drewN ?_ _ | refine blk_drew ?_ | refine blk_alloc ?_ _)); refine blk_put (cs := #[.int .i64 t202, .int .i64 t203, .int .i64 t204, .slice Ao33 t205.length co33, .bool false]) ?_ 4 _ rfl; (with_reducible repeat (first | refine blk_drewN ?_ _ | refine blk_drew ?_ | refine blk_alloc ?_ _)); refine blk_put (cs := #[.int .i64 t202, .int .i64 t203, .int .i64 t204, .slice none 0 0, .bool false]) ?_ 3 _ rfl; (with_reducible repeat (first | refine blk_drewN ?_ _ | refine blk_drew ?_ | refine blk_alloc ?_ _)); refine blk_put (cs := #[.int .i64 t202, .int .i64 t203, .int .i64 0, .slice none 0 0, .bool false]) ?_ 2 _ rfl; (with_reducible repeat (first | refine blk_drewN ?_ _ | refine blk_drew ?_ | refine blk_alloc ?_ _)); refine blk_put (cs := #[.int .i64 t202, .int .i64 0, .int .i64 0, .slice none 0 0, .bool false]) ?_ 1 _ rfl; (with_reducible repeat (first | refine blk_drewN ?_ _ | refine blk_drew ?_ | refine blk_alloc ?_ _)); refine blk_put (cs := #[.int .i64 0, .int .i64 0, .int .i64 0, .slice none 0 0, .bool false]) ?_ 0 _ rfl; (with_reducible repeat (first | refine blk_drewN ?_ _ | refine blk_drew ?_ | refine blk_alloc ?_ _)); exact BK209.out)) : gb210 ≠ gb209)); clear HO207; clear BK209; clear HB; have HO207 := n0_; have BK209 := n1_; have HB := n2_; have BK210 := n3_; have GW210 := n4_; have GE210 := n5_; have NB209_210 := n6_; have NB210_209 := n7_; clear n0_ n1_ n2_ n3_ n4_ n5_ n6_ n7_; clear hb hbox hg; have hnb35 := NB210_209.out; have hnc35 := NB209_210.out; have hcz36_0 : w34.cell? ⟨gb210, 0, none⟩ = some (.int .i64 0) := (blk_cell BK210.out 0).trans rfl; have hcz36_1 : w34.cell? ⟨gb210, 1, none⟩ = some (.int .i64 0) := (blk_cell BK210.out 1).trans rfl; have hcz36_2 : w34.cell? ⟨gb210, 2, none⟩ = some (.int .i64 0) := (blk_cell BK210.out 2).trans rfl; have hcz36_3 : w34.cell? ⟨gb210, 3, none⟩ = some (.slice none 0 0) := (blk_cell BK210.out 3).trans rfl; have hcz36_4 : w34.cell? ⟨gb210, 4, none⟩ = some (.bool false) := (blk_cell BK210.out 4).trans rfl; have hfz36_0 := blk_frozen BK210.out 0; have hfz36_1 := blk_frozen BK210.out 1; have hfz36_2 := blk_frozen BK210.out 2; have hfz36_3 := blk_frozen BK210.out 3; have hfz36_4 := blk_frozen BK210.out 4) | ((with_reducible refine gate_dst (N := 13) rfl ?_); refine Kd.R_lit (Kd.int .i64) _ 3 ?hg (N := 13) ?hd (xs := ([] : List Int)) (inner := []) (ok := fun _ => True) (okp := fun _ => True) ?hr ?hp (fun _ hk => hk) trivial (Below.refl _ _) (Nat.le_refl _) (by simp) ?_; (case hd => rfl); (case hg => rfl); (case hr => first | (go_simp; done) | (go_simp; rfl)); (case hp => exact (Reps.none _ _)); intro v212 w37 ho38 hb hg_ hnew_; clear hg_ hnew_; (first | rw [← Ny211.out] at ho38 | (simp only [Int.reduceToNat] at ho38; rw [← Ny211.out] at ho38)); have n0_ := Aside0.mk (Kd.R_elder' (by (with_reducible repeat (first | apply Kd.R_alloc | apply Kd.R_drewN | apply Kd.R_drew)); exact (Kd.R_mono (Kd.R_far (p := ⟨gb210, 4, none⟩) (Kd.R_far (p := ⟨gb210, 3, none⟩) (Kd.R_far (p := ⟨gb210, 2, none⟩) (Kd.R_far (p := ⟨gb210, 1, none⟩) (Kd.R_far (p := ⟨gb210, 0, none⟩) (Kd.R_types HO207.out BK210.out (by decide)) (fun _ hk => hk.2) (.int .i64 t202)) (fun _ hk => hk.2) (.int .i64 t203)) (fun _ hk => hk.2) (.int .i64 t204)) (fun _ hk => hk.2) (.slice Ao33 t205.length co33)) (fun _ hk => hk.2) (.bool t208)) (fun _ h_ => h_.1))) (Kd.R_base ho38) hb); have n1_ := Aside0.mk (Kd.R_lower (Kd.R_new' ho38 (Kd.R_lt (by (with_reducible repeat (first | apply Kd.R_alloc | apply Kd.R_drewN | apply Kd.R_drew)); exact (Kd.R_mono (Kd.R_far (p := ⟨gb210, 4, none⟩) (Kd.R_far (p := ⟨gb210, 3, none⟩) (Kd.R_far (p := ⟨gb210, 2, none⟩) (Kd.R_far (p := ⟨gb210, 1, none⟩) (Kd.R_far (p := ⟨gb210, 0, none⟩) (Kd.R_types HO207.out BK210.out (by decide)) (fun _ hk => hk.2) (.int .i64 t202)) (fun _ hk => hk.2) (.int .i64 t203)) (fun _ hk => hk.2) (.int .i64 t204)) (fun _ hk => hk.2) (.slice Ao33 t205.length co33)) (fun _ hk => hk.2) (.bool t208)) (fun _ h_ => h_.1))))) (below_size (by repeat (first | (with_reducible first | exact HB.out | apply below_alloc | apply pw_below_drewN | apply below_drew1 | refine below_set ?_ GE209.out | refine below_set ?_ GE210.out) | exact HB.out)))); have n2_ := Aside0.mk (blk_below (g := gb209) (o := .cells #[.int .i64 t202, .int .i64 t203, .int .i64 t204, .slice Ao33 t205.length co33, .bool t208] 25 (0, 0)) (by (with_reducible repeat (first | refine blk_drewN ?_ _ | refine blk_drew ?_ | refine blk_alloc ?_ _)); refine blk_far ?_ NB209_210.out _; (with_reducible repeat (first | refine blk_drewN ?_ _ | refine blk_drew ?_ | refine blk_alloc ?_ _)); refine blk_far ?_ NB209_210.out _; (with_reducible repeat (first | refine blk_drewN ?_ _ | refine blk_drew ?_ | refine blk_alloc ?_ _)); refine blk_far ?_ NB209_210.out _; (with_reducible repeat (first | refine blk_drewN ?_ _ | refine blk_drew ?_ | refine blk_alloc ?_ _)); refine blk_far ?_ NB209_210.out _; (with_reducible repeat (first | refine blk_drewN ?_ _ | refine blk_drew ?_ | refine blk_alloc ?_ _)); refine blk_far ?_ NB209_210.out _; (with_reducible repeat (first | refine blk_drewN ?_ _ | refine blk_drew ?_ | refine blk_alloc ?_ _)); exact BK209.out) hb); have n3_ := Aside0.mk (blk_below (g := gb210) (o := .cells #[.int .i64 t202, .int .i64 t203, .int .i64 t204, .slice Ao33 t205.length co33, .bool t208] 25 (0, 0)) (by (with_reducible repeat (first | refine blk_drewN ?_ _ | refine blk_drew ?_ | refine blk_alloc ?_ _)); refine blk_put (cs := #[.int .i64 t202, .int .i64 t203, .int .i64 t204, .slice Ao33 t205.length co33, .bool false]) ?_ 4 _ rfl; (with_reducible repeat (first | refine blk_drewN ?_ _ | refine blk_drew ?_ | refine blk_alloc ?_ _)); refine blk_put (cs := #[.int .i64 t202, .int .i64 t203, .int .i64 t204, .slice none 0 0, .bool false]) ?_ 3 _ rfl; (with_reducible repeat (first | refine blk_drewN ?_ _ | refine blk_drew ?_ | refine blk_alloc ?_ _)); refine blk_put (cs := #[.int .i64 t202, .int .i64 t203, .int .i64 0, .slice none 0 0, .bool false]) ?_ 2 _ rfl; (with_reducible repeat (first | refine blk_drewN ?_ _ | refine blk_drew ?_ | refine blk_alloc ?_ _)); refine blk_put (cs := #[.int .i64 t202, .int .i64 0, .int .i64 0, .slice none 0 0, .bool false]) ?_ 1 _ rfl; (with_reducible repeat (first | refine blk_drewN ?_ _ | refine blk_drew ?_ | refine blk_alloc ?_ _)); refine blk_put (cs := #[.int .i64 0, .int .i64 0, .int .i64 0, .slice none 0 0, .bool false]) ?_ 0 _ rfl; (with_reducible repeat (first | refine blk_drewN ?_ _ | refine blk_drew ?_ | refine blk_alloc ?_ _)); exact BK210.out) hb); have n4_ := Aside0.mk (below_step (by repeat (first | (with_reducible first | exact HB.out | apply below_alloc | apply pw_below_drewN | apply below_drew1 | refine below_set ?_ GE209.out | refine below_set ?_ GE210.out) | exact HB.out)) hb); clear HO207; clear BK209; clear BK210; clear HB; have HO207 := n0_; have HO213 := n1_; have BK209 := n2_; have BK210 := n3_; have HB := n4_; clear n0_ n1_ n2_ n3_ n4_; clear hb ho38; have hcz39_0 : w37.cell? ⟨gb209, 0, none⟩ = some (.int .i64 t202) := (blk_cell BK209.out 0).trans rfl; have hcz39_1 : w37.cell? ⟨gb209, 1, none⟩ = some (.int .i64 t203) := (blk_cell BK209.out 1).trans rfl; have hcz39_2 : w37.cell? ⟨gb209, 2, none⟩ = some (.int .i64 t204) := (blk_cell BK209.out 2).trans rfl; have hcz39_3 : w37.cell? ⟨gb209, 3, none⟩ = some (.slice Ao33 t205.length co33) := (blk_cell BK209.out 3).trans rfl; have hcz39_4 : w37.cell? ⟨gb209, 4, none⟩ = some (.bool t208) := (blk_cell BK209.out 4).trans rfl; have hfz39_0 := blk_frozen BK209.out 0; have hfz39_1 := blk_frozen BK209.out 1; have hfz39_2 := blk_frozen BK209.out 2; have hfz39_3 := blk_frozen BK209.out 3; have hfz39_4 := blk_frozen BK209.out 4; have q40 : ((ji4) : Int) ≤ ((t205.length : Int) : Int) := of_decide_eq_true (by first | (with_reducible assumption) | assumption); obtain ⟨i040, hi040, _, hsz40, _⟩ := info_parts info3; have hroom40 : t205.length ≤ co33 := (Kd.R_reads' HO207.out).2.1; have hC40 : Kd.C (Kd.int .i64) _ Ao33 t205.length t205 := (Kd.R_reads' HO207.out).2.2; have hcut40 := cut_to (P := Try.prog) 23 3 .i64 Try.underlying23 hi040 Ao33 t205.length co33 (ji4) (of_decide_eq_true (by first | (with_reducible assumption) | assumption)) q40 hroom40; have hr40 := Kd.C_take (m := ((ji4) : Int).toNat) hC40 (by omega); have hy40 : y214.length = ((ji4) : Int).toNat := (by rw [Ny214.out, List.length_take]; omega); rw [← Ny214.out] at hr40; rw [← hy40] at hcut40; have HR217 := Aside0.mk hr40; have HC217 := Aside0.mk (show y214.length ≤ co33 from by omega); clear hr40 hC40 hroom40 hi040 hsz40; have KY40 := Aside0.mk hy40; clear hy40; have KL40 := Aside0.mk (show ((ji4) : Int).toNat ≤ t205.length from by omega); replace q40 := eq_true q40) | ((with_reducible refine gate_builtin (b := .append) (xs := #[.tmp 13, .tmp 20]) rfl ?_); at_builtin; refine Kd.R_append_rows (Kd.int .i64) (w0 := w) w.heap.size rfl (.tmp 13) (.tmp 20) 23 3 (.int .i64 0) 8 rfl Try.underlying23 info3 rfl (by decide) (by omega) v212 y211 y214 _ _ _ (fun k_ => some k_ ≠ (.slice Ao33 t205.length co33 : Value).ownBlock) (fun _ => False) rfl rfl ?aO ?aR (fun _ _ h => h) (fun _ h => h.elim) ?aF ?aB ?aS ?aL ?_; (case aR => repeat (first | exact (by repeat (first | (with_reducible exact HR217.out) | (with_reducible refine Kd.C_alloc ?_ _) | (with_reducible refine Kd.C_drewN ?_ _) | (with_reducible refine Kd.C_drew ?_) | exact HR217.out)) | (with_reducible refine Kd.C_alloc ?_ _) | (with_reducible refine Kd.C_drewN ?_ _) | (with_reducible refine Kd.C_drew ?_))); (case aB => exact (by repeat (first | (with_reducible first | exact HB.out | apply below_alloc | apply pw_below_drewN | apply below_drew1 | refine below_set ?_ GE209.out | refine below_set ?_ GE210.out) | exact HB.out))); (case aF => exact (fun k_ hk => Kd.fresh' (Kd.R_lt (by (with_reducible repeat (first | apply Kd.R_alloc | apply Kd.R_drewN | apply Kd.R_drew)); exact HO207.out)) k_ hk)); (case aO => exact (by (with_reducible repeat (first | apply Kd.R_alloc | apply Kd.R_drewN | apply Kd.R_drew)); exact Kd.R_mono HO213.out (fun _ hk => hk.2))); (case aS => exact (below_size (by repeat (first | (with_reducible first | exact HB.out | apply below_alloc | apply pw_below_drewN | apply below_drew1 | refine below_set ?_ GE209.out | refine below_set ?_ GE210.out) | exact HB.out)))); (case aL => have := LMc7.out; omega); intro v219 w41 ho hb hg hat; rw [← Ny218.out] at ho; have n0_ := Aside0.mk (Kd.R_after (ok := (fun _ => True)) (by (with_reducible repeat (first | apply Kd.R_alloc | apply Kd.R_drewN | apply Kd.R_drew)); exact HO207.out) hg hat); have n1_ := Aside0.mk (blk_grown (g := gb209) (o := .cells #[.int .i64 t202, .int .i64 t203, .int .i64 t204, .slice Ao33 t205.length co33, .bool t208] 25 (0, 0)) (by (with_reducible repeat (first | refine blk_drewN ?_ _ | refine blk_drew ?_ | refine blk_alloc ?_ _)); exact BK209.out) hg (Kd.R_ne HO213.out BK209.out (by decide))); have n2_ := Aside0.mk (blk_grown (g := gb210) (o := .cells #[.int .i64 t202, .int .i64 t203, .int .i64 t204, .slice Ao33 t205.length co33, .bool t208] 25 (0, 0)) (by (with_reducible repeat (first | refine blk_drewN ?_ _ | refine blk_drew ?_ | refine blk_alloc ?_ _)); exact BK210.out) hg (Kd.R_ne HO213.out BK210.out (by decide))); have n3_ := Aside0.mk (hb); have n4_ := Aside0.mk ((show Kd.C (Kd.int .i64) w41 Ao33 y214.length y214 from by rw [Ny214.out]; exact Kd.C_take (m := ((ji4) : Int).toNat) ((Kd.R_reads' (Kd.R_after (ok := (fun _ => True)) (by (with_reducible repeat (first | apply Kd.R_alloc | apply Kd.R_drewN | apply Kd.R_drew)); exact HO207.out) hg hat)).2.2) KL40.out)); have n5_ := Aside0.mk (ho); clear HO207; clear BK209; clear BK210; clear HB; clear HR217; clear HO213; have HO207 := n0_; have BK209 := n1_; have BK210 := n2_; have HB := n3_; have HR217 := n4_; have HO220 := n5_; clear n0_ n1_ n2_ n3_ n4_ n5_; clear ho hb hg hat; obtain ⟨Ao42, co42, eo42⟩ := Kd.R_slice HO220.out; subst eo42; have hcz43_0 : w41.cell? ⟨gb210, 0, none⟩ = some (.int .i64 t202) := (blk_cell BK210.out 0).trans rfl; have hcz43_1 : w41.cell? ⟨gb210, 1, none⟩ = some (.int .i64 t203) := (blk_cell BK210.out 1).trans rfl; have hcz43_2 : w41.cell? ⟨gb210, 2, none⟩ = some (.int .i64 t204) := (blk_cell BK210.out 2).trans rfl; have hcz43_3 : w41.cell? ⟨gb210, 3, none⟩ = some (.slice Ao33 t205.length co33) := (blk_cell BK210.out 3).trans rfl; have hcz43_4 : w41.cell? ⟨gb210, 4, none⟩ = some (.bool t208) := (blk_cell BK210.out 4).trans rfl; have hfz43_0 := blk_frozen BK210.out 0; have hfz43_1 := blk_frozen BK210.out 1; have hfz43_2 := blk_frozen BK210.out 2; have hfz43_3 := blk_frozen BK210.out 3; have hfz43_4 := blk_frozen BK210.out 4; have hcz44_0 : w41.cell? ⟨gb209, 0, none⟩ = some (.int .i64 t202) := (blk_cell BK209.out 0).trans rfl; have hcz44_1 : w41.cell? ⟨gb209, 1, none⟩ = some (.int .i64 t203) := (blk_cell BK209.out 1).trans rfl; have hcz44_2 : w41.cell? ⟨gb209, 2, none⟩ = some (.int .i64 t204) := (blk_cell BK209.out 2).trans rfl; have hcz44_3 : w41.cell? ⟨gb209, 3, none⟩ = some (.slice Ao33 t205.length co33) := (blk_cell BK209.out 3).trans rfl; have hcz44_4 : w41.cell? ⟨gb209, 4, none⟩ = some (.bool t208) := (blk_cell BK209.out 4).trans rfl; have hfz44_0 := blk_frozen BK209.out 0; have hfz44_1 := blk_frozen BK209.out 1; have hfz44_2 := blk_frozen BK209.out 2; have hfz44_3 := blk_frozen BK209.out 3; have hfz44_4 := blk_frozen BK209.out 4) | ((with_reducible refine gate_dst (N := 5) rfl ?_); refine box_event ?hg (N := 5) ?hd (cs := #[.int .i64 0, .int .i64 0, .int .i64 0, .slice none 0 0, .bool false]) (t := 25) ?hr ?_; (case hd => rfl); (case hg => rfl); (case hr => first | (go_simp; done) | (go_simp; rfl)); intro gb221 hg w45 hbox hb; have n0_ := Aside0.mk (Kd.R_below (by (with_reducible repeat (first | apply Kd.R_alloc | apply Kd.R_drewN | apply Kd.R_drew)); exact (Kd.R_mono (Kd.R_far (p := ⟨gb210, 3, none⟩) (Kd.R_types HO207.out BK210.out (by decide)) (fun _ hk => hk.2) (.slice Ao42 y218.length co42)) (fun _ h_ => h_.1))) hb); have n1_ := Aside0.mk (Kd.R_below (by (with_reducible repeat (first | apply Kd.R_alloc | apply Kd.R_drewN | apply Kd.R_drew)); exact (Kd.R_mono (Kd.R_far (p := ⟨gb210, 3, none⟩) (Kd.R_types HO220.out BK210.out (by decide)) (fun _ hk => hk.2) (.slice Ao42 y218.length co42)) (fun _ h_ => h_.1))) hb); have n2_ := Aside0.mk (blk_below (g := gb209) (o := .cells #[.int .i64 t202, .int .i64 t203, .int .i64 t204, .slice Ao33 t205.length co33, .bool t208] 25 (0, 0)) (by (with_reducible repeat (first | refine blk_drewN ?_ _ | refine blk_drew ?_ | refine blk_alloc ?_ _)); refine blk_far ?_ NB209_210.out _; (with_reducible repeat (first | refine blk_drewN ?_ _ | refine blk_drew ?_ | refine blk_alloc ?_ _)); exact BK209.out) hb); have n3_ := Aside0.mk (blk_below (g := gb210) (o := .cells #[.int .i64 t202, .int .i64 t203, .int .i64 t204, .slice Ao42 y218.length co42, .bool t208] 25 (0, 0)) (by (with_reducible repeat (first | refine blk_drewN ?_ _ | refine blk_drew ?_ | refine blk_alloc ?_ _)); refine blk_put (cs := #[.int .i64 t202, .int .i64 t203, .int .i64 t204, .slice Ao33 t205.length co33, .bool t208]) ?_ 3 _ rfl; (with_reducible repeat (first | refine blk_drewN ?_ _ | refine blk_drew ?_ | refine blk_alloc ?_ _)); exact BK210.out) hb); have n4_ := Aside0.mk (below_step (by repeat (first | (with_reducible first | exact HB.out | apply below_alloc | apply pw_below_drewN | apply below_drew1 | refine below_set ?_ GE209.out | refine below_set ?_ GE210.out) | exact HB.out)) hb); have n5_ := Aside0.mk (hbox); have n6_ := Aside0.mk ((by rw [hg]; exact (below_size (by repeat (first | (with_reducible first | exact HB.out | apply below_alloc | apply pw_below_drewN | apply below_drew1 | refine below_set ?_ GE209.out | refine below_set ?_ GE210.out) | exact HB.out))) : w.heap.size ≤ gb221)); have n7_ := Aside0.mk ((by rw [hg]; exact (below_size (by repeat (first | (with_reducible first | exact HB.out | apply below_alloc | apply pw_below_drewN | apply below_drew1 | refine below_set ?_ GE209.out | refine below_set ?_ GE210.out) | exact HB.out))) : w.heap.size ≤ gb221)); have n8_ := Aside0.mk ((by rw [hg]; exact Nat.ne_of_lt (blk_lt (g := gb209) (o := .cells #[.int .i64 t202, .int .i64 t203, .int .i64 t204, .slice Ao33 t205.length co33, .bool t208] 25 (0, 0)) (by (with_reducible repeat (first | refine blk_drewN ?_ _ | refine blk_drew ?_ | refine blk_alloc ?_ _)); refine blk_far ?_ NB209_210.out _; (with_reducible repeat (first | refine blk_drewN ?_ _ | refine blk_drew ?_ | refine blk_alloc ?_ _)); exact BK209.out)) : gb209 ≠ gb221)); have n9_ := Aside0.mk ((by rw [hg]; exact Nat.ne_of_gt (blk_lt (g := gb209) (o := .cells #[.int .i64 t202, .int .i64 t203, .int .i64 t204, .slice Ao33 t205.length co33, .bool t208] 25 (0, 0)) (by (with_reducible repeat (first | refine blk_drewN ?_ _ | refine blk_drew ?_ | refine blk_alloc ?_ _)); refine blk_far ?_ NB209_210.out _; (with_reducible repeat (first | refine blk_drewN ?_ _ | refine blk_drew ?_ | refine blk_alloc ?_ _)); exact BK209.out)) : gb221 ≠ gb209)); have n10_ := Aside0.mk ((by rw [hg]; exact Nat.ne_of_lt (blk_lt (g := gb210) (o := .cells #[.int .i64 t202, .int .i64 t203, .int .i64 t204, .slice Ao42 y218.length co42, .bool t208] 25 (0, 0)) (by (with_reducible repeat (first | refine blk_drewN ?_ _ | refine blk_drew ?_ | refine blk_alloc ?_ _)); refine blk_put (cs := #[.int .i64 t202, .int .i64 t203, .int .i64 t204, .slice Ao33 t205.length co33, .bool t208]) ?_ 3 _ rfl; (with_reducible repeat (first | refine blk_drewN ?_ _ | refine blk_drew ?_ | refine blk_alloc ?_ _)); exact BK210.out)) : gb210 ≠ gb221)); have n11_ := Aside0.mk ((by rw [hg]; exact Nat.ne_of_gt (blk_lt (g := gb210) (o := .cells #[.int .i64 t202, .int .i64 t203, .int .i64 t204, .slice Ao42 y218.length co42, .bool t208] 25 (0, 0)) (by (with_reducible repeat (first | refine blk_drewN ?_ _ | refine blk_drew ?_ | refine blk_alloc ?_ _)); refine blk_put (cs := #[.int .i64 t202, .int .i64 t203, .int .i64 t204, .slice Ao33 t205.length co33, .bool t208]) ?_ 3 _ rfl; (with_reducible repeat (first | refine blk_drewN ?_ _ | refine blk_drew ?_ | refine blk_alloc ?_ _)); exact BK210.out)) : gb221 ≠ gb210)); clear HO207; clear HO220; clear BK209; clear BK210; clear HB; have HO207 := n0_; have HO220 := n1_; have BK209 := n2_; have BK210 := n3_; have HB := n4_; have BK221 := n5_; have GW221 := n6_; have GE221 := n7_; have NB209_221 := n8_; have NB221_209 := n9_; have NB210_221 := n10_; have NB221_210 := n11_; clear n0_ n1_ n2_ n3_ n4_ n5_ n6_ n7_ n8_ n9_ n10_ n11_; clear hb hbox hg; have hnb46 := NB221_209.out; have hnc46 := NB209_221.out; have hnb47 := NB221_210.out; have hnc47 := NB210_221.out; have hcz48_0 : w45.cell? ⟨gb221, 0, none⟩ = some (.int .i64 0) := (blk_cell BK221.out 0).trans rfl; have hcz48_1 : w45.cell? ⟨gb221, 1, none⟩ = some (.int .i64 0) := (blk_cell BK221.out 1).trans rfl; have hcz48_2 : w45.cell? ⟨gb221, 2, none⟩ = some (.int .i64 0) := (blk_cell BK221.out 2).trans rfl; have hcz48_3 : w45.cell? ⟨gb221, 3, none⟩ = some (.slice none 0 0) := (blk_cell BK221.out 3).trans rfl; have hcz48_4 : w45.cell? ⟨gb221, 4, none⟩ = some (.bool false) := (blk_cell BK221.out 4).trans rfl; have hfz48_0 := blk_frozen BK221.out 0; have hfz48_1 := blk_frozen BK221.out 1; have hfz48_2 := blk_frozen BK221.out 2; have hfz48_3 := blk_frozen BK221.out 3; have hfz48_4 := blk_frozen BK221.out 4))
                                have n0_ : Aside0 (Kd.R (Kd.int .i64) 3 (((((w45.setCell ⟨gb221, 0, none⟩ (.int .i64 t202)).setCell ⟨gb221, 1, none⟩ (.int .i64 t203)).setCell ⟨gb221, 2, none⟩ (.int .i64 t204)).setCell ⟨gb221, 3, none⟩ (.slice Ao33 t205.length co33)).setCell ⟨gb221, 4, none⟩ (.bool t208)) w.heap.size (fun k_ => some k_ ≠ (.slice Ao42 y218.length co42 : Value).ownBlock) (.slice Ao33 t205.length co33) t205) := ⟨by (with_reducible repeat (first | apply Kd.R_alloc | apply Kd.R_drewN | apply Kd.R_drew)); exact Kd.R_mono (Kd.R_far (p := ⟨gb221, 4, none⟩) (Kd.R_far (p := ⟨gb221, 3, none⟩) (Kd.R_far (p := ⟨gb221, 2, none⟩) (Kd.R_far (p := ⟨gb221, 1, none⟩) (Kd.R_far (p := ⟨gb221, 0, none⟩) (Kd.R_types HO207.out BK221.out (by decide)) (fun _ hk => hk.2) (.int .i64 t202)) (fun _ hk => hk.2) (.int .i64 t203)) (fun _ hk => hk.2) (.int .i64 t204)) (fun _ hk => hk.2) (.slice Ao33 t205.length co33)) (fun _ hk => hk.2) (.bool t208)) (fun _ hk => hk.1.2)⟩
                                have n1_ : Aside0 (Kd.R (Kd.int .i64) 3 (((((w45.setCell ⟨gb221, 0, none⟩ (.int .i64 t202)).setCell ⟨gb221, 1, none⟩ (.int .i64 t203)).setCell ⟨gb221, 2, none⟩ (.int .i64 t204)).setCell ⟨gb221, 3, none⟩ (.slice Ao33 t205.length co33)).setCell ⟨gb221, 4, none⟩ (.bool t208)) w.heap.size (fun k_ => some k_ ≠ (.slice Ao33 t205.length co33 : Value).ownBlock) (.slice Ao42 y218.length co42) y218) := ⟨by (with_reducible repeat (first | apply Kd.R_alloc | apply Kd.R_drewN | apply Kd.R_drew)); exact Kd.R_mono (Kd.R_far (p := ⟨gb221, 4, none⟩) (Kd.R_far (p := ⟨gb221, 3, none⟩) (Kd.R_far (p := ⟨gb221, 2, none⟩) (Kd.R_far (p := ⟨gb221, 1, none⟩) (Kd.R_far (p := ⟨gb221, 0, none⟩) (Kd.R_types HO220.out BK221.out (by decide)) (fun _ hk => hk.2) (.int .i64 t202)) (fun _ hk => hk.2) (.int .i64 t203)) (fun _ hk => hk.2) (.int .i64 t204)) (fun _ hk => hk.2) (.slice Ao33 t205.length co33)) (fun _ hk => hk.2) (.bool t208)) (fun _ hk => hk.1)⟩
                                have n2_ : Aside0 ((((((w45.setCell ⟨gb221, 0, none⟩ (.int .i64 t202)).setCell ⟨gb221, 1, none⟩ (.int .i64 t203)).setCell ⟨gb221, 2, none⟩ (.int .i64 t204)).setCell ⟨gb221, 3, none⟩ (.slice Ao33 t205.length co33)).setCell ⟨gb221, 4, none⟩ (.bool t208)).heap[gb209]? = some (.cells #[.int .i64 t202, .int .i64 t203, .int .i64 t204, .slice Ao33 t205.length co33, .bool t208] 25 (0, 0))) := ⟨by (with_reducible repeat (first | refine blk_drewN ?_ _ | refine blk_drew ?_ | refine blk_alloc ?_ _)); refine blk_far ?_ NB209_221.out _; (with_reducible repeat (first | refine blk_drewN ?_ _ | refine blk_drew ?_ | refine blk_alloc ?_ _)); refine blk_far ?_ NB209_221.out _; (with_reducible repeat (first | refine blk_drewN ?_ _ | refine blk_drew ?_ | refine blk_alloc ?_ _)); refine blk_far ?_ NB209_221.out _; (with_reducible repeat (first | refine blk_drewN ?_ _ | refine blk_drew ?_ | refine blk_alloc ?_ _)); refine blk_far ?_ NB209_221.out _; (with_reducible repeat (first | refine blk_drewN ?_ _ | refine blk_drew ?_ | refine blk_alloc ?_ _)); refine blk_far ?_ NB209_221.out _; (with_reducible repeat (first | refine blk_drewN ?_ _ | refine blk_drew ?_ | refine blk_alloc ?_ _)); exact BK209.out⟩
                                have n3_ : Aside0 ((((((w45.setCell ⟨gb221, 0, none⟩ (.int .i64 t202)).setCell ⟨gb221, 1, none⟩ (.int .i64 t203)).setCell ⟨gb221, 2, none⟩ (.int .i64 t204)).setCell ⟨gb221, 3, none⟩ (.slice Ao33 t205.length co33)).setCell ⟨gb221, 4, none⟩ (.bool t208)).heap[gb210]? = some (.cells #[.int .i64 t202, .int .i64 t203, .int .i64 t204, .slice Ao42 y218.length co42, .bool t208] 25 (0, 0))) := ⟨by (with_reducible repeat (first | refine blk_drewN ?_ _ | refine blk_drew ?_ | refine blk_alloc ?_ _)); refine blk_far ?_ NB210_221.out _; (with_reducible repeat (first | refine blk_drewN ?_ _ | refine blk_drew ?_ | refine blk_alloc ?_ _)); refine blk_far ?_ NB210_221.out _; (with_reducible repeat (first | refine blk_drewN ?_ _ | refine blk_drew ?_ | refine blk_alloc ?_ _)); refine blk_far ?_ NB210_221.out _; (with_reducible repeat (first | refine blk_drewN ?_ _ | refine blk_drew ?_ | refine blk_alloc ?_ _)); refine blk_far ?_ NB210_221.out _; (with_reducible repeat (first | refine blk_drewN ?_ _ | refine blk_drew ?_ | refine blk_alloc ?_ _)); refine blk_far ?_ NB210_221.out _; (with_reducible repeat (first | refine blk_drewN ?_ _ | refine blk_drew ?_ | refine blk_alloc ?_ _)); exact BK210.out⟩
                                have n4_ : Aside0 ((((((w45.setCell ⟨gb221, 0, none⟩ (.int .i64 t202)).setCell ⟨gb221, 1, none⟩ (.int .i64 t203)).setCell ⟨gb221, 2, none⟩ (.int .i64 t204)).setCell ⟨gb221, 3, none⟩ (.slice Ao33 t205.length co33)).setCell ⟨gb221, 4, none⟩ (.bool t208)).heap[gb221]? = some (.cells #[.int .i64 t202, .int .i64 t203, .int .i64 t204, .slice Ao33 t205.length co33, .bool t208] 25 (0, 0))) := ⟨by (with_reducible repeat (first | refine blk_drewN ?_ _ | refine blk_drew ?_ | refine blk_alloc ?_ _)); refine blk_put (cs := #[.int .i64 t202, .int .i64 t203, .int .i64 t204, .slice Ao33 t205.length co33, .bool false]) ?_ 4 _ rfl; (with_reducible repeat (first | refine blk_drewN ?_ _ | refine blk_drew ?_ | refine blk_alloc ?_ _)); refine blk_put (cs := #[.int .i64 t202, .int .i64 t203, .int .i64 t204, .slice none 0 0, .bool false]) ?_ 3 _ rfl; (with_reducible repeat (first | refine blk_drewN ?_ _ | refine blk_drew ?_ | refine blk_alloc ?_ _)); refine blk_put (cs := #[.int .i64 t202, .int .i64 t203, .int .i64 0, .slice none 0 0, .bool false]) ?_ 2 _ rfl; (with_reducible repeat (first | refine blk_drewN ?_ _ | refine blk_drew ?_ | refine blk_alloc ?_ _)); refine blk_put (cs := #[.int .i64 t202, .int .i64 0, .int .i64 0, .slice none 0 0, .bool false]) ?_ 1 _ rfl; (with_reducible repeat (first | refine blk_drewN ?_ _ | refine blk_drew ?_ | refine blk_alloc ?_ _)); refine blk_put (cs := #[.int .i64 0, .int .i64 0, .int .i64 0, .slice none 0 0, .bool false]) ?_ 0 _ rfl; (with_reducible repeat (first | refine blk_drewN ?_ _ | refine blk_drew ?_ | refine blk_alloc ?_ _)); exact BK221.out⟩
                                have n5_ : Aside0 (Below w.heap.size w (((((w45.setCell ⟨gb221, 0, none⟩ (.int .i64 t202)).setCell ⟨gb221, 1, none⟩ (.int .i64 t203)).setCell ⟨gb221, 2, none⟩ (.int .i64 t204)).setCell ⟨gb221, 3, none⟩ (.slice Ao33 t205.length co33)).setCell ⟨gb221, 4, none⟩ (.bool t208))) := ⟨by repeat (first | (with_reducible first | exact HB.out | apply below_alloc | apply pw_below_drewN | apply below_drew1 | refine below_set ?_ GE209.out | refine below_set ?_ GE210.out | refine below_set ?_ GE221.out) | exact HB.out)⟩
                                (try clear HO207)
                                (try clear HO220)
                                (try clear BK209)
                                (try clear BK210)
                                (try clear BK221)
                                (try clear HB)
                                generalize (((((w45.setCell ⟨gb221, 0, none⟩ (.int .i64 t202)).setCell ⟨gb221, 1, none⟩ (.int .i64 t203)).setCell ⟨gb221, 2, none⟩ (.int .i64 t204)).setCell ⟨gb221, 3, none⟩ (.slice Ao33 t205.length co33)).setCell ⟨gb221, 4, none⟩ (.bool t208)) = w49 at n0_ n1_ n2_ n3_ n4_ n5_ ⊢
                                have HO207 := n0_
                                have HO220 := n1_
                                have BK209 := n2_
                                have BK210 := n3_
                                have BK221 := n4_
                                have HB := n5_
                                clear n0_ n1_ n2_ n3_ n4_ n5_
                                have n0_ := Aside0.mk (Kd.R_drew HO207.out)
                                have n1_ := Aside0.mk (Kd.R_drew HO220.out)
                                have n2_ := Aside0.mk (blk_drew BK209.out)
                                have n3_ := Aside0.mk (blk_drew BK210.out)
                                have n4_ := Aside0.mk (blk_drew BK221.out)
                                have n5_ := Aside0.mk (below_drew1 HB.out)
                                clear HO207
                                clear HO220
                                clear BK209
                                clear BK210
                                clear BK221
                                clear HB
                                have HO207 := n0_
                                have HO220 := n1_
                                have BK209 := n2_
                                have BK210 := n3_
                                have BK221 := n4_
                                have HB := n5_
                                clear n0_ n1_ n2_ n3_ n4_ n5_
                                have p228 : 0 ≤ (0 : Int) := (by omega)
                                have q228 : 0 < (t205.length : Int) := of_decide_eq_true (by first | (with_reducible assumption) | assumption)
                                obtain ⟨ad228, e228, hx228_0⟩ := Kd.at_int (Kd.R_reads' HO207.out).2.2 0 p228 q228
                                cases e228
                                have qi228 : (0 < t205.length) = True := eq_true (by omega)
                                (try rw [show ((0 : Int)).toNat = 0 from rfl] at hx228_0)
                                (try rw [Addr.add_zero'] at hx228_0)
                                replace p228 := eq_true p228
                                replace q228 := eq_true q228
                                refine start_ (n := 12) (S := fun w' => w'.cell? ⟨gb209, 0, none⟩ = some (.int .i64 t202) ∧ w'.cell? ⟨gb209, 1, none⟩ = some (.int .i64 t203) ∧ w'.cell? ⟨gb209, 2, none⟩ = some (.int .i64 t204) ∧ w'.cell? ⟨gb209, 3, none⟩ = some (.slice (some ad228) t205.length co33) ∧ w'.cell? ⟨gb209, 4, none⟩ = some (.bool t208) ∧ w'.cell? ad228 = some (.int .i64 (rd t205 0))) (ds := []) #[false, false, false, false, false, false, false, false, false, false, false, false] (by kernel_rfl) rfl rfl ⟨(blk_cell BK209.out 0).trans rfl, (blk_cell BK209.out 1).trans rfl, (blk_cell BK209.out 2).trans rfl, (blk_cell BK209.out 3).trans rfl, (blk_cell BK209.out 4).trans rfl, hx228_0⟩ (fun hHeld => ?_); refine with_tabW laws_FnRules.tab7 laws_FnRules.bits7 (fun HT_ HW_ => ?_)
                                generalize w49.drew = w50 at HO207 HO220 BK209 BK210 BK221 HB hx228_0 hHeld ⊢
                                refine pure_ (i := 1) (N := some 25) (v := ?_) (a' := ?_) #[false, true, false, false, false, false, false, false, false, false, false, false] rfl rfl (any_of HT_.out (by kernel_rfl)) (fun _ _ _ h => h) (Or.inl ⟨by rfl, ?_⟩) ?_ ?_
                                rotate_left
                                · intro w'
                                  go_simp
                                  with_reducible rfl
                                rotate_left
                                · simp only [Act.put, List.setIfInBounds_toArray, List.set_cons_zero, List.set_cons_succ, i64_w, i32_w]
                                  rfl
                                refine pure_ (i := 4) (N := some 28) (v := ?_) (a' := ?_) #[false, true, false, false, true, false, false, false, false, false, false, false] rfl rfl (any_of HT_.out (by kernel_rfl)) (fun _ _ _ h => h) (Or.inl ⟨by rfl, ?_⟩) ?_ ?_
                                rotate_left
                                · intro w'
                                  go_simp
                                  with_reducible rfl
                                rotate_left
                                · simp only [Act.put, List.setIfInBounds_toArray, List.set_cons_zero, List.set_cons_succ, i64_w, i32_w]
                                  rfl
                                refine take_ (i := 2) (N := some 26) (v := ?_) (a' := ?_) #[false, true, true, false, true, false, false, false, false, false, false, false] rfl rfl (take_ofW HT_.out HW_.out (by kernel_rfl)) (fun _ _ _ h => h) (Or.inl ⟨by rfl, ?_⟩) hHeld ?_ ?_
                                rotate_left
                                · rintro w' ⟨s0, s1, s2, s3, s4, s5⟩
                                  go_simp
                                  with_reducible rfl
                                rotate_left
                                · simp only [Act.put, List.setIfInBounds_toArray, List.set_cons_zero, List.set_cons_succ, i64_w, i32_w]
                                  rfl
                                refine take_ (i := 5) (N := some 29) (v := ?_) (a' := ?_) #[false, true, true, false, true, true, false, false, false, false, false, false] rfl rfl (take_ofW HT_.out HW_.out (by kernel_rfl)) (fun _ _ _ h => h) (Or.inl ⟨by rfl, ?_⟩) hHeld ?_ ?_
                                rotate_left
                                · rintro w' ⟨s0, s1, s2, s3, s4, s5⟩
                                  go_simp
                                  with_reducible rfl
                                rotate_left
                                · simp only [Act.put, List.setIfInBounds_toArray, List.set_cons_zero, List.set_cons_succ, i64_w, i32_w]
                                  rfl
                                refine pure_ (i := 6) (N := some 30) (v := ?_) (a' := ?_) #[false, true, true, false, true, true, true, false, false, false, false, false] rfl rfl (any_of HT_.out (by kernel_rfl)) (fun _ _ _ h => h) (Or.inl ⟨by rfl, ?_⟩) ?_ ?_
                                rotate_left
                                · intro w'
                                  go_simp
                                  with_reducible rfl
                                rotate_left
                                · simp only [Act.put, List.setIfInBounds_toArray, List.set_cons_zero, List.set_cons_succ, i64_w, i32_w]
                                  rfl
                                refine take_ (i := 7) (N := some 31) (v := ?_) (a' := ?_) #[false, true, true, false, true, true, true, true, false, false, false, false] rfl rfl (take_ofW HT_.out HW_.out (by kernel_rfl)) (fun _ _ _ h => h) (Or.inl ⟨by rfl, ?_⟩) hHeld ?_ ?_
                                rotate_left
                                · rintro w' ⟨s0, s1, s2, s3, s4, s5⟩
                                  go_simp
                                  with_reducible rfl
                                rotate_left
                                · simp only [Act.put, List.setIfInBounds_toArray, List.set_cons_zero, List.set_cons_succ, i64_w, i32_w]
                                  rfl
                                refine join_ (σ := Value × Value × Value) 3 #[true, true, true, true, true, true, true, true, true, false, false, false] (fun s_ => [(24, s_.1), (27, s_.2.1), (32, s_.2.2)]) (fun s_ w' => (w'.cell? ⟨gb209, 0, none⟩ = some (.int .i64 t202) ∧ w'.cell? ⟨gb209, 1, none⟩ = some (.int .i64 t203) ∧ w'.cell? ⟨gb209, 2, none⟩ = some (.int .i64 t204) ∧ w'.cell? ⟨gb209, 3, none⟩ = some (.slice (some ad228) t205.length co33) ∧ w'.cell? ⟨gb209, 4, none⟩ = some (.bool t208) ∧ w'.cell? ad228 = some (.int .i64 (rd t205 0))) ∧ (Kd.R (Kd.int .i64) 3 w' w.heap.size (fun k_ => some k_ ≠ (.slice Ao42 y218.length co42 : Value).ownBlock ∧ some k_ ≠ (s_.2.1 : Value).ownBlock ∧ some k_ ≠ (s_.2.2 : Value).ownBlock) (.slice (some ad228) t205.length co33) t205) ∧ (Kd.R (Kd.int .i64) 3 w' w.heap.size (fun k_ => some k_ ≠ (.slice (some ad228) t205.length co33 : Value).ownBlock ∧ some k_ ≠ (s_.2.1 : Value).ownBlock ∧ some k_ ≠ (s_.2.2 : Value).ownBlock) (.slice Ao42 y218.length co42) y218) ∧ (Kd.R (Kd.int .i64) 3 w' w.heap.size (fun k_ => some k_ ≠ (.slice (some ad228) t205.length co33 : Value).ownBlock ∧ some k_ ≠ (.slice Ao42 y218.length co42 : Value).ownBlock ∧ some k_ ≠ (s_.2.2 : Value).ownBlock) s_.2.1 y225) ∧ (Kd.R (Kd.int .i64) 3 w' w.heap.size (fun k_ => some k_ ≠ (.slice (some ad228) t205.length co33 : Value).ownBlock ∧ some k_ ≠ (.slice Ao42 y218.length co42 : Value).ownBlock ∧ some k_ ≠ (s_.2.1 : Value).ownBlock) s_.2.2 y229) ∧ (w'.heap[gb209]? = some (.cells #[.int .i64 t202, .int .i64 t203, .int .i64 t204, .slice (some ad228) t205.length co33, .bool t208] 25 (0, 0))) ∧ (w'.heap[gb210]? = some (.cells #[.int .i64 t202, .int .i64 t203, .int .i64 t204, .slice Ao42 y218.length co42, .bool t208] 25 (0, 0))) ∧ (w'.heap[gb221]? = some (.cells #[.int .i64 t202, .int .i64 t203, .int .i64 t204, .slice (some ad228) t205.length co33, .bool t208] 25 (0, 0))) ∧ (Below w.heap.size w w')) ?_ ?_
                                rotate_left
                                · intro hCont
                                  refine two_ (i := 0) (j := 8) (Ni := some 24) (Nj := some 32) #[true, true, true, false, true, true, true, true, false, false, false, false] #[false, true, true, false, true, true, true, true, true, false, false, false] rfl rfl rfl rfl (two_of HT_.out (by kernel_rfl)) (by decide) (by decide) (fun K hK => ?_) (fun K hK => ?_)
                                  · skip
                                    refine Kd.R_lit_step (Kd.int .i64) _ 3 ?hg (N := 24) ?hd (xs := ([] : List Int)) (inner := []) (ok := fun _ => True) (okp := fun _ => True) ?hr ?hp (fun _ hk => hk) trivial (Below.refl _ _) (Nat.le_refl _) (by simp) ?_; (case hd => rfl); (case hg => rfl); (case hr => first | (go_simp; done) | (go_simp; rfl)); (case hp => exact (Reps.none _ _))
                                    intro v223 w51 ho52 hb hg_ hnew_
                                    have HS5_ := (hb.cell (World.block_lt_of_cell? _ _ (hHeld.2.2.2.2.2))).trans (hHeld.2.2.2.2.2)
                                    clear hg_ hnew_
                                    (first | rw [← Ny222.out] at ho52 | (simp only [Int.reduceToNat] at ho52; rw [← Ny222.out] at ho52))
                                    have n0_ := Aside0.mk (Kd.R_elder' (by (with_reducible repeat (first | apply Kd.R_alloc | apply Kd.R_drewN | apply Kd.R_drew)); exact HO207.out) (Kd.R_base ho52) hb)
                                    have n1_ := Aside0.mk (Kd.R_elder' (by (with_reducible repeat (first | apply Kd.R_alloc | apply Kd.R_drewN | apply Kd.R_drew)); exact HO220.out) (Kd.R_base ho52) hb)
                                    have n2_ := Aside0.mk (Kd.R_lower (Kd.R_new' (Kd.R_new' ho52 (Kd.R_lt (by (with_reducible repeat (first | apply Kd.R_alloc | apply Kd.R_drewN | apply Kd.R_drew)); exact HO207.out))) (Kd.R_lt (by (with_reducible repeat (first | apply Kd.R_alloc | apply Kd.R_drewN | apply Kd.R_drew)); exact HO220.out))) (below_size (by repeat (first | (with_reducible first | exact HB.out | apply below_alloc | apply pw_below_drewN | apply below_drew1 | refine below_set ?_ GE209.out | refine below_set ?_ GE210.out | refine below_set ?_ GE221.out) | exact HB.out))))
                                    have n3_ := Aside0.mk (blk_below (g := gb209) (o := .cells #[.int .i64 t202, .int .i64 t203, .int .i64 t204, .slice (some ad228) t205.length co33, .bool t208] 25 (0, 0)) (by (with_reducible repeat (first | refine blk_drewN ?_ _ | refine blk_drew ?_ | refine blk_alloc ?_ _)); exact BK209.out) hb)
                                    have n4_ := Aside0.mk (blk_below (g := gb210) (o := .cells #[.int .i64 t202, .int .i64 t203, .int .i64 t204, .slice Ao42 y218.length co42, .bool t208] 25 (0, 0)) (by (with_reducible repeat (first | refine blk_drewN ?_ _ | refine blk_drew ?_ | refine blk_alloc ?_ _)); exact BK210.out) hb)
                                    have n5_ := Aside0.mk (blk_below (g := gb221) (o := .cells #[.int .i64 t202, .int .i64 t203, .int .i64 t204, .slice (some ad228) t205.length co33, .bool t208] 25 (0, 0)) (by (with_reducible repeat (first | refine blk_drewN ?_ _ | refine blk_drew ?_ | refine blk_alloc ?_ _)); exact BK221.out) hb)
                                    have n6_ := Aside0.mk (below_step (by repeat (first | (with_reducible first | exact HB.out | apply below_alloc | apply pw_below_drewN | apply below_drew1 | refine below_set ?_ GE209.out | refine below_set ?_ GE210.out | refine below_set ?_ GE221.out) | exact HB.out)) hb)
                                    clear HO207
                                    clear HO220
                                    clear BK209
                                    clear BK210
                                    clear BK221
                                    clear HB
                                    have HO207 := n0_
                                    have HO220 := n1_
                                    have HO224 := n2_
                                    have BK209 := n3_
                                    have BK210 := n4_
                                    have BK221 := n5_
                                    have HB := n6_
                                    clear n0_ n1_ n2_ n3_ n4_ n5_ n6_
                                    clear hb ho52
                                    refine hK.out _ _ ⟨(blk_cell BK209.out 0).trans rfl, (blk_cell BK209.out 1).trans rfl, (blk_cell BK209.out 2).trans rfl, (blk_cell BK209.out 3).trans rfl, (blk_cell BK209.out 4).trans rfl, HS5_⟩ (fun hHeld => ?_)
                                    clear hK K
                                    refine norm_ (a' := ?_) ?_ ?_
                                    rotate_left
                                    · show Act.put _ (some 24) _ = _
                                      simp only [Act.put, List.setIfInBounds_toArray, List.set_cons_zero, List.set_cons_succ, i64_w, i32_w]
                                      rfl
                                    refine two_ (i := 3) (j := 8) (Ni := some 27) (Nj := some 32) #[true, true, true, true, true, true, true, true, false, false, false, false] #[true, true, true, false, true, true, true, true, true, false, false, false] rfl rfl rfl rfl (two_of HT_.out (by kernel_rfl)) (by decide) (by decide) (fun K hK => ?_) (fun K hK => ?_)
                                    · skip
                                      refine Kd.R_append_rows_step (Kd.int .i64) (w0 := w) w.heap.size (by rfl) (.tmp 24) (.tmp 26) 23 3 (.int .i64 0) 8 rfl Try.underlying23 info3 rfl (by decide) (by omega) v223 y222 t205 _ _ _ (fun k_ => some k_ ≠ (.slice (some ad228) t205.length co33 : Value).ownBlock ∧ some k_ ≠ (.slice Ao42 y218.length co42 : Value).ownBlock) (fun _ => False) rfl rfl ?aO ?aR (fun _ _ h => h) (fun _ h => h.elim) ?aF ?aB ?aS ?aL ?_
                                      (case aR => repeat (first | exact (Kd.R_reads' HO207.out).2.2 | (with_reducible refine Kd.C_alloc ?_ _) | (with_reducible refine Kd.C_drewN ?_ _) | (with_reducible refine Kd.C_drew ?_)))
                                      (case aB => exact (by repeat (first | (with_reducible first | exact HB.out | apply below_alloc | apply pw_below_drewN | apply below_drew1 | refine below_set ?_ GE209.out | refine below_set ?_ GE210.out | refine below_set ?_ GE221.out) | exact HB.out)))
                                      (case aF => exact (fun k_ hk => ⟨Kd.fresh' (Kd.R_lt (by (with_reducible repeat (first | apply Kd.R_alloc | apply Kd.R_drewN | apply Kd.R_drew)); exact HO207.out)) k_ hk, Kd.fresh' (Kd.R_lt (by (with_reducible repeat (first | apply Kd.R_alloc | apply Kd.R_drewN | apply Kd.R_drew)); exact HO220.out)) k_ hk⟩))
                                      (case aO => exact (by (with_reducible repeat (first | apply Kd.R_alloc | apply Kd.R_drewN | apply Kd.R_drew)); exact Kd.R_mono HO224.out (fun _ hk => ⟨hk.1.2, hk.2⟩)))
                                      (case aS => exact (below_size (by repeat (first | (with_reducible first | exact HB.out | apply below_alloc | apply pw_below_drewN | apply below_drew1 | refine below_set ?_ GE209.out | refine below_set ?_ GE210.out | refine below_set ?_ GE221.out) | exact HB.out))))
                                      (case aL => have := LMc8.out; omega)
                                      intro v226 w53 ho hb hg hat
                                      have HS5_ := cell_grown hg (hHeld.2.2.2.2.2) (by (try rw [add_block]); intro e_; have h_ := HO224.out.1 _ e_.symm; first | exact h_.1 rfl | exact h_.2 rfl | exact h_.1.1 rfl | exact h_.1.2 rfl | exact h_.2.1 rfl | exact h_.2.2 rfl | exact h_.1.1.1 rfl | exact h_.1.1.2 rfl)
                                      rw [← Ny225.out] at ho
                                      have n0_ := Aside0.mk (Kd.R_after (ok := (fun k_ => some k_ ≠ (.slice Ao42 y218.length co42 : Value).ownBlock)) (by (with_reducible repeat (first | apply Kd.R_alloc | apply Kd.R_drewN | apply Kd.R_drew)); exact HO207.out) hg hat)
                                      have n1_ := Aside0.mk (blk_grown (g := gb209) (o := .cells #[.int .i64 t202, .int .i64 t203, .int .i64 t204, .slice (some ad228) t205.length co33, .bool t208] 25 (0, 0)) (by (with_reducible repeat (first | refine blk_drewN ?_ _ | refine blk_drew ?_ | refine blk_alloc ?_ _)); exact BK209.out) hg (Kd.R_ne HO224.out BK209.out (by decide)))
                                      have n2_ := Aside0.mk (blk_grown (g := gb210) (o := .cells #[.int .i64 t202, .int .i64 t203, .int .i64 t204, .slice Ao42 y218.length co42, .bool t208] 25 (0, 0)) (by (with_reducible repeat (first | refine blk_drewN ?_ _ | refine blk_drew ?_ | refine blk_alloc ?_ _)); exact BK210.out) hg (Kd.R_ne HO224.out BK210.out (by decide)))
                                      have n3_ := Aside0.mk (Kd.R_after (ok := (fun k_ => some k_ ≠ (.slice (some ad228) t205.length co33 : Value).ownBlock)) (by (with_reducible repeat (first | apply Kd.R_alloc | apply Kd.R_drewN | apply Kd.R_drew)); exact HO220.out) hg hat)
                                      have n4_ := Aside0.mk (blk_grown (g := gb221) (o := .cells #[.int .i64 t202, .int .i64 t203, .int .i64 t204, .slice (some ad228) t205.length co33, .bool t208] 25 (0, 0)) (by (with_reducible repeat (first | refine blk_drewN ?_ _ | refine blk_drew ?_ | refine blk_alloc ?_ _)); exact BK221.out) hg (Kd.R_ne HO224.out BK221.out (by decide)))
                                      have n5_ := Aside0.mk (hb)
                                      have n6_ := Aside0.mk (ho)
                                      clear HO207
                                      clear BK209
                                      clear BK210
                                      clear HO220
                                      clear BK221
                                      clear HB
                                      clear HO224
                                      have HO207 := n0_
                                      have BK209 := n1_
                                      have BK210 := n2_
                                      have HO220 := n3_
                                      have BK221 := n4_
                                      have HB := n5_
                                      have HO227 := n6_
                                      clear n0_ n1_ n2_ n3_ n4_ n5_ n6_
                                      clear ho hb hg hat
                                      refine hK.out _ _ ⟨(blk_cell BK209.out 0).trans rfl, (blk_cell BK209.out 1).trans rfl, (blk_cell BK209.out 2).trans rfl, (blk_cell BK209.out 3).trans rfl, (blk_cell BK209.out 4).trans rfl, HS5_⟩ (fun hHeld => ?_)
                                      clear hK K
                                      refine norm_ (a' := ?_) ?_ ?_
                                      rotate_left
                                      · show Act.put _ (some 27) _ = _
                                        simp only [Act.put, List.setIfInBounds_toArray, List.set_cons_zero, List.set_cons_succ, i64_w, i32_w]
                                        rfl
                                      refine one_ (i := 8) (N := some 32) #[true, true, true, true, true, true, true, true, true, false, false, false] rfl rfl (one_of HT_.out (by kernel_rfl)) (by decide) (fun K hK => ?_)
                                      refine Kd.R_lit_step (Kd.int .i64) _ 3 ?hg (N := 32) ?hd (xs := ([rd t205 0] : List Int)) (inner := [.int .i64 (rd t205 0)]) (ok := fun _ => True) (okp := fun _ => True) ?hr ?hp (fun _ hk => hk) trivial (Below.refl _ _) (Nat.le_refl _) (by simp) ?_; (case hd => rfl); (case hg => rfl); (case hr => first | (go_simp; done) | (go_simp; rfl)); (case hp => exact (Reps.one (show Kd.M (Kd.int .i64) _ _ _ (rd t205 0) [.int .i64 (rd t205 0)] from rfl) (Reps.none _ _)))
                                      intro v230 w54 ho55 hb hg_ hnew_
                                      have HS5_ := (hb.cell (World.block_lt_of_cell? _ _ (hHeld.2.2.2.2.2))).trans (hHeld.2.2.2.2.2)
                                      clear hg_ hnew_
                                      (first | rw [← Ny229.out] at ho55 | (simp only [Int.reduceToNat] at ho55; rw [← Ny229.out] at ho55))
                                      have n0_ := Aside0.mk (Kd.R_elder' (by (with_reducible repeat (first | apply Kd.R_alloc | apply Kd.R_drewN | apply Kd.R_drew)); exact HO207.out) (Kd.R_base ho55) hb)
                                      have n1_ := Aside0.mk (Kd.R_elder' (by (with_reducible repeat (first | apply Kd.R_alloc | apply Kd.R_drewN | apply Kd.R_drew)); exact HO220.out) (Kd.R_base ho55) hb)
                                      have n2_ := Aside0.mk (Kd.R_elder' (by (with_reducible repeat (first | apply Kd.R_alloc | apply Kd.R_drewN | apply Kd.R_drew)); exact HO227.out) (Kd.R_base ho55) hb)
                                      have n3_ := Aside0.mk (Kd.R_lower (Kd.R_new' (Kd.R_new' (Kd.R_new' ho55 (Kd.R_lt (by (with_reducible repeat (first | apply Kd.R_alloc | apply Kd.R_drewN | apply Kd.R_drew)); exact HO207.out))) (Kd.R_lt (by (with_reducible repeat (first | apply Kd.R_alloc | apply Kd.R_drewN | apply Kd.R_drew)); exact HO220.out))) (Kd.R_lt (by (with_reducible repeat (first | apply Kd.R_alloc | apply Kd.R_drewN | apply Kd.R_drew)); exact HO227.out))) (below_size (by repeat (first | (with_reducible first | exact HB.out | apply below_alloc | apply pw_below_drewN | apply below_drew1 | refine below_set ?_ GE209.out | refine below_set ?_ GE210.out | refine below_set ?_ GE221.out) | exact HB.out))))
                                      have n4_ := Aside0.mk (blk_below (g := gb209) (o := .cells #[.int .i64 t202, .int .i64 t203, .int .i64 t204, .slice (some ad228) t205.length co33, .bool t208] 25 (0, 0)) (by (with_reducible repeat (first | refine blk_drewN ?_ _ | refine blk_drew ?_ | refine blk_alloc ?_ _)); exact BK209.out) hb)
                                      have n5_ := Aside0.mk (blk_below (g := gb210) (o := .cells #[.int .i64 t202, .int .i64 t203, .int .i64 t204, .slice Ao42 y218.length co42, .bool t208] 25 (0, 0)) (by (with_reducible repeat (first | refine blk_drewN ?_ _ | refine blk_drew ?_ | refine blk_alloc ?_ _)); exact BK210.out) hb)
                                      have n6_ := Aside0.mk (blk_below (g := gb221) (o := .cells #[.int .i64 t202, .int .i64 t203, .int .i64 t204, .slice (some ad228) t205.length co33, .bool t208] 25 (0, 0)) (by (with_reducible repeat (first | refine blk_drewN ?_ _ | refine blk_drew ?_ | refine blk_alloc ?_ _)); exact BK221.out) hb)
                                      have n7_ := Aside0.mk (below_step (by repeat (first | (with_reducible first | exact HB.out | apply below_alloc | apply pw_below_drewN | apply below_drew1 | refine below_set ?_ GE209.out | refine below_set ?_ GE210.out | refine below_set ?_ GE221.out) | exact HB.out)) hb)
                                      clear HO207
                                      clear HO220
                                      clear HO227
                                      clear BK209
                                      clear BK210
                                      clear BK221
                                      clear HB
                                      have HO207 := n0_
                                      have HO220 := n1_
                                      have HO227 := n2_
                                      have HO231 := n3_
                                      have BK209 := n4_
                                      have BK210 := n5_
                                      have BK221 := n6_
                                      have HB := n7_
                                      clear n0_ n1_ n2_ n3_ n4_ n5_ n6_ n7_
                                      clear hb ho55
                                      refine hK.out _ _ ⟨(blk_cell BK209.out 0).trans rfl, (blk_cell BK209.out 1).trans rfl, (blk_cell BK209.out 2).trans rfl, (blk_cell BK209.out 3).trans rfl, (blk_cell BK209.out 4).trans rfl, HS5_⟩ (fun hHeld => ?_)
                                      clear hK K
                                      refine norm_ (a' := ?_) ?_ ?_
                                      rotate_left
                                      · show Act.put _ (some 32) _ = _
                                        simp only [Act.put, List.setIfInBounds_toArray, List.set_cons_zero, List.set_cons_succ, i64_w, i32_w]
                                        rfl
                                      exact norm_ (by simp only [putAll, Act.put, List.setIfInBounds_toArray, List.set_cons_zero, List.set_cons_succ]) (hCont (v223, v226, v230) _ ⟨hHeld, (by (with_reducible repeat (first | apply Kd.R_alloc | apply Kd.R_drewN | apply Kd.R_drew)); exact Kd.R_mono HO207.out (fun _ hk => ⟨hk.1.1, ⟨hk.1.2, hk.2⟩⟩)), (by (with_reducible repeat (first | apply Kd.R_alloc | apply Kd.R_drewN | apply Kd.R_drew)); exact Kd.R_mono HO220.out (fun _ hk => ⟨hk.1.1, ⟨hk.1.2, hk.2⟩⟩)), (by (with_reducible repeat (first | apply Kd.R_alloc | apply Kd.R_drewN | apply Kd.R_drew)); exact Kd.R_mono HO227.out (fun _ hk => ⟨hk.1.1, ⟨hk.1.2, hk.2⟩⟩)), (by (with_reducible repeat (first | apply Kd.R_alloc | apply Kd.R_drewN | apply Kd.R_drew)); exact Kd.R_mono HO231.out (fun _ hk => ⟨hk.1.1.2, ⟨hk.1.2, hk.2⟩⟩)), (by (with_reducible repeat (first | refine blk_drewN ?_ _ | refine blk_drew ?_ | refine blk_alloc ?_ _)); exact BK209.out), (by (with_reducible repeat (first | refine blk_drewN ?_ _ | refine blk_drew ?_ | refine blk_alloc ?_ _)); exact BK210.out), (by (with_reducible repeat (first | refine blk_drewN ?_ _ | refine blk_drew ?_ | refine blk_alloc ?_ _)); exact BK221.out), (by repeat (first | (with_reducible first | exact HB.out | apply below_alloc | apply pw_below_drewN | apply below_drew1 | refine below_set ?_ GE209.out | refine below_set ?_ GE210.out | refine below_set ?_ GE221.out) | exact HB.out))⟩)
                                    · skip
                                      refine Kd.R_lit_step (Kd.int .i64) _ 3 ?hg (N := 32) ?hd (xs := ([rd t205 0] : List Int)) (inner := [.int .i64 (rd t205 0)]) (ok := fun _ => True) (okp := fun _ => True) ?hr ?hp (fun _ hk => hk) trivial (Below.refl _ _) (Nat.le_refl _) (by simp) ?_; (case hd => rfl); (case hg => rfl); (case hr => first | (go_simp; done) | (go_simp; rfl)); (case hp => exact (Reps.one (show Kd.M (Kd.int .i64) _ _ _ (rd t205 0) [.int .i64 (rd t205 0)] from rfl) (Reps.none _ _)))
                                      intro v230 w53 ho54 hb hg_ hnew_
                                      have HS5_ := (hb.cell (World.block_lt_of_cell? _ _ (hHeld.2.2.2.2.2))).trans (hHeld.2.2.2.2.2)
                                      clear hg_ hnew_
                                      (first | rw [← Ny229.out] at ho54 | (simp only [Int.reduceToNat] at ho54; rw [← Ny229.out] at ho54))
                                      have n0_ := Aside0.mk (Kd.R_elder' (by (with_reducible repeat (first | apply Kd.R_alloc | apply Kd.R_drewN | apply Kd.R_drew)); exact HO207.out) (Kd.R_base ho54) hb)
                                      have n1_ := Aside0.mk (Kd.R_elder' (by (with_reducible repeat (first | apply Kd.R_alloc | apply Kd.R_drewN | apply Kd.R_drew)); exact HO220.out) (Kd.R_base ho54) hb)
                                      have n2_ := Aside0.mk (Kd.R_elder' (by (with_reducible repeat (first | apply Kd.R_alloc | apply Kd.R_drewN | apply Kd.R_drew)); exact HO224.out) (Kd.R_base ho54) hb)
                                      have n3_ := Aside0.mk (Kd.R_lower (Kd.R_new' (Kd.R_new' (Kd.R_new' ho54 (Kd.R_lt (by (with_reducible repeat (first | apply Kd.R_alloc | apply Kd.R_drewN | apply Kd.R_drew)); exact HO207.out))) (Kd.R_lt (by (with_reducible repeat (first | apply Kd.R_alloc | apply Kd.R_drewN | apply Kd.R_drew)); exact HO220.out))) (Kd.R_lt (by (with_reducible repeat (first | apply Kd.R_alloc | apply Kd.R_drewN | apply Kd.R_drew)); exact HO224.out))) (below_size (by repeat (first | (with_reducible first | exact HB.out | apply below_alloc | apply pw_below_drewN | apply below_drew1 | refine below_set ?_ GE209.out | refine below_set ?_ GE210.out | refine below_set ?_ GE221.out) | exact HB.out))))
                                      have n4_ := Aside0.mk (blk_below (g := gb209) (o := .cells #[.int .i64 t202, .int .i64 t203, .int .i64 t204, .slice (some ad228) t205.length co33, .bool t208] 25 (0, 0)) (by (with_reducible repeat (first | refine blk_drewN ?_ _ | refine blk_drew ?_ | refine blk_alloc ?_ _)); exact BK209.out) hb)
                                      have n5_ := Aside0.mk (blk_below (g := gb210) (o := .cells #[.int .i64 t202, .int .i64 t203, .int .i64 t204, .slice Ao42 y218.length co42, .bool t208] 25 (0, 0)) (by (with_reducible repeat (first | refine blk_drewN ?_ _ | refine blk_drew ?_ | refine blk_alloc ?_ _)); exact BK210.out) hb)
                                      have n6_ := Aside0.mk (blk_below (g := gb221) (o := .cells #[.int .i64 t202, .int .i64 t203, .int .i64 t204, .slice (some ad228) t205.length co33, .bool t208] 25 (0, 0)) (by (with_reducible repeat (first | refine blk_drewN ?_ _ | refine blk_drew ?_ | refine blk_alloc ?_ _)); exact BK221.out) hb)
                                      have n7_ := Aside0.mk (below_step (by repeat (first | (with_reducible first | exact HB.out | apply below_alloc | apply pw_below_drewN | apply below_drew1 | refine below_set ?_ GE209.out | refine below_set ?_ GE210.out | refine below_set ?_ GE221.out) | exact HB.out)) hb)
                                      clear HO207
                                      clear HO220
                                      clear HO224
                                      clear BK209
                                      clear BK210
                                      clear BK221
                                      clear HB
                                      have HO207 := n0_
                                      have HO220 := n1_
                                      have HO224 := n2_
                                      have HO231 := n3_
                                      have BK209 := n4_
                                      have BK210 := n5_
                                      have BK221 := n6_
                                      have HB := n7_
                                      clear n0_ n1_ n2_ n3_ n4_ n5_ n6_ n7_
                                      clear hb ho54
                                      refine hK.out _ _ ⟨(blk_cell BK209.out 0).trans rfl, (blk_cell BK209.out 1).trans rfl, (blk_cell BK209.out 2).trans rfl, (blk_cell BK209.out 3).trans rfl, (blk_cell BK209.out 4).trans rfl, HS5_⟩ (fun hHeld => ?_)
                                      clear hK K
                                      refine norm_ (a' := ?_) ?_ ?_
                                      rotate_left
                                      · show Act.put _ (some 32) _ = _
                                        simp only [Act.put, List.setIfInBounds_toArray, List.set_cons_zero, List.set_cons_succ, i64_w, i32_w]
                                        rfl
                                      refine one_ (i := 3) (N := some 27) #[true, true, true, true, true, true, true, true, true, false, false, false] rfl rfl (one_of HT_.out (by kernel_rfl)) (by decide) (fun K hK => ?_)
                                      refine Kd.R_append_rows_step (Kd.int .i64) (w0 := w) w.heap.size (by rfl) (.tmp 24) (.tmp 26) 23 3 (.int .i64 0) 8 rfl Try.underlying23 info3 rfl (by decide) (by omega) v223 y222 t205 _ _ _ (fun k_ => some k_ ≠ (.slice (some ad228) t205.length co33 : Value).ownBlock ∧ some k_ ≠ (.slice Ao42 y218.length co42 : Value).ownBlock ∧ some k_ ≠ (v230 : Value).ownBlock) (fun _ => False) rfl rfl ?aO ?aR (fun _ _ h => h) (fun _ h => h.elim) ?aF ?aB ?aS ?aL ?_
                                      (case aR => repeat (first | exact (Kd.R_reads' HO207.out).2.2 | (with_reducible refine Kd.C_alloc ?_ _) | (with_reducible refine Kd.C_drewN ?_ _) | (with_reducible refine Kd.C_drew ?_)))
                                      (case aB => exact (by repeat (first | (with_reducible first | exact HB.out | apply below_alloc | apply pw_below_drewN | apply below_drew1 | refine below_set ?_ GE209.out | refine below_set ?_ GE210.out | refine below_set ?_ GE221.out) | exact HB.out)))
                                      (case aF => exact (fun k_ hk => ⟨Kd.fresh' (Kd.R_lt (by (with_reducible repeat (first | apply Kd.R_alloc | apply Kd.R_drewN | apply Kd.R_drew)); exact HO207.out)) k_ hk, Kd.fresh' (Kd.R_lt (by (with_reducible repeat (first | apply Kd.R_alloc | apply Kd.R_drewN | apply Kd.R_drew)); exact HO220.out)) k_ hk, Kd.fresh' (Kd.R_lt (by (with_reducible repeat (first | apply Kd.R_alloc | apply Kd.R_drewN | apply Kd.R_drew)); exact HO231.out)) k_ hk⟩))
                                      (case aO => exact (by (with_reducible repeat (first | apply Kd.R_alloc | apply Kd.R_drewN | apply Kd.R_drew)); exact Kd.R_mono HO224.out (fun _ hk => ⟨hk.1.1.2, ⟨hk.1.2, hk.2⟩⟩)))
                                      (case aS => exact (below_size (by repeat (first | (with_reducible first | exact HB.out | apply below_alloc | apply pw_below_drewN | apply below_drew1 | refine below_set ?_ GE209.out | refine below_set ?_ GE210.out | refine below_set ?_ GE221.out) | exact HB.out))))
                                      (case aL => have := LMc8.out; omega)
                                      intro v226 w55 ho hb hg hat
                                      have HS5_ := cell_grown hg (hHeld.2.2.2.2.2) (by (try rw [add_block]); intro e_; have h_ := HO224.out.1 _ e_.symm; first | exact h_.1 rfl | exact h_.2 rfl | exact h_.1.1 rfl | exact h_.1.2 rfl | exact h_.2.1 rfl | exact h_.2.2 rfl | exact h_.1.1.1 rfl | exact h_.1.1.2 rfl)
                                      rw [← Ny225.out] at ho
                                      have n0_ := Aside0.mk (Kd.R_after (ok := (fun k_ => some k_ ≠ (.slice Ao42 y218.length co42 : Value).ownBlock ∧ some k_ ≠ (v230 : Value).ownBlock)) (by (with_reducible repeat (first | apply Kd.R_alloc | apply Kd.R_drewN | apply Kd.R_drew)); exact Kd.R_mono HO207.out (fun _ hk => ⟨⟨hk.1.1, hk.2⟩, hk.1.2⟩)) hg hat)
                                      have n1_ := Aside0.mk (blk_grown (g := gb209) (o := .cells #[.int .i64 t202, .int .i64 t203, .int .i64 t204, .slice (some ad228) t205.length co33, .bool t208] 25 (0, 0)) (by (with_reducible repeat (first | refine blk_drewN ?_ _ | refine blk_drew ?_ | refine blk_alloc ?_ _)); exact BK209.out) hg (Kd.R_ne HO224.out BK209.out (by decide)))
                                      have n2_ := Aside0.mk (blk_grown (g := gb210) (o := .cells #[.int .i64 t202, .int .i64 t203, .int .i64 t204, .slice Ao42 y218.length co42, .bool t208] 25 (0, 0)) (by (with_reducible repeat (first | refine blk_drewN ?_ _ | refine blk_drew ?_ | refine blk_alloc ?_ _)); exact BK210.out) hg (Kd.R_ne HO224.out BK210.out (by decide)))
                                      have n3_ := Aside0.mk (Kd.R_after (ok := (fun k_ => some k_ ≠ (.slice (some ad228) t205.length co33 : Value).ownBlock ∧ some k_ ≠ (v230 : Value).ownBlock)) (by (with_reducible repeat (first | apply Kd.R_alloc | apply Kd.R_drewN | apply Kd.R_drew)); exact Kd.R_mono HO220.out (fun _ hk => ⟨⟨hk.1.1, hk.2⟩, hk.1.2⟩)) hg hat)
                                      have n4_ := Aside0.mk (blk_grown (g := gb221) (o := .cells #[.int .i64 t202, .int .i64 t203, .int .i64 t204, .slice (some ad228) t205.length co33, .bool t208] 25 (0, 0)) (by (with_reducible repeat (first | refine blk_drewN ?_ _ | refine blk_drew ?_ | refine blk_alloc ?_ _)); exact BK221.out) hg (Kd.R_ne HO224.out BK221.out (by decide)))
                                      have n5_ := Aside0.mk (Kd.R_after (ok := (fun k_ => some k_ ≠ (.slice (some ad228) t205.length co33 : Value).ownBlock ∧ some k_ ≠ (.slice Ao42 y218.length co42 : Value).ownBlock)) (by (with_reducible repeat (first | apply Kd.R_alloc | apply Kd.R_drewN | apply Kd.R_drew)); exact Kd.R_mono HO231.out (fun _ hk => ⟨⟨hk.1.1.2, hk.1.2⟩, hk.2⟩)) hg hat)
                                      have n6_ := Aside0.mk (hb)
                                      have n7_ := Aside0.mk (ho)
                                      clear HO207
                                      clear BK209
                                      clear BK210
                                      clear HO220
                                      clear BK221
                                      clear HO231
                                      clear HB
                                      clear HO224
                                      have HO207 := n0_
                                      have BK209 := n1_
                                      have BK210 := n2_
                                      have HO220 := n3_
                                      have BK221 := n4_
                                      have HO231 := n5_
                                      have HB := n6_
                                      have HO227 := n7_
                                      clear n0_ n1_ n2_ n3_ n4_ n5_ n6_ n7_
                                      clear ho hb hg hat
                                      refine hK.out _ _ ⟨(blk_cell BK209.out 0).trans rfl, (blk_cell BK209.out 1).trans rfl, (blk_cell BK209.out 2).trans rfl, (blk_cell BK209.out 3).trans rfl, (blk_cell BK209.out 4).trans rfl, HS5_⟩ (fun hHeld => ?_)
                                      clear hK K
                                      refine norm_ (a' := ?_) ?_ ?_
                                      rotate_left
                                      · show Act.put _ (some 27) _ = _
                                        simp only [Act.put, List.setIfInBounds_toArray, List.set_cons_zero, List.set_cons_succ, i64_w, i32_w]
                                        rfl
                                      exact norm_ (by simp only [putAll, Act.put, List.setIfInBounds_toArray, List.set_cons_zero, List.set_cons_succ]) (hCont (v223, v226, v230) _ ⟨hHeld, (by (with_reducible repeat (first | apply Kd.R_alloc | apply Kd.R_drewN | apply Kd.R_drew)); exact Kd.R_mono HO207.out (fun _ hk => ⟨hk.1.1, ⟨hk.2, hk.1.2⟩⟩)), (by (with_reducible repeat (first | apply Kd.R_alloc | apply Kd.R_drewN | apply Kd.R_drew)); exact Kd.R_mono HO220.out (fun _ hk => ⟨hk.1.1, ⟨hk.2, hk.1.2⟩⟩)), (by (with_reducible repeat (first | apply Kd.R_alloc | apply Kd.R_drewN | apply Kd.R_drew)); exact HO227.out), (by (with_reducible repeat (first | apply Kd.R_alloc | apply Kd.R_drewN | apply Kd.R_drew)); exact Kd.R_mono HO231.out (fun _ hk => ⟨hk.1.1, ⟨hk.1.2, hk.2⟩⟩)), (by (with_reducible repeat (first | refine blk_drewN ?_ _ | refine blk_drew ?_ | refine blk_alloc ?_ _)); exact BK209.out), (by (with_reducible repeat (first | refine blk_drewN ?_ _ | refine blk_drew ?_ | refine blk_alloc ?_ _)); exact BK210.out), (by (with_reducible repeat (first | refine blk_drewN ?_ _ | refine blk_drew ?_ | refine blk_alloc ?_ _)); exact BK221.out), (by repeat (first | (with_reducible first | exact HB.out | apply below_alloc | apply pw_below_drewN | apply below_drew1 | refine below_set ?_ GE209.out | refine below_set ?_ GE210.out | refine below_set ?_ GE221.out) | exact HB.out))⟩)
                                  · skip
                                    refine Kd.R_lit_step (Kd.int .i64) _ 3 ?hg (N := 32) ?hd (xs := ([rd t205 0] : List Int)) (inner := [.int .i64 (rd t205 0)]) (ok := fun _ => True) (okp := fun _ => True) ?hr ?hp (fun _ hk => hk) trivial (Below.refl _ _) (Nat.le_refl _) (by simp) ?_; (case hd => rfl); (case hg => rfl); (case hr => first | (go_simp; done) | (go_simp; rfl)); (case hp => exact (Reps.one (show Kd.M (Kd.int .i64) _ _ _ (rd t205 0) [.int .i64 (rd t205 0)] from rfl) (Reps.none _ _)))
                                    intro v230 w51 ho52 hb hg_ hnew_
                                    have HS5_ := (hb.cell (World.block_lt_of_cell? _ _ (hHeld.2.2.2.2.2))).trans (hHeld.2.2.2.2.2)
                                    clear hg_ hnew_
                                    (first | rw [← Ny229.out] at ho52 | (simp only [Int.reduceToNat] at ho52; rw [← Ny229.out] at ho52))
                                    have n0_ := Aside0.mk (Kd.R_elder' (by (with_reducible repeat (first | apply Kd.R_alloc | apply Kd.R_drewN | apply Kd.R_drew)); exact HO207.out) (Kd.R_base ho52) hb)
                                    have n1_ := Aside0.mk (Kd.R_elder' (by (with_reducible repeat (first | apply Kd.R_alloc | apply Kd.R_drewN | apply Kd.R_drew)); exact HO220.out) (Kd.R_base ho52) hb)
                                    have n2_ := Aside0.mk (Kd.R_lower (Kd.R_new' (Kd.R_new' ho52 (Kd.R_lt (by (with_reducible repeat (first | apply Kd.R_alloc | apply Kd.R_drewN | apply Kd.R_drew)); exact HO207.out))) (Kd.R_lt (by (with_reducible repeat (first | apply Kd.R_alloc | apply Kd.R_drewN | apply Kd.R_drew)); exact HO220.out))) (below_size (by repeat (first | (with_reducible first | exact HB.out | apply below_alloc | apply pw_below_drewN | apply below_drew1 | refine below_set ?_ GE209.out | refine below_set ?_ GE210.out | refine below_set ?_ GE221.out) | exact HB.out))))
                                    have n3_ := Aside0.mk (blk_below (g := gb209) (o := .cells #[.int .i64 t202, .int .i64 t203, .int .i64 t204, .slice (some ad228) t205.length co33, .bool t208] 25 (0, 0)) (by (with_reducible repeat (first | refine blk_drewN ?_ _ | refine blk_drew ?_ | refine blk_alloc ?_ _)); exact BK209.out) hb)
                                    have n4_ := Aside0.mk (blk_below (g := gb210) (o := .cells #[.int .i64 t202, .int .i64 t203, .int .i64 t204, .slice Ao42 y218.length co42, .bool t208] 25 (0, 0)) (by (with_reducible repeat (first | refine blk_drewN ?_ _ | refine blk_drew ?_ | refine blk_alloc ?_ _)); exact BK210.out) hb)
                                    have n5_ := Aside0.mk (blk_below (g := gb221) (o := .cells #[.int .i64 t202, .int .i64 t203, .int .i64 t204, .slice (some ad228) t205.length co33, .bool t208] 25 (0, 0)) (by (with_reducible repeat (first | refine blk_drewN ?_ _ | refine blk_drew ?_ | refine blk_alloc ?_ _)); exact BK221.out) hb)
                                    have n6_ := Aside0.mk (below_step (by repeat (first | (with_reducible first | exact HB.out | apply below_alloc | apply pw_below_drewN | apply below_drew1 | refine below_set ?_ GE209.out | refine below_set ?_ GE210.out | refine below_set ?_ GE221.out) | exact HB.out)) hb)
                                    clear HO207
                                    clear HO220
                                    clear BK209
                                    clear BK210
                                    clear BK221
                                    clear HB
                                    have HO207 := n0_
                                    have HO220 := n1_
                                    have HO231 := n2_
                                    have BK209 := n3_
                                    have BK210 := n4_
                                    have BK221 := n5_
                                    have HB := n6_
                                    clear n0_ n1_ n2_ n3_ n4_ n5_ n6_
                                    clear hb ho52
                                    refine hK.out _ _ ⟨(blk_cell BK209.out 0).trans rfl, (blk_cell BK209.out 1).trans rfl, (blk_cell BK209.out 2).trans rfl, (blk_cell BK209.out 3).trans rfl, (blk_cell BK209.out 4).trans rfl, HS5_⟩ (fun hHeld => ?_)
                                    clear hK K
                                    refine norm_ (a' := ?_) ?_ ?_
                                    rotate_left
                                    · show Act.put _ (some 32) _ = _
                                      simp only [Act.put, List.setIfInBounds_toArray, List.set_cons_zero, List.set_cons_succ, i64_w, i32_w]
                                      rfl
                                    refine one_ (i := 0) (N := some 24) #[true, true, true, false, true, true, true, true, true, false, false, false] rfl rfl (one_of HT_.out (by kernel_rfl)) (by decide) (fun K hK => ?_)
                                    refine Kd.R_lit_step (Kd.int .i64) _ 3 ?hg (N := 24) ?hd (xs := ([] : List Int)) (inner := []) (ok := fun _ => True) (okp := fun _ => True) ?hr ?hp (fun _ hk => hk) trivial (Below.refl _ _) (Nat.le_refl _) (by simp) ?_; (case hd => rfl); (case hg => rfl); (case hr => first | (go_simp; done) | (go_simp; rfl)); (case hp => exact (Reps.none _ _))
                                    intro v223 w53 ho54 hb hg_ hnew_
                                    have HS5_ := (hb.cell (World.block_lt_of_cell? _ _ (hHeld.2.2.2.2.2))).trans (hHeld.2.2.2.2.2)
                                    clear hg_ hnew_
                                    (first | rw [← Ny222.out] at ho54 | (simp only [Int.reduceToNat] at ho54; rw [← Ny222.out] at ho54))
                                    have n0_ := Aside0.mk (Kd.R_elder' (by (with_reducible repeat (first | apply Kd.R_alloc | apply Kd.R_drewN | apply Kd.R_drew)); exact HO207.out) (Kd.R_base ho54) hb)
                                    have n1_ := Aside0.mk (Kd.R_elder' (by (with_reducible repeat (first | apply Kd.R_alloc | apply Kd.R_drewN | apply Kd.R_drew)); exact HO220.out) (Kd.R_base ho54) hb)
                                    have n2_ := Aside0.mk (Kd.R_elder' (by (with_reducible repeat (first | apply Kd.R_alloc | apply Kd.R_drewN | apply Kd.R_drew)); exact HO231.out) (Kd.R_base ho54) hb)
                                    have n3_ := Aside0.mk (Kd.R_lower (Kd.R_new' (Kd.R_new' (Kd.R_new' ho54 (Kd.R_lt (by (with_reducible repeat (first | apply Kd.R_alloc | apply Kd.R_drewN | apply Kd.R_drew)); exact HO207.out))) (Kd.R_lt (by (with_reducible repeat (first | apply Kd.R_alloc | apply Kd.R_drewN | apply Kd.R_drew)); exact HO220.out))) (Kd.R_lt (by (with_reducible repeat (first | apply Kd.R_alloc | apply Kd.R_drewN | apply Kd.R_drew)); exact HO231.out))) (below_size (by repeat (first | (with_reducible first | exact HB.out | apply below_alloc | apply pw_below_drewN | apply below_drew1 | refine below_set ?_ GE209.out | refine below_set ?_ GE210.out | refine below_set ?_ GE221.out) | exact HB.out))))
                                    have n4_ := Aside0.mk (blk_below (g := gb209) (o := .cells #[.int .i64 t202, .int .i64 t203, .int .i64 t204, .slice (some ad228) t205.length co33, .bool t208] 25 (0, 0)) (by (with_reducible repeat (first | refine blk_drewN ?_ _ | refine blk_drew ?_ | refine blk_alloc ?_ _)); exact BK209.out) hb)
                                    have n5_ := Aside0.mk (blk_below (g := gb210) (o := .cells #[.int .i64 t202, .int .i64 t203, .int .i64 t204, .slice Ao42 y218.length co42, .bool t208] 25 (0, 0)) (by (with_reducible repeat (first | refine blk_drewN ?_ _ | refine blk_drew ?_ | refine blk_alloc ?_ _)); exact BK210.out) hb)
                                    have n6_ := Aside0.mk (blk_below (g := gb221) (o := .cells #[.int .i64 t202, .int .i64 t203, .int .i64 t204, .slice (some ad228) t205.length co33, .bool t208] 25 (0, 0)) (by (with_reducible repeat (first | refine blk_drewN ?_ _ | refine blk_drew ?_ | refine blk_alloc ?_ _)); exact BK221.out) hb)
                                    have n7_ := Aside0.mk (below_step (by repeat (first | (with_reducible first | exact HB.out | apply below_alloc | apply pw_below_drewN | apply below_drew1 | refine below_set ?_ GE209.out | refine below_set ?_ GE210.out | refine below_set ?_ GE221.out) | exact HB.out)) hb)
                                    clear HO207
                                    clear HO220
                                    clear HO231
                                    clear BK209
                                    clear BK210
                                    clear BK221
                                    clear HB
                                    have HO207 := n0_
                                    have HO220 := n1_
                                    have HO231 := n2_
                                    have HO224 := n3_
                                    have BK209 := n4_
                                    have BK210 := n5_
                                    have BK221 := n6_
                                    have HB := n7_
                                    clear n0_ n1_ n2_ n3_ n4_ n5_ n6_ n7_
                                    clear hb ho54
                                    refine hK.out _ _ ⟨(blk_cell BK209.out 0).trans rfl, (blk_cell BK209.out 1).trans rfl, (blk_cell BK209.out 2).trans rfl, (blk_cell BK209.out 3).trans rfl, (blk_cell BK209.out 4).trans rfl, HS5_⟩ (fun hHeld => ?_)
                                    clear hK K
                                    refine norm_ (a' := ?_) ?_ ?_
                                    rotate_left
                                    · show Act.put _ (some 24) _ = _
                                      simp only [Act.put, List.setIfInBounds_toArray, List.set_cons_zero, List.set_cons_succ, i64_w, i32_w]
                                      rfl
                                    refine one_ (i := 3) (N := some 27) #[true, true, true, true, true, true, true, true, true, false, false, false] rfl rfl (one_of HT_.out (by kernel_rfl)) (by decide) (fun K hK => ?_)
                                    refine Kd.R_append_rows_step (Kd.int .i64) (w0 := w) w.heap.size (by rfl) (.tmp 24) (.tmp 26) 23 3 (.int .i64 0) 8 rfl Try.underlying23 info3 rfl (by decide) (by omega) v223 y222 t205 _ _ _ (fun k_ => some k_ ≠ (.slice (some ad228) t205.length co33 : Value).ownBlock ∧ some k_ ≠ (.slice Ao42 y218.length co42 : Value).ownBlock ∧ some k_ ≠ (v230 : Value).ownBlock) (fun _ => False) rfl rfl ?aO ?aR (fun _ _ h => h) (fun _ h => h.elim) ?aF ?aB ?aS ?aL ?_
                                    (case aR => repeat (first | exact (Kd.R_reads' HO207.out).2.2 | (with_reducible refine Kd.C_alloc ?_ _) | (with_reducible refine Kd.C_drewN ?_ _) | (with_reducible refine Kd.C_drew ?_)))
                                    (case aB => exact (by repeat (first | (with_reducible first | exact HB.out | apply below_alloc | apply pw_below_drewN | apply below_drew1 | refine below_set ?_ GE209.out | refine below_set ?_ GE210.out | refine below_set ?_ GE221.out) | exact HB.out)))
                                    (case aF => exact (fun k_ hk => ⟨Kd.fresh' (Kd.R_lt (by (with_reducible repeat (first | apply Kd.R_alloc | apply Kd.R_drewN | apply Kd.R_drew)); exact HO207.out)) k_ hk, Kd.fresh' (Kd.R_lt (by (with_reducible repeat (first | apply Kd.R_alloc | apply Kd.R_drewN | apply Kd.R_drew)); exact HO220.out)) k_ hk, Kd.fresh' (Kd.R_lt (by (with_reducible repeat (first | apply Kd.R_alloc | apply Kd.R_drewN | apply Kd.R_drew)); exact HO231.out)) k_ hk⟩))
                                    (case aO => exact (by (with_reducible repeat (first | apply Kd.R_alloc | apply Kd.R_drewN | apply Kd.R_drew)); exact Kd.R_mono HO224.out (fun _ hk => ⟨hk.1.1.2, ⟨hk.1.2, hk.2⟩⟩)))
                                    (case aS => exact (below_size (by repeat (first | (with_reducible first | exact HB.out | apply below_alloc | apply pw_below_drewN | apply below_drew1 | refine below_set ?_ GE209.out | refine below_set ?_ GE210.out | refine below_set ?_ GE221.out) | exact HB.out))))
                                    (case aL => have := LMc8.out; omega)
                                    intro v226 w55 ho hb hg hat
                                    have HS5_ := cell_grown hg (hHeld.2.2.2.2.2) (by (try rw [add_block]); intro e_; have h_ := HO224.out.1 _ e_.symm; first | exact h_.1 rfl | exact h_.2 rfl | exact h_.1.1 rfl | exact h_.1.2 rfl | exact h_.2.1 rfl | exact h_.2.2 rfl | exact h_.1.1.1 rfl | exact h_.1.1.2 rfl)
                                    rw [← Ny225.out] at ho
                                    have n0_ := Aside0.mk (Kd.R_after (ok := (fun k_ => some k_ ≠ (.slice Ao42 y218.length co42 : Value).ownBlock ∧ some k_ ≠ (v230 : Value).ownBlock)) (by (with_reducible repeat (first | apply Kd.R_alloc | apply Kd.R_drewN | apply Kd.R_drew)); exact HO207.out) hg hat)
                                    have n1_ := Aside0.mk (blk_grown (g := gb209) (o := .cells #[.int .i64 t202, .int .i64 t203, .int .i64 t204, .slice (some ad228) t205.length co33, .bool t208] 25 (0, 0)) (by (with_reducible repeat (first | refine blk_drewN ?_ _ | refine blk_drew ?_ | refine blk_alloc ?_ _)); exact BK209.out) hg (Kd.R_ne HO224.out BK209.out (by decide)))
                                    have n2_ := Aside0.mk (blk_grown (g := gb210) (o := .cells #[.int .i64 t202, .int .i64 t203, .int .i64 t204, .slice Ao42 y218.length co42, .bool t208] 25 (0, 0)) (by (with_reducible repeat (first | refine blk_drewN ?_ _ | refine blk_drew ?_ | refine blk_alloc ?_ _)); exact BK210.out) hg (Kd.R_ne HO224.out BK210.out (by decide)))
                                    have n3_ := Aside0.mk (Kd.R_after (ok := (fun k_ => some k_ ≠ (.slice (some ad228) t205.length co33 : Value).ownBlock ∧ some k_ ≠ (v230 : Value).ownBlock)) (by (with_reducible repeat (first | apply Kd.R_alloc | apply Kd.R_drewN | apply Kd.R_drew)); exact HO220.out) hg hat)
                                    have n4_ := Aside0.mk (blk_grown (g := gb221) (o := .cells #[.int .i64 t202, .int .i64 t203, .int .i64 t204, .slice (some ad228) t205.length co33, .bool t208] 25 (0, 0)) (by (with_reducible repeat (first | refine blk_drewN ?_ _ | refine blk_drew ?_ | refine blk_alloc ?_ _)); exact BK221.out) hg (Kd.R_ne HO224.out BK221.out (by decide)))
                                    have n5_ := Aside0.mk (Kd.R_after (ok := (fun k_ => some k_ ≠ (.slice (some ad228) t205.length co33 : Value).ownBlock ∧ some k_ ≠ (.slice Ao42 y218.length co42 : Value).ownBlock)) (by (with_reducible repeat (first | apply Kd.R_alloc | apply Kd.R_drewN | apply Kd.R_drew)); exact Kd.R_mono HO231.out (fun _ hk => ⟨⟨hk.1.1.2, hk.1.2⟩, hk.2⟩)) hg hat)
                                    have n6_ := Aside0.mk (hb)
                                    have n7_ := Aside0.mk (ho)
                                    clear HO207
                                    clear BK209
                                    clear BK210
                                    clear HO220
                                    clear BK221
                                    clear HO231
                                    clear HB
                                    clear HO224
                                    have HO207 := n0_
                                    have BK209 := n1_
                                    have BK210 := n2_
                                    have HO220 := n3_
                                    have BK221 := n4_
                                    have HO231 := n5_
                                    have HB := n6_
                                    have HO227 := n7_
                                    clear n0_ n1_ n2_ n3_ n4_ n5_ n6_ n7_
                                    clear ho hb hg hat
                                    refine hK.out _ _ ⟨(blk_cell BK209.out 0).trans rfl, (blk_cell BK209.out 1).trans rfl, (blk_cell BK209.out 2).trans rfl, (blk_cell BK209.out 3).trans rfl, (blk_cell BK209.out 4).trans rfl, HS5_⟩ (fun hHeld => ?_)
                                    clear hK K
                                    refine norm_ (a' := ?_) ?_ ?_
                                    rotate_left
                                    · show Act.put _ (some 27) _ = _
                                      simp only [Act.put, List.setIfInBounds_toArray, List.set_cons_zero, List.set_cons_succ, i64_w, i32_w]
                                      rfl
                                    exact norm_ (by simp only [putAll, Act.put, List.setIfInBounds_toArray, List.set_cons_zero, List.set_cons_succ]) (hCont (v223, v226, v230) _ ⟨hHeld, (by (with_reducible repeat (first | apply Kd.R_alloc | apply Kd.R_drewN | apply Kd.R_drew)); exact Kd.R_mono HO207.out (fun _ hk => ⟨hk.1.1, ⟨hk.2, hk.1.2⟩⟩)), (by (with_reducible repeat (first | apply Kd.R_alloc | apply Kd.R_drewN | apply Kd.R_drew)); exact Kd.R_mono HO220.out (fun _ hk => ⟨hk.1.1, ⟨hk.2, hk.1.2⟩⟩)), (by (with_reducible repeat (first | apply Kd.R_alloc | apply Kd.R_drewN | apply Kd.R_drew)); exact HO227.out), (by (with_reducible repeat (first | apply Kd.R_alloc | apply Kd.R_drewN | apply Kd.R_drew)); exact Kd.R_mono HO231.out (fun _ hk => ⟨hk.1.1, ⟨hk.1.2, hk.2⟩⟩)), (by (with_reducible repeat (first | refine blk_drewN ?_ _ | refine blk_drew ?_ | refine blk_alloc ?_ _)); exact BK209.out), (by (with_reducible repeat (first | refine blk_drewN ?_ _ | refine blk_drew ?_ | refine blk_alloc ?_ _)); exact BK210.out), (by (with_reducible repeat (first | refine blk_drewN ?_ _ | refine blk_drew ?_ | refine blk_alloc ?_ _)); exact BK221.out), (by repeat (first | (with_reducible first | exact HB.out | apply below_alloc | apply pw_below_drewN | apply below_drew1 | refine below_set ?_ GE209.out | refine below_set ?_ GE210.out | refine below_set ?_ GE221.out) | exact HB.out))⟩)
                                rintro ⟨v223, v226, v230⟩ w56 ⟨hS_, h0_, h1_, h2_, h3_, h4_, h5_, h6_, h7_⟩
                                have n0_ : Aside0 (Kd.R (Kd.int .i64) 3 w56 w.heap.size (fun k_ => some k_ ≠ (.slice Ao42 y218.length co42 : Value).ownBlock ∧ some k_ ≠ (v226 : Value).ownBlock ∧ some k_ ≠ (v230 : Value).ownBlock) (.slice (some ad228) t205.length co33) t205) := ⟨h0_⟩
                                have n1_ : Aside0 (Kd.R (Kd.int .i64) 3 w56 w.heap.size (fun k_ => some k_ ≠ (.slice (some ad228) t205.length co33 : Value).ownBlock ∧ some k_ ≠ (v226 : Value).ownBlock ∧ some k_ ≠ (v230 : Value).ownBlock) (.slice Ao42 y218.length co42) y218) := ⟨h1_⟩
                                have n2_ : Aside0 (Kd.R (Kd.int .i64) 3 w56 w.heap.size (fun k_ => some k_ ≠ (.slice (some ad228) t205.length co33 : Value).ownBlock ∧ some k_ ≠ (.slice Ao42 y218.length co42 : Value).ownBlock ∧ some k_ ≠ (v230 : Value).ownBlock) v226 y225) := ⟨h2_⟩
                                have n3_ : Aside0 (Kd.R (Kd.int .i64) 3 w56 w.heap.size (fun k_ => some k_ ≠ (.slice (some ad228) t205.length co33 : Value).ownBlock ∧ some k_ ≠ (.slice Ao42 y218.length co42 : Value).ownBlock ∧ some k_ ≠ (v226 : Value).ownBlock) v230 y229) := ⟨h3_⟩
                                have n4_ : Aside0 (w56.heap[gb209]? = some (.cells #[.int .i64 t202, .int .i64 t203, .int .i64 t204, .slice (some ad228) t205.length co33, .bool t208] 25 (0, 0))) := ⟨h4_⟩
                                have n5_ : Aside0 (w56.heap[gb210]? = some (.cells #[.int .i64 t202, .int .i64 t203, .int .i64 t204, .slice Ao42 y218.length co42, .bool t208] 25 (0, 0))) := ⟨h5_⟩
                                have n6_ : Aside0 (w56.heap[gb221]? = some (.cells #[.int .i64 t202, .int .i64 t203, .int .i64 t204, .slice (some ad228) t205.length co33, .bool t208] 25 (0, 0))) := ⟨h6_⟩
                                have n7_ : Aside0 (Below w.heap.size w w56) := ⟨h7_⟩
                                clear HO207
                                clear HO220
                                clear BK209
                                clear BK210
                                clear BK221
                                clear HB
                                clear h0_ h1_ h2_ h3_ h4_ h5_ h6_ h7_
                                have HO207 := n0_
                                have HO220 := n1_
                                have HO227 := n2_
                                have HO231 := n3_
                                have BK209 := n4_
                                have BK210 := n5_
                                have BK221 := n6_
                                have HB := n7_
                                clear n0_ n1_ n2_ n3_ n4_ n5_ n6_ n7_
                                have hHeld : w56.cell? ⟨gb209, 0, none⟩ = some (.int .i64 t202) ∧ w56.cell? ⟨gb209, 1, none⟩ = some (.int .i64 t203) ∧ w56.cell? ⟨gb209, 2, none⟩ = some (.int .i64 t204) ∧ w56.cell? ⟨gb209, 3, none⟩ = some (.slice (some ad228) t205.length co33) ∧ w56.cell? ⟨gb209, 4, none⟩ = some (.bool t208) ∧ w56.cell? ad228 = some (.int .i64 (rd t205 0)) := hS_
                                obtain ⟨Ao58, co58, eo58⟩ := Kd.R_slice HO231.out
                                (first | subst eo58 | (injection eo58 with f1_ f2_ f3_; have f4_ := f1_.symm; have f5_ := f3_.symm; clear f1_ f2_ f3_; subst f4_; subst f5_))
                                refine norm_ (a' := ?_) ?_ ?_
                                rotate_left
                                · simp only [putAll, Act.put, List.setIfInBounds_toArray, List.set_cons_zero, List.set_cons_succ]
                                  rfl
                                refine one_ (i := 9) (N := some 33) #[true, true, true, true, true, true, true, true, true, true, false, false] rfl rfl (one_of HT_.out (by kernel_rfl)) (by decide) (fun K hK => ?_)
                                refine Kd.R_append_rows_step (Kd.int .i64) (w0 := w) w.heap.size (by rfl) (.tmp 27) (.tmp 32) 23 3 (.int .i64 0) 8 rfl Try.underlying23 info3 rfl (by decide) (by omega) v226 y225 y229 _ _ _ (fun k_ => some k_ ≠ (.slice (some ad228) t205.length co33 : Value).ownBlock ∧ some k_ ≠ (.slice Ao42 y218.length co42 : Value).ownBlock ∧ some k_ ≠ (.slice Ao58 y229.length co58 : Value).ownBlock) (fun _ => False) rfl rfl ?aO ?aR (fun _ _ h => h) (fun _ h => h.elim) ?aF ?aB ?aS ?aL ?_
                                (case aR => repeat (first | exact (Kd.R_reads' HO231.out).2.2 | (with_reducible refine Kd.C_alloc ?_ _) | (with_reducible refine Kd.C_drewN ?_ _) | (with_reducible refine Kd.C_drew ?_)))
                                (case aB => exact (by repeat (first | (with_reducible first | exact HB.out | apply below_alloc | apply pw_below_drewN | apply below_drew1 | refine below_set ?_ GE209.out | refine below_set ?_ GE210.out | refine below_set ?_ GE221.out) | exact HB.out)))
                                (case aF => exact (fun k_ hk => ⟨Kd.fresh' (Kd.R_lt (by (with_reducible repeat (first | apply Kd.R_alloc | apply Kd.R_drewN | apply Kd.R_drew)); exact HO207.out)) k_ hk, Kd.fresh' (Kd.R_lt (by (with_reducible repeat (first | apply Kd.R_alloc | apply Kd.R_drewN | apply Kd.R_drew)); exact HO220.out)) k_ hk, Kd.fresh' (Kd.R_lt (by (with_reducible repeat (first | apply Kd.R_alloc | apply Kd.R_drewN | apply Kd.R_drew)); exact HO231.out)) k_ hk⟩))
                                (case aO => exact (by (with_reducible repeat (first | apply Kd.R_alloc | apply Kd.R_drewN | apply Kd.R_drew)); exact HO227.out))
                                (case aS => exact (below_size (by repeat (first | (with_reducible first | exact HB.out | apply below_alloc | apply pw_below_drewN | apply below_drew1 | refine below_set ?_ GE209.out | refine below_set ?_ GE210.out | refine below_set ?_ GE221.out) | exact HB.out))))
                                (case aL => have := LMc10.out; omega)
                                intro v233 w57 ho hb hg hat
                                have HS5_ := cell_grown hg (hHeld.2.2.2.2.2) (by (try rw [add_block]); intro e_; have h_ := HO227.out.1 _ e_.symm; first | exact h_.1 rfl | exact h_.2 rfl | exact h_.1.1 rfl | exact h_.1.2 rfl | exact h_.2.1 rfl | exact h_.2.2 rfl | exact h_.1.1.1 rfl | exact h_.1.1.2 rfl)
                                rw [← Ny232.out] at ho
                                have n0_ := Aside0.mk (Kd.R_after (ok := (fun k_ => some k_ ≠ (.slice Ao42 y218.length co42 : Value).ownBlock ∧ some k_ ≠ (.slice Ao58 y229.length co58 : Value).ownBlock)) (by (with_reducible repeat (first | apply Kd.R_alloc | apply Kd.R_drewN | apply Kd.R_drew)); exact Kd.R_mono HO207.out (fun _ hk => ⟨⟨hk.1, hk.2.2⟩, hk.2.1⟩)) hg hat)
                                have n1_ := Aside0.mk (blk_grown (g := gb209) (o := .cells #[.int .i64 t202, .int .i64 t203, .int .i64 t204, .slice (some ad228) t205.length co33, .bool t208] 25 (0, 0)) (by (with_reducible repeat (first | refine blk_drewN ?_ _ | refine blk_drew ?_ | refine blk_alloc ?_ _)); exact BK209.out) hg (Kd.R_ne HO227.out BK209.out (by decide)))
                                have n2_ := Aside0.mk (blk_grown (g := gb210) (o := .cells #[.int .i64 t202, .int .i64 t203, .int .i64 t204, .slice Ao42 y218.length co42, .bool t208] 25 (0, 0)) (by (with_reducible repeat (first | refine blk_drewN ?_ _ | refine blk_drew ?_ | refine blk_alloc ?_ _)); exact BK210.out) hg (Kd.R_ne HO227.out BK210.out (by decide)))
                                have n3_ := Aside0.mk (Kd.R_after (ok := (fun k_ => some k_ ≠ (.slice (some ad228) t205.length co33 : Value).ownBlock ∧ some k_ ≠ (.slice Ao58 y229.length co58 : Value).ownBlock)) (by (with_reducible repeat (first | apply Kd.R_alloc | apply Kd.R_drewN | apply Kd.R_drew)); exact Kd.R_mono HO220.out (fun _ hk => ⟨⟨hk.1, hk.2.2⟩, hk.2.1⟩)) hg hat)
                                have n4_ := Aside0.mk (blk_grown (g := gb221) (o := .cells #[.int .i64 t202, .int .i64 t203, .int .i64 t204, .slice (some ad228) t205.length co33, .bool t208] 25 (0, 0)) (by (with_reducible repeat (first | refine blk_drewN ?_ _ | refine blk_drew ?_ | refine blk_alloc ?_ _)); exact BK221.out) hg (Kd.R_ne HO227.out BK221.out (by decide)))
                                have n5_ := Aside0.mk (Kd.R_after (ok := (fun k_ => some k_ ≠ (.slice (some ad228) t205.length co33 : Value).ownBlock ∧ some k_ ≠ (.slice Ao42 y218.length co42 : Value).ownBlock)) (by (with_reducible repeat (first | apply Kd.R_alloc | apply Kd.R_drewN | apply Kd.R_drew)); exact Kd.R_mono HO231.out (fun _ hk => ⟨⟨hk.1, hk.2.1⟩, hk.2.2⟩)) hg hat)
                                have n6_ := Aside0.mk (hb)
                                have n7_ := Aside0.mk (ho)
                                clear HO207
                                clear BK209
                                clear BK210
                                clear HO220
                                clear BK221
                                clear HO231
                                clear HB
                                clear HO227
                                have HO207 := n0_
                                have BK209 := n1_
                                have BK210 := n2_
                                have HO220 := n3_
                                have BK221 := n4_
                                have HO231 := n5_
                                have HB := n6_
                                have HO234 := n7_
                                clear n0_ n1_ n2_ n3_ n4_ n5_ n6_ n7_
                                clear ho hb hg hat
                                obtain ⟨Ao59, co59, eo59⟩ := Kd.R_slice HO234.out
                                (first | subst eo59 | (injection eo59 with f1_ f2_ f3_; have f4_ := f1_.symm; have f5_ := f3_.symm; clear f1_ f2_ f3_; subst f4_; subst f5_))
                                refine hK.out _ _ ⟨(blk_cell BK209.out 0).trans rfl, (blk_cell BK209.out 1).trans rfl, (blk_cell BK209.out 2).trans rfl, (blk_cell BK209.out 3).trans rfl, (blk_cell BK209.out 4).trans rfl, HS5_⟩ (fun hHeld => ?_)
                                clear hK K
                                refine norm_ (a' := ?_) ?_ ?_
                                rotate_left
                                · show Act.put _ (some 33) _ = _
                                  simp only [Act.put, List.setIfInBounds_toArray, List.set_cons_zero, List.set_cons_succ, i64_w, i32_w]
                                  rfl
                                refine pure_ (i := 10) (N := some 34) (v := ?_) (a' := ?_) #[true, true, true, true, true, true, true, true, true, true, true, false] rfl rfl (any_of HT_.out (by kernel_rfl)) (fun _ _ _ h => h) (Or.inl ⟨by rfl, ?_⟩) ?_ ?_
                                rotate_left
                                · intro w'
                                  go_simp
                                  with_reducible rfl
                                rotate_left
                                · simp only [Act.put, List.setIfInBounds_toArray, List.set_cons_zero, List.set_cons_succ, i64_w, i32_w]
                                  rfl
                                refine one_ (i := 11) (N := none) #[true, true, true, true, true, true, true, true, true, true, true, true] rfl rfl (one_of HT_.out (by kernel_rfl)) (by decide) (fun K hK => ?_)
                                have hs60 : w57.cell? ⟨gb221, 3, none⟩ = some (.slice (some ad228) t205.length co33) := (blk_cell BK221.out 3).trans rfl
                                have hfs60 := blk_frozen BK221.out 3
                                have hns60_0 := NB209_221.out
                                have hns60_1 := NB210_221.out
                                have hms60_0 := NB221_209.out
                                have hms60_1 := NB221_210.out
                                refine skip_ (w1 := ?_) (by rfl) rfl ?_ ?_
                                rotate_left
                                · go_simp
                                  rfl
                                refine hK.out _ _ ⟨((cell_far (p := ⟨gb221, _, none⟩) NB209_221.out _).trans (hHeld.1)), ((cell_far (p := ⟨gb221, _, none⟩) NB209_221.out _).trans (hHeld.2.1)), ((cell_far (p := ⟨gb221, _, none⟩) NB209_221.out _).trans (hHeld.2.2.1)), ((cell_far (p := ⟨gb221, _, none⟩) NB209_221.out _).trans (hHeld.2.2.2.1)), ((cell_far (p := ⟨gb221, _, none⟩) NB209_221.out _).trans (hHeld.2.2.2.2.1)), ((cell_far (p := ⟨gb221, _, none⟩) (by first | exact Kd.own_blk (Kd.R_ne HO207.out BK221.out (by decide)) | (rw [add_block]; exact Kd.own_blk (Kd.R_ne HO207.out BK221.out (by decide))) | (show (Addr.add _ _).block ≠ _; rw [add_block]; exact Kd.own_blk (Kd.R_ne HO207.out BK221.out (by decide))) | (dsimp only; exact Kd.own_blk (Kd.R_ne HO207.out BK221.out (by decide)))) _).trans (hHeld.2.2.2.2.2))⟩ (fun hHeld => ?_)
                                clear hK K
                                refine done_ (done_of HT_.out (by kernel_rfl)) ?_
                                have hcz61_0 : w57.cell? ⟨gb209, 0, none⟩ = some (.int .i64 t202) := (blk_cell BK209.out 0).trans rfl
                                have hcz61_1 : w57.cell? ⟨gb209, 1, none⟩ = some (.int .i64 t203) := (blk_cell BK209.out 1).trans rfl
                                have hcz61_2 : w57.cell? ⟨gb209, 2, none⟩ = some (.int .i64 t204) := (blk_cell BK209.out 2).trans rfl
                                have hcz61_3 : w57.cell? ⟨gb209, 3, none⟩ = some (.slice (some ad228) t205.length co33) := (blk_cell BK209.out 3).trans rfl
                                have hcz61_4 : w57.cell? ⟨gb209, 4, none⟩ = some (.bool t208) := (blk_cell BK209.out 4).trans rfl
                                have hfz61_0 := blk_frozen BK209.out 0
                                have hfz61_1 := blk_frozen BK209.out 1
                                have hfz61_2 := blk_frozen BK209.out 2
                                have hfz61_3 := blk_frozen BK209.out 3
                                have hfz61_4 := blk_frozen BK209.out 4
                                try go_wp2_with (first | ((with_reducible refine gate_dst (N := 6) rfl ?_); refine box_event ?hg (N := 6) ?hd (cs := #[.int .i64 0, .int .i64 0, .int .i64 0, .slice none 0 0, .bool false]) (t := 25) ?hr ?_; (case hd => rfl); (case hg => rfl); (case hr => first | (go_simp; done) | (go_simp; rfl)); intro gb235 hg w62 hbox hb; have n0_ := Aside0.mk (Kd.R_below (by (with_reducible repeat (first | apply Kd.R_alloc | apply Kd.R_drewN | apply Kd.R_drew)); exact (Kd.R_mono (Kd.R_far (p := ⟨gb221, 3, none⟩) (Kd.R_types HO207.out BK221.out (by decide)) (fun _ hk => hk.2) (.slice Ao59 y232.length co59)) (fun _ h_ => h_.1))) hb); have n1_ := Aside0.mk (Kd.R_below (by (with_reducible repeat (first | apply Kd.R_alloc | apply Kd.R_drewN | apply Kd.R_drew)); exact (Kd.R_mono (Kd.R_far (p := ⟨gb221, 3, none⟩) (Kd.R_types HO220.out BK221.out (by decide)) (fun _ hk => hk.2) (.slice Ao59 y232.length co59)) (fun _ h_ => h_.1))) hb); have n2_ := Aside0.mk (Kd.R_below (by (with_reducible repeat (first | apply Kd.R_alloc | apply Kd.R_drewN | apply Kd.R_drew)); exact (Kd.R_mono (Kd.R_far (p := ⟨gb221, 3, none⟩) (Kd.R_types HO231.out BK221.out (by decide)) (fun _ hk => hk.2) (.slice Ao59 y232.length co59)) (fun _ h_ => h_.1))) hb); have n3_ := Aside0.mk (Kd.R_below (by (with_reducible repeat (first | apply Kd.R_alloc | apply Kd.R_drewN | apply Kd.R_drew)); exact (Kd.R_mono (Kd.R_far (p := ⟨gb221, 3, none⟩) (Kd.R_types HO234.out BK221.out (by decide)) (fun _ hk => hk.2) (.slice Ao59 y232.length co59)) (fun _ h_ => h_.1))) hb); have n4_ := Aside0.mk (blk_below (g := gb209) (o := .cells #[.int .i64 t202, .int .i64 t203, .int .i64 t204, .slice (some ad228) t205.length co33, .bool t208] 25 (0, 0)) (by (with_reducible repeat (first | refine blk_drewN ?_ _ | refine blk_drew ?_ | refine blk_alloc ?_ _)); refine blk_far ?_ NB209_221.out _; (with_reducible repeat (first | refine blk_drewN ?_ _ | refine blk_drew ?_ | refine blk_alloc ?_ _)); exact BK209.out) hb); have n5_ := Aside0.mk (blk_below (g := gb210) (o := .cells #[.int .i64 t202, .int .i64 t203, .int .i64 t204, .slice Ao42 y218.length co42, .bool t208] 25 (0, 0)) (by (with_reducible repeat (first | refine blk_drewN ?_ _ | refine blk_drew ?_ | refine blk_alloc ?_ _)); refine blk_far ?_ NB210_221.out _; (with_reducible repeat (first | refine blk_drewN ?_ _ | refine blk_drew ?_ | refine blk_alloc ?_ _)); exact BK210.out) hb); have n6_ := Aside0.mk (blk_below (g := gb221) (o := .cells #[.int .i64 t202, .int .i64 t203, .int .i64 t204, .slice Ao59 y232.length co59, .bool t208] 25 (0, 0)) (by (with_reducible repeat (first | refine blk_drewN ?_ _ | refine blk_drew ?_ | refine blk_alloc ?_ _)); refine blk_put (cs := #[.int .i64 t202, .int .i64 t203, .int .i64 t204, .slice (some ad228) t205.length co33, .bool t208]) ?_ 3 _ rfl; (with_reducible repeat (first | refine blk_drewN ?_ _ | refine blk_drew ?_ | refine blk_alloc ?_ _)); exact BK221.out) hb); have n7_ := Aside0.mk (below_step (by repeat (first | (with_reducible first | exact HB.out | apply below_alloc | apply pw_below_drewN | apply below_drew1 | refine below_set ?_ GE209.out | refine below_set ?_ GE210.out | refine below_set ?_ GE221.out) | exact HB.out)) hb); have n8_ := Aside0.mk (hbox); have n9_ := Aside0.mk ((by rw [hg]; exact (below_size (by repeat (first | (with_reducible first | exact HB.out | apply below_alloc | apply pw_below_drewN | apply below_drew1 | refine below_set ?_ GE209.out | refine below_set ?_ GE210.out | refine below_set ?_ GE221.out) | exact HB.out))) : w.heap.size ≤ gb235)); have n10_ := Aside0.mk ((by rw [hg]; exact (below_size (by repeat (first | (with_reducible first | exact HB.out | apply below_alloc | apply pw_below_drewN | apply below_drew1 | refine below_set ?_ GE209.out | refine below_set ?_ GE210.out | refine below_set ?_ GE221.out) | exact HB.out))) : w.heap.size ≤ gb235)); have n11_ := Aside0.mk ((by rw [hg]; exact Nat.ne_of_lt (blk_lt (g := gb209) (o := .cells #[.int .i64 t202, .int .i64 t203, .int .i64 t204, .slice (some ad228) t205.length co33, .bool t208] 25 (0, 0)) (by (with_reducible repeat (first | refine blk_drewN ?_ _ | refine blk_drew ?_ | refine blk_alloc ?_ _)); refine blk_far ?_ NB209_221.out _; (with_reducible repeat (first | refine blk_drewN ?_ _ | refine blk_drew ?_ | refine blk_alloc ?_ _)); exact BK209.out)) : gb209 ≠ gb235)); have n12_ := Aside0.mk ((by rw [hg]; exact Nat.ne_of_gt (blk_lt (g := gb209) (o := .cells #[.int .i64 t202, .int .i64 t203, .int .i64 t204, .slice (some ad228) t205.length co33, .bool t208] 25 (0, 0)) (by (with_reducible repeat (first | refine blk_drewN ?_ _ | refine blk_drew ?_ | refine blk_alloc ?_ _)); refine blk_far ?_ NB209_221.out _; (with_reducible repeat (first | refine blk_drewN ?_ _ | refine blk_drew ?_ | refine blk_alloc ?_ _)); exact BK209.out)) : gb235 ≠ gb209)); have n13_ := Aside0.mk ((by rw [hg]; exact Nat.ne_of_lt (blk_lt (g := gb210) (o := .cells #[.int .i64 t202, .int .i64 t203, .int .i64 t204, .slice Ao42 y218.length co42, .bool t208] 25 (0, 0)) (by (with_reducible repeat (first | refine blk_drewN ?_ _ | refine blk_drew ?_ | refine blk_alloc ?_ _)); refine blk_far ?_ NB210_221.out _; (with_reducible repeat (first | refine blk_drewN ?_ _ | refine blk_drew ?_ | refine blk_alloc ?_ _)); exact BK210.out)) : gb210 ≠ gb235)); have n14_ := Aside0.mk ((by rw [hg]; exact Nat.ne_of_gt (blk_lt (g := gb210) (o := .cells #[.int .i64 t202, .int .i64 t203, .int .i64 t204, .slice Ao42 y218.length co42, .bool t208] 25 (0, 0)) (by (with_reducible repeat (first | refine blk_drewN ?_ _ | refine blk_drew ?_ | refine blk_alloc ?_ _)); refine blk_far ?_ NB210_221.out _; (with_reducible repeat (first | refine blk_drewN ?_ _ | refine blk_drew ?_ | refine blk_alloc ?_ _)); exact BK210.out)) : gb235 ≠ gb210)); have n15_ := Aside0.mk ((by rw [hg]; exact Nat.ne_of_lt (blk_lt (g := gb221) (o := .cells #[.int .i64 t202, .int .i64 t203, .int .i64 t204, .slice Ao59 y232.length co59, .bool t208] 25 (0, 0)) (by (with_reducible repeat (first | refine blk_drewN ?_ _ | refine blk_drew ?_ | refine blk_alloc ?_ _)); refine blk_put (cs := #[.int .i64 t202, .int .i64 t203, .int .i64 t204, .slice (some ad228) t205.length co33, .bool t208]) ?_ 3 _ rfl; (with_reducible repeat (first | refine blk_drewN ?_ _ | refine blk_drew ?_ | refine blk_alloc ?_ _)); exact BK221.out)) : gb221 ≠ gb235)); have n16_ := Aside0.mk ((by rw [hg]; exact Nat.ne_of_gt (blk_lt (g := gb221) (o := .cells #[.int .i64 t202, .int .i64 t203, .int .i64 t204, .slice Ao59 y232.length co59, .bool t208] 25 (0, 0)) (by (with_reducible repeat (first | refine blk_drewN ?_ _ | refine blk_drew ?_ | refine blk_alloc ?_ _)); refine blk_put (cs := #[.int .i64 t202, .int .i64 t203, .int .i64 t204, .slice (some ad228) t205.length co33, .bool t208]) ?_ 3 _ rfl; (with_reducible repeat (first | refine blk_drewN ?_ _ | refine blk_drew ?_ | refine blk_alloc ?_ _)); exact BK221.out)) : gb235 ≠ gb221)); clear HO207; clear HO220; clear HO231; clear HO234; clear BK209; clear BK210; clear BK221; clear HB; have HO207 := n0_; have HO220 := n1_; have HO231 := n2_; have HO234 := n3_; have BK209 := n4_; have BK210 := n5_; have BK221 := n6_; have HB := n7_; have BK235 := n8_; have GW235 := n9_; have GE235 := n10_; have NB209_235 := n11_; have NB235_209 := n12_; have NB210_235 := n13_; have NB235_210 := n14_; have NB221_235 := n15_; have NB235_221 := n16_; clear n0_ n1_ n2_ n3_ n4_ n5_ n6_ n7_ n8_ n9_ n10_ n11_ n12_ n13_ n14_ n15_ n16_; clear hb hbox hg; have hnb63 := NB235_209.out; have hnc63 := NB209_235.out; have hnb64 := NB235_210.out; have hnc64 := NB210_235.out; have hnb65 := NB235_221.out; have hnc65 := NB221_235.out; have hcz66_0 : w62.cell? ⟨gb235, 0, none⟩ = some (.int .i64 0) := (blk_cell BK235.out 0).trans rfl; have hcz66_1 : w62.cell? ⟨gb235, 1, none⟩ = some (.int .i64 0) := (blk_cell BK235.out 1).trans rfl; have hcz66_2 : w62.cell? ⟨gb235, 2, none⟩ = some (.int .i64 0) := (blk_cell BK235.out 2).trans rfl; have hcz66_3 : w62.cell? ⟨gb235, 3, none⟩ = some (.slice none 0 0) := (blk_cell BK235.out 3).trans rfl; have hcz66_4 : w62.cell? ⟨gb235, 4, none⟩ = some (.bool false) := (blk_cell BK235.out 4).trans rfl; have hfz66_0 := blk_frozen BK235.out 0; have hfz66_1 := blk_frozen BK235.out 1; have hfz66_2 := blk_frozen BK235.out 2; have hfz66_3 := blk_frozen BK235.out 3; have hfz66_4 := blk_frozen BK235.out 4; have hcz67_0 : w62.cell? ⟨gb209, 0, none⟩ = some (.int .i64 t202) := (blk_cell BK209.out 0).trans rfl; have hcz67_1 : w62.cell? ⟨gb209, 1, none⟩ = some (.int .i64 t203) := (blk_cell BK209.out 1).trans rfl; have hcz67_2 : w62.cell? ⟨gb209, 2, none⟩ = some (.int .i64 t204) := (blk_cell BK209.out 2).trans rfl; have hcz67_3 : w62.cell? ⟨gb209, 3, none⟩ = some (.slice (some ad228) t205.length co33) := (blk_cell BK209.out 3).trans rfl; have hcz67_4 : w62.cell? ⟨gb209, 4, none⟩ = some (.bool t208) := (blk_cell BK209.out 4).trans rfl; have hfz67_0 := blk_frozen BK209.out 0; have hfz67_1 := blk_frozen BK209.out 1; have hfz67_2 := blk_frozen BK209.out 2; have hfz67_3 := blk_frozen BK209.out 3; have hfz67_4 := blk_frozen BK209.out 4))
                                have n0_ : Aside0 (Kd.R (Kd.int .i64) 3 (((((((w62.setCell ⟨gb235, 0, none⟩ (.int .i64 t202)).setCell ⟨gb235, 1, none⟩ (.int .i64 t203)).setCell ⟨gb235, 2, none⟩ (.int .i64 t204)).setCell ⟨gb235, 3, none⟩ (.slice (some ad228) t205.length co33)).setCell ⟨gb235, 4, none⟩ (.bool t208)).setCell ⟨gb235, 1, none⟩ (.int .i64 t204)).setCell ⟨gb235, 0, none⟩ (.int .i64 t204)) w.heap.size (fun k_ => some k_ ≠ (.slice Ao42 y218.length co42 : Value).ownBlock ∧ some k_ ≠ (.slice Ao58 y229.length co58 : Value).ownBlock ∧ some k_ ≠ (.slice Ao59 y232.length co59 : Value).ownBlock) (.slice (some ad228) t205.length co33) t205) := ⟨by (with_reducible repeat (first | apply Kd.R_alloc | apply Kd.R_drewN | apply Kd.R_drew)); exact Kd.R_mono (Kd.R_far (p := ⟨gb235, 0, none⟩) (Kd.R_far (p := ⟨gb235, 1, none⟩) (Kd.R_far (p := ⟨gb235, 4, none⟩) (Kd.R_far (p := ⟨gb235, 3, none⟩) (Kd.R_far (p := ⟨gb235, 2, none⟩) (Kd.R_far (p := ⟨gb235, 1, none⟩) (Kd.R_far (p := ⟨gb235, 0, none⟩) (Kd.R_types HO207.out BK235.out (by decide)) (fun _ hk => hk.2) (.int .i64 t202)) (fun _ hk => hk.2) (.int .i64 t203)) (fun _ hk => hk.2) (.int .i64 t204)) (fun _ hk => hk.2) (.slice (some ad228) t205.length co33)) (fun _ hk => hk.2) (.bool t208)) (fun _ hk => hk.2) (.int .i64 t204)) (fun _ hk => hk.2) (.int .i64 t204)) (fun _ hk => ⟨hk.1.1.1, ⟨hk.1.1.2, hk.1.2⟩⟩)⟩
                                have n1_ : Aside0 (Kd.R (Kd.int .i64) 3 (((((((w62.setCell ⟨gb235, 0, none⟩ (.int .i64 t202)).setCell ⟨gb235, 1, none⟩ (.int .i64 t203)).setCell ⟨gb235, 2, none⟩ (.int .i64 t204)).setCell ⟨gb235, 3, none⟩ (.slice (some ad228) t205.length co33)).setCell ⟨gb235, 4, none⟩ (.bool t208)).setCell ⟨gb235, 1, none⟩ (.int .i64 t204)).setCell ⟨gb235, 0, none⟩ (.int .i64 t204)) w.heap.size (fun k_ => some k_ ≠ (.slice (some ad228) t205.length co33 : Value).ownBlock ∧ some k_ ≠ (.slice Ao58 y229.length co58 : Value).ownBlock ∧ some k_ ≠ (.slice Ao59 y232.length co59 : Value).ownBlock) (.slice Ao42 y218.length co42) y218) := ⟨by (with_reducible repeat (first | apply Kd.R_alloc | apply Kd.R_drewN | apply Kd.R_drew)); exact Kd.R_mono (Kd.R_far (p := ⟨gb235, 0, none⟩) (Kd.R_far (p := ⟨gb235, 1, none⟩) (Kd.R_far (p := ⟨gb235, 4, none⟩) (Kd.R_far (p := ⟨gb235, 3, none⟩) (Kd.R_far (p := ⟨gb235, 2, none⟩) (Kd.R_far (p := ⟨gb235, 1, none⟩) (Kd.R_far (p := ⟨gb235, 0, none⟩) (Kd.R_types HO220.out BK235.out (by decide)) (fun _ hk => hk.2) (.int .i64 t202)) (fun _ hk => hk.2) (.int .i64 t203)) (fun _ hk => hk.2) (.int .i64 t204)) (fun _ hk => hk.2) (.slice (some ad228) t205.length co33)) (fun _ hk => hk.2) (.bool t208)) (fun _ hk => hk.2) (.int .i64 t204)) (fun _ hk => hk.2) (.int .i64 t204)) (fun _ hk => ⟨hk.1.1.1, ⟨hk.1.1.2, hk.1.2⟩⟩)⟩
                                have n2_ : Aside0 (Kd.R (Kd.int .i64) 3 (((((((w62.setCell ⟨gb235, 0, none⟩ (.int .i64 t202)).setCell ⟨gb235, 1, none⟩ (.int .i64 t203)).setCell ⟨gb235, 2, none⟩ (.int .i64 t204)).setCell ⟨gb235, 3, none⟩ (.slice (some ad228) t205.length co33)).setCell ⟨gb235, 4, none⟩ (.bool t208)).setCell ⟨gb235, 1, none⟩ (.int .i64 t204)).setCell ⟨gb235, 0, none⟩ (.int .i64 t204)) w.heap.size (fun k_ => some k_ ≠ (.slice (some ad228) t205.length co33 : Value).ownBlock ∧ some k_ ≠ (.slice Ao42 y218.length co42 : Value).ownBlock ∧ some k_ ≠ (.slice Ao59 y232.length co59 : Value).ownBlock) (.slice Ao58 y229.length co58) y229) := ⟨by (with_reducible repeat (first | apply Kd.R_alloc | apply Kd.R_drewN | apply Kd.R_drew)); exact Kd.R_mono (Kd.R_far (p := ⟨gb235, 0, none⟩) (Kd.R_far (p := ⟨gb235, 1, none⟩) (Kd.R_far (p := ⟨gb235, 4, none⟩) (Kd.R_far (p := ⟨gb235, 3, none⟩) (Kd.R_far (p := ⟨gb235, 2, none⟩) (Kd.R_far (p := ⟨gb235, 1, none⟩) (Kd.R_far (p := ⟨gb235, 0, none⟩) (Kd.R_types HO231.out BK235.out (by decide)) (fun _ hk => hk.2) (.int .i64 t202)) (fun _ hk => hk.2) (.int .i64 t203)) (fun _ hk => hk.2) (.int .i64 t204)) (fun _ hk => hk.2) (.slice (some ad228) t205.length co33)) (fun _ hk => hk.2) (.bool t208)) (fun _ hk => hk.2) (.int .i64 t204)) (fun _ hk => hk.2) (.int .i64 t204)) (fun _ hk => ⟨hk.1.1.1, ⟨hk.1.1.2, hk.1.2⟩⟩)⟩
                                have n3_ : Aside0 (Kd.R (Kd.int .i64) 3 (((((((w62.setCell ⟨gb235, 0, none⟩ (.int .i64 t202)).setCell ⟨gb235, 1, none⟩ (.int .i64 t203)).setCell ⟨gb235, 2, none⟩ (.int .i64 t204)).setCell ⟨gb235, 3, none⟩ (.slice (some ad228) t205.length co33)).setCell ⟨gb235, 4, none⟩ (.bool t208)).setCell ⟨gb235, 1, none⟩ (.int .i64 t204)).setCell ⟨gb235, 0, none⟩ (.int .i64 t204)) w.heap.size (fun k_ => some k_ ≠ (.slice (some ad228) t205.length co33 : Value).ownBlock ∧ some k_ ≠ (.slice Ao42 y218.length co42 : Value).ownBlock ∧ some k_ ≠ (.slice Ao58 y229.length co58 : Value).ownBlock) (.slice Ao59 y232.length co59) y232) := ⟨by (with_reducible repeat (first | apply Kd.R_alloc | apply Kd.R_drewN | apply Kd.R_drew)); exact Kd.R_mono (Kd.R_far (p := ⟨gb235, 0, none⟩) (Kd.R_far (p := ⟨gb235, 1, none⟩) (Kd.R_far (p := ⟨gb235, 4, none⟩) (Kd.R_far (p := ⟨gb235, 3, none⟩) (Kd.R_far (p := ⟨gb235, 2, none⟩) (Kd.R_far (p := ⟨gb235, 1, none⟩) (Kd.R_far (p := ⟨gb235, 0, none⟩) (Kd.R_types HO234.out BK235.out (by decide)) (fun _ hk => hk.2) (.int .i64 t202)) (fun _ hk => hk.2) (.int .i64 t203)) (fun _ hk => hk.2) (.int .i64 t204)) (fun _ hk => hk.2) (.slice (some ad228) t205.length co33)) (fun _ hk => hk.2) (.bool t208)) (fun _ hk => hk.2) (.int .i64 t204)) (fun _ hk => hk.2) (.int .i64 t204)) (fun _ hk => ⟨hk.1.1, ⟨hk.1.2.1, hk.1.2.2⟩⟩)⟩
                                have n4_ : Aside0 ((((((((w62.setCell ⟨gb235, 0, none⟩ (.int .i64 t202)).setCell ⟨gb235, 1, none⟩ (.int .i64 t203)).setCell ⟨gb235, 2, none⟩ (.int .i64 t204)).setCell ⟨gb235, 3, none⟩ (.slice (some ad228) t205.length co33)).setCell ⟨gb235, 4, none⟩ (.bool t208)).setCell ⟨gb235, 1, none⟩ (.int .i64 t204)).setCell ⟨gb235, 0, none⟩ (.int .i64 t204)).heap[gb209]? = some (.cells #[.int .i64 t202, .int .i64 t203, .int .i64 t204, .slice (some ad228) t205.length co33, .bool t208] 25 (0, 0))) := ⟨by (with_reducible repeat (first | refine blk_drewN ?_ _ | refine blk_drew ?_ | refine blk_alloc ?_ _)); refine blk_far ?_ NB209_235.out _; (with_reducible repeat (first | refine blk_drewN ?_ _ | refine blk_drew ?_ | refine blk_alloc ?_ _)); refine blk_far ?_ NB209_235.out _; (with_reducible repeat (first | refine blk_drewN ?_ _ | refine blk_drew ?_ | refine blk_alloc ?_ _)); refine blk_far ?_ NB209_235.out _; (with_reducible repeat (first | refine blk_drewN ?_ _ | refine blk_drew ?_ | refine blk_alloc ?_ _)); refine blk_far ?_ NB209_235.out _; (with_reducible repeat (first | refine blk_drewN ?_ _ | refine blk_drew ?_ | refine blk_alloc ?_ _)); refine blk_far ?_ NB209_235.out _; (with_reducible repeat (first | refine blk_drewN ?_ _ | refine blk_drew ?_ | refine blk_alloc ?_ _)); refine blk_far ?_ NB209_235.out _; (with_reducible repeat (first | refine blk_drewN ?_ _ | refine blk_drew ?_ | refine blk_alloc ?_ _)); refine blk_far ?_ NB209_235.out _; (with_reducible repeat (first | refine blk_drewN ?_ _ | refine blk_drew ?_ | refine blk_alloc ?_ _)); exact BK209.out⟩
                                have n5_ : Aside0 ((((((((w62.setCell ⟨gb235, 0, none⟩ (.int .i64 t202)).setCell ⟨gb235, 1, none⟩ (.int .i64 t203)).setCell ⟨gb235, 2, none⟩ (.int .i64 t204)).setCell ⟨gb235, 3, none⟩ (.slice (some ad228) t205.length co33)).setCell ⟨gb235, 4, none⟩ (.bool t208)).setCell ⟨gb235, 1, none⟩ (.int .i64 t204)).setCell ⟨gb235, 0, none⟩ (.int .i64 t204)).heap[gb210]? = some (.cells #[.int .i64 t202, .int .i64 t203, .int .i64 t204, .slice Ao42 y218.length co42, .bool t208] 25 (0, 0))) := ⟨by (with_reducible repeat (first | refine blk_drewN ?_ _ | refine blk_drew ?_ | refine blk_alloc ?_ _)); refine blk_far ?_ NB210_235.out _; (with_reducible repeat (first | refine blk_drewN ?_ _ | refine blk_drew ?_ | refine blk_alloc ?_ _)); refine blk_far ?_ NB210_235.out _; (with_reducible repeat (first | refine blk_drewN ?_ _ | refine blk_drew ?_ | refine blk_alloc ?_ _)); refine blk_far ?_ NB210_235.out _; (with_reducible repeat (first | refine blk_drewN ?_ _ | refine blk_drew ?_ | refine blk_alloc ?_ _)); refine blk_far ?_ NB210_235.out _; (with_reducible repeat (first | refine blk_drewN ?_ _ | refine blk_drew ?_ | refine blk_alloc ?_ _)); refine blk_far ?_ NB210_235.out _; (with_reducible repeat (first | refine blk_drewN ?_ _ | refine blk_drew ?_ | refine blk_alloc ?_ _)); refine blk_far ?_ NB210_235.out _; (with_reducible repeat (first | refine blk_drewN ?_ _ | refine blk_drew ?_ | refine blk_alloc ?_ _)); refine blk_far ?_ NB210_235.out _; (with_reducible repeat (first | refine blk_drewN ?_ _ | refine blk_drew ?_ | refine blk_alloc ?_ _)); exact BK210.out⟩
                                have n6_ : Aside0 ((((((((w62.setCell ⟨gb235, 0, none⟩ (.int .i64 t202)).setCell ⟨gb235, 1, none⟩ (.int .i64 t203)).setCell ⟨gb235, 2, none⟩ (.int .i64 t204)).setCell ⟨gb235, 3, none⟩ (.slice (some ad228) t205.length co33)).setCell ⟨gb235, 4, none⟩ (.bool t208)).setCell ⟨gb235, 1, none⟩ (.int .i64 t204)).setCell ⟨gb235, 0, none⟩ (.int .i64 t204)).heap[gb221]? = some (.cells #[.int .i64 t202, .int .i64 t203, .int .i64 t204, .slice Ao59 y232.length co59, .bool t208] 25 (0, 0))) := ⟨by (with_reducible repeat (first | refine blk_drewN ?_ _ | refine blk_drew ?_ | refine blk_alloc ?_ _)); refine blk_far ?_ NB221_235.out _; (with_reducible repeat (first | refine blk_drewN ?_ _ | refine blk_drew ?_ | refine blk_alloc ?_ _)); refine blk_far ?_ NB221_235.out _; (with_reducible repeat (first | refine blk_drewN ?_ _ | refine blk_drew ?_ | refine blk_alloc ?_ _)); refine blk_far ?_ NB221_235.out _; (with_reducible repeat (first | refine blk_drewN ?_ _ | refine blk_drew ?_ | refine blk_alloc ?_ _)); refine blk_far ?_ NB221_235.out _; (with_reducible repeat (first | refine blk_drewN ?_ _ | refine blk_drew ?_ | refine blk_alloc ?_ _)); refine blk_far ?_ NB221_235.out _; (with_reducible repeat (first | refine blk_drewN ?_ _ | refine blk_drew ?_ | refine blk_alloc ?_ _)); refine blk_far ?_ NB221_235.out _; (with_reducible repeat (first | refine blk_drewN ?_ _ | refine blk_drew ?_ | refine blk_alloc ?_ _)); refine blk_far ?_ NB221_235.out _; (with_reducible repeat (first | refine blk_drewN ?_ _ | refine blk_drew ?_ | refine blk_alloc ?_ _)); exact BK221.out⟩
                                have n7_ : Aside0 ((((((((w62.setCell ⟨gb235, 0, none⟩ (.int .i64 t202)).setCell ⟨gb235, 1, none⟩ (.int .i64 t203)).setCell ⟨gb235, 2, none⟩ (.int .i64 t204)).setCell ⟨gb235, 3, none⟩ (.slice (some ad228) t205.length co33)).setCell ⟨gb235, 4, none⟩ (.bool t208)).setCell ⟨gb235, 1, none⟩ (.int .i64 t204)).setCell ⟨gb235, 0, none⟩ (.int .i64 t204)).heap[gb235]? = some (.cells #[.int .i64 t204, .int .i64 t204, .int .i64 t204, .slice (some ad228) t205.length co33, .bool t208] 25 (0, 0))) := ⟨by (with_reducible repeat (first | refine blk_drewN ?_ _ | refine blk_drew ?_ | refine blk_alloc ?_ _)); refine blk_put (cs := #[.int .i64 t202, .int .i64 t204, .int .i64 t204, .slice (some ad228) t205.length co33, .bool t208]) ?_ 0 _ rfl; (with_reducible repeat (first | refine blk_drewN ?_ _ | refine blk_drew ?_ | refine blk_alloc ?_ _)); refine blk_put (cs := #[.int .i64 t202, .int .i64 t203, .int .i64 t204, .slice (some ad228) t205.length co33, .bool t208]) ?_ 1 _ rfl; (with_reducible repeat (first | refine blk_drewN ?_ _ | refine blk_drew ?_ | refine blk_alloc ?_ _)); refine blk_put (cs := #[.int .i64 t202, .int .i64 t203, .int .i64 t204, .slice (some ad228) t205.length co33, .bool false]) ?_ 4 _ rfl; (with_reducible repeat (first | refine blk_drewN ?_ _ | refine blk_drew ?_ | refine blk_alloc ?_ _)); refine blk_put (cs := #[.int .i64 t202, .int .i64 t203, .int .i64 t204, .slice none 0 0, .bool false]) ?_ 3 _ rfl; (with_reducible repeat (first | refine blk_drewN ?_ _ | refine blk_drew ?_ | refine blk_alloc ?_ _)); refine blk_put (cs := #[.int .i64 t202, .int .i64 t203, .int .i64 0, .slice none 0 0, .bool false]) ?_ 2 _ rfl; (with_reducible repeat (first | refine blk_drewN ?_ _ | refine blk_drew ?_ | refine blk_alloc ?_ _)); refine blk_put (cs := #[.int .i64 t202, .int .i64 0, .int .i64 0, .slice none 0 0, .bool false]) ?_ 1 _ rfl; (with_reducible repeat (first | refine blk_drewN ?_ _ | refine blk_drew ?_ | refine blk_alloc ?_ _)); refine blk_put (cs := #[.int .i64 0, .int .i64 0, .int .i64 0, .slice none 0 0, .bool false]) ?_ 0 _ rfl; (with_reducible repeat (first | refine blk_drewN ?_ _ | refine blk_drew ?_ | refine blk_alloc ?_ _)); exact BK235.out⟩
                                have n8_ : Aside0 (Below w.heap.size w (((((((w62.setCell ⟨gb235, 0, none⟩ (.int .i64 t202)).setCell ⟨gb235, 1, none⟩ (.int .i64 t203)).setCell ⟨gb235, 2, none⟩ (.int .i64 t204)).setCell ⟨gb235, 3, none⟩ (.slice (some ad228) t205.length co33)).setCell ⟨gb235, 4, none⟩ (.bool t208)).setCell ⟨gb235, 1, none⟩ (.int .i64 t204)).setCell ⟨gb235, 0, none⟩ (.int .i64 t204))) := ⟨by repeat (first | (with_reducible first | exact HB.out | apply below_alloc | apply pw_below_drewN | apply below_drew1 | refine below_set ?_ GE209.out | refine below_set ?_ GE210.out | refine below_set ?_ GE221.out | refine below_set ?_ GE235.out) | exact HB.out)⟩
                                (try clear HO207)
                                (try clear HO220)
                                (try clear HO231)
                                (try clear HO234)
                                (try clear BK209)
                                (try clear BK210)
                                (try clear BK221)
                                (try clear BK235)
                                (try clear HB)
                                generalize (((((((w62.setCell ⟨gb235, 0, none⟩ (.int .i64 t202)).setCell ⟨gb235, 1, none⟩ (.int .i64 t203)).setCell ⟨gb235, 2, none⟩ (.int .i64 t204)).setCell ⟨gb235, 3, none⟩ (.slice (some ad228) t205.length co33)).setCell ⟨gb235, 4, none⟩ (.bool t208)).setCell ⟨gb235, 1, none⟩ (.int .i64 t204)).setCell ⟨gb235, 0, none⟩ (.int .i64 t204)) = w68 at n0_ n1_ n2_ n3_ n4_ n5_ n6_ n7_ n8_ ⊢
                                have HO207 := n0_
                                have HO220 := n1_
                                have HO231 := n2_
                                have HO234 := n3_
                                have BK209 := n4_
                                have BK210 := n5_
                                have BK221 := n6_
                                have BK235 := n7_
                                have HB := n8_
                                clear n0_ n1_ n2_ n3_ n4_ n5_ n6_ n7_ n8_
                                have n0_ := Aside0.mk (Kd.R_drew HO207.out)
                                have n1_ := Aside0.mk (Kd.R_drew HO220.out)
                                have n2_ := Aside0.mk (Kd.R_drew HO231.out)
                                have n3_ := Aside0.mk (Kd.R_drew HO234.out)
                                have n4_ := Aside0.mk (blk_drew BK209.out)
                                have n5_ := Aside0.mk (blk_drew BK210.out)
                                have n6_ := Aside0.mk (blk_drew BK221.out)
                                have n7_ := Aside0.mk (blk_drew BK235.out)
                                have n8_ := Aside0.mk (below_drew1 HB.out)
                                clear HO207
                                clear HO220
                                clear HO231
                                clear HO234
                                clear BK209
                                clear BK210
                                clear BK221
                                clear BK235
                                clear HB
                                have HO207 := n0_
                                have HO220 := n1_
                                have HO231 := n2_
                                have HO234 := n3_
                                have BK209 := n4_
                                have BK210 := n5_
                                have BK221 := n6_
                                have BK235 := n7_
                                have HB := n8_
                                clear n0_ n1_ n2_ n3_ n4_ n5_ n6_ n7_ n8_
                                have p250 : 0 ≤ (0 : Int) := (by omega)
                                have q250 : 0 < (t205.length : Int) := of_decide_eq_true (by first | (with_reducible assumption) | assumption)
                                obtain ⟨ad250, e250, hx250_0⟩ := Kd.at_int (Kd.R_reads' HO207.out).2.2 0 p250 q250
                                obtain rfl : ad228 = ad250 := (by injection e250)
                                have qi250 : (0 < t205.length) = True := eq_true (by omega)
                                (try rw [show ((0 : Int)).toNat = 0 from rfl] at hx250_0)
                                (try rw [Addr.add_zero'] at hx250_0)
                                replace p250 := eq_true p250
                                replace q250 := eq_true q250
                                have p253 : 0 ≤ (0 : Int) := (by omega)
                                have q253 : 0 < (t205.length : Int) := of_decide_eq_true (by first | (with_reducible assumption) | assumption)
                                obtain ⟨ad253, e253, hx253_0⟩ := Kd.at_int (Kd.R_reads' HO207.out).2.2 0 p253 q253
                                obtain rfl : ad228 = ad253 := (by injection e253)
                                have qi253 : (0 < t205.length) = True := eq_true (by omega)
                                (try rw [show ((0 : Int)).toNat = 0 from rfl] at hx253_0)
                                (try rw [Addr.add_zero'] at hx253_0)
                                replace p253 := eq_true p253
                                replace q253 := eq_true q253
                                refine start_ (n := 51) (S := fun w' => w'.cell? ⟨gb209, 0, none⟩ = some (.int .i64 t202) ∧ w'.cell? ⟨gb209, 1, none⟩ = some (.int .i64 t203) ∧ w'.cell? ⟨gb209, 2, none⟩ = some (.int .i64 t204) ∧ w'.cell? ⟨gb209, 3, none⟩ = some (.slice (some ad228) t205.length co33) ∧ w'.cell? ⟨gb209, 4, none⟩ = some (.bool t208) ∧ w'.cell? ⟨gb210, 0, none⟩ = some (.int .i64 t202) ∧ w'.cell? ⟨gb210, 1, none⟩ = some (.int .i64 t203) ∧ w'.cell? ⟨gb210, 2, none⟩ = some (.int .i64 t204) ∧ w'.cell? ⟨gb210, 3, none⟩ = some (.slice Ao42 y218.length co42) ∧ w'.cell? ⟨gb210, 4, none⟩ = some (.bool t208) ∧ w'.cell? ⟨gb221, 0, none⟩ = some (.int .i64 t202) ∧ w'.cell? ⟨gb221, 1, none⟩ = some (.int .i64 t203) ∧ w'.cell? ⟨gb221, 2, none⟩ = some (.int .i64 t204) ∧ w'.cell? ⟨gb221, 3, none⟩ = some (.slice Ao59 y232.length co59) ∧ w'.cell? ⟨gb221, 4, none⟩ = some (.bool t208) ∧ w'.cell? ⟨gb235, 0, none⟩ = some (.int .i64 t204) ∧ w'.cell? ⟨gb235, 1, none⟩ = some (.int .i64 t204) ∧ w'.cell? ⟨gb235, 2, none⟩ = some (.int .i64 t204) ∧ w'.cell? ⟨gb235, 3, none⟩ = some (.slice (some ad228) t205.length co33) ∧ w'.cell? ⟨gb235, 4, none⟩ = some (.bool t208) ∧ w'.cell? ad228 = some (.int .i64 (rd t205 0)) ∧ w'.cell? ad228 = some (.int .i64 (rd t205 0))) (ds := []) #[false, false, false, false, false, false, false, false, false, false, false, false, false, false, false, false, false, false, false, false, false, false, false, false, false, false, false, false, false, false, false, false, false, false, false, false, false, false, false, false, false, false, false, false, false, false, false, false, false, false, false] (by kernel_rfl) rfl rfl ⟨(blk_cell BK209.out 0).trans rfl, (blk_cell BK209.out 1).trans rfl, (blk_cell BK209.out 2).trans rfl, (blk_cell BK209.out 3).trans rfl, (blk_cell BK209.out 4).trans rfl, (blk_cell BK210.out 0).trans rfl, (blk_cell BK210.out 1).trans rfl, (blk_cell BK210.out 2).trans rfl, (blk_cell BK210.out 3).trans rfl, (blk_cell BK210.out 4).trans rfl, (blk_cell BK221.out 0).trans rfl, (blk_cell BK221.out 1).trans rfl, (blk_cell BK221.out 2).trans rfl, (blk_cell BK221.out 3).trans rfl, (blk_cell BK221.out 4).trans rfl, (blk_cell BK235.out 0).trans rfl, (blk_cell BK235.out 1).trans rfl, (blk_cell BK235.out 2).trans rfl, (blk_cell BK235.out 3).trans rfl, (blk_cell BK235.out 4).trans rfl, hx250_0, hx253_0⟩ (fun hHeld => ?_); refine with_tabW laws_FnRules.tab11 laws_FnRules.bits11 (fun HT_ HW_ => ?_)
                                generalize w68.drew = w69 at HO207 HO220 HO231 HO234 BK209 BK210 BK221 BK235 HB hx250_0 hx253_0 hHeld ⊢
                                refine take_ (i := 0) (N := some 42) (v := ?_) (a' := ?_) #[true, false, false, false, false, false, false, false, false, false, false, false, false, false, false, false, false, false, false, false, false, false, false, false, false, false, false, false, false, false, false, false, false, false, false, false, false, false, false, false, false, false, false, false, false, false, false, false, false, false, false] rfl rfl (take_ofW HT_.out HW_.out (by kernel_rfl)) (fun _ _ _ h => h) (Or.inl ⟨by rfl, ?_⟩) hHeld ?_ ?_
                                rotate_left
                                · rintro w' ⟨s0, s1, s2, s3, s4, s5, s6, s7, s8, s9, s10, s11, s12, s13, s14, s15, s16, s17, s18, s19, s20, s21⟩
                                  go_simp
                                  with_reducible rfl
                                rotate_left
                                · simp only [Act.put, List.setIfInBounds_toArray, List.set_cons_zero, List.set_cons_succ, i64_w, i32_w]
                                  rfl
                                refine one_ (i := 1) (N := some 43) #[true, true, false, false, false, false, false, false, false, false, false, false, false, false, false, false, false, false, false, false, false, false, false, false, false, false, false, false, false, false, false, false, false, false, false, false, false, false, false, false, false, false, false, false, false, false, false, false, false, false, false] rfl rfl (one_of HT_.out (by kernel_rfl)) (by decide) (fun K hK => ?_)
                                refine goes_ Try.func11 (by kernel_rfl) rfl #[.agg #[.int .i64 t202, .int .i64 t203, .int .i64 t204, .slice (some ad228) t205.length co33, .bool t208]] (by rfl) rfl rfl (by (try simp only [List.map_toArray, List.map_cons, List.map_nil]); first | done | rfl | (simp only [List.length_drop, List.length_take]; rfl)) ?_
                                with_reducible refine (impl_RulesOk.calls k t202 t203 t204 _ _ t205 t208 true _ ?side1 ?side2 A11.out).mono ?_
                                (case side1 => repeat (first | exact (Kd.R_reads' HO207.out).2.2 | (with_reducible refine Kd.C_alloc ?_ _) | (with_reducible refine Kd.C_drewN ?_ _) | (with_reducible refine Kd.C_drew ?_)))
                                (case side2 => exact (Kd.R_reads' HO207.out).2.1)
                                rintro e w70 ⟨rfl, hb⟩
                                have HS20_ := (hb.cell (World.block_lt_of_cell? _ _ (hHeld.2.2.2.2.2.2.2.2.2.2.2.2.2.2.2.2.2.2.2.2.1))).trans (hHeld.2.2.2.2.2.2.2.2.2.2.2.2.2.2.2.2.2.2.2.2.1)
                                have HS21_ := (hb.cell (World.block_lt_of_cell? _ _ (hHeld.2.2.2.2.2.2.2.2.2.2.2.2.2.2.2.2.2.2.2.2.2))).trans (hHeld.2.2.2.2.2.2.2.2.2.2.2.2.2.2.2.2.2.2.2.2.2)
                                refine ⟨_, rfl, ?_⟩
                                have n0_ := Aside0.mk (Kd.R_below (by (with_reducible repeat (first | apply Kd.R_alloc | apply Kd.R_drewN | apply Kd.R_drew)); exact HO207.out) hb)
                                have n1_ := Aside0.mk (Kd.R_below (by (with_reducible repeat (first | apply Kd.R_alloc | apply Kd.R_drewN | apply Kd.R_drew)); exact HO220.out) hb)
                                have n2_ := Aside0.mk (Kd.R_below (by (with_reducible repeat (first | apply Kd.R_alloc | apply Kd.R_drewN | apply Kd.R_drew)); exact HO231.out) hb)
                                have n3_ := Aside0.mk (Kd.R_below (by (with_reducible repeat (first | apply Kd.R_alloc | apply Kd.R_drewN | apply Kd.R_drew)); exact HO234.out) hb)
                                have n4_ := Aside0.mk (blk_below (g := gb209) (o := .cells #[.int .i64 t202, .int .i64 t203, .int .i64 t204, .slice (some ad228) t205.length co33, .bool t208] 25 (0, 0)) (by (with_reducible repeat (first | refine blk_drewN ?_ _ | refine blk_drew ?_ | refine blk_alloc ?_ _)); exact BK209.out) hb)
                                have n5_ := Aside0.mk (blk_below (g := gb210) (o := .cells #[.int .i64 t202, .int .i64 t203, .int .i64 t204, .slice Ao42 y218.length co42, .bool t208] 25 (0, 0)) (by (with_reducible repeat (first | refine blk_drewN ?_ _ | refine blk_drew ?_ | refine blk_alloc ?_ _)); exact BK210.out) hb)
                                have n6_ := Aside0.mk (blk_below (g := gb221) (o := .cells #[.int .i64 t202, .int .i64 t203, .int .i64 t204, .slice Ao59 y232.length co59, .bool t208] 25 (0, 0)) (by (with_reducible repeat (first | refine blk_drewN ?_ _ | refine blk_drew ?_ | refine blk_alloc ?_ _)); exact BK221.out) hb)
                                have n7_ := Aside0.mk (blk_below (g := gb235) (o := .cells #[.int .i64 t204, .int .i64 t204, .int .i64 t204, .slice (some ad228) t205.length co33, .bool t208] 25 (0, 0)) (by (with_reducible repeat (first | refine blk_drewN ?_ _ | refine blk_drew ?_ | refine blk_alloc ?_ _)); exact BK235.out) hb)
                                have n8_ := Aside0.mk (below_step (by repeat (first | (with_reducible first | exact HB.out | apply below_alloc | apply pw_below_drewN | apply below_drew1 | refine below_set ?_ GE209.out | refine below_set ?_ GE210.out | refine below_set ?_ GE221.out | refine below_set ?_ GE235.out) | exact HB.out)) hb)
                                clear HO207
                                clear HO220
                                clear HO231
                                clear HO234
                                clear BK209
                                clear BK210
                                clear BK221
                                clear BK235
                                clear HB
                                have HO207 := n0_
                                have HO220 := n1_
                                have HO231 := n2_
                                have HO234 := n3_
                                have BK209 := n4_
                                have BK210 := n5_
                                have BK221 := n6_
                                have BK235 := n7_
                                have HB := n8_
                                clear n0_ n1_ n2_ n3_ n4_ n5_ n6_ n7_ n8_
                                (try clear hb)
                                (try clear hb2)
                                (try clear hk)
                                (try clear hi)
                                refine hK.out _ _ ⟨(blk_cell BK209.out 0).trans rfl, (blk_cell BK209.out 1).trans rfl, (blk_cell BK209.out 2).trans rfl, (blk_cell BK209.out 3).trans rfl, (blk_cell BK209.out 4).trans rfl, (blk_cell BK210.out 0).trans rfl, (blk_cell BK210.out 1).trans rfl, (blk_cell BK210.out 2).trans rfl, (blk_cell BK210.out 3).trans rfl, (blk_cell BK210.out 4).trans rfl, (blk_cell BK221.out 0).trans rfl, (blk_cell BK221.out 1).trans rfl, (blk_cell BK221.out 2).trans rfl, (blk_cell BK221.out 3).trans rfl, (blk_cell BK221.out 4).trans rfl, (blk_cell BK235.out 0).trans rfl, (blk_cell BK235.out 1).trans rfl, (blk_cell BK235.out 2).trans rfl, (blk_cell BK235.out 3).trans rfl, (blk_cell BK235.out 4).trans rfl, HS20_, HS21_⟩ (fun hHeld => ?_)
                                clear hK K
                                refine norm_ (a' := ?_) ?_ ?_
                                rotate_left
                                · show Act.put _ (some 43) _ = _
                                  simp only [Act.put, List.setIfInBounds_toArray, List.set_cons_zero, List.set_cons_succ, i64_w, i32_w]
                                  rfl
                                refine pure_ (i := 2) (N := some 44) (v := ?_) (a' := ?_) #[true, true, true, false, false, false, false, false, false, false, false, false, false, false, false, false, false, false, false, false, false, false, false, false, false, false, false, false, false, false, false, false, false, false, false, false, false, false, false, false, false, false, false, false, false, false, false, false, false, false, false] rfl rfl (any_of HT_.out (by kernel_rfl)) (fun _ _ _ h => h) (Or.inl ⟨by rfl, ?_⟩) ?_ ?_
                                rotate_left
                                · intro w'
                                  go_simp
                                  with_reducible rfl
                                rotate_left
                                · simp only [Act.put, List.setIfInBounds_toArray, List.set_cons_zero, List.set_cons_succ, i64_w, i32_w]
                                  rfl
                                refine take_ (i := 3) (N := some 45) (v := ?_) (a' := ?_) #[true, true, true, true, false, false, false, false, false, false, false, false, false, false, false, false, false, false, false, false, false, false, false, false, false, false, false, false, false, false, false, false, false, false, false, false, false, false, false, false, false, false, false, false, false, false, false, false, false, false, false] rfl rfl (take_ofW HT_.out HW_.out (by kernel_rfl)) (fun _ _ _ h => h) (Or.inl ⟨by rfl, ?_⟩) hHeld ?_ ?_
                                rotate_left
                                · rintro w' ⟨s0, s1, s2, s3, s4, s5, s6, s7, s8, s9, s10, s11, s12, s13, s14, s15, s16, s17, s18, s19, s20, s21⟩
                                  go_simp
                                  with_reducible rfl
                                rotate_left
                                · simp only [Act.put, List.setIfInBounds_toArray, List.set_cons_zero, List.set_cons_succ, i64_w, i32_w]
                                  rfl
                                refine one_ (i := 4) (N := some 46) #[true, true, true, true, true, false, false, false, false, false, false, false, false, false, false, false, false, false, false, false, false, false, false, false, false, false, false, false, false, false, false, false, false, false, false, false, false, false, false, false, false, false, false, false, false, false, false, false, false, false, false] rfl rfl (one_of HT_.out (by kernel_rfl)) (by decide) (fun K hK => ?_)
                                refine goes_ Try.func12 (by kernel_rfl) rfl #[.agg #[.int .i64 t202, .int .i64 t203, .int .i64 t204, .slice (some ad228) t205.length co33, .bool t208]] (by rfl) rfl rfl (by (try simp only [List.map_toArray, List.map_cons, List.map_nil]); first | done | rfl | (simp only [List.length_drop, List.length_take]; rfl)) ?_
                                with_reducible refine (impl_IsDecisive.calls k t202 t203 t204 _ _ t205 t208 true _ ?side1 ?side2 A13.out).mono ?_
                                (case side1 => repeat (first | exact (Kd.R_reads' HO207.out).2.2 | (with_reducible refine Kd.C_alloc ?_ _) | (with_reducible refine Kd.C_drewN ?_ _) | (with_reducible refine Kd.C_drew ?_)))
                                (case side2 => exact (Kd.R_reads' HO207.out).2.1)
                                rintro e w71 ⟨rfl, hb⟩
                                have HS20_ := (hb.cell (World.block_lt_of_cell? _ _ (hHeld.2.2.2.2.2.2.2.2.2.2.2.2.2.2.2.2.2.2.2.2.1))).trans (hHeld.2.2.2.2.2.2.2.2.2.2.2.2.2.2.2.2.2.2.2.2.1)
                                have HS21_ := (hb.cell (World.block_lt_of_cell? _ _ (hHeld.2.2.2.2.2.2.2.2.2.2.2.2.2.2.2.2.2.2.2.2.2))).trans (hHeld.2.2.2.2.2.2.2.2.2.2.2.2.2.2.2.2.2.2.2.2.2)
                                refine ⟨_, rfl, ?_⟩
                                have n0_ := Aside0.mk (Kd.R_below (by (with_reducible repeat (first | apply Kd.R_alloc | apply Kd.R_drewN | apply Kd.R_drew)); exact HO207.out) hb)
                                have n1_ := Aside0.mk (Kd.R_below (by (with_reducible repeat (first | apply Kd.R_alloc | apply Kd.R_drewN | apply Kd.R_drew)); exact HO220.out) hb)
                                have n2_ := Aside0.mk (Kd.R_below (by (with_reducible repeat (first | apply Kd.R_alloc | apply Kd.R_drewN | apply Kd.R_drew)); exact HO231.out) hb)
                                have n3_ := Aside0.mk (Kd.R_below (by (with_reducible repeat (first | apply Kd.R_alloc | apply Kd.R_drewN | apply Kd.R_drew)); exact HO234.out) hb)
                                have n4_ := Aside0.mk (blk_below (g := gb209) (o := .cells #[.int .i64 t202, .int .i64 t203, .int .i64 t204, .slice (some ad228) t205.length co33, .bool t208] 25 (0, 0)) (by (with_reducible repeat (first | refine blk_drewN ?_ _ | refine blk_drew ?_ | refine blk_alloc ?_ _)); exact BK209.out) hb)
                                have n5_ := Aside0.mk (blk_below (g := gb210) (o := .cells #[.int .i64 t202, .int .i64 t203, .int .i64 t204, .slice Ao42 y218.length co42, .bool t208] 25 (0, 0)) (by (with_reducible repeat (first | refine blk_drewN ?_ _ | refine blk_drew ?_ | refine blk_alloc ?_ _)); exact BK210.out) hb)
                                have n6_ := Aside0.mk (blk_below (g := gb221) (o := .cells #[.int .i64 t202, .int .i64 t203, .int .i64 t204, .slice Ao59 y232.length co59, .bool t208] 25 (0, 0)) (by (with_reducible repeat (first | refine blk_drewN ?_ _ | refine blk_drew ?_ | refine blk_alloc ?_ _)); exact BK221.out) hb)
                                have n7_ := Aside0.mk (blk_below (g := gb235) (o := .cells #[.int .i64 t204, .int .i64 t204, .int .i64 t204, .slice (some ad228) t205.length co33, .bool t208] 25 (0, 0)) (by (with_reducible repeat (first | refine blk_drewN ?_ _ | refine blk_drew ?_ | refine blk_alloc ?_ _)); exact BK235.out) hb)
                                have n8_ := Aside0.mk (below_step (by repeat (first | (with_reducible first | exact HB.out | apply below_alloc | apply pw_below_drewN | apply below_drew1 | refine below_set ?_ GE209.out | refine below_set ?_ GE210.out | refine below_set ?_ GE221.out | refine below_set ?_ GE235.out) | exact HB.out)) hb)
                                clear HO207
                                clear HO220
                                clear HO231
                                clear HO234
                                clear BK209
                                clear BK210
                                clear BK221
                                clear BK235
                                clear HB
                                have HO207 := n0_
                                have HO220 := n1_
                                have HO231 := n2_
                                have HO234 := n3_
                                have BK209 := n4_
                                have BK210 := n5_
                                have BK221 := n6_
                                have BK235 := n7_
                                have HB := n8_
                                clear n0_ n1_ n2_ n3_ n4_ n5_ n6_ n7_ n8_
                                (try clear hb)
                                (try clear hb2)
                                (try clear hk)
                                (try clear hi)
                                refine hK.out _ _ ⟨(blk_cell BK209.out 0).trans rfl, (blk_cell BK209.out 1).trans rfl, (blk_cell BK209.out 2).trans rfl, (blk_cell BK209.out 3).trans rfl, (blk_cell BK209.out 4).trans rfl, (blk_cell BK210.out 0).trans rfl, (blk_cell BK210.out 1).trans rfl, (blk_cell BK210.out 2).trans rfl, (blk_cell BK210.out 3).trans rfl, (blk_cell BK210.out 4).trans rfl, (blk_cell BK221.out 0).trans rfl, (blk_cell BK221.out 1).trans rfl, (blk_cell BK221.out 2).trans rfl, (blk_cell BK221.out 3).trans rfl, (blk_cell BK221.out 4).trans rfl, (blk_cell BK235.out 0).trans rfl, (blk_cell BK235.out 1).trans rfl, (blk_cell BK235.out 2).trans rfl, (blk_cell BK235.out 3).trans rfl, (blk_cell BK235.out 4).trans rfl, HS20_, HS21_⟩ (fun hHeld => ?_)
                                clear hK K
                                refine norm_ (a' := ?_) ?_ ?_
                                rotate_left
                                · show Act.put _ (some 46) _ = _
                                  simp only [Act.put, List.setIfInBounds_toArray, List.set_cons_zero, List.set_cons_succ, i64_w, i32_w]
                                  rfl
                                refine pure_ (i := 5) (N := some 47) (v := ?_) (a' := ?_) #[true, true, true, true, true, true, false, false, false, false, false, false, false, false, false, false, false, false, false, false, false, false, false, false, false, false, false, false, false, false, false, false, false, false, false, false, false, false, false, false, false, false, false, false, false, false, false, false, false, false, false] rfl rfl (any_of HT_.out (by kernel_rfl)) (fun _ _ _ h => h) (Or.inl ⟨by rfl, ?_⟩) ?_ ?_
                                rotate_left
                                · intro w'
                                  go_simp
                                  with_reducible rfl
                                rotate_left
                                · simp only [Act.put, List.setIfInBounds_toArray, List.set_cons_zero, List.set_cons_succ, i64_w, i32_w]
                                  rfl
                                refine pure_ (i := 6) (N := some 48) (v := ?_) (a' := ?_) #[true, true, true, true, true, true, true, false, false, false, false, false, false, false, false, false, false, false, false, false, false, false, false, false, false, false, false, false, false, false, false, false, false, false, false, false, false, false, false, false, false, false, false, false, false, false, false, false, false, false, false] rfl rfl (any_of HT_.out (by kernel_rfl)) (fun _ _ _ h => h) (Or.inl ⟨by rfl, ?_⟩) ?_ ?_
                                rotate_left
                                · intro w'
                                  go_simp
                                  with_reducible rfl
                                rotate_left
                                · simp only [Act.put, List.setIfInBounds_toArray, List.set_cons_zero, List.set_cons_succ, i64_w, i32_w]
                                  rfl
                                refine take_ (i := 7) (N := some 49) (v := ?_) (a' := ?_) #[true, true, true, true, true, true, true, true, false, false, false, false, false, false, false, false, false, false, false, false, false, false, false, false, false, false, false, false, false, false, false, false, false, false, false, false, false, false, false, false, false, false, false, false, false, false, false, false, false, false, false] rfl rfl (take_ofW HT_.out HW_.out (by kernel_rfl)) (fun _ _ _ h => h) (Or.inl ⟨by rfl, ?_⟩) hHeld ?_ ?_
                                rotate_left
                                · rintro w' ⟨s0, s1, s2, s3, s4, s5, s6, s7, s8, s9, s10, s11, s12, s13, s14, s15, s16, s17, s18, s19, s20, s21⟩
                                  go_simp
                                  with_reducible rfl
                                rotate_left
                                · simp only [Act.put, List.setIfInBounds_toArray, List.set_cons_zero, List.set_cons_succ, i64_w, i32_w]
                                  rfl
                                refine one_ (i := 8) (N := some 50) #[true, true, true, true, true, true, true, true, true, false, false, false, false, false, false, false, false, false, false, false, false, false, false, false, false, false, false, false, false, false, false, false, false, false, false, false, false, false, false, false, false, false, false, false, false, false, false, false, false, false, false] rfl rfl (one_of HT_.out (by kernel_rfl)) (by decide) (fun K hK => ?_)
                                refine goes_ Try.func13 (by kernel_rfl) rfl #[.agg #[.int .i64 t202, .int .i64 t203, .int .i64 t204, .slice (some ad228) t205.length co33, .bool t208]] (by rfl) rfl rfl (by (try simp only [List.map_toArray, List.map_cons, List.map_nil]); first | done | rfl | (simp only [List.length_drop, List.length_take]; rfl)) ?_
                                with_reducible refine (impl_FaultOf.calls k t202 t203 t204 _ _ t205 t208 t238 _ ?side1 ?side2 A15.out).mono ?_
                                (case side1 => repeat (first | exact (Kd.R_reads' HO207.out).2.2 | (with_reducible refine Kd.C_alloc ?_ _) | (with_reducible refine Kd.C_drewN ?_ _) | (with_reducible refine Kd.C_drew ?_)))
                                (case side2 => exact (Kd.R_reads' HO207.out).2.1)
                                rintro e w72 ⟨rfl, hb⟩
                                have HS20_ := (hb.cell (World.block_lt_of_cell? _ _ (hHeld.2.2.2.2.2.2.2.2.2.2.2.2.2.2.2.2.2.2.2.2.1))).trans (hHeld.2.2.2.2.2.2.2.2.2.2.2.2.2.2.2.2.2.2.2.2.1)
                                have HS21_ := (hb.cell (World.block_lt_of_cell? _ _ (hHeld.2.2.2.2.2.2.2.2.2.2.2.2.2.2.2.2.2.2.2.2.2))).trans (hHeld.2.2.2.2.2.2.2.2.2.2.2.2.2.2.2.2.2.2.2.2.2)
                                refine ⟨_, rfl, ?_⟩
                                have n0_ := Aside0.mk (Kd.R_below (by (with_reducible repeat (first | apply Kd.R_alloc | apply Kd.R_drewN | apply Kd.R_drew)); exact HO207.out) hb)
                                have n1_ := Aside0.mk (Kd.R_below (by (with_reducible repeat (first | apply Kd.R_alloc | apply Kd.R_drewN | apply Kd.R_drew)); exact HO220.out) hb)
                                have n2_ := Aside0.mk (Kd.R_below (by (with_reducible repeat (first | apply Kd.R_alloc | apply Kd.R_drewN | apply Kd.R_drew)); exact HO231.out) hb)
                                have n3_ := Aside0.mk (Kd.R_below (by (with_reducible repeat (first | apply Kd.R_alloc | apply Kd.R_drewN | apply Kd.R_drew)); exact HO234.out) hb)
                                have n4_ := Aside0.mk (blk_below (g := gb209) (o := .cells #[.int .i64 t202, .int .i64 t203, .int .i64 t204, .slice (some ad228) t205.length co33, .bool t208] 25 (0, 0)) (by (with_reducible repeat (first | refine blk_drewN ?_ _ | refine blk_drew ?_ | refine blk_alloc ?_ _)); exact BK209.out) hb)
                                have n5_ := Aside0.mk (blk_below (g := gb210) (o := .cells #[.int .i64 t202, .int .i64 t203, .int .i64 t204, .slice Ao42 y218.length co42, .bool t208] 25 (0, 0)) (by (with_reducible repeat (first | refine blk_drewN ?_ _ | refine blk_drew ?_ | refine blk_alloc ?_ _)); exact BK210.out) hb)
                                have n6_ := Aside0.mk (blk_below (g := gb221) (o := .cells #[.int .i64 t202, .int .i64 t203, .int .i64 t204, .slice Ao59 y232.length co59, .bool t208] 25 (0, 0)) (by (with_reducible repeat (first | refine blk_drewN ?_ _ | refine blk_drew ?_ | refine blk_alloc ?_ _)); exact BK221.out) hb)
                                have n7_ := Aside0.mk (blk_below (g := gb235) (o := .cells #[.int .i64 t204, .int .i64 t204, .int .i64 t204, .slice (some ad228) t205.length co33, .bool t208] 25 (0, 0)) (by (with_reducible repeat (first | refine blk_drewN ?_ _ | refine blk_drew ?_ | refine blk_alloc ?_ _)); exact BK235.out) hb)
                                have n8_ := Aside0.mk (below_step (by repeat (first | (with_reducible first | exact HB.out | apply below_alloc | apply pw_below_drewN | apply below_drew1 | refine below_set ?_ GE209.out | refine below_set ?_ GE210.out | refine below_set ?_ GE221.out | refine below_set ?_ GE235.out) | exact HB.out)) hb)
                                clear HO207
                                clear HO220
                                clear HO231
                                clear HO234
                                clear BK209
                                clear BK210
                                clear BK221
                                clear BK235
                                clear HB
                                have HO207 := n0_
                                have HO220 := n1_
                                have HO231 := n2_
                                have HO234 := n3_
                                have BK209 := n4_
                                have BK210 := n5_
                                have BK221 := n6_
                                have BK235 := n7_
                                have HB := n8_
                                clear n0_ n1_ n2_ n3_ n4_ n5_ n6_ n7_ n8_
                                (try clear hb)
                                (try clear hb2)
                                (try clear hk)
                                (try clear hi)
                                refine hK.out _ _ ⟨(blk_cell BK209.out 0).trans rfl, (blk_cell BK209.out 1).trans rfl, (blk_cell BK209.out 2).trans rfl, (blk_cell BK209.out 3).trans rfl, (blk_cell BK209.out 4).trans rfl, (blk_cell BK210.out 0).trans rfl, (blk_cell BK210.out 1).trans rfl, (blk_cell BK210.out 2).trans rfl, (blk_cell BK210.out 3).trans rfl, (blk_cell BK210.out 4).trans rfl, (blk_cell BK221.out 0).trans rfl, (blk_cell BK221.out 1).trans rfl, (blk_cell BK221.out 2).trans rfl, (blk_cell BK221.out 3).trans rfl, (blk_cell BK221.out 4).trans rfl, (blk_cell BK235.out 0).trans rfl, (blk_cell BK235.out 1).trans rfl, (blk_cell BK235.out 2).trans rfl, (blk_cell BK235.out 3).trans rfl, (blk_cell BK235.out 4).trans rfl, HS20_, HS21_⟩ (fun hHeld => ?_)
                                clear hK K
                                refine norm_ (a' := ?_) ?_ ?_
                                rotate_left
                                · show Act.put _ (some 50) _ = _
                                  simp only [Act.put, List.setIfInBounds_toArray, List.set_cons_zero, List.set_cons_succ, i64_w, i32_w]
                                  rfl
                                refine pure_ (i := 9) (N := some 51) (v := ?_) (a' := ?_) #[true, true, true, true, true, true, true, true, true, true, false, false, false, false, false, false, false, false, false, false, false, false, false, false, false, false, false, false, false, false, false, false, false, false, false, false, false, false, false, false, false, false, false, false, false, false, false, false, false, false, false] rfl rfl (any_of HT_.out (by kernel_rfl)) (fun _ _ _ h => h) (Or.inl ⟨by rfl, ?_⟩) ?_ ?_
                                rotate_left
                                · intro w'
                                  go_simp
                                  with_reducible rfl
                                rotate_left
                                · simp only [Act.put, List.setIfInBounds_toArray, List.set_cons_zero, List.set_cons_succ, i64_w, i32_w]
                                  rfl
                                refine pure_ (i := 10) (N := some 52) (v := ?_) (a' := ?_) #[true, true, true, true, true, true, true, true, true, true, true, false, false, false, false, false, false, false, false, false, false, false, false, false, false, false, false, false, false, false, false, false, false, false, false, false, false, false, false, false, false, false, false, false, false, false, false, false, false, false, false] rfl rfl (any_of HT_.out (by kernel_rfl)) (fun _ _ _ h => h) (Or.inl ⟨by rfl, ?_⟩) ?_ ?_
                                rotate_left
                                · intro w'
                                  go_simp
                                  with_reducible rfl
                                rotate_left
                                · simp only [Act.put, List.setIfInBounds_toArray, List.set_cons_zero, List.set_cons_succ, i64_w, i32_w]
                                  rfl
                                refine pure_ (i := 11) (N := some 53) (v := ?_) (a' := ?_) #[true, true, true, true, true, true, true, true, true, true, true, true, false, false, false, false, false, false, false, false, false, false, false, false, false, false, false, false, false, false, false, false, false, false, false, false, false, false, false, false, false, false, false, false, false, false, false, false, false, false, false] rfl rfl (any_of HT_.out (by kernel_rfl)) (fun _ _ _ h => h) (Or.inl ⟨by rfl, ?_⟩) ?_ ?_
                                rotate_left
                                · intro w'
                                  go_simp
                                  with_reducible rfl
                                rotate_left
                                · simp only [Act.put, List.setIfInBounds_toArray, List.set_cons_zero, List.set_cons_succ, i64_w, i32_w]
                                  rfl
                                refine take_ (i := 12) (N := some 54) (v := ?_) (a' := ?_) #[true, true, true, true, true, true, true, true, true, true, true, true, true, false, false, false, false, false, false, false, false, false, false, false, false, false, false, false, false, false, false, false, false, false, false, false, false, false, false, false, false, false, false, false, false, false, false, false, false, false, false] rfl rfl (take_ofW HT_.out HW_.out (by kernel_rfl)) (fun _ _ _ h => h) (Or.inl ⟨by rfl, ?_⟩) hHeld ?_ ?_
                                rotate_left
                                · rintro w' ⟨s0, s1, s2, s3, s4, s5, s6, s7, s8, s9, s10, s11, s12, s13, s14, s15, s16, s17, s18, s19, s20, s21⟩
                                  go_simp
                                  with_reducible rfl
                                rotate_left
                                · simp only [Act.put, List.setIfInBounds_toArray, List.set_cons_zero, List.set_cons_succ, i64_w, i32_w]
                                  rfl
                                refine one_ (i := 13) (N := some 55) #[true, true, true, true, true, true, true, true, true, true, true, true, true, true, false, false, false, false, false, false, false, false, false, false, false, false, false, false, false, false, false, false, false, false, false, false, false, false, false, false, false, false, false, false, false, false, false, false, false, false, false] rfl rfl (one_of HT_.out (by kernel_rfl)) (by decide) (fun K hK => ?_)
                                refine goes_ Try.func13 (by kernel_rfl) rfl #[.agg #[.int .i64 t202, .int .i64 t203, .int .i64 t204, .slice Ao42 y218.length co42, .bool t208]] (by rfl) rfl rfl (by (try simp only [List.map_toArray, List.map_cons, List.map_nil]); first | done | rfl | (simp only [List.length_drop, List.length_take]; rfl)) ?_
                                with_reducible refine (impl_FaultOf.calls k t202 t203 t204 _ _ y218 t208 t239 _ ?side1 ?side2 A17.out).mono ?_
                                (case side1 => repeat (first | exact (Kd.R_reads' HO220.out).2.2 | (with_reducible refine Kd.C_alloc ?_ _) | (with_reducible refine Kd.C_drewN ?_ _) | (with_reducible refine Kd.C_drew ?_)))
                                (case side2 => exact (Kd.R_reads' HO220.out).2.1)
                                rintro e w73 ⟨rfl, hb⟩
                                have HS20_ := (hb.cell (World.block_lt_of_cell? _ _ (hHeld.2.2.2.2.2.2.2.2.2.2.2.2.2.2.2.2.2.2.2.2.1))).trans (hHeld.2.2.2.2.2.2.2.2.2.2.2.2.2.2.2.2.2.2.2.2.1)
                                have HS21_ := (hb.cell (World.block_lt_of_cell? _ _ (hHeld.2.2.2.2.2.2.2.2.2.2.2.2.2.2.2.2.2.2.2.2.2))).trans (hHeld.2.2.2.2.2.2.2.2.2.2.2.2.2.2.2.2.2.2.2.2.2)
                                refine ⟨_, rfl, ?_⟩
                                have n0_ := Aside0.mk (Kd.R_below (by (with_reducible repeat (first | apply Kd.R_alloc | apply Kd.R_drewN | apply Kd.R_drew)); exact HO207.out) hb)
                                have n1_ := Aside0.mk (Kd.R_below (by (with_reducible repeat (first | apply Kd.R_alloc | apply Kd.R_drewN | apply Kd.R_drew)); exact HO220.out) hb)
                                have n2_ := Aside0.mk (Kd.R_below (by (with_reducible repeat (first | apply Kd.R_alloc | apply Kd.R_drewN | apply Kd.R_drew)); exact HO231.out) hb)
                                have n3_ := Aside0.mk (Kd.R_below (by (with_reducible repeat (first | apply Kd.R_alloc | apply Kd.R_drewN | apply Kd.R_drew)); exact HO234.out) hb)
                                have n4_ := Aside0.mk (blk_below (g := gb209) (o := .cells #[.int .i64 t202, .int .i64 t203, .int .i64 t204, .slice (some ad228) t205.length co33, .bool t208] 25 (0, 0)) (by (with_reducible repeat (first | refine blk_drewN ?_ _ | refine blk_drew ?_ | refine blk_alloc ?_ _)); exact BK209.out) hb)
                                have n5_ := Aside0.mk (blk_below (g := gb210) (o := .cells #[.int .i64 t202, .int .i64 t203, .int .i64 t204, .slice Ao42 y218.length co42, .bool t208] 25 (0, 0)) (by (with_reducible repeat (first | refine blk_drewN ?_ _ | refine blk_drew ?_ | refine blk_alloc ?_ _)); exact BK210.out) hb)
                                have n6_ := Aside0.mk (blk_below (g := gb221) (o := .cells #[.int .i64 t202, .int .i64 t203, .int .i64 t204, .slice Ao59 y232.length co59, .bool t208] 25 (0, 0)) (by (with_reducible repeat (first | refine blk_drewN ?_ _ | refine blk_drew ?_ | refine blk_alloc ?_ _)); exact BK221.out) hb)
                                have n7_ := Aside0.mk (blk_below (g := gb235) (o := .cells #[.int .i64 t204, .int .i64 t204, .int .i64 t204, .slice (some ad228) t205.length co33, .bool t208] 25 (0, 0)) (by (with_reducible repeat (first | refine blk_drewN ?_ _ | refine blk_drew ?_ | refine blk_alloc ?_ _)); exact BK235.out) hb)
                                have n8_ := Aside0.mk (below_step (by repeat (first | (with_reducible first | exact HB.out | apply below_alloc | apply pw_below_drewN | apply below_drew1 | refine below_set ?_ GE209.out | refine below_set ?_ GE210.out | refine below_set ?_ GE221.out | refine below_set ?_ GE235.out) | exact HB.out)) hb)
                                clear HO207
                                clear HO220
                                clear HO231
                                clear HO234
                                clear BK209
                                clear BK210
                                clear BK221
                                clear BK235
                                clear HB
                                have HO207 := n0_
                                have HO220 := n1_
                                have HO231 := n2_
                                have HO234 := n3_
                                have BK209 := n4_
                                have BK210 := n5_
                                have BK221 := n6_
                                have BK235 := n7_
                                have HB := n8_
                                clear n0_ n1_ n2_ n3_ n4_ n5_ n6_ n7_ n8_
                                (try clear hb)
                                (try clear hb2)
                                (try clear hk)
                                (try clear hi)
                                refine hK.out _ _ ⟨(blk_cell BK209.out 0).trans rfl, (blk_cell BK209.out 1).trans rfl, (blk_cell BK209.out 2).trans rfl, (blk_cell BK209.out 3).trans rfl, (blk_cell BK209.out 4).trans rfl, (blk_cell BK210.out 0).trans rfl, (blk_cell BK210.out 1).trans rfl, (blk_cell BK210.out 2).trans rfl, (blk_cell BK210.out 3).trans rfl, (blk_cell BK210.out 4).trans rfl, (blk_cell BK221.out 0).trans rfl, (blk_cell BK221.out 1).trans rfl, (blk_cell BK221.out 2).trans rfl, (blk_cell BK221.out 3).trans rfl, (blk_cell BK221.out 4).trans rfl, (blk_cell BK235.out 0).trans rfl, (blk_cell BK235.out 1).trans rfl, (blk_cell BK235.out 2).trans rfl, (blk_cell BK235.out 3).trans rfl, (blk_cell BK235.out 4).trans rfl, HS20_, HS21_⟩ (fun hHeld => ?_)
                                clear hK K
                                refine norm_ (a' := ?_) ?_ ?_
                                rotate_left
                                · show Act.put _ (some 55) _ = _
                                  simp only [Act.put, List.setIfInBounds_toArray, List.set_cons_zero, List.set_cons_succ, i64_w, i32_w]
                                  rfl
                                refine pure_ (i := 14) (N := some 56) (v := ?_) (a' := ?_) #[true, true, true, true, true, true, true, true, true, true, true, true, true, true, true, false, false, false, false, false, false, false, false, false, false, false, false, false, false, false, false, false, false, false, false, false, false, false, false, false, false, false, false, false, false, false, false, false, false, false, false] rfl rfl (any_of HT_.out (by kernel_rfl)) (fun _ _ _ h => h) (Or.inl ⟨by rfl, ?_⟩) ?_ ?_
                                rotate_left
                                · intro w'
                                  go_simp
                                  with_reducible rfl
                                rotate_left
                                · simp only [Act.put, List.setIfInBounds_toArray, List.set_cons_zero, List.set_cons_succ, i64_w, i32_w]
                                  rfl
                                refine pure_ (i := 15) (N := some 57) (v := ?_) (a' := ?_) #[true, true, true, true, true, true, true, true, true, true, true, true, true, true, true, true, false, false, false, false, false, false, false, false, false, false, false, false, false, false, false, false, false, false, false, false, false, false, false, false, false, false, false, false, false, false, false, false, false, false, false] rfl rfl (any_of HT_.out (by kernel_rfl)) (fun _ _ _ h => h) (Or.inl ⟨by rfl, ?_⟩) ?_ ?_
                                rotate_left
                                · intro w'
                                  go_simp
                                  with_reducible rfl
                                rotate_left
                                · simp only [Act.put, List.setIfInBounds_toArray, List.set_cons_zero, List.set_cons_succ, i64_w, i32_w]
                                  rfl
                                refine pure_ (i := 16) (N := some 58) (v := ?_) (a' := ?_) #[true, true, true, true, true, true, true, true, true, true, true, true, true, true, true, true, true, false, false, false, false, false, false, false, false, false, false, false, false, false, false, false, false, false, false, false, false, false, false, false, false, false, false, false, false, false, false, false, false, false, false] rfl rfl (any_of HT_.out (by kernel_rfl)) (fun _ _ _ h => h) (Or.inl ⟨by rfl, ?_⟩) ?_ ?_
                                rotate_left
                                · intro w'
                                  go_simp
                                  with_reducible rfl
                                rotate_left
                                · simp only [Act.put, List.setIfInBounds_toArray, List.set_cons_zero, List.set_cons_succ, i64_w, i32_w]
                                  rfl
                                refine take_ (i := 17) (N := some 59) (v := ?_) (a' := ?_) #[true, true, true, true, true, true, true, true, true, true, true, true, true, true, true, true, true, true, false, false, false, false, false, false, false, false, false, false, false, false, false, false, false, false, false, false, false, false, false, false, false, false, false, false, false, false, false, false, false, false, false] rfl rfl (take_ofW HT_.out HW_.out (by kernel_rfl)) (fun _ _ _ h => h) (Or.inl ⟨by rfl, ?_⟩) hHeld ?_ ?_
                                rotate_left
                                · rintro w' ⟨s0, s1, s2, s3, s4, s5, s6, s7, s8, s9, s10, s11, s12, s13, s14, s15, s16, s17, s18, s19, s20, s21⟩
                                  go_simp
                                  with_reducible rfl
                                rotate_left
                                · simp only [Act.put, List.setIfInBounds_toArray, List.set_cons_zero, List.set_cons_succ, i64_w, i32_w]
                                  rfl
                                refine one_ (i := 18) (N := some 60) #[true, true, true, true, true, true, true, true, true, true, true, true, true, true, true, true, true, true, true, false, false, false, false, false, false, false, false, false, false, false, false, false, false, false, false, false, false, false, false, false, false, false, false, false, false, false, false, false, false, false, false] rfl rfl (one_of HT_.out (by kernel_rfl)) (by decide) (fun K hK => ?_)
                                refine goes_ Try.func13 (by kernel_rfl) rfl #[.agg #[.int .i64 t202, .int .i64 t203, .int .i64 t204, .slice Ao59 y232.length co59, .bool t208]] (by rfl) rfl rfl (by (try simp only [List.map_toArray, List.map_cons, List.map_nil]); first | done | rfl | (simp only [List.length_drop, List.length_take]; rfl)) ?_
                                with_reducible refine (impl_FaultOf.calls k t202 t203 t204 _ _ y232 t208 t240 _ ?side1 ?side2 A19.out).mono ?_
                                (case side1 => repeat (first | exact (Kd.R_reads' HO234.out).2.2 | (with_reducible refine Kd.C_alloc ?_ _) | (with_reducible refine Kd.C_drewN ?_ _) | (with_reducible refine Kd.C_drew ?_)))
                                (case side2 => exact (Kd.R_reads' HO234.out).2.1)
                                rintro e w74 ⟨rfl, hb⟩
                                have HS20_ := (hb.cell (World.block_lt_of_cell? _ _ (hHeld.2.2.2.2.2.2.2.2.2.2.2.2.2.2.2.2.2.2.2.2.1))).trans (hHeld.2.2.2.2.2.2.2.2.2.2.2.2.2.2.2.2.2.2.2.2.1)
                                have HS21_ := (hb.cell (World.block_lt_of_cell? _ _ (hHeld.2.2.2.2.2.2.2.2.2.2.2.2.2.2.2.2.2.2.2.2.2))).trans (hHeld.2.2.2.2.2.2.2.2.2.2.2.2.2.2.2.2.2.2.2.2.2)
                                refine ⟨_, rfl, ?_⟩
                                have n0_ := Aside0.mk (Kd.R_below (by (with_reducible repeat (first | apply Kd.R_alloc | apply Kd.R_drewN | apply Kd.R_drew)); exact HO207.out) hb)
                                have n1_ := Aside0.mk (Kd.R_below (by (with_reducible repeat (first | apply Kd.R_alloc | apply Kd.R_drewN | apply Kd.R_drew)); exact HO220.out) hb)
                                have n2_ := Aside0.mk (Kd.R_below (by (with_reducible repeat (first | apply Kd.R_alloc | apply Kd.R_drewN | apply Kd.R_drew)); exact HO231.out) hb)
                                have n3_ := Aside0.mk (Kd.R_below (by (with_reducible repeat (first | apply Kd.R_alloc | apply Kd.R_drewN | apply Kd.R_drew)); exact HO234.out) hb)
                                have n4_ := Aside0.mk (blk_below (g := gb209) (o := .cells #[.int .i64 t202, .int .i64 t203, .int .i64 t204, .slice (some ad228) t205.length co33, .bool t208] 25 (0, 0)) (by (with_reducible repeat (first | refine blk_drewN ?_ _ | refine blk_drew ?_ | refine blk_alloc ?_ _)); exact BK209.out) hb)
                                have n5_ := Aside0.mk (blk_below (g := gb210) (o := .cells #[.int .i64 t202, .int .i64 t203, .int .i64 t204, .slice Ao42 y218.length co42, .bool t208] 25 (0, 0)) (by (with_reducible repeat (first | refine blk_drewN ?_ _ | refine blk_drew ?_ | refine blk_alloc ?_ _)); exact BK210.out) hb)
                                have n6_ := Aside0.mk (blk_below (g := gb221) (o := .cells #[.int .i64 t202, .int .i64 t203, .int .i64 t204, .slice Ao59 y232.length co59, .bool t208] 25 (0, 0)) (by (with_reducible repeat (first | refine blk_drewN ?_ _ | refine blk_drew ?_ | refine blk_alloc ?_ _)); exact BK221.out) hb)
                                have n7_ := Aside0.mk (blk_below (g := gb235) (o := .cells #[.int .i64 t204, .int .i64 t204, .int .i64 t204, .slice (some ad228) t205.length co33, .bool t208] 25 (0, 0)) (by (with_reducible repeat (first | refine blk_drewN ?_ _ | refine blk_drew ?_ | refine blk_alloc ?_ _)); exact BK235.out) hb)
                                have n8_ := Aside0.mk (below_step (by repeat (first | (with_reducible first | exact HB.out | apply below_alloc | apply pw_below_drewN | apply below_drew1 | refine below_set ?_ GE209.out | refine below_set ?_ GE210.out | refine below_set ?_ GE221.out | refine below_set ?_ GE235.out) | exact HB.out)) hb)
                                clear HO207
                                clear HO220
                                clear HO231
                                clear HO234
                                clear BK209
                                clear BK210
                                clear BK221
                                clear BK235
                                clear HB
                                have HO207 := n0_
                                have HO220 := n1_
                                have HO231 := n2_
                                have HO234 := n3_
                                have BK209 := n4_
                                have BK210 := n5_
                                have BK221 := n6_
                                have BK235 := n7_
                                have HB := n8_
                                clear n0_ n1_ n2_ n3_ n4_ n5_ n6_ n7_ n8_
                                (try clear hb)
                                (try clear hb2)
                                (try clear hk)
                                (try clear hi)
                                refine hK.out _ _ ⟨(blk_cell BK209.out 0).trans rfl, (blk_cell BK209.out 1).trans rfl, (blk_cell BK209.out 2).trans rfl, (blk_cell BK209.out 3).trans rfl, (blk_cell BK209.out 4).trans rfl, (blk_cell BK210.out 0).trans rfl, (blk_cell BK210.out 1).trans rfl, (blk_cell BK210.out 2).trans rfl, (blk_cell BK210.out 3).trans rfl, (blk_cell BK210.out 4).trans rfl, (blk_cell BK221.out 0).trans rfl, (blk_cell BK221.out 1).trans rfl, (blk_cell BK221.out 2).trans rfl, (blk_cell BK221.out 3).trans rfl, (blk_cell BK221.out 4).trans rfl, (blk_cell BK235.out 0).trans rfl, (blk_cell BK235.out 1).trans rfl, (blk_cell BK235.out 2).trans rfl, (blk_cell BK235.out 3).trans rfl, (blk_cell BK235.out 4).trans rfl, HS20_, HS21_⟩ (fun hHeld => ?_)
                                clear hK K
                                refine norm_ (a' := ?_) ?_ ?_
                                rotate_left
                                · show Act.put _ (some 60) _ = _
                                  simp only [Act.put, List.setIfInBounds_toArray, List.set_cons_zero, List.set_cons_succ, i64_w, i32_w]
                                  rfl
                                refine pure_ (i := 19) (N := some 61) (v := ?_) (a' := ?_) #[true, true, true, true, true, true, true, true, true, true, true, true, true, true, true, true, true, true, true, true, false, false, false, false, false, false, false, false, false, false, false, false, false, false, false, false, false, false, false, false, false, false, false, false, false, false, false, false, false, false, false] rfl rfl (any_of HT_.out (by kernel_rfl)) (fun _ _ _ h => h) (Or.inl ⟨by rfl, ?_⟩) ?_ ?_
                                rotate_left
                                · intro w'
                                  go_simp
                                  with_reducible rfl
                                rotate_left
                                · simp only [Act.put, List.setIfInBounds_toArray, List.set_cons_zero, List.set_cons_succ, i64_w, i32_w]
                                  rfl
                                refine pure_ (i := 20) (N := some 62) (v := ?_) (a' := ?_) #[true, true, true, true, true, true, true, true, true, true, true, true, true, true, true, true, true, true, true, true, true, false, false, false, false, false, false, false, false, false, false, false, false, false, false, false, false, false, false, false, false, false, false, false, false, false, false, false, false, false, false] rfl rfl (any_of HT_.out (by kernel_rfl)) (fun _ _ _ h => h) (Or.inl ⟨by rfl, ?_⟩) ?_ ?_
                                rotate_left
                                · intro w'
                                  go_simp
                                  with_reducible rfl
                                rotate_left
                                · simp only [Act.put, List.setIfInBounds_toArray, List.set_cons_zero, List.set_cons_succ, i64_w, i32_w]
                                  rfl
                                refine pure_ (i := 21) (N := some 63) (v := ?_) (a' := ?_) #[true, true, true, true, true, true, true, true, true, true, true, true, true, true, true, true, true, true, true, true, true, true, false, false, false, false, false, false, false, false, false, false, false, false, false, false, false, false, false, false, false, false, false, false, false, false, false, false, false, false, false] rfl rfl (any_of HT_.out (by kernel_rfl)) (fun _ _ _ h => h) (Or.inl ⟨by rfl, ?_⟩) ?_ ?_
                                rotate_left
                                · intro w'
                                  go_simp
                                  with_reducible rfl
                                rotate_left
                                · simp only [Act.put, List.setIfInBounds_toArray, List.set_cons_zero, List.set_cons_succ, i64_w, i32_w]
                                  rfl
                                refine take_ (i := 22) (N := some 64) (v := ?_) (a' := ?_) #[true, true, true, true, true, true, true, true, true, true, true, true, true, true, true, true, true, true, true, true, true, true, true, false, false, false, false, false, false, false, false, false, false, false, false, false, false, false, false, false, false, false, false, false, false, false, false, false, false, false, false] rfl rfl (take_ofW HT_.out HW_.out (by kernel_rfl)) (fun _ _ _ h => h) (Or.inl ⟨by rfl, ?_⟩) hHeld ?_ ?_
                                rotate_left
                                · rintro w' ⟨s0, s1, s2, s3, s4, s5, s6, s7, s8, s9, s10, s11, s12, s13, s14, s15, s16, s17, s18, s19, s20, s21⟩
                                  go_simp
                                  with_reducible rfl
                                rotate_left
                                · simp only [Act.put, List.setIfInBounds_toArray, List.set_cons_zero, List.set_cons_succ, i64_w, i32_w]
                                  rfl
                                refine one_ (i := 23) (N := some 65) #[true, true, true, true, true, true, true, true, true, true, true, true, true, true, true, true, true, true, true, true, true, true, true, true, false, false, false, false, false, false, false, false, false, false, false, false, false, false, false, false, false, false, false, false, false, false, false, false, false, false, false] rfl rfl (one_of HT_.out (by kernel_rfl)) (by decide) (fun K hK => ?_)
                                refine goes_ Try.func13 (by kernel_rfl) rfl #[.agg #[.int .i64 t204, .int .i64 t204, .int .i64 t204, .slice (some ad228) t205.length co33, .bool t208]] (by rfl) rfl rfl (by (try simp only [List.map_toArray, List.map_cons, List.map_nil]); first | done | rfl | (simp only [List.length_drop, List.length_take]; rfl)) ?_
                                with_reducible refine (impl_FaultOf.calls k t204 t204 t204 _ _ t205 t208 t241 _ ?side1 ?side2 A21.out).mono ?_
                                (case side1 => repeat (first | exact (Kd.R_reads' HO207.out).2.2 | (with_reducible refine Kd.C_alloc ?_ _) | (with_reducible refine Kd.C_drewN ?_ _) | (with_reducible refine Kd.C_drew ?_)))
                                (case side2 => exact (Kd.R_reads' HO207.out).2.1)
                                rintro e w75 ⟨rfl, hb⟩
                                have HS20_ := (hb.cell (World.block_lt_of_cell? _ _ (hHeld.2.2.2.2.2.2.2.2.2.2.2.2.2.2.2.2.2.2.2.2.1))).trans (hHeld.2.2.2.2.2.2.2.2.2.2.2.2.2.2.2.2.2.2.2.2.1)
                                have HS21_ := (hb.cell (World.block_lt_of_cell? _ _ (hHeld.2.2.2.2.2.2.2.2.2.2.2.2.2.2.2.2.2.2.2.2.2))).trans (hHeld.2.2.2.2.2.2.2.2.2.2.2.2.2.2.2.2.2.2.2.2.2)
                                refine ⟨_, rfl, ?_⟩
                                have n0_ := Aside0.mk (Kd.R_below (by (with_reducible repeat (first | apply Kd.R_alloc | apply Kd.R_drewN | apply Kd.R_drew)); exact HO207.out) hb)
                                have n1_ := Aside0.mk (Kd.R_below (by (with_reducible repeat (first | apply Kd.R_alloc | apply Kd.R_drewN | apply Kd.R_drew)); exact HO220.out) hb)
                                have n2_ := Aside0.mk (Kd.R_below (by (with_reducible repeat (first | apply Kd.R_alloc | apply Kd.R_drewN | apply Kd.R_drew)); exact HO231.out) hb)
                                have n3_ := Aside0.mk (Kd.R_below (by (with_reducible repeat (first | apply Kd.R_alloc | apply Kd.R_drewN | apply Kd.R_drew)); exact HO234.out) hb)
                                have n4_ := Aside0.mk (blk_below (g := gb209) (o := .cells #[.int .i64 t202, .int .i64 t203, .int .i64 t204, .slice (some ad228) t205.length co33, .bool t208] 25 (0, 0)) (by (with_reducible repeat (first | refine blk_drewN ?_ _ | refine blk_drew ?_ | refine blk_alloc ?_ _)); exact BK209.out) hb)
                                have n5_ := Aside0.mk (blk_below (g := gb210) (o := .cells #[.int .i64 t202, .int .i64 t203, .int .i64 t204, .slice Ao42 y218.length co42, .bool t208] 25 (0, 0)) (by (with_reducible repeat (first | refine blk_drewN ?_ _ | refine blk_drew ?_ | refine blk_alloc ?_ _)); exact BK210.out) hb)
                                have n6_ := Aside0.mk (blk_below (g := gb221) (o := .cells #[.int .i64 t202, .int .i64 t203, .int .i64 t204, .slice Ao59 y232.length co59, .bool t208] 25 (0, 0)) (by (with_reducible repeat (first | refine blk_drewN ?_ _ | refine blk_drew ?_ | refine blk_alloc ?_ _)); exact BK221.out) hb)
                                have n7_ := Aside0.mk (blk_below (g := gb235) (o := .cells #[.int .i64 t204, .int .i64 t204, .int .i64 t204, .slice (some ad228) t205.length co33, .bool t208] 25 (0, 0)) (by (with_reducible repeat (first | refine blk_drewN ?_ _ | refine blk_drew ?_ | refine blk_alloc ?_ _)); exact BK235.out) hb)
                                have n8_ := Aside0.mk (below_step (by repeat (first | (with_reducible first | exact HB.out | apply below_alloc | apply pw_below_drewN | apply below_drew1 | refine below_set ?_ GE209.out | refine below_set ?_ GE210.out | refine below_set ?_ GE221.out | refine below_set ?_ GE235.out) | exact HB.out)) hb)
                                clear HO207
                                clear HO220
                                clear HO231
                                clear HO234
                                clear BK209
                                clear BK210
                                clear BK221
                                clear BK235
                                clear HB
                                have HO207 := n0_
                                have HO220 := n1_
                                have HO231 := n2_
                                have HO234 := n3_
                                have BK209 := n4_
                                have BK210 := n5_
                                have BK221 := n6_
                                have BK235 := n7_
                                have HB := n8_
                                clear n0_ n1_ n2_ n3_ n4_ n5_ n6_ n7_ n8_
                                (try clear hb)
                                (try clear hb2)
                                (try clear hk)
                                (try clear hi)
                                refine hK.out _ _ ⟨(blk_cell BK209.out 0).trans rfl, (blk_cell BK209.out 1).trans rfl, (blk_cell BK209.out 2).trans rfl, (blk_cell BK209.out 3).trans rfl, (blk_cell BK209.out 4).trans rfl, (blk_cell BK210.out 0).trans rfl, (blk_cell BK210.out 1).trans rfl, (blk_cell BK210.out 2).trans rfl, (blk_cell BK210.out 3).trans rfl, (blk_cell BK210.out 4).trans rfl, (blk_cell BK221.out 0).trans rfl, (blk_cell BK221.out 1).trans rfl, (blk_cell BK221.out 2).trans rfl, (blk_cell BK221.out 3).trans rfl, (blk_cell BK221.out 4).trans rfl, (blk_cell BK235.out 0).trans rfl, (blk_cell BK235.out 1).trans rfl, (blk_cell BK235.out 2).trans rfl, (blk_cell BK235.out 3).trans rfl, (blk_cell BK235.out 4).trans rfl, HS20_, HS21_⟩ (fun hHeld => ?_)
                                clear hK K
                                refine norm_ (a' := ?_) ?_ ?_
                                rotate_left
                                · show Act.put _ (some 65) _ = _
                                  simp only [Act.put, List.setIfInBounds_toArray, List.set_cons_zero, List.set_cons_succ, i64_w, i32_w]
                                  rfl
                                refine pure_ (i := 24) (N := some 66) (v := ?_) (a' := ?_) #[true, true, true, true, true, true, true, true, true, true, true, true, true, true, true, true, true, true, true, true, true, true, true, true, true, false, false, false, false, false, false, false, false, false, false, false, false, false, false, false, false, false, false, false, false, false, false, false, false, false, false] rfl rfl (any_of HT_.out (by kernel_rfl)) (fun _ _ _ h => h) (Or.inl ⟨by rfl, ?_⟩) ?_ ?_
                                rotate_left
                                · intro w'
                                  go_simp
                                  with_reducible rfl
                                rotate_left
                                · simp only [Act.put, List.setIfInBounds_toArray, List.set_cons_zero, List.set_cons_succ, i64_w, i32_w]
                                  rfl
                                refine pure_ (i := 25) (N := some 67) (v := ?_) (a' := ?_) #[true, true, true, true, true, true, true, true, true, true, true, true, true, true, true, true, true, true, true, true, true, true, true, true, true, true, false, false, false, false, false, false, false, false, false, false, false, false, false, false, false, false, false, false, false, false, false, false, false, false, false] rfl rfl (any_of HT_.out (by kernel_rfl)) (fun _ _ _ h => h) (Or.inl ⟨by rfl, ?_⟩) ?_ ?_
                                rotate_left
                                · intro w'
                                  go_simp
                                  with_reducible rfl
                                rotate_left
                                · simp only [Act.put, List.setIfInBounds_toArray, List.set_cons_zero, List.set_cons_succ, i64_w, i32_w]
                                  rfl
                                refine pure_ (i := 26) (N := some 68) (v := ?_) (a' := ?_) #[true, true, true, true, true, true, true, true, true, true, true, true, true, true, true, true, true, true, true, true, true, true, true, true, true, true, true, false, false, false, false, false, false, false, false, false, false, false, false, false, false, false, false, false, false, false, false, false, false, false, false] rfl rfl (any_of HT_.out (by kernel_rfl)) (fun _ _ _ h => h) (Or.inl ⟨by rfl, ?_⟩) ?_ ?_
                                rotate_left
                                · intro w'
                                  go_simp
                                  with_reducible rfl
                                rotate_left
                                · simp only [Act.put, List.setIfInBounds_toArray, List.set_cons_zero, List.set_cons_succ, i64_w, i32_w]
                                  rfl
                                refine one_ (i := 27) (N := some 69) #[true, true, true, true, true, true, true, true, true, true, true, true, true, true, true, true, true, true, true, true, true, true, true, true, true, true, true, true, false, false, false, false, false, false, false, false, false, false, false, false, false, false, false, false, false, false, false, false, false, false, false] rfl rfl (one_of HT_.out (by kernel_rfl)) (by decide) (fun K hK => ?_)
                                refine goes_ Try.func14 (by kernel_rfl) rfl #[] (by rfl) rfl rfl (by (try simp only [List.map_toArray, List.map_cons, List.map_nil]); first | done | rfl | (simp only [List.length_drop, List.length_take]; rfl)) ?_
                                with_reducible refine (impl_UsualRules.calls  t242 t243 t244 t245 t248 _ A23.out).mono ?_
                                rintro e w76 ⟨v246, rfl, ho0, hb⟩
                                have HS20_ := (hb.cell (World.block_lt_of_cell? _ _ (hHeld.2.2.2.2.2.2.2.2.2.2.2.2.2.2.2.2.2.2.2.2.1))).trans (hHeld.2.2.2.2.2.2.2.2.2.2.2.2.2.2.2.2.2.2.2.2.1)
                                have HS21_ := (hb.cell (World.block_lt_of_cell? _ _ (hHeld.2.2.2.2.2.2.2.2.2.2.2.2.2.2.2.2.2.2.2.2.2))).trans (hHeld.2.2.2.2.2.2.2.2.2.2.2.2.2.2.2.2.2.2.2.2.2)
                                refine ⟨_, rfl, ?_⟩
                                have n0_ := Aside0.mk (Kd.R_elder' (by (with_reducible repeat (first | apply Kd.R_alloc | apply Kd.R_drewN | apply Kd.R_drew)); exact HO207.out) (Kd.R_base ho0) hb)
                                have n1_ := Aside0.mk (Kd.R_elder' (by (with_reducible repeat (first | apply Kd.R_alloc | apply Kd.R_drewN | apply Kd.R_drew)); exact HO220.out) (Kd.R_base ho0) hb)
                                have n2_ := Aside0.mk (Kd.R_elder' (by (with_reducible repeat (first | apply Kd.R_alloc | apply Kd.R_drewN | apply Kd.R_drew)); exact HO231.out) (Kd.R_base ho0) hb)
                                have n3_ := Aside0.mk (Kd.R_elder' (by (with_reducible repeat (first | apply Kd.R_alloc | apply Kd.R_drewN | apply Kd.R_drew)); exact HO234.out) (Kd.R_base ho0) hb)
                                have n4_ := Aside0.mk (Kd.R_lower (Kd.R_new' (Kd.R_new' (Kd.R_new' (Kd.R_new' ho0 (Kd.R_lt (by (with_reducible repeat (first | apply Kd.R_alloc | apply Kd.R_drewN | apply Kd.R_drew)); exact HO207.out))) (Kd.R_lt (by (with_reducible repeat (first | apply Kd.R_alloc | apply Kd.R_drewN | apply Kd.R_drew)); exact HO220.out))) (Kd.R_lt (by (with_reducible repeat (first | apply Kd.R_alloc | apply Kd.R_drewN | apply Kd.R_drew)); exact HO231.out))) (Kd.R_lt (by (with_reducible repeat (first | apply Kd.R_alloc | apply Kd.R_drewN | apply Kd.R_drew)); exact HO234.out))) (below_size (by repeat (first | (with_reducible first | exact HB.out | apply below_alloc | apply pw_below_drewN | apply below_drew1 | refine below_set ?_ GE209.out | refine below_set ?_ GE210.out | refine below_set ?_ GE221.out | refine below_set ?_ GE235.out) | exact HB.out))))
                                have n5_ := Aside0.mk (blk_below (g := gb209) (o := .cells #[.int .i64 t202, .int .i64 t203, .int .i64 t204, .slice (some ad228) t205.length co33, .bool t208] 25 (0, 0)) (by (with_reducible repeat (first | refine blk_drewN ?_ _ | refine blk_drew ?_ | refine blk_alloc ?_ _)); exact BK209.out) hb)
                                have n6_ := Aside0.mk (blk_below (g := gb210) (o := .cells #[.int .i64 t202, .int .i64 t203, .int .i64 t204, .slice Ao42 y218.length co42, .bool t208] 25 (0, 0)) (by (with_reducible repeat (first | refine blk_drewN ?_ _ | refine blk_drew ?_ | refine blk_alloc ?_ _)); exact BK210.out) hb)
                                have n7_ := Aside0.mk (blk_below (g := gb221) (o := .cells #[.int .i64 t202, .int .i64 t203, .int .i64 t204, .slice Ao59 y232.length co59, .bool t208] 25 (0, 0)) (by (with_reducible repeat (first | refine blk_drewN ?_ _ | refine blk_drew ?_ | refine blk_alloc ?_ _)); exact BK221.out) hb)
                                have n8_ := Aside0.mk (blk_below (g := gb235) (o := .cells #[.int .i64 t204, .int .i64 t204, .int .i64 t204, .slice (some ad228) t205.length co33, .bool t208] 25 (0, 0)) (by (with_reducible repeat (first | refine blk_drewN ?_ _ | refine blk_drew ?_ | refine blk_alloc ?_ _)); exact BK235.out) hb)
                                have n9_ := Aside0.mk (below_step (by repeat (first | (with_reducible first | exact HB.out | apply below_alloc | apply pw_below_drewN | apply below_drew1 | refine below_set ?_ GE209.out | refine below_set ?_ GE210.out | refine below_set ?_ GE221.out | refine below_set ?_ GE235.out) | exact HB.out)) hb)
                                clear HO207
                                clear HO220
                                clear HO231
                                clear HO234
                                clear BK209
                                clear BK210
                                clear BK221
                                clear BK235
                                clear HB
                                have HO207 := n0_
                                have HO220 := n1_
                                have HO231 := n2_
                                have HO234 := n3_
                                have HO247 := n4_
                                have BK209 := n5_
                                have BK210 := n6_
                                have BK221 := n7_
                                have BK235 := n8_
                                have HB := n9_
                                clear n0_ n1_ n2_ n3_ n4_ n5_ n6_ n7_ n8_ n9_
                                (try clear hb)
                                (try clear hb2)
                                (try clear hk)
                                (try clear hi)
                                (try clear ho0)
                                obtain ⟨Ao77, co77, eo77⟩ := Kd.R_slice HO247.out
                                (first | subst eo77 | (injection eo77 with f1_ f2_ f3_; have f4_ := f1_.symm; have f5_ := f3_.symm; clear f1_ f2_ f3_; subst f4_; subst f5_))
                                refine hK.out _ _ ⟨(blk_cell BK209.out 0).trans rfl, (blk_cell BK209.out 1).trans rfl, (blk_cell BK209.out 2).trans rfl, (blk_cell BK209.out 3).trans rfl, (blk_cell BK209.out 4).trans rfl, (blk_cell BK210.out 0).trans rfl, (blk_cell BK210.out 1).trans rfl, (blk_cell BK210.out 2).trans rfl, (blk_cell BK210.out 3).trans rfl, (blk_cell BK210.out 4).trans rfl, (blk_cell BK221.out 0).trans rfl, (blk_cell BK221.out 1).trans rfl, (blk_cell BK221.out 2).trans rfl, (blk_cell BK221.out 3).trans rfl, (blk_cell BK221.out 4).trans rfl, (blk_cell BK235.out 0).trans rfl, (blk_cell BK235.out 1).trans rfl, (blk_cell BK235.out 2).trans rfl, (blk_cell BK235.out 3).trans rfl, (blk_cell BK235.out 4).trans rfl, HS20_, HS21_⟩ (fun hHeld => ?_)
                                clear hK K
                                refine norm_ (a' := ?_) ?_ ?_
                                rotate_left
                                · show Act.put _ (some 69) _ = _
                                  simp only [Act.put, List.setIfInBounds_toArray, List.set_cons_zero, List.set_cons_succ, i64_w, i32_w]
                                  rfl
                                refine one_ (i := 28) (N := some 70) #[true, true, true, true, true, true, true, true, true, true, true, true, true, true, true, true, true, true, true, true, true, true, true, true, true, true, true, true, true, false, false, false, false, false, false, false, false, false, false, false, false, false, false, false, false, false, false, false, false, false, false] rfl rfl (one_of HT_.out (by kernel_rfl)) (by decide) (fun K hK => ?_)
                                refine goes_ Try.func13 (by kernel_rfl) rfl #[.agg #[.int .i64 t242, .int .i64 t243, .int .i64 t244, .slice Ao77 t245.length co77, .bool t248]] (by rfl) rfl rfl (by (try simp only [List.map_toArray, List.map_cons, List.map_nil]); first | done | rfl | (simp only [List.length_drop, List.length_take]; rfl)) ?_
                                with_reducible refine (impl_FaultOf.calls k t242 t243 t244 _ _ t245 t248 t249 _ ?side1 ?side2 A24.out).mono ?_
                                (case side1 => repeat (first | exact (Kd.R_reads' HO247.out).2.2 | (with_reducible refine Kd.C_alloc ?_ _) | (with_reducible refine Kd.C_drewN ?_ _) | (with_reducible refine Kd.C_drew ?_)))
                                (case side2 => exact (Kd.R_reads' HO247.out).2.1)
                                rintro e w78 ⟨rfl, hb⟩
                                have HS20_ := (hb.cell (World.block_lt_of_cell? _ _ (hHeld.2.2.2.2.2.2.2.2.2.2.2.2.2.2.2.2.2.2.2.2.1))).trans (hHeld.2.2.2.2.2.2.2.2.2.2.2.2.2.2.2.2.2.2.2.2.1)
                                have HS21_ := (hb.cell (World.block_lt_of_cell? _ _ (hHeld.2.2.2.2.2.2.2.2.2.2.2.2.2.2.2.2.2.2.2.2.2))).trans (hHeld.2.2.2.2.2.2.2.2.2.2.2.2.2.2.2.2.2.2.2.2.2)
                                refine ⟨_, rfl, ?_⟩
                                have n0_ := Aside0.mk (Kd.R_below (by (with_reducible repeat (first | apply Kd.R_alloc | apply Kd.R_drewN | apply Kd.R_drew)); exact HO207.out) hb)
                                have n1_ := Aside0.mk (Kd.R_below (by (with_reducible repeat (first | apply Kd.R_alloc | apply Kd.R_drewN | apply Kd.R_drew)); exact HO220.out) hb)
                                have n2_ := Aside0.mk (Kd.R_below (by (with_reducible repeat (first | apply Kd.R_alloc | apply Kd.R_drewN | apply Kd.R_drew)); exact HO231.out) hb)
                                have n3_ := Aside0.mk (Kd.R_below (by (with_reducible repeat (first | apply Kd.R_alloc | apply Kd.R_drewN | apply Kd.R_drew)); exact HO234.out) hb)
                                have n4_ := Aside0.mk (Kd.R_below (by (with_reducible repeat (first | apply Kd.R_alloc | apply Kd.R_drewN | apply Kd.R_drew)); exact HO247.out) hb)
                                have n5_ := Aside0.mk (blk_below (g := gb209) (o := .cells #[.int .i64 t202, .int .i64 t203, .int .i64 t204, .slice (some ad228) t205.length co33, .bool t208] 25 (0, 0)) (by (with_reducible repeat (first | refine blk_drewN ?_ _ | refine blk_drew ?_ | refine blk_alloc ?_ _)); exact BK209.out) hb)
                                have n6_ := Aside0.mk (blk_below (g := gb210) (o := .cells #[.int .i64 t202, .int .i64 t203, .int .i64 t204, .slice Ao42 y218.length co42, .bool t208] 25 (0, 0)) (by (with_reducible repeat (first | refine blk_drewN ?_ _ | refine blk_drew ?_ | refine blk_alloc ?_ _)); exact BK210.out) hb)
                                have n7_ := Aside0.mk (blk_below (g := gb221) (o := .cells #[.int .i64 t202, .int .i64 t203, .int .i64 t204, .slice Ao59 y232.length co59, .bool t208] 25 (0, 0)) (by (with_reducible repeat (first | refine blk_drewN ?_ _ | refine blk_drew ?_ | refine blk_alloc ?_ _)); exact BK221.out) hb)
                                have n8_ := Aside0.mk (blk_below (g := gb235) (o := .cells #[.int .i64 t204, .int .i64 t204, .int .i64 t204, .slice (some ad228) t205.length co33, .bool t208] 25 (0, 0)) (by (with_reducible repeat (first | refine blk_drewN ?_ _ | refine blk_drew ?_ | refine blk_alloc ?_ _)); exact BK235.out) hb)
                                have n9_ := Aside0.mk (below_step (by repeat (first | (with_reducible first | exact HB.out | apply below_alloc | apply pw_below_drewN | apply below_drew1 | refine below_set ?_ GE209.out | refine below_set ?_ GE210.out | refine below_set ?_ GE221.out | refine below_set ?_ GE235.out) | exact HB.out)) hb)
                                clear HO207
                                clear HO220
                                clear HO231
                                clear HO234
                                clear HO247
                                clear BK209
                                clear BK210
                                clear BK221
                                clear BK235
                                clear HB
                                have HO207 := n0_
                                have HO220 := n1_
                                have HO231 := n2_
                                have HO234 := n3_
                                have HO247 := n4_
                                have BK209 := n5_
                                have BK210 := n6_
                                have BK221 := n7_
                                have BK235 := n8_
                                have HB := n9_
                                clear n0_ n1_ n2_ n3_ n4_ n5_ n6_ n7_ n8_ n9_
                                (try clear hb)
                                (try clear hb2)
                                (try clear hk)
                                (try clear hi)
                                refine hK.out _ _ ⟨(blk_cell BK209.out 0).trans rfl, (blk_cell BK209.out 1).trans rfl, (blk_cell BK209.out 2).trans rfl, (blk_cell BK209.out 3).trans rfl, (blk_cell BK209.out 4).trans rfl, (blk_cell BK210.out 0).trans rfl, (blk_cell BK210.out 1).trans rfl, (blk_cell BK210.out 2).trans rfl, (blk_cell BK210.out 3).trans rfl, (blk_cell BK210.out 4).trans rfl, (blk_cell BK221.out 0).trans rfl, (blk_cell BK221.out 1).trans rfl, (blk_cell BK221.out 2).trans rfl, (blk_cell BK221.out 3).trans rfl, (blk_cell BK221.out 4).trans rfl, (blk_cell BK235.out 0).trans rfl, (blk_cell BK235.out 1).trans rfl, (blk_cell BK235.out 2).trans rfl, (blk_cell BK235.out 3).trans rfl, (blk_cell BK235.out 4).trans rfl, HS20_, HS21_⟩ (fun hHeld => ?_)
                                clear hK K
                                refine norm_ (a' := ?_) ?_ ?_
                                rotate_left
                                · show Act.put _ (some 70) _ = _
                                  simp only [Act.put, List.setIfInBounds_toArray, List.set_cons_zero, List.set_cons_succ, i64_w, i32_w]
                                  rfl
                                refine pure_ (i := 29) (N := some 71) (v := ?_) (a' := ?_) #[true, true, true, true, true, true, true, true, true, true, true, true, true, true, true, true, true, true, true, true, true, true, true, true, true, true, true, true, true, true, false, false, false, false, false, false, false, false, false, false, false, false, false, false, false, false, false, false, false, false, false] rfl rfl (any_of HT_.out (by kernel_rfl)) (fun _ _ _ h => h) (Or.inl ⟨by rfl, ?_⟩) ?_ ?_
                                rotate_left
                                · intro w'
                                  go_simp
                                  with_reducible rfl
                                rotate_left
                                · simp only [Act.put, List.setIfInBounds_toArray, List.set_cons_zero, List.set_cons_succ, i64_w, i32_w]
                                  rfl
                                refine pure_ (i := 30) (N := some 72) (v := ?_) (a' := ?_) #[true, true, true, true, true, true, true, true, true, true, true, true, true, true, true, true, true, true, true, true, true, true, true, true, true, true, true, true, true, true, true, false, false, false, false, false, false, false, false, false, false, false, false, false, false, false, false, false, false, false, false] rfl rfl (any_of HT_.out (by kernel_rfl)) (fun _ _ _ h => h) (Or.inl ⟨by rfl, ?_⟩) ?_ ?_
                                rotate_left
                                · intro w'
                                  go_simp
                                  with_reducible rfl
                                rotate_left
                                · simp only [Act.put, List.setIfInBounds_toArray, List.set_cons_zero, List.set_cons_succ, i64_w, i32_w]
                                  rfl
                                refine pure_ (i := 31) (N := some 73) (v := ?_) (a' := ?_) #[true, true, true, true, true, true, true, true, true, true, true, true, true, true, true, true, true, true, true, true, true, true, true, true, true, true, true, true, true, true, true, true, false, false, false, false, false, false, false, false, false, false, false, false, false, false, false, false, false, false, false] rfl rfl (any_of HT_.out (by kernel_rfl)) (fun _ _ _ h => h) (Or.inl ⟨by rfl, ?_⟩) ?_ ?_
                                rotate_left
                                · intro w'
                                  go_simp
                                  with_reducible rfl
                                rotate_left
                                · simp only [Act.put, List.setIfInBounds_toArray, List.set_cons_zero, List.set_cons_succ, i64_w, i32_w]
                                  rfl
                                refine pure_ (i := 32) (N := some 74) (v := ?_) (a' := ?_) #[true, true, true, true, true, true, true, true, true, true, true, true, true, true, true, true, true, true, true, true, true, true, true, true, true, true, true, true, true, true, true, true, true, false, false, false, false, false, false, false, false, false, false, false, false, false, false, false, false, false, false] rfl rfl (any_of HT_.out (by kernel_rfl)) (fun _ _ _ h => h) (Or.inl ⟨by rfl, ?_⟩) ?_ ?_
                                rotate_left
                                · intro w'
                                  go_simp
                                  with_reducible rfl
                                rotate_left
                                · simp only [Act.put, List.setIfInBounds_toArray, List.set_cons_zero, List.set_cons_succ, i64_w, i32_w]
                                  rfl
                                refine pure_ (i := 38) (N := some 80) (v := ?_) (a' := ?_) #[true, true, true, true, true, true, true, true, true, true, true, true, true, true, true, true, true, true, true, true, true, true, true, true, true, true, true, true, true, true, true, true, true, false, false, false, false, false, true, false, false, false, false, false, false, false, false, false, false, false, false] rfl rfl (any_of HT_.out (by kernel_rfl)) (fun _ _ _ h => h) (Or.inl ⟨by rfl, ?_⟩) ?_ ?_
                                rotate_left
                                · intro w'
                                  go_simp
                                  with_reducible rfl
                                rotate_left
                                · simp only [Act.put, List.setIfInBounds_toArray, List.set_cons_zero, List.set_cons_succ, i64_w, i32_w]
                                  rfl
                                refine take_ (i := 33) (N := some 75) (v := ?_) (a' := ?_) #[true, true, true, true, true, true, true, true, true, true, true, true, true, true, true, true, true, true, true, true, true, true, true, true, true, true, true, true, true, true, true, true, true, true, false, false, false, false, true, false, false, false, false, false, false, false, false, false, false, false, false] rfl rfl (take_ofW HT_.out HW_.out (by kernel_rfl)) (fun _ _ _ h => h) (Or.inl ⟨by rfl, ?_⟩) hHeld ?_ ?_
                                rotate_left
                                · rintro w' ⟨s0, s1, s2, s3, s4, s5, s6, s7, s8, s9, s10, s11, s12, s13, s14, s15, s16, s17, s18, s19, s20, s21⟩
                                  go_simp
                                  with_reducible rfl
                                rotate_left
                                · simp only [Act.put, List.setIfInBounds_toArray, List.set_cons_zero, List.set_cons_succ, i64_w, i32_w]
                                  rfl
                                refine pure_ (i := 34) (N := some 76) (v := ?_) (a' := ?_) #[true, true, true, true, true, true, true, true, true, true, true, true, true, true, true, true, true, true, true, true, true, true, true, true, true, true, true, true, true, true, true, true, true, true, true, false, false, false, true, false, false, false, false, false, false, false, false, false, false, false, false] rfl rfl (any_of HT_.out (by kernel_rfl)) (fun _ _ _ h => h) (Or.inl ⟨by rfl, ?_⟩) ?_ ?_
                                rotate_left
                                · intro w'
                                  go_simp
                                  with_reducible rfl
                                rotate_left
                                · simp only [Act.put, List.setIfInBounds_toArray, List.set_cons_zero, List.set_cons_succ, i64_w, i32_w]
                                  rfl
                                refine take_ (i := 35) (N := some 77) (v := ?_) (a' := ?_) #[true, true, true, true, true, true, true, true, true, true, true, true, true, true, true, true, true, true, true, true, true, true, true, true, true, true, true, true, true, true, true, true, true, true, true, true, false, false, true, false, false, false, false, false, false, false, false, false, false, false, false] rfl rfl (take_ofW HT_.out HW_.out (by kernel_rfl)) (fun _ _ _ h => h) (Or.inl ⟨by rfl, ?_⟩) hHeld ?_ ?_
                                rotate_left
                                · rintro w' ⟨s0, s1, s2, s3, s4, s5, s6, s7, s8, s9, s10, s11, s12, s13, s14, s15, s16, s17, s18, s19, s20, s21⟩
                                  go_simp
                                  with_reducible rfl
                                rotate_left
                                · simp only [Act.put, List.setIfInBounds_toArray, List.set_cons_zero, List.set_cons_succ, i64_w, i32_w]
                                  rfl
                                refine take_ (i := 39) (N := some 81) (v := ?_) (a' := ?_) #[true, true, true, true, true, true, true, true, true, true, true, true, true, true, true, true, true, true, true, true, true, true, true, true, true, true, true, true, true, true, true, true, true, true, true, true, false, false, true, true, false, false, false, false, false, false, false, false, false, false, false] rfl rfl (take_ofW HT_.out HW_.out (by kernel_rfl)) (fun _ _ _ h => h) (Or.inl ⟨by rfl, ?_⟩) hHeld ?_ ?_
                                rotate_left
                                · rintro w' ⟨s0, s1, s2, s3, s4, s5, s6, s7, s8, s9, s10, s11, s12, s13, s14, s15, s16, s17, s18, s19, s20, s21⟩
                                  go_simp
                                  with_reducible rfl
                                rotate_left
                                · simp only [Act.put, List.setIfInBounds_toArray, List.set_cons_zero, List.set_cons_succ, i64_w, i32_w]
                                  rfl
                                refine pure_ (i := 40) (N := some 82) (v := ?_) (a' := ?_) #[true, true, true, true, true, true, true, true, true, true, true, true, true, true, true, true, true, true, true, true, true, true, true, true, true, true, true, true, true, true, true, true, true, true, true, true, false, false, true, true, true, false, false, false, false, false, false, false, false, false, false] rfl rfl (any_of HT_.out (by kernel_rfl)) (fun _ _ _ h => h) (Or.inl ⟨by rfl, ?_⟩) ?_ ?_
                                rotate_left
                                · intro w'
                                  go_simp
                                  with_reducible rfl
                                rotate_left
                                · simp only [Act.put, List.setIfInBounds_toArray, List.set_cons_zero, List.set_cons_succ, i64_w, i32_w]
                                  rfl
                                refine take_ (i := 41) (N := some 83) (v := ?_) (a' := ?_) #[true, true, true, true, true, true, true, true, true, true, true, true, true, true, true, true, true, true, true, true, true, true, true, true, true, true, true, true, true, true, true, true, true, true, true, true, false, false, true, true, true, true, false, false, false, false, false, false, false, false, false] rfl rfl (take_ofW HT_.out HW_.out (by kernel_rfl)) (fun _ _ _ h => h) (Or.inl ⟨by rfl, ?_⟩) hHeld ?_ ?_
                                rotate_left
                                · rintro w' ⟨s0, s1, s2, s3, s4, s5, s6, s7, s8, s9, s10, s11, s12, s13, s14, s15, s16, s17, s18, s19, s20, s21⟩
                                  go_simp
                                  with_reducible rfl
                                rotate_left
                                · simp only [Act.put, List.setIfInBounds_toArray, List.set_cons_zero, List.set_cons_succ, i64_w, i32_w]
                                  rfl
                                refine one_ (i := 36) (N := some 78) #[true, true, true, true, true, true, true, true, true, true, true, true, true, true, true, true, true, true, true, true, true, true, true, true, true, true, true, true, true, true, true, true, true, true, true, true, true, false, true, true, true, true, false, false, false, false, false, false, false, false, false] rfl rfl (one_of HT_.out (by kernel_rfl)) (by decide) (fun K hK => ?_)
                                refine goes_ Try.func16 (by kernel_rfl) rfl #[.int .i64 (rd t205 0)] (by rfl) rfl rfl (by (try simp only [List.map_toArray, List.map_cons, List.map_nil]); first | done | rfl | (simp only [List.length_drop, List.length_take]; rfl)) ?_
                                with_reducible refine (impl_KeyName.calls (rd t205 0) t251 _ A26.out).mono ?_
                                rintro e w79 ⟨rfl, hb⟩
                                have HS20_ := (hb.cell (World.block_lt_of_cell? _ _ (hHeld.2.2.2.2.2.2.2.2.2.2.2.2.2.2.2.2.2.2.2.2.1))).trans (hHeld.2.2.2.2.2.2.2.2.2.2.2.2.2.2.2.2.2.2.2.2.1)
                                have HS21_ := (hb.cell (World.block_lt_of_cell? _ _ (hHeld.2.2.2.2.2.2.2.2.2.2.2.2.2.2.2.2.2.2.2.2.2))).trans (hHeld.2.2.2.2.2.2.2.2.2.2.2.2.2.2.2.2.2.2.2.2.2)
                                refine ⟨_, rfl, ?_⟩
                                have n0_ := Aside0.mk (Kd.R_below (by (with_reducible repeat (first | apply Kd.R_alloc | apply Kd.R_drewN | apply Kd.R_drew)); exact HO207.out) hb)
                                have n1_ := Aside0.mk (Kd.R_below (by (with_reducible repeat (first | apply Kd.R_alloc | apply Kd.R_drewN | apply Kd.R_drew)); exact HO220.out) hb)
                                have n2_ := Aside0.mk (Kd.R_below (by (with_reducible repeat (first | apply Kd.R_alloc | apply Kd.R_drewN | apply Kd.R_drew)); exact HO231.out) hb)
                                have n3_ := Aside0.mk (Kd.R_below (by (with_reducible repeat (first | apply Kd.R_alloc | apply Kd.R_drewN | apply Kd.R_drew)); exact HO234.out) hb)
                                have n4_ := Aside0.mk (Kd.R_below (by (with_reducible repeat (first | apply Kd.R_alloc | apply Kd.R_drewN | apply Kd.R_drew)); exact HO247.out) hb)
                                have n5_ := Aside0.mk (blk_below (g := gb209) (o := .cells #[.int .i64 t202, .int .i64 t203, .int .i64 t204, .slice (some ad228) t205.length co33, .bool t208] 25 (0, 0)) (by (with_reducible repeat (first | refine blk_drewN ?_ _ | refine blk_drew ?_ | refine blk_alloc ?_ _)); exact BK209.out) hb)
                                have n6_ := Aside0.mk (blk_below (g := gb210) (o := .cells #[.int .i64 t202, .int .i64 t203, .int .i64 t204, .slice Ao42 y218.length co42, .bool t208] 25 (0, 0)) (by (with_reducible repeat (first | refine blk_drewN ?_ _ | refine blk_drew ?_ | refine blk_alloc ?_ _)); exact BK210.out) hb)
                                have n7_ := Aside0.mk (blk_below (g := gb221) (o := .cells #[.int .i64 t202, .int .i64 t203, .int .i64 t204, .slice Ao59 y232.length co59, .bool t208] 25 (0, 0)) (by (with_reducible repeat (first | refine blk_drewN ?_ _ | refine blk_drew ?_ | refine blk_alloc ?_ _)); exact BK221.out) hb)
                                have n8_ := Aside0.mk (blk_below (g := gb235) (o := .cells #[.int .i64 t204, .int .i64 t204, .int .i64 t204, .slice (some ad228) t205.length co33, .bool t208] 25 (0, 0)) (by (with_reducible repeat (first | refine blk_drewN ?_ _ | refine blk_drew ?_ | refine blk_alloc ?_ _)); exact BK235.out) hb)
                                have n9_ := Aside0.mk (below_step (by repeat (first | (with_reducible first | exact HB.out | apply below_alloc | apply pw_below_drewN | apply below_drew1 | refine below_set ?_ GE209.out | refine below_set ?_ GE210.out | refine below_set ?_ GE221.out | refine below_set ?_ GE235.out) | exact HB.out)) hb)
                                clear HO207
                                clear HO220
                                clear HO231
                                clear HO234
                                clear HO247
                                clear BK209
                                clear BK210
                                clear BK221
                                clear BK235
                                clear HB
                                have HO207 := n0_
                                have HO220 := n1_
                                have HO231 := n2_
                                have HO234 := n3_
                                have HO247 := n4_
                                have BK209 := n5_
                                have BK210 := n6_
                                have BK221 := n7_
                                have BK235 := n8_
                                have HB := n9_
                                clear n0_ n1_ n2_ n3_ n4_ n5_ n6_ n7_ n8_ n9_
                                (try clear hb)
                                (try clear hb2)
                                (try clear hk)
                                (try clear hi)
                                refine hK.out _ _ ⟨(blk_cell BK209.out 0).trans rfl, (blk_cell BK209.out 1).trans rfl, (blk_cell BK209.out 2).trans rfl, (blk_cell BK209.out 3).trans rfl, (blk_cell BK209.out 4).trans rfl, (blk_cell BK210.out 0).trans rfl, (blk_cell BK210.out 1).trans rfl, (blk_cell BK210.out 2).trans rfl, (blk_cell BK210.out 3).trans rfl, (blk_cell BK210.out 4).trans rfl, (blk_cell BK221.out 0).trans rfl, (blk_cell BK221.out 1).trans rfl, (blk_cell BK221.out 2).trans rfl, (blk_cell BK221.out 3).trans rfl, (blk_cell BK221.out 4).trans rfl, (blk_cell BK235.out 0).trans rfl, (blk_cell BK235.out 1).trans rfl, (blk_cell BK235.out 2).trans rfl, (blk_cell BK235.out 3).trans rfl, (blk_cell BK235.out 4).trans rfl, HS20_, HS21_⟩ (fun hHeld => ?_)
                                clear hK K
                                refine norm_ (a' := ?_) ?_ ?_
                                rotate_left
                                · show Act.put _ (some 78) _ = _
                                  simp only [Act.put, List.setIfInBounds_toArray, List.set_cons_zero, List.set_cons_succ, i64_w, i32_w]
                                  rfl
                                refine one_ (i := 37) (N := some 79) #[true, true, true, true, true, true, true, true, true, true, true, true, true, true, true, true, true, true, true, true, true, true, true, true, true, true, true, true, true, true, true, true, true, true, true, true, true, true, true, true, true, true, false, false, false, false, false, false, false, false, false] rfl rfl (one_of HT_.out (by kernel_rfl)) (by decide) (fun K hK => ?_)
                                refine goes_ Try.func15 (by kernel_rfl) rfl #[.string t251] (by rfl) rfl rfl (by (try simp only [List.map_toArray, List.map_cons, List.map_nil]); first | done | rfl | (simp only [List.length_drop, List.length_take]; rfl)) ?_
                                with_reducible refine (impl_KeyNamed.calls k t251 t252 _ A27.out).mono ?_
                                rintro e w80 ⟨rfl, hb⟩
                                have HS20_ := (hb.cell (World.block_lt_of_cell? _ _ (hHeld.2.2.2.2.2.2.2.2.2.2.2.2.2.2.2.2.2.2.2.2.1))).trans (hHeld.2.2.2.2.2.2.2.2.2.2.2.2.2.2.2.2.2.2.2.2.1)
                                have HS21_ := (hb.cell (World.block_lt_of_cell? _ _ (hHeld.2.2.2.2.2.2.2.2.2.2.2.2.2.2.2.2.2.2.2.2.2))).trans (hHeld.2.2.2.2.2.2.2.2.2.2.2.2.2.2.2.2.2.2.2.2.2)
                                refine ⟨_, rfl, ?_⟩
                                have n0_ := Aside0.mk (Kd.R_below (by (with_reducible repeat (first | apply Kd.R_alloc | apply Kd.R_drewN | apply Kd.R_drew)); exact HO207.out) hb)
                                have n1_ := Aside0.mk (Kd.R_below (by (with_reducible repeat (first | apply Kd.R_alloc | apply Kd.R_drewN | apply Kd.R_drew)); exact HO220.out) hb)
                                have n2_ := Aside0.mk (Kd.R_below (by (with_reducible repeat (first | apply Kd.R_alloc | apply Kd.R_drewN | apply Kd.R_drew)); exact HO231.out) hb)
                                have n3_ := Aside0.mk (Kd.R_below (by (with_reducible repeat (first | apply Kd.R_alloc | apply Kd.R_drewN | apply Kd.R_drew)); exact HO234.out) hb)
                                have n4_ := Aside0.mk (Kd.R_below (by (with_reducible repeat (first | apply Kd.R_alloc | apply Kd.R_drewN | apply Kd.R_drew)); exact HO247.out) hb)
                                have n5_ := Aside0.mk (blk_below (g := gb209) (o := .cells #[.int .i64 t202, .int .i64 t203, .int .i64 t204, .slice (some ad228) t205.length co33, .bool t208] 25 (0, 0)) (by (with_reducible repeat (first | refine blk_drewN ?_ _ | refine blk_drew ?_ | refine blk_alloc ?_ _)); exact BK209.out) hb)
                                have n6_ := Aside0.mk (blk_below (g := gb210) (o := .cells #[.int .i64 t202, .int .i64 t203, .int .i64 t204, .slice Ao42 y218.length co42, .bool t208] 25 (0, 0)) (by (with_reducible repeat (first | refine blk_drewN ?_ _ | refine blk_drew ?_ | refine blk_alloc ?_ _)); exact BK210.out) hb)
                                have n7_ := Aside0.mk (blk_below (g := gb221) (o := .cells #[.int .i64 t202, .int .i64 t203, .int .i64 t204, .slice Ao59 y232.length co59, .bool t208] 25 (0, 0)) (by (with_reducible repeat (first | refine blk_drewN ?_ _ | refine blk_drew ?_ | refine blk_alloc ?_ _)); exact BK221.out) hb)
                                have n8_ := Aside0.mk (blk_below (g := gb235) (o := .cells #[.int .i64 t204, .int .i64 t204, .int .i64 t204, .slice (some ad228) t205.length co33, .bool t208] 25 (0, 0)) (by (with_reducible repeat (first | refine blk_drewN ?_ _ | refine blk_drew ?_ | refine blk_alloc ?_ _)); exact BK235.out) hb)
                                have n9_ := Aside0.mk (below_step (by repeat (first | (with_reducible first | exact HB.out | apply below_alloc | apply pw_below_drewN | apply below_drew1 | refine below_set ?_ GE209.out | refine below_set ?_ GE210.out | refine below_set ?_ GE221.out | refine below_set ?_ GE235.out) | exact HB.out)) hb)
                                clear HO207
                                clear HO220
                                clear HO231
                                clear HO234
                                clear HO247
                                clear BK209
                                clear BK210
                                clear BK221
                                clear BK235
                                clear HB
                                have HO207 := n0_
                                have HO220 := n1_
                                have HO231 := n2_
                                have HO234 := n3_
                                have HO247 := n4_
                                have BK209 := n5_
                                have BK210 := n6_
                                have BK221 := n7_
                                have BK235 := n8_
                                have HB := n9_
                                clear n0_ n1_ n2_ n3_ n4_ n5_ n6_ n7_ n8_ n9_
                                (try clear hb)
                                (try clear hb2)
                                (try clear hk)
                                (try clear hi)
                                refine hK.out _ _ ⟨(blk_cell BK209.out 0).trans rfl, (blk_cell BK209.out 1).trans rfl, (blk_cell BK209.out 2).trans rfl, (blk_cell BK209.out 3).trans rfl, (blk_cell BK209.out 4).trans rfl, (blk_cell BK210.out 0).trans rfl, (blk_cell BK210.out 1).trans rfl, (blk_cell BK210.out 2).trans rfl, (blk_cell BK210.out 3).trans rfl, (blk_cell BK210.out 4).trans rfl, (blk_cell BK221.out 0).trans rfl, (blk_cell BK221.out 1).trans rfl, (blk_cell BK221.out 2).trans rfl, (blk_cell BK221.out 3).trans rfl, (blk_cell BK221.out 4).trans rfl, (blk_cell BK235.out 0).trans rfl, (blk_cell BK235.out 1).trans rfl, (blk_cell BK235.out 2).trans rfl, (blk_cell BK235.out 3).trans rfl, (blk_cell BK235.out 4).trans rfl, HS20_, HS21_⟩ (fun hHeld => ?_)
                                clear hK K
                                refine norm_ (a' := ?_) ?_ ?_
                                rotate_left
                                · show Act.put _ (some 79) _ = _
                                  simp only [Act.put, List.setIfInBounds_toArray, List.set_cons_zero, List.set_cons_succ, i64_w, i32_w]
                                  rfl
                                refine pure_ (i := 42) (N := some 84) (v := ?_) (a' := ?_) #[true, true, true, true, true, true, true, true, true, true, true, true, true, true, true, true, true, true, true, true, true, true, true, true, true, true, true, true, true, true, true, true, true, true, true, true, true, true, true, true, true, true, true, false, false, false, false, false, false, false, false] rfl rfl (any_of HT_.out (by kernel_rfl)) (fun _ _ _ h => h) (Or.inl ⟨by rfl, ?_⟩) ?_ ?_
                                rotate_left
                                · intro w'
                                  go_simp
                                  with_reducible rfl
                                rotate_left
                                · simp only [Act.put, List.setIfInBounds_toArray, List.set_cons_zero, List.set_cons_succ, i64_w, i32_w]
                                  rfl
                                refine pure_ (i := 43) (N := some 85) (v := ?_) (a' := ?_) #[true, true, true, true, true, true, true, true, true, true, true, true, true, true, true, true, true, true, true, true, true, true, true, true, true, true, true, true, true, true, true, true, true, true, true, true, true, true, true, true, true, true, true, true, false, false, false, false, false, false, false] rfl rfl (any_of HT_.out (by kernel_rfl)) (fun _ _ _ h => h) (Or.inl ⟨by rfl, ?_⟩) ?_ ?_
                                rotate_left
                                · intro w'
                                  go_simp
                                  with_reducible rfl
                                rotate_left
                                · simp only [Act.put, List.setIfInBounds_toArray, List.set_cons_zero, List.set_cons_succ, i64_w, i32_w]
                                  rfl
                                refine pure_ (i := 44) (N := some 86) (v := ?_) (a' := ?_) #[true, true, true, true, true, true, true, true, true, true, true, true, true, true, true, true, true, true, true, true, true, true, true, true, true, true, true, true, true, true, true, true, true, true, true, true, true, true, true, true, true, true, true, true, true, false, false, false, false, false, false] rfl rfl (any_of HT_.out (by kernel_rfl)) (fun _ _ _ h => h) (Or.inl ⟨by rfl, ?_⟩) ?_ ?_
                                rotate_left
                                · intro w'
                                  go_simp
                                  with_reducible rfl
                                rotate_left
                                · simp only [Act.put, List.setIfInBounds_toArray, List.set_cons_zero, List.set_cons_succ, i64_w, i32_w]
                                  rfl
                                refine take_ (i := 45) (N := some 87) (v := ?_) (a' := ?_) #[true, true, true, true, true, true, true, true, true, true, true, true, true, true, true, true, true, true, true, true, true, true, true, true, true, true, true, true, true, true, true, true, true, true, true, true, true, true, true, true, true, true, true, true, true, true, false, false, false, false, false] rfl rfl (take_ofW HT_.out HW_.out (by kernel_rfl)) (fun _ _ _ h => h) (Or.inl ⟨by rfl, ?_⟩) hHeld ?_ ?_
                                rotate_left
                                · rintro w' ⟨s0, s1, s2, s3, s4, s5, s6, s7, s8, s9, s10, s11, s12, s13, s14, s15, s16, s17, s18, s19, s20, s21⟩
                                  go_simp
                                  with_reducible rfl
                                rotate_left
                                · simp only [Act.put, List.setIfInBounds_toArray, List.set_cons_zero, List.set_cons_succ, i64_w, i32_w]
                                  rfl
                                refine take_ (i := 46) (N := some 88) (v := ?_) (a' := ?_) #[true, true, true, true, true, true, true, true, true, true, true, true, true, true, true, true, true, true, true, true, true, true, true, true, true, true, true, true, true, true, true, true, true, true, true, true, true, true, true, true, true, true, true, true, true, true, true, false, false, false, false] rfl rfl (take_ofW HT_.out HW_.out (by kernel_rfl)) (fun _ _ _ h => h) (Or.inl ⟨by rfl, ?_⟩) hHeld ?_ ?_
                                rotate_left
                                · rintro w' ⟨s0, s1, s2, s3, s4, s5, s6, s7, s8, s9, s10, s11, s12, s13, s14, s15, s16, s17, s18, s19, s20, s21⟩
                                  go_simp
                                  with_reducible rfl
                                rotate_left
                                · simp only [Act.put, List.setIfInBounds_toArray, List.set_cons_zero, List.set_cons_succ, i64_w, i32_w]
                                  rfl
                                refine one_ (i := 47) (N := some 89) #[true, true, true, true, true, true, true, true, true, true, true, true, true, true, true, true, true, true, true, true, true, true, true, true, true, true, true, true, true, true, true, true, true, true, true, true, true, true, true, true, true, true, true, true, true, true, true, true, false, false, false] rfl rfl (one_of HT_.out (by kernel_rfl)) (by decide) (fun K hK => ?_)
                                refine goes_ Try.func17 (by kernel_rfl) rfl #[.agg #[.int .i64 t202, .int .i64 t203, .int .i64 t204, .slice (some ad228) t205.length co33, .bool t208], .agg #[.int .i64 t202, .int .i64 t203, .int .i64 t204, .slice Ao42 y218.length co42, .bool t208]] (by rfl) rfl rfl (by (try simp only [List.map_toArray, List.map_cons, List.map_nil]); first | done | rfl | (simp only [List.length_drop, List.length_take]; rfl)) ?_
                                with_reducible refine (impl_SameRules.calls k t202 t203 t204 _ _ t205 t208 t202 t203 t204 _ _ y218 t208 t254 _ ?side1 ?side2 ?side3 ?side4 A29.out).mono ?_
                                (case side1 => repeat (first | exact (Kd.R_reads' HO207.out).2.2 | (with_reducible refine Kd.C_alloc ?_ _) | (with_reducible refine Kd.C_drewN ?_ _) | (with_reducible refine Kd.C_drew ?_)))
                                (case side2 => exact (Kd.R_reads' HO207.out).2.1)
                                (case side3 => repeat (first | exact (Kd.R_reads' HO220.out).2.2 | (with_reducible refine Kd.C_alloc ?_ _) | (with_reducible refine Kd.C_drewN ?_ _) | (with_reducible refine Kd.C_drew ?_)))
                                (case side4 => exact (Kd.R_reads' HO220.out).2.1)
                                rintro e w81 ⟨rfl, hb⟩
                                have HS20_ := (hb.cell (World.block_lt_of_cell? _ _ (hHeld.2.2.2.2.2.2.2.2.2.2.2.2.2.2.2.2.2.2.2.2.1))).trans (hHeld.2.2.2.2.2.2.2.2.2.2.2.2.2.2.2.2.2.2.2.2.1)
                                have HS21_ := (hb.cell (World.block_lt_of_cell? _ _ (hHeld.2.2.2.2.2.2.2.2.2.2.2.2.2.2.2.2.2.2.2.2.2))).trans (hHeld.2.2.2.2.2.2.2.2.2.2.2.2.2.2.2.2.2.2.2.2.2)
                                refine ⟨_, rfl, ?_⟩
                                have n0_ := Aside0.mk (Kd.R_below (by (with_reducible repeat (first | apply Kd.R_alloc | apply Kd.R_drewN | apply Kd.R_drew)); exact HO207.out) hb)
                                have n1_ := Aside0.mk (Kd.R_below (by (with_reducible repeat (first | apply Kd.R_alloc | apply Kd.R_drewN | apply Kd.R_drew)); exact HO220.out) hb)
                                have n2_ := Aside0.mk (Kd.R_below (by (with_reducible repeat (first | apply Kd.R_alloc | apply Kd.R_drewN | apply Kd.R_drew)); exact HO231.out) hb)
                                have n3_ := Aside0.mk (Kd.R_below (by (with_reducible repeat (first | apply Kd.R_alloc | apply Kd.R_drewN | apply Kd.R_drew)); exact HO234.out) hb)
                                have n4_ := Aside0.mk (Kd.R_below (by (with_reducible repeat (first | apply Kd.R_alloc | apply Kd.R_drewN | apply Kd.R_drew)); exact HO247.out) hb)
                                have n5_ := Aside0.mk (blk_below (g := gb209) (o := .cells #[.int .i64 t202, .int .i64 t203, .int .i64 t204, .slice (some ad228) t205.length co33, .bool t208] 25 (0, 0)) (by (with_reducible repeat (first | refine blk_drewN ?_ _ | refine blk_drew ?_ | refine blk_alloc ?_ _)); exact BK209.out) hb)
                                have n6_ := Aside0.mk (blk_below (g := gb210) (o := .cells #[.int .i64 t202, .int .i64 t203, .int .i64 t204, .slice Ao42 y218.length co42, .bool t208] 25 (0, 0)) (by (with_reducible repeat (first | refine blk_drewN ?_ _ | refine blk_drew ?_ | refine blk_alloc ?_ _)); exact BK210.out) hb)
                                have n7_ := Aside0.mk (blk_below (g := gb221) (o := .cells #[.int .i64 t202, .int .i64 t203, .int .i64 t204, .slice Ao59 y232.length co59, .bool t208] 25 (0, 0)) (by (with_reducible repeat (first | refine blk_drewN ?_ _ | refine blk_drew ?_ | refine blk_alloc ?_ _)); exact BK221.out) hb)
                                have n8_ := Aside0.mk (blk_below (g := gb235) (o := .cells #[.int .i64 t204, .int .i64 t204, .int .i64 t204, .slice (some ad228) t205.length co33, .bool t208] 25 (0, 0)) (by (with_reducible repeat (first | refine blk_drewN ?_ _ | refine blk_drew ?_ | refine blk_alloc ?_ _)); exact BK235.out) hb)
                                have n9_ := Aside0.mk (below_step (by repeat (first | (with_reducible first | exact HB.out | apply below_alloc | apply pw_below_drewN | apply below_drew1 | refine below_set ?_ GE209.out | refine below_set ?_ GE210.out | refine below_set ?_ GE221.out | refine below_set ?_ GE235.out) | exact HB.out)) hb)
                                clear HO207
                                clear HO220
                                clear HO231
                                clear HO234
                                clear HO247
                                clear BK209
                                clear BK210
                                clear BK221
                                clear BK235
                                clear HB
                                have HO207 := n0_
                                have HO220 := n1_
                                have HO231 := n2_
                                have HO234 := n3_
                                have HO247 := n4_
                                have BK209 := n5_
                                have BK210 := n6_
                                have BK221 := n7_
                                have BK235 := n8_
                                have HB := n9_
                                clear n0_ n1_ n2_ n3_ n4_ n5_ n6_ n7_ n8_ n9_
                                (try clear hb)
                                (try clear hb2)
                                (try clear hk)
                                (try clear hi)
                                refine hK.out _ _ ⟨(blk_cell BK209.out 0).trans rfl, (blk_cell BK209.out 1).trans rfl, (blk_cell BK209.out 2).trans rfl, (blk_cell BK209.out 3).trans rfl, (blk_cell BK209.out 4).trans rfl, (blk_cell BK210.out 0).trans rfl, (blk_cell BK210.out 1).trans rfl, (blk_cell BK210.out 2).trans rfl, (blk_cell BK210.out 3).trans rfl, (blk_cell BK210.out 4).trans rfl, (blk_cell BK221.out 0).trans rfl, (blk_cell BK221.out 1).trans rfl, (blk_cell BK221.out 2).trans rfl, (blk_cell BK221.out 3).trans rfl, (blk_cell BK221.out 4).trans rfl, (blk_cell BK235.out 0).trans rfl, (blk_cell BK235.out 1).trans rfl, (blk_cell BK235.out 2).trans rfl, (blk_cell BK235.out 3).trans rfl, (blk_cell BK235.out 4).trans rfl, HS20_, HS21_⟩ (fun hHeld => ?_)
                                clear hK K
                                refine norm_ (a' := ?_) ?_ ?_
                                rotate_left
                                · show Act.put _ (some 89) _ = _
                                  simp only [Act.put, List.setIfInBounds_toArray, List.set_cons_zero, List.set_cons_succ, i64_w, i32_w]
                                  rfl
                                refine pure_ (i := 48) (N := some 90) (v := ?_) (a' := ?_) #[true, true, true, true, true, true, true, true, true, true, true, true, true, true, true, true, true, true, true, true, true, true, true, true, true, true, true, true, true, true, true, true, true, true, true, true, true, true, true, true, true, true, true, true, true, true, true, true, true, false, false] rfl rfl (any_of HT_.out (by kernel_rfl)) (fun _ _ _ h => h) (Or.inl ⟨by rfl, ?_⟩) ?_ ?_
                                rotate_left
                                · intro w'
                                  go_simp
                                  with_reducible rfl
                                rotate_left
                                · simp only [Act.put, List.setIfInBounds_toArray, List.set_cons_zero, List.set_cons_succ, i64_w, i32_w]
                                  rfl
                                refine pure_ (i := 49) (N := some 91) (v := ?_) (a' := ?_) #[true, true, true, true, true, true, true, true, true, true, true, true, true, true, true, true, true, true, true, true, true, true, true, true, true, true, true, true, true, true, true, true, true, true, true, true, true, true, true, true, true, true, true, true, true, true, true, true, true, true, false] rfl rfl (any_of HT_.out (by kernel_rfl)) (fun _ _ _ h => h) (Or.inl ⟨by rfl, ?_⟩) ?_ ?_
                                rotate_left
                                · intro w'
                                  go_simp
                                  with_reducible rfl
                                rotate_left
                                · simp only [Act.put, List.setIfInBounds_toArray, List.set_cons_zero, List.set_cons_succ, i64_w, i32_w]
                                  rfl
                                refine pure_ (i := 50) (N := some 2) (v := ?_) (a' := ?_) #[true, true, true, true, true, true, true, true, true, true, true, true, true, true, true, true, true, true, true, true, true, true, true, true, true, true, true, true, true, true, true, true, true, true, true, true, true, true, true, true, true, true, true, true, true, true, true, true, true, true, true] rfl rfl (any_of HT_.out (by kernel_rfl)) (fun _ _ _ h => h) (Or.inl ⟨by rfl, ?_⟩) ?_ ?_
                                rotate_left
                                · intro w'
                                  go_simp
                                  with_reducible rfl
                                rotate_left
                                · simp only [Act.put, List.setIfInBounds_toArray, List.set_cons_zero, List.set_cons_succ, i64_w, i32_w]
                                  rfl
                                refine done_ (done_of HT_.out (by kernel_rfl)) ?_
                                try go_wp2
                                go_ret
                                exact ⟨by first | rfl | (simp [errW_none, errW_some] <;> rfl) | (simp only [← hji4]; first | rfl | (simp [errW_none, errW_some] <;> rfl)) | (simp [*, errW_none, errW_some] <;> rfl), by repeat (first | (with_reducible first | exact HB.out | apply below_alloc | apply pw_below_drewN | apply below_drew1 | refine below_set ?_ GE209.out | refine below_set ?_ GE210.out | refine below_set ?_ GE221.out | refine below_set ?_ GE235.out) | exact HB.out)⟩
                              · rw [if_neg c28] at H
                                have c28b0 : (t252 == (rd t205 0)) = false := beq_eq_false_iff_ne.mpr c28
                                have c28b1 : (t252 != (rd t205 0)) = true := bne_iff_ne.mpr c28
                                exact absurd ((Option.some.inj H).trans HR_.out) (by decide)
                            · rw [if_neg c25] at H
                              have c25b0 : (t249.toList == ([110, 111, 110, 101] : List UInt8)) = false := beq_eq_false_iff_ne.mpr c25
                              have c25b1 : (t249.toList != ([110, 111, 110, 101] : List UInt8)) = true := bne_iff_ne.mpr c25
                              exact absurd ((Option.some.inj H).trans HR_.out) (by decide)
                          · rw [if_neg c22] at H
                            have c22b0 : (t241.toList == ([112, 111, 105, 110, 116, 108, 101, 115, 115] : List UInt8)) = false := beq_eq_false_iff_ne.mpr c22
                            have c22b1 : (t241.toList != ([112, 111, 105, 110, 116, 108, 101, 115, 115] : List UInt8)) = true := bne_iff_ne.mpr c22
                            exact absurd ((Option.some.inj H).trans HR_.out) (by decide)
                        · rw [if_neg c20] at H
                          have c20b0 : (t240.toList == ([105, 110, 118, 97, 108, 105, 100] : List UInt8)) = false := beq_eq_false_iff_ne.mpr c20
                          have c20b1 : (t240.toList != ([105, 110, 118, 97, 108, 105, 100] : List UInt8)) = true := bne_iff_ne.mpr c20
                          exact absurd ((Option.some.inj H).trans HR_.out) (by decide)
                      · rw [if_neg c18] at H
                        have c18b0 : (t239.toList == ([117, 110, 100, 101, 99, 105, 100, 101, 100] : List UInt8)) = false := beq_eq_false_iff_ne.mpr c18
                        have c18b1 : (t239.toList != ([117, 110, 100, 101, 99, 105, 100, 101, 100] : List UInt8)) = true := bne_iff_ne.mpr c18
                        exact absurd ((Option.some.inj H).trans HR_.out) (by decide)
                    · rw [if_neg c16] at H
                      have c16b0 : (t238.toList == ([110, 111, 110, 101] : List UInt8)) = false := beq_eq_false_iff_ne.mpr c16
                      have c16b1 : (t238.toList != ([110, 111, 110, 101] : List UInt8)) = true := bne_iff_ne.mpr c16
                      exact absurd ((Option.some.inj H).trans HR_.out) (by decide)
                  · replace c14 := Bool.eq_false_iff.mpr c14
                    subst c14
                    have H1 : (some false) = some r := by rw [if_neg (show ¬ (false = true) by decide)] at H; exact H
                    clear H
                    have H := H1
                    clear H1
                    exact absurd ((Option.some.inj H).trans HR_.out) (by decide)
                · replace c12 := Bool.eq_false_iff.mpr c12
                  subst c12
                  have H1 : (some false) = some r := by rw [if_neg (show ¬ (false = true) by decide)] at H; exact H
                  clear H
                  have H := H1
                  clear H1
                  exact absurd ((Option.some.inj H).trans HR_.out) (by decide)
              · rw [if_neg c10] at H
                exact absurd H (by simp)
            · rw [if_neg c9] at H
              exact absurd H (by simp)
          · rw [if_neg c8] at H
            exact absurd H (by simp)
        · rw [if_neg c7] at H
          exact absurd H (by simp)
      · rw [if_neg c6] at H
        exact absurd H (by simp)
    · rw [if_neg c5] at H
      exact absurd H (by simp)

end Go.Proofs.Ytikfdjgigeggjaa.MFnRules
