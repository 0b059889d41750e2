/- Part 32: an interpreter over plain data for this code, with the proof that it says what the model does, and the contracts of the functions. No condition. -/
import Derived.Test.YtfkmodcjddfeiaaDoorDi31
set_option linter.unusedVariables false
set_option linter.unusedSimpArgs false
set_option maxRecDepth 100000
namespace Go.Di
open Proofs
open Go.RowKit Go.ChangeShapes Go.WideShapes Go.Deep Go.ChangeAt Go.Proofs
open Go.Proofs.YtfkmodcjddfeiaaDoor

theorem forgePlan_said : Rows.ForgePlanSaid :=
 OpenClaim.holds_of_cond 20 Tryd.f20 rfl rfl rfl rfl rfl rfl rfl ⟨rfl,rfl,rfl,rfl,rfl⟩ rfl rfl rfl rfl rfl (by kernel_rfl) (by kernel_rfl) forgePlan_facts
  (of_decide_eq_true (by kernel_rfl)) (by unfold Func.isWrapper; first | (rw [if_pos (by decide +kernel)]; kernel_rfl) | (rw [if_neg (by decide +kernel)]; exact ⟨rfl,rfl⟩))
  (fun os started H enc _ F => by rw [OpenClaim.pre_eq_preRow]; exact forgePlan_lifted os started H enc F)
theorem forgePlan_func : Tryd.prog.funcs[20]? = some Tryd.f20 := by kernel_rfl
theorem forgePlan_named : Tryd.prog.funcNamed "prow/prowlaw07.ForgePlan" = some 20 := by kernel_rfl
theorem forgePlan_plain (f : FuncId) (fn : Func) (hf : Tryd.pinned.checked.prog.funcNamed "prow/prowlaw07.ForgePlan" = some f) (hfn : Tryd.pinned.checked.prog.funcs[f]? = some fn) :
  false = Tryd.pinned.checked.prog.looks [] ∧ ∀ (j : Nat) t,fn.params[j]? = some t → Tryd.pinned.checked.prog.wantsStandIn t = false := by
 obtain rfl : f = 20 := (Option.some.inj (forgePlan_named.symm.trans hf)).symm
 obtain rfl : fn = Tryd.f20 := (Option.some.inj (forgePlan_func.symm.trans hfn)).symm
 refine ⟨by kernel_rfl,fun j t ht => ?_⟩
 have hp : Tryd.f20.params = #[84,3] := by kernel_rfl
 rw [hp] at ht
 have hm : t ∈ [84,3] := by simpa using Array.mem_of_getElem? ht
 have hall : ([84,3].all fun u => !Tryd.prog.wantsStandIn u) = true := by kernel_rfl
 exact (show Tryd.prog.wantsStandIn t = false by simpa using List.all_eq_true.1 hall t hm)
theorem forgePlan_main : Tryd.pinned.checked.prog.mainIs = some (true,"0552bb48d192e66967f33c9b2a99bd704d609c7fe93456401603085cee876ac2".toList) := by kernel_rfl
theorem forgePlan_goes : false = Rows.forgePlanRow.goesBy Tryd.pinned.checked.prog := by kernel_rfl
theorem forgePlan_wft : Rows.forgePlanRow.wfByText (OpenSpec.ofChange Rows.forgePlanSpec) = true := by kernel_rfl
theorem forgePlan_holds : Rows.ForgePlanCardSaid :=
 Claim7.holds_tied_plain_at .later [] [.data,.data,.funcs] true (true,"0552bb48d192e66967f33c9b2a99bd704d609c7fe93456401603085cee876ac2") false forgePlan_said (fun _ h => by cases h) forgePlan_wft (fun _ h => by cases h) forgePlan_row_tie rfl ⟨rfl,rfl⟩ forgePlan_main rfl forgePlan_plain forgePlan_goes
end Go.Di

namespace Go.Proofs.YtfkmodcjddfeiaaDoor
/-- ForgePlan returns true for every input and changes nothing that it is given (the row's card). -/
theorem forgePlan_holds : Rows.ForgePlanCardSaid := Go.Di.forgePlan_holds
end Go.Proofs.YtfkmodcjddfeiaaDoor
