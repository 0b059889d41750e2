/- Part 31: an interpreter over plain data for this code, with the proof that it says what the model does, and the contracts of the functions. No condition. -/
import Derived.Test.YtfkmodcjddfeiaaDoorDi30
set_option linter.unusedVariables false
set_option linter.unusedSimpArgs false
set_option maxRecDepth 100000
namespace Go.Di
open Go.RowKit Go.ChangeShapes Go.WideShapes Go.Deep Go.ChangeAt Go.Proofs
open Go.Proofs.YtfkmodcjddfeiaaDoor

theorem forgeStocked_said : Rows.ForgeStockedSaid :=
 OpenClaim.holds_of_cond 19 Tryd.f19 rfl rfl rfl rfl rfl rfl rfl ⟨rfl,rfl,rfl,rfl,rfl⟩ rfl rfl rfl rfl rfl (by kernel_rfl) (by kernel_rfl) forgeStocked_facts
  (of_decide_eq_true (by kernel_rfl)) (by unfold Func.isWrapper; first | (rw [if_pos (by decide +kernel)]; kernel_rfl) | (rw [if_neg (by decide +kernel)]; exact ⟨rfl,rfl⟩))
  (fun os started H enc _ F => by rw [OpenClaim.pre_eq_preRow]; exact forgeStocked_lifted os started H enc F)
theorem forgeStocked_func : Tryd.prog.funcs[19]? = some Tryd.f19 := by kernel_rfl
theorem forgeStocked_named : Tryd.prog.funcNamed "prow/prowlaw07.ForgeStocked" = some 19 := by kernel_rfl
theorem forgeStocked_plain (f : FuncId) (fn : Func) (hf : Tryd.pinned.checked.prog.funcNamed "prow/prowlaw07.ForgeStocked" = some f) (hfn : Tryd.pinned.checked.prog.funcs[f]? = some fn) :
  false = Tryd.pinned.checked.prog.looks [] ∧ ∀ (j : Nat) t,fn.params[j]? = some t → Tryd.pinned.checked.prog.wantsStandIn t = false := by
 obtain rfl : f = 19 := (Option.some.inj (forgeStocked_named.symm.trans hf)).symm
 obtain rfl : fn = Tryd.f19 := (Option.some.inj (forgeStocked_func.symm.trans hfn)).symm
 refine ⟨by kernel_rfl,fun j t ht => ?_⟩
 have hp : Tryd.f19.params = #[84,3] := by kernel_rfl
 rw [hp] at ht
 have hm : t ∈ [84,3] := by simpa using Array.mem_of_getElem? ht
 have hall : ([84,3].all fun u => !Tryd.prog.wantsStandIn u) = true := by kernel_rfl
 exact (show Tryd.prog.wantsStandIn t = false by simpa using List.all_eq_true.1 hall t hm)
theorem forgeStocked_main : Tryd.pinned.checked.prog.mainIs = some (true,"0552bb48d192e66967f33c9b2a99bd704d609c7fe93456401603085cee876ac2".toList) := by kernel_rfl
theorem forgeStocked_goes : false = Rows.forgeStockedRow.goesBy Tryd.pinned.checked.prog := by kernel_rfl
theorem forgeStocked_wft : Rows.forgeStockedRow.wfByText (OpenSpec.ofChange Rows.forgeStockedSpec) = true := by kernel_rfl
/-- The card. -/
theorem forgeStocked_holds : Rows.ForgeStockedCardSaid :=
 Claim7.holds_tied_plain_at .later [] [.data,.data,.funcs] true (true,"0552bb48d192e66967f33c9b2a99bd704d609c7fe93456401603085cee876ac2") false forgeStocked_said (fun _ h => by cases h) forgeStocked_wft (fun _ h => by cases h) forgeStocked_row_tie rfl ⟨rfl,rfl⟩ forgeStocked_main rfl forgeStocked_plain forgeStocked_goes
end Go.Di

namespace Go.Proofs.YtfkmodcjddfeiaaDoor
/-- ForgeStocked returns true for every input and changes nothing that it is given (the row's card). -/
theorem forgeStocked_holds : Rows.ForgeStockedCardSaid := Go.Di.forgeStocked_holds
end Go.Proofs.YtfkmodcjddfeiaaDoor
