/- Part 32: an interpreter over plain data for this code, with the proof that it says what the model does, and the contracts of the functions. No condition. -/
import Derived.Test.YtfkmodcjddfeiaaDoorDi31
set_option linter.unusedVariables false
set_option linter.unusedSimpArgs false
set_option maxRecDepth 100000
namespace Go.Di
open Proofs
open Go.RowKit Go.ChangeShapes Go.WideShapes Go.Deep Go.ChangeAt Go.Proofs
open Go.Proofs.YtfkmodcjddfeiaaDoor

theorem forgeRest_said : Rows.ForgeRestSaid :=
 OpenClaim.holds_of_cond 22 Tryd.f22 rfl rfl rfl rfl rfl rfl rfl ⟨rfl,rfl,rfl,rfl,rfl⟩ rfl rfl rfl rfl rfl (by kernel_rfl) (by kernel_rfl) forgeRest_facts
  (of_decide_eq_true (by kernel_rfl)) (by unfold Func.isWrapper; first | (rw [if_pos (by decide +kernel)]; kernel_rfl) | (rw [if_neg (by decide +kernel)]; exact ⟨rfl,rfl⟩))
  (fun os started H enc _ F => by rw [OpenClaim.pre_eq_preRow]; exact forgeRest_lifted os started H enc F)
theorem forgeRest_func : Tryd.prog.funcs[22]? = some Tryd.f22 := by kernel_rfl
theorem forgeRest_named : Tryd.prog.funcNamed "prow/prowlaw07.ForgeRest" = some 22 := by kernel_rfl
theorem forgeRest_plain (f : FuncId) (fn : Func) (hf : Tryd.pinned.checked.prog.funcNamed "prow/prowlaw07.ForgeRest" = some f) (hfn : Tryd.pinned.checked.prog.funcs[f]? = some fn) :
  false = Tryd.pinned.checked.prog.looks [] ∧ ∀ (j : Nat) t,fn.params[j]? = some t → Tryd.pinned.checked.prog.wantsStandIn t = false := by
 obtain rfl : f = 22 := (Option.some.inj (forgeRest_named.symm.trans hf)).symm
 obtain rfl : fn = Tryd.f22 := (Option.some.inj (forgeRest_func.symm.trans hfn)).symm
 refine ⟨by kernel_rfl,fun j t ht => ?_⟩
 have hp : Tryd.f22.params = #[84,3] := by kernel_rfl
 rw [hp] at ht
 have hm : t ∈ [84,3] := by simpa using Array.mem_of_getElem? ht
 have hall : ([84,3].all fun u => !Tryd.prog.wantsStandIn u) = true := by kernel_rfl
 exact (show Tryd.prog.wantsStandIn t = false by simpa using List.all_eq_true.1 hall t hm)
theorem forgeRest_main : Tryd.pinned.checked.prog.mainIs = some (true,"0552bb48d192e66967f33c9b2a99bd704d609c7fe93456401603085cee876ac2".toList) := by kernel_rfl
theorem forgeRest_goes : false = Rows.forgeRestRow.goesBy Tryd.pinned.checked.prog := by kernel_rfl
theorem forgeRest_wft : Rows.forgeRestRow.wfByText (OpenSpec.ofChange Rows.forgeRestSpec) = true := by kernel_rfl
theorem forgeRest_holds : Rows.ForgeRestCardSaid :=
 Claim7.holds_tied_plain_at .later [] [.data,.data,.funcs] true (true,"0552bb48d192e66967f33c9b2a99bd704d609c7fe93456401603085cee876ac2") false forgeRest_said (fun _ h => by cases h) forgeRest_wft (fun _ h => by cases h) forgeRest_row_tie rfl ⟨rfl,rfl⟩ forgeRest_main rfl forgeRest_plain forgeRest_goes
end Go.Di

namespace Go.Proofs.YtfkmodcjddfeiaaDoor
/-- ForgeRest returns true for every book of a forge and every number. -/
theorem forgeRest_holds : Rows.ForgeRestCardSaid := Go.Di.forgeRest_holds
end Go.Proofs.YtfkmodcjddfeiaaDoor
