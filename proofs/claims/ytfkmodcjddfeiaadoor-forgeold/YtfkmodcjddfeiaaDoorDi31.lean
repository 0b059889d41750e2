/- Part 31: an interpreter over plain data for this code, with the proof that it says what the model does, and the contracts of the functions. No condition. -/
import Derived.Test.YtfkmodcjddfeiaaDoorDi30
set_option linter.unusedVariables false
set_option linter.unusedSimpArgs false
set_option maxRecDepth 100000
namespace Go.Di
open Proofs
open Go.RowKit Go.ChangeShapes Go.WideShapes Go.Deep Go.ChangeAt Go.Proofs
open Go.Proofs.YtfkmodcjddfeiaaDoor

theorem forgeOld_said : Rows.ForgeOldSaid :=
 OpenClaim.holds_of_cond 25 Tryd.f25 rfl rfl rfl rfl rfl rfl rfl ⟨rfl,rfl,rfl,rfl,rfl⟩ rfl rfl rfl rfl rfl (by kernel_rfl) (by kernel_rfl) forgeOld_facts
  (of_decide_eq_true (by kernel_rfl)) (by unfold Func.isWrapper; first | (rw [if_pos (by decide +kernel)]; kernel_rfl) | (rw [if_neg (by decide +kernel)]; exact ⟨rfl,rfl⟩))
  (fun os started H enc _ F => by rw [OpenClaim.pre_eq_preRow]; exact forgeOld_lifted os started H enc F)
theorem forgeOld_func : Tryd.prog.funcs[25]? = some Tryd.f25 := by kernel_rfl
theorem forgeOld_named : Tryd.prog.funcNamed "prow/prowlaw07.ForgeOld" = some 25 := by kernel_rfl
theorem forgeOld_plain (f : FuncId) (fn : Func) (hf : Tryd.pinned.checked.prog.funcNamed "prow/prowlaw07.ForgeOld" = some f) (hfn : Tryd.pinned.checked.prog.funcs[f]? = some fn) :
  false = Tryd.pinned.checked.prog.looks [] ∧ ∀ (j : Nat) t,fn.params[j]? = some t → Tryd.pinned.checked.prog.wantsStandIn t = false := by
 obtain rfl : f = 25 := (Option.some.inj (forgeOld_named.symm.trans hf)).symm
 obtain rfl : fn = Tryd.f25 := (Option.some.inj (forgeOld_func.symm.trans hfn)).symm
 refine ⟨by kernel_rfl,fun j t ht => ?_⟩
 have hp : Tryd.f25.params = #[84,27] := by kernel_rfl
 rw [hp] at ht
 have hm : t ∈ [84,27] := by simpa using Array.mem_of_getElem? ht
 have hall : ([84,27].all fun u => !Tryd.prog.wantsStandIn u) = true := by kernel_rfl
 exact (show Tryd.prog.wantsStandIn t = false by simpa using List.all_eq_true.1 hall t hm)
theorem forgeOld_main : Tryd.pinned.checked.prog.mainIs = some (true,"0552bb48d192e66967f33c9b2a99bd704d609c7fe93456401603085cee876ac2".toList) := by kernel_rfl
theorem forgeOld_goes : false = Rows.forgeOldRow.goesBy Tryd.pinned.checked.prog := by kernel_rfl
theorem forgeOld_wft : Rows.forgeOldRow.wfByText (OpenSpec.ofChange Rows.forgeOldSpec) = true := by kernel_rfl
theorem forgeOld_holds : Rows.ForgeOldCardSaid :=
 Claim7.holds_tied_plain_at .later [] [.data,.funcs,.data,.funcs] true (true,"0552bb48d192e66967f33c9b2a99bd704d609c7fe93456401603085cee876ac2") false forgeOld_said (fun _ h => by cases h) forgeOld_wft (fun _ h => by cases h) forgeOld_row_tie rfl ⟨rfl,rfl⟩ forgeOld_main rfl forgeOld_plain forgeOld_goes
end Go.Di

namespace Go.Proofs.YtfkmodcjddfeiaaDoor
/-- ForgeOld returns true for every book of a forge and every pair of numbers. -/
theorem forgeOld_holds : Rows.ForgeOldCardSaid := Go.Di.forgeOld_holds
end Go.Proofs.YtfkmodcjddfeiaaDoor
