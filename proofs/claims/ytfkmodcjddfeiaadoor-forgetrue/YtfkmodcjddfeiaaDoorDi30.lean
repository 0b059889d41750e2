/- Part 30: contracts are proved. No condition. -/
import Derived.Test.YtfkmodcjddfeiaaDoorDi29
set_option linter.unusedVariables false
set_option linter.unusedSimpArgs false
set_option maxRecDepth 100000
namespace Go.Di
open Proofs
open Go.RowKit Go.ChangeShapes Go.WideShapes Go.Deep Go.ChangeAt Go.Proofs
open Go.Proofs.YtfkmodcjddfeiaaDoor
theorem forgeTrue_said : Rows.ForgeTrueSaid :=
 OpenClaim.holds_of_cond 16 Tryd.f16 rfl rfl rfl rfl rfl rfl rfl ⟨rfl,rfl,rfl,rfl,rfl⟩ rfl rfl rfl rfl rfl (by kernel_rfl) (by kernel_rfl) forgeTrue_facts
  (of_decide_eq_true (by kernel_rfl)) (by unfold Func.isWrapper; first | (rw [if_pos (by decide +kernel)]; kernel_rfl) | (rw [if_neg (by decide +kernel)]; exact ⟨rfl,rfl⟩))
  (fun os started H enc _ F => by rw [OpenClaim.pre_eq_preRow]; exact forgeTrue_lifted os started H enc F)
theorem forgeTrue_func : Tryd.prog.funcs[16]? = some Tryd.f16 := by kernel_rfl
theorem forgeTrue_named : Tryd.prog.funcNamed "prow/prowlaw07.ForgeTrue" = some 16 := by kernel_rfl
theorem forgeTrue_plain (f : FuncId) (fn : Func) (hf : Tryd.pinned.checked.prog.funcNamed "prow/prowlaw07.ForgeTrue" = some f) (hfn : Tryd.pinned.checked.prog.funcs[f]? = some fn) :
  false = Tryd.pinned.checked.prog.looks [] ∧ ∀ (j : Nat) t,fn.params[j]? = some t → Tryd.pinned.checked.prog.wantsStandIn t = false := by
 obtain rfl : f = 16 := (Option.some.inj (forgeTrue_named.symm.trans hf)).symm
 obtain rfl : fn = Tryd.f16 := (Option.some.inj (forgeTrue_func.symm.trans hfn)).symm
 refine ⟨by kernel_rfl,fun j t ht => ?_⟩
 have hp : Tryd.f16.params = #[84,23,3] := by kernel_rfl
 rw [hp] at ht
 have hm : t ∈ [84,23,3] := by simpa using Array.mem_of_getElem? ht
 have hall : ([84,23,3].all fun u => !Tryd.prog.wantsStandIn u) = true := by kernel_rfl
 exact (show Tryd.prog.wantsStandIn t = false by simpa using List.all_eq_true.1 hall t hm)
theorem forgeTrue_main : Tryd.pinned.checked.prog.mainIs = some (true,"0552bb48d192e66967f33c9b2a99bd704d609c7fe93456401603085cee876ac2".toList) := by kernel_rfl
theorem forgeTrue_goes : false = Rows.forgeTrueRow.goesBy Tryd.pinned.checked.prog := by kernel_rfl
theorem forgeTrue_wft : Rows.forgeTrueRow.wfByText (OpenSpec.ofChange Rows.forgeTrueSpec) = true := by kernel_rfl
theorem forgeTrue_holds : Rows.ForgeTrueCardSaid :=
 Claim7.holds_tied_plain_at .later [] [.data,.data,.funcs] true (true,"0552bb48d192e66967f33c9b2a99bd704d609c7fe93456401603085cee876ac2") false forgeTrue_said (fun _ h => by cases h) forgeTrue_wft (fun _ h => by cases h) forgeTrue_row_tie rfl ⟨rfl,rfl⟩ forgeTrue_main rfl forgeTrue_plain forgeTrue_goes
end Go.Di

namespace Go.Proofs.YtfkmodcjddfeiaaDoor
/-- ForgeTrue returns true for every book of a forge, every list of numbers and every number. -/
theorem forgeTrue_holds : Rows.ForgeTrueCardSaid := Go.Di.forgeTrue_holds
end Go.Proofs.YtfkmodcjddfeiaaDoor
