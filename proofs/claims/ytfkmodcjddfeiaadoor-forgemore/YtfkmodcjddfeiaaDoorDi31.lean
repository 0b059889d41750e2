/- Part 31: an interpreter over plain data for this code, with the proof that it says what the model does, and the contracts of the functions. No condition. -/
import Derived.Test.YtfkmodcjddfeiaaDoorDi30
set_option linter.unusedVariables false
set_option linter.unusedSimpArgs false
set_option maxRecDepth 100000
namespace Go.Di
open Proofs
open Go.RowKit Go.ChangeShapes Go.WideShapes Go.Deep Go.ChangeAt Go.Proofs
open Go.Proofs.YtfkmodcjddfeiaaDoor
theorem forgeMore_said : Rows.ForgeMoreSaid :=
 OpenClaim.holds_of_cond 24 Tryd.f24 rfl rfl rfl rfl rfl rfl rfl ⟨rfl,rfl,rfl,rfl,rfl⟩ rfl rfl rfl rfl rfl (by kernel_rfl) (by kernel_rfl) forgeMore_facts
  (of_decide_eq_true (by kernel_rfl)) (by unfold Func.isWrapper; first | (rw [if_pos (by decide +kernel)]; kernel_rfl) | (rw [if_neg (by decide +kernel)]; exact ⟨rfl,rfl⟩))
  (fun os started H enc _ F => by rw [OpenClaim.pre_eq_preRow]; exact forgeMore_lifted os started H enc F)
theorem forgeMore_func : Tryd.prog.funcs[24]? = some Tryd.f24 := by kernel_rfl
theorem forgeMore_named : Tryd.prog.funcNamed "prow/prowlaw07.ForgeMore" = some 24 := by kernel_rfl
theorem forgeMore_plain (f : FuncId) (fn : Func) (hf : Tryd.pinned.checked.prog.funcNamed "prow/prowlaw07.ForgeMore" = some f) (hfn : Tryd.pinned.checked.prog.funcs[f]? = some fn) :
  false = Tryd.pinned.checked.prog.looks [] ∧ ∀ (j : Nat) t,fn.params[j]? = some t → Tryd.pinned.checked.prog.wantsStandIn t = false := by
 obtain rfl : f = 24 := (Option.some.inj (forgeMore_named.symm.trans hf)).symm
 obtain rfl : fn = Tryd.f24 := (Option.some.inj (forgeMore_func.symm.trans hfn)).symm
 refine ⟨by kernel_rfl,fun j t ht => ?_⟩
 have hp : Tryd.f24.params = #[84,64,101] := by kernel_rfl
 rw [hp] at ht
 have hm : t ∈ [84,64,101] := by simpa using Array.mem_of_getElem? ht
 have hall : ([84,64,101].all fun u => !Tryd.prog.wantsStandIn u) = true := by kernel_rfl
 exact (show Tryd.prog.wantsStandIn t = false by simpa using List.all_eq_true.1 hall t hm)
theorem forgeMore_main : Tryd.pinned.checked.prog.mainIs = some (true,"0552bb48d192e66967f33c9b2a99bd704d609c7fe93456401603085cee876ac2".toList) := by kernel_rfl
theorem forgeMore_goes : false = Rows.forgeMoreRow.goesBy Tryd.pinned.checked.prog := by kernel_rfl
theorem forgeMore_wft : Rows.forgeMoreRow.wfByText (OpenSpec.ofChange Rows.forgeMoreSpec) = true := by kernel_rfl
theorem forgeMore_holds : Rows.ForgeMoreCardSaid :=
 Claim7.holds_tied_plain_at .later [] [.data,.data,.funcs] true (true,"0552bb48d192e66967f33c9b2a99bd704d609c7fe93456401603085cee876ac2") false forgeMore_said (fun _ h => by cases h) forgeMore_wft (fun _ h => by cases h) forgeMore_row_tie rfl ⟨rfl,rfl⟩ forgeMore_main rfl forgeMore_plain forgeMore_goes
end Go.Di

namespace Go.Proofs.YtfkmodcjddfeiaaDoor
/-- ForgeMore returns true for every book of a forge and all numbers. -/
theorem forgeMore_holds : Rows.ForgeMoreCardSaid := Go.Di.forgeMore_holds
end Go.Proofs.YtfkmodcjddfeiaaDoor
