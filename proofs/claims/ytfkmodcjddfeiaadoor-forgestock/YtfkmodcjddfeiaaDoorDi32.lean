/- Part 32: an interpreter over plain data for this code, with the proof that it says what the model does, and the contracts of the functions. No condition. -/
import Derived.Test.YtfkmodcjddfeiaaDoorDi31
set_option linter.unusedVariables false
set_option linter.unusedSimpArgs false
set_option maxRecDepth 100000
namespace Go.Di
open Go.RowKit Go.ChangeShapes Go.WideShapes Go.Deep Go.ChangeAt Go.Proofs
open Go.Proofs.YtfkmodcjddfeiaaDoor

theorem forgeStock_said : Rows.ForgeStockSaid :=
 OpenClaim.holds_of_cond 21 Tryd.f21 rfl rfl rfl rfl rfl rfl rfl ⟨rfl,rfl,rfl,rfl,rfl⟩ rfl rfl rfl rfl rfl (by kernel_rfl) (by kernel_rfl) forgeStock_facts
  (of_decide_eq_true (by kernel_rfl)) (by unfold Func.isWrapper; first | (rw [if_pos (by decide +kernel)]; kernel_rfl) | (rw [if_neg (by decide +kernel)]; exact ⟨rfl,rfl⟩))
  (fun os started H enc _ F => by rw [OpenClaim.pre_eq_preRow]; exact forgeStock_lifted os started H enc F)
theorem forgeStock_func : Tryd.prog.funcs[21]? = some Tryd.f21 := by kernel_rfl
theorem forgeStock_named : Tryd.prog.funcNamed "prow/prowlaw07.ForgeStock" = some 21 := by kernel_rfl
theorem forgeStock_plain (f : FuncId) (fn : Func) (hf : Tryd.pinned.checked.prog.funcNamed "prow/prowlaw07.ForgeStock" = some f) (hfn : Tryd.pinned.checked.prog.funcs[f]? = some fn) :
  false = Tryd.pinned.checked.prog.looks [] ∧ ∀ (j : Nat) t,fn.params[j]? = some t → Tryd.pinned.checked.prog.wantsStandIn t = false := by
 obtain rfl : f = 21 := (Option.some.inj (forgeStock_named.symm.trans hf)).symm
 obtain rfl : fn = Tryd.f21 := (Option.some.inj (forgeStock_func.symm.trans hfn)).symm
 refine ⟨by kernel_rfl,fun j t ht => ?_⟩
 have hp : Tryd.f21.params = #[84,3] := by kernel_rfl
 rw [hp] at ht
 have hm : t ∈ [84,3] := by simpa using Array.mem_of_getElem? ht
 have hall : ([84,3].all fun u => !Tryd.prog.wantsStandIn u) = true := by kernel_rfl
 exact (show Tryd.prog.wantsStandIn t = false by simpa using List.all_eq_true.1 hall t hm)
theorem forgeStock_main : Tryd.pinned.checked.prog.mainIs = some (true,"0552bb48d192e66967f33c9b2a99bd704d609c7fe93456401603085cee876ac2".toList) := by kernel_rfl
theorem forgeStock_goes : false = Rows.forgeStockRow.goesBy Tryd.pinned.checked.prog := by kernel_rfl
theorem forgeStock_wft : Rows.forgeStockRow.wfByText (OpenSpec.ofChange Rows.forgeStockSpec) = true := by kernel_rfl
/-- The card. -/
theorem forgeStock_holds : Rows.ForgeStockCardSaid :=
 Claim7.holds_tied_plain_at .later [] [.data,.data,.funcs] true (true,"0552bb48d192e66967f33c9b2a99bd704d609c7fe93456401603085cee876ac2") false forgeStock_said (fun _ h => by cases h) forgeStock_wft (fun _ h => by cases h) forgeStock_row_tie rfl ⟨rfl,rfl⟩ forgeStock_main rfl forgeStock_plain forgeStock_goes
end Go.Di

namespace Go.Proofs.YtfkmodcjddfeiaaDoor
/-- ForgeStock returns true for every input and changes nothing that it is given (the row's card). -/
theorem forgeStock_holds : Rows.ForgeStockCardSaid := Go.Di.forgeStock_holds
end Go.Proofs.YtfkmodcjddfeiaaDoor
