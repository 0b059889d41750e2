/- Part 31: an interpreter over plain data for this code, with the proof that it says what the model does, and the contracts of the functions. No condition. -/
import Derived.Test.YtfkmodcjddfeiaaDoorDi30
set_option linter.unusedVariables false
set_option linter.unusedSimpArgs false
set_option maxRecDepth 100000
namespace Go.Di
open Go.RowKit Go.ChangeShapes Go.WideShapes Go.Deep Go.ChangeAt Go.Proofs
open Go.Proofs.YtfkmodcjddfeiaaDoor

theorem forgeNew_said : Rows.ForgeNewSaid :=
 OpenClaim.holds_of_cond 17 Tryd.f17 rfl rfl rfl rfl rfl rfl rfl ⟨rfl,rfl,rfl,rfl,rfl⟩ rfl rfl rfl rfl rfl (by kernel_rfl) (by kernel_rfl) forgeNew_facts
  (of_decide_eq_true (by kernel_rfl)) (by unfold Func.isWrapper; first | (rw [if_pos (by decide +kernel)]; kernel_rfl) | (rw [if_neg (by decide +kernel)]; exact ⟨rfl,rfl⟩))
  (fun os started H enc _ F => by rw [OpenClaim.pre_eq_preRow]; exact forgeNew_lifted os started H enc F)
theorem forgeNew_func : Tryd.prog.funcs[17]? = some Tryd.f17 := by kernel_rfl
theorem forgeNew_named : Tryd.prog.funcNamed "prow/prowlaw07.ForgeNew" = some 17 := by kernel_rfl
theorem forgeNew_plain (f : FuncId) (fn : Func) (hf : Tryd.pinned.checked.prog.funcNamed "prow/prowlaw07.ForgeNew" = some f) (hfn : Tryd.pinned.checked.prog.funcs[f]? = some fn) :
  false = Tryd.pinned.checked.prog.looks [] ∧ ∀ (j : Nat) t,fn.params[j]? = some t → Tryd.pinned.checked.prog.wantsStandIn t = false := by
 obtain rfl : f = 17 := (Option.some.inj (forgeNew_named.symm.trans hf)).symm
 obtain rfl : fn = Tryd.f17 := (Option.some.inj (forgeNew_func.symm.trans hfn)).symm
 refine ⟨by kernel_rfl,fun j t ht => ?_⟩
 have hp : Tryd.f17.params = #[84,101] := by kernel_rfl
 rw [hp] at ht
 have hm : t ∈ [84,101] := by simpa using Array.mem_of_getElem? ht
 have hall : ([84,101].all fun u => !Tryd.prog.wantsStandIn u) = true := by kernel_rfl
 exact (show Tryd.prog.wantsStandIn t = false by simpa using List.all_eq_true.1 hall t hm)
theorem forgeNew_main : Tryd.pinned.checked.prog.mainIs = some (true,"0552bb48d192e66967f33c9b2a99bd704d609c7fe93456401603085cee876ac2".toList) := by kernel_rfl
theorem forgeNew_goes : false = Rows.forgeNewRow.goesBy Tryd.pinned.checked.prog := by kernel_rfl
theorem forgeNew_wft : Rows.forgeNewRow.wfByText (OpenSpec.ofChange Rows.forgeNewSpec) = true := by kernel_rfl
/-- The card. -/
theorem forgeNew_holds : Rows.ForgeNewCardSaid :=
 Claim7.holds_tied_plain_at .later [] [.data,.data,.funcs] true (true,"0552bb48d192e66967f33c9b2a99bd704d609c7fe93456401603085cee876ac2") false forgeNew_said (fun _ h => by cases h) forgeNew_wft (fun _ h => by cases h) forgeNew_row_tie rfl ⟨rfl,rfl⟩ forgeNew_main rfl forgeNew_plain forgeNew_goes
end Go.Di

namespace Go.Proofs.YtfkmodcjddfeiaaDoor
/-- ForgeNew returns true for every input and changes nothing that it is given (the row's card). -/
theorem forgeNew_holds : Rows.ForgeNewCardSaid := Go.Di.forgeNew_holds
end Go.Proofs.YtfkmodcjddfeiaaDoor
