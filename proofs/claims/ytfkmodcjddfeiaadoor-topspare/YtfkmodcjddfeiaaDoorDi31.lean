/- Part 31: an interpreter over plain data for this code, with the proof that it says what the model does, and the contracts of the functions. No condition. -/
import Derived.Test.YtfkmodcjddfeiaaDoorDi30
set_option linter.unusedVariables false
set_option linter.unusedSimpArgs false
set_option maxRecDepth 100000
namespace Go.Di
open Proofs
open Go.RowKit Go.ChangeShapes Go.WideShapes Go.Deep Go.ChangeAt Go.Proofs
open Go.Proofs.YtfkmodcjddfeiaaDoor

theorem topSpare_said : Rows.TopSpareSaid :=
 OpenClaim.holds_of_cond 26 Tryd.f26 rfl rfl rfl rfl rfl rfl rfl ⟨rfl,rfl,rfl,rfl,rfl⟩ rfl rfl rfl rfl rfl (by kernel_rfl) (by kernel_rfl) topSpare_facts
  (of_decide_eq_true (by kernel_rfl)) (by unfold Func.isWrapper; first | (rw [if_pos (by decide +kernel)]; kernel_rfl) | (rw [if_neg (by decide +kernel)]; exact ⟨rfl,rfl⟩))
  (fun os started H enc _ F => by rw [OpenClaim.pre_eq_preRow]; exact topSpare_lifted os started H enc F)
theorem topSpare_func : Tryd.prog.funcs[26]? = some Tryd.f26 := by kernel_rfl
theorem topSpare_named : Tryd.prog.funcNamed "prow/prowtop.TopSpare" = some 26 := by kernel_rfl
theorem topSpare_plain (f : FuncId) (fn : Func) (hf : Tryd.pinned.checked.prog.funcNamed "prow/prowtop.TopSpare" = some f) (hfn : Tryd.pinned.checked.prog.funcs[f]? = some fn) :
  false = Tryd.pinned.checked.prog.looks [] ∧ ∀ (j : Nat) t,fn.params[j]? = some t → Tryd.pinned.checked.prog.wantsStandIn t = false := by
 obtain rfl : f = 26 := (Option.some.inj (topSpare_named.symm.trans hf)).symm
 obtain rfl : fn = Tryd.f26 := (Option.some.inj (topSpare_func.symm.trans hfn)).symm
 refine ⟨by kernel_rfl,fun j t ht => ?_⟩
 have hp : Tryd.f26.params = #[84] := by kernel_rfl
 rw [hp] at ht
 have hm : t ∈ [84] := by simpa using Array.mem_of_getElem? ht
 have hall : ([84].all fun u => !Tryd.prog.wantsStandIn u) = true := by kernel_rfl
 exact (show Tryd.prog.wantsStandIn t = false by simpa using List.all_eq_true.1 hall t hm)
theorem topSpare_main : Tryd.pinned.checked.prog.mainIs = some (true,"0552bb48d192e66967f33c9b2a99bd704d609c7fe93456401603085cee876ac2".toList) := by kernel_rfl
theorem topSpare_goes : false = Rows.topSpareRow.goesBy Tryd.pinned.checked.prog := by kernel_rfl
theorem topSpare_wft : Rows.topSpareRow.wfByText (OpenSpec.ofChange Rows.topSpareSpec) = true := by kernel_rfl
theorem topSpare_holds : Rows.TopSpareCardSaid :=
 Claim7.holds_tied_plain_at .later [] [.data,.funcs,.data,.funcs] true (true,"0552bb48d192e66967f33c9b2a99bd704d609c7fe93456401603085cee876ac2") false topSpare_said (fun _ h => by cases h) topSpare_wft (fun _ h => by cases h) topSpare_row_tie rfl ⟨rfl,rfl⟩ topSpare_main rfl topSpare_plain topSpare_goes
end Go.Di

namespace Go.Proofs.YtfkmodcjddfeiaaDoor
/-- TopSpare returns true for every book of a forge. -/
theorem topSpare_holds : Rows.TopSpareCardSaid := Go.Di.topSpare_holds
end Go.Proofs.YtfkmodcjddfeiaaDoor
