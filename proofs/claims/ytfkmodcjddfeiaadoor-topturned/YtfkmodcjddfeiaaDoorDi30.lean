/- Part 30: an interpreter over plain data for this code, with the proof that it says what the model does, and the contracts of the functions. No condition. -/
import Derived.Test.YtfkmodcjddfeiaaDoorDi29
set_option linter.unusedVariables false
set_option linter.unusedSimpArgs false
set_option maxRecDepth 100000
namespace Go.Di
open Proofs
open Go.RowKit Go.ChangeShapes Go.WideShapes Go.Deep Go.ChangeAt Go.Proofs
open Go.Proofs.YtfkmodcjddfeiaaDoor

theorem topTurned_said : Rows.TopTurnedSaid :=
 OpenClaim.holds_of_cond 15 Tryd.f15 rfl rfl rfl rfl rfl rfl rfl ⟨rfl,rfl,rfl,rfl,rfl⟩ rfl rfl rfl rfl rfl (by kernel_rfl) (by kernel_rfl) topTurned_facts
  (of_decide_eq_true (by kernel_rfl)) (by unfold Func.isWrapper; first | (rw [if_pos (by decide +kernel)]; kernel_rfl) | (rw [if_neg (by decide +kernel)]; exact ⟨rfl,rfl⟩))
  (fun os started H enc _ F => by rw [OpenClaim.pre_eq_preRow]; exact topTurned_lifted os started H enc F)
theorem topTurned_func : Tryd.prog.funcs[15]? = some Tryd.f15 := by kernel_rfl
theorem topTurned_named : Tryd.prog.funcNamed "prow/prowtop.TopTurned" = some 15 := by kernel_rfl
theorem topTurned_plain (f : FuncId) (fn : Func) (hf : Tryd.pinned.checked.prog.funcNamed "prow/prowtop.TopTurned" = some f) (hfn : Tryd.pinned.checked.prog.funcs[f]? = some fn) :
  false = Tryd.pinned.checked.prog.looks [] ∧ ∀ (j : Nat) t,fn.params[j]? = some t → Tryd.pinned.checked.prog.wantsStandIn t = false := by
 obtain rfl : f = 15 := (Option.some.inj (topTurned_named.symm.trans hf)).symm
 obtain rfl : fn = Tryd.f15 := (Option.some.inj (topTurned_func.symm.trans hfn)).symm
 refine ⟨by kernel_rfl,fun j t ht => ?_⟩
 have hp : Tryd.f15.params = #[84,3] := by kernel_rfl
 rw [hp] at ht
 have hm : t ∈ [84,3] := by simpa using Array.mem_of_getElem? ht
 have hall : ([84,3].all fun u => !Tryd.prog.wantsStandIn u) = true := by kernel_rfl
 exact (show Tryd.prog.wantsStandIn t = false by simpa using List.all_eq_true.1 hall t hm)
theorem topTurned_main : Tryd.pinned.checked.prog.mainIs = some (true,"0552bb48d192e66967f33c9b2a99bd704d609c7fe93456401603085cee876ac2".toList) := by kernel_rfl
theorem topTurned_goes : false = Rows.topTurnedRow.goesBy Tryd.pinned.checked.prog := by kernel_rfl
theorem topTurned_wft : Rows.topTurnedRow.wfByText (OpenSpec.ofChange Rows.topTurnedSpec) = true := by kernel_rfl
theorem topTurned_holds : Rows.TopTurnedCardSaid :=
 Claim7.holds_tied_plain_at .later [] [.data,.funcs,.data,.funcs] true (true,"0552bb48d192e66967f33c9b2a99bd704d609c7fe93456401603085cee876ac2") false topTurned_said (fun _ h => by cases h) topTurned_wft (fun _ h => by cases h) topTurned_row_tie rfl ⟨rfl,rfl⟩ topTurned_main rfl topTurned_plain topTurned_goes
end Go.Di

namespace Go.Proofs.YtfkmodcjddfeiaaDoor
/-- TopTurned returns true for every book of a forge and every number. -/
theorem topTurned_holds : Rows.TopTurnedCardSaid := Go.Di.topTurned_holds
end Go.Proofs.YtfkmodcjddfeiaaDoor
