/- Part 29: an interpreter over plain data for this code, with the proof that it says what the model does, and the contracts of the functions. No condition. -/
import Derived.Test.YtfkmodcjddfeiaaDoorDi28
set_option linter.unusedVariables false
set_option linter.unusedSimpArgs false
set_option maxRecDepth 100000
namespace Go.Di
open Go.RowKit Go.ChangeShapes Go.WideShapes Go.Deep Go.ChangeAt Go.Proofs
open Go.Proofs.YtfkmodcjddfeiaaDoor

theorem chainTurns_said : Rows.ChainTurnsSaid :=
 OpenClaim.holds_of_cond 5 Tryd.f5 rfl rfl rfl rfl rfl rfl rfl ⟨rfl, rfl, rfl, rfl, rfl⟩ rfl rfl rfl rfl rfl (by kernel_rfl) (by kernel_rfl) chainTurns_facts
  (of_decide_eq_true (by kernel_rfl)) (by unfold Func.isWrapper; first | (rw [if_pos (by decide +kernel)]; kernel_rfl) | (rw [if_neg (by decide +kernel)]; exact ⟨rfl, rfl⟩))
  (fun os started H enc _ F => by rw [OpenClaim.pre_eq_preRow]; exact chainTurns_lifted os started H enc F)
theorem chainTurns_func : Tryd.prog.funcs[5]? = some Tryd.f5 := by kernel_rfl
theorem chainTurns_named : Tryd.prog.funcNamed "prow/prowlaw01.ChainTurns" = some 5 := by kernel_rfl
theorem chainTurns_plain (f : FuncId) (fn : Func) (hf : Tryd.pinned.checked.prog.funcNamed "prow/prowlaw01.ChainTurns" = some f) (hfn : Tryd.pinned.checked.prog.funcs[f]? = some fn) :
  false = Tryd.pinned.checked.prog.looks [] ∧ ∀ (j : Nat) t, fn.params[j]? = some t → Tryd.pinned.checked.prog.wantsStandIn t = false := by
 obtain rfl : f = 5 := (Option.some.inj (chainTurns_named.symm.trans hf)).symm
 obtain rfl : fn = Tryd.f5 := (Option.some.inj (chainTurns_func.symm.trans hfn)).symm
 refine ⟨by kernel_rfl, fun j t ht => ?_⟩
 have hp : Tryd.f5.params = #[26] := by kernel_rfl
 rw [hp] at ht
 have hm : t ∈ [26] := by simpa using Array.mem_of_getElem? ht
 have hall : ([26].all fun u => !Tryd.prog.wantsStandIn u) = true := by kernel_rfl
 exact (show Tryd.prog.wantsStandIn t = false by simpa using List.all_eq_true.1 hall t hm)
theorem chainTurns_main : Tryd.pinned.checked.prog.mainIs = some (true, "0552bb48d192e66967f33c9b2a99bd704d609c7fe93456401603085cee876ac2".toList) := by kernel_rfl
theorem chainTurns_goes : false = Rows.chainTurnsRow.goesBy Tryd.pinned.checked.prog := by kernel_rfl
theorem chainTurns_wft : Rows.chainTurnsRow.wfByText (OpenSpec.ofChange Rows.chainTurnsSpec) = true := by kernel_rfl
/-- The card. -/
theorem chainTurns_holds : Rows.ChainTurnsCardSaid :=
 Claim7.holds_tied_plain_at .later [] [.data, .funcs] true (true, "0552bb48d192e66967f33c9b2a99bd704d609c7fe93456401603085cee876ac2") false chainTurns_said (fun _ h => by cases h) chainTurns_wft (fun _ h => by cases h) chainTurns_row_tie rfl ⟨rfl, rfl⟩ chainTurns_main rfl chainTurns_plain chainTurns_goes
end Go.Di

namespace Go.Proofs.YtfkmodcjddfeiaaDoor
/-- The law ChainTurns answers true for all arguments, as its card says. No condition. -/
theorem chainTurns_holds : Rows.ChainTurnsCardSaid := Go.Di.chainTurns_holds
end Go.Proofs.YtfkmodcjddfeiaaDoor
