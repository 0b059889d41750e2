/- Part 27: an interpreter over plain data for this code, with the proof that it says what the model does, and the contracts of the functions. No condition. -/
import Derived.Test.YtfkmodcjddfeiaaDoorDi26
set_option linter.unusedVariables false
set_option linter.unusedSimpArgs false
set_option maxRecDepth 100000
namespace Go.Di
open Go.RowKit Go.ChangeShapes Go.WideShapes Go.Deep Go.ChangeAt Go.Proofs
open Go.Proofs.YtfkmodcjddfeiaaDoor

theorem chainTurn_said : Rows.ChainTurnSaid :=
  OpenClaim.holds_of_cond 11 Tryd.f11 rfl rfl rfl rfl rfl rfl rfl ⟨rfl, rfl, rfl, rfl, rfl⟩ rfl rfl rfl rfl rfl (by kernel_rfl) (by kernel_rfl) chainTurn_facts
    (of_decide_eq_true (by kernel_rfl)) (by unfold Func.isWrapper; first | (rw [if_pos (by decide +kernel)]; kernel_rfl) | (rw [if_neg (by decide +kernel)]; exact ⟨rfl, rfl⟩))
    (fun os started H enc _ F => by rw [OpenClaim.pre_eq_preRow]; exact chainTurn_lifted os started H enc F)
theorem chainTurn_func : Tryd.prog.funcs[11]? = some Tryd.f11 := by kernel_rfl
theorem chainTurn_named : Tryd.prog.funcNamed "prow/prowlaw01.ChainTurn" = some 11 := by kernel_rfl
theorem chainTurn_plain (f : FuncId) (fn : Func) (hf : Tryd.pinned.checked.prog.funcNamed "prow/prowlaw01.ChainTurn" = some f) (hfn : Tryd.pinned.checked.prog.funcs[f]? = some fn) :
    false = Tryd.pinned.checked.prog.looks [] ∧ ∀ (j : Nat) t, fn.params[j]? = some t → Tryd.pinned.checked.prog.wantsStandIn t = false := by
  obtain rfl : f = 11 := (Option.some.inj (chainTurn_named.symm.trans hf)).symm
  obtain rfl : fn = Tryd.f11 := (Option.some.inj (chainTurn_func.symm.trans hfn)).symm
  refine ⟨by kernel_rfl, fun j t ht => ?_⟩
  have hp : Tryd.f11.params = #[26, 3] := by kernel_rfl
  rw [hp] at ht
  have hm : t ∈ [26, 3] := by simpa using Array.mem_of_getElem? ht
  have hall : ([26, 3].all fun u => !Tryd.prog.wantsStandIn u) = true := by kernel_rfl
  exact (show Tryd.prog.wantsStandIn t = false by simpa using List.all_eq_true.1 hall t hm)
theorem chainTurn_main : Tryd.pinned.checked.prog.mainIs = some (true, "0552bb48d192e66967f33c9b2a99bd704d609c7fe93456401603085cee876ac2".toList) := by kernel_rfl
theorem chainTurn_goes : false = Rows.chainTurnRow.goesBy Tryd.pinned.checked.prog := by kernel_rfl
theorem chainTurn_wft : Rows.chainTurnRow.wfByText (OpenSpec.ofChange Rows.chainTurnSpec) = true := by kernel_rfl
/-- The card. -/
theorem chainTurn_holds : Rows.ChainTurnCardSaid :=
  Claim7.holds_tied_plain_at .later [] [.data, .funcs] true (true, "0552bb48d192e66967f33c9b2a99bd704d609c7fe93456401603085cee876ac2") false chainTurn_said (fun _ h => by cases h) chainTurn_wft (fun _ h => by cases h) chainTurn_row_tie rfl ⟨rfl, rfl⟩ chainTurn_main rfl chainTurn_plain chainTurn_goes
end Go.Di

namespace Go.Proofs.YtfkmodcjddfeiaaDoor
/-- The law ChainTurn answers true for all arguments, as its card says. No condition. -/
theorem chainTurn_holds : Rows.ChainTurnCardSaid := Go.Di.chainTurn_holds
end Go.Proofs.YtfkmodcjddfeiaaDoor
