/- Part 28: an interpreter over plain data for this code, with the proof that it says what the model does, and the contracts of the functions. No condition. -/
import Derived.Test.YtfkmodcjddfeiaaDoorDi27
set_option linter.unusedVariables false
set_option linter.unusedSimpArgs false
set_option maxRecDepth 100000
namespace Go.Di
open Go.RowKit Go.ChangeShapes Go.WideShapes Go.Deep Go.ChangeAt Go.Proofs
open Go.Proofs.YtfkmodcjddfeiaaDoor

theorem chainThins_said : Rows.ChainThinsSaid :=
  OpenClaim.holds_of_cond 4 Tryd.f4 rfl rfl rfl rfl rfl rfl rfl ⟨rfl, rfl, rfl, rfl, rfl⟩ rfl rfl rfl rfl rfl (by kernel_rfl) (by kernel_rfl) chainThins_facts
    (of_decide_eq_true (by kernel_rfl)) (by unfold Func.isWrapper; first | (rw [if_pos (by decide +kernel)]; kernel_rfl) | (rw [if_neg (by decide +kernel)]; exact ⟨rfl, rfl⟩))
    (fun os started H enc _ F => by rw [OpenClaim.pre_eq_preRow]; exact chainThins_lifted os started H enc F)
theorem chainThins_func : Tryd.prog.funcs[4]? = some Tryd.f4 := by kernel_rfl
theorem chainThins_named : Tryd.prog.funcNamed "prow/prowlaw01.ChainThins" = some 4 := by kernel_rfl
theorem chainThins_plain (f : FuncId) (fn : Func) (hf : Tryd.pinned.checked.prog.funcNamed "prow/prowlaw01.ChainThins" = some f) (hfn : Tryd.pinned.checked.prog.funcs[f]? = some fn) :
    false = Tryd.pinned.checked.prog.looks [] ∧ ∀ (j : Nat) t, fn.params[j]? = some t → Tryd.pinned.checked.prog.wantsStandIn t = false := by
  obtain rfl : f = 4 := (Option.some.inj (chainThins_named.symm.trans hf)).symm
  obtain rfl : fn = Tryd.f4 := (Option.some.inj (chainThins_func.symm.trans hfn)).symm
  refine ⟨by kernel_rfl, fun j t ht => ?_⟩
  have hp : Tryd.f4.params = #[26, 34, 27] := by kernel_rfl
  rw [hp] at ht
  have hm : t ∈ [26, 34, 27] := by simpa using Array.mem_of_getElem? ht
  have hall : ([26, 34, 27].all fun u => !Tryd.prog.wantsStandIn u) = true := by kernel_rfl
  exact (show Tryd.prog.wantsStandIn t = false by simpa using List.all_eq_true.1 hall t hm)
theorem chainThins_main : Tryd.pinned.checked.prog.mainIs = some (true, "0552bb48d192e66967f33c9b2a99bd704d609c7fe93456401603085cee876ac2".toList) := by kernel_rfl
theorem chainThins_goes : false = Rows.chainThinsRow.goesBy Tryd.pinned.checked.prog := by kernel_rfl
theorem chainThins_wft : Rows.chainThinsRow.wfByText (OpenSpec.ofChange Rows.chainThinsSpec) = true := by kernel_rfl
/-- The card. -/
theorem chainThins_holds : Rows.ChainThinsCardSaid :=
  Claim7.holds_tied_plain_at .later [] [.data, .funcs] true (true, "0552bb48d192e66967f33c9b2a99bd704d609c7fe93456401603085cee876ac2") false chainThins_said (fun _ h => by cases h) chainThins_wft (fun _ h => by cases h) chainThins_row_tie rfl ⟨rfl, rfl⟩ chainThins_main rfl chainThins_plain chainThins_goes
end Go.Di

namespace Go.Proofs.YtfkmodcjddfeiaaDoor
/-- The law ChainThins answers true for all arguments, as its card says. No condition. -/
theorem chainThins_holds : Rows.ChainThinsCardSaid := Go.Di.chainThins_holds
end Go.Proofs.YtfkmodcjddfeiaaDoor
