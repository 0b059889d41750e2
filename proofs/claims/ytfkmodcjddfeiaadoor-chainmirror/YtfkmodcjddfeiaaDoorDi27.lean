/- Part 27: an interpreter over plain data for this code, with the proof that it says what the model does, and the contracts of the functions. No condition. -/
import Derived.Test.YtfkmodcjddfeiaaDoorDi26
set_option linter.unusedVariables false
set_option linter.unusedSimpArgs false
set_option maxRecDepth 100000
namespace Go.Di
open Go.RowKit Go.ChangeShapes Go.WideShapes Go.Deep Go.ChangeAt Go.Proofs
open Go.Proofs.YtfkmodcjddfeiaaDoor

theorem chainMirror_said : Rows.ChainMirrorSaid :=
  OpenClaim.holds_of_cond 10 Tryd.f10 rfl rfl rfl rfl rfl rfl rfl ⟨rfl, rfl, rfl, rfl, rfl⟩ rfl rfl rfl rfl rfl (by kernel_rfl) (by kernel_rfl) chainMirror_facts
    (of_decide_eq_true (by kernel_rfl)) (by unfold Func.isWrapper; first | (rw [if_pos (by decide +kernel)]; kernel_rfl) | (rw [if_neg (by decide +kernel)]; exact ⟨rfl, rfl⟩))
    (fun os started H enc _ F => by rw [OpenClaim.pre_eq_preRow]; exact chainMirror_lifted os started H enc F)
theorem chainMirror_func : Tryd.prog.funcs[10]? = some Tryd.f10 := by kernel_rfl
theorem chainMirror_named : Tryd.prog.funcNamed "prow/prowlaw01.ChainMirror" = some 10 := by kernel_rfl
theorem chainMirror_plain (f : FuncId) (fn : Func) (hf : Tryd.pinned.checked.prog.funcNamed "prow/prowlaw01.ChainMirror" = some f) (hfn : Tryd.pinned.checked.prog.funcs[f]? = some fn) :
    false = Tryd.pinned.checked.prog.looks [] ∧ ∀ (j : Nat) t, fn.params[j]? = some t → Tryd.pinned.checked.prog.wantsStandIn t = false := by
  obtain rfl : f = 10 := (Option.some.inj (chainMirror_named.symm.trans hf)).symm
  obtain rfl : fn = Tryd.f10 := (Option.some.inj (chainMirror_func.symm.trans hfn)).symm
  refine ⟨by kernel_rfl, fun j t ht => ?_⟩
  have hp : Tryd.f10.params = #[26, 27] := by kernel_rfl
  rw [hp] at ht
  have hm : t ∈ [26, 27] := by simpa using Array.mem_of_getElem? ht
  have hall : ([26, 27].all fun u => !Tryd.prog.wantsStandIn u) = true := by kernel_rfl
  exact (show Tryd.prog.wantsStandIn t = false by simpa using List.all_eq_true.1 hall t hm)
theorem chainMirror_main : Tryd.pinned.checked.prog.mainIs = some (true, "0552bb48d192e66967f33c9b2a99bd704d609c7fe93456401603085cee876ac2".toList) := by kernel_rfl
theorem chainMirror_goes : false = Rows.chainMirrorRow.goesBy Tryd.pinned.checked.prog := by kernel_rfl
theorem chainMirror_wft : Rows.chainMirrorRow.wfByText (OpenSpec.ofChange Rows.chainMirrorSpec) = true := by kernel_rfl
/-- The card. -/
theorem chainMirror_holds : Rows.ChainMirrorCardSaid :=
  Claim7.holds_tied_plain_at .later [] [.data, .funcs] true (true, "0552bb48d192e66967f33c9b2a99bd704d609c7fe93456401603085cee876ac2") false chainMirror_said (fun _ h => by cases h) chainMirror_wft (fun _ h => by cases h) chainMirror_row_tie rfl ⟨rfl, rfl⟩ chainMirror_main rfl chainMirror_plain chainMirror_goes
end Go.Di

namespace Go.Proofs.YtfkmodcjddfeiaaDoor
/-- The law ChainMirror answers true for all arguments, as its card says. No condition. -/
theorem chainMirror_holds : Rows.ChainMirrorCardSaid := Go.Di.chainMirror_holds
end Go.Proofs.YtfkmodcjddfeiaaDoor
