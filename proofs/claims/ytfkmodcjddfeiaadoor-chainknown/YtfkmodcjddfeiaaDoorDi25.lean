/- Part 25: an interpreter over plain data for this code, with the proof that it says what the model does, and the contracts of the functions. No condition. -/
import Derived.Test.YtfkmodcjddfeiaaDoorDi24
set_option linter.unusedVariables false
set_option linter.unusedSimpArgs false
set_option maxRecDepth 100000
namespace Go.Di
open Go.RowKit Go.ChangeShapes Go.WideShapes Go.Deep Go.ChangeAt Go.Proofs
open Go.Proofs.YtfkmodcjddfeiaaDoor

theorem chainKnown_said : Rows.ChainKnownSaid :=
  OpenClaim.holds_of_cond 14 Tryd.f14 rfl rfl rfl rfl rfl rfl rfl ⟨rfl, rfl, rfl, rfl, rfl⟩ rfl rfl rfl rfl rfl (by kernel_rfl) (by kernel_rfl) chainKnown_facts
    (of_decide_eq_true (by kernel_rfl)) (by unfold Func.isWrapper; first | (rw [if_pos (by decide +kernel)]; kernel_rfl) | (rw [if_neg (by decide +kernel)]; exact ⟨rfl, rfl⟩))
    (fun os started H enc _ F => by rw [OpenClaim.pre_eq_preRow]; exact chainKnown_lifted os started H enc F)
theorem chainKnown_func : Tryd.prog.funcs[14]? = some Tryd.f14 := by kernel_rfl
theorem chainKnown_named : Tryd.prog.funcNamed "prow/prowlaw01.ChainKnown" = some 14 := by kernel_rfl
theorem chainKnown_plain (f : FuncId) (fn : Func) (hf : Tryd.pinned.checked.prog.funcNamed "prow/prowlaw01.ChainKnown" = some f) (hfn : Tryd.pinned.checked.prog.funcs[f]? = some fn) :
    false = Tryd.pinned.checked.prog.looks [] ∧ ∀ (j : Nat) t, fn.params[j]? = some t → Tryd.pinned.checked.prog.wantsStandIn t = false := by
  obtain rfl : f = 14 := (Option.some.inj (chainKnown_named.symm.trans hf)).symm
  obtain rfl : fn = Tryd.f14 := (Option.some.inj (chainKnown_func.symm.trans hfn)).symm
  refine ⟨by kernel_rfl, fun j t ht => ?_⟩
  have hp : Tryd.f14.params = #[] := by kernel_rfl
  rw [hp] at ht
  simp at ht
theorem chainKnown_main : Tryd.pinned.checked.prog.mainIs = some (true, "0552bb48d192e66967f33c9b2a99bd704d609c7fe93456401603085cee876ac2".toList) := by kernel_rfl
theorem chainKnown_goes : false = Rows.chainKnownRow.goesBy Tryd.pinned.checked.prog := by kernel_rfl
theorem chainKnown_wft : Rows.chainKnownRow.wfByText (OpenSpec.ofChange Rows.chainKnownSpec) = true := by kernel_rfl
/-- The card. -/
theorem chainKnown_holds : Rows.ChainKnownCardSaid :=
  Claim7.holds_tied_plain_at .later [] [.data, .funcs] true (true, "0552bb48d192e66967f33c9b2a99bd704d609c7fe93456401603085cee876ac2") false chainKnown_said (fun _ h => by cases h) chainKnown_wft (fun _ h => by cases h) chainKnown_row_tie rfl ⟨rfl, rfl⟩ chainKnown_main rfl chainKnown_plain chainKnown_goes
end Go.Di

namespace Go.Proofs.YtfkmodcjddfeiaaDoor
/-- ChainKnown returns true. -/
theorem chainKnown_holds : Rows.ChainKnownCardSaid := Go.Di.chainKnown_holds
end Go.Proofs.YtfkmodcjddfeiaaDoor
