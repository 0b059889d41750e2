/- Part 32: an interpreter over plain data for this code, with the proof that it says what the model does, and the contracts of the functions. No condition. -/
import Derived.Test.YtfkmodcjddfeiaaDoorDi31
set_option linter.unusedVariables false
set_option linter.unusedSimpArgs false
set_option maxRecDepth 100000
namespace Go.Di
open Proofs
open Go.RowKit Go.ChangeShapes Go.WideShapes Go.Deep Go.ChangeAt Go.Proofs
open Go.Proofs.YtfkmodcjddfeiaaDoor

theorem forgeKnown_said : Rows.ForgeKnownSaid :=
 OpenClaim.holds_of_cond 23 Tryd.f23 rfl rfl rfl rfl rfl rfl rfl ⟨rfl,rfl,rfl,rfl,rfl⟩ rfl rfl rfl rfl rfl (by kernel_rfl) (by kernel_rfl) forgeKnown_facts
  (of_decide_eq_true (by kernel_rfl)) (by unfold Func.isWrapper; first | (rw [if_pos (by decide +kernel)]; kernel_rfl) | (rw [if_neg (by decide +kernel)]; exact ⟨rfl,rfl⟩))
  (fun os started H enc _ F => by rw [OpenClaim.pre_eq_preRow]; exact forgeKnown_lifted os started H enc F)
theorem forgeKnown_func : Tryd.prog.funcs[23]? = some Tryd.f23 := by kernel_rfl
theorem forgeKnown_named : Tryd.prog.funcNamed "prow/prowlaw07.ForgeKnown" = some 23 := by kernel_rfl
theorem forgeKnown_plain (f : FuncId) (fn : Func) (hf : Tryd.pinned.checked.prog.funcNamed "prow/prowlaw07.ForgeKnown" = some f) (hfn : Tryd.pinned.checked.prog.funcs[f]? = some fn) :
  false = Tryd.pinned.checked.prog.looks [] ∧ ∀ (j : Nat) t,fn.params[j]? = some t → Tryd.pinned.checked.prog.wantsStandIn t = false := by
 obtain rfl : f = 23 := (Option.some.inj (forgeKnown_named.symm.trans hf)).symm
 obtain rfl : fn = Tryd.f23 := (Option.some.inj (forgeKnown_func.symm.trans hfn)).symm
 refine ⟨by kernel_rfl,fun j t ht => ?_⟩
 have hp : Tryd.f23.params = #[] := by kernel_rfl
 rw [hp] at ht
 simp at ht
theorem forgeKnown_main : Tryd.pinned.checked.prog.mainIs = some (true,"0552bb48d192e66967f33c9b2a99bd704d609c7fe93456401603085cee876ac2".toList) := by kernel_rfl
theorem forgeKnown_goes : false = Rows.forgeKnownRow.goesBy Tryd.pinned.checked.prog := by kernel_rfl
theorem forgeKnown_wft : Rows.forgeKnownRow.wfByText (OpenSpec.ofChange Rows.forgeKnownSpec) = true := by kernel_rfl
theorem forgeKnown_holds : Rows.ForgeKnownCardSaid :=
 Claim7.holds_tied_plain_at .later [] [.data,.data,.funcs] true (true,"0552bb48d192e66967f33c9b2a99bd704d609c7fe93456401603085cee876ac2") false forgeKnown_said (fun _ h => by cases h) forgeKnown_wft (fun _ h => by cases h) forgeKnown_row_tie rfl ⟨rfl,rfl⟩ forgeKnown_main rfl forgeKnown_plain forgeKnown_goes
end Go.Di

namespace Go.Proofs.YtfkmodcjddfeiaaDoor
/-- ForgeKnown returns true. -/
theorem forgeKnown_holds : Rows.ForgeKnownCardSaid := Go.Di.forgeKnown_holds
end Go.Proofs.YtfkmodcjddfeiaaDoor
