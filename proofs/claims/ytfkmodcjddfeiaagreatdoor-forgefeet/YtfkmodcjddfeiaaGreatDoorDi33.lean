/- Part 33: an interpreter over plain data for this code, with the proof that it says what the model does, and the contracts of the functions. No condition. -/
import Derived.Test.YtfkmodcjddfeiaaGreatDoorDi32
set_option linter.unusedVariables false
set_option linter.unusedSimpArgs false
set_option maxRecDepth 100000
namespace Go.Di
open Proofs
open Go.RowKit Go.ChangeShapes Go.WideShapes Go.Deep Go.ChangeAt Go.Proofs
open Go.Proofs.YtfkmodcjddfeiaaGreatDoor

theorem forgeFeet_said : Rows.ForgeFeetSaid :=
 OpenClaim.holds_of_cond 4 Tryz.f4 rfl rfl rfl rfl rfl rfl rfl ⟨rfl,rfl,rfl,rfl,rfl⟩ rfl rfl rfl rfl rfl (by kernel_rfl) (by kernel_rfl) forgeFeet_facts
  (of_decide_eq_true (by kernel_rfl)) (by unfold Func.isWrapper; first | (rw [if_pos (by decide +kernel)]; kernel_rfl) | (rw [if_neg (by decide +kernel)]; exact ⟨rfl,rfl⟩))
  (fun os started H enc _ F => by rw [OpenClaim.pre_eq_preRow]; exact forgeFeet_lifted os started H enc F)
theorem forgeFeet_func : Tryz.prog.funcs[4]? = some Tryz.f4 := by kernel_rfl
theorem forgeFeet_named : Tryz.prog.funcNamed "prow/prowlaw07.ForgeFeet" = some 4 := by kernel_rfl
theorem forgeFeet_plain (f : FuncId) (fn : Func) (hf : Tryz.pinned.checked.prog.funcNamed "prow/prowlaw07.ForgeFeet" = some f) (hfn : Tryz.pinned.checked.prog.funcs[f]? = some fn) :
  false = Tryz.pinned.checked.prog.looks [] ∧ ∀ (j : Nat) t,fn.params[j]? = some t → Tryz.pinned.checked.prog.wantsStandIn t = false := by
 obtain rfl : f = 4 := (Option.some.inj (forgeFeet_named.symm.trans hf)).symm
 obtain rfl : fn = Tryz.f4 := (Option.some.inj (forgeFeet_func.symm.trans hfn)).symm
 refine ⟨by kernel_rfl,fun j t ht => ?_⟩
 have hp : Tryz.f4.params = #[28,29] := by kernel_rfl
 rw [hp] at ht
 have hm : t ∈ [28,29] := by simpa using Array.mem_of_getElem? ht
 have hall : ([28,29].all fun u => !Tryz.prog.wantsStandIn u) = true := by kernel_rfl
 exact (show Tryz.prog.wantsStandIn t = false by simpa using List.all_eq_true.1 hall t hm)
theorem forgeFeet_main : Tryz.pinned.checked.prog.mainIs = some (true,"5af31414741a3a018feac4d8ccf2b74be8a1f93d0edae67dfab44495e69587c7".toList) := by kernel_rfl
theorem forgeFeet_goes : false = Rows.forgeFeetRow.goesBy Tryz.pinned.checked.prog := by kernel_rfl
theorem forgeFeet_wft : Rows.forgeFeetRow.wfByText (OpenSpec.ofChange Rows.forgeFeetSpec) = true := by kernel_rfl
theorem forgeFeet_holds : Rows.ForgeFeetCardSaid :=
 Claim7.holds_tied_plain_at .later [] [.data,.data,.funcs] true (true,"5af31414741a3a018feac4d8ccf2b74be8a1f93d0edae67dfab44495e69587c7") false forgeFeet_said (fun _ h => by cases h) forgeFeet_wft (fun _ h => by cases h) forgeFeet_row_tie rfl ⟨rfl,rfl⟩ forgeFeet_main rfl forgeFeet_plain forgeFeet_goes
end Go.Di

namespace Go.Proofs.YtfkmodcjddfeiaaGreatDoor
/-- ForgeFeet returns true for every book of a forge and every list of works. -/
theorem forgeFeet_holds : Rows.ForgeFeetCardSaid := Go.Di.forgeFeet_holds
end Go.Proofs.YtfkmodcjddfeiaaGreatDoor
