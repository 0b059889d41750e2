/- Part 24 of the proof of ChainFirstCardSaid: an interpreter over plain data for this code, with the proof that it says what the model does, and the contracts of the functions. No condition. -/
import Derived.Test.YtfkmodcjddfeiaaDoorDi23
set_option maxRecDepth 100000
namespace Go.Di
open Go.RowKit Go.ChangeShapes Go.WideShapes Go.Deep Go.ChangeAt Go.Proofs
open Go.Proofs.YtfkmodcjddfeiaaDoor
theorem cfirst_func : Tryd.prog.funcs[9]? = some Tryd.f9 := by kernel_rfl
theorem cfirst_named : Tryd.prog.funcNamed "prow/prowlaw01.ChainFirst" = some 9 := by kernel_rfl
theorem cfirst_plain (f : FuncId) (fn : Func) (hf : Tryd.pinned.checked.prog.funcNamed "prow/prowlaw01.ChainFirst" = some f) (hfn : Tryd.pinned.checked.prog.funcs[f]? = some fn) :
    false = Tryd.pinned.checked.prog.looks [] ∧ ∀ (j : Nat) t, fn.params[j]? = some t → Tryd.pinned.checked.prog.wantsStandIn t = false := by
  obtain rfl : f = 9 := (Option.some.inj (cfirst_named.symm.trans hf)).symm
  obtain rfl : fn = Tryd.f9 := (Option.some.inj (cfirst_func.symm.trans hfn)).symm
  refine ⟨by kernel_rfl, fun j t ht => ?_⟩
  have hp : Tryd.f9.params = #[26, 27] := by kernel_rfl
  rw [hp] at ht
  have hm : t ∈ [26, 27] := by simpa using Array.mem_of_getElem? ht
  have hall : ([26, 27].all fun u => !Tryd.prog.wantsStandIn u) = true := by kernel_rfl
  exact (show Tryd.prog.wantsStandIn t = false by simpa using List.all_eq_true.1 hall t hm)
theorem main_is : Tryd.pinned.checked.prog.mainIs = some (true, "0552bb48d192e66967f33c9b2a99bd704d609c7fe93456401603085cee876ac2".toList) := by kernel_rfl
theorem cfirst_goes : false = Rows.chainFirstRow.goesBy Tryd.pinned.checked.prog := by kernel_rfl
theorem cfirst_wft : Rows.chainFirstRow.wfByText (OpenSpec.ofChange Rows.chainFirstSpec) = true := by kernel_rfl
/-- The card of ChainFirst. -/
theorem chainFirst_holds : Rows.ChainFirstCardSaid :=
  Claim7.holds_tied_plain_at .later [] [.data, .funcs] true (true, "0552bb48d192e66967f33c9b2a99bd704d609c7fe93456401603085cee876ac2") false cfirst_said (fun _ h => by cases h) cfirst_wft (fun _ h => by cases h) chainFirst_row_tie rfl ⟨rfl, rfl⟩ main_is rfl cfirst_plain cfirst_goes
end Go.Di

namespace Go.Proofs.YtfkmodcjddfeiaaDoor
/-- ChainFirst: whatever the input, the law answers true and the input reads as it did. -/
theorem chainFirst_holds : Rows.ChainFirstCardSaid := Go.Di.chainFirst_holds
end Go.Proofs.YtfkmodcjddfeiaaDoor
