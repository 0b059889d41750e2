/- Part 30: an interpreter over plain data for this code, with the proof that it says what the model does, and the contracts of the functions. No condition. -/
import Derived.Test.YtfkmodcjddfeiaaDoorDi29
set_option linter.unusedVariables false
set_option linter.unusedSimpArgs false
set_option maxRecDepth 100000
namespace Go.Di
open Proofs
open Go.RowKit Go.ChangeShapes Go.WideShapes Go.Deep Go.ChangeAt Go.Proofs
open Go.Proofs.YtfkmodcjddfeiaaDoor

theorem forgeKnown_lifted (os : Os) (started : os.Started) (H : Type) (enc : TypeId × Value → H) (F : Stop.Interp) :
  ReturnsInHanded {} Tryd.checked os 23 .any ((OpenSpec.ofChange Rows.forgeKnownSpec).preRow enc Tryd.prog Tryd.f23 Rows.forgeKnownRow.domain false Rows.forgeKnownRow.laid) (((OpenSpec.ofChange Rows.forgeKnownSpec).at F).post enc Tryd.prog Tryd.f23 false true false false) := by
 refine returnsInHanded_of_row (C := Tryd.checked) (s := OpenSpec.ofChange Rows.forgeKnownSpec) own started (by kernel_rfl) (fn := Tryd.f23) (by kernel_rfl)
  (witness_row_atRef (enc := enc) (C := Tryd.checked) false (laidWorld os) #[] rfl (by kernel_rfl) (by kernel_rfl) (by kernel_rfl)
   (OpenSpec.preRow_of_B rfl 8 (by kernel_rfl) (by kernel_rfl) (laid_met os _))) ?_
 intro W base args ds gs before hval hW _ _ hsz hL _ _
 have hp : Tryd.f23.params.toList = [] := by kernel_rfl
 have hW' := hW
 obtain ⟨p,q,hA,hV,_,_,_⟩ := hW
 rw [hp] at hA
 obtain ⟨hargs,rfl,_⟩ := trodAll_nil hA
 obtain ⟨rfl,_⟩ := trodVars_none hV
 have hva : args = #[] := by rw [← Array.toArray_toList (xs := args),hargs]
 subst hva
 have ha : All2 (Rel (Old W) W) [] (#[] : Array Value).toList := trivial
 refine (calls_lawF fknown_con (laid_globF hL) ha).mono fun e W' ⟨he,hb⟩ => ?_
 exact ⟨_,he,law_post laidOut (by rw [hp]; intro t ht; cases ht) rfl (by kernel_rfl) under4 hW' rfl hb⟩
end Go.Di

