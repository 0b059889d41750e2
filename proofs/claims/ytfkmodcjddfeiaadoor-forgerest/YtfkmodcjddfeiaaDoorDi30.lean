/- Part 30: an interpreter over plain data for this code, with the proof that it says what the model does, and the contracts of the functions. No condition. -/
import Derived.Test.YtfkmodcjddfeiaaDoorDi29
set_option linter.unusedVariables false
set_option linter.unusedSimpArgs false
set_option maxRecDepth 100000
namespace Go.Di
open Proofs
open Go.RowKit Go.ChangeShapes Go.WideShapes Go.Deep Go.ChangeAt Go.Proofs
open Go.Proofs.YtfkmodcjddfeiaaDoor

theorem forgeRest_lifted (os : Os) (started : os.Started) (H : Type) (enc : TypeId × Value → H) (F : Stop.Interp) :
  ReturnsInHanded {} Tryd.checked os 22 .any ((OpenSpec.ofChange Rows.forgeRestSpec).preRow enc Tryd.prog Tryd.f22 Rows.forgeRestRow.domain false Rows.forgeRestRow.laid) (((OpenSpec.ofChange Rows.forgeRestSpec).at F).post enc Tryd.prog Tryd.f22 false true false false) := by
 refine returnsInHanded_of_row (C := Tryd.checked) (s := OpenSpec.ofChange Rows.forgeRestSpec) own started (by kernel_rfl) (fn := Tryd.f22) (by kernel_rfl)
  (witness_row_atRef (enc := enc) (C := Tryd.checked) false (laidWorld os) #[noFBook,(.int .i64 0)] rfl (by kernel_rfl) (by kernel_rfl) (by kernel_rfl)
   (OpenSpec.preRow_of_B rfl 8 (by kernel_rfl) (by kernel_rfl) (laid_met os _))) ?_
 intro W base args ds gs before hval hW _ _ hsz hL _ _
 have hp : Tryd.f22.params.toList = [84,3] := by kernel_rfl
 have hW' := hW
 obtain ⟨p,q,hA,hV,_,_,_⟩ := hW
 rw [hp] at hA
 obtain ⟨v0,vs0,d0,ds0,p0,q0,hargs0,rfl,_,h0,r0⟩ := trodAll_cons hA
 obtain ⟨v1,vs1,d1,ds1,p1,q1,hargs1,rfl,_,h1,r1⟩ := trodAll_cons r0
 obtain ⟨rfl,rfl,_⟩ := trodAll_nil r1
 obtain ⟨rfl,_⟩ := trodVars_none hV
 have hva : args = #[v0,v1] := by rw [← Array.toArray_toList (xs := args),hargs0,hargs1]
 subst hva
 obtain ⟨x0,hs0,a0⟩ := arg84 (hval 0 84 v0 (by kernel_rfl) rfl) h0
 obtain ⟨n1,a1⟩ := arg3 (hval 1 3 v1 (by kernel_rfl) rfl) h1
 have ha : All2 (Rel (Old W) W) [fbookD x0,.int .i64 n1] (#[v0,v1] : Array Value).toList := ⟨a0,a1,trivial⟩
 refine (calls_lawF (lrest_con hs0 n1) (laid_globF hL) ha).mono fun e W' ⟨he,hb⟩ => ?_
 exact ⟨_,he,law_post laidOut (by rw [hp]; intro t ht; simp at ht; rcases ht with rfl | rfl <;> exact ⟨by kernel_rfl,of_decide_eq_true (by kernel_rfl)⟩) rfl (by kernel_rfl) under4 hW' rfl hb⟩
end Go.Di

