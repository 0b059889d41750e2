/- Part 28: contracts are proved. No condition. -/
import Derived.Test.YtfkmodcjddfeiaaDoorDi27
set_option linter.unusedVariables false
set_option linter.unusedSimpArgs false
set_option maxRecDepth 100000
namespace Go.Di
open Proofs
open Go.RowKit Go.ChangeShapes Go.WideShapes Go.Deep Go.ChangeAt Go.Proofs
open Go.Proofs.YtfkmodcjddfeiaaDoor
theorem forgeTrue_lifted (os : Os) (started : os.Started) (H : Type) (enc : TypeId × Value → H) (F : Stop.Interp) :
  ReturnsInHanded {} Tryd.checked os 16 .any ((OpenSpec.ofChange Rows.forgeTrueSpec).preRow enc Tryd.prog Tryd.f16 Rows.forgeTrueRow.domain false Rows.forgeTrueRow.laid) (((OpenSpec.ofChange Rows.forgeTrueSpec).at F).post enc Tryd.prog Tryd.f16 false true false false) := by
 refine returnsInHanded_of_row (C := Tryd.checked) (s := OpenSpec.ofChange Rows.forgeTrueSpec) own started (by kernel_rfl) (fn := Tryd.f16) (by kernel_rfl)
  (witness_row_atRef (enc := enc) (C := Tryd.checked) false (laidWorld os) #[noFBook,(.slice none 0 0),(.int .i64 0)] rfl (by kernel_rfl) (by kernel_rfl) (by kernel_rfl)
   (OpenSpec.preRow_of_B rfl 8 (by kernel_rfl) (by kernel_rfl) (laid_met os _))) ?_
 intro W base args ds gs before hval hW _ _ hsz hL _ _
 have hp : Tryd.f16.params.toList = [84,23,3] := by kernel_rfl
 have hW' := hW
 obtain ⟨p,q,hA,hV,_,_,_⟩ := hW
 rw [hp] at hA
 obtain ⟨v0,vs0,d0,ds0,p0,q0,hargs0,rfl,_,h0,r0⟩ := trodAll_cons hA
 obtain ⟨v1,vs1,d1,ds1,p1,q1,hargs1,rfl,_,h1,r1⟩ := trodAll_cons r0
 obtain ⟨v2,vs2,d2,ds2,p2,q2,hargs2,rfl,_,h2,r2⟩ := trodAll_cons r1
 obtain ⟨rfl,rfl,_⟩ := trodAll_nil r2
 obtain ⟨rfl,_⟩ := trodVars_none hV
 have hva : args = #[v0,v1,v2] := by rw [← Array.toArray_toList (xs := args),hargs0,hargs1,hargs2]
 subst hva
 obtain ⟨x0,hs0,a0⟩ := arg84 (hval 0 84 v0 (by kernel_rfl) rfl) h0
 obtain ⟨l1,hl1,a1⟩ := arg23 (hval 1 23 v1 (by kernel_rfl) rfl) h1
 obtain ⟨n2,a2⟩ := arg3 (hval 2 3 v2 (by kernel_rfl) rfl) h2
 have ha : All2 (Rel (Old W) W) [Yab x0,.sl false .int l1,.int .i64 n2] (#[v0,v1,v2] : Array Value).toList := ⟨a0,a1,a2,trivial⟩
 refine (calls_lawF (ltru_con hs0 l1 hl1 n2) (laid_globF hL) ha).mono fun e W' ⟨he,hb⟩ => ?_
 exact ⟨_,he,law_post laidOut (by rw [hp]; intro t ht; simp at ht; rcases ht with rfl | rfl | rfl <;> exact ⟨by kernel_rfl,of_decide_eq_true (by kernel_rfl)⟩) rfl (by kernel_rfl) under4 hW' rfl hb⟩
end Go.Di

