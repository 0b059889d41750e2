/- Part 29: an interpreter over plain data for this code, with the proof that it says what the model does, and the contracts of the functions. No condition. -/
import Derived.Test.YtfkmodcjddfeiaaDoorDi28
set_option linter.unusedVariables false
set_option linter.unusedSimpArgs false
set_option maxRecDepth 100000
namespace Go.Di
open Proofs
open Go.RowKit Go.ChangeShapes Go.WideShapes Go.Deep Go.ChangeAt Go.Proofs
open Go.Proofs.YtfkmodcjddfeiaaDoor
theorem forgeMore_lifted (os : Os) (started : os.Started) (H : Type) (enc : TypeId × Value → H) (F : Stop.Interp) :
  ReturnsInHanded {} Tryd.checked os 24 .any ((OpenSpec.ofChange Rows.forgeMoreSpec).preRow enc Tryd.prog Tryd.f24 Rows.forgeMoreRow.domain false Rows.forgeMoreRow.laid) (((OpenSpec.ofChange Rows.forgeMoreSpec).at F).post enc Tryd.prog Tryd.f24 false true false false) := by
 refine returnsInHanded_of_row (C := Tryd.checked) (s := OpenSpec.ofChange Rows.forgeMoreSpec) own started (by kernel_rfl) (fn := Tryd.f24) (by kernel_rfl)
  (witness_row_atRef (enc := enc) (C := Tryd.checked) false (laidWorld os) #[noFBook,(.agg #[.int .i64 0,.int .i64 0,.int .i64 0,.int .i64 0]),noThree] rfl (by kernel_rfl) (by kernel_rfl) (by kernel_rfl)
   (OpenSpec.preRow_of_B rfl 8 (by kernel_rfl) (by kernel_rfl) (laid_met os _))) ?_
 intro W base args ds gs before hval hW _ _ hsz hL _ _
 have hp : Tryd.f24.params.toList = [84,64,101] := by kernel_rfl
 have hW' := hW
 obtain ⟨p,q,hA,hV,_,_,_⟩ := hW
 rw [hp] at hA
 obtain ⟨v0,vs0,d0,ds0,p0,q0,hargs0,rfl,_,h0,r0⟩ := trodAll_cons hA
 obtain ⟨v1,vs1,d1,ds1,p1,q1,hargs1,rfl,_,h1,r1⟩ := trodAll_cons r0
 obtain ⟨v2,vs2,d2,ds2,p2,q2,hargs2,rfl,_,h2,r2⟩ := trodAll_cons r1
 obtain ⟨rfl,rfl,_⟩ := trodAll_nil r2
 obtain ⟨rfl,_⟩ := trodVars_none hV
 have hva : args = #[v0,v1,v2] := by rw [← Array.toArray_toList (xs := args),hargs0,hargs1,hargs2]
 subst hva
 obtain ⟨x0,hs0,a0⟩ := arg84 (hval 0 84 v0 (by kernel_rfl) rfl) h0
 obtain ⟨n10,n11,n12,n13,a1⟩ := arg64 (hval 1 64 v1 (by kernel_rfl) rfl) h1
 obtain ⟨n20,n21,n22,a2⟩ := arg101 (hval 2 101 v2 (by kernel_rfl) rfl) h2
 have ha : All2 (Rel (Old W) W) [fbookD x0,.agg [.int .i64 n10,.int .i64 n11,.int .i64 n12,.int .i64 n13],.agg [.int .i64 n20,.int .i64 n21,.int .i64 n22]] (#[v0,v1,v2] : Array Value).toList := ⟨a0,a1,a2,trivial⟩
 refine (calls_lawF (lmore_con hs0 n10 n11 n12 n13 n20 n21 n22) (laid_globF hL) ha).mono fun e W' ⟨he,hb⟩ => ?_
 exact ⟨_,he,law_post laidOut (by rw [hp]; intro t ht; simp at ht; rcases ht with rfl | rfl | rfl <;> exact ⟨by kernel_rfl,of_decide_eq_true (by kernel_rfl)⟩) rfl (by kernel_rfl) under4 hW' rfl hb⟩
end Go.Di

