/- Part 33: contracts are proved. No condition. -/
import Derived.Test.YtfkmodcjddfeiaaGreatDoorDi32
set_option linter.unusedVariables false
set_option linter.unusedSimpArgs false
set_option maxRecDepth 100000
namespace Go.Di
open Proofs
open Go.RowKit Go.ChangeShapes Go.WideShapes Go.Deep Go.ChangeAt Go.Proofs
open Go.Proofs.YtfkmodcjddfeiaaGreatDoor
theorem Yn2 (os:Os)(started:os.Started)(H:Type)(enc:TypeId×Value->H)(F:Stop.Interp) :
  ReturnsInHanded {} Tryz.checked os 5 .any ((OpenSpec.ofChange Rows.forgePlansSpec).preRow enc Tryz.prog Tryz.f5 Rows.forgePlansRow.domain false Rows.forgePlansRow.laid) (((OpenSpec.ofChange Rows.forgePlansSpec).at F).post enc Tryz.prog Tryz.f5 false true false false):=by
 refine returnsInHanded_of_row (C:=Tryz.checked) (s:=OpenSpec.ofChange Rows.forgePlansSpec) own started (by kernel_rfl) (fn:=Tryz.f5) (by kernel_rfl)
  (witness_row_atRef (enc:=enc) (C:=Tryz.checked) false (Yy1 os) #[Xe1] rfl (by kernel_rfl) (by kernel_rfl) (by kernel_rfl)
   (OpenSpec.preRow_of_B rfl 8 (by kernel_rfl) (by kernel_rfl) (Zz3 os _))) ?_
 intro W base args ds gs before hval hW _ _ hsz hL _ _;have hp:Tryz.f5.params.toList=[28]:=by kernel_rfl
 have hW':=hW;obtain⟨p,q,hA,hV,_,_,_⟩:=hW;rw[hp]at hA;obtain⟨v0,vs0,d0,ds0,p0,q0,hargs0,rfl,_,h0,r0⟩:=trodAll_cons hA;obtain⟨rfl,rfl,_⟩:=trodAll_nil r0;obtain⟨rfl,_⟩:=trodVars_none hV;have hva:args=#[v0]:=by rw[<-Array.toArray_toList (xs:=args),hargs0]
 subst hva;obtain⟨x0,hs0,a0⟩:=Xj6 (hval 0 28 v0 (by kernel_rfl) rfl) h0;have hr0:FRoom x0:=Xg4 h0 a0 (fun m hm=>by simpa using List.all_eq_true.1 hsz m (DataW.weights_mem_each (j:=0) (t:=28) (by rw[hp];rfl) rfl m hm));have ha:All2 (Rel (Old W) W) [Yab x0] (#[v0]:Array Value).toList:=⟨a0,trivial⟩;refine(Zn6 (Xfk hs0 hr0) (Zln hL) ha).mono fun e W' ⟨he,hb⟩=>?_;exact⟨_,he,Zz2 Xfj (by rw[hp];intro t ht;simp at ht;rcases ht with rfl<;>exact⟨by kernel_rfl,of_decide_eq_true (by kernel_rfl)⟩) rfl (by kernel_rfl) under4 hW' rfl hb⟩
end Go.Di
