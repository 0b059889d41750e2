/- Part 29: contracts are proved. No condition. -/
import Derived.Test.YtfkmodcjddfeiaaGreatDoorDi28
set_option linter.unusedVariables false
set_option linter.unusedSimpArgs false
set_option maxRecDepth 100000
namespace Go.Di
open Proofs
open Go.RowKit Go.ChangeShapes Go.WideShapes Go.Deep Go.ChangeAt Go.Proofs
open Go.Proofs.YtfkmodcjddfeiaaGreatDoor
theorem forgeLeasts_lifted (os:Os)(started:os.Started)(H:Type)(enc:TypeId×Value→H)(F:Stop.Interp) :
  ReturnsInHanded {} Tryz.checked os 3 .any ((OpenSpec.ofChange Rows.forgeLeastsSpec).preRow enc Tryz.prog Tryz.f3 Rows.forgeLeastsRow.domain false Rows.forgeLeastsRow.laid) (((OpenSpec.ofChange Rows.forgeLeastsSpec).at F).post enc Tryz.prog Tryz.f3 false true false false):=by
 refine returnsInHanded_of_row (C:=Tryz.checked) (s:=OpenSpec.ofChange Rows.forgeLeastsSpec) own started (by kernel_rfl) (fn:=Tryz.f3) (by kernel_rfl)
  (witness_row_atRef (enc:=enc) (C:=Tryz.checked) false (laidWorld os) #[noFBook,noWorks,noTwo] rfl (by kernel_rfl) (by kernel_rfl) (by kernel_rfl)
   (OpenSpec.preRow_of_B rfl 8 (by kernel_rfl) (by kernel_rfl) (laid_met os _))) ?_
 intro W base args ds gs before hval hW _ _ hsz hL _ _
 have hp:Tryz.f3.params.toList=[28,29,30]:=by kernel_rfl
 have hW':=hW
 obtain⟨p,q,hA,hV,_,_,_⟩:=hW
 rw[hp]at hA
 obtain⟨v0,vs0,d0,ds0,p0,q0,hargs0,rfl,_,h0,r0⟩:=trodAll_cons hA
 obtain⟨v1,vs1,d1,ds1,p1,q1,hargs1,rfl,_,h1,r1⟩:=trodAll_cons r0
 obtain⟨v2,vs2,d2,ds2,p2,q2,hargs2,rfl,_,h2,r2⟩:=trodAll_cons r1
 obtain⟨rfl,rfl,_⟩:=trodAll_nil r2
 obtain⟨rfl,_⟩:=trodVars_none hV
 have hva:args=#[v0,v1,v2]:=by rw[←Array.toArray_toList (xs:=args),hargs0,hargs1,hargs2]
 subst hva
 obtain⟨x0,hs0,a0⟩:=arg28 (hval 0 28 v0 (by kernel_rfl) rfl) h0
 obtain⟨l1,hl1,a1⟩:=arg29 (hval 1 29 v1 (by kernel_rfl) rfl) h1
 obtain⟨n20,n21,a2⟩:=arg30 (hval 2 30 v2 (by kernel_rfl) rfl) h2
 have hr0:FRoom x0:=room28 h0 a0 (fun m hm=>by simpa using List.all_eq_true.1 hsz m (DataW.weights_mem_each (j:=0) (t:=28) (by rw[hp];rfl) rfl m hm))
 have hw1:=room29 (hval 1 29 v1 (by kernel_rfl) rfl) h1 a1 (fun m hm=>by simpa using List.all_eq_true.1 hsz m (DataW.weights_mem_each (j:=1) (t:=29) (by rw[hp];rfl) rfl m hm))
 have ha:All2 (Rel (Old W) W) [Yad x0,.sl false .work l1,.agg [.int .i64 n20,.int .i64 n21]] (#[v0,v1,v2]:Array Value).toList:=⟨a0,a1,a2,trivial⟩
 refine(calls_lawF (lLe_con hs0 hr0 hl1 hw1 n20 n21) (laid_globF hL) ha).mono fun e W' ⟨he,hb⟩=>?_
 exact⟨_,he,law_post laidOut (by rw[hp];intro t ht;simp at ht;rcases ht with rfl|rfl|rfl<;>exact⟨by kernel_rfl,of_decide_eq_true (by kernel_rfl)⟩) rfl (by kernel_rfl) under4 hW' rfl hb⟩
end Go.Di

