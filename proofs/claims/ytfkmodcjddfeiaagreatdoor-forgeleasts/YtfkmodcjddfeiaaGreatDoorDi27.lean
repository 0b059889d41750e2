/- Part 27: contracts are proved. No condition. -/
import Derived.Test.YtfkmodcjddfeiaaGreatDoorDi26
import Derived.Test.YtfkmodcjddfeiaaGreatDoorCards
import Derived.Test.YtfkmodcjddfeiaaGreatDoorTie
import Derived.SevenTiedAt
import Derived.Stop.Joined
import Derived.Deep.DeepWitnessRowRef
import Derived.SizedLaws
set_option linter.unusedVariables false
set_option linter.unusedSimpArgs false
set_option maxRecDepth 100000
namespace Go.Di
open Proofs
open Go.RowKit Go.ChangeShapes Go.WideShapes Go.Deep Go.ChangeAt Go.Proofs
open Go.Proofs.YtfkmodcjddfeiaaGreatDoor
theorem laidOut:laidOutB Tryz.prog=true:=by kernel_rfl
theorem own:ownKnob Tryz.prog.godebug=none:=by kernel_rfl
theorem gNowhere : Tryz.prog.globalNamed "prow/chain.nowhere" = some 2 := by kernel_rfl
theorem gBegin : Tryz.prog.globalNamed "prow/forge.begin" = some 0 := by kernel_rfl
theorem gThicks : Tryz.prog.globalNamed "prow/forge.thicks" = some 1 := by kernel_rfl
theorem tBegin:(Tryz.prog.globals[0]?).map (·.type)=some 54:=by kernel_rfl
theorem tThicks:(Tryz.prog.globals[1]?).map (·.type)=some 109:=by kernel_rfl
theorem tNowhere:(Tryz.prog.globals[2]?).map (·.type)=some 157:=by kernel_rfl
section
variable {H:Type} {enc:TypeId×Value→H} {w:World} {sp:Nat→Bool} {hd:Bool}
theorem reads3:ReadsE enc Tryz.prog w sp hd 3 .int:=fun fuel cs x h=>by
 obtain⟨n,rfl⟩:=Ycr (t:=3) (by kernel_rfl) h
 exact⟨n,rfl,rfl⟩
noncomputable def fld (t i:Nat):Field:=match Tryz.prog.underlying t with
 | some (.struct fs)=>fs.getD i default
 | _=>default
theorem reads51 (fuel:Nat)(cs:List Value)(x:DataW H×List MemPlace)(h:DataW.trod enc Tryz.prog w 0 sp hd fuel 113 cs=some x):∃ a b,cs=[.int .i64 a,.int .i64 b] :=
 reads_two (t:=113) (f0:=fld 113 0) (f1:=fld 113 1) (by kernel_rfl) (by kernel_rfl) (by kernel_rfl) (by kernel_rfl) (by kernel_rfl) (by kernel_rfl) (by kernel_rfl) (by kernel_rfl) h
theorem reads76:ReadsE enc Tryz.prog w sp hd 118 .sec:=fun fuel cs x h=>by
 obtain⟨a,b,c,d,rfl⟩:=reads_sec (t:=118) (f0:=fld 118 0) (f1:=fld 118 1) (by kernel_rfl) (by kernel_rfl) (by kernel_rfl) (by kernel_rfl) (by kernel_rfl) (by kernel_rfl) (by rw[show(fld 118 0).type=113 from by kernel_rfl];exact reads51) (by rw[show(fld 118 1).type=113 from by kernel_rfl];exact reads51) h
 exact⟨(⟨⟨a,b⟩,⟨c,d⟩⟩:Sec),rfl,rfl⟩
theorem reads34:ReadsE enc Tryz.prog w sp hd 91 .sv:=fun fuel cs x h=>by
 obtain⟨a,b,c,d,rfl⟩:=reads_four (t:=91) (f0:=fld 91 0) (f1:=fld 91 1) (f2:=fld 91 2) (f3:=fld 91 3) (by kernel_rfl) (by kernel_rfl) (by kernel_rfl) (by kernel_rfl) (by kernel_rfl) (by kernel_rfl) (by kernel_rfl) (by kernel_rfl) (by kernel_rfl) (by kernel_rfl) (by kernel_rfl) (by kernel_rfl) (by kernel_rfl) (by kernel_rfl) h
 exact⟨(⟨a,b,c,d⟩:Sv),rfl,rfl⟩
end
theorem trod_arr2 {H:Type}{enc:TypeId×Value→H}{P:Program}{w:World}{sp:Nat→Bool}{hd:Bool}{t et:TypeId}(ht:P.underlying t=some (.array 2 et))(hc:P.cellsOf t=2)(ce:P.cellsOf et=1){fuel:Nat}{cs:List Value}{d0 d1:DataW H}{ps:List MemPlace}
  (h:DataW.trod enc P w 0 sp hd fuel t cs=some (.agg [d0,d1],ps)):∃ v0 v1 k q0 q1,cs=[v0,v1]∧DataW.trod enc P w 0 sp hd k et [v0]=some (d0,q0)∧DataW.trod enc P w 0 sp hd k et [v1]=some (d1,q1):=by
 cases fuel with
 | zero=>simp[DataW.trod]at h
 | succ k =>
  unfold DataW.trod at h
  rw[ht]at h
  simp only[ce,Nat.mul_one]at h
  split at h
  ·rename_i hl
   rw[hc]at hl
   match cs,hl with
   | [v0,v1],_ =>
    have hr:List.range 2=[0,1]:=rfl
    rw[hr]at h
    simp only[List.mapM_cons,List.mapM_nil]at h
    cases h0:DataW.trod enc P w 0 sp hd k et (List.take 1 (List.drop 0 [v0,v1])) with
    | none=>rw[h0]at h;cases h
    | some x0 =>
     rw[h0]at h
     cases h1:DataW.trod enc P w 0 sp hd k et (List.take 1 (List.drop 1 [v0,v1])) with
     | none=>rw[h1]at h;cases h
     | some x1 =>
      rw[h1]at h
      have h':(DataW.agg [x0.1,x1.1],x0.2++(x1.2++[]))=(DataW.agg [d0,d1],ps):=Option.some.inj h
      simp only[Prod.mk.injEq,DataW.agg.injEq,List.cons.injEq,and_true]at h'
      obtain⟨⟨rfl,rfl⟩,_⟩:=h'
      exact⟨v0,v1,k,x0.2,x1.2,rfl,h0,h1⟩
  ·cases h
theorem trod_pair {H:Type}{enc:TypeId×Value→H}{w:World}{sp:Nat→Bool}{hd:Bool}{fuel:Nat}{cs:List Value}{a b:Int}{ps:List MemPlace}
  (h:DataW.trod enc Tryz.prog w 0 sp hd fuel 157 cs=some (.agg [.lit (.int .i64 a),.lit (.int .i64 b)],ps)):cs=[.int .i64 a,.int .i64 b]:=by
 obtain⟨xs,k,_,hx,hl,hxl,hf⟩:=DataW.trod_struct (t:=157) (fs:=#[fld 157 0,fld 157 1]) (by kernel_rfl) h
 have hc:Tryz.prog.cellsOf 157=2:=by kernel_rfl
 rw[hc]at hl
 have c0:Tryz.prog.cellsOf (fld 157 0).type=1:=by kernel_rfl
 have c1:Tryz.prog.cellsOf (fld 157 1).type=1:=by kernel_rfl
 have o0:(fld 157 0).offset=0:=by kernel_rfl
 have o1:(fld 157 1).offset=1:=by kernel_rfl
 match xs,hxl,cs,hl with
 | [y0,y1],_,[v0,v1],_ =>
  have g0:=hf 0 (fld 157 0) rfl
  have g1:=hf 1 (fld 157 1) rfl
  simp[o0,o1,c0,c1]at g0 g1
  obtain⟨n0,e0,e0',_⟩:=DataW.trod_int (k:=.i64) (by kernel_rfl) g0
  obtain⟨n1,e1,e1',_⟩:=DataW.trod_int (k:=.i64) (by kernel_rfl) g1
  simp only[List.cons.injEq,and_true]at e0 e1
  simp only[List.map_cons,List.map_nil,Prod.mk.injEq,DataW.agg.injEq,List.cons.injEq,and_true]at hx
  obtain⟨⟨q0,q1⟩,_⟩:=hx
  rw[e0']at q0
  rw[e1']at q1
  simp only[DataW.lit.injEq,Lit.int.injEq,true_and]at q0 q1
  subst q0 q1
  rw[e0,e1]
theorem trod_pairB {H:Type}{enc:TypeId×Value→H}{w:World}{sp:Nat→Bool}{hd:Bool}{fuel:Nat}{cs:List Value}{a b:Int}{ps:List MemPlace}
  (h:DataW.trod enc Tryz.prog w 0 sp hd fuel 54 cs=some (.agg [.lit (.int .i64 a),.lit (.int .i64 b)],ps)):cs=[.int .i64 a,.int .i64 b]:=by
 obtain⟨xs,k,_,hx,hl,hxl,hf⟩:=DataW.trod_struct (t:=54) (fs:=#[fld 54 0,fld 54 1]) (by kernel_rfl) h
 have hc:Tryz.prog.cellsOf 54=2:=by kernel_rfl
 rw[hc]at hl
 have c0:Tryz.prog.cellsOf (fld 54 0).type=1:=by kernel_rfl
 have c1:Tryz.prog.cellsOf (fld 54 1).type=1:=by kernel_rfl
 have o0:(fld 54 0).offset=0:=by kernel_rfl
 have o1:(fld 54 1).offset=1:=by kernel_rfl
 match xs,hxl,cs,hl with
 | [y0,y1],_,[v0,v1],_ =>
  have g0:=hf 0 (fld 54 0) rfl
  have g1:=hf 1 (fld 54 1) rfl
  simp[o0,o1,c0,c1]at g0 g1
  obtain⟨n0,e0,e0',_⟩:=DataW.trod_int (k:=.i64) (by kernel_rfl) g0
  obtain⟨n1,e1,e1',_⟩:=DataW.trod_int (k:=.i64) (by kernel_rfl) g1
  simp only[List.cons.injEq,and_true]at e0 e1
  simp only[List.map_cons,List.map_nil,Prod.mk.injEq,DataW.agg.injEq,List.cons.injEq,and_true]at hx
  obtain⟨⟨q0,q1⟩,_⟩:=hx
  rw[e0']at q0
  rw[e1']at q1
  simp only[DataW.lit.injEq,Lit.int.injEq,true_and]at q0 q1
  subst q0 q1
  rw[e0,e1]
theorem laid_globF {W : World} (h : laidMetH Tryz.prog [("prow/chain.nowhere",YtfkmodcjddfeiaaGreatDoor.Rows.laid_prow_chain_nowhere),("prow/forge.begin",YtfkmodcjddfeiaaGreatDoor.Rows.laid_prow_forge_begin),("prow/forge.thicks",YtfkmodcjddfeiaaGreatDoor.Rows.laid_prow_forge_thicks)] W) :
  ∀ g cs,Yb4 g=some cs→Rel (Old W) W (.ref cs 0) (.pointer (some ⟨g,0,none⟩)):=by
 intro g cs hg
 match g,hg with
 | 2,hg =>
  cases hg
  obtain⟨⟨ps,⟨g',t,vs,fuel,p,q,hg',ht,hv,hd,_,_⟩,_⟩,_⟩:=h
  obtain rfl:=Option.some.inj (gNowhere.symm.trans hg')
  obtain rfl:=Option.some.inj (tNowhere.symm.trans ht)
  have e:=trod_pair hd
  refine⟨2,0,rfl,fun j d hj=>?_⟩
  have hc:=World.var?_cell hg' hv
  have hs:vs=#[.int .i64 (-1),.int .i64 (-1)]:=by rw[←Array.toArray_toList (xs:=vs),e]
  match j,hj with
  | 0,hj =>
   cases hj
   have h0:=hc 0
   rw[hs]at h0
   exact⟨_,rfl,Yhm h0,h0⟩
  | 1,hj =>
   cases hj
   have h0:=hc 1
   rw[hs]at h0
   exact⟨_,rfl,Yhm h0,h0⟩
 | 0,hg =>
  cases hg
  obtain⟨⟨ps,⟨_,_,_,_,_,_,_,_,_,_,hrest,_⟩,_⟩,_⟩:=h
  obtain⟨g',t,vs,fuel,p,q,hg',ht,hv,hd,_,_⟩:=hrest
  obtain rfl:=Option.some.inj (gBegin.symm.trans hg')
  obtain rfl:=Option.some.inj (tBegin.symm.trans ht)
  have e:=trod_pairB hd
  refine⟨0,0,rfl,fun j d hj=>?_⟩
  have hc:=World.var?_cell hg' hv
  have hs:vs=#[.int .i64 (-1),.int .i64 0]:=by rw[←Array.toArray_toList (xs:=vs),e]
  match j,hj with
  | 0,hj =>
   cases hj
   have h0:=hc 0
   rw[hs]at h0
   exact⟨_,rfl,Yhm h0,h0⟩
  | 1,hj =>
   cases hj
   have h0:=hc 1
   rw[hs]at h0
   exact⟨_,rfl,Yhm h0,h0⟩
 | 1,hg =>
  cases hg
  obtain ⟨g',t,vs,fuel,p,hg',ht,hv,hd⟩ := h.funcs (n := "prow/forge.thicks") (List.mem_cons_of_mem _ (List.mem_cons_of_mem _ (List.mem_cons_self ..)))
  obtain rfl:=Option.some.inj (gThicks.symm.trans hg')
  obtain rfl:=Option.some.inj (tThicks.symm.trans ht)
  obtain⟨v0,v1,k,q0,q1,e,h0,h1⟩:=trod_arr2 (t:=109) (et:=108) (by kernel_rfl) (by kernel_rfl) (by kernel_rfl) hd
  have hf:Tryz.prog.underlying 108=some (.func #[67,3,3,3] #[3] false):=by kernel_rfl
  obtain rfl:=func_of_trod (f0:=173) hf (by kernel_rfl) h0
  obtain rfl:=func_of_trod (f0:=174) hf (by kernel_rfl) h1
  refine⟨1,0,rfl,fun j d hj=>?_⟩
  have hc:=World.var?_cell hg' hv
  have hs:vs=#[.func (.func 173) #[] #[],.func (.func 174) #[] #[]]:=by rw[←Array.toArray_toList (xs:=vs),e]
  match j,hj with
  | 0,hj =>
   cases hj
   have h0:=hc 0
   rw[hs]at h0
   exact⟨_,⟨#[],#[],rfl,trivial,trivial⟩,Yhm h0,h0⟩
  | 1,hj =>
   cases hj
   have h0:=hc 1
   rw[hs]at h0
   exact⟨_,⟨#[],#[],rfl,trivial,trivial⟩,Yhm h0,h0⟩
def lay1:Obj→Obj
 | .cells _ t frozen=>.cells #[.int .i64 (-1),.int .i64 (-1)] t frozen
 | o=>o
def lay2:Obj→Obj
 | .cells _ t frozen=>.cells #[.int .i64 (-1),.int .i64 0] t frozen
 | o=>o
def lay3:Obj→Obj
 | .cells _ t frozen=>.cells #[.func (.func 173) #[] #[],.func (.func 174) #[] #[]] t frozen
 | o=>o
noncomputable def laidWorld (os:Os):World :=
 {World.holding Tryz.prog os ⟨#[],#[],[]⟩ with heap:=(((World.holding Tryz.prog os ⟨#[],#[],[]⟩).heap.modify 2 lay1).modify 0 lay2).modify 1 lay3}
def noFBook:Value:=.agg #[.slice none 0 0,.slice none 0 0,.slice none 0 0,.int .i64 0,.int .i64 0,.slice none 0 0,.int .i64 0,.slice none 0 0,.int .i64 0,.int .i64 0]
def noWorks:Value:=.slice none 0 0
theorem laid_met (os : Os) (args : Array Value) : laidMetH Tryz.prog [("prow/chain.nowhere",Rows.laid_prow_chain_nowhere),("prow/forge.begin",Rows.laid_prow_forge_begin),("prow/forge.thicks",Rows.laid_prow_forge_thicks)] ((laidWorld os).forCall (fun _ _ => 0) ⟨#[],args,[]⟩).memory :=
 laidMetH_of_parts3 (fuel:=8) (laidMet_of_run' 8 (by kernel_rfl) (by kernel_rfl)) (by kernel_rfl) (by kernel_rfl)
theorem calls_lawF {f:FuncId}{W:World}{args:Array Value}{ds:List D}(hc:Contract Tryz.prog Yb4 f ds (.bool true))(hg:∀ g cs,Yb4 g=some cs→Rel (Old W) W (.ref cs 0) (.pointer (some ⟨g,0,none⟩)))(ha:All2 (Rel (Old W) W) ds args.toList) :
  Calls Tryz.prog f args W fun e W'=>e=.returned (.bool true)∧Below W.heap.size W W':=by
 have:=hc.calls W (Old W) args.toList (fun b o h=>h) hg ha
 rw[Array.toArray_toList]at this
 exact this.mono fun e W' ⟨v,he,hb,R',_,_,hr⟩=>⟨by rw[he,show v=.bool true from hr],hb⟩
theorem under4:Tryz.prog.underlying 4=some .bool:=by kernel_rfl
section
variable {H:Type} {enc:TypeId×Value→H} {w:World} {sp:Nat→Bool} {hd:Bool}
theorem reads26 (fuel:Nat)(cs:List Value)(x:DataW H×List MemPlace)(h:DataW.trod enc Tryz.prog w 0 sp hd fuel 26 cs=some x):∃ b:Book,All2 (RelC (Old w) w) [.sl false .sec b.secs,.sl false .int b.turns,.sl false .sv b.svs,.int .i64 b.rule,.int .i64 b.days] cs∧b.secs.length≤maxLen∧b.turns.length≤maxLen∧b.svs.length≤maxLen:=by
 have hu:Tryz.prog.underlying 26=some (.struct #[fld 26 0,fld 26 1,fld 26 2,fld 26 3,fld 26 4]):=by kernel_rfl
 exact reads_book (t:=26) hu (by kernel_rfl) (by kernel_rfl) (by kernel_rfl) (by kernel_rfl) (by kernel_rfl) (by kernel_rfl) (by kernel_rfl) (by kernel_rfl) (by kernel_rfl) (by kernel_rfl) (by kernel_rfl) (e0:=118) (e1:=3) (e2:=91) (by kernel_rfl) (by kernel_rfl) (by kernel_rfl) (by kernel_rfl) (by kernel_rfl) (by kernel_rfl) (by kernel_rfl) (by kernel_rfl) reads76 reads3 reads34 h
theorem six {α:Type}{l:List α}(h:l.length=6):∃ a b c d e f,l=[a,b,c,d,e,f]:=by
 match l,h with
 | [a,b,c,d,e,f],_=>exact⟨a,b,c,d,e,f,rfl⟩
theorem five {α:Type}{l:List α}(h:l.length=10):∃ a b c d e f g i j k,l=[a,b,c,d,e,f,g,i,j,k]:=by
 match l,h with
 | [a,b,c,d,e,f,g,i,j,k],_=>exact⟨a,b,c,d,e,f,g,i,j,k,rfl⟩
theorem arg28 {r:Reach}{b0:Nat}{v:Value}{d:DataW H}{ps:List MemPlace}(hval:Value.okWide Tryz.prog w r b0 28 v)(h:DataW.Trod enc Tryz.prog w 0 sp hd 28 v d ps):∃ x:FBook,FSmall x∧Rel (Old w) w (Yad x) v:=by
 have hu:Tryz.prog.underlying 28=some (.struct #[fld 28 0,fld 28 1,fld 28 2,fld 28 3,fld 28 4,fld 28 5]):=by kernel_rfl
 unfold Value.okWide at hval
 rw[hu]at hval
 obtain⟨cs,rfl,_⟩:=hval
 obtain⟨fuel,h⟩:=h
 obtain⟨xs,k,_,_,hl,hx,hf⟩:=DataW.trod_struct hu h
 have hc:Tryz.prog.cellsOf 28=10:=by kernel_rfl
 rw[hc]at hl
 obtain⟨u0,u1,u2,u3,u4,u5,u6,u7,u8,u9,hcs⟩:=five hl
 obtain⟨y0,y1,y2,y3,y4,y5,hxs⟩:=six hx
 subst hxs
 have g0:=hf 0 (fld 28 0) rfl
 have g1:=hf 1 (fld 28 1) rfl
 have g2:=hf 2 (fld 28 2) rfl
 have g3:=hf 3 (fld 28 3) rfl
 have g4:=hf 4 (fld 28 4) rfl
 have g5:=hf 5 (fld 28 5) rfl
 have hfs:∀ i,i<6→(fld 28 i).offset=[0,5,6,7,8,9].getD i 0∧Tryz.prog.cellsOf (fld 28 i).type=[5,1,1,1,1,1].getD i 0∧(fld 28 i).type=[26,23,3,23,3,3].getD i 0:=by
  intro i hi
  have h6:i=0∨i=1∨i=2∨i=3∨i=4∨i=5:=by omega
  rcases h6 with rfl|rfl|rfl|rfl|rfl|rfl<;>exact⟨by kernel_rfl,by kernel_rfl,by kernel_rfl⟩
 obtain⟨a0,b0,c0⟩:=hfs 0 (by decide)
 obtain⟨a1,b1,c1⟩:=hfs 1 (by decide)
 obtain⟨a2,b2,c2⟩:=hfs 2 (by decide)
 obtain⟨a3,b3,c3⟩:=hfs 3 (by decide)
 obtain⟨a4,b4,c4⟩:=hfs 4 (by decide)
 obtain⟨a5,b5,c5⟩:=hfs 5 (by decide)
 rw[a0,b0,c0,hcs]at g0
 rw[a1,b1,c1,hcs]at g1
 rw[a2,b2,c2,hcs]at g2
 rw[a3,b3,c3,hcs]at g3
 rw[a4,b4,c4,hcs]at g4
 rw[a5,b5,c5,hcs]at g5
 simp at g0 g1 g2 g3 g4 g5
 obtain⟨b,h1,h2,h3,h4⟩:=reads26 _ _ _ g0
 have t23:Tryz.prog.underlying 23=some (.slice 3):=by kernel_rfl
 have t3:Tryz.prog.underlying 3=some (.int .i64):=by kernel_rfl
 obtain⟨w1,fe,e1,s1,l1⟩:=Yeb (e:=.int) t23 (by kernel_rfl) reads3 g1
 obtain⟨nw,e2⟩:=Ycr t3 g2
 obtain⟨w3,op,e3,s3,l3⟩:=Yeb (e:=.int) t23 (by kernel_rfl) reads3 g3
 obtain⟨st,e4⟩:=Ycr t3 g4
 obtain⟨mk,e5⟩:=Ycr t3 g5
 simp only[List.cons.injEq,and_true]at e1 e2 e3 e4 e5
 have hm:maxLen≤9223372036854775807:=by decide
 refine⟨⟨b,fe,nw,op,st,mk⟩,⟨⟨Nat.le_trans h2 hm,Nat.le_trans h3 hm,Nat.le_trans h4 hm⟩,Nat.le_trans l1 hm,Nat.le_trans l3 hm⟩,cs,rfl,?_⟩
 have hcs':cs.toList=[u0,u1,u2,u3,u4,u5,u6,u7,u8,u9]:=hcs
 rw[hcs']
 obtain⟨p0,p1,p2,p3,p4,_⟩:=h1
 rw[e1,e2,e3,e4,e5]
 exact⟨p0,p1,p2,p3,p4,s1,rfl,s3,rfl,rfl,trivial⟩
end
end Go.Di

namespace Go.Di
open Proofs
open Go.RowKit Go.ChangeShapes Go.WideShapes Go.Deep Go.ChangeAt Go.Proofs
open Go.Proofs.YtfkmodcjddfeiaaGreatDoor
section
variable {H:Type} {enc:TypeId×Value→H} {w:World} {sp:Nat→Bool} {hd:Bool}
theorem slice_of_ok {t et:TypeId}{r:Reach}{b0:Nat}{v:Value}(hu:Tryz.prog.underlying t=some (.slice et))(h:Value.okWide Tryz.prog w r b0 t v):v.cells.toList=[v]:=by
 unfold Value.okWide at h
 rw[hu]at h
 simp only at h
 unfold Cell.okWide at h
 rw[hu]at h
 unfold Cell.ok at h
 rw[hu]at h
 cases v<;>simp only at h<;>first|exact h.elim|rfl
theorem Ye5 {t et:TypeId}{e:E}{xs:List e.α}{fuel:Nat}{v:Value}{x:DataW H×List MemPlace}{B:Nat}(ht:Tryz.prog.underlying t=some (.slice et))(hB:Tryz.prog.bytesOf et=B)(h:DataW.trod enc Tryz.prog w 0 sp hd fuel t [v]=some x)
  (hr:RelC (Old w) w (.sl false e xs) v) (hw:∀ m∈x.1.weights Tryz.prog t,m≤reachBytes):xs.length*B≤140737488355328:=by
 obtain⟨A,c,hv,_⟩:=hr
 rcases open_slice ht h with ⟨h1,_⟩|⟨a,len,cap,m,n,D,Pl,h1,hb,hlc,hmx,hm,hx,hel⟩
 ·have h1:v=.slice none 0 0:=by simpa using h1
  rw[hv]at h1
  injection h1 with _ e2 _
  rw[e2]
  simp
 ·have h1:v=.slice (some a) len cap:=by simpa using h1
  rw[hv]at h1
  injection h1 with _ e2 _
  rw[e2]
  have:=hw ((len+(m-len))*B) (by rw[hx];simp[DataW.weights,ht,hB])
  have h2:len*B≤(len+(m-len))*B:=Nat.mul_le_mul_right _ (by omega)
  have h3:=reachBytes_lt
  omega
theorem reads54:ReadsE enc Tryz.prog w sp hd 54 .work:=fun fuel cs x h=>by
 obtain⟨a,b,rfl⟩:=reads_two (t:=54) (f0:=fld 54 0) (f1:=fld 54 1) (by kernel_rfl) (by kernel_rfl) (by kernel_rfl) (by kernel_rfl) (by kernel_rfl) (by kernel_rfl) (by kernel_rfl) (by kernel_rfl) h
 exact⟨(⟨a,b⟩:Work),rfl,rfl⟩
theorem arg29 {r:Reach}{b0:Nat}{v:Value}{d:DataW H}{ps:List MemPlace}(hval:Value.okWide Tryz.prog w r b0 29 v)(h:DataW.Trod enc Tryz.prog w 0 sp hd 29 v d ps):∃ l:List Work,l.length≤9223372036854775807∧Rel (Old w) w (.sl false .work l) v:=by
 have hu:Tryz.prog.underlying 29=some (.slice 54):=by kernel_rfl
 have hc:=slice_of_ok hu hval
 obtain⟨fuel,h⟩:=h
 obtain⟨v',l,h1,h2,h3⟩:=Yeb (e:=.work) hu (by kernel_rfl) reads54 h
 rw[hc]at h1
 simp only[List.cons.injEq,and_true]at h1
 subst h1
 have hm:maxLen≤9223372036854775807:=by decide
 exact⟨l,Nat.le_trans h3 hm,h2⟩
theorem room29 {r:Reach}{b0:Nat}{v:Value}{d:DataW H}{ps:List MemPlace}(hval:Value.okWide Tryz.prog w r b0 29 v)(h:DataW.Trod enc Tryz.prog w 0 sp hd 29 v d ps){l:List Work}(hr:Rel (Old w) w (.sl false .work l) v)(hw:∀ m∈d.weights Tryz.prog 29,m≤reachBytes):l.length*16≤140737488355328:=by
 have hu:Tryz.prog.underlying 29=some (.slice 54):=by kernel_rfl
 have hc:=slice_of_ok hu hval
 obtain⟨fuel,h⟩:=h
 rw[hc]at h
 exact Ye5 (e:=.work) (et:=54) hu (by kernel_rfl) h hr hw
theorem room26 {fuel:Nat}{cs:List Value}{x:DataW H×List MemPlace}(h:DataW.trod enc Tryz.prog w 0 sp hd fuel 26 cs=some x){b:Book}(hr:All2 (RelC (Old w) w) [.sl false .sec b.secs,.sl false .int b.turns,.sl false .sv b.svs,.int .i64 b.rule,.int .i64 b.days] cs)(hw:∀ m∈x.1.weights Tryz.prog 26,m≤reachBytes):Room b:=by
 have hu:Tryz.prog.underlying 26=some (.struct #[fld 26 0,fld 26 1,fld 26 2,fld 26 3,fld 26 4]):=by kernel_rfl
 obtain⟨xs,k,_,hx,hl,hlen,hf⟩:=DataW.trod_struct hu h
 match xs,hlen,cs,hr with
 | [y0,y1,y2,y3,y4],_,[v0,v1,v2,v3,v4],⟨q0,q1,q2,_⟩ =>
  have g0:=hf 0 (fld 26 0) rfl
  have g1:=hf 1 (fld 26 1) rfl
  have g2:=hf 2 (fld 26 2) rfl
  have o0:(fld 26 0).offset=0:=by kernel_rfl
  have o1:(fld 26 1).offset=1:=by kernel_rfl
  have o2:(fld 26 2).offset=2:=by kernel_rfl
  have c0:Tryz.prog.cellsOf (fld 26 0).type=1:=by kernel_rfl
  have c1:Tryz.prog.cellsOf (fld 26 1).type=1:=by kernel_rfl
  have c2:Tryz.prog.cellsOf (fld 26 2).type=1:=by kernel_rfl
  simp[o0,o1,o2,c0,c1,c2]at g0 g1 g2
  have hd:x.1=.agg [y0.1,y1.1,y2.1,y3.1,y4.1]:=congrArg Prod.fst hx
  have hmem:∀(j:Nat) (t:TypeId) (y:DataW H),[(fld 26 0).type,(fld 26 1).type,(fld 26 2).type,(fld 26 3).type,(fld 26 4).type][j]?=some t→[y0.1,y1.1,y2.1,y3.1,y4.1][j]?=some y→∀ m∈y.weights Tryz.prog t,m≤reachBytes:=fun j t y h1 h2 m hm=>by
   refine hw m ?_
   rw[hd]
   simp only[DataW.weights,hu]
   exact DataW.weights_mem_each h1 h2 m hm
  exact⟨Ye5 (e:=.sec) (et:=118) (by kernel_rfl) (by kernel_rfl) g0 q0 (hmem 0 _ _ rfl rfl),Ye5 (e:=.int) (et:=3) (by kernel_rfl) (by kernel_rfl) g1 q1 (hmem 1 _ _ rfl rfl),Ye5 (e:=.sv) (et:=91) (by kernel_rfl) (by kernel_rfl) g2 q2 (hmem 2 _ _ rfl rfl)⟩
theorem room28 {v:Value}{d:DataW H}{ps:List MemPlace}(h:DataW.Trod enc Tryz.prog w 0 sp hd 28 v d ps){x:FBook}(hr:Rel (Old w) w (Yad x) v)(hw:∀ m∈d.weights Tryz.prog 28,m≤reachBytes):FRoom x:=by
 have hu:Tryz.prog.underlying 28=some (.struct #[fld 28 0,fld 28 1,fld 28 2,fld 28 3,fld 28 4,fld 28 5]):=by kernel_rfl
 obtain⟨cs,rfl,hc⟩:=hr
 obtain⟨fuel,h⟩:=h
 obtain⟨xs,k,_,hx,hl,hlen,hf⟩:=DataW.trod_struct hu h
 have hn:Tryz.prog.cellsOf 28=10:=by kernel_rfl
 rw[hn]at hl
 obtain⟨u0,u1,u2,u3,u4,u5,u6,u7,u8,u9,hcs⟩:=five hl
 obtain⟨y0,y1,y2,y3,y4,y5,hxs⟩:=six hlen
 subst hxs
 have hcs':cs.toList=[u0,u1,u2,u3,u4,u5,u6,u7,u8,u9]:=hcs
 rw[hcs']at hc
 obtain⟨q0,q1,q2,q3,q4,q5,q6,q7,_⟩:=hc
 have g0:=hf 0 (fld 28 0) rfl
 have g1:=hf 1 (fld 28 1) rfl
 have g3:=hf 3 (fld 28 3) rfl
 have o0:(fld 28 0).offset=0:=by kernel_rfl
 have o1:(fld 28 1).offset=5:=by kernel_rfl
 have o3:(fld 28 3).offset=7:=by kernel_rfl
 have c0:Tryz.prog.cellsOf (fld 28 0).type=5:=by kernel_rfl
 have c1:Tryz.prog.cellsOf (fld 28 1).type=1:=by kernel_rfl
 have c3:Tryz.prog.cellsOf (fld 28 3).type=1:=by kernel_rfl
 have t0:(fld 28 0).type=26:=by kernel_rfl
 have t1:(fld 28 1).type=23:=by kernel_rfl
 have t3:(fld 28 3).type=23:=by kernel_rfl
 rw[o0,c0,t0,hcs]at g0
 rw[o1,c1,t1,hcs]at g1
 rw[o3,c3,t3,hcs]at g3
 simp at g0 g1 g3
 have hd:d=.agg [y0.1,y1.1,y2.1,y3.1,y4.1,y5.1]:=congrArg Prod.fst hx
 have hmem:∀(j:Nat) (t:TypeId) (y:DataW H),[(fld 28 0).type,(fld 28 1).type,(fld 28 2).type,(fld 28 3).type,(fld 28 4).type,(fld 28 5).type][j]?=some t→[y0.1,y1.1,y2.1,y3.1,y4.1,y5.1][j]?=some y→∀ m∈y.weights Tryz.prog t,m≤reachBytes:=fun j t y h1 h2 m hm=>by
  refine hw m ?_
  rw[hd]
  simp only[DataW.weights,hu]
  exact DataW.weights_mem_each h1 h2 m hm
 exact⟨room26 g0 ⟨q0,q1,q2,q3,q4,trivial⟩ (fun m hm=>hmem 0 _ _ rfl rfl m (by rw[t0];exact hm)),Ye5 (e:=.int) (et:=3) (by kernel_rfl) (by kernel_rfl) g1 q5 (fun m hm=>hmem 1 _ _ rfl rfl m (by rw[t1];exact hm)),Ye5 (e:=.int) (et:=3) (by kernel_rfl) (by kernel_rfl) g3 q7 (fun m hm=>hmem 3 _ _ rfl rfl m (by rw[t3];exact hm))⟩
end
end Go.Di

namespace Go.Di
open Proofs
open Go.RowKit Go.ChangeShapes Go.WideShapes Go.Deep Go.ChangeAt Go.Proofs
open Go.Proofs.YtfkmodcjddfeiaaGreatDoor
section
variable {H:Type} {enc:TypeId×Value→H} {w:World} {sp:Nat→Bool} {hd:Bool}
theorem arg30 {r:Reach}{b0:Nat}{v:Value}{d:DataW H}{ps:List MemPlace}(hval:Value.okWide Tryz.prog w r b0 30 v)(h:DataW.Trod enc Tryz.prog w 0 sp hd 30 v d ps):∃ n0 n1:Int,Rel (Old w) w (.agg [.int .i64 n0,.int .i64 n1]) v:=by
 have hu:Tryz.prog.underlying 30=some (.array 2 3):=by kernel_rfl
 unfold Value.okWide at hval
 rw[hu]at hval
 obtain⟨cs,rfl,_⟩:=hval
 obtain⟨fuel,h⟩:=h
 obtain⟨zs,h1,h2⟩:=reads_arr hu (by kernel_rfl) (by kernel_rfl) (by kernel_rfl) h
 match zs,h1 with
 | [a,b],_ =>
  refine⟨a,b,cs,rfl,?_⟩
  rw[show cs.toList=[.int .i64 a,.int .i64 b] from h2]
  exact⟨rfl,rfl,trivial⟩
end
def noTwo:Value:=.agg #[.int .i64 0,.int .i64 0]
end Go.Di

namespace Go.Di
open Proofs
theorem can_false_of {b:Book}(h:¬Yaj b []≠[]):canF b=false:=by
 have:Yaj b []=[]:=Classical.byContradiction h
 unfold canF
 rw[this]
 rfl
theorem rCan_con {b:Book}(hV:Val9 b):Contract PR glob 112 [Yag b] (.bool (canF b)):=by
 have h4:=hV.secs
 have hon:∀ i,i<b.secs.length→Ybr b i≠[]→WpL PR (mk PR (Yac types) glob 16) (k_112 [1,0,1,0,0]) (Ydx b i) fun e1 L1=>e1=.normal∧L1=Ydx b (i+1):=fun i hi hne=>by
  have hlt:decide ((i:Int)<b.secs.length)=true:=decide_eq_true (by omega)
  have hi64:Yae ((i:Int)+1):=by simp only[Yae];omega
  have c:=tr_con hV hi
  have hz:(((Ybr b i).length:Int)==0)=false:=by
   rw[beq_eq_false_iff_ne]
   have:=List.length_pos_iff.2 hne
   omega
  refine WpL.path (G 16) (rCan_0_on b i (Ybr b i)) ?_ ⟨rfl,rfl⟩
  repeat(first|exact trivial|refine⟨by first|exact hlt|exact c|exact hz|exact hi64|rfl|omega,?_⟩)
 rcases Ycz (fun i=>(Ybr b i).isEmpty) b.secs.length with ⟨m,hm,hbad,hg⟩|hg
 ·have hbad:Ybr b m=[]:=List.isEmpty_iff.1 hbad
  rw[can_false_of (fun h=>(Ygv hV).1 h m hm hbad)]
  have hlt:decide ((m:Int)<b.secs.length)=true:=decide_eq_true (by omega)
  have c:=tr_con hV hm
  have hz:(((Ybr b m).length:Int)==0)=true:=by rw[hbad];rfl
  have hloop:LoopT PR glob 16 (k_112 [1,0,1]) (Ydx b 0) .ret (rCan_T0_bad b m (Ybr b m)):=by
   refine LoopT.count (tt:=Yac types) (id:=0) (c:=k_112 [1,0,1,0,0]) (by kernel_rfl) m (fun i=>Ydx b i) (fun i hi=>hon i (by omega) (fun h=>by
    have:=hg i hi
    rw[h]at this
    cases this)) (WpL.path (G 16) (rCan_0_bad b m (Ybr b m)) ?_ ⟨.inr ⟨rfl,rfl⟩,rfl⟩)
   repeat(first|exact trivial|refine⟨by first|exact hlt|exact c|exact hz|rfl|omega,?_⟩)
  refine Yaa (G 16) rCan_fn (rCan_no b m (Ybr b m)) ?_
  repeat(first|exact trivial|refine⟨by first|exact hloop|rfl|omega,?_⟩)
 ·have hall:∀ i,i<b.secs.length→Ybr b i≠[]:=fun i hi h=>by
   have:=hg i hi
   rw[h]at this
   cases this
  rw[can_true ((Ygv hV).2 hall)]
  have hloop:LoopT PR glob 16 (k_112 [1,0,1]) (Ydx b 0) .normal (Ydx b b.secs.length) :=
   LoopT.count (tt:=Yac types) (id:=0) (c:=k_112 [1,0,1,0,0]) (by kernel_rfl) b.secs.length (fun i=>Ydx b i) (fun i hi=>hon i hi (hall i hi)) (WpL.path (G 16) (rCan_0_end b _) ⟨decide_eq_false (Int.lt_irrefl _),trivial⟩ ⟨.inl ⟨rfl,rfl⟩,rfl⟩)
  refine Yaa (G 16) rCan_fn (rCan_yes b b.secs.length) ?_
  repeat(first|exact trivial|refine⟨by first|exact hloop|rfl|omega,?_⟩)
theorem rAsked_con {b:Book}(hs:Small b)(is:Bool):Contract PR glob 113 [Yag b,.bool is] (.int .i64 (errF b is)):=by
 have c1:=rCheck_con hs
 unfold Yah at c1
 unfold errF
 cases hv:Yd7 b with
 | false =>
  rw[hv]at c1
  refine Yaa (G 16) rAsked_fn (rAsked_bad b is) ?_
  repeat(first|exact trivial|refine⟨by first|exact c1|rfl|omega,?_⟩)
 | true =>
  rw[hv]at c1
  have c2:=rCan_con (Ycq.1 hv).v9
  cases is with
  | false =>
   refine Yaa (G 16) rAsked_fn (rAsked_ask b false) ?_
   repeat(first|exact trivial|refine⟨by first|exact c1|rfl|omega,?_⟩)
  | true =>
   cases hc:canF b with
   | false =>
    rw[hc]at c2
    refine Yaa (G 16) rAsked_fn (rAsked_false b true) ?_
    repeat(first|exact trivial|refine⟨by first|exact c1|exact c2|rfl|omega,?_⟩)
   | true =>
    rw[hc]at c2
    refine Yaa (G 16) rAsked_fn (rAsked_ok b true) ?_
    repeat(first|exact trivial|refine⟨by first|exact c1|exact c2|rfl|omega,?_⟩)
theorem errR_zero {b:Book}{is:Bool}(h:errF b is=0):Valid b∧is=true∧Yaj b []≠[]:=by
 unfold errF at h
 cases hv:Yd7 b with
 | false=>rw[hv]at h;cases h
 | true =>
  rw[hv]at h
  cases is with
  | false=>cases h
  | true =>
   cases hc:canF b with
   | false=>rw[hc]at h;cases h
   | true =>
    refine⟨Ycq.1 hv,rfl,fun e=>?_⟩
    unfold canF at hc
    rw[e]at hc
    cases hc
theorem rHull_con (s u:Span):Contract PR glob 117 [spD s,spD u] (spD (Ycg s u)):=by
 have c:=Ye8 (mn s.lo u.lo) (mx s.hi u.hi)
 refine Yaa (G 16) rHull_fn (rHull_all s u) ?_
 repeat(first|exact trivial|refine⟨by first|exact c|rfl|omega,?_⟩)
theorem getD_tr1 {ts:List Tr1}{i:Nat}(h:i<ts.length):ts.getD i tr10∈ts:=Ybq ts i tr10 h
theorem rSpan_con {b:Book}(hT:b.turns.length≤1000){ts:List Tr1}(hn:ts≠[])(hl:ts.length≤100000)(ht:∀ u∈ts,Tame u){d:Int}(hd:0≤d∧d≤1000):Contract PR glob 119 [Yag b,.sl false .tr1 ts,.int .i64 d] (spD (Ygz (fun u=>th1 b.turns u.t0 u.w0 u.w1 d.toNat) ts)):=by
 have hpos:=List.length_pos_iff.2 hn
 have hc:∀ i,i<ts.length→Contract PR glob 139 [Yag b,tr1D (ts.getD i tr10),.int .i64 0,.int .i64 d] (.int .i64 (th1 b.turns (ts.getD i tr10).t0 (ts.getD i tr10).w0 (ts.getD i tr10).w1 d.toNat)):=fun i hi=>by
  have:=ht _ (getD_tr1 hi)
  have a:=this.t0
  have a1:=this.w0
  have a2:=this.w1
  exact rThk0_con hT (by omega) (by omega) (by omega) hd
 unfold Ygz
 have hloop:LoopT PR glob 33 (k_119 [1,1,0,1]) (Yg9 b ts d (Yf6 (fun u=>th1 b.turns u.t0 u.w0 u.w1 d.toNat) ts tr10 0) 0) .normal (Yg9 b ts d (Yf6 (fun u=>th1 b.turns u.t0 u.w0 u.w1 d.toNat) ts tr10 ts.length) ts.length):=by
  refine LoopT.count (tt:=Yac types) (id:=0) (c:=k_119 [1,1,0,1,0,0]) (by kernel_rfl) ts.length (fun i=>Yg9 b ts d (Yf6 (fun u=>th1 b.turns u.t0 u.w0 u.w1 d.toNat) ts tr10 i) i) (fun i hi=>?_) (WpL.path (G 33) (rSpan_0_end b ts d _ _) ⟨decide_eq_false (Int.lt_irrefl _),trivial⟩ ⟨.inl ⟨rfl,rfl⟩,rfl⟩)
  have hlt:decide ((i:Int)<ts.length)=true:=decide_eq_true (by omega)
  have hix:(0:Int)≤i∧(i:Int)<ts.length:=by omega
  have hi64:Yae ((i:Int)+1):=by simp only[Yae];omega
  have c1:=hc i hi
  have c2:=point_con (th1 b.turns (ts.getD i tr10).t0 (ts.getD i tr10).w0 (ts.getD i tr10).w1 d.toNat)
  have c3:=rHull_con (Yf6 (fun u=>th1 b.turns u.t0 u.w0 u.w1 d.toNat) ts tr10 i) ⟨th1 b.turns (ts.getD i tr10).t0 (ts.getD i tr10).w0 (ts.getD i tr10).w1 d.toNat,th1 b.turns (ts.getD i tr10).t0 (ts.getD i tr10).w0 (ts.getD i tr10).w1 d.toNat⟩
  refine WpL.path (G 33) (rSpan_0_on b ts d _ i (th1 b.turns (ts.getD i tr10).t0 (ts.getD i tr10).w0 (ts.getD i tr10).w1 d.toNat) (Yf6 (fun u=>th1 b.turns u.t0 u.w0 u.w1 d.toNat) ts tr10 (i+1))) ?_ ⟨rfl,rfl⟩
  repeat(first|exact trivial|refine⟨by first|exact hlt|exact hix|exact c1|exact c2|exact c3|exact hi64|rfl|omega,?_⟩)
 have c0:=hc 0 hpos
 have c2:=point_con (th1 b.turns (ts.getD 0 tr10).t0 (ts.getD 0 tr10).w0 (ts.getD 0 tr10).w1 d.toNat)
 have h0:(0:Int)≤0∧(0:Int)<ts.length:=by omega
 refine Yaa (G 33) rSpan_fn (rSpan_all b ts d (th1 b.turns (ts.getD 0 tr10).t0 (ts.getD 0 tr10).w0 (ts.getD 0 tr10).w1 d.toNat) (Yf6 (fun u=>th1 b.turns u.t0 u.w0 u.w1 d.toNat) ts tr10 ts.length) ts.length) ?_
 repeat(first|exact trivial|refine⟨by first|exact h0|exact c0|exact c2|exact hloop|rfl|omega,?_⟩)
theorem truths1_tame {b:Book}(hV:Val9 b){k:Nat}(hk:k<b.secs.length){u:Tr1}(hu:u∈Ybr b k):Tame u :=
 have h:=mem_truths1.1 hu
 tame_of hV hk (oth_lt hk) h.t0 h.t1 h.w0 h.w1
theorem truths1_len {b:Book}(hV:Val9 b){k:Nat}(hk:k<b.secs.length):(Ybr b k).length≤144:=by
 have hs:=(secw hV hk).t
 have:=lp_len (lo:=(b.secs.getD k sec0).t.lo) (fun n=>g1_len hV hk n) (sp1 (b.secs.getD k sec0).t)
 have h3:sp1 (b.secs.getD k sec0).t≤4:=by unfold sp1;omega
 unfold Ybr g0
 omega
theorem rRightA_con {b:Book}(hs:Small b):Contract PR glob 83 [Yag b] (.tup [.bool (Yd7 b&&canF b),.int .i64 (Yah b)]):=by
 have c1:=rCheck_con hs
 unfold Yah at c1 ⊢
 cases hv:Yd7 b with
 | false =>
  rw[hv]at c1
  refine Yaa (G 12) rRightA_fn (rRightA_bad b) ?_
  repeat(first|exact trivial|refine⟨by first|exact c1|rfl|omega,?_⟩)
 | true =>
  rw[hv]at c1
  have c2:=rCan_con (Ycq.1 hv).v9
  rw[Bool.true_and]
  refine Yaa (G 12) rRightA_fn (rRightA_ok b (canF b)) ?_
  repeat(first|exact trivial|refine⟨by first|exact c1|exact c2|rfl|omega,?_⟩)
theorem ne_bne {e:Int}(h:e≠0):(e != 0)=true:=by simp[h]
theorem rThickA_con {b:Book}(hs:Small b)(n d:Int):Contract PR glob 87 [Yag b,.int .i64 n,.int .i64 d] (.tup [spD (spanOr (askE b n d) (Ybn b (Yaj b []) b.turns n d)),.int .i64 (askE b n d)]):=by
 have c1:=rSection_con b n hs.secs
 have c2:=rDay_con b d
 have c3:=rAsked_con hs (Yaf b n&&Yaw b d)
 unfold askE
 by_cases he:errF b (Yaf b n&&Yaw b d)=0
 ·obtain⟨hV0,his,hne⟩:=errR_zero he
  have hV:=hV0.v9
  rw[he]at c3 ⊢
  rw[Bool.and_eq_true]at his
  obtain⟨hi,hdd⟩:=his
  rw[hi,Bool.true_and]at c3
  have hi':=hi
  have hd':=hdd
  simp only[Yaf,Yaw,Yat]at hi' hd'
  obtain⟨k,hk⟩:∃ k:Nat,(k:Int)=n:=⟨n.toNat,by omega⟩
  subst hk
  have hkl:k<b.secs.length:=by omega
  have hday:=hV.days
  have c4:=tr_con hV hkl
  have c5:=rSpan_con (b:=b) (by have:=hV.turns;omega) ((Ygv hV).1 hne k hkl) (by have:=truths1_len hV hkl;omega) (fun u hu=>truths1_tame hV hkl hu) (d:=d) (by omega)
  obtain⟨m,hm⟩:∃ m:Nat,(m:Int)=d:=⟨d.toNat,by omega⟩
  rw[show d.toNat=m by omega,thick_ref hV hne hkl m,hm]at c5
  rw[show spanOr 0 (Ybn b (Yaj b []) b.turns k d)=Ybn b (Yaj b []) b.turns k d from if_pos rfl]
  refine Yaa (G 29) rThickA_fn (rThickA_ok b k d (Ybr b k) (Ybn b (Yaj b []) b.turns k d)) ?_
  repeat(first|exact trivial|refine⟨by first|exact c1|exact c2|exact c3|exact c4|exact c5|exact hi|rfl|omega,?_⟩)
 ·have hb:=ne_bne he
  rw[show spanOr (errF b (Yaf b n&&Yaw b d)) (Ybn b (Yaj b []) b.turns n d)=⟨0,0⟩ from if_neg he]
  cases hi:Yaf b n with
  | false =>
   rw[hi]at c3 hb
   rw[Bool.false_and]at c3 hb ⊢
   refine Yaa (G 29) rThickA_fn (rThickA_no b n d (errF b false)) ?_
   repeat(first|exact trivial|refine⟨by first|exact c1|exact c2|exact c3|exact hi|exact hb|rfl|omega,?_⟩)
  | true =>
   rw[hi]at c3 hb
   rw[Bool.true_and]at c3 hb ⊢
   refine Yaa (G 29) rThickA_fn (rThickA_err b n d (errF b (Yaw b d))) ?_
   repeat(first|exact trivial|refine⟨by first|exact c1|exact c2|exact c3|exact hi|exact hb|rfl|omega,?_⟩)
theorem rWearA_con {b:Book}(hs:Small b)(n:Int):Contract PR glob 86 [Yag b,.int .i64 n] (.tup [spD (spanOr (errF b (Yaf b n)) (Yc2 (Ybe n) (Yaj b []))),.int .i64 (errF b (Yaf b n))]):=by
 have c1:=rSection_con b n hs.secs
 have c3:=rAsked_con hs (Yaf b n)
 by_cases he:errF b (Yaf b n)=0
 ·obtain⟨hV0,hi,hne⟩:=errR_zero he
  have hV:=hV0.v9
  rw[he]at c3 ⊢
  have hi':=hi
  simp only[Yaf,Yat]at hi'
  obtain⟨k,hk⟩:∃ k:Nat,(k:Int)=n:=⟨n.toNat,by omega⟩
  subst hk
  have hkl:k<b.secs.length:=by omega
  have c4:=tr_con hV hkl
  have hnn:=(Ygv hV).1 hne k hkl
  have hpos:=List.length_pos_iff.2 hnn
  have hlen:=truths1_len hV hkl
  have hw:=wear_ref hV hne hkl
  generalize Ybr b k=ts at c4 hnn hpos hlen hw
  rw[show spanOr 0 (Yc2 (Ybe k) (Yaj b []))=Yc2 (Ybe k) (Yaj b []) from if_pos rfl,←hw]
  unfold Ygz
  have hloop:LoopT PR glob 44 (k_86 [1,1,1,1,0,1]) (Yfi b k ts (Yf6 (fun u=>u.w0) ts tr10 0) 0) .normal (Yfi b k ts (Yf6 (fun u=>u.w0) ts tr10 ts.length) ts.length):=by
   refine LoopT.count (tt:=Yac types) (id:=0) (c:=k_86 [1,1,1,1,0,1,0,0]) (by kernel_rfl) ts.length (fun i=>Yfi b k ts (Yf6 (fun u=>u.w0) ts tr10 i) i) (fun i hi=>?_) (WpL.path (G 44) (rWearA_0_end b k ts _ _) ⟨decide_eq_false (Int.lt_irrefl _),trivial⟩ ⟨.inl ⟨rfl,rfl⟩,rfl⟩)
   have hlt:decide ((i:Int)<ts.length)=true:=decide_eq_true (by omega)
   have hix:(0:Int)≤i∧(i:Int)<ts.length:=by omega
   have hi64:Yae ((i:Int)+1):=by simp only[Yae];omega
   have c5:=point_con (ts.getD i tr10).w0
   have c6:=rHull_con (Yf6 (fun u=>u.w0) ts tr10 i) ⟨(ts.getD i tr10).w0,(ts.getD i tr10).w0⟩
   refine WpL.path (G 44) (rWearA_0_on b k ts _ i (ts.getD i tr10).w0 (Yf6 (fun u=>u.w0) ts tr10 (i+1))) ?_ ⟨rfl,rfl⟩
   repeat(first|exact trivial|refine⟨by first|exact hlt|exact hix|exact c5|exact c6|exact hi64|rfl|omega,?_⟩)
  have c5:=point_con (ts.getD 0 tr10).w0
  have h0:(0:Int)≤0∧(0:Int)<ts.length:=by omega
  rw[hi]at c3
  rw[hi]at c1
  have hi2:Yaf b k=true:=hi
  refine Yaa (G 44) rWearA_fn (rWearA_ok b k ts (ts.getD 0 tr10).w0 (Yf6 (fun u=>u.w0) ts tr10 ts.length) ts.length) ?_
  rw[hi2]
  repeat(first|exact trivial|refine⟨by first|exact c1|exact c3|exact c4|exact c5|exact h0|exact hloop|rfl|omega,?_⟩)
 ·have hb:=ne_bne he
  rw[show spanOr (errF b (Yaf b n)) (Yc2 (Ybe n) (Yaj b []))=⟨0,0⟩ from if_neg he]
  refine Yaa (G 44) rWearA_fn (rWearA_err b n (errF b (Yaf b n))) ?_
  repeat(first|exact trivial|refine⟨by first|exact c1|exact c3|exact hb|rfl|omega,?_⟩)
end Go.Di

namespace Go.Di
open Proofs
def typesG:List (Nat×TI):=(77,⟨.struct [(0,65),(1,23)],2,48,[.nil,.nil],none,false⟩)::Ybb
theorem typesG_ok:Ybl PR (Yac typesG):=tabOk (by kernel_rfl)
noncomputable abbrev MG (n:Nat):Cfg:=mk PRG (Yac typesG) Yb4 n
theorem GG (n:Nat):Good PR (mk PR (Yac typesG) Yb4 n):=good Yam typesG_ok
theorem LG.each {n id:Nat}{b c:Code}(hb:b=.block id (.loop c))(N:Nat)(S:Nat→List (Key×Val)){e:Ex}{L':List (Key×Val)}
  (on:∀ i,i<N→∃ dec orc lorc ks ps L1,runK (MG n) dec orc lorc c (S i) ks=some (ps,.normal,L1)∧allP ps∧L1=S (i+1))
  (fin:∃ dec orc lorc ks ps e1 L1,runK (MG n) dec orc lorc c (S N) ks=some (ps,e1,L1)∧allP ps∧(e1=.exit id∧e=.normal∨e1=.ret∧e=.ret)∧L1=L'):LF n b (S 0) e L':=by
 refine LoopT.count (tt:=Yac typesG) hb N S (fun i hi=>?_) ?_
 ·obtain⟨dec,orc,lorc,ks,ps,L1,h1,h2,h3⟩:=on i hi
  exact WpL.path (GG n) h1 h2 ⟨rfl,h3⟩
 ·obtain⟨dec,orc,lorc,ks,ps,e1,L1,h1,h2,h3,h4⟩:=fin
  exact WpL.path (GG n) h1 h2 ⟨h3,h4⟩
end Go.Di

