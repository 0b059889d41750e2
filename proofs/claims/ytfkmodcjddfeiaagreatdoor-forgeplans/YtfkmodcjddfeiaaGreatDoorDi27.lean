/- Part 27: contracts are proved. No condition. -/
import Derived.Test.YtfkmodcjddfeiaaGreatDoorDi26
import Derived.Test.YtfkmodcjddfeiaaGreatDoorCards
import Derived.Test.YtfkmodcjddfeiaaGreatDoorTie
import Derived.SevenTiedAt
import Derived.Stop.Joined
import Derived.Deep.DeepWitnessRowRef
import Derived.SizedLaws
set_option linter.unusedVariables false
set_option linter.unusedSimpArgs false
set_option maxRecDepth 100000
namespace Go.Di
open Proofs
open Go.RowKit Go.ChangeShapes Go.WideShapes Go.Deep Go.ChangeAt Go.Proofs
open Go.Proofs.YtfkmodcjddfeiaaGreatDoor
theorem Xfj:laidOutB Tryz.prog=true:=by kernel_rfl
theorem own:ownKnob Tryz.prog.godebug=none:=by kernel_rfl
theorem gNowhere : Tryz.prog.globalNamed "prow/chain.nowhere" = some 2 := by kernel_rfl
theorem gBegin : Tryz.prog.globalNamed "prow/forge.begin" = some 0 := by kernel_rfl
theorem gThicks : Tryz.prog.globalNamed "prow/forge.thicks" = some 1 := by kernel_rfl
theorem tBegin:(Tryz.prog.globals[0]?).map (·.type)=some 54:=by kernel_rfl
theorem tThicks:(Tryz.prog.globals[1]?).map (·.type)=some 109:=by kernel_rfl
theorem tNowhere:(Tryz.prog.globals[2]?).map (·.type)=some 157:=by kernel_rfl
section
variable {H:Type} {enc:TypeId×Value->H} {w:World} {sp:Nat->Bool} {hd:Bool}
theorem Zro:Yr6 enc Tryz.prog w sp hd 3 .int:=fun fuel cs x h=>by
 obtain⟨n,rfl⟩:=Yc8 (t:=3) (by kernel_rfl) h;exact⟨n,rfl,rfl⟩
noncomputable def fld (t i:Nat):Field:=match Tryz.prog.underlying t with
 | some (.struct fs)=>fs.getD i default
 | _=>default
theorem Zrn (fuel:Nat)(cs:List Value)(x:DataW H×List MemPlace)(h:DataW.trod enc Tryz.prog w 0 sp hd fuel 113 cs=some x):∃ a b,cs=[.int .i64 a,.int .i64 b] :=
 Zrl (t:=113) (f0:=fld 113 0) (f1:=fld 113 1) (by kernel_rfl) (by kernel_rfl) (by kernel_rfl) (by kernel_rfl) (by kernel_rfl) (by kernel_rfl) (by kernel_rfl) (by kernel_rfl) h
theorem Xd2:Yr6 enc Tryz.prog w sp hd 118 .sec:=fun fuel cs x h=>by
 obtain⟨a,b,c,d,rfl⟩:=Zrm (t:=118) (f0:=fld 118 0) (f1:=fld 118 1) (by kernel_rfl) (by kernel_rfl) (by kernel_rfl) (by kernel_rfl) (by kernel_rfl) (by kernel_rfl) (by rw[show(fld 118 0).type=113 from by kernel_rfl];exact Zrn) (by rw[show(fld 118 1).type=113 from by kernel_rfl];exact Zrn) h;exact⟨(⟨⟨a,b⟩,⟨c,d⟩⟩:Sec),rfl,rfl⟩
theorem Xd3:Yr6 enc Tryz.prog w sp hd 91 .sv:=fun fuel cs x h=>by
 obtain⟨a,b,c,d,rfl⟩:=Zj4 (t:=91) (f0:=fld 91 0) (f1:=fld 91 1) (f2:=fld 91 2) (f3:=fld 91 3) (by kernel_rfl) (by kernel_rfl) (by kernel_rfl) (by kernel_rfl) (by kernel_rfl) (by kernel_rfl) (by kernel_rfl) (by kernel_rfl) (by kernel_rfl) (by kernel_rfl) (by kernel_rfl) (by kernel_rfl) (by kernel_rfl) (by kernel_rfl) h;exact⟨(⟨a,b,c,d⟩:Sv),rfl,rfl⟩
end
theorem Zo9 {H:Type}{enc:TypeId×Value->H}{P:Program}{w:World}{sp:Nat->Bool}{hd:Bool}{t et:TypeId}(ht:P.underlying t=some (.array 2 et))(hc:P.cellsOf t=2)(ce:P.cellsOf et=1){fuel:Nat}{cs:List Value}{d0 d1:DataW H}{ps:List MemPlace}
  (h:DataW.trod enc P w 0 sp hd fuel t cs=some (.agg [d0,d1],ps)):∃ v0 v1 k q0 q1,cs=[v0,v1]/\DataW.trod enc P w 0 sp hd k et [v0]=some (d0,q0)/\DataW.trod enc P w 0 sp hd k et [v1]=some (d1,q1):=by
 cases fuel with
 | zero=>simp[DataW.trod]at h
 | succ k =>
  unfold DataW.trod at h;rw[ht]at h;simp only[ce,Nat.mul_one]at h
  split at h
  ·rename_i hl;rw[hc]at hl
   match cs,hl with
   | [v0,v1],_ =>
    have hr:List.range 2=[0,1]:=rfl;rw[hr]at h;simp only[List.mapM_cons,List.mapM_nil]at h
    cases h0:DataW.trod enc P w 0 sp hd k et (List.take 1 (List.drop 0 [v0,v1])) with
    | none=>rw[h0]at h;cases h
    | some x0 =>
     rw[h0]at h
     cases h1:DataW.trod enc P w 0 sp hd k et (List.take 1 (List.drop 1 [v0,v1])) with
     | none=>rw[h1]at h;cases h
     | some x1 =>
      rw[h1]at h;have h':(DataW.agg [x0.1,x1.1],x0.2++(x1.2++[]))=(DataW.agg [d0,d1],ps):=Option.some.inj h;simp only[Prod.mk.injEq,DataW.agg.injEq,List.cons.injEq,and_true]at h';obtain⟨⟨rfl,rfl⟩,_⟩:=h';exact⟨v0,v1,k,x0.2,x1.2,rfl,h0,h1⟩
  ·cases h
theorem Zo8 {H:Type}{enc:TypeId×Value->H}{w:World}{sp:Nat->Bool}{hd:Bool}{fuel:Nat}{cs:List Value}{a b:Int}{ps:List MemPlace}
  (h:DataW.trod enc Tryz.prog w 0 sp hd fuel 157 cs=some (.agg [.lit (.int .i64 a),.lit (.int .i64 b)],ps)):cs=[.int .i64 a,.int .i64 b]:=by
 obtain⟨xs,k,_,hx,hl,hxl,hf⟩:=DataW.trod_struct (t:=157) (fs:=#[fld 157 0,fld 157 1]) (by kernel_rfl) h;have hc:Tryz.prog.cellsOf 157=2:=by kernel_rfl
 rw[hc]at hl;have c0:Tryz.prog.cellsOf (fld 157 0).type=1:=by kernel_rfl
 have c1:Tryz.prog.cellsOf (fld 157 1).type=1:=by kernel_rfl
 have o0:(fld 157 0).offset=0:=by kernel_rfl
 have o1:(fld 157 1).offset=1:=by kernel_rfl
 match xs,hxl,cs,hl with
 | [y0,y1],_,[v0,v1],_ =>
  have g0:=hf 0 (fld 157 0) rfl;have g1:=hf 1 (fld 157 1) rfl;simp[o0,o1,c0,c1]at g0 g1;obtain⟨n0,e0,e0',_⟩:=DataW.trod_int (k:=.i64) (by kernel_rfl) g0;obtain⟨n1,e1,e1',_⟩:=DataW.trod_int (k:=.i64) (by kernel_rfl) g1;simp only[List.cons.injEq,and_true]at e0 e1;simp only[List.map_cons,List.map_nil,Prod.mk.injEq,DataW.agg.injEq,List.cons.injEq,and_true]at hx;obtain⟨⟨q0,q1⟩,_⟩:=hx;rw[e0']at q0;rw[e1']at q1
  simp only[DataW.lit.injEq,Lit.int.injEq,true_and]at q0 q1;subst q0 q1;rw[e0,e1]
theorem Zih {H:Type}{enc:TypeId×Value->H}{w:World}{sp:Nat->Bool}{hd:Bool}{fuel:Nat}{cs:List Value}{a b:Int}{ps:List MemPlace}
  (h:DataW.trod enc Tryz.prog w 0 sp hd fuel 54 cs=some (.agg [.lit (.int .i64 a),.lit (.int .i64 b)],ps)):cs=[.int .i64 a,.int .i64 b]:=by
 obtain⟨xs,k,_,hx,hl,hxl,hf⟩:=DataW.trod_struct (t:=54) (fs:=#[fld 54 0,fld 54 1]) (by kernel_rfl) h;have hc:Tryz.prog.cellsOf 54=2:=by kernel_rfl
 rw[hc]at hl;have c0:Tryz.prog.cellsOf (fld 54 0).type=1:=by kernel_rfl
 have c1:Tryz.prog.cellsOf (fld 54 1).type=1:=by kernel_rfl
 have o0:(fld 54 0).offset=0:=by kernel_rfl
 have o1:(fld 54 1).offset=1:=by kernel_rfl
 match xs,hxl,cs,hl with
 | [y0,y1],_,[v0,v1],_ =>
  have g0:=hf 0 (fld 54 0) rfl;have g1:=hf 1 (fld 54 1) rfl;simp[o0,o1,c0,c1]at g0 g1;obtain⟨n0,e0,e0',_⟩:=DataW.trod_int (k:=.i64) (by kernel_rfl) g0;obtain⟨n1,e1,e1',_⟩:=DataW.trod_int (k:=.i64) (by kernel_rfl) g1;simp only[List.cons.injEq,and_true]at e0 e1;simp only[List.map_cons,List.map_nil,Prod.mk.injEq,DataW.agg.injEq,List.cons.injEq,and_true]at hx;obtain⟨⟨q0,q1⟩,_⟩:=hx;rw[e0']at q0;rw[e1']at q1
  simp only[DataW.lit.injEq,Lit.int.injEq,true_and]at q0 q1;subst q0 q1;rw[e0,e1]
theorem Zln {W : World} (h : laidMetH Tryz.prog [("prow/chain.nowhere",YtfkmodcjddfeiaaGreatDoor.Rows.laid_prow_chain_nowhere),("prow/forge.begin",YtfkmodcjddfeiaaGreatDoor.Rows.laid_prow_forge_begin),("prow/forge.thicks",YtfkmodcjddfeiaaGreatDoor.Rows.laid_prow_forge_thicks)] W) :
  ∀ g cs,Yca g=some cs->Rel (Old W) W (.ref cs 0) (.pointer (some ⟨g,0,none⟩)):=by
 intro g cs hg
 match g,hg with
 | 2,hg =>
  cases hg
  obtain⟨⟨ps,⟨g',t,vs,fuel,p,q,hg',ht,hv,hd,_,_⟩,_⟩,_⟩:=h;obtain rfl:=Option.some.inj (gNowhere.symm.trans hg');obtain rfl:=Option.some.inj (tNowhere.symm.trans ht);have e:=Zo8 hd;refine⟨2,0,rfl,fun j d hj=>?_⟩;have hc:=World.var?_cell hg' hv;have hs:vs=#[.int .i64 (-1),.int .i64 (-1)]:=by rw[<-Array.toArray_toList (xs:=vs),e]
  match j,hj with
  | 0,hj =>
   cases hj
   have h0:=hc 0;rw[hs]at h0;exact⟨_,rfl,Yis h0,h0⟩
  | 1,hj =>
   cases hj
   have h0:=hc 1;rw[hs]at h0;exact⟨_,rfl,Yis h0,h0⟩
 | 0,hg =>
  cases hg
  obtain⟨⟨ps,⟨_,_,_,_,_,_,_,_,_,_,hrest,_⟩,_⟩,_⟩:=h;obtain⟨g',t,vs,fuel,p,q,hg',ht,hv,hd,_,_⟩:=hrest;obtain rfl:=Option.some.inj (gBegin.symm.trans hg');obtain rfl:=Option.some.inj (tBegin.symm.trans ht);have e:=Zih hd;refine⟨0,0,rfl,fun j d hj=>?_⟩;have hc:=World.var?_cell hg' hv;have hs:vs=#[.int .i64 (-1),.int .i64 0]:=by rw[<-Array.toArray_toList (xs:=vs),e]
  match j,hj with
  | 0,hj =>
   cases hj
   have h0:=hc 0;rw[hs]at h0;exact⟨_,rfl,Yis h0,h0⟩
  | 1,hj =>
   cases hj
   have h0:=hc 1;rw[hs]at h0;exact⟨_,rfl,Yis h0,h0⟩
 | 1,hg =>
  cases hg
  obtain ⟨g',t,vs,fuel,p,hg',ht,hv,hd⟩ := h.funcs (n := "prow/forge.thicks") (List.mem_cons_of_mem _ (List.mem_cons_of_mem _ (List.mem_cons_self ..)))
  obtain rfl:=Option.some.inj (gThicks.symm.trans hg');obtain rfl:=Option.some.inj (tThicks.symm.trans ht);obtain⟨v0,v1,k,q0,q1,e,h0,h1⟩:=Zo9 (t:=109) (et:=108) (by kernel_rfl) (by kernel_rfl) (by kernel_rfl) hd;have hf:Tryz.prog.underlying 108=some (.func #[67,3,3,3] #[3] false):=by kernel_rfl
  obtain rfl:=func_of_trod (f0:=173) hf (by kernel_rfl) h0;obtain rfl:=func_of_trod (f0:=174) hf (by kernel_rfl) h1;refine⟨1,0,rfl,fun j d hj=>?_⟩;have hc:=World.var?_cell hg' hv;have hs:vs=#[.func (.func 173) #[] #[],.func (.func 174) #[] #[]]:=by rw[<-Array.toArray_toList (xs:=vs),e]
  match j,hj with
  | 0,hj =>
   cases hj
   have h0:=hc 0;rw[hs]at h0;exact⟨_,⟨#[],#[],rfl,trivial,trivial⟩,Yis h0,h0⟩
  | 1,hj =>
   cases hj
   have h0:=hc 1;rw[hs]at h0;exact⟨_,⟨#[],#[],rfl,trivial,trivial⟩,Yis h0,h0⟩
def lay1:Obj->Obj
 | .cells _ t frozen=>.cells #[.int .i64 (-1),.int .i64 (-1)] t frozen
 | o=>o
def lay2:Obj->Obj
 | .cells _ t frozen=>.cells #[.int .i64 (-1),.int .i64 0] t frozen
 | o=>o
def lay3:Obj->Obj
 | .cells _ t frozen=>.cells #[.func (.func 173) #[] #[],.func (.func 174) #[] #[]] t frozen
 | o=>o
noncomputable def Yy1 (os:Os):World :=
 {World.holding Tryz.prog os ⟨#[],#[],[]⟩ with heap:=(((World.holding Tryz.prog os ⟨#[],#[],[]⟩).heap.modify 2 lay1).modify 0 lay2).modify 1 lay3}
def Xe1:Value:=.agg #[.slice none 0 0,.slice none 0 0,.slice none 0 0,.int .i64 0,.int .i64 0,.slice none 0 0,.int .i64 0,.slice none 0 0,.int .i64 0,.int .i64 0]
theorem Zz3 (os : Os) (args : Array Value) : laidMetH Tryz.prog [("prow/chain.nowhere",Rows.laid_prow_chain_nowhere),("prow/forge.begin",Rows.laid_prow_forge_begin),("prow/forge.thicks",Rows.laid_prow_forge_thicks)] ((Yy1 os).forCall (fun _ _ => 0) ⟨#[],args,[]⟩).memory :=
 laidMetH_of_parts3 (fuel:=8) (laidMet_of_run' 8 (by kernel_rfl) (by kernel_rfl)) (by kernel_rfl) (by kernel_rfl)
theorem Zn6 {f:FuncId}{W:World}{args:Array Value}{ds:List D}(hc:Contract Tryz.prog Yca f ds (.bool true))(hg:∀ g cs,Yca g=some cs->Rel (Old W) W (.ref cs 0) (.pointer (some ⟨g,0,none⟩)))(ha:All2 (Rel (Old W) W) ds args.toList) :
  Calls Tryz.prog f args W fun e W'=>e=.returned (.bool true)/\Below W.heap.size W W':=by
 have:=hc.calls W (Old W) args.toList (fun b o h=>h) hg ha
 rw[Array.toArray_toList]at this;exact this.mono fun e W' ⟨v,he,hb,R',_,_,hr⟩=>⟨by rw[he,show v=.bool true from hr],hb⟩
theorem under4:Tryz.prog.underlying 4=some .bool:=by kernel_rfl
section
variable {H:Type} {enc:TypeId×Value->H} {w:World} {sp:Nat->Bool} {hd:Bool}
theorem Xd4 (fuel:Nat)(cs:List Value)(x:DataW H×List MemPlace)(h:DataW.trod enc Tryz.prog w 0 sp hd fuel 26 cs=some x):∃ b:Book,All2 (RelC (Old w) w) [.z .sec b.secs,.z .int b.turns,.z .sv b.svs,.int .i64 b.rule,.int .i64 b.days] cs/\b.secs.length<=maxLen/\b.turns.length<=maxLen/\b.svs.length<=maxLen:=by
 have hu:Tryz.prog.underlying 26=some (.struct #[fld 26 0,fld 26 1,fld 26 2,fld 26 3,fld 26 4]):=by kernel_rfl
 exact Zj5 (t:=26) hu (by kernel_rfl) (by kernel_rfl) (by kernel_rfl) (by kernel_rfl) (by kernel_rfl) (by kernel_rfl) (by kernel_rfl) (by kernel_rfl) (by kernel_rfl) (by kernel_rfl) (by kernel_rfl) (e0:=118) (e1:=3) (e2:=91) (by kernel_rfl) (by kernel_rfl) (by kernel_rfl) (by kernel_rfl) (by kernel_rfl) (by kernel_rfl) (by kernel_rfl) (by kernel_rfl) Xd2 Zro Xd3 h
theorem six {α:Type}{l:List α}(h:l.length=6):∃ a b c d e f,l=[a,b,c,d,e,f]:=by
 match l,h with
 | [a,b,c,d,e,f],_=>exact⟨a,b,c,d,e,f,rfl⟩
theorem five {α:Type}{l:List α}(h:l.length=10):∃ a b c d e f g i j k,l=[a,b,c,d,e,f,g,i,j,k]:=by
 match l,h with
 | [a,b,c,d,e,f,g,i,j,k],_=>exact⟨a,b,c,d,e,f,g,i,j,k,rfl⟩
theorem Xj6 {r:Reach}{b0:Nat}{v:Value}{d:DataW H}{ps:List MemPlace}(hval:Value.okWide Tryz.prog w r b0 28 v)(h:DataW.Trod enc Tryz.prog w 0 sp hd 28 v d ps):∃ x:FBook,FSmall x/\Rel (Old w) w (Yab x) v:=by
 have hu:Tryz.prog.underlying 28=some (.struct #[fld 28 0,fld 28 1,fld 28 2,fld 28 3,fld 28 4,fld 28 5]):=by kernel_rfl
 unfold Value.okWide at hval;rw[hu]at hval;obtain⟨cs,rfl,_⟩:=hval;obtain⟨fuel,h⟩:=h;obtain⟨xs,k,_,_,hl,hx,hf⟩:=DataW.trod_struct hu h;have hc:Tryz.prog.cellsOf 28=10:=by kernel_rfl
 rw[hc]at hl;obtain⟨u0,u1,u2,u3,u4,u5,u6,u7,u8,u9,hcs⟩:=five hl;obtain⟨y0,y1,y2,y3,y4,y5,hxs⟩:=six hx;subst hxs;have g0:=hf 0 (fld 28 0) rfl;have g1:=hf 1 (fld 28 1) rfl;have g2:=hf 2 (fld 28 2) rfl;have g3:=hf 3 (fld 28 3) rfl;have g4:=hf 4 (fld 28 4) rfl;have g5:=hf 5 (fld 28 5) rfl
 have hfs:∀ i,i<6->(fld 28 i).offset=[0,5,6,7,8,9].getD i 0/\Tryz.prog.cellsOf (fld 28 i).type=[5,1,1,1,1,1].getD i 0/\(fld 28 i).type=[26,23,3,23,3,3].getD i 0:=by
  intro i hi;have h6:i=0\/i=1\/i=2\/i=3\/i=4\/i=5:=by omega
  rcases h6 with rfl|rfl|rfl|rfl|rfl|rfl<;>exact⟨by kernel_rfl,by kernel_rfl,by kernel_rfl⟩
 obtain⟨a0,b0,c0⟩:=hfs 0 (by decide);obtain⟨a1,b1,c1⟩:=hfs 1 (by decide);obtain⟨a2,b2,c2⟩:=hfs 2 (by decide);obtain⟨a3,b3,c3⟩:=hfs 3 (by decide);obtain⟨a4,b4,c4⟩:=hfs 4 (by decide);obtain⟨a5,b5,c5⟩:=hfs 5 (by decide);rw[a0,b0,c0,hcs]at g0;rw[a1,b1,c1,hcs]at g1;rw[a2,b2,c2,hcs]at g2;rw[a3,b3,c3,hcs]at g3;rw[a4,b4,c4,hcs]at g4;rw[a5,b5,c5,hcs]at g5;simp at g0 g1 g2 g3 g4 g5;obtain⟨b,h1,h2,h3,h4⟩:=Xd4 _ _ _ g0
 have t23:Tryz.prog.underlying 23=some (.slice 3):=by kernel_rfl
 have t3:Tryz.prog.underlying 3=some (.int .i64):=by kernel_rfl
 obtain⟨w1,fe,e1,s1,l1⟩:=Ygc (e:=.int) t23 (by kernel_rfl) Zro g1;obtain⟨nw,e2⟩:=Yc8 t3 g2;obtain⟨w3,op,e3,s3,l3⟩:=Ygc (e:=.int) t23 (by kernel_rfl) Zro g3;obtain⟨st,e4⟩:=Yc8 t3 g4;obtain⟨mk,e5⟩:=Yc8 t3 g5;simp only[List.cons.injEq,and_true]at e1 e2 e3 e4 e5;have hm:maxLen<=9223372036854775807:=by decide
 refine⟨⟨b,fe,nw,op,st,mk⟩,⟨⟨Nat.le_trans h2 hm,Nat.le_trans h3 hm,Nat.le_trans h4 hm⟩,Nat.le_trans l1 hm,Nat.le_trans l3 hm⟩,cs,rfl,?_⟩;have hcs':cs.toList=[u0,u1,u2,u3,u4,u5,u6,u7,u8,u9]:=hcs;rw[hcs'];obtain⟨p0,p1,p2,p3,p4,_⟩:=h1;rw[e1,e2,e3,e4,e5];exact⟨p0,p1,p2,p3,p4,s1,rfl,s3,rfl,rfl,trivial⟩
end
end Go.Di
namespace Go.Di
open Proofs
open Go.RowKit Go.ChangeShapes Go.WideShapes Go.Deep Go.ChangeAt Go.Proofs
open Go.Proofs.YtfkmodcjddfeiaaGreatDoor
section
variable {H:Type} {enc:TypeId×Value->H} {w:World} {sp:Nat->Bool} {hd:Bool}
theorem Yhj {t et:TypeId}{e:E}{xs:List e.α}{fuel:Nat}{v:Value}{x:DataW H×List MemPlace}{B:Nat}(ht:Tryz.prog.underlying t=some (.slice et))(hB:Tryz.prog.bytesOf et=B)(h:DataW.trod enc Tryz.prog w 0 sp hd fuel t [v]=some x)
  (hr:RelC (Old w) w (.z e xs) v) (hw:∀ m∈x.1.weights Tryz.prog t,m<=reachBytes):xs.length*B<=140737488355328:=by
 obtain⟨A,c,hv,_⟩:=hr;rcases open_slice ht h with ⟨h1,_⟩|⟨a,len,cap,m,n,D,Pl,h1,hb,hlc,hmx,hm,hx,hel⟩
 ·have h1:v=.slice none 0 0:=by simpa using h1
  rw[hv]at h1;injection h1 with _ e2 _;rw[e2];simp
 ·have h1:v=.slice (some a) len cap:=by simpa using h1
  rw[hv]at h1;injection h1 with _ e2 _;rw[e2]
  have:=hw ((len+(m-len))*B) (by rw[hx];simp[DataW.weights,ht,hB])
  have h2:len*B<=(len+(m-len))*B:=Nat.mul_le_mul_right _ (by omega);have h3:=reachBytes_lt;omega
theorem Xg5 {fuel:Nat}{cs:List Value}{x:DataW H×List MemPlace}(h:DataW.trod enc Tryz.prog w 0 sp hd fuel 26 cs=some x){b:Book}(hr:All2 (RelC (Old w) w) [.z .sec b.secs,.z .int b.turns,.z .sv b.svs,.int .i64 b.rule,.int .i64 b.days] cs)(hw:∀ m∈x.1.weights Tryz.prog 26,m<=reachBytes):Room b:=by
 have hu:Tryz.prog.underlying 26=some (.struct #[fld 26 0,fld 26 1,fld 26 2,fld 26 3,fld 26 4]):=by kernel_rfl
 obtain⟨xs,k,_,hx,hl,hlen,hf⟩:=DataW.trod_struct hu h
 match xs,hlen,cs,hr with
 | [y0,y1,y2,y3,y4],_,[v0,v1,v2,v3,v4],⟨q0,q1,q2,_⟩ =>
  have g0:=hf 0 (fld 26 0) rfl;have g1:=hf 1 (fld 26 1) rfl;have g2:=hf 2 (fld 26 2) rfl;have o0:(fld 26 0).offset=0:=by kernel_rfl
  have o1:(fld 26 1).offset=1:=by kernel_rfl
  have o2:(fld 26 2).offset=2:=by kernel_rfl
  have c0:Tryz.prog.cellsOf (fld 26 0).type=1:=by kernel_rfl
  have c1:Tryz.prog.cellsOf (fld 26 1).type=1:=by kernel_rfl
  have c2:Tryz.prog.cellsOf (fld 26 2).type=1:=by kernel_rfl
  simp[o0,o1,o2,c0,c1,c2]at g0 g1 g2;have hd:x.1=.agg [y0.1,y1.1,y2.1,y3.1,y4.1]:=congrArg Prod.fst hx
  have hmem:∀(j:Nat) (t:TypeId) (y:DataW H),[(fld 26 0).type,(fld 26 1).type,(fld 26 2).type,(fld 26 3).type,(fld 26 4).type][j]?=some t->[y0.1,y1.1,y2.1,y3.1,y4.1][j]?=some y->∀ m∈y.weights Tryz.prog t,m<=reachBytes:=fun j t y h1 h2 m hm=>by
   refine hw m ?_;rw[hd];simp only[DataW.weights,hu];exact DataW.weights_mem_each h1 h2 m hm
  exact⟨Yhj (e:=.sec) (et:=118) (by kernel_rfl) (by kernel_rfl) g0 q0 (hmem 0 _ _ rfl rfl),Yhj (e:=.int) (et:=3) (by kernel_rfl) (by kernel_rfl) g1 q1 (hmem 1 _ _ rfl rfl),Yhj (e:=.sv) (et:=91) (by kernel_rfl) (by kernel_rfl) g2 q2 (hmem 2 _ _ rfl rfl)⟩
theorem Xg4 {v:Value}{d:DataW H}{ps:List MemPlace}(h:DataW.Trod enc Tryz.prog w 0 sp hd 28 v d ps){x:FBook}(hr:Rel (Old w) w (Yab x) v)(hw:∀ m∈d.weights Tryz.prog 28,m<=reachBytes):FRoom x:=by
 have hu:Tryz.prog.underlying 28=some (.struct #[fld 28 0,fld 28 1,fld 28 2,fld 28 3,fld 28 4,fld 28 5]):=by kernel_rfl
 obtain⟨cs,rfl,hc⟩:=hr;obtain⟨fuel,h⟩:=h;obtain⟨xs,k,_,hx,hl,hlen,hf⟩:=DataW.trod_struct hu h;have hn:Tryz.prog.cellsOf 28=10:=by kernel_rfl
 rw[hn]at hl;obtain⟨u0,u1,u2,u3,u4,u5,u6,u7,u8,u9,hcs⟩:=five hl;obtain⟨y0,y1,y2,y3,y4,y5,hxs⟩:=six hlen;subst hxs;have hcs':cs.toList=[u0,u1,u2,u3,u4,u5,u6,u7,u8,u9]:=hcs;rw[hcs']at hc;obtain⟨q0,q1,q2,q3,q4,q5,q6,q7,_⟩:=hc;have g0:=hf 0 (fld 28 0) rfl;have g1:=hf 1 (fld 28 1) rfl;have g3:=hf 3 (fld 28 3) rfl;have o0:(fld 28 0).offset=0:=by kernel_rfl
 have o1:(fld 28 1).offset=5:=by kernel_rfl
 have o3:(fld 28 3).offset=7:=by kernel_rfl
 have c0:Tryz.prog.cellsOf (fld 28 0).type=5:=by kernel_rfl
 have c1:Tryz.prog.cellsOf (fld 28 1).type=1:=by kernel_rfl
 have c3:Tryz.prog.cellsOf (fld 28 3).type=1:=by kernel_rfl
 have t0:(fld 28 0).type=26:=by kernel_rfl
 have t1:(fld 28 1).type=23:=by kernel_rfl
 have t3:(fld 28 3).type=23:=by kernel_rfl
 rw[o0,c0,t0,hcs]at g0;rw[o1,c1,t1,hcs]at g1;rw[o3,c3,t3,hcs]at g3;simp at g0 g1 g3;have hd:d=.agg [y0.1,y1.1,y2.1,y3.1,y4.1,y5.1]:=congrArg Prod.fst hx
 have hmem:∀(j:Nat) (t:TypeId) (y:DataW H),[(fld 28 0).type,(fld 28 1).type,(fld 28 2).type,(fld 28 3).type,(fld 28 4).type,(fld 28 5).type][j]?=some t->[y0.1,y1.1,y2.1,y3.1,y4.1,y5.1][j]?=some y->∀ m∈y.weights Tryz.prog t,m<=reachBytes:=fun j t y h1 h2 m hm=>by
  refine hw m ?_;rw[hd];simp only[DataW.weights,hu];exact DataW.weights_mem_each h1 h2 m hm
 exact⟨Xg5 g0 ⟨q0,q1,q2,q3,q4,trivial⟩ (fun m hm=>hmem 0 _ _ rfl rfl m (by rw[t0];exact hm)),Yhj (e:=.int) (et:=3) (by kernel_rfl) (by kernel_rfl) g1 q5 (fun m hm=>hmem 1 _ _ rfl rfl m (by rw[t1];exact hm)),Yhj (e:=.int) (et:=3) (by kernel_rfl) (by kernel_rfl) g3 q7 (fun m hm=>hmem 3 _ _ rfl rfl m (by rw[t3];exact hm))⟩
end
end Go.Di
namespace Go.Di
open Proofs
theorem Zar {b:Book}(h:¬Yak b []≠[]):canF b=false:=by
 have:Yak b []=[]:=Classical.byContradiction h
 unfold canF;rw[this];rfl
theorem Zgr {b:Book}(hV:Val9 b):Contract PR glob 112 [Yah b] (.bool (canF b)):=by
 have h4:=hV.secs
 have hon:∀ i,i<b.secs.length->Yb1 b i≠[]->WpL PR (MP 16) (Ysb [1,0,1,0,0]) (Yec b i) fun e1 L1=>e1=.normal/\L1=Yec b (i+1):=fun i hi hne=>by
  have hlt:decide ((i:Int)<b.secs.length)=true:=decide_eq_true (by omega);have hi64:Yae ((i:Int)+1):=by simp only[Yae];omega
  have c:=Zf1 hV hi
  have hz:(((Yb1 b i).length:Int)==0)=false:=by
   rw[beq_eq_false_iff_ne]
   have:=List.length_pos_iff.2 hne
   omega
  refine WpL.path (G 16) (Zsm b i (Yb1 b i)) ?_ ⟨rfl,rfl⟩
  repeat(first|exact trivial|refine⟨by first|exact hlt|exact c|exact hz|exact hi64|rfl|omega,?_⟩)
 rcases Ycr (fun i=>(Yb1 b i).isEmpty) b.secs.length with ⟨m,hm,hbad,hg⟩|hg
 ·have hbad:Yb1 b m=[]:=List.isEmpty_iff.1 hbad;rw[Zar (fun h=>(Yh0 hV).1 h m hm hbad)];have hlt:decide ((m:Int)<b.secs.length)=true:=decide_eq_true (by omega);have c:=Zf1 hV hm;have hz:(((Yb1 b m).length:Int)==0)=true:=by rw[hbad];rfl
  have hloop:LoopT PR glob 16 (Ysb [1,0,1]) (Yec b 0) .ret (Ylf b m (Yb1 b m)):=by
   refine LoopT.count (tt:=Yac types) (id:=0) (c:=Ysb [1,0,1,0,0]) (by kernel_rfl) m (fun i=>Yec b i) (fun i hi=>hon i (by omega) (fun h=>by
    have:=hg i hi
    rw[h]at this
    cases this)) (WpL.path (G 16) (Zk0 b m (Yb1 b m)) ?_ ⟨.inr ⟨rfl,rfl⟩,rfl⟩)
   repeat(first|exact trivial|refine⟨by first|exact hlt|exact c|exact hz|rfl|omega,?_⟩)
  refine Yaa (G 16) Zsl (Xen b m (Yb1 b m)) ?_
  repeat(first|exact trivial|refine⟨by first|exact hloop|rfl|omega,?_⟩)
 ·have hall:∀ i,i<b.secs.length->Yb1 b i≠[]:=fun i hi h=>by
   have:=hg i hi
   rw[h]at this
   cases this
  rw[Xbx ((Yh0 hV).2 hall)]
  have hloop:LoopT PR glob 16 (Ysb [1,0,1]) (Yec b 0) .normal (Yec b b.secs.length) :=
   LoopT.count (tt:=Yac types) (id:=0) (c:=Ysb [1,0,1,0,0]) (by kernel_rfl) b.secs.length (fun i=>Yec b i) (fun i hi=>hon i hi (hall i hi)) (WpL.path (G 16) (Zkz b _) ⟨decide_eq_false (Int.lt_irrefl _),trivial⟩ ⟨.inl ⟨rfl,rfl⟩,rfl⟩)
  refine Yaa (G 16) Zsl (Zzf b b.secs.length) ?_
  repeat(first|exact trivial|refine⟨by first|exact hloop|rfl|omega,?_⟩)
theorem Ytp {b:Book}(hs:Small b)(is:Bool):Contract PR glob 113 [Yah b,.bool is] (.I (errF b is)):=by
 have c1:=Ynt hs;unfold Yai at c1;unfold errF
 cases hv:Yen b with
 | false =>
  rw[hv]at c1;refine Yaa (G 16) Yl3 (Zk1 b is) ?_
  repeat(first|exact trivial|refine⟨by first|exact c1|rfl|omega,?_⟩)
 | true =>
  rw[hv]at c1;have c2:=Zgr (Yc0.1 hv).v9
  cases is with
  | false =>
   refine Yaa (G 16) Yl3 (Zk2 b false) ?_
   repeat(first|exact trivial|refine⟨by first|exact c1|rfl|omega,?_⟩)
  | true =>
   cases hc:canF b with
   | false =>
    rw[hc]at c2;refine Yaa (G 16) Yl3 (Yyi b true) ?_
    repeat(first|exact trivial|refine⟨by first|exact c1|exact c2|rfl|omega,?_⟩)
   | true =>
    rw[hc]at c2;refine Yaa (G 16) Yl3 (Zsn b true) ?_
    repeat(first|exact trivial|refine⟨by first|exact c1|exact c2|rfl|omega,?_⟩)
theorem Zac {b:Book}{is:Bool}(h:errF b is=0):Valid b/\is=true/\Yak b []≠[]:=by
 unfold errF at h
 cases hv:Yen b with
 | false=>rw[hv]at h;cases h
 | true =>
  rw[hv]at h
  cases is with
  | false=>cases h
  | true =>
   cases hc:canF b with
   | false=>rw[hc]at h;cases h
   | true =>
    refine⟨Yc0.1 hv,rfl,fun e=>?_⟩;unfold canF at hc;rw[e]at hc
    cases hc
theorem Yyc (s u:Span):Contract PR glob 117 [spD s,spD u] (spD (Ycp s u)):=by
 have c:=Yfy (mn s.lo u.lo) (mx s.hi u.hi);refine Yaa (G 16) Zzd (Zsk s u) ?_
 repeat(first|exact trivial|refine⟨by first|exact c|rfl|omega,?_⟩)
theorem Xax {ts:List Tr1}{i:Nat}(h:i<ts.length):ts.getD i tr10∈ts:=Yb0 ts i tr10 h
theorem Zr9 {b:Book}(hT:b.turns.length<=1000){ts:List Tr1}(hn:ts≠[])(hl:ts.length<=100000)(ht:∀ u∈ts,Tame u){d:Int}(hd:0<=d/\d<=1000):Contract PR glob 119 [Yah b,.z .tr1 ts,.I d] (spD (Yh4 (fun u=>th1 b.turns u.t0 u.w0 u.w1 d.toNat) ts)):=by
 have hpos:=List.length_pos_iff.2 hn
 have hc:∀ i,i<ts.length->Contract PR glob 139 [Yah b,tr1D (ts.getD i tr10),.I 0,.I d] (.I (th1 b.turns (ts.getD i tr10).t0 (ts.getD i tr10).w0 (ts.getD i tr10).w1 d.toNat)):=fun i hi=>by
  have:=ht _ (Xax hi)
  have a:=this.t0;have a1:=this.w0;have a2:=this.w1;exact Yx5 hT (by omega) (by omega) (by omega) hd
 unfold Yh4
 have hloop:LoopT PR glob 33 (Ztq [1,1,0,1]) (Yif b ts d (Yg1 (fun u=>th1 b.turns u.t0 u.w0 u.w1 d.toNat) ts tr10 0) 0) .normal (Yif b ts d (Yg1 (fun u=>th1 b.turns u.t0 u.w0 u.w1 d.toNat) ts tr10 ts.length) ts.length):=by
  refine LoopT.count (tt:=Yac types) (id:=0) (c:=Ztq [1,1,0,1,0,0]) (by kernel_rfl) ts.length (fun i=>Yif b ts d (Yg1 (fun u=>th1 b.turns u.t0 u.w0 u.w1 d.toNat) ts tr10 i) i) (fun i hi=>?_) (WpL.path (G 33) (Zcs b ts d _ _) ⟨decide_eq_false (Int.lt_irrefl _),trivial⟩ ⟨.inl ⟨rfl,rfl⟩,rfl⟩);have hlt:decide ((i:Int)<ts.length)=true:=decide_eq_true (by omega);have hix:(0:Int)<=i/\(i:Int)<ts.length:=by omega
  have hi64:Yae ((i:Int)+1):=by simp only[Yae];omega
  have c1:=hc i hi;have c2:=Yl4 (th1 b.turns (ts.getD i tr10).t0 (ts.getD i tr10).w0 (ts.getD i tr10).w1 d.toNat);have c3:=Yyc (Yg1 (fun u=>th1 b.turns u.t0 u.w0 u.w1 d.toNat) ts tr10 i) ⟨th1 b.turns (ts.getD i tr10).t0 (ts.getD i tr10).w0 (ts.getD i tr10).w1 d.toNat,th1 b.turns (ts.getD i tr10).t0 (ts.getD i tr10).w0 (ts.getD i tr10).w1 d.toNat⟩;refine WpL.path (G 33) (Zkk b ts d _ i (th1 b.turns (ts.getD i tr10).t0 (ts.getD i tr10).w0 (ts.getD i tr10).w1 d.toNat) (Yg1 (fun u=>th1 b.turns u.t0 u.w0 u.w1 d.toNat) ts tr10 (i+1))) ?_ ⟨rfl,rfl⟩
  repeat(first|exact trivial|refine⟨by first|exact hlt|exact hix|exact c1|exact c2|exact c3|exact hi64|rfl|omega,?_⟩)
 have c0:=hc 0 hpos;have c2:=Yl4 (th1 b.turns (ts.getD 0 tr10).t0 (ts.getD 0 tr10).w0 (ts.getD 0 tr10).w1 d.toNat);have h0:(0:Int)<=0/\(0:Int)<ts.length:=by omega
 refine Yaa (G 33) Zy6 (Zsa b ts d (th1 b.turns (ts.getD 0 tr10).t0 (ts.getD 0 tr10).w0 (ts.getD 0 tr10).w1 d.toNat) (Yg1 (fun u=>th1 b.turns u.t0 u.w0 u.w1 d.toNat) ts tr10 ts.length) ts.length) ?_
 repeat(first|exact trivial|refine⟨by first|exact h0|exact c0|exact c2|exact hloop|rfl|omega,?_⟩)
theorem Yxa {b:Book}(hV:Val9 b){k:Nat}(hk:k<b.secs.length){u:Tr1}(hu:u∈Yb1 b k):Tame u :=
 have h:=Ylh.1 hu
 Xc6 hV hk (Ykz hk) h.t0 h.t1 h.w0 h.w1
theorem Yp6 {b:Book}(hV:Val9 b){k:Nat}(hk:k<b.secs.length):(Yb1 b k).length<=144:=by
 have hs:=(secw hV hk).t
 have:=Ytu (lo:=(b.secs.getD k sec0).t.lo) (fun n=>Xcp hV hk n) (sp1 (b.secs.getD k sec0).t)
 have h3:sp1 (b.secs.getD k sec0).t<=4:=by unfold sp1;omega
 unfold Yb1 g0;omega
theorem Zcu {b:Book}(hs:Small b):Contract PR glob 83 [Yah b] (.tup [.bool (Yen b&&canF b),.I (Yai b)]):=by
 have c1:=Ynt hs;unfold Yai at c1 ⊢
 cases hv:Yen b with
 | false =>
  rw[hv]at c1;refine Yaa (G 12) Ytn (Zcv b) ?_
  repeat(first|exact trivial|refine⟨by first|exact c1|rfl|omega,?_⟩)
 | true =>
  rw[hv]at c1;have c2:=Zgr (Yc0.1 hv).v9;rw[Bool.true_and];refine Yaa (G 12) Ytn (Zks b (canF b)) ?_
  repeat(first|exact trivial|refine⟨by first|exact c1|exact c2|rfl|omega,?_⟩)
theorem Xcl {e:Int}(h:e≠0):(e != 0)=true:=by simp[h]
theorem Zcq {b:Book}(hs:Small b)(n d:Int):Contract PR glob 87 [Yah b,.I n,.I d] (.tup [spD (spanOr (askE b n d) (Yby b (Yak b []) b.turns n d)),.I (askE b n d)]):=by
 have c1:=Yja b n hs.secs;have c2:=Zgq b d;have c3:=Ytp hs (Yaf b n&&Ya3 b d);unfold askE
 by_cases he:errF b (Yaf b n&&Ya3 b d)=0
 ·obtain⟨hV0,his,hne⟩:=Zac he;have hV:=hV0.v9;rw[he]at c3 ⊢;rw[Bool.and_eq_true]at his;obtain⟨hi,hdd⟩:=his;rw[hi,Bool.true_and]at c3;have hi':=hi;have hd':=hdd;simp only[Yaf,Ya3,Ya2]at hi' hd';obtain⟨k,hk⟩:∃ k:Nat,(k:Int)=n:=⟨n.toNat,by omega⟩;subst hk;have hkl:k<b.secs.length:=by omega
  have hday:=hV.days;have c4:=Zf1 hV hkl;have c5:=Zr9 (b:=b) (by have:=hV.turns;omega) ((Yh0 hV).1 hne k hkl) (by have:=Yp6 hV hkl;omega) (fun u hu=>Yxa hV hkl hu) (d:=d) (by omega);obtain⟨m,hm⟩:∃ m:Nat,(m:Int)=d:=⟨d.toNat,by omega⟩;rw[show d.toNat=m by omega,Zpt hV hne hkl m,hm]at c5;rw[show spanOr 0 (Yby b (Yak b []) b.turns k d)=Yby b (Yak b []) b.turns k d from if_pos rfl];refine Yaa (G 29) Ynp (Zki b k d (Yb1 b k) (Yby b (Yak b []) b.turns k d)) ?_
  repeat(first|exact trivial|refine⟨by first|exact c1|exact c2|exact c3|exact c4|exact c5|exact hi|rfl|omega,?_⟩)
 ·have hb:=Xcl he;rw[show spanOr (errF b (Yaf b n&&Ya3 b d)) (Yby b (Yak b []) b.turns n d)=⟨0,0⟩ from if_neg he]
  cases hi:Yaf b n with
  | false =>
   rw[hi]at c3 hb;rw[Bool.false_and]at c3 hb ⊢;refine Yaa (G 29) Ynp (Zkj b n d (errF b false)) ?_
   repeat(first|exact trivial|refine⟨by first|exact c1|exact c2|exact c3|exact hi|exact hb|rfl|omega,?_⟩)
  | true =>
   rw[hi]at c3 hb;rw[Bool.true_and]at c3 hb ⊢;refine Yaa (G 29) Ynp (Zcp b n d (errF b (Ya3 b d))) ?_
   repeat(first|exact trivial|refine⟨by first|exact c1|exact c2|exact c3|exact hi|exact hb|rfl|omega,?_⟩)
theorem Zke {b:Book}(hs:Small b)(n:Int):Contract PR glob 86 [Yah b,.I n] (.tup [spD (spanOr (errF b (Yaf b n)) (Ydf (Ybp n) (Yak b []))),.I (errF b (Yaf b n))]):=by
 have c1:=Yja b n hs.secs;have c3:=Ytp hs (Yaf b n)
 by_cases he:errF b (Yaf b n)=0
 ·obtain⟨hV0,hi,hne⟩:=Zac he;have hV:=hV0.v9;rw[he]at c3 ⊢;have hi':=hi;simp only[Yaf,Ya2]at hi';obtain⟨k,hk⟩:∃ k:Nat,(k:Int)=n:=⟨n.toNat,by omega⟩;subst hk;have hkl:k<b.secs.length:=by omega
  have c4:=Zf1 hV hkl;have hnn:=(Yh0 hV).1 hne k hkl;have hpos:=List.length_pos_iff.2 hnn;have hlen:=Yp6 hV hkl;have hw:=Zwk hV hne hkl;generalize Yb1 b k=ts at c4 hnn hpos hlen hw;rw[show spanOr 0 (Ydf (Ybp k) (Yak b []))=Ydf (Ybp k) (Yak b []) from if_pos rfl,<-hw];unfold Yh4
  have hloop:LoopT PR glob 44 (k_86 [1,1,1,1,0,1]) (Yge b k ts (Yg1 (fun u=>u.w0) ts tr10 0) 0) .normal (Yge b k ts (Yg1 (fun u=>u.w0) ts tr10 ts.length) ts.length):=by
   refine LoopT.count (tt:=Yac types) (id:=0) (c:=k_86 [1,1,1,1,0,1,0,0]) (by kernel_rfl) ts.length (fun i=>Yge b k ts (Yg1 (fun u=>u.w0) ts tr10 i) i) (fun i hi=>?_) (WpL.path (G 44) (Yx3 b k ts _ _) ⟨decide_eq_false (Int.lt_irrefl _),trivial⟩ ⟨.inl ⟨rfl,rfl⟩,rfl⟩);have hlt:decide ((i:Int)<ts.length)=true:=decide_eq_true (by omega);have hix:(0:Int)<=i/\(i:Int)<ts.length:=by omega
   have hi64:Yae ((i:Int)+1):=by simp only[Yae];omega
   have c5:=Yl4 (ts.getD i tr10).w0;have c6:=Yyc (Yg1 (fun u=>u.w0) ts tr10 i) ⟨(ts.getD i tr10).w0,(ts.getD i tr10).w0⟩;refine WpL.path (G 44) (Zci b k ts _ i (ts.getD i tr10).w0 (Yg1 (fun u=>u.w0) ts tr10 (i+1))) ?_ ⟨rfl,rfl⟩
   repeat(first|exact trivial|refine⟨by first|exact hlt|exact hix|exact c5|exact c6|exact hi64|rfl|omega,?_⟩)
  have c5:=Yl4 (ts.getD 0 tr10).w0;have h0:(0:Int)<=0/\(0:Int)<ts.length:=by omega
  rw[hi]at c3;rw[hi]at c1;have hi2:Yaf b k=true:=hi;refine Yaa (G 44) Yx2 (Zr1 b k ts (ts.getD 0 tr10).w0 (Yg1 (fun u=>u.w0) ts tr10 ts.length) ts.length) ?_;rw[hi2]
  repeat(first|exact trivial|refine⟨by first|exact c1|exact c3|exact c4|exact c5|exact h0|exact hloop|rfl|omega,?_⟩)
 ·have hb:=Xcl he;rw[show spanOr (errF b (Yaf b n)) (Ydf (Ybp n) (Yak b []))=⟨0,0⟩ from if_neg he];refine Yaa (G 44) Yx2 (Zkd b n (errF b (Yaf b n))) ?_
  repeat(first|exact trivial|refine⟨by first|exact c1|exact c3|exact hb|rfl|omega,?_⟩)
end Go.Di
namespace Go.Di
open Proofs
def Yw9:List (Nat×TI):=(77,⟨.struct [(0,65),(1,23)],2,48,[.nil,.nil],none,false⟩)::Ybl
theorem Zo5:Ybu PR (Yac Yw9):=Zxj (by kernel_rfl)
noncomputable abbrev MG (n:Nat):Cfg:=mk PRG (Yac Yw9) Yca n
theorem GG (n:Nat):Good PR (mk PR (Yac Yw9) Yca n):=good Yan Zo5
theorem LG.each {n id:Nat}{b c:Code}(hb:b=.block id (.loop c))(N:Nat)(S:Nat->KV){e:Ex}{L':KV}
  (on:∀ i,i<N->∃ dec orc lorc ks ps L1,runK (MG n) dec orc lorc c (S i) ks=some (ps,.normal,L1)/\allP ps/\L1=S (i+1))
  (fin:∃ dec orc lorc ks ps e1 L1,runK (MG n) dec orc lorc c (S N) ks=some (ps,e1,L1)/\allP ps/\(e1=.exit id/\e=.normal\/e1=.ret/\e=.ret)/\L1=L'):LF n b (S 0) e L':=by
 refine LoopT.count (tt:=Yac Yw9) hb N S (fun i hi=>?_) ?_
 ·obtain⟨dec,orc,lorc,ks,ps,L1,h1,h2,h3⟩:=on i hi;exact WpL.path (GG n) h1 h2 ⟨rfl,h3⟩
 ·obtain⟨dec,orc,lorc,ks,ps,e1,L1,h1,h2,h3,h4⟩:=fin;exact WpL.path (GG n) h1 h2 ⟨h3,h4⟩
end Go.Di
namespace Go.Di
open Proofs
noncomputable abbrev k_53 (p:List Nat):Code:=Code.at p (body Proofs.Tryz.f53)
noncomputable abbrev k_85 (p:List Nat):Code:=Code.at p (body Proofs.Tryz.f85)
noncomputable abbrev k_52 (p:List Nat):Code:=Code.at p (body Proofs.Tryz.f52)
theorem Xdw:FnOk PRG (MG 59) 53 (body Tryz.f53) [.cell 2 77]:=by refine⟨Tryz.f53,?_,?_,?_,?_,?_⟩<;>kernel_rfl
theorem Xg7:FnOk PRG (MG 33) 85 (body Tryz.f85) [.tmp 6]:=by refine⟨Tryz.f85,?_,?_,?_,?_,?_⟩<;>kernel_rfl
theorem Xci:FnOk PRG (MG 42) 52 (body Tryz.f52) [.tmp 10]:=by refine⟨Tryz.f52,?_,?_,?_,?_,?_⟩<;>kernel_rfl
theorem Zch:FnOk PRG (MG 23) 49 (body Tryz.f49) [.tmp 4]:=by refine⟨Tryz.f49,?_,?_,?_,?_,?_⟩<;>kernel_rfl
theorem Zrz:FnOk PRG (MG 23) 49 (body Tryz.f49) [.tmp 4]:=by refine⟨Tryz.f49,?_,?_,?_,?_,?_⟩<;>kernel_rfl
def Ypc (x:FBook)(i j:Nat)(y:Int)(r:LI):KV :=
 [(.tmp 1,.d (D.ptr 1 0)),
  (.tmp 2,.d (D.ptr 2 0)),
  (.tmp 3,.d (D.ptr 3 0)),
  (.tmp 4,.d (.I i)),
  (.tmp 7,.d (.sl true .int [])),
  (.tmp 8,.d (.I j)),
  (.box 1,.bz (cellsOf (Yab x))),
  (.box 2,.bz [D.nil,D.nil]),
  (.box 3,.bx (some ⟨false,[.nil,(.own 30 (y::r).length)]⟩)),
  (.obj 30,.ob (some ⟨.int,y::r⟩)),
  (.obj 51,.ob none),
  (.obj 56,.ob none)]
def Zx6:List Key:=[.tmp 1,.tmp 2,.tmp 3,.tmp 4,.tmp 7,.tmp 8,.box 1,.box 2,.box 3,.obj 30,.obj 51,.obj 56]
def Ygt (x:FBook)(i j:Nat)(y:Int)(r:LI)(z:Int)(l:LI):KV :=
 [(.tmp 1,.d (D.ptr 1 0)),
  (.tmp 2,.d (D.ptr 2 0)),
  (.tmp 3,.d (D.ptr 3 0)),
  (.tmp 4,.d (.I i)),
  (.tmp 7,.d (.own 51 (z::l).length)),
  (.tmp 8,.d (.I j)),
  (.box 1,.bz (cellsOf (Yab x))),
  (.box 2,.bz [D.nil,D.nil]),
  (.box 3,.bx (some ⟨false,[.nil,(.own 30 (y::r).length)]⟩)),
  (.obj 30,.ob (some ⟨.int,y::r⟩)),
  (.obj 51,.ob (some ⟨.int,z::l⟩)),
  (.obj 56,.ob none)]
def Ypb:List Key:=[.tmp 1,.tmp 2,.tmp 3,.tmp 4,.tmp 7,.tmp 8,.box 1,.box 2,.box 3,.obj 30,.obj 51,.obj 56]
def Ypa (x:FBook)(i j:Nat)(y:Int)(r:LI)(t:LI)(q:LL):KV :=
 [(.tmp 1,.d (D.ptr 1 0)),
  (.tmp 2,.d (D.ptr 2 0)),
  (.tmp 3,.d (D.ptr 3 0)),
  (.tmp 4,.d (.I i)),
  (.tmp 7,.d (.sl true .int [])),
  (.tmp 8,.d (.I j)),
  (.box 1,.bz (cellsOf (Yab x))),
  (.box 2,.bz [D.nil,D.nil]),
  (.box 3,.bx (some ⟨false,[(.own 56 (t::q).length),(.own 30 (y::r).length)]⟩)),
  (.obj 30,.ob (some ⟨.int,y::r⟩)),
  (.obj 51,.ob none),
  (.obj 56,.ob (some ⟨.list .int,t::q⟩))]
def Zx4:List Key:=[.tmp 1,.tmp 2,.tmp 3,.tmp 4,.tmp 7,.tmp 8,.box 1,.box 2,.box 3,.obj 30,.obj 51,.obj 56]
def Ygs (x:FBook)(i j:Nat)(y:Int)(r:LI)(t:LI)(q:LL)(z:Int)(l:LI):KV :=
 [(.tmp 1,.d (D.ptr 1 0)),
  (.tmp 2,.d (D.ptr 2 0)),
  (.tmp 3,.d (D.ptr 3 0)),
  (.tmp 4,.d (.I i)),
  (.tmp 7,.d (.own 51 (z::l).length)),
  (.tmp 8,.d (.I j)),
  (.box 1,.bz (cellsOf (Yab x))),
  (.box 2,.bz [D.nil,D.nil]),
  (.box 3,.bx (some ⟨false,[(.own 56 (t::q).length),(.own 30 (y::r).length)]⟩)),
  (.obj 30,.ob (some ⟨.int,y::r⟩)),
  (.obj 51,.ob (some ⟨.int,z::l⟩)),
  (.obj 56,.ob (some ⟨.list .int,t::q⟩))]
def Yo9:List Key:=[.tmp 1,.tmp 2,.tmp 3,.tmp 4,.tmp 7,.tmp 8,.box 1,.box 2,.box 3,.obj 30,.obj 51,.obj 56]
def Yu1 (x:FBook)(i:Nat):KV :=
 [(.tmp 1,.d (D.ptr 1 0)),
  (.tmp 2,.d (D.ptr 2 0)),
  (.tmp 3,.d (D.ptr 3 0)),
  (.tmp 4,.d (.I i)),
  (.box 1,.bz (cellsOf (Yab x))),
  (.box 2,.bz [D.nil,D.nil]),
  (.box 3,.bx (some ⟨false,[.nil,.nil]⟩)),
  (.obj 30,.ob none),
  (.obj 56,.ob none)]
def Yia (x:FBook)(i:Nat)(y:Int)(r:LI)(t:LI)(q:LL):KV :=
 [(.tmp 1,.d (D.ptr 1 0)),
  (.tmp 2,.d (D.ptr 2 0)),
  (.tmp 3,.d (D.ptr 3 0)),
  (.tmp 4,.d (.I i)),
  (.box 1,.bz (cellsOf (Yab x))),
  (.box 2,.bz [D.nil,D.nil]),
  (.box 3,.bx (some ⟨false,[(.own 56 (t::q).length),(.own 30 (y::r).length)]⟩)),
  (.obj 30,.ob (some ⟨.int,y::r⟩)),
  (.obj 56,.ob (some ⟨.list .int,t::q⟩))]
def Yu0:List Key:=[.tmp 1,.tmp 2,.tmp 3,.tmp 4,.box 1,.box 2,.box 3,.obj 30,.obj 56]
def Ykw (x:FBook)(s d:Int)(a:Int)(i:Nat):KV :=
 [(.tmp 2,.d (D.I d)),
  (.tmp 3,.d (D.ptr 3 0)),
  (.tmp 7,.d (.I a)),
  (.tmp 8,.d (.I i)),
  (.box 3,.bz (cellsOf (Yab x)))]
def Zgg:List Key:=[.tmp 2,.tmp 3,.tmp 7,.tmp 8,.box 3]
def Ykv (x:FBook)(th:LL)(wr:LI)(s c d:Int)(n e:Int):KV :=
 [(.tmp 2,.d (D.I s)),
  (.tmp 4,.d (D.I d)),
  (.tmp 5,.d (D.ptr 5 0)),
  (.tmp 6,.d (D.ptr 6 0)),
  (.tmp 11,.d (.I n)),
  (.tmp 12,.d (.I e)),
  (.box 5,.bz (cellsOf (Yab x))),
  (.box 6,.bz [D.z (E.list E.int) th,D.z E.int wr])]
def Zq6:List Key:=[.tmp 2,.tmp 4,.tmp 5,.tmp 6,.tmp 11,.tmp 12,.box 5,.box 6]
theorem Zjw (x:FBook)(i j:Nat)(y:Int)(r:LI)(s:Span)(e:Int) :runK (MG 59) [(36,true)] [(44,.tup [spD s,.I e])] [] (k_53 [1,1,0,1,0,0,1,0,0,1,1,1,0,1,0,0]) (Ypc x i j y r) Ypb =some ([decide ((j:Int)<=x.chain.days)=true,CF 87 [Yah x.chain,D.I (i:Int),D.I (j:Int)] (D.tup [D.agg [D.I s.lo,D.I s.hi],D.I e]),0+0+1<=2,1*(8+1)<=140737488355328,Yae ((j:Int)+(1:Int))],Ex.normal,Ygt x i (j+1) y r s.lo []):=by kernel_rfl
theorem Zbw (x:FBook)(i j:Nat)(y:Int)(r:LI) :runK (MG 59) [(36,false)] [] [] (k_53 [1,1,0,1,0,0,1,0,0,1,1,1,0,1,0,0]) (Ypc x i j y r) Zx6 =some ([decide ((j:Int)<=x.chain.days)=false],Ex.exit 2,Ypc x i j y r):=by kernel_rfl
theorem Zjv (x:FBook)(i j:Nat)(y:Int)(r:LI)(z:Int)(l:LI)(s:Span)(e:Int) :runK (MG 59) [(36,true)] [(44,.tup [spD s,.I e])] [] (k_53 [1,1,0,1,0,0,1,0,0,1,1,1,0,1,0,0]) (Ygt x i j y r z l) Ypb =some ([decide ((j:Int)<=x.chain.days)=true,CF 87 [Yah x.chain,D.I (i:Int),D.I (j:Int)] (D.tup [D.agg [D.I s.lo,D.I s.hi],D.I e]),0+0+1<=2,(z::l).length=List.length ((z::l)),List.length ((z::l)++[s.lo])*(8+1)<=140737488355328,Yae ((j:Int)+(1:Int))],Ex.normal,Ygt x i (j+1) y r z (l++[s.lo])):=by kernel_rfl
theorem Zbv (x:FBook)(i j:Nat)(y:Int)(r:LI)(z:Int)(l:LI) :runK (MG 59) [(36,false)] [] [] (k_53 [1,1,0,1,0,0,1,0,0,1,1,1,0,1,0,0]) (Ygt x i j y r z l) Ypb =some ([decide ((j:Int)<=x.chain.days)=false],Ex.exit 2,Ygt x i j y r z l):=by kernel_rfl
theorem Zjt (x:FBook)(i j:Nat)(y:Int)(r:LI)(t:LI)(q:LL)(s:Span)(e:Int) :runK (MG 59) [(36,true)] [(44,.tup [spD s,.I e])] [] (k_53 [1,1,0,1,0,0,1,0,0,1,1,1,0,1,0,0]) (Ypa x i j y r t q) Yo9 =some ([decide ((j:Int)<=x.chain.days)=true,CF 87 [Yah x.chain,D.I (i:Int),D.I (j:Int)] (D.tup [D.agg [D.I s.lo,D.I s.hi],D.I e]),0+0+1<=2,1*(8+1)<=140737488355328,Yae ((j:Int)+(1:Int))],Ex.normal,Ygs x i (j+1) y r t q s.lo []):=by kernel_rfl
theorem Zbu (x:FBook)(i j:Nat)(y:Int)(r:LI)(t:LI)(q:LL) :runK (MG 59) [(36,false)] [] [] (k_53 [1,1,0,1,0,0,1,0,0,1,1,1,0,1,0,0]) (Ypa x i j y r t q) Zx4 =some ([decide ((j:Int)<=x.chain.days)=false],Ex.exit 2,Ypa x i j y r t q):=by kernel_rfl
theorem Zjs (x:FBook)(i j:Nat)(y:Int)(r:LI)(t:LI)(q:LL)(z:Int)(l:LI)(s:Span)(e:Int) :runK (MG 59) [(36,true)] [(44,.tup [spD s,.I e])] [] (k_53 [1,1,0,1,0,0,1,0,0,1,1,1,0,1,0,0]) (Ygs x i j y r t q z l) Yo9 =some ([decide ((j:Int)<=x.chain.days)=true,CF 87 [Yah x.chain,D.I (i:Int),D.I (j:Int)] (D.tup [D.agg [D.I s.lo,D.I s.hi],D.I e]),0+0+1<=2,(z::l).length=List.length ((z::l)),List.length ((z::l)++[s.lo])*(8+1)<=140737488355328,Yae ((j:Int)+(1:Int))],Ex.normal,Ygs x i (j+1) y r t q z (l++[s.lo])):=by kernel_rfl
theorem Zbt (x:FBook)(i j:Nat)(y:Int)(r:LI)(t:LI)(q:LL)(z:Int)(l:LI) :runK (MG 59) [(36,false)] [] [] (k_53 [1,1,0,1,0,0,1,0,0,1,1,1,0,1,0,0]) (Ygs x i j y r t q z l) Yo9 =some ([decide ((j:Int)<=x.chain.days)=false],Ex.exit 2,Ygs x i j y r t q z l):=by kernel_rfl
theorem Zrb (x:FBook)(i:Nat)(s:Span)(e:Int)(j:Nat)(z:Int)(l:LI) :runK (MG 59) [(15,true)] [(22,.tup [spD s,.I e])] [(2,(Ypb,(.normal,Ygt x i j s.hi [] z l)))] (k_53 [1,1,0,1,0,0]) (Yu1 x i) Yu0 =some ([decide ((i:Int)<(x.feet.length:Int))=true,CF 86 [Yah x.chain,D.I (i:Int)] (D.tup [D.agg [D.I s.lo,D.I s.hi],D.I e]),0+1+1<=2,1*(8+1)<=140737488355328,1=1,LF 59 (k_53 [1,1,0,1,0,0,1,0,0,1,1,1,0,1]) [(.tmp 1,.d (D.ptr 1 0)),(.tmp 2,.d (D.ptr 2 0)),(.tmp 3,.d (D.ptr 3 0)),(.tmp 4,.d (D.I (i:Int))),(.tmp 7,.d (D.sl true E.int [])),(.tmp 8,.d (D.I 0)),(.box 1,.bz (cellsOf (Yab x))),(.box 2,.bz [D.nil,D.nil]),(.box 3,.bz [D.nil,D.own 30 1]),(.obj 30,.ob (some (Ob.mk E.int ([]++[s.hi])))),(.obj 51,.ob Option.none),(.obj 56,.ob Option.none)] Ex.normal (Ygt x i j s.hi [] z l),(z::l).length=List.length ((z::l)),1*(24+1)<=140737488355328,1=1,Yae ((i:Int)+(1:Int))],Ex.normal,Yia x (i+1) s.hi [] (z::l) []):=by kernel_rfl
theorem Zra (x:FBook)(i:Nat)(y:Int)(r:LI)(t:LI)(q:LL)(s:Span)(e:Int)(j:Nat)(z:Int)(l:LI) :runK (MG 59) [(15,true)] [(22,.tup [spD s,.I e])] [(2,(Yo9,(.normal,Ygs x i j y (r++[s.hi]) t q z l)))] (k_53 [1,1,0,1,0,0]) (Yia x i y r t q) Yu0 =some ([decide ((i:Int)<(x.feet.length:Int))=true,CF 86 [Yah x.chain,D.I (i:Int)] (D.tup [D.agg [D.I s.lo,D.I s.hi],D.I e]),0+1+1<=2,(y::r).length=List.length ((y::r)),List.length ((y::r)++[s.hi])*(8+1)<=140737488355328,List.length ((y::r)++[s.hi])=List.length (((y::r)++[s.hi])),LF 59 (k_53 [1,1,0,1,0,0,1,0,0,1,1,1,0,1]) [(.tmp 1,.d (D.ptr 1 0)),(.tmp 2,.d (D.ptr 2 0)),(.tmp 3,.d (D.ptr 3 0)),(.tmp 4,.d (D.I (i:Int))),(.tmp 7,.d (D.sl true E.int [])),(.tmp 8,.d (D.I 0)),(.box 1,.bz (cellsOf (Yab x))),(.box 2,.bz [D.nil,D.nil]),(.box 3,.bz [D.own 56 ((t::q).length),D.own 30 (List.length ((y::r)++[s.hi]))]),(.obj 30,.ob (some (Ob.mk E.int ((y::r)++[s.hi])))),(.obj 51,.ob Option.none),(.obj 56,.ob (some (Ob.mk (E.list E.int) (t::q))))] Ex.normal (Ygs x i j y (r++[s.hi]) t q z l),(z::l).length=List.length ((z::l)),(t::q).length=List.length ((t::q)),List.length ((t::q)++[(z::l)])*(24+1)<=140737488355328,List.length ((t::q)++[(z::l)])=List.length (((t::q)++[(z::l)])),Yae ((i:Int)+(1:Int))],Ex.normal,Yia x (i+1) y (r++[s.hi]) t (q++[z::l])):=by kernel_rfl
theorem Zju (x:FBook)(i:Nat)(y:Int)(r:LI)(t:LI)(q:LL) :runK (MG 59) [(15,false)] [] [] (k_53 [1,1,0,1,0,0]) (Yia x i y r t q) Yu0 =some ([decide ((i:Int)<(x.feet.length:Int))=false],Ex.exit 0,Yia x i y r t q):=by kernel_rfl
theorem Zq8 (x:FBook)(s d:Int)(a:Int)(i:Nat) :runK (MG 33) [(15,true),(25,true)] [] [] (k_85 [1,1,0,1,0,0]) (Ykw x s d a i) Zgg =some ([decide ((i:Int)<(x.chain.turns.length:Int))=true,(0:Int)<=(i:Int)/\(i:Int)<(x.chain.turns.length:Int),0+1<=1,decide (List.getD x.chain.turns (i) (0:Int)<=d)=true,Yae ((x.feet.length:Int)-(1:Int)),Yae ((x.feet.length:Int)-(1:Int)-a),Yae ((i:Int)+(1:Int))],Ex.normal,Ykw x s d ((x.feet.length:Int)-1-a) (i+1)):=by kernel_rfl
theorem Zx3 (x:FBook)(s d:Int)(a:Int)(i:Nat) :runK (MG 33) [(15,true),(25,false)] [] [] (k_85 [1,1,0,1,0,0]) (Ykw x s d a i) Zgg =some ([decide ((i:Int)<(x.chain.turns.length:Int))=true,(0:Int)<=(i:Int)/\(i:Int)<(x.chain.turns.length:Int),0+1<=1,decide (List.getD x.chain.turns (i) (0:Int)<=d)=false,Yae ((i:Int)+(1:Int))],Ex.normal,Ykw x s d a (i+1)):=by kernel_rfl
theorem Zq9 (x:FBook)(s d:Int)(a:Int)(i:Nat) :runK (MG 33) [(15,false)] [] [] (k_85 [1,1,0,1,0,0]) (Ykw x s d a i) Zgg =some ([decide ((i:Int)<(x.chain.turns.length:Int))=false],Ex.exit 0,Ykw x s d a i):=by kernel_rfl
theorem Zx2 (x:FBook)(th:LL)(wr:LI)(s c d:Int)(n e:Int)(p:Int) :runK (MG 42) [(28,true)] [(37,.I p)] [] (k_52 [1,1,1,0,1,0,0]) (Ykv x th wr s c d n e) Zq6 =some ([decide (e<d)=true,CF 85 [Yab x,D.I s,D.I e] (D.I p),(0:Int)<=p/\p<(wr.length:Int),0+1<=1,Yae (n-List.getD wr (Int.toNat p) (0:Int)),Yae (e+(1:Int))],Ex.normal,Ykv x th wr s c d (n-wr.getD p.toNat 0) (e+1)):=by kernel_rfl
theorem Zq7 (x:FBook)(th:LL)(wr:LI)(s c d:Int)(n e:Int) :runK (MG 42) [(28,false)] [] [] (k_52 [1,1,1,0,1,0,0]) (Ykv x th wr s c d n e) Zq6 =some ([decide (e<d)=false],Ex.exit 0,Ykv x th wr s c d n e):=by kernel_rfl
theorem Zx5 (x:FBook)(i:Nat)(y:Int)(r:LI)(t:LI)(q:LL) :Yaj (MG 59) [] [] [(0,(Yu0,(.normal,Yia x i y r t q)))] (body Tryz.f53) [.cell 2 77] [Yab x] =some ([LF 59 (k_53 [1,1,0,1]) (Yu1 x 0) Ex.normal (Yia x i y r t q),(t::q).length=List.length ((t::q)),(y::r).length=List.length ((y::r)),(t::q).length=List.length ((t::q)),(y::r).length=List.length ((y::r))],D.agg [D.z (E.list E.int) ((t::q)),D.z E.int ((y::r))]):=by kernel_rfl
theorem Xdt (x:FBook)(s d:Int)(a:Int)(i:Nat) :Yaj (MG 33) [] [] [(0,(Zgg,(.normal,Ykw x s d a i)))] (body Tryz.f85) [.tmp 6] [Yab x,.I s,.I d] =some ([LF 33 (k_85 [1,1,0,1]) (Ykw x s d s 0) Ex.normal (Ykw x s d a i)],D.I a):=by kernel_rfl
theorem Xdq (x:FBook)(th:LL)(wr:LI)(s c d:Int) :Yaj (MG 42) [(14,true)] [] [] (body Tryz.f52) [.tmp 10] [Yab x,.agg [.z (.list .int) th,.z .int wr],.I s,.I c,.I d] =let Z0:=List.getD th (Int.toNat s) (E.z (E.list E.int));some ([decide (c<(0:Int))=true,(0:Int)<=s/\s<(th.length:Int),(0:Int)<=d/\d<(Nat.cast:Nat->Int) (List.length Z0),0+1<=1],D.I (List.getD Z0 (Int.toNat d) (0:Int))):=by kernel_rfl
theorem Xdr (x:FBook)(th:LL)(wr:LI)(s c d:Int)(n e:Int) :Yaj (MG 42) [(14,false)] [] [(0,(Zq6,(.normal,Ykv x th wr s c d n e)))] (body Tryz.f52) [.tmp 10] [Yab x,.agg [.z (.list .int) th,.z .int wr],.I s,.I c,.I d] =some ([decide (c<(0:Int))=false,LF 42 (k_52 [1,1,1,0,1]) (Ykv x th wr s c d x.new c) Ex.normal (Ykv x th wr s c d n e)],D.I n):=by kernel_rfl
theorem Zy1 (x:FBook)(e:Int) :Yaj (MG 23) [(11,true)] [(9,.I e)] [] (body Tryz.f49) [.tmp 4] [Yab x,.bool true] =some ([CF 19 [Yab x] (D.I e),(e != (0:Int))=true],D.I e):=by kernel_rfl
theorem Xed (x:FBook)(g:Int) :Yaj (MG 23) [] [(9,.I 0),(18,.tup [.bool false,.I g])] [] (body Tryz.f49) [.tmp 4] [Yab x,.bool true] =some ([CF 19 [Yab x] (D.I 0),CF 83 [Yah x.chain] (D.tup [D.bool false,D.I g])],D.I 72):=by kernel_rfl
theorem Zy0 (x:FBook)(g:Int) :Yaj (MG 23) [] [(9,.I 0),(18,.tup [.bool true,.I g])] [] (body Tryz.f49) [.tmp 4] [Yab x,.bool true] =some ([CF 19 [Yab x] (D.I 0),CF 83 [Yah x.chain] (D.tup [D.bool true,D.I g])],D.I 0):=by kernel_rfl
theorem Zy2 (x:FBook)(e:Int) :Yaj (MG 23) [(11,true)] [(9,.I e)] [] (body Tryz.f49) [.tmp 4] [Yab x,.bool false] =some ([CF 19 [Yab x] (D.I e),(e != (0:Int))=true],D.I e):=by kernel_rfl
theorem Zy3 (x:FBook) :Yaj (MG 23) [] [(9,.I 0)] [] (body Tryz.f49) [.tmp 4] [Yab x,.bool false] =some ([CF 19 [Yab x] (D.I 0)],D.I 71):=by kernel_rfl
end Go.Di
