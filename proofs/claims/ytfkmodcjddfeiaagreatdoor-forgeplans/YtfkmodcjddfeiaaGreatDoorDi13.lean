/- Part 13: contracts are proved. No condition. -/
import Derived.Test.YtfkmodcjddfeiaaGreatDoorDi12
set_option linter.unusedVariables false
set_option linter.unusedSimpArgs false
namespace Go.Di
open Proofs
open Go.RowKit
theorem Contract.toArgs {P:Program}{glob:Nat->Option (List D)}{f:FuncId}{args args':List D}{r:D}(h:Contract P glob f args r)(hr:∀ R w vs,All2 (Rel R w) args' vs->All2 (Rel R w) args vs):Contract P glob f args' r :=
 ⟨h.form,fun w R vs hs hg ha=>h.calls w R vs hs hg (hr R w vs ha)⟩
theorem Contract.toRes {P:Program}{glob:Nat->Option (List D)}{f:FuncId}{args:List D}{r r':D}(h:Contract P glob f args r)(hr:∀ R w v,Rel R w r v->Rel R w r' v):Contract P glob f args r' :=
 ⟨h.form,fun w R vs hs hg ha=>(h.calls w R vs hs hg ha).mono fun e w' ⟨v,he,hb,R',h1,h2,h3⟩=>⟨v,he,hb,R',h1,h2,hr _ _ _ h3⟩⟩
theorem Zs3 {R:Foot}{w:World}{b:Book}{m:D}{v:Value}(h:Rel R w (.agg (bkC b m .nil)) v):Rel R w (.agg (bkC b m (.z .trc []))) v:=by
 obtain⟨vs,hv,h⟩:=h;have hlen:(bkC b m (.z .trc [])).length=vs.toList.length:=by have:=All2.length h;exact this
 refine⟨vs,hv,All2.of_get hlen fun i d u hd hu=>?_⟩;have hi:i<7:=(List.getElem?_eq_some_iff.1 hd).1
 by_cases h6:i=6
 ·subst h6
  cases hd
  obtain⟨u',hu',hr⟩:=All2.get h 6 .nil rfl;rw[hu]at hu'
  cases hu'
  have hr:u=.slice none 0 0:=hr;rw[hr];exact Yoi _ _ _ _ _
 ·have hd':(bkC b m .nil)[i]?=some d:=by
   match i,hi,h6,hd with
   | 0,_,_,hd=>exact hd
   | 1,_,_,hd=>exact hd
   | 2,_,_,hd=>exact hd
   | 3,_,_,hd=>exact hd
   | 4,_,_,hd=>exact hd
   | 5,_,_,hd=>exact hd
   | n+6,hi,h6,_=>omega
  obtain⟨u',hu',hr⟩:=All2.get h i d hd';rw[hu]at hu'
  cases hu'
  exact hr
theorem Yb0 {α:Type}(l:List α)(i:Nat)(d:α)(h:i<l.length):l.getD i d∈l:=by
 rw[List.getD_eq_getElem?_getD,List.getElem?_eq_getElem h];exact List.getElem_mem h
def Yki (but:LI)(l:List Ent)(i:Nat)(y:Sv):List Ent :=
 if (i:Int)∈but then l else updK l (y.s,y.d) (match Ybq l (y.s,y.d) with
  | some old=>bothF old ⟨y.r-y.e,y.r+y.e⟩
  | none=>⟨y.r-y.e,y.r+y.e⟩)
def Yfl (b:Book)(but:LI):Nat->List Ent
 | 0=>[((-1,-1),⟨0,0⟩)]
 | k+1=>Yki but (Yfl b but k) k (svZ b k)
def Yco (b:Book)(but:LI):List Ent:=Yfl b but b.svs.length
theorem Yvh:Cfg.plain (MP 72):=⟨fun _ h=>h,fun _ h=>h,rfl⟩
structure SvOk (y:Sv):Prop where
 d:y.d<=1000
 r:-100000<=y.r/\y.r<=100000
 e:-100000<=y.e/\y.e<=100000
theorem Zdn (b:Book)(but:LI)(hb:but.length<=100000)(hs:b.svs.length<=100000)(hsv:∀ y∈b.svs,SvOk y) :
  WpL PR (MP 72) (.block 0 (.loop (Yek [1,1,0,1,0,0]))) (opS b but (Yfl b but 0) 0) (fun e L'=>e=.normal/\L'=opE b (Yco b but)):=by
 have hcon:=fun(v:Int)=>Zag but v (by omega);refine WpL.block (WpL.loop (S:=fun i:{i:Nat // i<=b.svs.length}=>opS b but (Yfl b but i.1) i.1) (fun i=>b.svs.length-i.1) ?_ ⟨0,Nat.zero_le _⟩)
 rintro⟨i,hi⟩
 dsimp only
 by_cases hlt:i<b.svs.length
 ·have hy:SvOk (svZ b i):=hsv _ (Yb0 _ _ _ hlt);obtain⟨_,⟨r1,r2⟩,⟨e1,e2⟩⟩:=hy
  have hgo:WpL PR (MP 72) (Yek [1,1,0,1,0,0]) (opS b but (Yfl b but i) i) (fun e L'=>e=.normal/\L'=opS b but (Yfl b but (i+1)) (i+1)):=by
   have hst:Yfl b but (i+1)=Yki but (Yfl b but i) i (svZ b i):=rfl;rw[hst];unfold Yki;have hc:=hcon i
   by_cases hm:(i:Int)∈but
   ·rw[decide_eq_true hm]at hc;rw[if_pos hm];exact WpL.path (G 72) (Xer b but _ i) ⟨decide_eq_true (by omega),⟨by omega,by omega⟩,by omega,hc,rfl,by simp only[Yae];omega,trivial⟩ ⟨rfl,rfl⟩
   ·rw[decide_eq_false hm]at hc;rw[if_neg hm]
    cases hl:Ybq (Yfl b but i) ((svZ b i).s,(svZ b i).d) with
    | none =>
     exact WpL.path (G 72) (Xhr b but _ i) ⟨decide_eq_true (by omega),⟨by omega,by omega⟩,by omega,hc,by omega,by omega,by omega,by omega,by simp only[Yae];omega,by omega,by omega,by simp only[Yae];omega,by omega,by rw[hl];rfl,by omega,by omega,Yvh,by simp only[Yae];omega,trivial⟩ ⟨rfl,rfl⟩
    | some old =>
     have hbo:=Zh3 old ⟨(svZ b i).r-(svZ b i).e,(svZ b i).r+(svZ b i).e⟩;exact WpL.path (G 72) (Xhq b but _ i (bothF old ⟨(svZ b i).r-(svZ b i).e,(svZ b i).r+(svZ b i).e⟩)) ⟨decide_eq_true (by omega),⟨by omega,by omega⟩,by omega,hc,by omega,by omega,by omega,by omega,by simp only[Yae];omega,by omega,by omega,by simp only[Yae];omega,by omega,by rw[hl];rfl,by omega,by omega,by rw[hl];exact hbo,by omega,by omega,Yvh,by simp only[Yae];omega,trivial⟩ ⟨rfl,rfl⟩
  refine hgo.mono fun e L' hL=>?_;obtain⟨rfl,rfl⟩:=hL;exact⟨⟨i+1,hlt⟩,rfl,by dsimp only;omega⟩
 ·have hie:i=b.svs.length:=by omega
  refine WpL.path (G 72) (Xhs b but _ i) ⟨decide_eq_false (by omega),trivial⟩ ?_
  show(if 0=0 then _ else _)
  rw[if_pos rfl];exact⟨rfl,by rw[hie];rfl⟩
theorem Xjn {a b lo hi:Int}(ha:lo<=a/\a<=hi)(hb:lo<=b/\b<=hi):lo<=mx a b/\mx a b<=hi:=by unfold mx;split<;>omega
theorem Xjo {a b lo hi:Int}(ha:lo<=a/\a<=hi)(hb:lo<=b/\b<=hi):lo<=mn a b/\mn a b<=hi:=by unfold mn;split<;>omega
theorem Zo3 {p:Ent->Prop}:∀ {l:List Ent} {k:K2} {v:Span},(∀ e∈l,p e)->p (k,v)->∀ e∈updK l k v,p e
 | [],k,v,_,h=>by simpa [updK] using h
 | (k',u)::l,k,v,hl,h=>by
  intro e he;simp only[updK]at he
  split at he
  ·rcases List.mem_cons.1 he with rfl|he
   ·exact h
   ·exact hl e (by simp[he])
  ·rcases List.mem_cons.1 he with rfl|he
   ·exact hl _ (by simp)
   ·exact Zo3 (fun e he=>hl e (by simp[he])) h e he
theorem Zg7 {p:Ent->Prop}:∀ {l:List Ent} {k:K2} {v:Span},(∀ e∈l,p e)->Ybq l k=some v->p (k,v)
 | (k',u)::l,k,v,hl,h=>by
  simp only[Ybq]at h
  split at h
  ·rename_i hk
   cases h
   subst hk;exact hl _ (by simp)
  ·exact Zg7 (fun e he=>hl e (by simp[he])) h
theorem Yyq (b:Book)(but:LI)(hsv:∀ y∈b.svs,SvOk y):∀ k,k<=b.svs.length->∀ e∈Yfl b but k,EntOk e
 | 0,_=>by
  intro e he;simp only[Yfl,List.mem_singleton]at he;subst he;exact⟨by decide,by decide,by decide⟩
 | k+1,hk=>by
  have ih:=Yyq b but hsv k (by omega);have hy:SvOk (svZ b k):=hsv _ (Yb0 _ _ _ hk);obtain⟨d1,⟨r1,r2⟩,⟨e1,e2⟩⟩:=hy;show ∀ e∈Yki but (Yfl b but k) k (svZ b k),EntOk e;unfold Yki;split
  ·exact ih
  ·refine Zo3 ih ?_;split
   ·rename_i old hold;obtain⟨_,o1,o2⟩:=Zg7 ih hold;refine⟨d1,?_,?_⟩
    ·exact Xjn o1 (by dsimp only;omega)
    ·exact Xjo o2 (by dsimp only;omega)
   ·exact⟨d1,by dsimp only;omega,by dsimp only;omega⟩
structure BookOk (b:Book):Prop where
 secs:b.secs.length<=4
 turns:b.turns.length<=1000
 svs:b.svs.length<=100000
 sv:∀ y∈b.svs,SvOk y
 wear:∀ p<b.secs.length,0<=(b.secs.getD p sec0).w.lo/\-1<=(b.secs.getD p sec0).w.hi/\(b.secs.getD p sec0).w.hi<=1000
def Yak (b:Book)(but:LI):List TrC:=Ybd b (Yco b but) b.secs.length 0 ⟨0,0,0,0⟩
theorem Zlb (b:Book)(hb:BookOk b)(but:LI)(hbut:but.length<=100000)(hlen:(Yak b but).length<=1000000):Contract PR glob 109 [Yah b,.z .int but] (bkD b (.spot (Yco b but)) (Yak b but)):=by
 have hent:=Yyq b but hb.sv b.svs.length (Nat.le_refl _)
 have hwh:Contract PR glob 132 [.agg (bkC b (.map (.spot (Yco b but))) .nil)] (opW b (Yco b but)):=(Zon b (.spot (Yco b but)) []).toArgs fun R w vs h=>by
  obtain⟨v,l,rfl,h1,h2⟩:=Yaq h;exact⟨Zs3 h1,h2⟩
 have hcode:body Tryz.f109=.seq (Yek [0]) (.seq (Yek [1,0]) (.seq (.seq (Yek [1,1,0,0]) (.block 0 (.loop (Yek [1,1,0,1,0,0]))))
  (.seq (.seq (Yek [1,1,1,0,0]) (.block 2 (.rangeFunc (.tmp 63) #[64] (Yek [1,1,1,0,1,0,0]) (Yek [1,1,1,0,1,0,1])))) (Yek [1,1,1,1])))):=by kernel_rfl
 have hpre:WpL PR (MP 72) (.seq (Yek [1,1,0,0]) (.block 0 (.loop (Yek [1,1,0,1,0,0])))) (opB b but) (fun e L'=>e=.normal/\L'=opE b (Yco b but)) :=
  WpL.seq (WpL.path (G 72) (op_2 b but) trivial (Zdn b but hbut hb.svs hb.sv))
 have hstart:WpL PR (MP 72) (Yek [1,1,1,0,0]) (opE b (Yco b but)) (fun e L'=>e=.normal/\L'=(.tmp 63,.d (opW b (Yco b but)))::opR b (Yco b but) []) :=
  WpL.tell (fun _ h=>h) (j:=14) (m:=.spot (Yco b but)) rfl (WpL.path (G 72) (Xjl b (Yco b but)) ⟨hwh,trivial⟩ ⟨rfl,rfl⟩)
 have hgoal:∀(r:D),(∀(ke:Nat->Prop) (w1:World) (ds:List Deferred),WpL PR (mkE PR (Yac types) glob 72 ke w1 ds) (Yek [1,1,1,1]) (opR b (Yco b but) (Yak b but)) (fun e L'=>e=.ret/\∃ ps,fin (mkE PR (Yac types) glob 72 ke w1 ds) [.cell 4 141] (ofL L')=some (ps,r)/\allP ps)) ->
   Contract PR glob 109 [Yah b,.z .int but] r:=by
  intro r hend;refine Yez Ya1 Xjk ?_;intro w0 R0 a Q hH hQ;rw[hcode];refine wpIn_seq (WpL.path (G 72) (op_0 b but) trivial (Post:=fun e L'=>e=.normal/\L'=opA b but) ⟨rfl,rfl⟩ w0 R0 a w0 _ none 1 (fun _=>rfl) hH fun e L' a1 W1 hp hH1=>?_);obtain⟨rfl,rfl⟩:=hp;show Code.wpIn _ _ _ _ _ _ _;refine wpIn_seq (WpL.path (G 72) (op_1 b but) ⟨Yvh,by omega,Yvh,trivial⟩ (Post:=fun e L'=>e=.normal/\L'=opB b but) ⟨rfl,rfl⟩ w0 R0 a1 W1 _ none 1 (fun _=>rfl) hH1 fun e L' a2 W2 hp hH2=>?_)
  obtain⟨rfl,rfl⟩:=hp;show Code.wpIn _ _ _ _ _ _ _;refine wpIn_seq (hpre w0 R0 a2 W2 _ none 1 (fun _=>rfl) hH2 fun e L' a3 W3 hp hH3=>?_);obtain⟨rfl,rfl⟩:=hp;show Code.wpIn _ _ _ _ _ _ _;refine wpIn_seq (wpIn_seq (hstart w0 R0 a3 W3 _ none 1 (fun _=>rfl) hH3 fun e L' a4 W4 hp hH4=>?_));obtain⟨rfl,rfl⟩:=hp;show Code.wpIn _ _ _ _ _ _ _
  refine Yle (tt:=Yac types) (glob:=glob) (n:=72) (gf:=144) (caps:=[cellsOf (bkD b (.spot (Yco b but)) [])]) (Told:=fun _=>Xgr) (xs:=Yak b but) (S:=opR b (Yco b but)) (S1:=opR1 b (Yco b but)) (fx:=[4,5]) (dx:=trD) (L:=(.tmp 63,.d (opW b (Yco b but)))::opR b (Yco b but) []) (ks:=Xet)
   ?_ ⟨Tryz.f144,by kernel_rfl,by kernel_rfl,by kernel_rfl⟩ ?_ (by decide) (by decide) ?_ ?_ ?_ ?_ rfl (by kernel_rfl) (by kernel_rfl) (fun k=>by rfl) ?_ hH4 ?_
  ·intro KE R w lb h1 h2 h3 h4;obtain⟨p1,m,e1,h5,h6⟩:=Yaq h4;obtain rfl:=Ych h6;have hlb:lb=#[p1]:=by rw[<-Array.toArray_toList (xs:=lb),e1]
   subst hlb;obtain⟨bb,oo,hp,hr⟩:=h5;refine Zom (ts:=[]) hb.secs hb.turns hent hb.wear h1 h2 ⟨bb,oo,by rw[hp];simp,fun j d hd=>?_⟩ h3;obtain⟨u,q1,q2,q3⟩:=hr j d hd;exact⟨u,RelC.of0 q1,q2,q3⟩
  ·rintro R T x vs W rfl
   exact⟨trV x,fun _ _=>False,rfl,fun _ _ h=>h.elim,⟨_,rfl,rfl,rfl,rfl,rfl,rfl,rfl,rfl,rfl,rfl,rfl,rfl,rfl,trivial⟩⟩
  ·intro pre i hi
   cases pre with
   | nil=>exact Yj7 (fx:=[4,5]) (by kernel_rfl) i hi
   | cons y r=>exact Yj7 (fx:=[4,5]) (by kernel_rfl) i hi
  ·intro pre i
   cases pre<;>rfl
  ·rintro pre x ke no w1 fv _
   cases pre with
   | nil=>exact WpL.path (Yn1 Yan Ya1) (Xhw b _ x ke no w1 fv) trivial ⟨rfl,rfl⟩
   | cons y r=>exact WpL.path (Yn1 Yan Ya1) (Xhv b _ y r x ke no w1 fv) trivial ⟨rfl,rfl⟩
  ·rintro pre x ke no w1 fv ⟨post,hpost⟩
   have hl:pre.length+1<=1000000:=by
    have:=congrArg List.length hpost
    simp at this;omega
   cases pre with
   | nil=>exact WpL.path (Yn1 Yan Ya1) (Xhu b _ x ke no w1 fv) ⟨by omega,by decide,rfl,trivial⟩ ⟨rfl,rfl⟩
   | cons y r=>exact WpL.path (Yn1 Yan Ya1) (Xht b _ y r x ke no w1 fv) ⟨by omega,rfl,by simp at hl ⊢;omega,rfl,trivial⟩ ⟨rfl,rfl⟩
  ·exact Ygl (by kernel_rfl)
  ·intro D a5 W5 hD hH5 hWD;show Code.wpIn _ _ _ _ _ _ _;refine hend _ _ _ w0 R0 a5 W5 _ none 1 (fun _=>rfl) hH5 fun e L' a6 W6 hp hH6=>?_;obtain⟨rfl,hfin⟩:=hp;exact hQ D a6 W6 W5 _ L' hD hH6 hWD hfin (.inr rfl)
 cases ht:Yak b but with
 | nil =>
  refine(hgoal (.agg (bkC b (.map (.spot (Yco b but))) .nil)) ?_).toRes fun R w v h=>Zs3 h;intro ke w1 ds;rw[ht];exact WpL.path (Zl6 Yan Ya1) (Xhy b _ ke w1 ds) trivial ⟨rfl,[],by kernel_rfl,trivial⟩
 | cons y r =>
  refine hgoal _ ?_;intro ke w1 ds;rw[ht];exact WpL.path (Zl6 Yan Ya1) (Xhx b _ y r ke w1 ds) ⟨rfl,trivial⟩ ⟨rfl,[(y::r).length=(y::r).length],by kernel_rfl,⟨rfl,trivial⟩⟩
end Go.Di
namespace Go.Di
open Proofs
theorem Ypu:FnOk PR (MP 25) 133 (body Tryz.f133) [.cell 4 141,.tmp 5]:=by refine⟨Tryz.f133,?_,?_,?_,?_,?_⟩<;>kernel_rfl
theorem Yxv:FnOk PR (MP 15) 80 (body Tryz.f80) [.tmp 2,.tmp 3]:=by refine⟨Tryz.f80,?_,?_,?_,?_,?_⟩<;>kernel_rfl
theorem Ylt:FnOk PR (MP 33) 111 (body Tryz.f111) [.cell 6 113,.tmp 7]:=by refine⟨Tryz.f111,?_,?_,?_,?_,?_⟩<;>kernel_rfl
theorem Zwn:FnOk PR (MP 13) 135 (body Tryz.f135) [.cell 3 113]:=by refine⟨Tryz.f135,?_,?_,?_,?_,?_⟩<;>kernel_rfl
theorem Yun:FnOk PR (MP 23) 110 (body Tryz.f110) [.cell 4 113,.tmp 5]:=by refine⟨Tryz.f110,?_,?_,?_,?_,?_⟩<;>kernel_rfl
theorem Zv9 (b:Book)(is:Bool)(e:Int) :Yaj (MP 25) [(11,true)] [(9,.I e)] [] (body Tryz.f133) [.cell 4 141,.tmp 5] [Yah b,.bool is] =some ([Contract PR glob 55 [D.agg (Yal b)] (D.I e),(e != (0:Int))=true],D.tup [D.agg [D.nil,D.nil,D.nil,D.I 0,D.I 0,D.nilmap,D.nil],D.I e]):=by kernel_rfl
theorem Zwa (b:Book)(is:Bool)(e:Int) :Yaj (MP 25) [(11,false),(15,true)] [(9,.I e)] [] (body Tryz.f133) [.cell 4 141,.tmp 5] [Yah b,.bool is] =some ([Contract PR glob 55 [D.agg (Yal b)] (D.I e),(e != (0:Int))=false,(!is)=true],D.tup [D.agg [D.nil,D.nil,D.nil,D.I 0,D.I 0,D.nilmap,D.nil],D.I 11]):=by kernel_rfl
theorem Zft (b:Book)(is:Bool)(e:Int)(m:Mp)(ts:List TrC) :Yaj (MP 25) [(11,false),(15,false),(22,true)] [(9,.I e),(18,bkD b m ts)] [] (body Tryz.f133) [.cell 4 141,.tmp 5] [Yah b,.bool is] =some ([Contract PR glob 55 [D.agg (Yal b)] (D.I e),(e != (0:Int))=false,(!is)=false,Contract PR glob 109 [D.agg (Yal b),D.z E.int []] (D.agg [D.z E.sec b.secs,D.z E.int b.turns,D.z E.sv b.svs,D.I b.rule,D.I b.days,D.map m,D.z E.trc ts]),(((ts.length:Nat):Int)==(0:Int))=true],D.tup [D.agg [D.z E.sec b.secs,D.z E.int b.turns,D.z E.sv b.svs,D.I b.rule,D.I b.days,D.map m,D.z E.trc ts],D.I 12]):=by kernel_rfl
theorem Xb6 (b:Book)(is:Bool)(e:Int)(m:Mp)(ts:List TrC) :Yaj (MP 25) [(11,false),(15,false),(22,false)] [(9,.I e),(18,bkD b m ts)] [] (body Tryz.f133) [.cell 4 141,.tmp 5] [Yah b,.bool is] =some ([Contract PR glob 55 [D.agg (Yal b)] (D.I e),(e != (0:Int))=false,(!is)=false,Contract PR glob 109 [D.agg (Yal b),D.z E.int []] (D.agg [D.z E.sec b.secs,D.z E.int b.turns,D.z E.sv b.svs,D.I b.rule,D.I b.days,D.map m,D.z E.trc ts]),(((ts.length:Nat):Int)==(0:Int))=false],D.tup [D.agg [D.z E.sec b.secs,D.z E.int b.turns,D.z E.sv b.svs,D.I b.rule,D.I b.days,D.map m,D.z E.trc ts],D.I 0]):=by kernel_rfl
theorem Zjy (b:Book)(e:Int) :Yaj (MP 15) [(8,true)] [(6,.I e)] [] (body Tryz.f80) [.tmp 2,.tmp 3] [Yah b] =some ([Contract PR glob 55 [D.agg (Yal b)] (D.I e),(e != (0:Int))=true],D.tup [D.bool false,D.I e]):=by kernel_rfl
theorem Zrd (b:Book)(e:Int)(m:Mp)(ts:List TrC) :Yaj (MP 15) [(8,false)] [(6,.I e),(11,bkD b m ts)] [] (body Tryz.f80) [.tmp 2,.tmp 3] [Yah b] =some ([Contract PR glob 55 [D.agg (Yal b)] (D.I e),(e != (0:Int))=false,Contract PR glob 109 [D.agg (Yal b),D.z E.int []] (D.agg [D.z E.sec b.secs,D.z E.int b.turns,D.z E.sv b.svs,D.I b.rule,D.I b.days,D.map m,D.z E.trc ts])],D.tup [D.bool (decide (((ts.length:Nat):Int)>(0:Int))),D.I 0]):=by kernel_rfl
theorem Zpx (b:Book)(s d:Int)(e:Int) :Yaj (MP 33) [(15,false),(24,true)] [(14,.bool (Yaf b s)),(18,.bool (Ya3 b d)),(20,.tup [Ys0,.I e])] [] (body Tryz.f111) [.cell 6 113,.tmp 7] [Yah b,.I s,.I d] =let Z0:Prop:=Yaf b s=false;some ([Contract PR glob 120 [D.agg (Yal b),D.I s] (D.bool (Yaf b s)),Z0,Z0,Z0,Z0,Contract PR glob 133 [D.agg (Yal b),D.bool false] (D.tup [D.agg [D.nil,D.nil,D.nil,D.I 0,D.I 0,D.nilmap,D.nil],D.I e]),(e != (0:Int))=true,0+2<=2],D.tup [D.agg [D.I 0,D.I 0],D.I e]):=by kernel_rfl
theorem Zil (b:Book)(s d:Int)(e:Int) :Yaj (MP 33) [(15,true),(24,true)] [(14,.bool (Yaf b s)),(18,.bool (Ya3 b d)),(20,.tup [Ys0,.I e])] [] (body Tryz.f111) [.cell 6 113,.tmp 7] [Yah b,.I s,.I d] =let Z0:Prop:=Yaf b s=true;some ([Contract PR glob 120 [D.agg (Yal b),D.I s] (D.bool (Yaf b s)),Z0,Z0,Z0,Contract PR glob 121 [D.agg (Yal b),D.I d] (D.bool (Ya3 b d)),Z0,Contract PR glob 133 [D.agg (Yal b),D.bool (Ya3 b d)] (D.tup [D.agg [D.nil,D.nil,D.nil,D.I 0,D.I 0,D.nilmap,D.nil],D.I e]),(e != (0:Int))=true,0+2<=2],D.tup [D.agg [D.I 0,D.I 0],D.I e]):=by kernel_rfl
theorem Yxf (b:Book)(s d:Int)(m:Mp) :Yaj (MP 33) [(15,true)] [(14,.bool (Yaf b s)),(18,.bool (Ya3 b d)),(20,.tup [bkD b m [],.I 12])] [] (body Tryz.f111) [.cell 6 113,.tmp 7] [Yah b,.I s,.I d] =some ([Contract PR glob 120 [D.agg (Yal b),D.I s] (D.bool (Yaf b s)),Yaf b s=true,Yaf b s=true,Yaf b s=true,Contract PR glob 121 [D.agg (Yal b),D.I d] (D.bool (Ya3 b d)),Yaf b s=true,Contract PR glob 133 [D.agg (Yal b),D.bool (Ya3 b d)] (D.tup [D.agg [D.z E.sec b.secs,D.z E.int b.turns,D.z E.sv b.svs,D.I b.rule,D.I b.days,D.map m,D.z E.trc []],D.I 12]),0+2<=2],D.tup [D.agg [D.I 0,D.I 0],D.I 12]):=by kernel_rfl
theorem Zpw (b:Book)(s d:Int)(m:Mp)(ts:List TrC)(o:Span) :Yaj (MP 33) [(15,true)] [(14,.bool (Yaf b s)),(18,.bool (Ya3 b d)),(20,.tup [bkD b m ts,.I 0]),(32,spD o)] [] (body Tryz.f111) [.cell 6 113,.tmp 7] [Yah b,.I s,.I d] =some ([Contract PR glob 120 [D.agg (Yal b),D.I s] (D.bool (Yaf b s)),Yaf b s=true,Yaf b s=true,Yaf b s=true,Contract PR glob 121 [D.agg (Yal b),D.I d] (D.bool (Ya3 b d)),Yaf b s=true,Contract PR glob 133 [D.agg (Yal b),D.bool (Ya3 b d)] (D.tup [D.agg [D.z E.sec b.secs,D.z E.int b.turns,D.z E.sv b.svs,D.I b.rule,D.I b.days,D.map m,D.z E.trc ts],D.I 0]),Contract PR glob 136 [D.agg [D.z E.sec b.secs,D.z E.int b.turns,D.z E.sv b.svs,D.I b.rule,D.I b.days,D.map m,D.z E.trc ts],D.I s,D.I d,D.z E.int b.turns] (D.agg [D.I o.lo,D.I o.hi]),0+2<=2],D.tup [D.agg [D.I o.lo,D.I o.hi],D.I 0]):=by kernel_rfl
theorem Zoy (x:TrC)(p:Int) :Yaj (MP 13) [] [] [] (body Tryz.f135) [.cell 3 113] [trD x,.ref [.I p] 0] =some ([0+1<=1,(0:Int)<=p/\p<(Nat.cast:Nat->Int) 4,0+0+Int.toNat p*1+1<=12,0+1<=1,(0:Int)<=p/\p<(Nat.cast:Nat->Int) 4,0+0+Int.toNat p*1+1<=12,0+2<=2],D.agg [D.I (List.getD [TrC.w0 x,TrC.w1 x,TrC.w2 x,TrC.w3 x,Span.lo (TrC.f0 x),Span.hi (TrC.f0 x),Span.lo (TrC.f1 x),Span.hi (TrC.f1 x),Span.lo (TrC.f2 x),Span.hi (TrC.f2 x),Span.lo (TrC.f3 x),Span.hi (TrC.f3 x)] (0+0+Int.toNat p*1) (0:Int)),D.I (List.getD [TrC.w0 x,TrC.w1 x,TrC.w2 x,TrC.w3 x,Span.lo (TrC.f0 x),Span.hi (TrC.f0 x),Span.lo (TrC.f1 x),Span.hi (TrC.f1 x),Span.lo (TrC.f2 x),Span.hi (TrC.f2 x),Span.lo (TrC.f3 x),Span.hi (TrC.f3 x)] (0+0+Int.toNat p*1) (0:Int))]):=by kernel_rfl
theorem Zov (b:Book)(p:Int)(e:Int) :Yaj (MP 23) [(17,true)] [(12,.bool (Yaf b p)),(13,.tup [Ys0,.I e])] [] (body Tryz.f110) [.cell 4 113,.tmp 5] [Yah b,.I p] =some ([0+1<=1,Contract PR glob 120 [D.agg (Yal b),D.I p] (D.bool (Yaf b p)),Contract PR glob 133 [D.agg (Yal b),D.bool (Yaf b p)] (D.tup [D.agg [D.nil,D.nil,D.nil,D.I 0,D.I 0,D.nilmap,D.nil],D.I e]),(e != (0:Int))=true,0+2<=2],D.tup [D.agg [D.I 0,D.I 0],D.I e]):=by kernel_rfl
theorem Za4 (b:Book)(p:Int)(m:Mp) :Yaj (MP 23) [] [(12,.bool (Yaf b p)),(13,.tup [bkD b m [],.I 12])] [] (body Tryz.f110) [.cell 4 113,.tmp 5] [Yah b,.I p] =some ([0+1<=1,Contract PR glob 120 [D.agg (Yal b),D.I p] (D.bool (Yaf b p)),Contract PR glob 133 [D.agg (Yal b),D.bool (Yaf b p)] (D.tup [D.agg [D.z E.sec b.secs,D.z E.int b.turns,D.z E.sv b.svs,D.I b.rule,D.I b.days,D.map m,D.z E.trc []],D.I 12]),0+2<=2],D.tup [D.agg [D.I 0,D.I 0],D.I 12]):=by kernel_rfl
theorem Zwm (b:Book)(p:Int)(m:Mp)(ts:List TrC)(o:Span) :Yaj (MP 23) [] [(12,.bool (Yaf b p)),(13,.tup [bkD b m ts,.I 0]),(22,spD o)] [] (body Tryz.f110) [.cell 4 113,.tmp 5] [Yah b,.I p] =some ([0+1<=1,Contract PR glob 120 [D.agg (Yal b),D.I p] (D.bool (Yaf b p)),Contract PR glob 133 [D.agg (Yal b),D.bool (Yaf b p)] (D.tup [D.agg [D.z E.sec b.secs,D.z E.int b.turns,D.z E.sv b.svs,D.I b.rule,D.I b.days,D.map m,D.z E.trc ts],D.I 0]),Contract PR glob 134 [D.agg [D.z E.sec b.secs,D.z E.int b.turns,D.z E.sv b.svs,D.I b.rule,D.I b.days,D.map m,D.z E.trc ts],D.fn 135 [] [[D.I p]]] (D.agg [D.I o.lo,D.I o.hi]),0+2<=2],D.tup [D.agg [D.I o.lo,D.I o.hi],D.I 0]):=by kernel_rfl
end Go.Di
namespace Go.Di
open Proofs
def Ylz (days:Int)(l:LI):Bool:=(l.foldl (Ydz days) (true,0)).1
structure Valid (b:Book):Prop where
 secs:1<=b.secs.length/\b.secs.length<=4
 days:1<=b.days/\b.days<=30
 rule:0<=b.rule/\b.rule<=200
 turns:b.turns.length<=4
 svs:b.svs.length<=8
 sec:∀ x∈b.secs,SecOk x
 thick:∀ x∈b.secs,Yej b.secs*b.days<=x.t.lo
 rises:Ylz b.days b.turns=true
 sv:∀ y∈b.svs,Ybh b y=true
theorem Yf5 {days:Int}:∀(l:LI) (p:Bool) (n:Int),(l.foldl (Ydz days) (p,n)).1=(p&&(l.foldl (Ydz days) (true,n)).1)
 | [],p,n=>by simp
 | t::l,p,n=>by
  simp only[List.foldl_cons,Ydz];rw[Yf5 l,Yf5 l (true&&_),Bool.and_assoc,Bool.true_and]
theorem Yc0 {b:Book}:Yen b=true↔Valid b:=by
 unfold Yen;have h4:ok4F b b.svs=((ok3F b b.turns).1&&b.svs.all fun x=>Ybh b x):=Yhw _ _ _;have h3:(ok3F b b.turns).1=(ok2F b b.secs&&Ylz b.days b.turns):=Yf5 _ _ _;rw[h4,h3,Zgz,Bool.and_eq_true,Bool.and_eq_true,Bool.and_eq_true,Bool.and_eq_true,Zdo,List.all_eq_true,List.all_eq_true]
 constructor
 ·rintro⟨⟨h0,h1⟩,⟨⟨⟨_,h2⟩,h5⟩,h6⟩⟩
  exact⟨h0.secs,h0.days,h0.rule,h0.turns,h0.svs,h1,fun x hx=>by simpa using h2 x hx,h5,h6⟩
 ·rintro⟨h1,h2,h3,h4,h5,h6,h7,h8,h9⟩
  exact⟨⟨⟨h1,h2,h3,h4,h5⟩,h6⟩,⟨⟨⟨⟨⟨h1,h2,h3,h4,h5⟩,h6⟩,fun x hx=>by simpa using h7 x hx⟩,h8⟩,h9⟩⟩
theorem Yhi {b:Book}{y:Sv}:Ybh b y=true↔(0<=y.s/\y.s<=b.secs.length-1)/\(0<=y.d/\y.d<=b.days)/\(0<=y.r/\y.r<=200)/\(0<=y.e/\y.e<=5):=by
 simp only[Ybh,Yaf,Ya3,Bool.and_eq_true,Ya2]
 constructor
 ·rintro⟨⟨⟨h1,h2⟩,h3⟩,h4⟩;exact⟨h1,h2,h3,h4⟩
 ·rintro⟨h1,h2,h3,h4⟩;exact⟨⟨⟨h1,h2⟩,h3⟩,h4⟩
theorem Valid.book {b:Book}(h:Valid b):BookOk b:=by
 refine⟨h.secs.2,by have:=h.turns;omega,by have:=h.svs;omega,fun y hy=>?_,fun p hp=>?_⟩
 ·obtain⟨h1,h2,h3,h4⟩:=Yhi.1 (h.sv y hy)
  have:=h.days
  exact⟨by omega,by omega,by omega⟩
 ·have:=(h.sec _ (Yb0 b.secs p sec0 hp)).w
  omega
theorem Xc7 (b:Book)(x0 x1 x2 x3 k:Int)(s:Span)(e:Ent):s.lo<=(Ybb b x0 x1 x2 x3 k s e).lo/\(Ybb b x0 x1 x2 x3 k s e).hi<=s.hi:=by
 unfold Ybb;split
 ·exact⟨Xh1.1,by simp only[bothF];unfold mn;split<;>omega⟩
 ·exact⟨Int.le_refl _,Int.le_refl _⟩
theorem Zgh (b:Book)(x0 x1 x2 x3 k:Int):∀(l:List Ent) (s:Span),s.lo<=(l.foldl (Ybb b x0 x1 x2 x3 k) s).lo/\(l.foldl (Ybb b x0 x1 x2 x3 k) s).hi<=s.hi
 | [],s=>⟨Int.le_refl _,Int.le_refl _⟩
 | e::l,s=>by
  have h1:=Xc7 b x0 x1 x2 x3 k s e;have h2:=Zgh b x0 x1 x2 x3 k l (Ybb b x0 x1 x2 x3 k s e);simp only[List.foldl_cons];omega
def Zog (t:TrC):Prop:=(0<=t.f0.lo/\t.f0.lo<=t.f0.hi/\t.f0.hi<=200)/\(0<=t.f1.lo/\t.f1.lo<=t.f1.hi/\t.f1.hi<=200)/\(0<=t.f2.lo/\t.f2.lo<=t.f2.hi/\t.f2.hi<=200)/\(0<=t.f3.lo/\t.f3.lo<=t.f3.hi/\t.f3.hi<=200)
theorem Zxp {t:TrC}(h:Zog t)(i:Nat){s:Span}(hs:0<=s.lo/\s.lo<=s.hi/\s.hi<=200):Zog (setF t i s):=by
 obtain⟨h0,h1,h2,h3⟩:=h
 match i with
 | 0=>exact⟨hs,h1,h2,h3⟩
 | 1=>exact⟨h0,hs,h2,h3⟩
 | 2=>exact⟨h0,h1,hs,h3⟩
 | _+3=>exact⟨h0,h1,h2,hs⟩
theorem Xce (t:TrC)(i:Nat)(s:Span):(setF t i s).w0=t.w0/\(setF t i s).w1=t.w1/\(setF t i s).w2=t.w2/\(setF t i s).w3=t.w3:=by
 match i with
 | 0=>exact⟨rfl,rfl,rfl,rfl⟩
 | 1=>exact⟨rfl,rfl,rfl,rfl⟩
 | 2=>exact⟨rfl,rfl,rfl,rfl⟩
 | _+3=>exact⟨rfl,rfl,rfl,rfl⟩
theorem Yyz {b:Book}(hb:∀ x∈b.secs,SecOk x)(l:List Ent)(x:W4):∀(f i:Nat) (t:TrC),f+i=b.secs.length->Zog t->∀ u∈Yeo b l x f i t,Zog u/\u.w0=t.w0/\u.w1=t.w1/\u.w2=t.w2/\u.w3=t.w3
 | 0,i,t,_,ht,u,hu=>by
  simp only[Yeo,List.mem_singleton]at hu;subst hu;exact⟨ht,rfl,rfl,rfl,rfl⟩
 | f+1,i,t,hf,ht,u,hu=>by
  simp only[Yeo]at hu
  split at hu
  ·rename_i hok;have h1:=Zgh b x.a x.b x.c x.d i l (b.secs.getD i sec0).t;have h2:=(hb _ (Yb0 b.secs i sec0 (by omega))).t;have hr:Yb2 b l x.a x.b x.c x.d i=l.foldl (Ybb b x.a x.b x.c x.d i) (b.secs.getD i sec0).t:=rfl;rw[<-hr]at h1;obtain⟨g1,g2⟩:=Yyz hb l x f (i+1) _ (by omega) (Zxp ht i (s:=Yb2 b l x.a x.b x.c x.d i) (by omega)) u hu;have h3:=Xce t i (Yb2 b l x.a x.b x.c x.d i);exact⟨g1,g2.1.trans h3.1,g2.2.1.trans h3.2.1,g2.2.2.1.trans h3.2.2.1,g2.2.2.2.trans h3.2.2.2⟩
  ·cases hu
theorem Ytw (b:Book)(l:List Ent)(x:W4):∀(f i:Nat) (t:TrC),(Yeo b l x f i t).length<=1
 | 0,_,_=>by simp[Yeo]
 | f+1,i,t=>by
  simp only[Yeo];split
  ·exact Ytw b l x f _ _
  ·simp
theorem Zhm {α β:Type}(g:α->List β)(c:Nat):∀(l:List α),(∀ x∈l,(g x).length<=c)->(l.flatMap g).length<=l.length*c
 | [],_=>by simp
 | x::l,h=>by
  have h1:=h x (by simp);have h2:=Zhm g c l (fun y hy=>h y (by simp[hy]));simp only[List.flatMap_cons,List.length_append,List.length_cons,Nat.add_mul];omega
theorem Yx1 {s:Span}{n:Int}:n∈Yi8 s↔(0<=n/\s.lo<=n/\n<=s.hi):=by
 unfold Yi8 Yd2;simp only[List.mem_filter,List.mem_map,List.mem_range,decide_eq_true_eq]
 constructor
 ·rintro⟨⟨k,hk,rfl⟩,h⟩;omega
 ·rintro⟨h1,h2,h3⟩;exact⟨⟨n.toNat,by omega,by omega⟩,h2⟩
theorem Zry (s:Span):(Yi8 s).length<=(s.hi+1).toNat:=by
 unfold Yi8 Yd2;refine Nat.le_trans (List.length_filter_le _ _) ?_;simp
theorem Yp1 {b:Book}(hb:∀ x∈b.secs,SecOk x)(l:List Ent):∀(f p:Nat) (x:W4),f+p=b.secs.length->(Ybd b l f p x).length<=4 ^ f
 | 0,p,x,_=>by
  show(Yy0 b l x).length<=1
  exact Ytw _ _ _ _ _ _
 | f+1,p,x,hf=>by
  have h2:=(hb _ (Yb0 b.secs p sec0 (by omega))).w;have h1:=Zhm (fun n=>Ybd b l f (p+1) (x.set p n)) (4 ^ f) (Yi8 (b.secs.getD p sec0).w) (fun n _=>Yp1 hb l f (p+1) _ (by omega));have h3:=Zry (b.secs.getD p sec0).w;have h4:(Yi8 (b.secs.getD p sec0).w).length*4 ^ f<=4*4 ^ f:=Nat.mul_le_mul_right _ (by omega);have h5:(4:Nat) ^ (f+1)=4*4 ^ f:=by rw[Nat.pow_succ,Nat.mul_comm]
  rw[h5];exact Nat.le_trans h1 h4
theorem Ym8 {b:Book}(hb:∀ x∈b.secs,SecOk x)(l:List Ent):∀(f p:Nat) (x:W4),f+p=b.secs.length->W4Ok x->∀ t∈Ybd b l f p x,Zog t/\W4Ok ⟨t.w0,t.w1,t.w2,t.w3⟩
 | 0,p,x,_,hx,t,ht=>by
  have ht:t∈Yeo b l x b.secs.length 0 (trOf x):=ht;obtain⟨h1,h2,h3,h4,h5⟩:=Yyz hb l x b.secs.length 0 (trOf x) (by omega) (by simp[Zog,trOf]) t ht;refine⟨h1,?_⟩;rw[h2,h3,h4,h5];exact hx
 | f+1,p,x,hf,hx,t,ht=>by
  have ht:t∈(Yi8 (b.secs.getD p sec0).w).flatMap fun n=>Ybd b l f (p+1) (x.set p n):=ht;obtain⟨n,hn,ht⟩:=List.mem_flatMap.1 ht;have h2:=(hb _ (Yb0 b.secs p sec0 (by omega))).w;have hn:=Yx1.1 hn;exact Ym8 hb l f (p+1) _ (by omega) (hx.set p ⟨by omega,by omega⟩) t ht
theorem Xgz:W4Ok ⟨0,0,0,0⟩:=⟨by decide,by decide,by decide,by decide⟩
theorem Ynb {b:Book}(hb:Valid b)(but:LI):(Yak b but).length<=256:=by
 have h:=Yp1 hb.sec (Yco b but) b.secs.length 0 ⟨0,0,0,0⟩ (by omega);refine Nat.le_trans h ?_;exact Nat.pow_le_pow_right (by decide) hb.secs.2
theorem Yp5 {b:Book}(hb:Valid b)(but:LI):∀ t∈Yak b but,TrOk t:=by
 intro t ht;obtain⟨⟨h0,h1,h2,h3⟩,hw⟩:=Ym8 hb.sec (Yco b but) b.secs.length 0 ⟨0,0,0,0⟩ (by omega) Xgz t ht;have w0:=hw.a;have w1:=hw.b;have w2:=hw.c;have w3:=hw.d;exact⟨w0,w1,w2,w3,by omega,by omega,by omega,by omega⟩
theorem Yjh {b:Book}(hb:Valid b)(but:LI)(hbut:but.length<=100000):Contract PR glob 109 [Yah b,.z .int but] (bkD b (.spot (Yco b but)) (Yak b but)) :=
 Zlb b hb.book but hbut (by have:=Ynb hb but;omega)
structure Small (b:Book):Prop where
 secs:b.secs.length<=9223372036854775807
 turns:b.turns.length<=9223372036854775807
 svs:b.svs.length<=9223372036854775807
theorem Yir {b:Book}(h:Small b):Contract PR glob 55 [Yah b] (.I (Yai b)):=Zvr b h.secs h.turns h.svs
def canF (b:Book):Bool:=!(Yak b []).isEmpty
def errF (b:Book)(is:Bool):Int:=if Yen b=false then 10 else if is=false then 11 else if canF b=false then 12 else 0
theorem Xfh {b:Book}:decide (((Yak b []).length:Int)>0)=canF b:=by
 unfold canF
 cases Yak b [] with
 | nil=>rfl
 | cons x l=>simp
theorem Yjj {b:Book}(h:canF b=true):Yak b []≠[]:=by
 unfold canF at h
 cases hq:Yak b [] with
 | nil=>rw[hq]at h;cases h
 | cons x l=>simp
theorem Zlg {b:Book}(h:canF b=false):Yak b []=[]:=by
 unfold canF at h
 cases hq:Yak b [] with
 | nil=>rfl
 | cons x l=>rw[hq]at h;cases h
theorem Ywt {b:Book}(hs:Small b)(is:Bool)(h:Yen b=false):Contract PR glob 133 [Yah b,.bool is] (.tup [Ys0,.I 10]):=by
 have hc:=Yir hs;unfold Yai at hc;rw[h]at hc;exact Yaa (G 25) Ypu (Zv9 b is 10) ⟨hc,rfl,trivial⟩
theorem Yps {b:Book}(hs:Small b)(h:Valid b):Contract PR glob 55 [Yah b] (.I 0):=by
 have hc:=Yir hs;unfold Yai at hc;rw[Yc0.2 h]at hc;exact hc
theorem Ywu {b:Book}(hs:Small b)(h:Valid b):Contract PR glob 133 [Yah b,.bool false] (.tup [Ys0,.I 11]) :=
 Yaa (G 25) Ypu (Zwa b false 0) ⟨Yps hs h,rfl,rfl,trivial⟩
theorem Yj5 {b:Book}(hs:Small b)(h:Valid b)(hc:canF b=false):Contract PR glob 133 [Yah b,.bool true] (.tup [bkD b (.spot (Yco b [])) [],.I 12]):=by
 have ho:=Yjh h [] (by simp);rw[Zlg hc]at ho;exact Yaa (G 25) Ypu (Zft b true 0 (.spot (Yco b [])) []) ⟨Yps hs h,rfl,rfl,ho,rfl,trivial⟩
theorem Yox {b:Book}(hs:Small b)(h:Valid b)(hc:canF b=true):Contract PR glob 133 [Yah b,.bool true] (.tup [bkD b (.spot (Yco b [])) (Yak b []),.I 0]):=by
 have ho:=Yjh h [] (by simp);refine Yaa (G 25) Ypu (Xb6 b true 0 (.spot (Yco b [])) (Yak b [])) ⟨Yps hs h,rfl,rfl,ho,?_,trivial⟩
 have:=Yjj hc
 cases hq:Yak b [] with
 | nil=>exact absurd hq this
 | cons x l=>simp;omega
theorem Zjx {b:Book}(hs:Small b):Contract PR glob 80 [Yah b] (.tup [.bool (Yen b&&canF b),.I (Yai b)]):=by
 cases hv:Yen b with
 | false =>
  have hc:=Yir hs;unfold Yai at hc ⊢;rw[hv]at hc ⊢;exact Yaa (G 15) Yxv (Zjy b 10) ⟨hc,rfl,trivial⟩
 | true =>
  have hV:=Yc0.1 hv;unfold Yai;rw[hv]
  have:=Zrd b 0 (.spot (Yco b [])) (Yak b [])
  rw[Xfh]at this;exact Yaa (G 15) Yxv this ⟨Yps hs hV,rfl,Yjh hV [] (by simp),trivial⟩
end Go.Di
namespace Go.Di
open Proofs
def spanOr (e:Int)(s:Span):Span:=if e=0 then s else ⟨0,0⟩
def askE (b:Book)(s d:Int):Int:=errF b (Yaf b s&&Ya3 b d)
theorem Zab {b:Book}(hs:Small b)(is:Bool):(errF b is≠0/\(errF b is=12->Valid b/\is=true/\canF b=false)/\(errF b is≠12->Contract PR glob 133 [Yah b,.bool is] (.tup [Ys0,.I (errF b is)])))\/(errF b is=0/\Valid b/\is=true/\canF b=true):=by
 unfold errF
 cases hv:Yen b with
 | false =>
  rw[if_pos rfl];exact .inl ⟨by decide,fun h=>absurd h (by decide),fun _=>Ywt hs is hv⟩
 | true =>
  have hV:=Yc0.1 hv
  cases is with
  | false =>
   refine .inl ⟨by simp,fun h=>by simp at h,fun _=>?_⟩;simpa using Ywu hs hV
  | true =>
   cases hc:canF b with
   | false=>exact .inl ⟨by simp,fun _=>⟨hV,rfl,rfl⟩,fun h=>by simp at h⟩
   | true=>exact .inr ⟨by simp,hV,rfl,rfl⟩
theorem Zim {b:Book}(hs:Small b)(s d:Int):Contract PR glob 111 [Yah b,.I s,.I d] (.tup [spD (spanOr (askE b s d) (Yby b (Yak b []) b.turns s d)),.I (askE b s d)]):=by
 have h1:=Yil b s hs.secs;have h2:=Yze b d;have hc:=Zab hs (Yaf b s&&Ya3 b d);unfold askE;generalize he:errF b (Yaf b s&&Ya3 b d)=e at hc;rcases hc with ⟨hne,h12,h3⟩|⟨h0,hV,his,hcan⟩
 ·have hz:spanOr e (Yby b (Yak b []) b.turns s d)=⟨0,0⟩:=if_neg hne;rw[hz]
  by_cases e12:e=12
  ·obtain⟨hV,his,hcan⟩:=h12 e12;have his':=his;simp only[Bool.and_eq_true]at his';have ha:=Yj5 hs hV hcan;subst e12;have hr:=Yxf b s d (.spot (Yco b []));rw[his'.2]at hr h2;exact Yaa (G 33) Ylt hr ⟨h1,his'.1,his'.1,his'.1,h2,his'.1,ha,by omega,trivial⟩
  ·have h3:=h3 e12;have hb:(e != 0)=true:=by simpa using hne
   cases hsec:Yaf b s with
   | false =>
    rw[hsec]at h3;exact Yaa (G 33) Ylt (Zpx b s d e) ⟨h1,hsec,hsec,hsec,hsec,h3,hb,by omega,trivial⟩
   | true =>
    rw[hsec,Bool.true_and]at h3;exact Yaa (G 33) Ylt (Zil b s d e) ⟨h1,hsec,hsec,hsec,h2,hsec,h3,hb,by omega,trivial⟩
 ·subst h0;have hz:spanOr 0 (Yby b (Yak b []) b.turns s d)=Yby b (Yak b []) b.turns s d:=if_pos rfl;rw[hz];have his':=his;simp only[Bool.and_eq_true]at his';have hsec:=Ya2.1 his'.1;have hday:=Ya2.1 his'.2;have ha:=Yox hs hV hcan;have hdd:=hV.days;have ht:=Zpu b (.spot (Yco b [])) (Yak b []) s d b.turns (Yp5 hV []) (Yjj hcan) (by have:=Ynb hV [];omega) (by omega) hV.secs.2 (by have:=hV.turns;omega) (by omega)
  have hr:=Zpw b s d (.spot (Yco b [])) (Yak b []) (Yby b (Yak b []) b.turns s d);rw[his'.2]at hr h2;exact Yaa (G 33) Ylt hr ⟨h1,his'.1,his'.1,his'.1,h2,his'.1,ha,ht,by omega,trivial⟩
def Ybp (p:Int)(x:TrC):Span:=⟨[x.w0,x.w1,x.w2,x.w3].getD p.toNat 0,[x.w0,x.w1,x.w2,x.w3].getD p.toNat 0⟩
theorem Zox (x:TrC)(p:Int)(hp:0<=p/\p<4):Contract PR glob 135 ([]++[trD x]++[[.int .i64 p]].map fun cs=>.ref cs 0) (spD (Ybp p x)):=by
 have h:=Zoy x p;obtain⟨k,hk,h4⟩:∃ k:Nat,p.toNat=k/\k<4:=⟨p.toNat,rfl,by omega⟩
 have hr:(D.agg [D.I (List.getD [TrC.w0 x,TrC.w1 x,TrC.w2 x,TrC.w3 x,Span.lo (TrC.f0 x),Span.hi (TrC.f0 x),Span.lo (TrC.f1 x),Span.hi (TrC.f1 x),Span.lo (TrC.f2 x),Span.hi (TrC.f2 x),Span.lo (TrC.f3 x),Span.hi (TrC.f3 x)] (0+0+Int.toNat p*1) (0:Int)),D.I (List.getD [TrC.w0 x,TrC.w1 x,TrC.w2 x,TrC.w3 x,Span.lo (TrC.f0 x),Span.hi (TrC.f0 x),Span.lo (TrC.f1 x),Span.hi (TrC.f1 x),Span.lo (TrC.f2 x),Span.hi (TrC.f2 x),Span.lo (TrC.f3 x),Span.hi (TrC.f3 x)] (0+0+Int.toNat p*1) (0:Int))])=spD (Ybp p x):=by
  unfold Ybp;rw[hk]
  match k,h4 with
  | 0,_=>rfl
  | 1,_=>rfl
  | 2,_=>rfl
  | 3,_=>rfl
 rw[hr]at h;exact Yaa (G 13) Zwn h ⟨by omega,by omega,by omega,by omega,by omega,by omega,by omega,trivial⟩
theorem Zow {b:Book}(hs:Small b)(p:Int):Contract PR glob 110 [Yah b,.I p] (.tup [spD (spanOr (errF b (Yaf b p)) (Ydf (Ybp p) (Yak b []))),.I (errF b (Yaf b p))]):=by
 have h1:=Yil b p hs.secs;have hc:=Zab hs (Yaf b p);generalize he:errF b (Yaf b p)=e at hc;rcases hc with ⟨hne,h12,h3⟩|⟨h0,hV,his,hcan⟩
 ·rw[show spanOr e (Ydf (Ybp p) (Yak b []))=⟨0,0⟩ from if_neg hne]
  by_cases e12:e=12
  ·obtain⟨hV,his,hcan⟩:=h12 e12;have ha:=Yj5 hs hV hcan;subst e12;have hr:=Za4 b p (.spot (Yco b []));rw[his]at hr h1;exact Yaa (G 23) Yun hr ⟨by omega,h1,ha,by omega,trivial⟩
  ·exact Yaa (G 23) Yun (Zov b p e) ⟨by omega,h1,h3 e12,by simpa using hne,by omega,trivial⟩
 ·subst h0;rw[show spanOr 0 (Ydf (Ybp p) (Yak b []))=Ydf (Ybp p) (Yak b []) from if_pos rfl];have hsec:=Ya2.1 his;have hl:=hV.secs;have ha:=Yox hs hV hcan;have ht:=Zf4 b (.spot (Yco b [])) (Yak b []) 135 [] [[.int .i64 p]] (Ybp p) (fun x _=>Zox x p (by omega)) (Yjj hcan) (by have:=Ynb hV [];omega);have hr:=Zwm b p (.spot (Yco b [])) (Yak b []) (Ydf (Ybp p) (Yak b []));rw[his]at hr h1;refine Yaa (G 23) Yun hr ?_
  repeat(first|exact trivial|refine⟨by first|exact h1|exact ha|exact ht|omega,?_⟩)
def more (b:Book)(x:Sv):Book:=⟨b.secs,b.turns,b.svs++[x],b.rule,b.days⟩
end Go.Di
namespace Go.Di
open Proofs
end Go.Di
namespace Go.Di
open Proofs
end Go.Di
namespace Go.Di
open Proofs
end Go.Di
namespace Go.Di
open Proofs
theorem Zb6 {R:Foot}{w:World}{e:E}{xs:List e.α}{v:Value}(h:RelA R w (.sl true e xs) v):RelA R w (.z e xs) v:=by
 obtain⟨A,c,hv,hc,hm,_,hr⟩:=h;exact⟨A,c,hv,hc,hm,fun h=>(by cases h),hr⟩
end Go.Di
namespace Go.Di
open Go.RowKit
section
variable {P:Program} {C:Cfg} {w0 w w':World} {R0 R:Foot} {a:Act} {s:St} {β:Nat->Nat} {σ:Sig} {Q:Exit->Act->World->Prop}
theorem SelfR.make {f:FuncId}{cells:List D}{p v:Value}{b:Nat}(hv:v=.func (.func f) #[] #[p,.pointer (some ⟨b,0,none⟩)])(hp:RelCap R w cells p)(hR:R b 0)(hc:w.cell? ⟨b,0,none⟩=some v):∀ n,SelfR R w f cells n v
 | 0=>trivial
 | n+1=>⟨p,b,0,v,hv,hp,hR,hc,⟨_,_,hv⟩,SelfR.make hv hp hR hc n⟩
end
end Go.Di
namespace Go.Di
open Proofs
end Go.Di
namespace Go.Di
open Proofs
end Go.Di
namespace Go.Di
open Proofs
def Ygk (n lo hi:Int):Bool:=decide (n>=lo)&&decide (n<=hi)
end Go.Di
namespace Go.Di
open Proofs
noncomputable abbrev k_25 (p:List Nat):Code:=Code.at p (body Proofs.Tryz.f25)
noncomputable abbrev k_78 (p:List Nat):Code:=Code.at p (body Proofs.Tryz.f78)
noncomputable abbrev k_57 (p:List Nat):Code:=Code.at p (body Proofs.Tryz.f57)
theorem Zr0:FnOk PR (MP 8) 94 (body Tryz.f94) [.cell 4 113]:=by refine⟨Tryz.f94,?_,?_,?_,?_,?_⟩<;>kernel_rfl
theorem Zzi:FnOk PR (MP 6) 116 (body Tryz.f116) [.cell 2 113]:=by refine⟨Tryz.f116,?_,?_,?_,?_,?_⟩<;>kernel_rfl
theorem Yzg:FnOk PR (MP 15) 51 (body Tryz.f51) [.tmp 6]:=by refine⟨Tryz.f51,?_,?_,?_,?_,?_⟩<;>kernel_rfl
theorem Yp4:FnOk PR (MP 24) 91 (body Tryz.f91) [.tmp 6]:=by refine⟨Tryz.f91,?_,?_,?_,?_,?_⟩<;>kernel_rfl
theorem Ywx:FnOk PR (MP 26) 25 (body Tryz.f25) [.tmp 4]:=by refine⟨Tryz.f25,?_,?_,?_,?_,?_⟩<;>kernel_rfl
theorem Xcv:FnOk PR (MP 19) 78 (body Tryz.f78) [.tmp 4]:=by refine⟨Tryz.f78,?_,?_,?_,?_,?_⟩<;>kernel_rfl
theorem Yru:FnOk PR (MP 36) 57 (body Tryz.f57) [.tmp 4]:=by refine⟨Tryz.f57,?_,?_,?_,?_,?_⟩<;>kernel_rfl
def Yeh (xs ys:LI)(i:Nat):KV :=
 [(.tmp 0,.d (D.z E.int xs)),
  (.tmp 1,.d (D.z E.int ys)),
  (.tmp 5,.d (.I i))]
def Ypw:List Key:=[.tmp 0,.tmp 1,.tmp 5]
def Yj4 (xs:LI)(v:Int)(i:Nat):KV :=
 [(.tmp 0,.d (D.z E.int xs)),
  (.tmp 1,.d (D.I v)),
  (.tmp 5,.d (.I i))]
def Zh4:List Key:=[.tmp 0,.tmp 1,.tmp 5]
def Ycm (xs:LI)(m:Int)(i:Nat):KV :=
 [(.tmp 0,.d (D.z E.int xs)),
  (.tmp 1,.d (D.I m)),
  (.tmp 5,.d (.I i))]
def Yhz:List Key:=[.tmp 0,.tmp 1,.tmp 5]
theorem Zof (xs ys:LI)(i:Nat) :runK (MP 26) [(14,true),(25,false)] [] [] (k_25 [1,1,0,1,0,0]) (Yeh xs ys i) Ypw =some ([decide ((i:Int)<((xs.length:Nat):Int))=true,(0:Int)<=(i:Int)/\(i:Int)<((xs.length:Nat):Int),0+1<=1,(0:Int)<=(i:Int)/\(i:Int)<((ys.length:Nat):Int),0+1<=1,(List.getD xs (Int.toNat ((i:Int))) (E.z E.int) != List.getD ys (Int.toNat ((i:Int))) (E.z E.int))=false,Yae ((i:Int)+(1:Int))],Ex.normal,[(.tmp 0,.d (D.z E.int xs)),(.tmp 1,.d (D.z E.int ys)),(.tmp 5,.d (D.I ((i:Int)+(1:Int))))]):=by kernel_rfl
theorem Zaz (xs ys:LI)(i:Nat) :runK (MP 26) [(14,true),(25,true)] [] [] (k_25 [1,1,0,1,0,0]) (Yeh xs ys i) [.tmp 0,.tmp 1,.tmp 5,.tmp 4] =some ([decide ((i:Int)<((xs.length:Nat):Int))=true,(0:Int)<=(i:Int)/\(i:Int)<((xs.length:Nat):Int),0+1<=1,(0:Int)<=(i:Int)/\(i:Int)<((ys.length:Nat):Int),0+1<=1,(List.getD xs (Int.toNat ((i:Int))) (E.z E.int) != List.getD ys (Int.toNat ((i:Int))) (E.z E.int))=true],Ex.ret,[(.tmp 0,.d (D.z E.int xs)),(.tmp 1,.d (D.z E.int ys)),(.tmp 5,.d (D.I ((i:Int)))),(.tmp 4,.d (D.bool false))]):=by kernel_rfl
theorem Zfu (xs ys:LI)(i:Nat) :runK (MP 26) [(14,false)] [] [] (k_25 [1,1,0,1,0,0]) (Yeh xs ys i) Ypw =some ([decide ((i:Int)<((xs.length:Nat):Int))=false],Ex.exit 0,[(.tmp 0,.d (D.z E.int xs)),(.tmp 1,.d (D.z E.int ys)),(.tmp 5,.d (D.I ((i:Int))))]):=by kernel_rfl
theorem Xb5 (xs:LI)(v:Int)(i:Nat) :runK (MP 19) [(9,true),(17,false)] [] [] (k_78 [1,0,1,0,0]) (Yj4 xs v i) Zh4 =some ([decide ((i:Int)<((xs.length:Nat):Int))=true,(0:Int)<=(i:Int)/\(i:Int)<((xs.length:Nat):Int),0+1<=1,(List.getD xs (Int.toNat ((i:Int))) (E.z E.int)==v)=false,Yae ((i:Int)+(1:Int))],Ex.normal,[(.tmp 0,.d (D.z E.int xs)),(.tmp 1,.d (D.I v)),(.tmp 5,.d (D.I ((i:Int)+(1:Int))))]):=by kernel_rfl
theorem Zv7 (xs:LI)(v:Int)(i:Nat) :runK (MP 19) [(9,true),(17,true)] [] [] (k_78 [1,0,1,0,0]) (Yj4 xs v i) [.tmp 0,.tmp 1,.tmp 5,.tmp 4] =some ([decide ((i:Int)<((xs.length:Nat):Int))=true,(0:Int)<=(i:Int)/\(i:Int)<((xs.length:Nat):Int),0+1<=1,(List.getD xs (Int.toNat ((i:Int))) (E.z E.int)==v)=true],Ex.ret,[(.tmp 0,.d (D.z E.int xs)),(.tmp 1,.d (D.I v)),(.tmp 5,.d (D.I ((i:Int)))),(.tmp 4,.d (D.I ((i:Int))))]):=by kernel_rfl
theorem Zv8 (xs:LI)(v:Int)(i:Nat) :runK (MP 19) [(9,false)] [] [] (k_78 [1,0,1,0,0]) (Yj4 xs v i) Zh4 =some ([decide ((i:Int)<((xs.length:Nat):Int))=false],Ex.exit 0,[(.tmp 0,.d (D.z E.int xs)),(.tmp 1,.d (D.I v)),(.tmp 5,.d (D.I ((i:Int))))]):=by kernel_rfl
theorem Zal (xs:LI)(m:Int)(i:Nat) :runK (MP 36) [(9,true),(23,false)] [(18,.bool true)] [] (k_57 [1,0,1,0,0]) (Ycm xs m i) Yhz =let Z0:Prop:=decide ((i:Int)>(0:Int))=false;some ([decide ((i:Int)<((xs.length:Nat):Int))=true,(0:Int)<=(i:Int)/\(i:Int)<((xs.length:Nat):Int),0+1<=1,Yae (m-(1:Int)),Contract PR glob 51 [D.I (List.getD xs (Int.toNat ((i:Int))) (E.z E.int)),D.I 0,D.I (m-(1:Int))] (D.bool true),Z0,Z0,Z0,Z0,Z0,Z0,Z0,Z0,Z0,Z0,Z0,Yae ((i:Int)+(1:Int))],Ex.normal,[(.tmp 0,.d (D.z E.int xs)),(.tmp 1,.d (D.I m)),(.tmp 5,.d (D.I ((i:Int)+(1:Int))))]):=by kernel_rfl
theorem Zak (xs:LI)(m:Int)(i:Nat) :runK (MP 36) [(9,true),(23,true),(35,false)] [(18,.bool true)] [] (k_57 [1,0,1,0,0]) (Ycm xs m i) Yhz =let Z0:Prop:=decide ((i:Int)>(0:Int))=true;some ([decide ((i:Int)<((xs.length:Nat):Int))=true,(0:Int)<=(i:Int)/\(i:Int)<((xs.length:Nat):Int),0+1<=1,Yae (m-(1:Int)),Contract PR glob 51 [D.I (List.getD xs (Int.toNat ((i:Int))) (E.z E.int)),D.I 0,D.I (m-(1:Int))] (D.bool true),Z0,Z0,Z0,(0:Int)<=(i:Int)/\(i:Int)<((xs.length:Nat):Int),Z0,0+1<=1,Z0,Z0,Z0,Yae ((i:Int)-(1:Int)),Z0,(0:Int)<=(i:Int)-(1:Int)/\(i:Int)-(1:Int)<((xs.length:Nat):Int),Z0,0+1<=1,Z0,Z0,decide (List.getD xs (Int.toNat ((i:Int))) (E.z E.int)<=List.getD xs (Int.toNat ((i:Int)-(1:Int))) (E.z E.int))=false,Yae ((i:Int)+(1:Int))],Ex.normal,[(.tmp 0,.d (D.z E.int xs)),(.tmp 1,.d (D.I m)),(.tmp 5,.d (D.I ((i:Int)+(1:Int))))]):=by kernel_rfl
theorem Zaj (xs:LI)(m:Int)(i:Nat) :runK (MP 36) [(9,true)] [(18,.bool false)] [] (k_57 [1,0,1,0,0]) (Ycm xs m i) [.tmp 0,.tmp 1,.tmp 5,.tmp 4] =some ([decide ((i:Int)<((xs.length:Nat):Int))=true,(0:Int)<=(i:Int)/\(i:Int)<((xs.length:Nat):Int),0+1<=1,Yae (m-(1:Int)),Contract PR glob 51 [D.I (List.getD xs (Int.toNat ((i:Int))) (E.z E.int)),D.I 0,D.I (m-(1:Int))] (D.bool false)],Ex.ret,[(.tmp 0,.d (D.z E.int xs)),(.tmp 1,.d (D.I m)),(.tmp 5,.d (D.I ((i:Int)))),(.tmp 4,.d (D.bool false))]):=by kernel_rfl
theorem Zam (xs:LI)(m:Int)(i:Nat) :runK (MP 36) [(9,true),(23,true),(35,true)] [(18,.bool true)] [] (k_57 [1,0,1,0,0]) (Ycm xs m i) [.tmp 0,.tmp 1,.tmp 5,.tmp 4] =let Z0:Prop:=decide ((i:Int)>(0:Int))=true;some ([decide ((i:Int)<((xs.length:Nat):Int))=true,(0:Int)<=(i:Int)/\(i:Int)<((xs.length:Nat):Int),0+1<=1,Yae (m-(1:Int)),Contract PR glob 51 [D.I (List.getD xs (Int.toNat ((i:Int))) (E.z E.int)),D.I 0,D.I (m-(1:Int))] (D.bool true),Z0,Z0,Z0,(0:Int)<=(i:Int)/\(i:Int)<((xs.length:Nat):Int),Z0,0+1<=1,Z0,Z0,Z0,Yae ((i:Int)-(1:Int)),Z0,(0:Int)<=(i:Int)-(1:Int)/\(i:Int)-(1:Int)<((xs.length:Nat):Int),Z0,0+1<=1,Z0,Z0,decide (List.getD xs (Int.toNat ((i:Int))) (E.z E.int)<=List.getD xs (Int.toNat ((i:Int)-(1:Int))) (E.z E.int))=true],Ex.ret,[(.tmp 0,.d (D.z E.int xs)),(.tmp 1,.d (D.I m)),(.tmp 5,.d (D.I ((i:Int)))),(.tmp 4,.d (D.bool false))]):=by kernel_rfl
theorem Zan (xs:LI)(m:Int)(i:Nat) :runK (MP 36) [(9,false)] [] [] (k_57 [1,0,1,0,0]) (Ycm xs m i) Yhz =some ([decide ((i:Int)<((xs.length:Nat):Int))=false],Ex.exit 0,[(.tmp 0,.d (D.z E.int xs)),(.tmp 1,.d (D.I m)),(.tmp 5,.d (D.I ((i:Int))))]):=by kernel_rfl
def Ym5 (xs ys:LI)(i:Nat)  : KV :=
 [(.tmp 0,.d (D.z E.int xs)),(.tmp 1,.d (D.z E.int ys)),(.tmp 5,.d (D.I ((i:Int)))),(.tmp 4,.d (D.bool false))]
def Yuj (xs:LI)(v:Int)(i:Nat)  : KV :=
 [(.tmp 0,.d (D.z E.int xs)),(.tmp 1,.d (D.I v)),(.tmp 5,.d (D.I ((i:Int)))),(.tmp 4,.d (D.I ((i:Int))))]
def Ymy (xs:LI)(m:Int)(i:Nat)  : KV :=
 [(.tmp 0,.d (D.z E.int xs)),(.tmp 1,.d (D.I m)),(.tmp 5,.d (D.I ((i:Int)))),(.tmp 4,.d (D.bool false))]
def Ymz (xs:LI)(m:Int)(i:Nat)  : KV :=
 [(.tmp 0,.d (D.z E.int xs)),(.tmp 1,.d (D.I m)),(.tmp 5,.d (D.I ((i:Int)))),(.tmp 4,.d (D.bool false))]
theorem Zkb (a c:Int) :Yaj (MP 8) [] [] [] (body Tryz.f94) [.cell 4 113] [.I a,.I c] =some ([0+2<=2],D.agg [D.I a,D.I c]):=by kernel_rfl
theorem Zsp (a:Int) :Yaj (MP 6) [] [(5,spD ⟨a,a⟩)] [] (body Tryz.f116) [.cell 2 113] [.I a] =some ([Contract PR glob 94 [D.I a,D.I a] (D.agg [D.I (Span.lo (Span.mk a a)),D.I (Span.hi (Span.mk a a))]),0+2<=2],D.agg [D.I (Span.lo (Span.mk a a)),D.I (Span.hi (Span.mk a a))]):=by kernel_rfl
theorem Zt1 (n lo hi:Int) :Yaj (MP 15) [(10,false)] [] [] (body Tryz.f51) [.tmp 6] [.I n,.I lo,.I hi] =let Z0:Prop:=decide (n>=lo)=false;some ([Z0,Z0,Z0,Z0],D.bool false):=by kernel_rfl
theorem Zl5 (n lo hi:Int) :Yaj (MP 15) [(10,true)] [] [] (body Tryz.f51) [.tmp 6] [.I n,.I lo,.I hi] =let Z0:Prop:=decide (n>=lo)=true;some ([Z0,Z0,Z0,Z0],D.bool (decide (n<=hi))):=by kernel_rfl
theorem Zws (s:Span)(lo hi:Int) :Yaj (MP 24) [(11,false)] [] [] (body Tryz.f91) [.tmp 6] [spD s,.I lo,.I hi] =let Z0:Prop:=decide (s.lo>=lo)=false;some ([0+0+1<=2,Z0,Z0,Z0,Z0,Z0,Z0],D.bool false):=by kernel_rfl
theorem Zwr (s:Span)(lo hi:Int) :Yaj (MP 24) [(11,true),(18,false)] [] [] (body Tryz.f91) [.tmp 6] [spD s,.I lo,.I hi] =let Z0:Prop:=decide (s.lo>=lo)=true;let Z1:Prop:=decide (s.lo<=s.hi)=false;some ([0+0+1<=2,Z0,Z0,0+0+1<=2,Z0,Z0,0+1+1<=2,Z0,Z0,Z1,Z1,Z1,Z1,Z1],D.bool false):=by kernel_rfl
theorem Zwq (s:Span)(lo hi:Int) :Yaj (MP 24) [(11,true),(18,true)] [] [] (body Tryz.f91) [.tmp 6] [spD s,.I lo,.I hi] =let Z0:Prop:=decide (s.lo>=lo)=true;let Z1:Prop:=decide (s.lo<=s.hi)=true;some ([0+0+1<=2,Z0,Z0,0+0+1<=2,Z0,Z0,0+1+1<=2,Z0,Z0,Z1,Z1,0+1+1<=2,Z1,Z1,Z1],D.bool (decide (s.hi<=hi))):=by kernel_rfl
theorem Zwd (xs ys:LI) :Yaj (MP 26) [(10,true)] [] [] (body Tryz.f25) [.tmp 4] [.z .int xs,.z .int ys] =some ([(((xs.length:Nat):Int) != ((ys.length:Nat):Int))=true],D.bool false):=by kernel_rfl
theorem Zoe (xs ys:LI)(i:Nat) :Yaj (MP 26) [(10,false)] [] [(0,(Ypw,(.ret,Ym5 xs ys i)))] (body Tryz.f25) [.tmp 4] [.z .int xs,.z .int ys] =some ([(((xs.length:Nat):Int) != ((ys.length:Nat):Int))=false,LoopT PR glob 26 (k_25 [1,1,0,1]) (Yeh xs ys 0) Ex.ret (Ym5 xs ys i)],D.bool false):=by kernel_rfl
theorem Zwe (xs ys:LI)(i:Nat) :Yaj (MP 26) [(10,false)] [] [(0,(Ypw,(.normal,Yeh xs ys i)))] (body Tryz.f25) [.tmp 4] [.z .int xs,.z .int ys] =some ([(((xs.length:Nat):Int) != ((ys.length:Nat):Int))=false,LoopT PR glob 26 (k_25 [1,1,0,1]) (Yeh xs ys 0) Ex.normal (Yeh xs ys i)],D.bool true):=by kernel_rfl
theorem Xgm (xs:LI)(v:Int)(i:Nat) :Yaj (MP 19) [] [] [(0,(Zh4,(.ret,Yuj xs v i)))] (body Tryz.f78) [.tmp 4] [.z .int xs,.I v] =some ([LoopT PR glob 19 (k_78 [1,0,1]) (Yj4 xs v 0) Ex.ret (Yuj xs v i)],D.I ((i:Int))):=by kernel_rfl
theorem Xgn (xs:LI)(v:Int)(i:Nat) :Yaj (MP 19) [] [] [(0,(Zh4,(.normal,Yj4 xs v i)))] (body Tryz.f78) [.tmp 4] [.z .int xs,.I v] =some ([LoopT PR glob 19 (k_78 [1,0,1]) (Yj4 xs v 0) Ex.normal (Yj4 xs v i)],D.I (-(1:Int))):=by kernel_rfl
theorem Zni (xs:LI)(m:Int)(i:Nat) :Yaj (MP 36) [] [] [(0,(Yhz,(.ret,Ymy xs m i)))] (body Tryz.f57) [.tmp 4] [.z .int xs,.I m] =some ([LoopT PR glob 36 (k_57 [1,0,1]) (Ycm xs m 0) Ex.ret (Ymy xs m i)],D.bool false):=by kernel_rfl
theorem Znj (xs:LI)(m:Int)(i:Nat) :Yaj (MP 36) [] [] [(0,(Yhz,(.ret,Ymz xs m i)))] (body Tryz.f57) [.tmp 4] [.z .int xs,.I m] =some ([LoopT PR glob 36 (k_57 [1,0,1]) (Ycm xs m 0) Ex.ret (Ymz xs m i)],D.bool false):=by kernel_rfl
theorem Znl (xs:LI)(m:Int)(i:Nat) :Yaj (MP 36) [] [] [(0,(Yhz,(.normal,Ycm xs m i)))] (body Tryz.f57) [.tmp 4] [.z .int xs,.I m] =some ([LoopT PR glob 36 (k_57 [1,0,1]) (Ycm xs m 0) Ex.normal (Ycm xs m i)],D.bool true):=by kernel_rfl
end Go.Di
