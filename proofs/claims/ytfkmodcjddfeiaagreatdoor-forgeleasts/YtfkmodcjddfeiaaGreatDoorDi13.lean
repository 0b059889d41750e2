/- Part 13: contracts are proved. No condition. -/
import Derived.Test.YtfkmodcjddfeiaaGreatDoorDi12
set_option linter.unusedVariables false
set_option linter.unusedSimpArgs false
namespace Go.Di
open Proofs
open Go.RowKit
theorem Contract.toArgs {P:Program}{glob:Nat→Option (List D)}{f:FuncId}{args args':List D}{r:D}(h:Contract P glob f args r)(hr:∀ R w vs,All2 (Rel R w) args' vs→All2 (Rel R w) args vs):Contract P glob f args' r :=
 ⟨h.form,fun w R vs hs hg ha=>h.calls w R vs hs hg (hr R w vs ha)⟩
theorem Contract.toRes {P:Program}{glob:Nat→Option (List D)}{f:FuncId}{args:List D}{r r':D}(h:Contract P glob f args r)(hr:∀ R w v,Rel R w r v→Rel R w r' v):Contract P glob f args r' :=
 ⟨h.form,fun w R vs hs hg ha=>(h.calls w R vs hs hg ha).mono fun e w' ⟨v,he,hb,R',h1,h2,h3⟩=>⟨v,he,hb,R',h1,h2,hr _ _ _ h3⟩⟩
theorem nil_trc {R:Foot}{w:World}{b:Book}{m:D}{v:Value}(h:Rel R w (.agg (bkC b m .nil)) v):Rel R w (.agg (bkC b m (.sl false .trc []))) v:=by
 obtain⟨vs,hv,h⟩:=h
 have hlen:(bkC b m (.sl false .trc [])).length=vs.toList.length:=by have:=All2.length h;exact this
 refine⟨vs,hv,All2.of_get hlen fun i d u hd hu=>?_⟩
 have hi:i<7:=(List.getElem?_eq_some_iff.1 hd).1
 by_cases h6:i=6
 ·subst h6
  cases hd
  obtain⟨u',hu',hr⟩:=All2.get h 6 .nil rfl
  rw[hu]at hu'
  cases hu'
  have hr:u=.slice none 0 0:=hr
  rw[hr]
  exact sl_nil _ _ _ _ _
 ·have hd':(bkC b m .nil)[i]?=some d:=by
   match i,hi,h6,hd with
   | 0,_,_,hd=>exact hd
   | 1,_,_,hd=>exact hd
   | 2,_,_,hd=>exact hd
   | 3,_,_,hd=>exact hd
   | 4,_,_,hd=>exact hd
   | 5,_,_,hd=>exact hd
   | n+6,hi,h6,_=>omega
  obtain⟨u',hu',hr⟩:=All2.get h i d hd'
  rw[hu]at hu'
  cases hu'
  exact hr
theorem Ybq {α:Type}(l:List α)(i:Nat)(d:α)(h:i<l.length):l.getD i d∈l:=by
 rw[List.getD_eq_getElem?_getD,List.getElem?_eq_getElem h]
 exact List.getElem_mem h
def openStep (but:List Int)(l:List Ent)(i:Nat)(y:Sv):List Ent :=
 if (i:Int)∈but then l else updK l (y.s,y.d) (match Ybf l (y.s,y.d) with
  | some old=>bothF old ⟨y.r-y.e,y.r+y.e⟩
  | none=>⟨y.r-y.e,y.r+y.e⟩)
def Yev (b:Book)(but:List Int):Nat→List Ent
 | 0=>[((-1,-1),⟨0,0⟩)]
 | k+1=>openStep but (Yev b but k) k (svZ b k)
def Ycf (b:Book)(but:List Int):List Ent:=Yev b but b.svs.length
theorem plain72:Cfg.plain (mk PR (Yac types) glob 72):=⟨fun _ h=>h,fun _ h=>h,rfl⟩
structure SvOk (y:Sv):Prop where
 d:y.d≤1000
 r:-100000≤y.r∧y.r≤100000
 e:-100000≤y.e∧y.e≤100000
theorem opened_loop (b:Book)(but:List Int)(hb:but.length≤100000)(hs:b.svs.length≤100000)(hsv:∀ y∈b.svs,SvOk y) :
  WpL PR (mk PR (Yac types) glob 72) (.block 0 (.loop (Yd5 [1,1,0,1,0,0]))) (opS b but (Yev b but 0) 0) (fun e L'=>e=.normal∧L'=opE b (Ycf b but)):=by
 have hcon:=fun(v:Int)=>contains_con but v (by omega)
 refine WpL.block (WpL.loop (S:=fun i:{i:Nat // i≤b.svs.length}=>opS b but (Yev b but i.1) i.1) (fun i=>b.svs.length-i.1) ?_ ⟨0,Nat.zero_le _⟩)
 rintro⟨i,hi⟩
 dsimp only
 by_cases hlt:i<b.svs.length
 ·have hy:SvOk (svZ b i):=hsv _ (Ybq _ _ _ hlt)
  obtain⟨_,⟨r1,r2⟩,⟨e1,e2⟩⟩:=hy
  have hgo:WpL PR (mk PR (Yac types) glob 72) (Yd5 [1,1,0,1,0,0]) (opS b but (Yev b but i) i) (fun e L'=>e=.normal∧L'=opS b but (Yev b but (i+1)) (i+1)):=by
   have hst:Yev b but (i+1)=openStep but (Yev b but i) i (svZ b i):=rfl
   rw[hst]
   unfold openStep
   have hc:=hcon i
   by_cases hm:(i:Int)∈but
   ·rw[decide_eq_true hm]at hc
    rw[if_pos hm]
    exact WpL.path (G 72) (op_skip b but _ i) ⟨decide_eq_true (by omega),⟨by omega,by omega⟩,by omega,hc,rfl,by simp only[Yae];omega,trivial⟩ ⟨rfl,rfl⟩
   ·rw[decide_eq_false hm]at hc
    rw[if_neg hm]
    cases hl:Ybf (Yev b but i) ((svZ b i).s,(svZ b i).d) with
    | none =>
     exact WpL.path (G 72) (op_new b but _ i) ⟨decide_eq_true (by omega),⟨by omega,by omega⟩,by omega,hc,by omega,by omega,by omega,by omega,by simp only[Yae];omega,by omega,by omega,by simp only[Yae];omega,by omega,by rw[hl];rfl,by omega,by omega,plain72,by simp only[Yae];omega,trivial⟩ ⟨rfl,rfl⟩
    | some old =>
     have hbo:=both_con old ⟨(svZ b i).r-(svZ b i).e,(svZ b i).r+(svZ b i).e⟩
     exact WpL.path (G 72) (op_old b but _ i (bothF old ⟨(svZ b i).r-(svZ b i).e,(svZ b i).r+(svZ b i).e⟩)) ⟨decide_eq_true (by omega),⟨by omega,by omega⟩,by omega,hc,by omega,by omega,by omega,by omega,by simp only[Yae];omega,by omega,by omega,by simp only[Yae];omega,by omega,by rw[hl];rfl,by omega,by omega,by rw[hl];exact hbo,by omega,by omega,plain72,by simp only[Yae];omega,trivial⟩ ⟨rfl,rfl⟩
  refine hgo.mono fun e L' hL=>?_
  obtain⟨rfl,rfl⟩:=hL
  exact⟨⟨i+1,hlt⟩,rfl,by dsimp only;omega⟩
 ·have hie:i=b.svs.length:=by omega
  refine WpL.path (G 72) (op_end b but _ i) ⟨decide_eq_false (by omega),trivial⟩ ?_
  show(if 0=0 then _ else _)
  rw[if_pos rfl]
  exact⟨rfl,by rw[hie];rfl⟩
theorem mx_in {a b lo hi:Int}(ha:lo≤a∧a≤hi)(hb:lo≤b∧b≤hi):lo≤mx a b∧mx a b≤hi:=by unfold mx;split<;>omega
theorem mn_in {a b lo hi:Int}(ha:lo≤a∧a≤hi)(hb:lo≤b∧b≤hi):lo≤mn a b∧mn a b≤hi:=by unfold mn;split<;>omega
theorem updK_ok {p:Ent→Prop}:∀ {l:List Ent} {k:K2} {v:Span},(∀ e∈l,p e)→p (k,v)→∀ e∈updK l k v,p e
 | [],k,v,_,h=>by simpa [updK] using h
 | (k',u)::l,k,v,hl,h=>by
  intro e he
  simp only[updK]at he
  split at he
  ·rcases List.mem_cons.1 he with rfl|he
   ·exact h
   ·exact hl e (by simp[he])
  ·rcases List.mem_cons.1 he with rfl|he
   ·exact hl _ (by simp)
   ·exact updK_ok (fun e he=>hl e (by simp[he])) h e he
theorem lookK_ok {p:Ent→Prop}:∀ {l:List Ent} {k:K2} {v:Span},(∀ e∈l,p e)→Ybf l k=some v→p (k,v)
 | (k',u)::l,k,v,hl,h=>by
  simp only[Ybf]at h
  split at h
  ·rename_i hk
   cases h
   subst hk
   exact hl _ (by simp)
  ·exact lookK_ok (fun e he=>hl e (by simp[he])) h
theorem openTo_ok (b:Book)(but:List Int)(hsv:∀ y∈b.svs,SvOk y):∀ k,k≤b.svs.length→∀ e∈Yev b but k,EntOk e
 | 0,_=>by
  intro e he
  simp only[Yev,List.mem_singleton]at he
  subst he
  exact⟨by decide,by decide,by decide⟩
 | k+1,hk=>by
  have ih:=openTo_ok b but hsv k (by omega)
  have hy:SvOk (svZ b k):=hsv _ (Ybq _ _ _ hk)
  obtain⟨d1,⟨r1,r2⟩,⟨e1,e2⟩⟩:=hy
  show ∀ e∈openStep but (Yev b but k) k (svZ b k),EntOk e
  unfold openStep
  split
  ·exact ih
  ·refine updK_ok ih ?_
   split
   ·rename_i old hold
    obtain⟨_,o1,o2⟩:=lookK_ok ih hold
    refine⟨d1,?_,?_⟩
    ·exact mx_in o1 (by dsimp only;omega)
    ·exact mn_in o2 (by dsimp only;omega)
   ·exact⟨d1,by dsimp only;omega,by dsimp only;omega⟩
structure BookOk (b:Book):Prop where
 secs:b.secs.length≤4
 turns:b.turns.length≤1000
 svs:b.svs.length≤100000
 sv:∀ y∈b.svs,SvOk y
 wear:∀ p<b.secs.length,0≤(b.secs.getD p sec0).w.lo∧-1≤(b.secs.getD p sec0).w.hi∧(b.secs.getD p sec0).w.hi≤1000
def Yaj (b:Book)(but:List Int):List TrC:=Ya3 b (Ycf b but) b.secs.length 0 ⟨0,0,0,0⟩
theorem opened_con (b:Book)(hb:BookOk b)(but:List Int)(hbut:but.length≤100000)(hlen:(Yaj b but).length≤1000000):Contract PR glob 109 [Yag b,.sl false .int but] (bkD b (.spot (Ycf b but)) (Yaj b but)):=by
 have hent:=openTo_ok b but hb.sv b.svs.length (Nat.le_refl _)
 have hwh:Contract PR glob 132 [.agg (bkC b (.map (.spot (Ycf b but))) .nil)] (opW b (Ycf b but)):=(whole_con b (.spot (Ycf b but)) []).toArgs fun R w vs h=>by
  obtain⟨v,l,rfl,h1,h2⟩:=Yan h
  exact⟨nil_trc h1,h2⟩
 have hcode:body Tryz.f109=.seq (Yd5 [0]) (.seq (Yd5 [1,0]) (.seq (.seq (Yd5 [1,1,0,0]) (.block 0 (.loop (Yd5 [1,1,0,1,0,0]))))
  (.seq (.seq (Yd5 [1,1,1,0,0]) (.block 2 (.rangeFunc (.tmp 63) #[64] (Yd5 [1,1,1,0,1,0,0]) (Yd5 [1,1,1,0,1,0,1])))) (Yd5 [1,1,1,1])))):=by kernel_rfl
 have hpre:WpL PR (mk PR (Yac types) glob 72) (.seq (Yd5 [1,1,0,0]) (.block 0 (.loop (Yd5 [1,1,0,1,0,0])))) (opB b but) (fun e L'=>e=.normal∧L'=opE b (Ycf b but)) :=
  WpL.seq (WpL.path (G 72) (op_2 b but) trivial (opened_loop b but hbut hb.svs hb.sv))
 have hstart:WpL PR (mk PR (Yac types) glob 72) (Yd5 [1,1,1,0,0]) (opE b (Ycf b but)) (fun e L'=>e=.normal∧L'=(.tmp 63,.d (opW b (Ycf b but)))::opR b (Ycf b but) []) :=
  WpL.tell (fun _ h=>h) (j:=14) (m:=.spot (Ycf b but)) rfl (WpL.path (G 72) (op_12 b (Ycf b but)) ⟨hwh,trivial⟩ ⟨rfl,rfl⟩)
 have hgoal:∀(r:D),(∀(ke:Nat→Prop) (w1:World) (ds:List Deferred),WpL PR (mkE PR (Yac types) glob 72 ke w1 ds) (Yd5 [1,1,1,1]) (opR b (Ycf b but) (Yaj b but)) (fun e L'=>e=.ret∧∃ ps,fin (mkE PR (Yac types) glob 72 ke w1 ds) [.cell 4 141] (ofL L')=some (ps,r)∧allP ps)) →
   Contract PR glob 109 [Yag b,.sl false .int but] r:=by
  intro r hend
  refine Yed Yav op_fn ?_
  intro w0 R0 a Q hH hQ
  rw[hcode]
  refine wpIn_seq (WpL.path (G 72) (op_0 b but) trivial (Post:=fun e L'=>e=.normal∧L'=opA b but) ⟨rfl,rfl⟩ w0 R0 a w0 _ none 1 (fun _=>rfl) hH fun e L' a1 W1 hp hH1=>?_)
  obtain⟨rfl,rfl⟩:=hp
  show Code.wpIn _ _ _ _ _ _ _
  refine wpIn_seq (WpL.path (G 72) (op_1 b but) ⟨plain72,by omega,plain72,trivial⟩ (Post:=fun e L'=>e=.normal∧L'=opB b but) ⟨rfl,rfl⟩ w0 R0 a1 W1 _ none 1 (fun _=>rfl) hH1 fun e L' a2 W2 hp hH2=>?_)
  obtain⟨rfl,rfl⟩:=hp
  show Code.wpIn _ _ _ _ _ _ _
  refine wpIn_seq (hpre w0 R0 a2 W2 _ none 1 (fun _=>rfl) hH2 fun e L' a3 W3 hp hH3=>?_)
  obtain⟨rfl,rfl⟩:=hp
  show Code.wpIn _ _ _ _ _ _ _
  refine wpIn_seq (wpIn_seq (hstart w0 R0 a3 W3 _ none 1 (fun _=>rfl) hH3 fun e L' a4 W4 hp hH4=>?_))
  obtain⟨rfl,rfl⟩:=hp
  show Code.wpIn _ _ _ _ _ _ _
  refine range_frame (tt:=Yac types) (glob:=glob) (n:=72) (gf:=144) (caps:=[cellsOf (bkD b (.spot (Ycf b but)) [])]) (Told:=fun _=>ToldT) (xs:=Yaj b but) (S:=opR b (Ycf b but)) (S1:=opR1 b (Ycf b but)) (fx:=[4,5]) (dx:=trD) (L:=(.tmp 63,.d (opW b (Ycf b but)))::opR b (Ycf b but) []) (ks:=opRK0)
   ?_ ⟨Tryz.f144,by kernel_rfl,by kernel_rfl,by kernel_rfl⟩ ?_ (by decide) (by decide) ?_ ?_ ?_ ?_ rfl (by kernel_rfl) (by kernel_rfl) (fun k=>by rfl) ?_ hH4 ?_
  ·intro KE R w lb h1 h2 h3 h4
   obtain⟨p1,m,e1,h5,h6⟩:=Yan h4
   obtain rfl:=Yce h6
   have hlb:lb=#[p1]:=by rw[←Array.toArray_toList (xs:=lb),e1]
   subst hlb
   obtain⟨bb,oo,hp,hr⟩:=h5
   refine whole_seq (ts:=[]) hb.secs hb.turns hent hb.wear h1 h2 ⟨bb,oo,by rw[hp];simp,fun j d hd=>?_⟩ h3
   obtain⟨u,q1,q2,q3⟩:=hr j d hd
   exact⟨u,RelC.of0 q1,q2,q3⟩
  ·rintro R T x vs W rfl
   exact⟨trV x,fun _ _=>False,rfl,fun _ _ h=>h.elim,⟨_,rfl,rfl,rfl,rfl,rfl,rfl,rfl,rfl,rfl,rfl,rfl,rfl,rfl,trivial⟩⟩
  ·intro pre i hi
   cases pre with
   | nil=>exact tmpIn_ok (fx:=[4,5]) (by kernel_rfl) i hi
   | cons y r=>exact tmpIn_ok (fx:=[4,5]) (by kernel_rfl) i hi
  ·intro pre i
   cases pre<;>rfl
  ·rintro pre x ke no w1 fv _
   cases pre with
   | nil=>exact WpL.path (goodR Yam Yav) (op_as0 b _ x ke no w1 fv) trivial ⟨rfl,rfl⟩
   | cons y r=>exact WpL.path (goodR Yam Yav) (op_as1 b _ y r x ke no w1 fv) trivial ⟨rfl,rfl⟩
  ·rintro pre x ke no w1 fv ⟨post,hpost⟩
   have hl:pre.length+1≤1000000:=by
    have:=congrArg List.length hpost
    simp at this
    omega
   cases pre with
   | nil=>exact WpL.path (goodR Yam Yav) (op_bd0 b _ x ke no w1 fv) ⟨by omega,by decide,rfl,trivial⟩ ⟨rfl,rfl⟩
   | cons y r=>exact WpL.path (goodR Yam Yav) (op_bd1 b _ y r x ke no w1 fv) ⟨by omega,rfl,by simp at hl ⊢;omega,rfl,trivial⟩ ⟨rfl,rfl⟩
  ·exact Yfo (by kernel_rfl)
  ·intro D a5 W5 hD hH5 hWD
   show Code.wpIn _ _ _ _ _ _ _
   refine hend _ _ _ w0 R0 a5 W5 _ none 1 (fun _=>rfl) hH5 fun e L' a6 W6 hp hH6=>?_
   obtain⟨rfl,hfin⟩:=hp
   exact hQ D a6 W6 W5 _ L' hD hH6 hWD hfin (.inr rfl)
 cases ht:Yaj b but with
 | nil =>
  refine(hgoal (.agg (bkC b (.map (.spot (Ycf b but))) .nil)) ?_).toRes fun R w v h=>nil_trc h
  intro ke w1 ds
  rw[ht]
  exact WpL.path (goodE Yam Yav) (op_150 b _ ke w1 ds) trivial ⟨rfl,[],by kernel_rfl,trivial⟩
 | cons y r =>
  refine hgoal _ ?_
  intro ke w1 ds
  rw[ht]
  exact WpL.path (goodE Yam Yav) (op_151 b _ y r ke w1 ds) ⟨rfl,trivial⟩ ⟨rfl,[(y::r).length=(y::r).length],by kernel_rfl,⟨rfl,trivial⟩⟩
end Go.Di

namespace Go.Di
open Proofs
theorem asked_fn:FnOk PR (mk PR (Yac types) glob 25) 133 (body Tryz.f133) [.cell 4 141,.tmp 5]:=by refine⟨Tryz.f133,?_,?_,?_,?_,?_⟩<;>kernel_rfl
theorem right__fn:FnOk PR (mk PR (Yac types) glob 15) 80 (body Tryz.f80) [.tmp 2,.tmp 3]:=by refine⟨Tryz.f80,?_,?_,?_,?_,?_⟩<;>kernel_rfl
theorem thickA_fn:FnOk PR (mk PR (Yac types) glob 33) 111 (body Tryz.f111) [.cell 6 113,.tmp 7]:=by refine⟨Tryz.f111,?_,?_,?_,?_,?_⟩<;>kernel_rfl
theorem wear1_fn:FnOk PR (mk PR (Yac types) glob 13) 135 (body Tryz.f135) [.cell 3 113]:=by refine⟨Tryz.f135,?_,?_,?_,?_,?_⟩<;>kernel_rfl
theorem wearA_fn:FnOk PR (mk PR (Yac types) glob 23) 110 (body Tryz.f110) [.cell 4 113,.tmp 5]:=by refine⟨Tryz.f110,?_,?_,?_,?_,?_⟩<;>kernel_rfl
theorem asked_bad (b:Book)(is:Bool)(e:Int) :
  Yai (mk PR (Yac types) glob 25) [(11,true)] [(9,.I e)] [] (body Tryz.f133) [.cell 4 141,.tmp 5] [Yag b,.bool is] =
   some ([Contract PR glob 55 [D.agg (Yal b)] (D.I e),(e != (0:Int))=true],D.tup [D.agg [D.nil,D.nil,D.nil,D.I 0,D.I 0,D.nilmap,D.nil],D.I e]):=by kernel_rfl
theorem asked_ask (b:Book)(is:Bool)(e:Int) :
  Yai (mk PR (Yac types) glob 25) [(11,false),(15,true)] [(9,.I e)] [] (body Tryz.f133) [.cell 4 141,.tmp 5] [Yag b,.bool is] =
   some ([Contract PR glob 55 [D.agg (Yal b)] (D.I e),(e != (0:Int))=false,(!is)=true],D.tup [D.agg [D.nil,D.nil,D.nil,D.I 0,D.I 0,D.nilmap,D.nil],D.I 11]):=by kernel_rfl
theorem asked_false (b:Book)(is:Bool)(e:Int)(m:Mp)(ts:List TrC) :
  Yai (mk PR (Yac types) glob 25) [(11,false),(15,false),(22,true)] [(9,.I e),(18,bkD b m ts)] [] (body Tryz.f133) [.cell 4 141,.tmp 5] [Yag b,.bool is] =
   some ([Contract PR glob 55 [D.agg (Yal b)] (D.I e),(e != (0:Int))=false,(!is)=false,Contract PR glob 109 [D.agg (Yal b),D.sl false E.int []] (D.agg [D.sl false E.sec b.secs,D.sl false E.int b.turns,D.sl false E.sv b.svs,D.I b.rule,D.I b.days,D.map m,D.sl false E.trc ts]),(((ts.length:Nat):Int)==(0:Int))=true],D.tup [D.agg [D.sl false E.sec b.secs,D.sl false E.int b.turns,D.sl false E.sv b.svs,D.I b.rule,D.I b.days,D.map m,D.sl false E.trc ts],D.I 12]):=by kernel_rfl
theorem asked_ok (b:Book)(is:Bool)(e:Int)(m:Mp)(ts:List TrC) :
  Yai (mk PR (Yac types) glob 25) [(11,false),(15,false),(22,false)] [(9,.I e),(18,bkD b m ts)] [] (body Tryz.f133) [.cell 4 141,.tmp 5] [Yag b,.bool is] =
   some ([Contract PR glob 55 [D.agg (Yal b)] (D.I e),(e != (0:Int))=false,(!is)=false,Contract PR glob 109 [D.agg (Yal b),D.sl false E.int []] (D.agg [D.sl false E.sec b.secs,D.sl false E.int b.turns,D.sl false E.sv b.svs,D.I b.rule,D.I b.days,D.map m,D.sl false E.trc ts]),(((ts.length:Nat):Int)==(0:Int))=false],D.tup [D.agg [D.sl false E.sec b.secs,D.sl false E.int b.turns,D.sl false E.sv b.svs,D.I b.rule,D.I b.days,D.map m,D.sl false E.trc ts],D.I 0]):=by kernel_rfl
theorem right__bad (b:Book)(e:Int) :
  Yai (mk PR (Yac types) glob 15) [(8,true)] [(6,.I e)] [] (body Tryz.f80) [.tmp 2,.tmp 3] [Yag b] =
   some ([Contract PR glob 55 [D.agg (Yal b)] (D.I e),(e != (0:Int))=true],D.tup [D.bool false,D.I e]):=by kernel_rfl
theorem right__ok (b:Book)(e:Int)(m:Mp)(ts:List TrC) :
  Yai (mk PR (Yac types) glob 15) [(8,false)] [(6,.I e),(11,bkD b m ts)] [] (body Tryz.f80) [.tmp 2,.tmp 3] [Yag b] =
   some ([Contract PR glob 55 [D.agg (Yal b)] (D.I e),(e != (0:Int))=false,Contract PR glob 109 [D.agg (Yal b),D.sl false E.int []] (D.agg [D.sl false E.sec b.secs,D.sl false E.int b.turns,D.sl false E.sv b.svs,D.I b.rule,D.I b.days,D.map m,D.sl false E.trc ts])],D.tup [D.bool (decide (((ts.length:Nat):Int)>(0:Int))),D.I 0]):=by kernel_rfl
theorem thickA_no (b:Book)(s d:Int)(e:Int) :
  Yai (mk PR (Yac types) glob 33) [(15,false),(24,true)] [(14,.bool (Yaf b s)),(18,.bool (Yaw b d)),(20,.tup [zbookD,.I e])] [] (body Tryz.f111) [.cell 6 113,.tmp 7] [Yag b,.I s,.I d] =
   let Z0:Prop:=Yaf b s=false;some ([Contract PR glob 120 [D.agg (Yal b),D.I s] (D.bool (Yaf b s)),Z0,Z0,Z0,Z0,Contract PR glob 133 [D.agg (Yal b),D.bool false] (D.tup [D.agg [D.nil,D.nil,D.nil,D.I 0,D.I 0,D.nilmap,D.nil],D.I e]),(e != (0:Int))=true,0+2≤2],D.tup [D.agg [D.I 0,D.I 0],D.I e]):=by kernel_rfl
theorem thickA_err (b:Book)(s d:Int)(e:Int) :
  Yai (mk PR (Yac types) glob 33) [(15,true),(24,true)] [(14,.bool (Yaf b s)),(18,.bool (Yaw b d)),(20,.tup [zbookD,.I e])] [] (body Tryz.f111) [.cell 6 113,.tmp 7] [Yag b,.I s,.I d] =
   let Z0:Prop:=Yaf b s=true;some ([Contract PR glob 120 [D.agg (Yal b),D.I s] (D.bool (Yaf b s)),Z0,Z0,Z0,Contract PR glob 121 [D.agg (Yal b),D.I d] (D.bool (Yaw b d)),Z0,Contract PR glob 133 [D.agg (Yal b),D.bool (Yaw b d)] (D.tup [D.agg [D.nil,D.nil,D.nil,D.I 0,D.I 0,D.nilmap,D.nil],D.I e]),(e != (0:Int))=true,0+2≤2],D.tup [D.agg [D.I 0,D.I 0],D.I e]):=by kernel_rfl
theorem thickA_false (b:Book)(s d:Int)(m:Mp) :
  Yai (mk PR (Yac types) glob 33) [(15,true)] [(14,.bool (Yaf b s)),(18,.bool (Yaw b d)),(20,.tup [bkD b m [],.I 12])] [] (body Tryz.f111) [.cell 6 113,.tmp 7] [Yag b,.I s,.I d] =
   some ([Contract PR glob 120 [D.agg (Yal b),D.I s] (D.bool (Yaf b s)),Yaf b s=true,Yaf b s=true,Yaf b s=true,Contract PR glob 121 [D.agg (Yal b),D.I d] (D.bool (Yaw b d)),Yaf b s=true,Contract PR glob 133 [D.agg (Yal b),D.bool (Yaw b d)] (D.tup [D.agg [D.sl false E.sec b.secs,D.sl false E.int b.turns,D.sl false E.sv b.svs,D.I b.rule,D.I b.days,D.map m,D.sl false E.trc []],D.I 12]),0+2≤2],D.tup [D.agg [D.I 0,D.I 0],D.I 12]):=by kernel_rfl
theorem thickA_ok (b:Book)(s d:Int)(m:Mp)(ts:List TrC)(o:Span) :
  Yai (mk PR (Yac types) glob 33) [(15,true)] [(14,.bool (Yaf b s)),(18,.bool (Yaw b d)),(20,.tup [bkD b m ts,.I 0]),(32,spD o)] [] (body Tryz.f111) [.cell 6 113,.tmp 7] [Yag b,.I s,.I d] =
   some ([Contract PR glob 120 [D.agg (Yal b),D.I s] (D.bool (Yaf b s)),Yaf b s=true,Yaf b s=true,Yaf b s=true,Contract PR glob 121 [D.agg (Yal b),D.I d] (D.bool (Yaw b d)),Yaf b s=true,Contract PR glob 133 [D.agg (Yal b),D.bool (Yaw b d)] (D.tup [D.agg [D.sl false E.sec b.secs,D.sl false E.int b.turns,D.sl false E.sv b.svs,D.I b.rule,D.I b.days,D.map m,D.sl false E.trc ts],D.I 0]),Contract PR glob 136 [D.agg [D.sl false E.sec b.secs,D.sl false E.int b.turns,D.sl false E.sv b.svs,D.I b.rule,D.I b.days,D.map m,D.sl false E.trc ts],D.I s,D.I d,D.sl false E.int b.turns] (D.agg [D.I o.lo,D.I o.hi]),0+2≤2],D.tup [D.agg [D.I o.lo,D.I o.hi],D.I 0]):=by kernel_rfl
theorem wear1_all (x:TrC)(p:Int) :
  Yai (mk PR (Yac types) glob 13) [] [] [] (body Tryz.f135) [.cell 3 113] [trD x,.ref [.I p] 0] =
   some ([0+1≤1,(0:Int)≤p∧p<(Nat.cast:Nat→Int) 4,0+0+Int.toNat p*1+1≤12,0+1≤1,(0:Int)≤p∧p<(Nat.cast:Nat→Int) 4,0+0+Int.toNat p*1+1≤12,0+2≤2],D.agg [D.I (List.getD [TrC.w0 x,TrC.w1 x,TrC.w2 x,TrC.w3 x,Span.lo (TrC.f0 x),Span.hi (TrC.f0 x),Span.lo (TrC.f1 x),Span.hi (TrC.f1 x),Span.lo (TrC.f2 x),Span.hi (TrC.f2 x),Span.lo (TrC.f3 x),Span.hi (TrC.f3 x)] (0+0+Int.toNat p*1) (0:Int)),D.I (List.getD [TrC.w0 x,TrC.w1 x,TrC.w2 x,TrC.w3 x,Span.lo (TrC.f0 x),Span.hi (TrC.f0 x),Span.lo (TrC.f1 x),Span.hi (TrC.f1 x),Span.lo (TrC.f2 x),Span.hi (TrC.f2 x),Span.lo (TrC.f3 x),Span.hi (TrC.f3 x)] (0+0+Int.toNat p*1) (0:Int))]):=by kernel_rfl
theorem wearA_err (b:Book)(p:Int)(e:Int) :
  Yai (mk PR (Yac types) glob 23) [(17,true)] [(12,.bool (Yaf b p)),(13,.tup [zbookD,.I e])] [] (body Tryz.f110) [.cell 4 113,.tmp 5] [Yag b,.I p] =
   some ([0+1≤1,Contract PR glob 120 [D.agg (Yal b),D.I p] (D.bool (Yaf b p)),Contract PR glob 133 [D.agg (Yal b),D.bool (Yaf b p)] (D.tup [D.agg [D.nil,D.nil,D.nil,D.I 0,D.I 0,D.nilmap,D.nil],D.I e]),(e != (0:Int))=true,0+2≤2],D.tup [D.agg [D.I 0,D.I 0],D.I e]):=by kernel_rfl
theorem wearA_false (b:Book)(p:Int)(m:Mp) :
  Yai (mk PR (Yac types) glob 23) [] [(12,.bool (Yaf b p)),(13,.tup [bkD b m [],.I 12])] [] (body Tryz.f110) [.cell 4 113,.tmp 5] [Yag b,.I p] =
   some ([0+1≤1,Contract PR glob 120 [D.agg (Yal b),D.I p] (D.bool (Yaf b p)),Contract PR glob 133 [D.agg (Yal b),D.bool (Yaf b p)] (D.tup [D.agg [D.sl false E.sec b.secs,D.sl false E.int b.turns,D.sl false E.sv b.svs,D.I b.rule,D.I b.days,D.map m,D.sl false E.trc []],D.I 12]),0+2≤2],D.tup [D.agg [D.I 0,D.I 0],D.I 12]):=by kernel_rfl
theorem wearA_ok (b:Book)(p:Int)(m:Mp)(ts:List TrC)(o:Span) :
  Yai (mk PR (Yac types) glob 23) [] [(12,.bool (Yaf b p)),(13,.tup [bkD b m ts,.I 0]),(22,spD o)] [] (body Tryz.f110) [.cell 4 113,.tmp 5] [Yag b,.I p] =
   some ([0+1≤1,Contract PR glob 120 [D.agg (Yal b),D.I p] (D.bool (Yaf b p)),Contract PR glob 133 [D.agg (Yal b),D.bool (Yaf b p)] (D.tup [D.agg [D.sl false E.sec b.secs,D.sl false E.int b.turns,D.sl false E.sv b.svs,D.I b.rule,D.I b.days,D.map m,D.sl false E.trc ts],D.I 0]),Contract PR glob 134 [D.agg [D.sl false E.sec b.secs,D.sl false E.int b.turns,D.sl false E.sv b.svs,D.I b.rule,D.I b.days,D.map m,D.sl false E.trc ts],D.fn 135 [] [[D.I p]]] (D.agg [D.I o.lo,D.I o.hi]),0+2≤2],D.tup [D.agg [D.I o.lo,D.I o.hi],D.I 0]):=by kernel_rfl
end Go.Di

namespace Go.Di
open Proofs
def risesF (days:Int)(l:List Int):Bool:=(l.foldl (Ydn days) (true,0)).1
structure Valid (b:Book):Prop where
 secs:1≤b.secs.length∧b.secs.length≤4
 days:1≤b.days∧b.days≤30
 rule:0≤b.rule∧b.rule≤200
 turns:b.turns.length≤4
 svs:b.svs.length≤8
 sec:∀ x∈b.secs,SecOk x
 thick:∀ x∈b.secs,Yd4 b.secs*b.days≤x.t.lo
 rises:risesF b.days b.turns=true
 sv:∀ y∈b.svs,Ya6 b y=true
theorem Yfe {days:Int}:∀(l:List Int) (p:Bool) (n:Int),(l.foldl (Ydn days) (p,n)).1=(p&&(l.foldl (Ydn days) (true,n)).1)
 | [],p,n=>by simp
 | t::l,p,n=>by
  simp only[List.foldl_cons,Ydn]
  rw[Yfe l,Yfe l (true&&_),Bool.and_assoc,Bool.true_and]
theorem Ycq {b:Book}:Yd7 b=true↔Valid b:=by
 unfold Yd7
 have h4:ok4F b b.svs=((ok3F b b.turns).1&&b.svs.all fun x=>Ya6 b x):=Ygr _ _ _
 have h3:(ok3F b b.turns).1=(ok2F b b.secs&&risesF b.days b.turns):=Yfe _ _ _
 rw[h4,h3,ok2_eq,Bool.and_eq_true,Bool.and_eq_true,Bool.and_eq_true,Bool.and_eq_true,ok1_iff,List.all_eq_true,List.all_eq_true]
 constructor
 ·rintro⟨⟨h0,h1⟩,⟨⟨⟨_,h2⟩,h5⟩,h6⟩⟩
  exact⟨h0.secs,h0.days,h0.rule,h0.turns,h0.svs,h1,fun x hx=>by simpa using h2 x hx,h5,h6⟩
 ·rintro⟨h1,h2,h3,h4,h5,h6,h7,h8,h9⟩
  exact⟨⟨⟨h1,h2,h3,h4,h5⟩,h6⟩,⟨⟨⟨⟨⟨h1,h2,h3,h4,h5⟩,h6⟩,fun x hx=>by simpa using h7 x hx⟩,h8⟩,h9⟩⟩
theorem Ygg {b:Book}{y:Sv}:Ya6 b y=true↔(0≤y.s∧y.s≤b.secs.length-1)∧(0≤y.d∧y.d≤b.days)∧(0≤y.r∧y.r≤200)∧(0≤y.e∧y.e≤5):=by
 simp only[Ya6,Yaf,Yaw,Bool.and_eq_true,Yat]
 constructor
 ·rintro⟨⟨⟨h1,h2⟩,h3⟩,h4⟩;exact⟨h1,h2,h3,h4⟩
 ·rintro⟨h1,h2,h3,h4⟩;exact⟨⟨⟨h1,h2⟩,h3⟩,h4⟩
theorem Valid.book {b:Book}(h:Valid b):BookOk b:=by
 refine⟨h.secs.2,by have:=h.turns;omega,by have:=h.svs;omega,fun y hy=>?_,fun p hp=>?_⟩
 ·obtain⟨h1,h2,h3,h4⟩:=Ygg.1 (h.sv y hy)
  have:=h.days
  exact⟨by omega,by omega,by omega⟩
 ·have:=(h.sec _ (Ybq b.secs p sec0 hp)).w
  omega
theorem step_le (b:Book)(x0 x1 x2 x3 k:Int)(s:Span)(e:Ent):s.lo≤(Ya1 b x0 x1 x2 x3 k s e).lo∧(Ya1 b x0 x1 x2 x3 k s e).hi≤s.hi:=by
 unfold Ya1
 split
 ·exact⟨mx_ge.1,by simp only[bothF];unfold mn;split<;>omega⟩
 ·exact⟨Int.le_refl _,Int.le_refl _⟩
theorem right_le (b:Book)(x0 x1 x2 x3 k:Int):∀(l:List Ent) (s:Span),s.lo≤(l.foldl (Ya1 b x0 x1 x2 x3 k) s).lo∧(l.foldl (Ya1 b x0 x1 x2 x3 k) s).hi≤s.hi
 | [],s=>⟨Int.le_refl _,Int.le_refl _⟩
 | e::l,s=>by
  have h1:=step_le b x0 x1 x2 x3 k s e
  have h2:=right_le b x0 x1 x2 x3 k l (Ya1 b x0 x1 x2 x3 k s e)
  simp only[List.foldl_cons]
  omega
def Tr200 (t:TrC):Prop:=(0≤t.f0.lo∧t.f0.lo≤t.f0.hi∧t.f0.hi≤200)∧(0≤t.f1.lo∧t.f1.lo≤t.f1.hi∧t.f1.hi≤200)∧(0≤t.f2.lo∧t.f2.lo≤t.f2.hi∧t.f2.hi≤200)∧(0≤t.f3.lo∧t.f3.lo≤t.f3.hi∧t.f3.hi≤200)
theorem setF_200 {t:TrC}(h:Tr200 t)(i:Nat){s:Span}(hs:0≤s.lo∧s.lo≤s.hi∧s.hi≤200):Tr200 (setF t i s):=by
 obtain⟨h0,h1,h2,h3⟩:=h
 match i with
 | 0=>exact⟨hs,h1,h2,h3⟩
 | 1=>exact⟨h0,hs,h2,h3⟩
 | 2=>exact⟨h0,h1,hs,h3⟩
 | _+3=>exact⟨h0,h1,h2,hs⟩
theorem setF_w (t:TrC)(i:Nat)(s:Span):(setF t i s).w0=t.w0∧(setF t i s).w1=t.w1∧(setF t i s).w2=t.w2∧(setF t i s).w3=t.w3:=by
 match i with
 | 0=>exact⟨rfl,rfl,rfl,rfl⟩
 | 1=>exact⟨rfl,rfl,rfl,rfl⟩
 | 2=>exact⟨rfl,rfl,rfl,rfl⟩
 | _+3=>exact⟨rfl,rfl,rfl,rfl⟩
theorem leafGo_ok {b:Book}(hb:∀ x∈b.secs,SecOk x)(l:List Ent)(x:W4):∀(f i:Nat) (t:TrC),f+i=b.secs.length→Tr200 t→∀ u∈Yd8 b l x f i t,Tr200 u∧u.w0=t.w0∧u.w1=t.w1∧u.w2=t.w2∧u.w3=t.w3
 | 0,i,t,_,ht,u,hu=>by
  simp only[Yd8,List.mem_singleton]at hu
  subst hu
  exact⟨ht,rfl,rfl,rfl,rfl⟩
 | f+1,i,t,hf,ht,u,hu=>by
  simp only[Yd8]at hu
  split at hu
  ·rename_i hok
   have h1:=right_le b x.a x.b x.c x.d i l (b.secs.getD i sec0).t
   have h2:=(hb _ (Ybq b.secs i sec0 (by omega))).t
   have hr:Ybt b l x.a x.b x.c x.d i=l.foldl (Ya1 b x.a x.b x.c x.d i) (b.secs.getD i sec0).t:=rfl
   rw[←hr]at h1
   obtain⟨g1,g2⟩:=leafGo_ok hb l x f (i+1) _ (by omega) (setF_200 ht i (s:=Ybt b l x.a x.b x.c x.d i) (by omega)) u hu
   have h3:=setF_w t i (Ybt b l x.a x.b x.c x.d i)
   exact⟨g1,g2.1.trans h3.1,g2.2.1.trans h3.2.1,g2.2.2.1.trans h3.2.2.1,g2.2.2.2.trans h3.2.2.2⟩
  ·cases hu
theorem leafGo_len (b:Book)(l:List Ent)(x:W4):∀(f i:Nat) (t:TrC),(Yd8 b l x f i t).length≤1
 | 0,_,_=>by simp[Yd8]
 | f+1,i,t=>by
  simp only[Yd8]
  split
  ·exact leafGo_len b l x f _ _
  ·simp
theorem flat_len {α β:Type}(g:α→List β)(c:Nat):∀(l:List α),(∀ x∈l,(g x).length≤c)→(l.flatMap g).length≤l.length*c
 | [],_=>by simp
 | x::l,h=>by
  have h1:=h x (by simp)
  have h2:=flat_len g c l (fun y hy=>h y (by simp[hy]))
  simp only[List.flatMap_cons,List.length_append,List.length_cons,Nat.add_mul]
  omega
theorem rates_mem {s:Span}{n:Int}:n∈ratesF s↔(0≤n∧s.lo≤n∧n≤s.hi):=by
 unfold ratesF Ydp
 simp only[List.mem_filter,List.mem_map,List.mem_range,decide_eq_true_eq]
 constructor
 ·rintro⟨⟨k,hk,rfl⟩,h⟩;omega
 ·rintro⟨h1,h2,h3⟩;exact⟨⟨n.toNat,by omega,by omega⟩,h2⟩
theorem rates_len (s:Span):(ratesF s).length≤(s.hi+1).toNat:=by
 unfold ratesF Ydp
 refine Nat.le_trans (List.length_filter_le _ _) ?_
 simp
theorem wholeGo_len {b:Book}(hb:∀ x∈b.secs,SecOk x)(l:List Ent):∀(f p:Nat) (x:W4),f+p=b.secs.length→(Ya3 b l f p x).length≤4 ^ f
 | 0,p,x,_=>by
  show(leafF b l x).length≤1
  exact leafGo_len _ _ _ _ _ _
 | f+1,p,x,hf=>by
  have h2:=(hb _ (Ybq b.secs p sec0 (by omega))).w
  have h1:=flat_len (fun n=>Ya3 b l f (p+1) (x.set p n)) (4 ^ f) (ratesF (b.secs.getD p sec0).w) (fun n _=>wholeGo_len hb l f (p+1) _ (by omega))
  have h3:=rates_len (b.secs.getD p sec0).w
  have h4:(ratesF (b.secs.getD p sec0).w).length*4 ^ f≤4*4 ^ f:=Nat.mul_le_mul_right _ (by omega)
  have h5:(4:Nat) ^ (f+1)=4*4 ^ f:=by rw[Nat.pow_succ,Nat.mul_comm]
  rw[h5]
  exact Nat.le_trans h1 h4
theorem wholeGo_ok {b:Book}(hb:∀ x∈b.secs,SecOk x)(l:List Ent):∀(f p:Nat) (x:W4),f+p=b.secs.length→W4Ok x→∀ t∈Ya3 b l f p x,Tr200 t∧W4Ok ⟨t.w0,t.w1,t.w2,t.w3⟩
 | 0,p,x,_,hx,t,ht=>by
  have ht:t∈Yd8 b l x b.secs.length 0 (trOf x):=ht
  obtain⟨h1,h2,h3,h4,h5⟩:=leafGo_ok hb l x b.secs.length 0 (trOf x) (by omega) (by simp[Tr200,trOf]) t ht
  refine⟨h1,?_⟩
  rw[h2,h3,h4,h5]
  exact hx
 | f+1,p,x,hf,hx,t,ht=>by
  have ht:t∈(ratesF (b.secs.getD p sec0).w).flatMap fun n=>Ya3 b l f (p+1) (x.set p n):=ht
  obtain⟨n,hn,ht⟩:=List.mem_flatMap.1 ht
  have h2:=(hb _ (Ybq b.secs p sec0 (by omega))).w
  have hn:=rates_mem.1 hn
  exact wholeGo_ok hb l f (p+1) _ (by omega) (hx.set p ⟨by omega,by omega⟩) t ht
theorem zero4:W4Ok ⟨0,0,0,0⟩:=⟨by decide,by decide,by decide,by decide⟩
theorem truths_len {b:Book}(hb:Valid b)(but:List Int):(Yaj b but).length≤256:=by
 have h:=wholeGo_len hb.sec (Ycf b but) b.secs.length 0 ⟨0,0,0,0⟩ (by omega)
 refine Nat.le_trans h ?_
 exact Nat.pow_le_pow_right (by decide) hb.secs.2
theorem truths_ok {b:Book}(hb:Valid b)(but:List Int):∀ t∈Yaj b but,TrOk t:=by
 intro t ht
 obtain⟨⟨h0,h1,h2,h3⟩,hw⟩:=wholeGo_ok hb.sec (Ycf b but) b.secs.length 0 ⟨0,0,0,0⟩ (by omega) zero4 t ht
 have w0:=hw.a
 have w1:=hw.b
 have w2:=hw.c
 have w3:=hw.d
 exact⟨w0,w1,w2,w3,by omega,by omega,by omega,by omega⟩
theorem opened_valid {b:Book}(hb:Valid b)(but:List Int)(hbut:but.length≤100000):Contract PR glob 109 [Yag b,.sl false .int but] (bkD b (.spot (Ycf b but)) (Yaj b but)) :=
 opened_con b hb.book but hbut (by have:=truths_len hb but;omega)
structure Small (b:Book):Prop where
 secs:b.secs.length≤9223372036854775807
 turns:b.turns.length≤9223372036854775807
 svs:b.svs.length≤9223372036854775807
theorem Yhl {b:Book}(h:Small b):Contract PR glob 55 [Yag b] (.int .i64 (Yah b)):=check_con b h.secs h.turns h.svs
def canF (b:Book):Bool:=!(Yaj b []).isEmpty
def errF (b:Book)(is:Bool):Int:=if Yd7 b=false then 10 else if is=false then 11 else if canF b=false then 12 else 0
theorem len_pos {b:Book}:decide (((Yaj b []).length:Int)>0)=canF b:=by
 unfold canF
 cases Yaj b [] with
 | nil=>rfl
 | cons x l=>simp
theorem ne_of_can {b:Book}(h:canF b=true):Yaj b []≠[]:=by
 unfold canF at h
 cases hq:Yaj b [] with
 | nil=>rw[hq]at h;cases h
 | cons x l=>simp
theorem nil_of_can {b:Book}(h:canF b=false):Yaj b []=[]:=by
 unfold canF at h
 cases hq:Yaj b [] with
 | nil=>rfl
 | cons x l=>rw[hq]at h;cases h
theorem asked_bad_con {b:Book}(hs:Small b)(is:Bool)(h:Yd7 b=false):Contract PR glob 133 [Yag b,.bool is] (.tup [zbookD,.int .i64 10]):=by
 have hc:=Yhl hs
 unfold Yah at hc
 rw[h]at hc
 exact Yaa (G 25) asked_fn (asked_bad b is 10) ⟨hc,rfl,trivial⟩
theorem check_ok {b:Book}(hs:Small b)(h:Valid b):Contract PR glob 55 [Yag b] (.int .i64 0):=by
 have hc:=Yhl hs
 unfold Yah at hc
 rw[Ycq.2 h]at hc
 exact hc
theorem asked_ask_con {b:Book}(hs:Small b)(h:Valid b):Contract PR glob 133 [Yag b,.bool false] (.tup [zbookD,.int .i64 11]) :=
 Yaa (G 25) asked_fn (asked_ask b false 0) ⟨check_ok hs h,rfl,rfl,trivial⟩
theorem asked_false_con {b:Book}(hs:Small b)(h:Valid b)(hc:canF b=false):Contract PR glob 133 [Yag b,.bool true] (.tup [bkD b (.spot (Ycf b [])) [],.int .i64 12]):=by
 have ho:=opened_valid h [] (by simp)
 rw[nil_of_can hc]at ho
 exact Yaa (G 25) asked_fn (asked_false b true 0 (.spot (Ycf b [])) []) ⟨check_ok hs h,rfl,rfl,ho,rfl,trivial⟩
theorem asked_ok_con {b:Book}(hs:Small b)(h:Valid b)(hc:canF b=true):Contract PR glob 133 [Yag b,.bool true] (.tup [bkD b (.spot (Ycf b [])) (Yaj b []),.int .i64 0]):=by
 have ho:=opened_valid h [] (by simp)
 refine Yaa (G 25) asked_fn (asked_ok b true 0 (.spot (Ycf b [])) (Yaj b [])) ⟨check_ok hs h,rfl,rfl,ho,?_,trivial⟩
 have:=ne_of_can hc
 cases hq:Yaj b [] with
 | nil=>exact absurd hq this
 | cons x l=>simp;omega
theorem right_con' {b:Book}(hs:Small b):Contract PR glob 80 [Yag b] (.tup [.bool (Yd7 b&&canF b),.int .i64 (Yah b)]):=by
 cases hv:Yd7 b with
 | false =>
  have hc:=Yhl hs
  unfold Yah at hc ⊢
  rw[hv]at hc ⊢
  exact Yaa (G 15) right__fn (right__bad b 10) ⟨hc,rfl,trivial⟩
 | true =>
  have hV:=Ycq.1 hv
  unfold Yah
  rw[hv]
  have:=right__ok b 0 (.spot (Ycf b [])) (Yaj b [])
  rw[len_pos]at this
  exact Yaa (G 15) right__fn this ⟨check_ok hs hV,rfl,opened_valid hV [] (by simp),trivial⟩
end Go.Di

namespace Go.Di
open Proofs
def spanOr (e:Int)(s:Span):Span:=if e=0 then s else ⟨0,0⟩
def askE (b:Book)(s d:Int):Int:=errF b (Yaf b s&&Yaw b d)
theorem err_cases {b:Book}(hs:Small b)(is:Bool):(errF b is≠0∧(errF b is=12→Valid b∧is=true∧canF b=false)∧(errF b is≠12→Contract PR glob 133 [Yag b,.bool is] (.tup [zbookD,.int .i64 (errF b is)])))∨(errF b is=0∧Valid b∧is=true∧canF b=true):=by
 unfold errF
 cases hv:Yd7 b with
 | false =>
  rw[if_pos rfl]
  exact .inl ⟨by decide,fun h=>absurd h (by decide),fun _=>asked_bad_con hs is hv⟩
 | true =>
  have hV:=Ycq.1 hv
  cases is with
  | false =>
   refine .inl ⟨by simp,fun h=>by simp at h,fun _=>?_⟩
   simpa using asked_ask_con hs hV
  | true =>
   cases hc:canF b with
   | false=>exact .inl ⟨by simp,fun _=>⟨hV,rfl,rfl⟩,fun h=>by simp at h⟩
   | true=>exact .inr ⟨by simp,hV,rfl,rfl⟩
theorem thickA_con {b:Book}(hs:Small b)(s d:Int):Contract PR glob 111 [Yag b,.int .i64 s,.int .i64 d] (.tup [spD (spanOr (askE b s d) (Ybn b (Yaj b []) b.turns s d)),.int .i64 (askE b s d)]):=by
 have h1:=Yhf b s hs.secs
 have h2:=isDay_con b d
 have hc:=err_cases hs (Yaf b s&&Yaw b d)
 unfold askE
 generalize he:errF b (Yaf b s&&Yaw b d)=e at hc
 rcases hc with ⟨hne,h12,h3⟩|⟨h0,hV,his,hcan⟩
 ·have hz:spanOr e (Ybn b (Yaj b []) b.turns s d)=⟨0,0⟩:=if_neg hne
  rw[hz]
  by_cases e12:e=12
  ·obtain⟨hV,his,hcan⟩:=h12 e12
   have his':=his
   simp only[Bool.and_eq_true]at his'
   have ha:=asked_false_con hs hV hcan
   subst e12
   have hr:=thickA_false b s d (.spot (Ycf b []))
   rw[his'.2]at hr h2
   exact Yaa (G 33) thickA_fn hr ⟨h1,his'.1,his'.1,his'.1,h2,his'.1,ha,by omega,trivial⟩
  ·have h3:=h3 e12
   have hb:(e != 0)=true:=by simpa using hne
   cases hsec:Yaf b s with
   | false =>
    rw[hsec]at h3
    exact Yaa (G 33) thickA_fn (thickA_no b s d e) ⟨h1,hsec,hsec,hsec,hsec,h3,hb,by omega,trivial⟩
   | true =>
    rw[hsec,Bool.true_and]at h3
    exact Yaa (G 33) thickA_fn (thickA_err b s d e) ⟨h1,hsec,hsec,hsec,h2,hsec,h3,hb,by omega,trivial⟩
 ·subst h0
  have hz:spanOr 0 (Ybn b (Yaj b []) b.turns s d)=Ybn b (Yaj b []) b.turns s d:=if_pos rfl
  rw[hz]
  have his':=his
  simp only[Bool.and_eq_true]at his'
  have hsec:=Yat.1 his'.1
  have hday:=Yat.1 his'.2
  have ha:=asked_ok_con hs hV hcan
  have hdd:=hV.days
  have ht:=thick_con b (.spot (Ycf b [])) (Yaj b []) s d b.turns (truths_ok hV []) (ne_of_can hcan) (by have:=truths_len hV [];omega) (by omega) hV.secs.2 (by have:=hV.turns;omega) (by omega)
  have hr:=thickA_ok b s d (.spot (Ycf b [])) (Yaj b []) (Ybn b (Yaj b []) b.turns s d)
  rw[his'.2]at hr h2
  exact Yaa (G 33) thickA_fn hr ⟨h1,his'.1,his'.1,his'.1,h2,his'.1,ha,ht,by omega,trivial⟩
def Ybe (p:Int)(x:TrC):Span:=⟨[x.w0,x.w1,x.w2,x.w3].getD p.toNat 0,[x.w0,x.w1,x.w2,x.w3].getD p.toNat 0⟩
theorem wear1_con (x:TrC)(p:Int)(hp:0≤p∧p<4):Contract PR glob 135 ([]++[trD x]++[[.int .i64 p]].map fun cs=>.ref cs 0) (spD (Ybe p x)):=by
 have h:=wear1_all x p
 obtain⟨k,hk,h4⟩:∃ k:Nat,p.toNat=k∧k<4:=⟨p.toNat,rfl,by omega⟩
 have hr:(D.agg [D.int .i64 (List.getD [TrC.w0 x,TrC.w1 x,TrC.w2 x,TrC.w3 x,Span.lo (TrC.f0 x),Span.hi (TrC.f0 x),Span.lo (TrC.f1 x),Span.hi (TrC.f1 x),Span.lo (TrC.f2 x),Span.hi (TrC.f2 x),Span.lo (TrC.f3 x),Span.hi (TrC.f3 x)] (0+0+Int.toNat p*1) (0:Int)),D.int .i64 (List.getD [TrC.w0 x,TrC.w1 x,TrC.w2 x,TrC.w3 x,Span.lo (TrC.f0 x),Span.hi (TrC.f0 x),Span.lo (TrC.f1 x),Span.hi (TrC.f1 x),Span.lo (TrC.f2 x),Span.hi (TrC.f2 x),Span.lo (TrC.f3 x),Span.hi (TrC.f3 x)] (0+0+Int.toNat p*1) (0:Int))])=spD (Ybe p x):=by
  unfold Ybe
  rw[hk]
  match k,h4 with
  | 0,_=>rfl
  | 1,_=>rfl
  | 2,_=>rfl
  | 3,_=>rfl
 rw[hr]at h
 exact Yaa (G 13) wear1_fn h ⟨by omega,by omega,by omega,by omega,by omega,by omega,by omega,trivial⟩
theorem wearA_con {b:Book}(hs:Small b)(p:Int):Contract PR glob 110 [Yag b,.int .i64 p] (.tup [spD (spanOr (errF b (Yaf b p)) (Yc2 (Ybe p) (Yaj b []))),.int .i64 (errF b (Yaf b p))]):=by
 have h1:=Yhf b p hs.secs
 have hc:=err_cases hs (Yaf b p)
 generalize he:errF b (Yaf b p)=e at hc
 rcases hc with ⟨hne,h12,h3⟩|⟨h0,hV,his,hcan⟩
 ·rw[show spanOr e (Yc2 (Ybe p) (Yaj b []))=⟨0,0⟩ from if_neg hne]
  by_cases e12:e=12
  ·obtain⟨hV,his,hcan⟩:=h12 e12
   have ha:=asked_false_con hs hV hcan
   subst e12
   have hr:=wearA_false b p (.spot (Ycf b []))
   rw[his]at hr h1
   exact Yaa (G 23) wearA_fn hr ⟨by omega,h1,ha,by omega,trivial⟩
  ·exact Yaa (G 23) wearA_fn (wearA_err b p e) ⟨by omega,h1,h3 e12,by simpa using hne,by omega,trivial⟩
 ·subst h0
  rw[show spanOr 0 (Yc2 (Ybe p) (Yaj b []))=Yc2 (Ybe p) (Yaj b []) from if_pos rfl]
  have hsec:=Yat.1 his
  have hl:=hV.secs
  have ha:=asked_ok_con hs hV hcan
  have ht:=told_con b (.spot (Ycf b [])) (Yaj b []) 135 [] [[.int .i64 p]] (Ybe p) (fun x _=>wear1_con x p (by omega)) (ne_of_can hcan) (by have:=truths_len hV [];omega)
  have hr:=wearA_ok b p (.spot (Ycf b [])) (Yaj b []) (Yc2 (Ybe p) (Yaj b []))
  rw[his]at hr h1
  refine Yaa (G 23) wearA_fn hr ?_
  repeat(first|exact trivial|refine⟨by first|exact h1|exact ha|exact ht|omega,?_⟩)
def more (b:Book)(x:Sv):Book:=⟨b.secs,b.turns,b.svs++[x],b.rule,b.days⟩
end Go.Di

namespace Go.Di
open Proofs
end Go.Di

namespace Go.Di
open Proofs
end Go.Di

namespace Go.Di
open Proofs
end Go.Di

namespace Go.Di
open Proofs
theorem relA_weaken {R:Foot}{w:World}{e:E}{xs:List e.α}{v:Value}(h:RelA R w (.sl true e xs) v):RelA R w (.sl false e xs) v:=by
 obtain⟨A,c,hv,hc,hm,_,hr⟩:=h
 exact⟨A,c,hv,hc,hm,fun h=>(by cases h),hr⟩
end Go.Di

namespace Go.Di
open Go.RowKit
section
variable {P:Program} {C:Cfg} {w0 w w':World} {R0 R:Foot} {a:Act} {s:St} {β:Nat→Nat} {σ:Sig} {Q:Exit→Act→World→Prop}
theorem SelfR.make {f:FuncId}{cells:List D}{p v:Value}{b:Nat}(hv:v=.func (.func f) #[] #[p,.pointer (some ⟨b,0,none⟩)])(hp:RelCap R w cells p)(hR:R b 0)(hc:w.cell? ⟨b,0,none⟩=some v):∀ n,SelfR R w f cells n v
 | 0=>trivial
 | n+1=>⟨p,b,0,v,hv,hp,hR,hc,⟨_,_,hv⟩,SelfR.make hv hp hR hc n⟩
end
end Go.Di

namespace Go.Di
open Proofs
end Go.Di

namespace Go.Di
open Proofs
end Go.Di

namespace Go.Di
open Proofs
def Yfn (n lo hi:Int):Bool:=decide (n≥lo)&&decide (n≤hi)
end Go.Di

namespace Go.Di
open Proofs
noncomputable abbrev k_25 (p:List Nat):Code:=Code.at p (body Proofs.Tryz.f25)
noncomputable abbrev k_78 (p:List Nat):Code:=Code.at p (body Proofs.Tryz.f78)
noncomputable abbrev k_57 (p:List Nat):Code:=Code.at p (body Proofs.Tryz.f57)
theorem rangeB_fn:FnOk PR (mk PR (Yac types) glob 8) 94 (body Tryz.f94) [.cell 4 113]:=by refine⟨Tryz.f94,?_,?_,?_,?_,?_⟩<;>kernel_rfl
theorem point_fn:FnOk PR (mk PR (Yac types) glob 6) 116 (body Tryz.f116) [.cell 2 113]:=by refine⟨Tryz.f116,?_,?_,?_,?_,?_⟩<;>kernel_rfl
theorem inside_fn:FnOk PR (mk PR (Yac types) glob 15) 51 (body Tryz.f51) [.tmp 6]:=by refine⟨Tryz.f51,?_,?_,?_,?_,?_⟩<;>kernel_rfl
theorem validB_fn:FnOk PR (mk PR (Yac types) glob 24) 91 (body Tryz.f91) [.tmp 6]:=by refine⟨Tryz.f91,?_,?_,?_,?_,?_⟩<;>kernel_rfl
theorem alike_fn:FnOk PR (mk PR (Yac types) glob 26) 25 (body Tryz.f25) [.tmp 4]:=by refine⟨Tryz.f25,?_,?_,?_,?_,?_⟩<;>kernel_rfl
theorem atB_fn:FnOk PR (mk PR (Yac types) glob 19) 78 (body Tryz.f78) [.tmp 4]:=by refine⟨Tryz.f78,?_,?_,?_,?_,?_⟩<;>kernel_rfl
theorem climbs_fn:FnOk PR (mk PR (Yac types) glob 36) 57 (body Tryz.f57) [.tmp 4]:=by refine⟨Tryz.f57,?_,?_,?_,?_,?_⟩<;>kernel_rfl
def Yd2 (xs ys:List Int)(i:Nat):List (Key×Val) :=
 [(.tmp 0,.d (D.sl false E.int xs)),
  (.tmp 1,.d (D.sl false E.int ys)),
  (.tmp 5,.d (.I i))]
def alike_K0:List Key:=[.tmp 0,.tmp 1,.tmp 5]
def atB_S0 (xs:List Int)(v:Int)(i:Nat):List (Key×Val) :=
 [(.tmp 0,.d (D.sl false E.int xs)),
  (.tmp 1,.d (D.I v)),
  (.tmp 5,.d (.I i))]
def atB_K0:List Key:=[.tmp 0,.tmp 1,.tmp 5]
def Yca (xs:List Int)(m:Int)(i:Nat):List (Key×Val) :=
 [(.tmp 0,.d (D.sl false E.int xs)),
  (.tmp 1,.d (D.I m)),
  (.tmp 5,.d (.I i))]
def Ygu:List Key:=[.tmp 0,.tmp 1,.tmp 5]
theorem alike_0_on (xs ys:List Int)(i:Nat) :
  runK (mk PR (Yac types) glob 26) [(14,true),(25,false)] [] [] (k_25 [1,1,0,1,0,0]) (Yd2 xs ys i) alike_K0 =
   some ([decide ((i:Int)<((xs.length:Nat):Int))=true,(0:Int)≤(i:Int)∧(i:Int)<((xs.length:Nat):Int),0+1≤1,(0:Int)≤(i:Int)∧(i:Int)<((ys.length:Nat):Int),0+1≤1,(List.getD xs (Int.toNat ((i:Int))) (E.z E.int) != List.getD ys (Int.toNat ((i:Int))) (E.z E.int))=false,Yae ((i:Int)+(1:Int))],Ex.normal,[(.tmp 0,.d (D.sl false E.int xs)),(.tmp 1,.d (D.sl false E.int ys)),(.tmp 5,.d (D.I ((i:Int)+(1:Int))))]):=by kernel_rfl
theorem alike_0_diff (xs ys:List Int)(i:Nat) :
  runK (mk PR (Yac types) glob 26) [(14,true),(25,true)] [] [] (k_25 [1,1,0,1,0,0]) (Yd2 xs ys i) [.tmp 0,.tmp 1,.tmp 5,.tmp 4] =
   some ([decide ((i:Int)<((xs.length:Nat):Int))=true,(0:Int)≤(i:Int)∧(i:Int)<((xs.length:Nat):Int),0+1≤1,(0:Int)≤(i:Int)∧(i:Int)<((ys.length:Nat):Int),0+1≤1,(List.getD xs (Int.toNat ((i:Int))) (E.z E.int) != List.getD ys (Int.toNat ((i:Int))) (E.z E.int))=true],Ex.ret,[(.tmp 0,.d (D.sl false E.int xs)),(.tmp 1,.d (D.sl false E.int ys)),(.tmp 5,.d (D.I ((i:Int)))),(.tmp 4,.d (D.bool false))]):=by kernel_rfl
theorem alike_0_end (xs ys:List Int)(i:Nat) :
  runK (mk PR (Yac types) glob 26) [(14,false)] [] [] (k_25 [1,1,0,1,0,0]) (Yd2 xs ys i) alike_K0 =
   some ([decide ((i:Int)<((xs.length:Nat):Int))=false],Ex.exit 0,[(.tmp 0,.d (D.sl false E.int xs)),(.tmp 1,.d (D.sl false E.int ys)),(.tmp 5,.d (D.I ((i:Int))))]):=by kernel_rfl
theorem atB_0_on (xs:List Int)(v:Int)(i:Nat) :
  runK (mk PR (Yac types) glob 19) [(9,true),(17,false)] [] [] (k_78 [1,0,1,0,0]) (atB_S0 xs v i) atB_K0 =
   some ([decide ((i:Int)<((xs.length:Nat):Int))=true,(0:Int)≤(i:Int)∧(i:Int)<((xs.length:Nat):Int),0+1≤1,(List.getD xs (Int.toNat ((i:Int))) (E.z E.int)==v)=false,Yae ((i:Int)+(1:Int))],Ex.normal,[(.tmp 0,.d (D.sl false E.int xs)),(.tmp 1,.d (D.I v)),(.tmp 5,.d (D.I ((i:Int)+(1:Int))))]):=by kernel_rfl
theorem atB_0_hit (xs:List Int)(v:Int)(i:Nat) :
  runK (mk PR (Yac types) glob 19) [(9,true),(17,true)] [] [] (k_78 [1,0,1,0,0]) (atB_S0 xs v i) [.tmp 0,.tmp 1,.tmp 5,.tmp 4] =
   some ([decide ((i:Int)<((xs.length:Nat):Int))=true,(0:Int)≤(i:Int)∧(i:Int)<((xs.length:Nat):Int),0+1≤1,(List.getD xs (Int.toNat ((i:Int))) (E.z E.int)==v)=true],Ex.ret,[(.tmp 0,.d (D.sl false E.int xs)),(.tmp 1,.d (D.I v)),(.tmp 5,.d (D.I ((i:Int)))),(.tmp 4,.d (D.I ((i:Int))))]):=by kernel_rfl
theorem atB_0_end (xs:List Int)(v:Int)(i:Nat) :
  runK (mk PR (Yac types) glob 19) [(9,false)] [] [] (k_78 [1,0,1,0,0]) (atB_S0 xs v i) atB_K0 =
   some ([decide ((i:Int)<((xs.length:Nat):Int))=false],Ex.exit 0,[(.tmp 0,.d (D.sl false E.int xs)),(.tmp 1,.d (D.I v)),(.tmp 5,.d (D.I ((i:Int))))]):=by kernel_rfl
theorem climbs_0_on0 (xs:List Int)(m:Int)(i:Nat) :
  runK (mk PR (Yac types) glob 36) [(9,true),(23,false)] [(18,.bool true)] [] (k_57 [1,0,1,0,0]) (Yca xs m i) Ygu =
   let Z0:Prop:=decide ((i:Int)>(0:Int))=false;some ([decide ((i:Int)<((xs.length:Nat):Int))=true,(0:Int)≤(i:Int)∧(i:Int)<((xs.length:Nat):Int),0+1≤1,Yae (m-(1:Int)),Contract PR glob 51 [D.I (List.getD xs (Int.toNat ((i:Int))) (E.z E.int)),D.I 0,D.I (m-(1:Int))] (D.bool true),Z0,Z0,Z0,Z0,Z0,Z0,Z0,Z0,Z0,Z0,Z0,Yae ((i:Int)+(1:Int))],Ex.normal,[(.tmp 0,.d (D.sl false E.int xs)),(.tmp 1,.d (D.I m)),(.tmp 5,.d (D.I ((i:Int)+(1:Int))))]):=by kernel_rfl
theorem climbs_0_on1 (xs:List Int)(m:Int)(i:Nat) :
  runK (mk PR (Yac types) glob 36) [(9,true),(23,true),(35,false)] [(18,.bool true)] [] (k_57 [1,0,1,0,0]) (Yca xs m i) Ygu =
   let Z0:Prop:=decide ((i:Int)>(0:Int))=true;some ([decide ((i:Int)<((xs.length:Nat):Int))=true,(0:Int)≤(i:Int)∧(i:Int)<((xs.length:Nat):Int),0+1≤1,Yae (m-(1:Int)),Contract PR glob 51 [D.I (List.getD xs (Int.toNat ((i:Int))) (E.z E.int)),D.I 0,D.I (m-(1:Int))] (D.bool true),Z0,Z0,Z0,(0:Int)≤(i:Int)∧(i:Int)<((xs.length:Nat):Int),Z0,0+1≤1,Z0,Z0,Z0,Yae ((i:Int)-(1:Int)),Z0,(0:Int)≤(i:Int)-(1:Int)∧(i:Int)-(1:Int)<((xs.length:Nat):Int),Z0,0+1≤1,Z0,Z0,decide (List.getD xs (Int.toNat ((i:Int))) (E.z E.int)≤List.getD xs (Int.toNat ((i:Int)-(1:Int))) (E.z E.int))=false,Yae ((i:Int)+(1:Int))],Ex.normal,[(.tmp 0,.d (D.sl false E.int xs)),(.tmp 1,.d (D.I m)),(.tmp 5,.d (D.I ((i:Int)+(1:Int))))]):=by kernel_rfl
theorem climbs_0_out (xs:List Int)(m:Int)(i:Nat) :
  runK (mk PR (Yac types) glob 36) [(9,true)] [(18,.bool false)] [] (k_57 [1,0,1,0,0]) (Yca xs m i) [.tmp 0,.tmp 1,.tmp 5,.tmp 4] =
   some ([decide ((i:Int)<((xs.length:Nat):Int))=true,(0:Int)≤(i:Int)∧(i:Int)<((xs.length:Nat):Int),0+1≤1,Yae (m-(1:Int)),Contract PR glob 51 [D.I (List.getD xs (Int.toNat ((i:Int))) (E.z E.int)),D.I 0,D.I (m-(1:Int))] (D.bool false)],Ex.ret,[(.tmp 0,.d (D.sl false E.int xs)),(.tmp 1,.d (D.I m)),(.tmp 5,.d (D.I ((i:Int)))),(.tmp 4,.d (D.bool false))]):=by kernel_rfl
theorem climbs_0_low (xs:List Int)(m:Int)(i:Nat) :
  runK (mk PR (Yac types) glob 36) [(9,true),(23,true),(35,true)] [(18,.bool true)] [] (k_57 [1,0,1,0,0]) (Yca xs m i) [.tmp 0,.tmp 1,.tmp 5,.tmp 4] =
   let Z0:Prop:=decide ((i:Int)>(0:Int))=true;some ([decide ((i:Int)<((xs.length:Nat):Int))=true,(0:Int)≤(i:Int)∧(i:Int)<((xs.length:Nat):Int),0+1≤1,Yae (m-(1:Int)),Contract PR glob 51 [D.I (List.getD xs (Int.toNat ((i:Int))) (E.z E.int)),D.I 0,D.I (m-(1:Int))] (D.bool true),Z0,Z0,Z0,(0:Int)≤(i:Int)∧(i:Int)<((xs.length:Nat):Int),Z0,0+1≤1,Z0,Z0,Z0,Yae ((i:Int)-(1:Int)),Z0,(0:Int)≤(i:Int)-(1:Int)∧(i:Int)-(1:Int)<((xs.length:Nat):Int),Z0,0+1≤1,Z0,Z0,decide (List.getD xs (Int.toNat ((i:Int))) (E.z E.int)≤List.getD xs (Int.toNat ((i:Int)-(1:Int))) (E.z E.int))=true],Ex.ret,[(.tmp 0,.d (D.sl false E.int xs)),(.tmp 1,.d (D.I m)),(.tmp 5,.d (D.I ((i:Int)))),(.tmp 4,.d (D.bool false))]):=by kernel_rfl
theorem climbs_0_end (xs:List Int)(m:Int)(i:Nat) :
  runK (mk PR (Yac types) glob 36) [(9,false)] [] [] (k_57 [1,0,1,0,0]) (Yca xs m i) Ygu =
   some ([decide ((i:Int)<((xs.length:Nat):Int))=false],Ex.exit 0,[(.tmp 0,.d (D.sl false E.int xs)),(.tmp 1,.d (D.I m)),(.tmp 5,.d (D.I ((i:Int))))]):=by kernel_rfl
def alike_T0_diff (xs ys:List Int)(i:Nat)  : List (Key×Val) :=
 [(.tmp 0,.d (D.sl false E.int xs)),(.tmp 1,.d (D.sl false E.int ys)),(.tmp 5,.d (D.I ((i:Int)))),(.tmp 4,.d (D.bool false))]
def atB_T0_hit (xs:List Int)(v:Int)(i:Nat)  : List (Key×Val) :=
 [(.tmp 0,.d (D.sl false E.int xs)),(.tmp 1,.d (D.I v)),(.tmp 5,.d (D.I ((i:Int)))),(.tmp 4,.d (D.I ((i:Int))))]
def climbs_T0_out (xs:List Int)(m:Int)(i:Nat)  : List (Key×Val) :=
 [(.tmp 0,.d (D.sl false E.int xs)),(.tmp 1,.d (D.I m)),(.tmp 5,.d (D.I ((i:Int)))),(.tmp 4,.d (D.bool false))]
def climbs_T0_low (xs:List Int)(m:Int)(i:Nat)  : List (Key×Val) :=
 [(.tmp 0,.d (D.sl false E.int xs)),(.tmp 1,.d (D.I m)),(.tmp 5,.d (D.I ((i:Int)))),(.tmp 4,.d (D.bool false))]
theorem rangeB_all (a c:Int) :
  Yai (mk PR (Yac types) glob 8) [] [] [] (body Tryz.f94) [.cell 4 113] [.I a,.I c] =
   some ([0+2≤2],D.agg [D.I a,D.I c]):=by kernel_rfl
theorem point_all (a:Int) :
  Yai (mk PR (Yac types) glob 6) [] [(5,spD ⟨a,a⟩)] [] (body Tryz.f116) [.cell 2 113] [.I a] =
   some ([Contract PR glob 94 [D.I a,D.I a] (D.agg [D.I (Span.lo (Span.mk a a)),D.I (Span.hi (Span.mk a a))]),0+2≤2],D.agg [D.I (Span.lo (Span.mk a a)),D.I (Span.hi (Span.mk a a))]):=by kernel_rfl
theorem inside_no (n lo hi:Int) :
  Yai (mk PR (Yac types) glob 15) [(10,false)] [] [] (body Tryz.f51) [.tmp 6] [.I n,.I lo,.I hi] =
   let Z0:Prop:=decide (n≥lo)=false;some ([Z0,Z0,Z0,Z0],D.bool false):=by kernel_rfl
theorem inside_yes (n lo hi:Int) :
  Yai (mk PR (Yac types) glob 15) [(10,true)] [] [] (body Tryz.f51) [.tmp 6] [.I n,.I lo,.I hi] =
   let Z0:Prop:=decide (n≥lo)=true;some ([Z0,Z0,Z0,Z0],D.bool (decide (n≤hi))):=by kernel_rfl
theorem validB_a (s:Span)(lo hi:Int) :
  Yai (mk PR (Yac types) glob 24) [(11,false)] [] [] (body Tryz.f91) [.tmp 6] [spD s,.I lo,.I hi] =
   let Z0:Prop:=decide (s.lo≥lo)=false;some ([0+0+1≤2,Z0,Z0,Z0,Z0,Z0,Z0],D.bool false):=by kernel_rfl
theorem validB_b (s:Span)(lo hi:Int) :
  Yai (mk PR (Yac types) glob 24) [(11,true),(18,false)] [] [] (body Tryz.f91) [.tmp 6] [spD s,.I lo,.I hi] =
   let Z0:Prop:=decide (s.lo≥lo)=true;let Z1:Prop:=decide (s.lo≤s.hi)=false;some ([0+0+1≤2,Z0,Z0,0+0+1≤2,Z0,Z0,0+1+1≤2,Z0,Z0,Z1,Z1,Z1,Z1,Z1],D.bool false):=by kernel_rfl
theorem validB_c (s:Span)(lo hi:Int) :
  Yai (mk PR (Yac types) glob 24) [(11,true),(18,true)] [] [] (body Tryz.f91) [.tmp 6] [spD s,.I lo,.I hi] =
   let Z0:Prop:=decide (s.lo≥lo)=true;let Z1:Prop:=decide (s.lo≤s.hi)=true;some ([0+0+1≤2,Z0,Z0,0+0+1≤2,Z0,Z0,0+1+1≤2,Z0,Z0,Z1,Z1,0+1+1≤2,Z1,Z1,Z1],D.bool (decide (s.hi≤hi))):=by kernel_rfl
theorem alike_len (xs ys:List Int) :
  Yai (mk PR (Yac types) glob 26) [(10,true)] [] [] (body Tryz.f25) [.tmp 4] [.sl false .int xs,.sl false .int ys] =
   some ([(((xs.length:Nat):Int) != ((ys.length:Nat):Int))=true],D.bool false):=by kernel_rfl
theorem alike_diff (xs ys:List Int)(i:Nat) :
  Yai (mk PR (Yac types) glob 26) [(10,false)] [] [(0,(alike_K0,(.ret,alike_T0_diff xs ys i)))] (body Tryz.f25) [.tmp 4] [.sl false .int xs,.sl false .int ys] =
   some ([(((xs.length:Nat):Int) != ((ys.length:Nat):Int))=false,LoopT PR glob 26 (k_25 [1,1,0,1]) (Yd2 xs ys 0) Ex.ret (alike_T0_diff xs ys i)],D.bool false):=by kernel_rfl
theorem alike_all (xs ys:List Int)(i:Nat) :
  Yai (mk PR (Yac types) glob 26) [(10,false)] [] [(0,(alike_K0,(.normal,Yd2 xs ys i)))] (body Tryz.f25) [.tmp 4] [.sl false .int xs,.sl false .int ys] =
   some ([(((xs.length:Nat):Int) != ((ys.length:Nat):Int))=false,LoopT PR glob 26 (k_25 [1,1,0,1]) (Yd2 xs ys 0) Ex.normal (Yd2 xs ys i)],D.bool true):=by kernel_rfl
theorem atB_hit (xs:List Int)(v:Int)(i:Nat) :
  Yai (mk PR (Yac types) glob 19) [] [] [(0,(atB_K0,(.ret,atB_T0_hit xs v i)))] (body Tryz.f78) [.tmp 4] [.sl false .int xs,.I v] =
   some ([LoopT PR glob 19 (k_78 [1,0,1]) (atB_S0 xs v 0) Ex.ret (atB_T0_hit xs v i)],D.I ((i:Int))):=by kernel_rfl
theorem atB_end (xs:List Int)(v:Int)(i:Nat) :
  Yai (mk PR (Yac types) glob 19) [] [] [(0,(atB_K0,(.normal,atB_S0 xs v i)))] (body Tryz.f78) [.tmp 4] [.sl false .int xs,.I v] =
   some ([LoopT PR glob 19 (k_78 [1,0,1]) (atB_S0 xs v 0) Ex.normal (atB_S0 xs v i)],D.I (-(1:Int))):=by kernel_rfl
theorem climbs_out (xs:List Int)(m:Int)(i:Nat) :
  Yai (mk PR (Yac types) glob 36) [] [] [(0,(Ygu,(.ret,climbs_T0_out xs m i)))] (body Tryz.f57) [.tmp 4] [.sl false .int xs,.I m] =
   some ([LoopT PR glob 36 (k_57 [1,0,1]) (Yca xs m 0) Ex.ret (climbs_T0_out xs m i)],D.bool false):=by kernel_rfl
theorem climbs_low (xs:List Int)(m:Int)(i:Nat) :
  Yai (mk PR (Yac types) glob 36) [] [] [(0,(Ygu,(.ret,climbs_T0_low xs m i)))] (body Tryz.f57) [.tmp 4] [.sl false .int xs,.I m] =
   some ([LoopT PR glob 36 (k_57 [1,0,1]) (Yca xs m 0) Ex.ret (climbs_T0_low xs m i)],D.bool false):=by kernel_rfl
theorem climbs_end (xs:List Int)(m:Int)(i:Nat) :
  Yai (mk PR (Yac types) glob 36) [] [] [(0,(Ygu,(.normal,Yca xs m i)))] (body Tryz.f57) [.tmp 4] [.sl false .int xs,.I m] =
   some ([LoopT PR glob 36 (k_57 [1,0,1]) (Yca xs m 0) Ex.normal (Yca xs m i)],D.bool true):=by kernel_rfl
end Go.Di

