/- Part 32: contracts are proved. No condition. -/
import Derived.Test.YtfkmodcjddfeiaaGreatDoorDi31
set_option linter.unusedVariables false
set_option linter.unusedSimpArgs false
namespace Go.Di
open Proofs
theorem eq2 (a b c d:Int):eqI [a,b] [c,d]=decide (a=c/\b=d):=by
 rw[Bool.eq_iff_iff];simp[eqI]
theorem Xe6 (i a b:Nat):decide ((i:Int)<List.foldl mn ((a:Int)) [(b:Int)])=decide (i<a/\i<b):=by
 show decide ((i:Int)<mn (a:Int) (b:Int))=_;unfold mn;refine decide_eq_decide.2 ?_
 split<;>omega
theorem Xgi (a b:Work):(decide (a.d<b.d)||(decide (a.d=b.d)&&decide (a.s<b.s)))=decide (Ya7 a b<0):=by
 rw[Bool.eq_iff_iff,decide_eq_true_eq,Ywl];exact Xgh
theorem Xdf {p q:List Work}(hp:p.length<=1000000)(hq:q.length<=1000000):CF 106 [.z .work p,.z .work q] (.bool (decide (Ya9 p q<0))):=by
 have hcode:Yvu [1,0,1]=.block 0 (.loop (Yvu [1,0,1,0,0])):=by kernel_rfl
 have hon:∀ i,i<p.length->i<q.length->Ya7 (p.getD i Yam) (q.getD i Yam)=0->∃ dec orc lorc ks ps L1,runK (MH 38) dec orc lorc (Yvu [1,0,1,0,0]) (Yf8 p q i) ks=some (ps,.normal,L1)/\allP ps/\L1=Yf8 p q (i+1):=by
  intro i h1 h2 h3;have he:=Ymw.1 h3;have hlt:decide ((i:Int)<List.foldl mn ((p.length:Int)) [(q.length:Int)])=true:=by rw[Xe6];exact decide_eq_true ⟨h1,h2⟩
  have heq:(!eqI [(p.getD i Yam).d,(p.getD i Yam).s] [(q.getD i Yam).d,(q.getD i Yam).s])=false:=by rw[eq2,he,decide_eq_true ⟨rfl,rfl⟩];rfl
  exact⟨_,_,_,_,_,_,Zxv p q i,⟨hlt,⟨by omega,by omega⟩,by omega,⟨by omega,by omega⟩,by omega,heq,Yap (by omega) (by omega),trivial⟩,rfl⟩
 rcases Ycr (fun i=>Ya7 (p.getD i Yam) (q.getD i Yam) != 0) (min p.length q.length) with ⟨k,h1,h2,h3⟩|h
 ·have hk1:k<p.length:=by omega
  have hk2:k<q.length:=by omega
  have hb:∀ i<k,i<q.length/\Ya7 (p.getD i Yam) (q.getD i Yam)=0:=fun i hi=>⟨by omega,by simpa using h3 i hi⟩;have hne:Ya7 (p.getD k Yam) (q.getD k Yam)≠0:=by simpa using h2
  have hlt:decide ((k:Int)<List.foldl mn ((p.length:Int)) [(q.length:Int)])=true:=by rw[Xe6];exact decide_eq_true ⟨hk1,hk2⟩
  have heq:(!eqI [(p.getD k Yam).d,(p.getD k Yam).s] [(q.getD k Yam).d,(q.getD k Yam).s])=true:=by
   rw[eq2,decide_eq_false]
   ·rfl
   ·rintro⟨e1,e2⟩
    refine hne (Ymw.2 ?_)
    cases hA:p.getD k Yam;cases hB:q.getD k Yam
    rw[hA,hB]at e1 e2;simp only at e1 e2;rw[e1,e2]
  have hbc:=Zyz (p.getD k Yam) (q.getD k Yam);rw[Xgi]at hbc
  have hcmp:Ya9 p q=Ya7 (p.getD k Yam) (q.getD k Yam):=by
   rw[Ymx k p q (by omega) hb,Ygo p k hk1,Ygo q k hk2];simp only[Ya9];rw[if_pos hne]
  rw[show decide (Ya9 p q<0)=decide (Ya7 (p.getD k Yam) (q.getD k Yam)<0) from by rw[hcmp]];refine Yaa (GH 38) Xcg (Xg3 p q k (decide (Ya7 (p.getD k Yam) (q.getD k Yam)<0))) ⟨?_,trivial⟩;exact LH.each (id:=0) hcode k (fun i=>Yf8 p q i) (fun i hi=>hon i (by omega) (by omega) (hb i hi).2) ⟨_,_,_,_,_,_,_,Zxw p q k _,⟨hlt,⟨by omega,by omega⟩,by omega,⟨by omega,by omega⟩,by omega,heq,⟨by omega,by omega⟩,by omega,⟨by omega,by omega⟩,by omega,hbc,trivial⟩,.inr ⟨rfl,rfl⟩,rfl⟩
 ·have hall:∀ i,i<min p.length q.length->Ya7 (p.getD i Yam) (q.getD i Yam)=0:=fun i hi=>by simpa using h i hi
  have hend:decide (((min p.length q.length:Nat):Int)<List.foldl mn ((p.length:Int)) [(q.length:Int)])=false:=by rw[Xe6];exact decide_eq_false (by omega)
  have hloop:LF 38 (Yvu [1,0,1]) (Yf8 p q 0) .normal (Yf8 p q (min p.length q.length)) :=
   LH.each (id:=0) hcode (min p.length q.length) (fun i=>Yf8 p q i) (fun i hi=>hon i (by omega) (by omega) (hall i hi)) ⟨_,_,_,_,_,_,_,Zqi p q _,⟨hend,trivial⟩,.inl ⟨rfl,rfl⟩,rfl⟩
  have hres:decide (Ya9 p q<0)=decide ((p.length:Int)<(q.length:Int)):=by
   refine decide_eq_decide.2 ?_;rw[Ymx (min p.length q.length) p q (by omega) (fun i hi=>⟨by omega,hall i hi⟩)]
   by_cases hlt:p.length<q.length
   ·rw[List.drop_eq_nil_of_le (show p.length<=min p.length q.length by omega),Ygo q _ (show min p.length q.length<q.length by omega)];simp only[Ya9];omega
   ·rw[List.drop_eq_nil_of_le (show q.length<=min p.length q.length by omega)]
    cases p.drop (min p.length q.length) with
    | nil=>simp only[Ya9];omega
    | cons a r=>simp only[Ya9];omega
  rw[hres];exact Yaa (GH 38) Xcg (Xdg p q _) ⟨hloop,trivial⟩
theorem Zf7 {x:FBook}(hx:FIn x)(p:List Work):Yoz x p>=0↔Yep x p=false:=by
 unfold Yoz Yep;rw[decide_eq_false_iff_not];have hst:=hx.stock.1
 cases h:Yly x p with
 | none =>
  have h1:=Yqe h;have h2:Ycc x p<=x.stock:=by unfold Ycc;exact(Ygh x p x.stock p.length).2 ⟨hst,h1⟩
  simp only
  constructor
  ·intro h3;omega
  ·intro h3;exact absurd h2 h3
 | some k =>
  obtain⟨h1,h2,_⟩:=Yqd hx h
  have h3:¬Ycc x p<=x.stock:=by
   unfold Ycc;intro h4
   have:=((Ygh x p x.stock p.length).1 h4).2 k h1
   omega
  simp only;exact⟨fun _=>h3,fun _=>by omega⟩
def Xj4:List Work×Bool->D
 | (p,true)=>.tup [.z .work p,.bool true]
 | (_,false)=>.tup [.sl true .work [],.bool false]
def rbS (x:FBook)(l:List (List Work))(i:Nat):List Work×Bool->KV
 | (o,true)=>Ydl x l i o
 | (_,false)=>Yha x l i
theorem Ytr {x:FBook}(hx:FIn x)(th:LL)(wr:LI):(Yc5 x th wr).length<=1048576:=by
 have hp:=Yyj hx.opnl;refine Nat.le_trans (Ynv (fun s=>?_) x.feet.length 0 zeroW) (Xhp hx.n.2)
 by_cases hs:s<x.feet.length
 ·rw[Zh7 hs];exact Nat.le_trans (Yfv x _ _ s _) hp
 ·rw[List.getD_eq_getElem?_getD,List.getElem?_eq_none (by unfold allF;rw[List.length_map,List.length_range];omega)];exact Nat.zero_le _
theorem Zb9 {x:FBook}(hP:PIn x)(hc:canF x.chain=true)(hk:KnOk x (Yas x) (Yar x)):CF 76 [Yab x] (Xj4 (Yem x (Yas x) (Yar x))):=by
 have hx:=hP.inn;have hpl:=Zqt hP hc hk;have hle:=Ytr hx (Yas x) (Yar x);have hok:∀ p∈Yc5 x (Yas x) (Yar x),PlanOk x p:=fun p hp=>Yfp hx hp;unfold Yem;generalize Yc5 x (Yas x) (Yar x)=l at hpl hle hok
 have hloop:LF 60 (k_76 [1,1,1,1,0,1]) (rbS x l 0 (bestOf x (l.take 0))) .normal (rbS x l l.length (bestOf x l)):=by
  refine LH.each (id:=0) (c:=k_76 [1,1,1,1,0,1,0,0]) (by kernel_rfl) l.length (fun i=>rbS x l i (bestOf x (l.take i))) (fun i hi=>?_) ?_
  ·have hlt:decide ((i:Int)<(l.length:Int))=true:=Yat hi;have hi64:Yae ((i:Int)+1):=Yap (by omega) (by omega);have hix:(0:Int)<=(i:Int)/\(i:Int)<(l.length:Int):=⟨by omega,by omega⟩
   have he:bestOf x (l.take (i+1))=Yb8 x (bestOf x (l.take i)) (l.getD i []):=by
    unfold bestOf;rw[Yg2 l i [] hi,List.foldl_append];rfl
   have hm:=hok _ (Ybw [] hi);have c75:=Zqj hx hm;have c74:=Ynj hx hm;have hg:=Zf7 hx (l.getD i []);have hsp:=Yiu x (l.take i);simp only[he];unfold Yb8
   cases hgd:Yep x (l.getD i []) with
   | false =>
    have hk0:decide (Yoz x (l.getD i [])>=0)=true:=decide_eq_true (hg.2 hgd);simp only[Bool.false_and,Bool.false_eq_true,if_false]
    cases hb:bestOf x (l.take i) with
    | mk o f=>cases f with
     | false=>exact⟨_,_,_,_,_,_,Zce x l i _,⟨hlt,hix,c75,hk0,hi64,trivial⟩,rfl⟩
     | true=>exact⟨_,_,_,_,_,_,Zca x l i o _,⟨hlt,hix,c75,hk0,hi64,trivial⟩,rfl⟩
   | true =>
    have hk0:decide (Yoz x (l.getD i [])>=0)=false:=decide_eq_false fun h=>by have:=hg.1 h;rw[hgd]at this;cases this
    cases hb:bestOf x (l.take i) with
    | mk o f =>
     cases f with
     | false =>
      have c0:=Ynj hx (plan:=[]) ⟨by simp,fun w hw=>(by cases hw)⟩;simp only[Bool.not_false,Bool.true_or,Bool.and_true,if_true];exact⟨_,_,_,_,_,_,Zcd x l i _ _ _,⟨hlt,hix,c75,hk0,hix,c74,c0,hix,hi64,trivial⟩,rfl⟩
     | true =>
      rw[hb]at hsp
      have ho:PlanOk x o:=by
       rcases hsp with ⟨_,h2,_⟩|⟨h1,_⟩
       ·exact hok _ (List.mem_of_mem_take h2)
       ·cases h1
      have co:=Ynj hx ho;have cs:=Xdf (p:=l.getD i []) (q:=o) (by have:=hm.1;omega) (by have:=ho.1;omega);simp only[Bool.not_true,Bool.false_or,Bool.true_and];unfold Ycw
      by_cases h1:Ybf x (l.getD i [])<Ybf x o
      ·have h1':=decide_eq_true h1;rw[h1',Bool.true_or,if_pos rfl];exact⟨_,_,_,_,_,_,Zcc x l i o _ _ _,by repeat(first|exact trivial|refine⟨by first|exact hlt|exact hix|exact c75|exact hk0|exact c74|exact co|exact h1'|exact hi64,?_⟩),rfl⟩
      ·have h1':=decide_eq_false h1;rw[h1',Bool.false_or]
       by_cases h2:Ybf x (l.getD i [])=Ybf x o
       ·have h2':(Ybf x (l.getD i [])==Ybf x o)=true:=beq_iff_eq.2 h2;rw[decide_eq_true h2,Bool.true_and]
        cases h3:decide (Ya9 (l.getD i []) o<0) with
        | true =>
         rw[h3]at cs;rw[if_pos rfl];exact⟨_,_,_,_,_,_,Zj6 x l i o _ _ _,by repeat(first|exact trivial|refine⟨by first|exact hlt|exact hix|exact c75|exact hk0|exact c74|exact co|exact h1'|exact h2'|exact cs|exact hi64,?_⟩),rfl⟩
        | false =>
         rw[h3]at cs;rw[if_neg (by decide)];exact⟨_,_,_,_,_,_,Zj7 x l i o _ _ _,by repeat(first|exact trivial|refine⟨by first|exact hlt|exact hix|exact c75|exact hk0|exact c74|exact co|exact h1'|exact h2'|exact cs|exact hi64,?_⟩),rfl⟩
       ·have h2':(Ybf x (l.getD i [])==Ybf x o)=false:=beq_eq_false_iff_ne.2 h2;rw[decide_eq_false h2,Bool.false_and,if_neg (by decide)];exact⟨_,_,_,_,_,_,Zcb x l i o _ _ _,by repeat(first|exact trivial|refine⟨by first|exact hlt|exact hix|exact c75|exact hk0|exact c74|exact co|exact h1'|exact h2'|exact hi64,?_⟩),rfl⟩
  ·show ∃ dec orc lorc ks ps e1 L1,_;rw[List.take_length]
   cases bestOf x l with
   | mk o f=>cases f with
    | false=>exact⟨_,_,_,_,_,_,_,Zj9 x l _,⟨Yay,trivial⟩,.inl ⟨rfl,rfl⟩,rfl⟩
    | true=>exact⟨_,_,_,_,_,_,_,Zj8 x l _ o,⟨Yay,trivial⟩,.inl ⟨rfl,rfl⟩,rfl⟩
 cases hb:bestOf x l with
 | mk o f =>
  rw[hb]at hloop
  cases f with
  | false=>exact Yaa (GH 60) Zrx (Zrw x l l.length) ⟨hpl,hloop,trivial⟩
  | true=>exact Yaa (GH 60) Zrx (Zrv x l l.length o) ⟨hpl,hloop,trivial⟩
theorem Xej {x:FBook}(hs:FSmall x):CF 39 [Yab x] (.tup [.z .work (Yeq x).1,.I (Yeq x).2]):=by
 have ha:=Zcg hs true;unfold Yeq
 by_cases he:Yda x true=0
 ·obtain⟨hV,_,h2,_⟩:=Yio he;rw[if_pos he];rw[he]at ha;have hb:=Zb9 hV.pin h2 (Yjl hV h2)
  cases hbf:Yem x (Yas x) (Yar x) with
  | mk p f =>
   rw[hbf]at hb
   cases f with
   | false=>exact(Yaa (GH 20) Zsi (Zzc x) ⟨ha,hb,trivial⟩).toRes fun R w v h=>Yhr h
   | true=>exact Yaa (GH 20) Zsi (Zzb x p) ⟨ha,hb,trivial⟩
 ·rw[if_neg he];exact(Yaa (GH 20) Zsi (Xek x _) ⟨ha,bne_iff_ne.2 he,trivial⟩).toRes fun R w v h=>Yhr h
theorem Xef {x:FBook}(hs:FSmall x):CF 40 [Yab x] (.tup [.I (Yhg x).1,.I (Yhg x).2]):=by
 have ha:=Zcg hs true;unfold Yhg
 by_cases he:Yda x true=0
 ·obtain⟨hV,_,h2,_⟩:=Yio he;rw[if_pos he];rw[he]at ha;have hx:=hV.inn;have hpl:=Zqt hV.pin h2 (Yjl hV h2);have hle:=Ytr hx (Yas x) (Yar x);have hok:∀ p∈Yc5 x (Yas x) (Yar x),PlanOk x p:=fun p hp=>Yfp hx hp;have hst:Ylx x (Yas x) (Yar x)=Yc1 x (Yc5 x (Yas x) (Yar x)):=rfl;rw[hst];generalize Yc5 x (Yas x) (Yar x)=l at hpl hle hok
  have hle2:∀ c:Int,c<=200->(Yc1 x l<=c↔∃ p∈l,Ycc x p<=c):=by
   intro c hc
   have:=Ytc x c l 201
   unfold Yc1;rw[this];exact⟨fun h=>h.resolve_left (by omega),.inr⟩
  have hcode:k_40 [1,1,1,0,1]=.block 0 (.loop (k_40 [1,1,1,0,1,0,0])):=by kernel_rfl
  have hcode2:k_40 [1,1,1,0,1,0,0,1,0,0,1]=.block 2 (.loop (k_40 [1,1,1,0,1,0,0,1,0,0,1,0,0])):=by kernel_rfl
  have h75:∀(c i:Nat),c<=200->i<l.length->CF 75 [Yab (x.withStock c),.z .work (l.getD i [])] (.I (Yoz (x.withStock c) (l.getD i [])))/\(Yoz (x.withStock c) (l.getD i [])<0↔Ycc x (l.getD i [])<=c):=by
   intro c i hc hi;have hxc:=Zxl hx (c:=(c:Int)) (by omega);have hp:=hok _ (Ybw [] hi);have hpc:PlanOk (x.withStock c) (l.getD i []):=⟨hp.1,fun w hw=>⟨(hp.2 w hw).s,(hp.2 w hw).d⟩⟩;refine⟨Zqj hxc hpc,?_⟩;have h1:=Zf7 hxc (l.getD i [])
   have h2:Yep (x.withStock c) (l.getD i [])=decide (Ycc x (l.getD i [])<=(c:Int)):=by
    unfold Yep;rw[Zdp];rfl
   rw[h2,decide_eq_false_iff_not]at h1;omega
  have hin:∀ c:Nat,c<=200->∀ N,N<=l.length->(∀ i,i<N->¬Ycc x (l.getD i [])<=c)->∀ {e:Ex} {L':KV},
    (∃ dec orc lorc ks ps e1 L1,runK (MH 39) dec orc lorc (k_40 [1,1,1,0,1,0,0,1,0,0,1,0,0]) (Ykx x l c N) ks=some (ps,e1,L1)/\allP ps/\(e1=.exit 2/\e=.normal\/e1=.ret/\e=.ret)/\L1=L') ->
    LF 39 (k_40 [1,1,1,0,1,0,0,1,0,0,1]) (Ykx x l c 0) e L':=by
   intro c hc N hN hb e L' hfin;refine LH.each (id:=2) hcode2 N (fun i=>Ykx x l c i) (fun i hi=>?_) hfin;obtain⟨c1,c2⟩:=h75 c i hc (by omega);have hno:=hb i hi;exact⟨_,_,_,_,_,_,Zy8 x l c i _,⟨Yat (by omega),⟨by omega,by omega⟩,c1,decide_eq_false (fun h=>hno (c2.1 h)),Yap (by omega) (by omega),trivial⟩,rfl⟩
  have hgt:∀ c:Nat,c<=200->(c:Int)<Yc1 x l->∀ i,i<l.length->¬Ycc x (l.getD i [])<=c:=by
   intro c hc hlt i hi h
   have:=(hle2 c (by omega)).2 ⟨_,Ybw [] hi,h⟩
   omega
  have hon:∀ c:Nat,c<=200->(c:Int)<Yc1 x l->∃ dec orc lorc ks ps L1,runK (MH 39) dec orc lorc (k_40 [1,1,1,0,1,0,0]) (Yi9 x l c) ks=some (ps,.normal,L1)/\allP ps/\L1=Yi9 x l (c+1):=fun c hc hlt =>
   ⟨_,_,_,_,_,_,Zy9 x l c l.length,⟨decide_eq_true (by omega),hin c hc _ (Nat.le_refl _) (hgt c hc hlt) ⟨_,_,_,_,_,_,_,Zsd x l c _,⟨Yay,trivial⟩,.inl ⟨rfl,rfl⟩,rfl⟩,Yap (by omega) (by omega),trivial⟩,rfl⟩
  by_cases hbig:Yc1 x l>200
  ·rw[if_pos hbig];refine Yaa (GH 39) Zsb (Zy7 x l 201) ⟨ha,hpl,?_,trivial⟩;exact LH.each (id:=0) hcode 201 (fun c=>Yi9 x l c) (fun c hc=>hon c (by omega) (by omega)) ⟨_,_,_,_,_,_,_,Zsf x l 201,⟨decide_eq_false (by decide),trivial⟩,.inl ⟨rfl,rfl⟩,rfl⟩
  ·rw[if_neg hbig]
   have h0:0<=Yc1 x l:=by
    by_cases hneg:Yc1 x l<0
    ·obtain⟨p,hp,hq⟩:=(hle2 (Yc1 x l) (by omega)).1 (Int.le_refl _)
     have:=(Ygh x p (Yc1 x l) p.length).1 hq
     omega
    ·omega
   obtain⟨c,hc⟩:∃ c:Nat,(c:Int)=Yc1 x l:=⟨(Yc1 x l).toNat,by omega⟩;obtain⟨p,hp,hq⟩:=(hle2 (Yc1 x l) (by omega)).1 (Int.le_refl _);rcases Ycr (fun i=>decide (Ycc x (l.getD i [])<=(c:Int))) l.length with ⟨i,i1,i2,i3⟩|h
   ·obtain⟨c1,c2⟩:=h75 c i (by omega) i1;have hlow:∀ j,j<i->¬Ycc x (l.getD j [])<=(c:Int):=fun j hj=>of_decide_eq_false (i3 j hj);have hneg:decide (Yoz (x.withStock c) (l.getD i [])<0)=true:=decide_eq_true (c2.2 (of_decide_eq_true i2));rw[<-hc];refine Yaa (GH 39) Zsb (Xee x l c i (Yoz (x.withStock c) (l.getD i []))) ⟨ha,hpl,?_,trivial⟩;refine LH.each (id:=0) hcode c (fun c=>Yi9 x l c) (fun c' hc'=>hon c' (by omega) (by omega)) ⟨_,_,_,_,_,_,_,Zse x l c i (Yoz (x.withStock c) (l.getD i [])),⟨decide_eq_true (by omega),?_,trivial⟩,.inr ⟨rfl,rfl⟩,rfl⟩
    exact hin c (by omega) i (by omega) hlow ⟨_,_,_,_,_,_,_,Zsc x l c i (Yoz (x.withStock c) (l.getD i [])),⟨Yat i1,⟨by omega,by omega⟩,c1,hneg,trivial⟩,.inr ⟨rfl,rfl⟩,rfl⟩
   ·obtain⟨j,hj,rfl⟩:∃ j,j<l.length/\l.getD j []=p:=by
     obtain⟨j,hj,h1⟩:=List.getElem_of_mem hp;exact⟨j,hj,by rw[List.getD_eq_getElem?_getD,List.getElem?_eq_getElem hj];exact h1⟩
    have:=of_decide_eq_false (h j hj)
    rw[hc]at this;exact absurd hq this
 ·rw[if_neg he];exact Yaa (GH 39) Zsb (Xeg x [] _) ⟨ha,bne_iff_ne.2 he,trivial⟩
theorem Zya {x:FBook}(hV:FValid x){d:Int}(hd:0<=d/\d<=x.chain.days)(hno:d∉x.opn):PIn (x.rest d):=⟨Yu2 hV hd,Yqp hV hd hno,hV.chain,hV.feet⟩
theorem Zux {x:FBook}(hf:∀ n∈x.feet,n<=30):∀ p:List Work,Ybf x p<=30*p.length
 | []=>by simp[Ybf,Yd7,sumF]
 | w::p=>by
  have ih:=Zux hf p;rw[Zuz,List.length_cons]
  have h1:x.feet.getD w.s.toNat 0<=30:=by
   by_cases h:w.s.toNat<x.feet.length
   ·exact hf _ (Ybw 0 h)
   ·rw[List.getD_eq_getElem?_getD,List.getElem?_eq_none (by omega)]
    decide
  omega
theorem Zk3 {x:FBook}(hx:FIn x){th:LL}{wr:LI}{p:List Work}(h:p∈Yc5 x th wr):p.length<=20:=by
 obtain⟨c,rfl,_⟩:=Ytq _ _ _ _ h;have h1:=Yed x (Yoj c x.feet.length 0 zeroW) x.opn.length;have h2:x.opn.length*x.feet.length<=5*4:=Nat.mul_le_mul hx.opnl hx.n.2;exact Nat.le_trans h1 h2
def Zem (o:Int×Int×Bool):Int:=if o.2.2=true then o.2.1 else 601
theorem Xeh {x:FBook}(hs:FSmall x):CF 41 [Yab x] (.tup [.I (Yk1 x).1,.I (Yk1 x).2]):=by
 have ha:=Zcg hs true;unfold Yk1
 by_cases he:Yda x true=0
 ·obtain⟨hV,_,h2,_⟩:=Yio he;rw[if_pos he];rw[he]at ha;have hx:=hV.inn;have hdd:=hV.chain.days;have hk:=Yjl hV h2;have hb0:=Zb9 hV.pin h2 hk
  have hloop:LF 62 (k_41 [1,1,1,1,1,1,0,1]) (Ydn x (Zem (Yc7 x (Yas x) (Yar x) 0)) (Yc7 x (Yas x) (Yar x) 0).1 0) .normal (Ydn x (Zem (Yc7 x (Yas x) (Yar x) (x.chain.days+1).toNat)) (Yc7 x (Yas x) (Yar x) (x.chain.days+1).toNat).1 (x.chain.days+1).toNat):=by
   refine LH.each (id:=0) (c:=k_41 [1,1,1,1,1,1,0,1,0,0]) (by kernel_rfl) (x.chain.days+1).toNat (fun d=>Ydn x (Zem (Yc7 x (Yas x) (Yar x) d)) (Yc7 x (Yas x) (Yar x) d).1 d) (fun d hd=>?_) ⟨_,_,_,_,_,_,_,Zsh x _ _ _,⟨decide_eq_false (by omega),trivial⟩,.inl ⟨rfl,rfl⟩,rfl⟩;have hlt:decide ((d:Int)<=x.chain.days)=true:=decide_eq_true (by omega);have hi64:Yae ((d:Int)+1):=Yap (by omega) (by omega);have hat:=(Zv6 x.opn (d:Int) (by have:=hx.opnl;omega)).up
   have hge:=Ymk (d:Int) x.opn 0;have hstep:Yc7 x (Yas x) (Yar x) (d+1)=Yib x (Yas x) (Yar x) (Yc7 x (Yas x) (Yar x) d) d:=rfl;rw[hstep];generalize Yc7 x (Yas x) (Yar x) d=o;unfold Yib
   by_cases hin:(d:Int)∈x.opn
   ·rw[if_pos (List.contains_iff_mem.2 hin)];exact⟨_,_,_,_,_,_,Zsg x _ _ d _,⟨hlt,hat,decide_eq_true (hge.2 hin),hi64,trivial⟩,rfl⟩
   ·rw[if_neg (fun h=>hin (List.contains_iff_mem.1 h))];have hno:decide (Yd6 (d:Int) x.opn 0>=0)=false:=decide_eq_false fun h=>hin (hge.1 h);have hdy:(0:Int)<=(d:Int)/\(d:Int)<=x.chain.days:=⟨by omega,by omega⟩;have hw:=Xdb hV (d:Int) hdy;rw[Zyc hV hdy hin]at hw;have hkr:KnOk (x.rest d) (Yas (x.rest d)) (Yar (x.rest d)):=⟨hk.wl,hk.w,hk.tl,hk.row,hk.t⟩;have hbr:=Zb9 (Zya hV hdy hin) h2 hkr;have hbe:Yem (x.rest d) (Yas (x.rest d)) (Yar (x.rest d))=Yem (x.rest d) (Yas x) (Yar x):=rfl
    rw[hbe]at hbr
    cases hbf:Yem (x.rest d) (Yas x) (Yar x) with
    | mk p f =>
     rw[hbf]at hbr
     cases f with
     | false=>exact⟨_,_,_,_,_,_,Zza x _ _ d _ (x.rest d),⟨hlt,hat,hno,hw,hbr,hi64,trivial⟩,rfl⟩
     | true =>
      have hmem:p∈Yc5 (x.rest d) (Yas x) (Yar x):=by
       have hsp:=Yiu (x.rest d) (Yc5 (x.rest d) (Yas x) (Yar x));rw[show bestOf (x.rest d) (Yc5 (x.rest d) (Yas x) (Yar x))=(p,true) from hbf]at hsp;rcases hsp with ⟨_,h,_⟩|⟨h,_⟩
       ·exact h
       ·cases h
      have hpr:=Yfp (Yu2 hV hdy) hmem;have hpo:PlanOk x p:=⟨hpr.1,fun w hw=>⟨(hpr.2 w hw).s,(hpr.2 w hw).d⟩⟩;have hft:=Ynj hx hpo
      have h600:Ybf x p<=600:=by
       have h1:=Zux (fun n hn=>(hV.each n hn).2) p;have h2:=Zk3 (Yu2 hV hdy) hmem;omega
      simp only
      by_cases hless:o.2.2=false\/Ybf x p<o.2.1
      ·have hl:decide (Ybf x p<Zem o)=true:=by
        refine decide_eq_true ?_;unfold Zem;rcases hless with h|h
        ·rw[h,if_neg (by decide)];omega
        ·split<;>omega
       rw[if_pos hless];exact⟨_,_,_,_,_,_,Zkm x _ _ d _ _ (x.rest d) p,⟨hlt,hat,hno,hw,hbr,hft,hl,hft,hi64,trivial⟩,rfl⟩
      ·have hl:decide (Ybf x p<Zem o)=false:=by
        refine decide_eq_false fun h=>hless ?_;unfold Zem at h
        cases ho:o.2.2 with
        | false=>exact .inl rfl
        | true=>rw[ho,if_pos rfl]at h;exact .inr h
       rw[if_neg hless];exact⟨_,_,_,_,_,_,Zkl x _ _ d _ _ (x.rest d) p,⟨hlt,hat,hno,hw,hbr,hft,hl,hi64,trivial⟩,rfl⟩
  have hstart:Yc7 x (Yas x) (Yar x) 0=(-1,Ybf x (Yem x (Yas x) (Yar x)).1,(Yem x (Yas x) (Yar x)).2):=rfl;rw[hstart]at hloop;generalize Yc7 x (Yas x) (Yar x) (x.chain.days+1).toNat=o at hloop
  cases hbf:Yem x (Yas x) (Yar x) with
  | mk p f =>
   rw[hbf]at hb0 hloop
   cases f with
   | false =>
    by_cases hneg:o.1<0
    ·rw[if_pos hneg];exact Yaa (GH 62) Yx7 (Xhn x _ _ _) ⟨ha,hb0,hloop,decide_eq_true hneg,trivial⟩
    ·rw[if_neg hneg];exact Yaa (GH 62) Yx7 (Xhm x _ _ _) ⟨ha,hb0,hloop,decide_eq_false hneg,trivial⟩
   | true =>
    have hmem:p∈Yc5 x (Yas x) (Yar x):=by
     have hsp:=Yiu x (Yc5 x (Yas x) (Yar x));rw[show bestOf x (Yc5 x (Yas x) (Yar x))=(p,true) from hbf]at hsp;rcases hsp with ⟨_,h,_⟩|⟨h,_⟩
     ·exact h
     ·cases h
    have hft:=Ynj hx (Yfp hx hmem)
    by_cases hneg:o.1<0
    ·rw[if_pos hneg];exact Yaa (GH 62) Yx7 (Xhl x _ _ _ p _) ⟨ha,hb0,hft,hloop,decide_eq_true hneg,trivial⟩
    ·rw[if_neg hneg];exact Yaa (GH 62) Yx7 (Xhk x _ _ _ p _) ⟨ha,hb0,hft,hloop,decide_eq_false hneg,trivial⟩
 ·rw[if_neg he];exact Yaa (GH 62) Yx7 (Xei x _) ⟨ha,bne_iff_ne.2 he,trivial⟩
theorem Xe9 {x:FBook}(hs:FSmall x):CF 13 [Yab x,Yab x] (.bool true):=by
 have c1:=Yro hs;have c2:=Xej hs;have c3:=Yua hs;have c4:=Xef hs;have c5:=Yz8 hs;have c6:=Xeh hs
 have c7:CF 36 [.z .work (Yeq x).1,.z .work (Yeq x).1] (.bool true):=by
  have hl:(Yeq x).1.length<=1000000:=by
   unfold Yeq
   by_cases he:Yda x true=0
   ·obtain⟨hV,_,_,_⟩:=Yio he;rw[if_pos he]
    cases hbf:Yem x (Yas x) (Yar x) with
    | mk p f =>
     cases f with
     | false=>simp
     | true =>
      have hsp:=Yiu x (Yc5 x (Yas x) (Yar x));rw[show bestOf x (Yc5 x (Yas x) (Yar x))=(p,true) from hbf]at hsp;rcases hsp with ⟨_,h,_⟩|⟨h,_⟩
      ·have:=(Yfp hV.inn h).1
       exact Nat.le_trans this (by decide)
      ·cases h
   ·rw[if_neg he];simp
  have h:=Zgd (Yeq x).1 (Yeq x).1 hl
  rwa [decide_eq_true rfl]at h
 generalize (Yeq x).1=p at c1 c2 c7;generalize (Yeq x).2=e at c1 c2;generalize (Yhg x).1=k at c3 c4;generalize (Yhg x).2=g at c3 c4;generalize (Yk1 x).1=m at c5 c6;generalize (Yk1 x).2=h at c5 c6;have e1:(e != e)=false:=by simp
 have e2:(k != k)=false:=by simp
 have e3:(g != g)=false:=by simp
 have e4:(m==m)=true:=by simp
 have e5:(h==h)=true:=by simp
 rw[<-e5];exact Yaa (GH 66) Xh4 (Xfa x p e k g m h) (by repeat(first|exact trivial|refine⟨by first|exact c1|exact c2|exact c3|exact c4|exact c5|exact c6|exact c7|exact e1|exact e2|exact e3|exact e4,?_⟩))
theorem Xfk {x:FBook}(hs:FSmall x)(hr:FRoom x):CF 5 [Yab x] (.bool true) :=
 Yaa (GH 17) Xig (Xfl x) ⟨Zzn hr,Xe9 hs,Xaf hs,Xdx,trivial⟩
end Go.Di
