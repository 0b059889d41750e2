/- Part 18: contracts are proved. No condition. -/
import Derived.Test.YtfkmodcjddfeiaaGreatDoorDi17
set_option linter.unusedVariables false
set_option linter.unusedSimpArgs false
namespace Go.Di
open Proofs
theorem Zg6 {α:Type}:∀(l:List (K2×α)) (k k':K2) (v:α),Ybq (updK l k v) k'=if k'=k then some v else Ybq l k'
 | [],k,k',v=>by simp only[updK,Ybq]
 | (k0,u)::l,k,k',v=>by
  simp only[updK]
  by_cases h:k=k0
  ·subst h;rw[if_pos rfl];simp only[Ybq]
   by_cases h2:k'=k
   ·rw[if_pos h2,if_pos h2]
   ·rw[if_neg h2,if_neg h2,if_neg h2]
  ·rw[if_neg h];simp only[Ybq,Zg6 l k k' v]
   by_cases h2:k'=k0
   ·rw[if_pos h2,if_pos h2]
    by_cases h3:k'=k
    ·exact absurd (h3.symm.trans h2) h
    ·rw[if_neg h3]
   ·rw[if_neg h2,if_neg h2]
theorem Ypy (m:List (K2×Bool))(d:Int):∀(n:Nat) (k:K2),(Ybq (Yw2 m d n) k).getD false=((decide (k.1=d/\0<=k.2/\k.2<n))||(Ybq m k).getD false)
 | 0,k=>by
  have:decide (k.1=d/\0<=k.2/\k.2<((0:Nat):Int))=false:=decide_eq_false (by omega)
  rw[this];rfl
 | n+1,k=>by
  simp only[Yw2,Zg6]
  by_cases h:k=(d,(n:Int))
  ·subst h;rw[if_pos rfl]
   have:decide ((d=d)/\0<=(n:Int)/\(n:Int)<((n+1:Nat):Int))=true:=decide_eq_true ⟨rfl,by omega,by omega⟩
   show true=(decide ((d=d)/\0<=(n:Int)/\(n:Int)<((n+1:Nat):Int))||_);rw[this];rfl
  ·rw[if_neg h,Ypy m d n k];refine congrArg (·||_) ?_;rw[decide_eq_decide]
   have:¬(k.1=d/\k.2=n):=fun hh=>h (Prod.ext hh.1 hh.2)
   omega
theorem Ypz (x:FBook):∀(i:Nat),i<=x.opn.length->∀ k:K2,((Ybq (Yi1 x i) k).getD false=true↔(∃ j,j<i/\x.opn.getD j 0=k.1)/\0<=k.2/\k.2<x.feet.length)
 | 0,_,k=>by
  constructor
  ·intro h;simp only[Yi1,Ybq]at h
   split at h<;>cases h
  ·rintro⟨⟨j,hj,_⟩,_⟩
   omega
 | i+1,h,k=>by
  simp only[Yi1,Ypy];rw[Bool.or_eq_true,Ypz x i (by omega) k,decide_eq_true_eq]
  constructor
  ·rintro(⟨h1,h2,h3⟩|⟨⟨j,hj,h1⟩,h2,h3⟩)
   ·exact⟨⟨i,by omega,h1.symm⟩,h2,h3⟩
   ·exact⟨⟨j,by omega,h1⟩,h2,h3⟩
  ·rintro⟨⟨j,hj,h1⟩,h2,h3⟩
   by_cases hji:j=i
   ·subst hji;exact .inl ⟨h1.symm,h2,h3⟩
   ·exact .inr ⟨⟨j,by omega,h1⟩,h2,h3⟩
def Zia (x:FBook)(w:Work):Prop:=w.d∈x.opn/\0<=w.s/\w.s<x.feet.length
theorem Yfc {l:LI}{v:Int}:v∈l↔∃ j,j<l.length/\l.getD j 0=v:=by
 constructor
 ·intro h;obtain⟨j,hj,he⟩:=List.getElem_of_mem h;exact⟨j,hj,by rw[List.getD_eq_getElem?_getD,List.getElem?_eq_getElem hj];exact he⟩
 ·rintro⟨j,hj,rfl⟩
  exact Ybw 0 hj
theorem Yty {x:FBook}{w:Work}:Yjp (Ybj x) w=true↔Zia x w:=by
 unfold Yjp Ybj Zia;rw[Ypz x _ (Nat.le_refl _),Yfc]
def wlt (a b:Work):Prop:=a.d<b.d\/a.d=b.d/\a.s<b.s
theorem Yw3 {a b c:Work}(h1:wlt a b)(h2:wlt b c):wlt a c:=by unfold wlt at *;omega
theorem Yrt {a b:Work}:¬Ya7 a b>=0↔wlt a b:=by
 unfold Ya7 wlt
 split<;>omega
def IsPlan (x:FBook)(plan:List Work):Prop:=(∀ w∈plan,Zia x w)/\plan.Pairwise wlt
theorem Yjq {x:FBook}(ho:∀ d∈x.opn,0<=d):∀(l:List Work) (la:Work),(la=⟨-1,0⟩\/0<=la.d)->(Yin (Ybj x) la l=true↔IsPlan x l/\(la=⟨-1,0⟩\/∀ w∈l,wlt la w))
 | [],la,_=>by
  simp only[Yin,true_iff];exact⟨⟨fun w hw=>(by cases hw),List.Pairwise.nil⟩,.inr fun w hw=>(by cases hw)⟩
 | w::r,la,hla=>by
  have hb:badF (Ybj x) la w=false↔Zia x w/\(la=⟨-1,0⟩\/wlt la w):=by
   unfold badF;rw[Bool.or_eq_false_iff,Bool.and_eq_false_iff,Bool.not_eq_false',Yty,Bool.not_eq_false',decide_eq_true_eq,decide_eq_false_iff_not,Yrt];refine and_congr_right fun _=>or_congr_left ?_
   constructor
   ·rintro⟨h1,h2⟩
    cases la
    simp only at h1 h2;rw[h1,h2]
   ·rintro rfl
    exact⟨rfl,rfl⟩
  simp only[Yin]
  constructor
  ·intro h
   cases hbad:badF (Ybj x) la w with
   | true=>rw[hbad]at h;simp at h
   | false =>
    rw[hbad]at h;obtain⟨h1,h2⟩:=hb.1 hbad;have hwd:=ho _ h1.1;obtain⟨⟨h3,h4⟩,h5⟩:=(Yjq ho r w (.inr hwd)).1 (by simpa using h)
    have h6:∀ v∈r,wlt w v:=by
     rcases h5 with h5|h5
     ·rw[h5]at hwd;exact absurd hwd (by decide)
     ·exact h5
    refine⟨⟨fun v hv=>?_,List.pairwise_cons.2 ⟨h6,h4⟩⟩,h2.imp id fun h v hv=>?_⟩
    ·rcases List.mem_cons.1 hv with rfl|hv
     ·exact h1
     ·exact h3 v hv
    ·rcases List.mem_cons.1 hv with rfl|hv
     ·exact h
     ·exact Yw3 h (h6 v hv)
  ·rintro⟨⟨h1,h2⟩,h3⟩
   have hw:=h1 w (by simp);have hbad:badF (Ybj x) la w=false:=hb.2 ⟨hw,h3.imp id fun h=>h w (by simp)⟩;rw[hbad];obtain⟨h4,h5⟩:=List.pairwise_cons.1 h2;simpa using (Yjq ho r w (.inr (ho _ hw.1))).2 ⟨⟨fun v hv=>h1 v (by simp[hv]),h5⟩,.inr h4⟩
theorem Ykk {x:FBook}(hV:FValid x){plan:List Work}:isPlanF (Ybj x) plan=true↔IsPlan x plan:=by
 unfold isPlanF;rw[Yjq (fun d hd=>(hV.opn.1 d hd).1) plan ⟨-1,0⟩ (.inl rfl)];exact⟨fun h=>h.1,fun h=>⟨h,.inl rfl⟩⟩
theorem Zao:∀(l:LI) (a c:Int),l.Pairwise (·<·)->(∀ z∈l,a<=z/\z<c)->(l.length:Int)<=c-a\/l=[]
 | [],_,_,_,_=>.inr rfl
 | z::l,a,c,hp,hb=>by
  obtain⟨h1,h2⟩:=List.pairwise_cons.1 hp;have hz:=hb z (by simp);refine .inl ?_;rcases Zao l (z+1) c h2 (fun v hv=>⟨by have:=h1 v hv;omega,(hb v (by simp[hv])).2⟩) with h|h
  ·simp only[List.length_cons];omega
  ·rw[h];simp only[List.length_cons,List.length_nil];omega
theorem IsPlan.ok {x:FBook}(hx:FIn x){plan:List Work}(h:IsPlan x plan):PlanOk x plan:=by
 have hw:∀ w∈plan,WorkOk x w:=fun w hw=>⟨(h.1 w hw).2,hx.opn _ (h.1 w hw).1⟩;refine⟨?_,hw⟩;have hn:=hx.n;have hnd:plan.length<=20*1\/True:=.inr trivial
 have hcode:(plan.map fun w=>(x.opn.filter fun d=>decide (d<w.d)).length*(4:Int)+w.s).Pairwise (·<·):=by
  rw[List.pairwise_map];refine h.2.imp_of_mem fun {a b} ha hb hab=>?_;have h1:=(hw a ha).s;have h2:=(hw b hb).s;rcases hab with hlt|⟨heq,hs⟩
  ·have hmono:(x.opn.filter fun d=>decide (d<a.d)).length<(x.opn.filter fun d=>decide (d<b.d)).length:=by
    have hsub:∀(l:LI),a.d∈l->(l.filter fun d=>decide (d<a.d)).length<(l.filter fun d=>decide (d<b.d)).length:=by
     intro l
     induction l with
     | nil=>intro hm;cases hm
     | cons e l ih =>
      intro hm
      have hle:∀ l:LI,(l.filter fun d=>decide (d<a.d)).length<=(l.filter fun d=>decide (d<b.d)).length:=by
       intro l
       induction l with
       | nil=>exact Nat.le_refl _
       | cons e l ih =>
        by_cases h1:e<a.d
        ·rw[List.filter_cons_of_pos (by simpa using h1),List.filter_cons_of_pos (by simp;omega)];simp only[List.length_cons];omega
        ·rw[List.filter_cons_of_neg (by simpa using h1)]
         by_cases h2:e<b.d
         ·rw[List.filter_cons_of_pos (by simpa using h2)];simp only[List.length_cons];omega
         ·rw[List.filter_cons_of_neg (by simpa using h2)];exact ih
      by_cases he:e=a.d
      ·subst he;rw[List.filter_cons_of_neg (by simp),List.filter_cons_of_pos (by simp;omega)]
       have:=hle l
       simp only[List.length_cons];omega
      ·have hm':a.d∈l:=by
        rcases List.mem_cons.1 hm with h|h
        ·exact absurd h.symm he
        ·exact h
       have:=ih hm'
       by_cases h1:e<a.d
       ·rw[List.filter_cons_of_pos (by simpa using h1),List.filter_cons_of_pos (by simp;omega)];simp only[List.length_cons];omega
       ·rw[List.filter_cons_of_neg (by simpa using h1)]
        by_cases h2:e<b.d
        ·rw[List.filter_cons_of_pos (by simpa using h2)];simp only[List.length_cons];omega
        ·rw[List.filter_cons_of_neg (by simpa using h2)];exact this
    exact hsub x.opn (h.1 a ha).1
   omega
  ·rw[heq];omega
 have hb:∀ z∈plan.map fun w=>(x.opn.filter fun d=>decide (d<w.d)).length*(4:Int)+w.s,0<=z/\z<24:=by
  intro z hz;obtain⟨w,hwm,rfl⟩:=List.mem_map.1 hz;have h1:=(hw w hwm).s;have h2:=List.length_filter_le (fun d=>decide (d<w.d)) x.opn;have h3:=hx.opnl;omega
 rcases Zao _ 0 24 hcode hb with h1|h1
 ·rw[List.length_map]at h1;omega
 ·have:=congrArg List.length h1
  rw[List.length_map]at this;simp only[List.length_nil]at this;omega
theorem Ylk {x:FBook}(hV:FValid x)(th:LL)(wr:LI){plan:List Work}(hl:plan.length<=9223372036854775807):CF 46 [fbkD x (.work (Ybj x)) th wr,.z .work plan] (.bool (isPlanF (Ybj x) plan)) :=
 Zl2 x (Ybj x) th wr hl fun w hw=>by
  have h:=Yty.1 hw;have h1:=hV.opn.1 _ h.1;have h2:=hV.chain.days;have h3:=hV.inn.n;have h4:=h.2;omega
theorem Yt6 {x:FBook}(is:Bool):(Yey x=false/\Yda x is=70)\/(FValid x/\is=false/\Yda x is=71)\/(FValid x/\is=true/\canF x.chain=false/\Yda x is=72)\/(FValid x/\is=true/\canF x.chain=true/\Yda x is=0):=by
 unfold Yda
 cases hv:Yey x with
 | false=>exact .inl ⟨rfl,rfl⟩
 | true =>
  have hV:=Yf1.1 hv
  cases is with
  | false=>exact .inr (.inl ⟨hV,rfl,rfl⟩)
  | true=>cases hc:canF x.chain with
   | false=>exact .inr (.inr (.inl ⟨hV,rfl,rfl,rfl⟩))
   | true=>exact .inr (.inr (.inr ⟨hV,rfl,rfl,rfl⟩))
def Ze0 (x:FBook)(is:Bool):D:=if Yda x is=70 then Za1 else if Yda x is=0 then fbkD x (.work (Ybj x)) (Yas x) (Yar x) else fopD x (Ybj x)
theorem Yhy {x:FBook}(hs:FSmall x)(g:FuncId)(fs:List D)(cs:List (List D))(is:Bool)(hg:FValid x->CF g (fs++[fopD x (Ybj x)]++cs.map fun cs=>.ref cs 0) (.bool is)) :
  CF 44 [Yab x,.fn g fs cs] (.tup [Ze0 x is,.I (Yda x is)]):=by
 have hch:=Yt7 hs;unfold Ylm at hch;unfold Ze0;rcases Yt6 (x:=x) is with ⟨h1,h2⟩|⟨hV,h1,h2⟩|⟨hV,h1,h3,h2⟩|⟨hV,h1,h3,h2⟩
 ·rw[h1]at hch;rw[h2];exact Yaa (GF 34) Ymr (Zm2 x g fs cs 70) ⟨hch,rfl,trivial⟩
 all_goals
  rw[Yf1.2 hV]at hch;have ho:=Ylg (x:=x) (by have:=hV.inn.n;omega) (by have:=hV.inn.opnl;omega);have hg':=hg hV;have hr:=(Zjx hs.chain).up;rw[Yc0.2 hV.chain,Bool.true_and]at hr;rw[h2]
 ·rw[h1]at hg';exact Yaa (GF 34) Ymr (Zm3 x g fs cs _) ⟨hch,ho,hg',trivial⟩
 ·rw[h1]at hg';rw[h3]at hr;exact Yaa (GF 34) Ymr (Zu4 x g fs cs _ _) ⟨hch,ho,hg',hr,trivial⟩
 ·rw[h1]at hg';rw[h3]at hr;exact Yaa (GF 34) Ymr (Zu3 x g fs cs _ _ _ _) ⟨hch,ho,hg',hr,Zz4 hV h3 _,trivial⟩
def Yl8 (x:FBook)(plan:List Work):Bool:=isPlanF (Ybj x) plan
def Yor (x:FBook)(plan:List Work)(s d:Int):Bool:=Yl8 x plan&&Yad s 0 (x.feet.length-1)&&Yad d 0 x.chain.days
theorem Zeh {x:FBook}(hV:FValid x){plan:List Work}(hl:plan.length<=9223372036854775807)(s d:Int) :
  CF 45 ([]++[fopD x (Ybj x)]++[[.z .work plan],[.int .i64 s],cellsOf (Yab x),[.int .i64 d]].map fun cs=>.ref cs 0) (.bool (Yor x plan s d)):=by
 refine Contract.ofOp ?_;have c1:=Ylk hV [] [] hl;have c2:=Yd4 s 0 (x.feet.length-1);have c3:=Yd4 d 0 x.chain.days;have hn:=hV.inn.n;have hi:Yae ((x.feet.length:Int)-1):=Yap (by omega) (by omega);unfold Yor Yl8
 cases h1:isPlanF (Ybj x) plan with
 | false =>
  rw[h1]at c1;refine Yaa (GF 25) Yn6 (Zuq x _ [] [] x plan s d false false false) ?_
  repeat(first|exact trivial|refine⟨by first|exact c1|exact c2|exact c3|exact hi|rfl|omega,?_⟩)
 | true =>
  rw[h1]at c1
  cases h2:Yad s 0 (x.feet.length-1) with
  | false =>
   rw[h2]at c2;refine Yaa (GF 25) Yn6 (Zup x _ [] [] x plan s d true false false) ?_
   repeat(first|exact trivial|refine⟨by first|exact c1|exact c2|exact c3|exact hi|rfl|omega,?_⟩)
  | true =>
   rw[h2]at c2;refine Yaa (GF 25) Yn6 (Zuo x _ [] [] x plan s d true true (Yad d 0 x.chain.days)) ?_
   repeat(first|exact trivial|refine⟨by first|exact c1|exact c2|exact c3|exact hi|rfl|omega,?_⟩)
theorem Zek {x:FBook}(hV:FValid x){plan:List Work}(hl:plan.length<=9223372036854775807):CF 59 ([]++[fopD x (Ybj x)]++[[.z .work plan]].map fun cs=>.ref cs 0) (.bool (Yl8 x plan)) :=
 Contract.ofOp (Yaa (GF 7) Zmp (Zel x _ [] [] plan _) ⟨Ylk hV [] [] hl,trivial⟩)
theorem Ylo (x:FBook):CF 68 ([]++[fopD x (Ybj x)]++([]:List (List D)).map fun cs=>.ref cs 0) (.bool true) :=
 Contract.ofOp (Yaa (GF 3) Zm4 (Ze1 x _ [] []) trivial)
def Ywg (x:FBook)(plan:List Work)(s d:Int):Int×Int:=if Yda x (Yor x plan s d)=0 then(Ydc x (Yas x) (Yar x) plan s d,0) else(0,Yda x (Yor x plan s d))
theorem Zz0 {x:FBook}{plan:List Work}{s d:Int}(h:Yor x plan s d=true):Yl8 x plan=true/\(0<=s/\s<x.feet.length)/\0<=d/\d<=x.chain.days:=by
 unfold Yor at h;rw[Bool.and_eq_true,Bool.and_eq_true,Ya2,Ya2]at h;exact⟨h.1.1,by omega,h.2⟩
theorem Ymp {x:FBook}{is:Bool}(h:Yda x is≠0):(Ze0 x is=Za1\/Ze0 x is=fopD x (Ybj x))/\(Yda x is != 0)=true:=by
 refine⟨?_,by simpa using h⟩;unfold Ze0
 by_cases h1:Yda x is=70
 ·rw[if_pos h1];exact .inl rfl
 ·rw[if_neg h1,if_neg h];exact .inr rfl
theorem Yio {x:FBook}{is:Bool}(h:Yda x is=0):FValid x/\is=true/\canF x.chain=true/\Ze0 x is=fbkD x (.work (Ybj x)) (Yas x) (Yar x):=by
 rcases Yt6 (x:=x) is with ⟨_,h2⟩|⟨_,_,h2⟩|⟨_,_,_,h2⟩|⟨hV,h1,h3,h2⟩
 ·rw[h]at h2;exact absurd h2 (by decide)
 ·rw[h]at h2;exact absurd h2 (by decide)
 ·rw[h]at h2;exact absurd h2 (by decide)
 ·refine⟨hV,h1,h3,?_⟩;unfold Ze0;rw[h];rfl
theorem Znd {x:FBook}(hs:FSmall x){plan:List Work}(hl:plan.length<=9223372036854775807)(s d:Int) :
  CF 16 [Yab x,.z .work plan,.I s,.I d] (.tup [.I (Ywg x plan s d).1,.I (Ywg x plan s d).2]):=by
 have ha:=Yhy hs 45 [] [[.z .work plan],[.int .i64 s],cellsOf (Yab x),[.int .i64 d]] (Yor x plan s d) (fun hV=>Zeh hV hl s d);unfold Ywg
 by_cases he:Yda x (Yor x plan s d)=0
 ·obtain⟨hV,h1,h2,h3⟩:=Yio he;obtain⟨h4,h5,h6⟩:=Zz0 h1;rw[if_pos he];rw[h3,he]at ha;exact Yaa (GF 26) Yrp (Zu7 x plan s d _ _ _ _) ⟨ha,by omega,by omega,Yn5 hV.inn (Yjl hV h2) _ (((Ykk hV).1 h4).ok hV.inn) s d h5 h6,trivial⟩
 ·obtain⟨h1,h2⟩:=Ymp he;rw[if_neg he];rcases h1 with h1|h1
  ·rw[h1]at ha;exact Yaa (GF 26) Yrp (Ze6 x plan s d _) ⟨ha,h2,trivial⟩
  ·rw[h1]at ha;exact Yaa (GF 26) Yrp (Ze7 x plan s d _ _) ⟨ha,h2,trivial⟩
def Yfk (x:FBook)(plan:List Work):Int×Int×Int:=if Yda x (Yl8 x plan)=0 then(match Yra x (Yas x) (Yar x) plan with
  | some (d,s)=>((d:Int),(s:Int),0)
  | none=>(0,0,4)) else(0,0,Yda x (Yl8 x plan))
theorem Yub {x:FBook}(hs:FSmall x){plan:List Work}(hl:plan.length<=9223372036854775807) :
  CF 22 [Yab x,.z .work plan] (.tup [.I (Yfk x plan).1,.I (Yfk x plan).2.1,.I (Yfk x plan).2.2]):=by
 have ha:=Yhy hs 59 [] [[.z .work plan]] (Yl8 x plan) (fun hV=>Zek hV hl);unfold Yfk
 by_cases he:Yda x (Yl8 x plan)=0
 ·obtain⟨hV,h1,h2,h3⟩:=Yio he;rw[if_pos he];rw[h3,he]at ha;have ht:=Zxe hV.inn (Yjl hV h2) (.work (Ybj x)) (((Ykk hV).1 h1).ok hV.inn)
  cases hf:Yra x (Yas x) (Yar x) plan with
  | none =>
   rw[hf]at ht;exact Yaa (GF 29) Ymt (Ze9 x plan _ _ _ 0 0) ⟨ha,ht,trivial⟩
  | some p =>
   obtain⟨d,s⟩:=p;rw[hf]at ht;exact Yaa (GF 29) Ymt (Ze8 x plan _ _ _ d s) ⟨ha,ht,trivial⟩
 ·obtain⟨h1,h2⟩:=Ymp he;rw[if_neg he];rcases h1 with h1|h1
  ·rw[h1]at ha;exact Yaa (GF 29) Ymt (Zfa x plan _) ⟨ha,h2,trivial⟩
  ·rw[h1]at ha;exact Yaa (GF 29) Ymt (Zfb x plan _ _) ⟨ha,h2,trivial⟩
def Yz7 (x:FBook)(plan:List Work):Bool×Int:=if (Yfk x plan).2.2=0 then(false,0) else if (Yfk x plan).2.2=4 then(true,0) else(false,(Yfk x plan).2.2)
theorem Zu6 {x:FBook}(hs:FSmall x){plan:List Work}(hl:plan.length<=9223372036854775807):CF 20 [Yab x,.z .work plan] (.tup [.bool (Yz7 x plan).1,.I (Yz7 x plan).2]):=by
 have ha:=Yub hs hl;unfold Yz7;generalize Yfk x plan=r at ha;obtain⟨a,b,e⟩:=r;simp only at ha ⊢
 by_cases h0:e=0
 ·subst h0;exact Yaa (GF 23) Ywf (Xbd x plan a b 0) ⟨ha,rfl,trivial⟩
 ·rw[if_neg h0];have h0':(e==0)=false:=beq_eq_false_iff_ne.2 h0
  by_cases h4:e=4
  ·subst h4;exact Yaa (GF 23) Ywf (Zm8 x plan a b 4) ⟨ha,rfl,rfl,trivial⟩
  ·rw[if_neg h4];have h4':(e==4)=false:=beq_eq_false_iff_ne.2 h4;exact Yaa (GF 23) Ywf (Zu5 x plan a b e) ⟨ha,h0',h4',trivial⟩
def Yrc (x:FBook)(plan:List Work):Int:=if Yey x=false then 70 else if Yl8 x plan=false then 71 else 0
def Zaa (x:FBook)(plan:List Work):Int×Int:=if Yrc x plan=0 then(Ybf x plan,0) else(0,Yrc x plan)
theorem Yz9 {x:FBook}(hs:FSmall x){plan:List Work}(hl:plan.length<=9223372036854775807):CF 29 [Yab x,.z .work plan] (.tup [.I (Zaa x plan).1,.I (Zaa x plan).2]):=by
 have hch:=Yt7 hs;unfold Ylm at hch;unfold Zaa Yrc
 cases hv:Yey x with
 | false =>
  rw[hv]at hch;exact Yaa (GF 22) Ywh (Zu8 x plan 70) ⟨hch,rfl,trivial⟩
 | true =>
  rw[hv]at hch;have hV:=Yf1.1 hv;have ho:=Ylg (x:=x) (by have:=hV.inn.n;omega) (by have:=hV.inn.opnl;omega);have hp:=Contract.ofOp (Ylk hV [] [] hl)
  cases h1:Yl8 x plan with
  | false =>
   rw[show isPlanF (Ybj x) plan=false from h1]at hp;exact Yaa (GF 22) Ywh (Zu9 x plan _) ⟨hch,ho,hp,trivial⟩
  | true =>
   rw[show isPlanF (Ybj x) plan=true from h1]at hp;have hf:=Contract.ofOp (Ykn hV.inn (.work (Ybj x)) [] [] (((Ykk hV).1 h1).ok hV.inn));exact Yaa (GF 22) Ywh (Xbe x plan _ _) ⟨hch,ho,hp,hf,trivial⟩
def Ywe (x:FBook)(plan:List Work):Int×Int:=if Yrc x plan=0 then(match Yly x plan with
  | some k=>((k:Int),0)
  | none=>(0,4)) else(0,Yrc x plan)
theorem Yk9 (x:FBook)(plan:List Work):(Yly x plan=none/\∀ k<plan.length,¬Ycc x (plan.take (k+1))>x.stock)\/∃ k,Yly x plan=some k/\k<plan.length/\Ycc x (plan.take (k+1))>x.stock/\∀ j<k,¬Ycc x (plan.take (j+1))>x.stock:=by
 unfold Yly
 cases h:(List.range plan.length).find? fun k=>decide (Ycc x (plan.take (k+1))>x.stock) with
 | none =>
  rw[List.find?_range_eq_none]at h;exact .inl ⟨rfl,fun k hk=>by simpa using h k hk⟩
 | some k =>
  rw[List.find?_range_eq_some]at h;exact .inr ⟨k,rfl,List.mem_range.1 h.2.1,of_decide_eq_true h.1,fun j hj=>by simpa using h.2.2 j hj⟩
theorem Zm6 {x:FBook}(hs:FSmall x){plan:List Work}(hl:plan.length<=9223372036854775807):CF 31 [Yab x,.z .work plan] (.tup [.I (Ywe x plan).1,.I (Ywe x plan).2]):=by
 have hf:=Yz9 hs hl;unfold Zaa at hf;unfold Ywe
 by_cases he:Yrc x plan=0
 ·rw[if_pos he]at hf ⊢
  have hv:FValid x/\Yl8 x plan=true:=by
   unfold Yrc at he
   split at he
   ·cases he
   ·rename_i h1
    split at he
    ·cases he
    ·rename_i h2;exact⟨Yf1.1 (by simpa using h1),by simpa using h2⟩
  obtain⟨hV,h1⟩:=hv;have hp:=((Ykk hV).1 h1).ok hV.inn;have hpl:=hp.1;have ho:=Ylg (x:=x) (by have:=hV.inn.n;omega) (by have:=hV.inn.opnl;omega);have hn:∀ k,CF 67 [fopD x (Ybj x),.z .work (plan.take (k+1))] (.I (Ycc x (plan.take (k+1)))):=fun k=>Contract.ofOp (Yq1 hV.inn (.work (Ybj x)) [] [] (hp.take (k+1)));have hcode:k_31 [1,1,1,0,1]=.block 0 (.loop (k_31 [1,1,1,0,1,0,0])):=by kernel_rfl
  have hon:∀ k,k<plan.length->¬Ycc x (plan.take (k+1))>x.stock->∃ dec orc lorc ks ps L1,runK (MF 37) dec orc lorc (k_31 [1,1,1,0,1,0,0]) (Yc4 x plan (Ybj x) k) ks=some (ps,.normal,L1)/\allP ps/\L1=Yc4 x plan (Ybj x) (k+1):=fun k hk h =>
   ⟨_,_,_,_,_,_,Ze5 x plan (Ybj x) k (Ycc x (plan.take (k+1))),⟨Yat hk,Yap (by omega) (by omega),⟨by omega,by omega,by omega⟩,hn k,decide_eq_false h,Yap (by omega) (by omega),trivial⟩,rfl⟩
  rcases Yk9 x plan with ⟨h2,h3⟩|⟨k,h2,h3,h4,h5⟩
  ·rw[h2];refine Yaa (GF 37) Yrn (Ze4 x plan (Ybj x) _ plan.length) ⟨hf,ho,?_,trivial⟩;exact LF.each (id:=0) hcode plan.length (fun i=>Yc4 x plan (Ybj x) i) (fun i hi=>hon i hi (h3 i hi)) ⟨_,_,_,_,_,_,_,Yz6 x plan _ _,⟨Yay,trivial⟩,.inl ⟨rfl,rfl⟩,rfl⟩
  ·rw[h2];refine Yaa (GF 37) Yrn (Zm5 x plan (Ybj x) _ (Ycc x (plan.take (k+1))) k) ⟨hf,ho,?_,trivial⟩;exact LF.each (id:=0) hcode k (fun i=>Yc4 x plan (Ybj x) i) (fun i hi=>hon i (by omega) (h5 i hi)) ⟨_,_,_,_,_,_,_,Yz5 x plan _ k _,⟨Yat h3,Yap (by omega) (by omega),⟨by omega,by omega,by omega⟩,hn k,decide_eq_true h4,trivial⟩,.inr ⟨rfl,rfl⟩,rfl⟩
 ·rw[if_neg he]at hf ⊢;exact Yaa (GF 37) Yrn (Zm7 x plan 0 _) ⟨hf,by simpa using he,trivial⟩
theorem Zf8 {s t:Span}(h1:s.lo=t.lo)(h2:s.hi=t.hi):s=t:=by
 cases s;cases t;simp only at h1 h2;subst h1 h2;rfl
theorem Xbx {b:Book}(h:Yak b []≠[]):canF b=true:=by
 unfold canF
 cases hq:Yak b [] with
 | nil=>exact absurd hq h
 | cons x l=>rfl
def Yel (turns:LI)(d:Int):Bool:=turns.foldl (fun p t=>if t<=d then !p else p) false
theorem Yn4 (d:Int):∀(l:LI) (p:Bool),l.foldl (fun p t=>if t<=d then !p else p) p=Bool.xor p (Yel l d)
 | [],p=>by simp[Yel]
 | t::l,p=>by
  unfold Yel;simp only[List.foldl_cons];rw[Yn4 d l,Yn4 d l]
  by_cases h:t<=d
  ·rw[if_pos h,if_pos h];cases p<;>simp
  ·rw[if_neg h,if_neg h];simp
theorem Yzq (l m:LI)(d:Int):Yel (l++m) d=Bool.xor (Yel l d) (Yel m d):=by
 have:Yel (l++m) d=m.foldl (fun p t=>if t<=d then !p else p) (Yel l d):=by
  unfold Yel;rw[List.foldl_append]
 rw[this,Yn4]
theorem Zun (t d:Int):Yel [t] d=decide (t<=d):=by
 unfold Yel;simp only[List.foldl_cons,List.foldl_nil]
 by_cases h:t<=d
 ·rw[if_pos h];simp[h]
 ·rw[if_neg h];simp[h]
theorem Yts (n d:Int):∀(l:LI) (s:Int),Yb7 n l d s=if Yel l d=true then n-1-s else s
 | [],s=>by simp[Yb7,Yel]
 | t::l,s=>by
  have h1:Yb7 n (t::l) d s=Yb7 n l d (if t<=d then n-1-s else s):=rfl
  have h2:Yel (t::l) d=Bool.xor (decide (t<=d)) (Yel l d):=by
   have:=Yzq [t] l d
   rwa [Zun]at this
  rw[h1,Yts n d l,h2]
  by_cases h:t<=d
  ·rw[if_pos h,decide_eq_true h]
   cases Yel l d<;>simp
   omega
  ·rw[if_neg h,decide_eq_false h]
   cases Yel l d<;>simp
theorem Zbd {b:Book}{i:Nat}(hi:i<b.svs.length):svZ b i∈b.svs:=Yb0 b.svs i sv0 hi
theorem Zs6 {b:Book}{y:Sv}(hy:y∈b.svs):∃ i,i<b.svs.length/\svZ b i=y:=by
 obtain⟨i,hi,h⟩:=List.getElem_of_mem hy;refine⟨i,hi,?_⟩;show b.svs.getD i sv0=y;rw[List.getD_eq_getElem?_getD,List.getElem?_eq_getElem hi,<-h];rfl
structure Feas0 (b:Book) (T:Nat->Int) (x:W4):Prop where
 wear:∀ p<b.secs.length,(b.secs.getD p sec0).w.lo<=x.at p/\x.at p<=(b.secs.getD p sec0).w.hi
 zero:∀ p,b.secs.length<=p->x.at p=0
 thick:∀ k<b.secs.length,(b.secs.getD k sec0).t.lo<=T k/\T k<=(b.secs.getD k sec0).t.hi
theorem Ypo {b:Book}{T:Nat->Int}{x:W4}:Feas b [] T x↔Feas0 b T x/\∀ y∈b.svs,∀ k:Nat,k<b.secs.length->SatY b x k (T k) y:=by
 constructor
 ·intro h;refine⟨⟨h.wear,h.zero,h.thick⟩,fun y hy k hk=>?_⟩;obtain⟨i,hi,rfl⟩:=Zs6 hy;exact h.right i hi (by simp) k hk
 ·rintro⟨h,h'⟩
  exact⟨h.wear,h.zero,h.thick,fun i hi _ k hk=>h' _ (Zbd hi) k hk⟩
def Zop (b:Book)(f:Sec->Int):W4:=⟨f (b.secs.getD 0 sec0),f (b.secs.getD 1 sec0),f (b.secs.getD 2 sec0),f (b.secs.getD 3 sec0)⟩
theorem Ys3 {b:Book}{f:Sec->Int}(h4:b.secs.length<=4)(hf:f sec0=0)(p:Nat):(Zop b f).at p=f (b.secs.getD p sec0):=by
 match p with
 | 0=>rfl
 | 1=>rfl
 | 2=>rfl
 | 3=>rfl
 | p+4 =>
  rw[List.getD_eq_getElem?_getD,List.getElem?_eq_none (by omega)]
  show([_,_,_,_]:LI).getD (p+4) 0=f sec0
  rw[hf];simp
structure Val9 (b:Book):Prop where
 secs:1<=b.secs.length/\b.secs.length<=4
 days:1<=b.days/\b.days<=30
 turns:b.turns.length<=4
 svs:b.svs.length<=1000
 sec:∀ x∈b.secs,SecOk x
 sv:∀ y∈b.svs,Ybh b y=true
theorem Valid.v9 {b:Book}(hV:Valid b):Val9 b:=⟨hV.secs,hV.days,hV.turns,by have:=hV.svs;omega,hV.sec,hV.sv⟩
theorem Val9.wlo {b:Book}(hV:Val9 b)(p:Nat):0<=(b.secs.getD p sec0).w.lo:=by
 by_cases h:p<b.secs.length
 ·exact(hV.sec _ (Yb0 b.secs p sec0 h)).w.1
 ·rw[List.getD_eq_getElem?_getD,List.getElem?_eq_none (by omega)]
  decide
theorem Val9.base {b:Book}(hV:Val9 b):Base b:=⟨hV.secs.2,hV.wlo,fun y hy=>(Yhi.1 (hV.sv y hy)).1.1⟩
theorem Xbc {b:Book}(hV:Val9 b){f g:Sec->Int}(hf:f sec0=0)(h:∀ x∈b.secs,x.w.lo<=f x/\f x<=x.w.hi)(h':∀ x∈b.secs,x.t.lo<=g x/\g x<=x.t.hi):Feas0 b (fun k=>g (b.secs.getD k sec0)) (Zop b f):=by
 have h4:=hV.secs.2;refine⟨fun p hp=>?_,fun p hp=>?_,fun k hk=>h' _ (Yb0 b.secs k sec0 hk)⟩
 ·rw[Ys3 h4 hf];exact h _ (Yb0 b.secs p sec0 hp)
 ·rw[Ys3 h4 hf,List.getD_eq_getElem?_getD,List.getElem?_eq_none (by omega)];exact hf
def othF (b:Book)(k:Nat):Nat:=b.secs.length-1-k
def th1 (turns:LI)(t w v:Int):Nat->Int
 | 0=>t
 | d+1=>th1 turns t w v d-(if Yel turns d=true then v else w)
def tr1D (u:Tr1):D:=.agg [.int .i64 u.t0,.int .i64 u.t1,.int .i64 u.w0,.int .i64 u.w1]
def sat1 (b:Book)(k o:Nat)(u:Tr1)(y:Sv):Bool :=
 if y.s=(k:Int) then Ygk (y.r-th1 b.turns u.t0 u.w0 u.w1 y.d.toNat) (0-y.e) y.e
 else if y.s=(o:Int) then Ygk (y.r-th1 b.turns u.t1 u.w1 u.w0 y.d.toNat) (0-y.e) y.e else true
def Yi7 (b:Book)(k o:Nat)(u:Tr1):Bool:=(List.range b.svs.length).all fun i=>sat1 b k o u (svZ b i)
def lpF (lo:Int)(g:Int->List Tr1)(i:Nat):List Tr1:=(List.range i).flatMap fun(j:Nat)=>g (lo+(j:Int))
def one1 (b:Book)(k o:Nat)(t0 t1 w0 w1:Int):List Tr1:=if k=o/\¬(t0=t1/\w0=w1) then [] else if Yi7 b k o ⟨t0,t1,w0,w1⟩=true then [⟨t0,t1,w0,w1⟩] else []
def sp1 (s:Span):Nat:=(s.hi+1-s.lo).toNat
def g3 (b:Book)(k o:Nat)(t0 t1 w0:Int)(i:Nat):List Tr1:=lpF (b.secs.getD o sec0).w.lo (one1 b k o t0 t1 w0) i
def g2 (b:Book)(k o:Nat)(t0 t1:Int)(i:Nat):List Tr1:=lpF (b.secs.getD k sec0).w.lo (fun w0=>g3 b k o t0 t1 w0 (sp1 (b.secs.getD o sec0).w)) i
def g1 (b:Book)(k o:Nat)(t0:Int)(i:Nat):List Tr1:=lpF (b.secs.getD o sec0).t.lo (fun t1=>g2 b k o t0 t1 (sp1 (b.secs.getD k sec0).w)) i
def g0 (b:Book)(k o:Nat)(i:Nat):List Tr1:=lpF (b.secs.getD k sec0).t.lo (fun t0=>g1 b k o t0 (sp1 (b.secs.getD o sec0).t)) i
def Yb1 (b:Book)(k:Nat):List Tr1:=g0 b k (othF b k) (sp1 (b.secs.getD k sec0).t)
theorem Zs8 (lo:Int)(g:Int->List Tr1)(i:Nat):lpF lo g (i+1)=lpF lo g i++g (lo+i):=by
 unfold lpF;rw[List.range_succ,List.flatMap_append];simp
theorem Xh3 {lo:Int}{g:Int->List Tr1}{i:Nat}{u:Tr1}:u∈lpF lo g i↔∃ n,lo<=n/\n<lo+i/\u∈g n:=by
 unfold lpF;rw[List.mem_flatMap]
 constructor
 ·rintro⟨j,hj,hu⟩
  rw[List.mem_range]at hj;exact⟨lo+j,by omega,by omega,hu⟩
 ·rintro⟨n,h1,h2,hu⟩
  refine⟨(n-lo).toNat,List.mem_range.2 (by omega),?_⟩
  rwa [show lo+((n-lo).toNat:Int)=n by omega]
theorem Ytu {lo:Int}{g:Int->List Tr1}{M:Nat}(h:∀ n,(g n).length<=M):∀ i:Nat,(lpF lo g i).length<=i*M
 | 0=>by simp[lpF]
 | i+1=>by
  rw[Zs8,List.length_append,Nat.succ_mul]
  have:=Ytu (lo:=lo) h i
  have:=h (lo+i)
  omega
theorem Zgy (b:Book)(k o:Nat)(t0 t1 w0 w1:Int):(one1 b k o t0 t1 w0 w1).length<=1:=by
 unfold one1;split
 ·simp
 ·split<;>simp
theorem Xcn (b:Book)(k o:Nat)(t0 t1 w0:Int)(i:Nat):(g3 b k o t0 t1 w0 i).length<=i:=by
 have:=Ytu (lo:=(b.secs.getD o sec0).w.lo) (Zgy b k o t0 t1 w0) i
 unfold g3;omega
theorem Zzs {b:Book}{k o:Nat}{t0 t1 w0 w1:Int}{u:Tr1}:u∈one1 b k o t0 t1 w0 w1↔u=⟨t0,t1,w0,w1⟩/\(k=o->t0=t1/\w0=w1)/\Yi7 b k o ⟨t0,t1,w0,w1⟩=true:=by
 unfold one1
 by_cases h:k=o/\¬(t0=t1/\w0=w1)
 ·rw[if_pos h];exact⟨fun h'=>by simp at h',fun h'=>absurd (h'.2.1 h.1) h.2⟩
 ·rw[if_neg h];have h':k=o->t0=t1/\w0=w1:=fun e=>Classical.byContradiction fun hc=>h ⟨e,hc⟩
  by_cases hr:Yi7 b k o ⟨t0,t1,w0,w1⟩=true
  ·rw[if_pos hr];simp[hr];exact fun _=>h'
  ·rw[if_neg hr];simp[hr]
structure In1 (b:Book) (k o:Nat) (u:Tr1):Prop where
 t0:(b.secs.getD k sec0).t.lo<=u.t0/\u.t0<=(b.secs.getD k sec0).t.hi
 t1:(b.secs.getD o sec0).t.lo<=u.t1/\u.t1<=(b.secs.getD o sec0).t.hi
 w0:(b.secs.getD k sec0).w.lo<=u.w0/\u.w0<=(b.secs.getD k sec0).w.hi
 w1:(b.secs.getD o sec0).w.lo<=u.w1/\u.w1<=(b.secs.getD o sec0).w.hi
 same:k=o->u.t0=u.t1/\u.w0=u.w1
 right:Yi7 b k o u=true
theorem Ylh {b:Book}{k:Nat}{u:Tr1}:u∈Yb1 b k↔In1 b k (othF b k) u:=by
 unfold Yb1 g0;simp only[Xh3,g1,g2,g3,Zzs,sp1]
 constructor
 ·rintro⟨t0,a1,a2,t1,b1,b2,w0,c1,c2,w1,d1,d2,rfl,e1,e2⟩
  exact⟨by simp only;omega,by simp only;omega,by simp only;omega,by simp only;omega,e1,e2⟩
 ·rintro⟨h1,h2,h3,h4,h5,h6⟩
  exact⟨u.t0,h1.1,by omega,u.t1,h2.1,by omega,u.w0,h3.1,by omega,u.w1,h4.1,by omega,rfl,h5,h6⟩
theorem Ylu {b:Book}{x:W4}{tn:LI}{k:Nat}(hk:k<b.secs.length)(t:Int):∀ d:Nat,th1 tn t (x.at k) (x.at (othF b k)) d=t-Yr7 b tn x k d
 | 0=>by simp[th1,Yr7,Yei]
 | d+1=>by
  have ih:=Ylu (x:=x) (tn:=tn) hk t d;have e:Yr7 b tn x k ((d+1:Nat):Int)=Yr7 b tn x k d+wF x.a x.b x.c x.d (Yb7 b.secs.length tn d k):=rfl;rw[e,Yts];simp only[th1];rw[ih]
  by_cases h:Yel tn d=true
  ·rw[if_pos h,if_pos h]
   have:wF x.a x.b x.c x.d ((b.secs.length:Int)-1-k)=x.at (othF b k):=by
    unfold wF W4.at othF;rw[show((b.secs.length:Int)-1-k).toNat=b.secs.length-1-k by omega]
   omega
  ·rw[if_neg h,if_neg h]
   have:wF x.a x.b x.c x.d (k:Int)=x.at k:=rfl
   omega
theorem Ykz {b:Book}{k:Nat}(hk:k<b.secs.length):othF b k<b.secs.length:=by unfold othF;omega
theorem Yvj {b:Book}{k:Nat}(hk:k<b.secs.length):othF b (othF b k)=k:=by unfold othF;omega
theorem Zbh {b:Book}{x:W4}{k:Nat}(hk:k<b.secs.length){t:Int}{y:Sv}(hd:0<=y.d):SatY b x k t y↔(y.s=k->Ygk (y.r-th1 b.turns t (x.at k) (x.at (othF b k)) y.d.toNat) (0-y.e) y.e=true):=by
 rw[Ylu hk];unfold SatY Yr7;simp only[Ygk,Bool.and_eq_true,decide_eq_true_eq,Int.toNat_natCast]
 constructor
 ·intro h hs
  have:=h hs
  omega
 ·intro h hs
  have:=h hs
  omega
theorem Yth {b:Book}{k o:Nat}{u:Tr1}:Yi7 b k o u=true↔∀ y∈b.svs,sat1 b k o u y=true:=by
 unfold Yi7;rw[List.all_eq_true]
 constructor
 ·intro h y hy;obtain⟨i,hi,rfl⟩:=Zs6 hy;exact h i (List.mem_range.2 hi)
 ·intro h i hi;exact h _ (Zbd (List.mem_range.1 hi))
theorem Val9.d0 {b:Book}(hV:Val9 b):∀ y∈b.svs,0<=y.d:=fun y hy=>(Yhi.1 (hV.sv y hy)).2.1.1
theorem Zgc {b:Book}{T:Nat->Int}{x:W4}{k:Nat}(hk:k<b.secs.length){y:Sv}(hd:0<=y.d) :
  sat1 b k (othF b k) ⟨T k,T (othF b k),x.at k,x.at (othF b k)⟩ y=true↔SatY b x k (T k) y/\(othF b k≠k->SatY b x (othF b k) (T (othF b k)) y):=by
 rw[Zbh hk hd,Zbh (Ykz hk) hd,Yvj hk];unfold sat1
 by_cases h1:y.s=(k:Int)
 ·rw[if_pos h1];exact⟨fun h=>⟨fun _=>h,fun hne hs=>absurd (by omega) hne⟩,fun h=>h.1 h1⟩
 ·rw[if_neg h1]
  by_cases h2:y.s=(othF b k:Int)
  ·rw[if_pos h2];exact⟨fun h=>⟨fun hs=>absurd hs h1,fun _ _=>h⟩,fun h=>h.2 (fun e=>h1 (by rw[h2,e])) h2⟩
  ·rw[if_neg h2];exact⟨fun _=>⟨fun hs=>absurd hs h1,fun _ hs=>absurd hs h2⟩,fun _=>rfl⟩
theorem Ye9 {b:Book}(hV:Val9 b){T:Nat->Int}{x:W4}(h:Feas b [] T x){k:Nat}(hk:k<b.secs.length):(⟨T k,T (othF b k),x.at k,x.at (othF b k)⟩:Tr1)∈Yb1 b k:=by
 obtain⟨h0,hs⟩:=Ypo.1 h;have ho:=Ykz hk;exact Ylh.2 ⟨h0.thick k hk,h0.thick _ ho,h0.wear k hk,h0.wear _ ho,fun e=>by simp only[<-e,and_self],Yth.2 fun y hy=>(Zgc hk (hV.d0 y hy)).2 ⟨hs y hy k hk,fun _=>hs y hy _ ho⟩⟩
theorem glue {b:Book}(hV:Val9 b){T:Nat->Int}{x:W4}(h0:Feas0 b T x){k:Nat}(hk:k<b.secs.length){u:Tr1}(hu:u∈Yb1 b k) :
  ∃ T' x',Feas0 b T' x'/\T' k=u.t0/\x'.at k=u.w0/\x'.at (othF b k)=u.w1/\∀ y∈b.svs,∀ j<b.secs.length,(j=k\/j=othF b k\/SatY b x j (T j) y)->SatY b x' j (T' j) y:=by
 have hi:=Ylh.1 hu;have ho:=Ykz hk;have h4:=hV.secs.2
 let T':Nat->Int:=fun j=>if j=k then u.t0 else if j=othF b k then u.t1 else T j
 let x':W4:=(x.set (othF b k) u.w1).set k u.w0
 have xa:∀ q,x'.at q=if q=k then u.w0 else if q=othF b k then u.w1 else x.at q:=fun q=>by
  show((x.set (othF b k) u.w1).set k u.w0).at q=_
  rw[Yxm _ _ _ (by omega),Yxm _ _ _ (by omega)]
 have tk:T' k=u.t0:=if_pos rfl
 have to:T' (othF b k)=u.t1:=by
  show(if othF b k=k then u.t0 else if othF b k=othF b k then u.t1 else T (othF b k))=_
  by_cases e:othF b k=k
  ·rw[if_pos e];exact(hi.same e.symm).1
  ·rw[if_neg e,if_pos rfl]
 have xk:x'.at k=u.w0:=by rw[xa,if_pos rfl]
 have xo:x'.at (othF b k)=u.w1:=by
  rw[xa]
  by_cases e:othF b k=k
  ·rw[if_pos e];exact(hi.same e.symm).2
  ·rw[if_neg e,if_pos rfl]
 have hsat:∀ y∈b.svs,SatY b x' k (T' k) y/\(othF b k≠k->SatY b x' (othF b k) (T' (othF b k)) y):=fun y hy=>by
  have:=Yth.1 hi.right y hy
  rw[<-Zgc hk (hV.d0 y hy),tk,to,xk,xo];exact this
 refine⟨T',x',⟨fun p hp=>?_,fun p hp=>?_,fun j hj=>?_⟩,tk,xk,xo,fun y hy j hj hc=>?_⟩
 ·rw[xa]
  by_cases e1:p=k
  ·rw[if_pos e1,e1];exact hi.w0
  ·rw[if_neg e1]
   by_cases e2:p=othF b k
   ·rw[if_pos e2,e2];exact hi.w1
   ·rw[if_neg e2];exact h0.wear p hp
 ·rw[xa,if_neg (by omega),if_neg (by omega)];exact h0.zero p hp
 ·show(b.secs.getD j sec0).t.lo<=(if j=k then u.t0 else if j=othF b k then u.t1 else T j)/\(if j=k then u.t0 else if j=othF b k then u.t1 else T j)<=_
  by_cases e1:j=k
  ·rw[if_pos e1,e1];exact hi.t0
  ·rw[if_neg e1]
   by_cases e2:j=othF b k
   ·rw[if_pos e2,e2];exact hi.t1
   ·rw[if_neg e2];exact h0.thick j hj
 ·by_cases e1:j=k
  ·rw[e1];exact(hsat y hy).1
  ·by_cases e2:j=othF b k
   ·rw[e2];exact(hsat y hy).2 (fun e=>e1 (by rw[e2,e]))
   ·rcases hc with hc|hc|hc
    ·exact absurd hc e1
    ·exact absurd hc e2
    rw[Zbh hj (hV.d0 y hy)]at hc ⊢;have q1:x'.at j=x.at j:=by rw[xa,if_neg e1,if_neg e2]
    have q2:x'.at (othF b j)=x.at (othF b j):=by
     rw[xa,if_neg (fun e=>e2 (by rw[<-e,Yvj hj])),if_neg (fun e=>e1 (by rw[<-Yvj hj,e,Yvj hk]))]
    have q3:T' j=T j:=by
     show(if j=k then u.t0 else if j=othF b k then u.t1 else T j)=_
     rw[if_neg e1,if_neg e2]
    rw[q1,q2,q3];exact hc
theorem Ymq {b:Book}(hV:Val9 b){T:Nat->Int}{x:W4}(h:Feas b [] T x){k:Nat}(hk:k<b.secs.length){u:Tr1}(hu:u∈Yb1 b k):∃ T' x',Feas b [] T' x'/\T' k=u.t0/\x'.at k=u.w0/\x'.at (othF b k)=u.w1:=by
 obtain⟨h0,hs⟩:=Ypo.1 h;obtain⟨T',x',h0',a1,a2,a3,hs'⟩:=glue hV h0 hk hu;exact⟨T',x',Ypo.2 ⟨h0',fun y hy j hj=>hs' y hy j hj (.inr (.inr (hs y hy j hj)))⟩,a1,a2,a3⟩
theorem Yh0 {b:Book}(hV:Val9 b):Yak b []≠[]↔∀ k<b.secs.length,Yb1 b k≠[]:=by
 rw[Xga hV.base]
 constructor
 ·rintro⟨T,x,h⟩ k hk hn
  have:=Ye9 hV h hk
  rw[hn]at this;simp at this
 ·intro h
  suffices ∀ m,m<=b.secs.length->∃ T x,Feas0 b T x/\∀ y∈b.svs,∀ j<m,SatY b x j (T j) y by
   obtain⟨T,x,h0,hs⟩:=this b.secs.length (Nat.le_refl _);exact⟨T,x,Ypo.2 ⟨h0,fun y hy j hj=>hs y hy j hj⟩⟩
  intro m
  induction m with
  | zero=>exact fun _=>⟨_,_,Xbc hV (f:=fun s=>s.w.lo) (g:=fun s=>s.t.lo) rfl (fun x hx=>⟨Int.le_refl _,(hV.sec x hx).w.2.1⟩) (fun x hx=>⟨Int.le_refl _,(hV.sec x hx).t.2.1⟩),fun _ _ _ h=>absurd h (by omega)⟩
  | succ m ih =>
   intro hm;obtain⟨T,x,h0,hs⟩:=ih (by omega);obtain⟨u,hu⟩:=List.exists_mem_of_ne_nil _ (h m (by omega));obtain⟨T',x',h0',_,_,_,hs'⟩:=glue hV h0 (k:=m) (by omega) hu;refine⟨T',x',h0',fun y hy j hj=>hs' y hy j (by omega) ?_⟩
   by_cases e:j=m
   ·exact .inl e
   ·exact .inr (.inr (hs y hy j (by omega)))
def Yg1 (g:Tr1->Int)(ts:List Tr1)(z:Tr1):Nat->Span
 | 0=>⟨g (ts.getD 0 z),g (ts.getD 0 z)⟩
 | i+1=>Ycp (Yg1 g ts z i) ⟨g (ts.getD i z),g (ts.getD i z)⟩
theorem Xfs {s u:Span}:(Ycp s u).lo<=s.lo/\(Ycp s u).lo<=u.lo/\s.hi<=(Ycp s u).hi/\u.hi<=(Ycp s u).hi/\((Ycp s u).lo=s.lo\/(Ycp s u).lo=u.lo)/\((Ycp s u).hi=s.hi\/(Ycp s u).hi=u.hi):=by
 unfold Ycp mn mx;refine⟨?_,?_,?_,?_,?_,?_⟩<;>simp only<;>split<;>omega
theorem Ytb (g:Tr1->Int){ts:List Tr1}(z:Tr1)(hn:0<ts.length):∀ i,i<=ts.length->(∃ u∈ts,(Yg1 g ts z i).lo=g u)/\(∃ u∈ts,(Yg1 g ts z i).hi=g u)/\∀ j<i,(Yg1 g ts z i).lo<=g (ts.getD j z)/\g (ts.getD j z)<=(Yg1 g ts z i).hi
 | 0,_=>⟨⟨_,Yb0 ts 0 z hn,rfl⟩,⟨_,Yb0 ts 0 z hn,rfl⟩,fun _ h=>absurd h (by omega)⟩
 | i+1,hi=>by
  obtain⟨⟨u,hu,e1⟩,⟨v,hv,e2⟩,h⟩:=Ytb g z hn i (by omega);have hh:=Xfs (s:=Yg1 g ts z i) (u:=⟨g (ts.getD i z),g (ts.getD i z)⟩);simp only at hh;have hm:=Yb0 ts i z (by omega);refine⟨?_,?_,fun j hj=>?_⟩
  ·rcases hh.2.2.2.2.1 with e|e
   ·exact⟨u,hu,by rw[<-e1,<-e];rfl⟩
   ·exact⟨_,hm,by rw[<-e];rfl⟩
  ·rcases hh.2.2.2.2.2 with e|e
   ·exact⟨v,hv,by rw[<-e2,<-e];rfl⟩
   ·exact⟨_,hm,by rw[<-e];rfl⟩
  ·show(Ycp (Yg1 g ts z i) ⟨g (ts.getD i z),g (ts.getD i z)⟩).lo<=_/\_<=(Ycp (Yg1 g ts z i) ⟨g (ts.getD i z),g (ts.getD i z)⟩).hi
   by_cases e:j=i
   ·rw[e];omega
   ·have:=h j (by omega);omega
def tr10:Tr1:=⟨0,0,0,0⟩
def Yh4 (g:Tr1->Int)(ts:List Tr1):Span:=Yg1 g ts tr10 ts.length
theorem Yoh (g:Tr1->Int){ts:List Tr1}(hn:ts≠[]):(∃ u∈ts,(Yh4 g ts).lo=g u)/\(∃ u∈ts,(Yh4 g ts).hi=g u)/\∀ u∈ts,(Yh4 g ts).lo<=g u/\g u<=(Yh4 g ts).hi:=by
 obtain⟨h1,h2,h3⟩:=Ytb g tr10 (List.length_pos_iff.2 hn) ts.length (Nat.le_refl _);refine⟨h1,h2,fun u hu=>?_⟩;obtain⟨i,hi,e⟩:=List.getElem_of_mem hu
 have:=h3 i hi
 rw[List.getD_eq_getElem?_getD,List.getElem?_eq_getElem hi]at this;simp only[Option.getD_some,e]at this;exact this
theorem Zpt {b:Book}{tn:LI}(hV:Val9 b)(hne:Yak b []≠[]){k:Nat}(hk:k<b.secs.length)(d:Nat) :
  Yh4 (fun u=>th1 tn u.t0 u.w0 u.w1 d) (Yb1 b k)=Yby b (Yak b []) tn k d:=by
 obtain⟨⟨u,hu,e1⟩,⟨v,hv,e2⟩,h⟩:=Yoh (fun u=>th1 tn u.t0 u.w0 u.w1 d) ((Yh0 hV).1 hne k hk);obtain⟨T1,x1,f1,q1⟩:=Zxf hV.base hne tn k hk (d:Int);obtain⟨T2,x2,f2,q2⟩:=Zxg hV.base hne tn k hk (d:Int);obtain⟨T3,x3,f3,a1,a2,a3⟩:=Ymq hV f1 hk hu;obtain⟨T4,x4,f4,c1,c2,c3⟩:=Ymq hV f1 hk hv;have g3:=Zf5 hV.base f3 tn k hk (d:Int);have g4:=Zf5 hV.base f4 tn k hk (d:Int);rw[<-Ylu hk,a1,a2,a3]at g3;rw[<-Ylu hk,c1,c2,c3]at g4
 have m1:=h _ (Ye9 hV f1 hk);have m2:=h _ (Ye9 hV f2 hk);simp only at m1 m2 e1 e2;rw[Ylu hk]at m1 m2;exact Zf8 (by omega) (by omega)
theorem Zwk {b:Book}(hV:Val9 b)(hne:Yak b []≠[]){k:Nat}(hk:k<b.secs.length) :
  Yh4 (fun u=>u.w0) (Yb1 b k)=Ydf (Ybp k) (Yak b []):=by
 obtain⟨⟨u,hu,e1⟩,⟨v,hv,e2⟩,h⟩:=Yoh (fun u=>u.w0) ((Yh0 hV).1 hne k hk);obtain⟨T1,x1,f1,q1⟩:=Xc0 hV.base hne k;obtain⟨T2,x2,f2,q2⟩:=Xc1 hV.base hne k;obtain⟨T3,x3,f3,a1,a2,a3⟩:=Ymq hV f1 hk hu;obtain⟨T4,x4,f4,c1,c2,c3⟩:=Ymq hV f1 hk hv;have g3:=Zor hV.base f3 k;have g4:=Zor hV.base f4 k;rw[a2]at g3;rw[c2]at g4;have m1:=h _ (Ye9 hV f1 hk);have m2:=h _ (Ye9 hV f2 hk);simp only at m1 m2 e1 e2;exact Zf8 (by omega) (by omega)
end Go.Di
