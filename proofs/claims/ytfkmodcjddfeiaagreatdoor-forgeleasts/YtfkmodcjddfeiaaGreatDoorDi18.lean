/- Part 18: contracts are proved. No condition. -/
import Derived.Test.YtfkmodcjddfeiaaGreatDoorDi17
set_option linter.unusedVariables false
set_option linter.unusedSimpArgs false
namespace Go.Di
open Proofs
theorem look_upd {α:Type}:∀(l:List (K2×α)) (k k':K2) (v:α),Ybf (updK l k v) k'=if k'=k then some v else Ybf l k'
 | [],k,k',v=>by simp only[updK,Ybf]
 | (k0,u)::l,k,k',v=>by
  simp only[updK]
  by_cases h:k=k0
  ·subst h
   rw[if_pos rfl]
   simp only[Ybf]
   by_cases h2:k'=k
   ·rw[if_pos h2,if_pos h2]
   ·rw[if_neg h2,if_neg h2,if_neg h2]
  ·rw[if_neg h]
   simp only[Ybf,look_upd l k k' v]
   by_cases h2:k'=k0
   ·rw[if_pos h2,if_pos h2]
    by_cases h3:k'=k
    ·exact absurd (h3.symm.trans h2) h
    ·rw[if_neg h3]
   ·rw[if_neg h2,if_neg h2]
theorem worksS_look (m:List (K2×Bool))(d:Int):∀(n:Nat) (k:K2),(Ybf (worksS m d n) k).getD false=((decide (k.1=d∧0≤k.2∧k.2<n))||(Ybf m k).getD false)
 | 0,k=>by
  have:decide (k.1=d∧0≤k.2∧k.2<((0:Nat):Int))=false:=decide_eq_false (by omega)
  rw[this]
  rfl
 | n+1,k=>by
  simp only[worksS,look_upd]
  by_cases h:k=(d,(n:Int))
  ·subst h
   rw[if_pos rfl]
   have:decide ((d=d)∧0≤(n:Int)∧(n:Int)<((n+1:Nat):Int))=true:=decide_eq_true ⟨rfl,by omega,by omega⟩
   show true=(decide ((d=d)∧0≤(n:Int)∧(n:Int)<((n+1:Nat):Int))||_)
   rw[this]
   rfl
  ·rw[if_neg h,worksS_look m d n k]
   refine congrArg (·||_) ?_
   rw[decide_eq_decide]
   have:¬(k.1=d∧k.2=n):=fun hh=>h (Prod.ext hh.1 hh.2)
   omega
theorem worksO_look (x:FBook):∀(i:Nat),i≤x.opn.length→∀ k:K2,((Ybf (worksO x i) k).getD false=true↔(∃ j,j<i∧x.opn.getD j 0=k.1)∧0≤k.2∧k.2<x.feet.length)
 | 0,_,k=>by
  constructor
  ·intro h
   simp only[worksO,Ybf]at h
   split at h<;>cases h
  ·rintro⟨⟨j,hj,_⟩,_⟩
   omega
 | i+1,h,k=>by
  simp only[worksO,worksS_look]
  rw[Bool.or_eq_true,worksO_look x i (by omega) k,decide_eq_true_eq]
  constructor
  ·rintro(⟨h1,h2,h3⟩|⟨⟨j,hj,h1⟩,h2,h3⟩)
   ·exact⟨⟨i,by omega,h1.symm⟩,h2,h3⟩
   ·exact⟨⟨j,by omega,h1⟩,h2,h3⟩
  ·rintro⟨⟨j,hj,h1⟩,h2,h3⟩
   by_cases hji:j=i
   ·subst hji
    exact .inl ⟨h1.symm,h2,h3⟩
   ·exact .inr ⟨⟨j,by omega,h1⟩,h2,h3⟩
def WorkIn (x:FBook)(w:Work):Prop:=w.d∈x.opn∧0≤w.s∧w.s<x.feet.length
theorem mem_iff_getD {l:List Int}{v:Int}:v∈l↔∃ j,j<l.length∧l.getD j 0=v:=by
 constructor
 ·intro h
  obtain⟨j,hj,he⟩:=List.getElem_of_mem h
  exact⟨j,hj,by rw[List.getD_eq_getElem?_getD,List.getElem?_eq_getElem hj];exact he⟩
 ·rintro⟨j,hj,rfl⟩
  exact Yc0 0 hj
theorem isWork_iff {x:FBook}{w:Work}:isWorkF (Ya8 x) w=true↔WorkIn x w:=by
 unfold isWorkF Ya8 WorkIn
 rw[worksO_look x _ (Nat.le_refl _),mem_iff_getD]
def wlt (a b:Work):Prop:=a.d<b.d∨a.d=b.d∧a.s<b.s
theorem wlt_trans {a b c:Work}(h1:wlt a b)(h2:wlt b c):wlt a c:=by unfold wlt at *;omega
theorem compare_wlt {a b:Work}:¬Ycd a b≥0↔wlt a b:=by
 unfold Ycd wlt
 split<;>omega
def IsPlan (x:FBook)(plan:List Work):Prop:=(∀ w∈plan,WorkIn x w)∧plan.Pairwise wlt
theorem isPlanGo_iff {x:FBook}(ho:∀ d∈x.opn,0≤d):∀(l:List Work) (la:Work),(la=⟨-1,0⟩∨0≤la.d)→(Yhh (Ya8 x) la l=true↔IsPlan x l∧(la=⟨-1,0⟩∨∀ w∈l,wlt la w))
 | [],la,_=>by
  simp only[Yhh,true_iff]
  exact⟨⟨fun w hw=>(by cases hw),List.Pairwise.nil⟩,.inr fun w hw=>(by cases hw)⟩
 | w::r,la,hla=>by
  have hb:badF (Ya8 x) la w=false↔WorkIn x w∧(la=⟨-1,0⟩∨wlt la w):=by
   unfold badF
   rw[Bool.or_eq_false_iff,Bool.and_eq_false_iff,Bool.not_eq_false',isWork_iff,Bool.not_eq_false',decide_eq_true_eq,decide_eq_false_iff_not,compare_wlt]
   refine and_congr_right fun _=>or_congr_left ?_
   constructor
   ·rintro⟨h1,h2⟩
    cases la
    simp only at h1 h2
    rw[h1,h2]
   ·rintro rfl
    exact⟨rfl,rfl⟩
  simp only[Yhh]
  constructor
  ·intro h
   cases hbad:badF (Ya8 x) la w with
   | true=>rw[hbad]at h;simp at h
   | false =>
    rw[hbad]at h
    obtain⟨h1,h2⟩:=hb.1 hbad
    have hwd:=ho _ h1.1
    obtain⟨⟨h3,h4⟩,h5⟩:=(isPlanGo_iff ho r w (.inr hwd)).1 (by simpa using h)
    have h6:∀ v∈r,wlt w v:=by
     rcases h5 with h5|h5
     ·rw[h5]at hwd;exact absurd hwd (by decide)
     ·exact h5
    refine⟨⟨fun v hv=>?_,List.pairwise_cons.2 ⟨h6,h4⟩⟩,h2.imp id fun h v hv=>?_⟩
    ·rcases List.mem_cons.1 hv with rfl|hv
     ·exact h1
     ·exact h3 v hv
    ·rcases List.mem_cons.1 hv with rfl|hv
     ·exact h
     ·exact wlt_trans h (h6 v hv)
  ·rintro⟨⟨h1,h2⟩,h3⟩
   have hw:=h1 w (by simp)
   have hbad:badF (Ya8 x) la w=false:=hb.2 ⟨hw,h3.imp id fun h=>h w (by simp)⟩
   rw[hbad]
   obtain⟨h4,h5⟩:=List.pairwise_cons.1 h2
   simpa using (isPlanGo_iff ho r w (.inr (ho _ hw.1))).2 ⟨⟨fun v hv=>h1 v (by simp[hv]),h5⟩,.inr h4⟩
theorem Yds {x:FBook}(hV:FValid x){plan:List Work}:isPlanF (Ya8 x) plan=true↔IsPlan x plan:=by
 unfold isPlanF
 rw[isPlanGo_iff (fun d hd=>(hV.opn.1 d hd).1) plan ⟨-1,0⟩ (.inl rfl)]
 exact⟨fun h=>h.1,fun h=>⟨h,.inl rfl⟩⟩
theorem climb_len:∀(l:List Int) (a c:Int),l.Pairwise (·<·)→(∀ z∈l,a≤z∧z<c)→(l.length:Int)≤c-a∨l=[]
 | [],_,_,_,_=>.inr rfl
 | z::l,a,c,hp,hb=>by
  obtain⟨h1,h2⟩:=List.pairwise_cons.1 hp
  have hz:=hb z (by simp)
  refine .inl ?_
  rcases climb_len l (z+1) c h2 (fun v hv=>⟨by have:=h1 v hv;omega,(hb v (by simp[hv])).2⟩) with h|h
  ·simp only[List.length_cons]
   omega
  ·rw[h]
   simp only[List.length_cons,List.length_nil]
   omega
theorem IsPlan.ok {x:FBook}(hx:FIn x){plan:List Work}(h:IsPlan x plan):PlanOk x plan:=by
 have hw:∀ w∈plan,WorkOk x w:=fun w hw=>⟨(h.1 w hw).2,hx.opn _ (h.1 w hw).1⟩
 refine⟨?_,hw⟩
 have hn:=hx.n
 have hnd:plan.length≤20*1∨True:=.inr trivial
 have hcode:(plan.map fun w=>(x.opn.filter fun d=>decide (d<w.d)).length*(4:Int)+w.s).Pairwise (·<·):=by
  rw[List.pairwise_map]
  refine h.2.imp_of_mem fun {a b} ha hb hab=>?_
  have h1:=(hw a ha).s
  have h2:=(hw b hb).s
  rcases hab with hlt|⟨heq,hs⟩
  ·have hmono:(x.opn.filter fun d=>decide (d<a.d)).length<(x.opn.filter fun d=>decide (d<b.d)).length:=by
    have hsub:∀(l:List Int),a.d∈l→(l.filter fun d=>decide (d<a.d)).length<(l.filter fun d=>decide (d<b.d)).length:=by
     intro l
     induction l with
     | nil=>intro hm;cases hm
     | cons e l ih =>
      intro hm
      have hle:∀ l:List Int,(l.filter fun d=>decide (d<a.d)).length≤(l.filter fun d=>decide (d<b.d)).length:=by
       intro l
       induction l with
       | nil=>exact Nat.le_refl _
       | cons e l ih =>
        by_cases h1:e<a.d
        ·rw[List.filter_cons_of_pos (by simpa using h1),List.filter_cons_of_pos (by simp;omega)]
         simp only[List.length_cons];omega
        ·rw[List.filter_cons_of_neg (by simpa using h1)]
         by_cases h2:e<b.d
         ·rw[List.filter_cons_of_pos (by simpa using h2)]
          simp only[List.length_cons];omega
         ·rw[List.filter_cons_of_neg (by simpa using h2)]
          exact ih
      by_cases he:e=a.d
      ·subst he
       rw[List.filter_cons_of_neg (by simp),List.filter_cons_of_pos (by simp;omega)]
       have:=hle l
       simp only[List.length_cons]
       omega
      ·have hm':a.d∈l:=by
        rcases List.mem_cons.1 hm with h|h
        ·exact absurd h.symm he
        ·exact h
       have:=ih hm'
       by_cases h1:e<a.d
       ·rw[List.filter_cons_of_pos (by simpa using h1),List.filter_cons_of_pos (by simp;omega)]
        simp only[List.length_cons];omega
       ·rw[List.filter_cons_of_neg (by simpa using h1)]
        by_cases h2:e<b.d
        ·rw[List.filter_cons_of_pos (by simpa using h2)]
         simp only[List.length_cons];omega
        ·rw[List.filter_cons_of_neg (by simpa using h2)]
         exact this
    exact hsub x.opn (h.1 a ha).1
   omega
  ·rw[heq]
   omega
 have hb:∀ z∈plan.map fun w=>(x.opn.filter fun d=>decide (d<w.d)).length*(4:Int)+w.s,0≤z∧z<24:=by
  intro z hz
  obtain⟨w,hwm,rfl⟩:=List.mem_map.1 hz
  have h1:=(hw w hwm).s
  have h2:=List.length_filter_le (fun d=>decide (d<w.d)) x.opn
  have h3:=hx.opnl
  omega
 rcases climb_len _ 0 24 hcode hb with h1|h1
 ·rw[List.length_map]at h1
  omega
 ·have:=congrArg List.length h1
  rw[List.length_map]at this
  simp only[List.length_nil]at this
  omega
theorem isPlanW_con {x:FBook}(hV:FValid x)(th:List (List Int))(wr:List Int){plan:List Work}(hl:plan.length≤9223372036854775807):CF 46 [fbkD x (.work (Ya8 x)) th wr,.sl false .work plan] (.bool (isPlanF (Ya8 x) plan)) :=
 isPlan_con x (Ya8 x) th wr hl fun w hw=>by
  have h:=isWork_iff.1 hw
  have h1:=hV.opn.1 _ h.1
  have h2:=hV.chain.days
  have h3:=hV.inn.n
  have h4:=h.2
  omega
theorem ferr_cases {x:FBook}(is:Bool):(Ydb x=false∧Yb7 x is=70)∨(FValid x∧is=false∧Yb7 x is=71)∨(FValid x∧is=true∧canF x.chain=false∧Yb7 x is=72)∨(FValid x∧is=true∧canF x.chain=true∧Yb7 x is=0):=by
 unfold Yb7
 cases hv:Ydb x with
 | false=>exact .inl ⟨rfl,rfl⟩
 | true =>
  have hV:=Ydt.1 hv
  cases is with
  | false=>exact .inr (.inl ⟨hV,rfl,rfl⟩)
  | true=>cases hc:canF x.chain with
   | false=>exact .inr (.inr (.inl ⟨hV,rfl,rfl,rfl⟩))
   | true=>exact .inr (.inr (.inr ⟨hV,rfl,rfl,rfl⟩))
def faskD (x:FBook)(is:Bool):D:=if Yb7 x is=70 then zfbkD else if Yb7 x is=0 then fbkD x (.work (Ya8 x)) (Ybp x) (Ybo x) else fopD x (Ya8 x)
theorem Ygt {x:FBook}(hs:FSmall x)(g:FuncId)(fs:List D)(cs:List (List D))(is:Bool)(hg:FValid x→CF g (fs++[fopD x (Ya8 x)]++cs.map fun cs=>.ref cs 0) (.bool is)) :
  CF 44 [Yad x,.fn g fs cs] (.tup [faskD x is,.int .i64 (Yb7 x is)]):=by
 have hch:=fcheck_con hs
 unfold fcheckF at hch
 unfold faskD
 rcases ferr_cases (x:=x) is with ⟨h1,h2⟩|⟨hV,h1,h2⟩|⟨hV,h1,h3,h2⟩|⟨hV,h1,h3,h2⟩
 ·rw[h1]at hch
  rw[h2]
  exact Yaa (GF 34) fasked_fn (fasked_bad x g fs cs 70) ⟨hch,rfl,trivial⟩
 all_goals
  rw[Ydt.2 hV]at hch
  have ho:=opened_con' (x:=x) (by have:=hV.inn.n;omega) (by have:=hV.inn.opnl;omega)
  have hg':=hg hV
  have hr:=(right_con' hs.chain).up
  rw[Ycq.2 hV.chain,Bool.true_and]at hr
  rw[h2]
 ·rw[h1]at hg'
  exact Yaa (GF 34) fasked_fn (fasked_ask x g fs cs _) ⟨hch,ho,hg',trivial⟩
 ·rw[h1]at hg'
  rw[h3]at hr
  exact Yaa (GF 34) fasked_fn (fasked_no x g fs cs _ _) ⟨hch,ho,hg',hr,trivial⟩
 ·rw[h1]at hg'
  rw[h3]at hr
  exact Yaa (GF 34) fasked_fn (fasked_ok x g fs cs _ _ _ _) ⟨hch,ho,hg',hr,know_con hV h3 _,trivial⟩
def Ygc (x:FBook)(plan:List Work):Bool:=isPlanF (Ya8 x) plan
def Ygo (x:FBook)(plan:List Work)(s d:Int):Bool:=Ygc x plan&&Yab s 0 (x.feet.length-1)&&Yab d 0 x.chain.days
theorem fleast1_con {x:FBook}(hV:FValid x){plan:List Work}(hl:plan.length≤9223372036854775807)(s d:Int) :
  CF 45 ([]++[fopD x (Ya8 x)]++[[.sl false .work plan],[.int .i64 s],cellsOf (Yad x),[.int .i64 d]].map fun cs=>.ref cs 0) (.bool (Ygo x plan s d)):=by
 refine Contract.ofOp ?_
 have c1:=isPlanW_con hV [] [] hl
 have c2:=Ydr s 0 (x.feet.length-1)
 have c3:=Ydr d 0 x.chain.days
 have hn:=hV.inn.n
 have hi:Yae ((x.feet.length:Int)-1):=Yap (by omega) (by omega)
 unfold Ygo Ygc
 cases h1:isPlanF (Ya8 x) plan with
 | false =>
  rw[h1]at c1
  refine Yaa (GF 25) fleast1_fn (fleast1_a x _ [] [] x plan s d false false false) ?_
  repeat(first|exact trivial|refine⟨by first|exact c1|exact c2|exact c3|exact hi|rfl|omega,?_⟩)
 | true =>
  rw[h1]at c1
  cases h2:Yab s 0 (x.feet.length-1) with
  | false =>
   rw[h2]at c2
   refine Yaa (GF 25) fleast1_fn (fleast1_b x _ [] [] x plan s d true false false) ?_
   repeat(first|exact trivial|refine⟨by first|exact c1|exact c2|exact c3|exact hi|rfl|omega,?_⟩)
  | true =>
   rw[h2]at c2
   refine Yaa (GF 25) fleast1_fn (fleast1_c x _ [] [] x plan s d true true (Yab d 0 x.chain.days)) ?_
   repeat(first|exact trivial|refine⟨by first|exact c1|exact c2|exact c3|exact hi|rfl|omega,?_⟩)
theorem ffirst1_con {x:FBook}(hV:FValid x){plan:List Work}(hl:plan.length≤9223372036854775807):CF 59 ([]++[fopD x (Ya8 x)]++[[.sl false .work plan]].map fun cs=>.ref cs 0) (.bool (Ygc x plan)) :=
 Contract.ofOp (Yaa (GF 7) ffirst1_fn (ffirst1_all x _ [] [] plan _) ⟨isPlanW_con hV [] [] hl,trivial⟩)
theorem falways_con (x:FBook):CF 68 ([]++[fopD x (Ya8 x)]++([]:List (List D)).map fun cs=>.ref cs 0) (.bool true) :=
 Contract.ofOp (Yaa (GF 3) falways_fn (falways_all x _ [] []) trivial)
end Go.Di

namespace Go.Di
open Proofs
def Yhj (x:FBook)(plan:List Work)(s d:Int):Int×Int:=if Yb7 x (Ygo x plan s d)=0 then(Yc5 x (Ybp x) (Ybo x) plan s d,0) else(0,Yb7 x (Ygo x plan s d))
theorem least_of {x:FBook}{plan:List Work}{s d:Int}(h:Ygo x plan s d=true):Ygc x plan=true∧(0≤s∧s<x.feet.length)∧0≤d∧d≤x.chain.days:=by
 unfold Ygo at h
 rw[Bool.and_eq_true,Bool.and_eq_true,Yat,Yat]at h
 exact⟨h.1.1,by omega,h.2⟩
theorem ferr_bad {x:FBook}{is:Bool}(h:Yb7 x is≠0):(faskD x is=zfbkD∨faskD x is=fopD x (Ya8 x))∧(Yb7 x is != 0)=true:=by
 refine⟨?_,by simpa using h⟩
 unfold faskD
 by_cases h1:Yb7 x is=70
 ·rw[if_pos h1];exact .inl rfl
 ·rw[if_neg h1,if_neg h];exact .inr rfl
theorem ferr_ok {x:FBook}{is:Bool}(h:Yb7 x is=0):FValid x∧is=true∧canF x.chain=true∧faskD x is=fbkD x (.work (Ya8 x)) (Ybp x) (Ybo x):=by
 rcases ferr_cases (x:=x) is with ⟨_,h2⟩|⟨_,_,h2⟩|⟨_,_,_,h2⟩|⟨hV,h1,h3,h2⟩
 ·rw[h]at h2;exact absurd h2 (by decide)
 ·rw[h]at h2;exact absurd h2 (by decide)
 ·rw[h]at h2;exact absurd h2 (by decide)
 ·refine⟨hV,h1,h3,?_⟩
  unfold faskD
  rw[h]
  rfl
theorem fLeast_con {x:FBook}(hs:FSmall x){plan:List Work}(hl:plan.length≤9223372036854775807)(s d:Int) :
  CF 16 [Yad x,.sl false .work plan,.int .i64 s,.int .i64 d] (.tup [.int .i64 (Yhj x plan s d).1,.int .i64 (Yhj x plan s d).2]):=by
 have ha:=Ygt hs 45 [] [[.sl false .work plan],[.int .i64 s],cellsOf (Yad x),[.int .i64 d]] (Ygo x plan s d) (fun hV=>fleast1_con hV hl s d)
 unfold Yhj
 by_cases he:Yb7 x (Ygo x plan s d)=0
 ·obtain⟨hV,h1,h2,h3⟩:=ferr_ok he
  obtain⟨h4,h5,h6⟩:=least_of h1
  rw[if_pos he]
  rw[h3,he]at ha
  exact Yaa (GF 26) fLeast_fn (fLeast_ok x plan s d _ _ _ _) ⟨ha,by omega,by omega,fleast_con hV.inn (know_ok hV h2) _ (((Yds hV).1 h4).ok hV.inn) s d h5 h6,trivial⟩
 ·obtain⟨h1,h2⟩:=ferr_bad he
  rw[if_neg he]
  rcases h1 with h1|h1
  ·rw[h1]at ha
   exact Yaa (GF 26) fLeast_fn (fLeast_errz x plan s d _) ⟨ha,h2,trivial⟩
  ·rw[h1]at ha
   exact Yaa (GF 26) fLeast_fn (fLeast_erro x plan s d _ _) ⟨ha,h2,trivial⟩
def Ycu (x:FBook)(plan:List Work):Int×Int×Int:=if Yb7 x (Ygc x plan)=0 then(match fthinF x (Ybp x) (Ybo x) plan with
  | some (d,s)=>((d:Int),(s:Int),0)
  | none=>(0,0,4)) else(0,0,Yb7 x (Ygc x plan))
theorem fFirst_con {x:FBook}(hs:FSmall x){plan:List Work}(hl:plan.length≤9223372036854775807) :
  CF 22 [Yad x,.sl false .work plan] (.tup [.int .i64 (Ycu x plan).1,.int .i64 (Ycu x plan).2.1,.int .i64 (Ycu x plan).2.2]):=by
 have ha:=Ygt hs 59 [] [[.sl false .work plan]] (Ygc x plan) (fun hV=>ffirst1_con hV hl)
 unfold Ycu
 by_cases he:Yb7 x (Ygc x plan)=0
 ·obtain⟨hV,h1,h2,h3⟩:=ferr_ok he
  rw[if_pos he]
  rw[h3,he]at ha
  have ht:=thin_con hV.inn (know_ok hV h2) (.work (Ya8 x)) (((Yds hV).1 h1).ok hV.inn)
  cases hf:fthinF x (Ybp x) (Ybo x) plan with
  | none =>
   rw[hf]at ht
   exact Yaa (GF 29) fFirst_fn (fFirst_none x plan _ _ _ 0 0) ⟨ha,ht,trivial⟩
  | some p =>
   obtain⟨d,s⟩:=p
   rw[hf]at ht
   exact Yaa (GF 29) fFirst_fn (fFirst_some x plan _ _ _ d s) ⟨ha,ht,trivial⟩
 ·obtain⟨h1,h2⟩:=ferr_bad he
  rw[if_neg he]
  rcases h1 with h1|h1
  ·rw[h1]at ha
   exact Yaa (GF 29) fFirst_fn (fFirst_errz x plan _) ⟨ha,h2,trivial⟩
  ·rw[h1]at ha
   exact Yaa (GF 29) fFirst_fn (fFirst_erro x plan _ _) ⟨ha,h2,trivial⟩
def fSafeF (x:FBook)(plan:List Work):Bool×Int:=if (Ycu x plan).2.2=0 then(false,0) else if (Ycu x plan).2.2=4 then(true,0) else(false,(Ycu x plan).2.2)
theorem fSafe_con {x:FBook}(hs:FSmall x){plan:List Work}(hl:plan.length≤9223372036854775807):CF 20 [Yad x,.sl false .work plan] (.tup [.bool (fSafeF x plan).1,.int .i64 (fSafeF x plan).2]):=by
 have ha:=fFirst_con hs hl
 unfold fSafeF
 generalize Ycu x plan=r at ha
 obtain⟨a,b,e⟩:=r
 simp only at ha ⊢
 by_cases h0:e=0
 ·subst h0
  exact Yaa (GF 23) fSafe_fn (fSafe_ok x plan a b 0) ⟨ha,rfl,trivial⟩
 ·rw[if_neg h0]
  have h0':(e==0)=false:=beq_eq_false_iff_ne.2 h0
  by_cases h4:e=4
  ·subst h4
   exact Yaa (GF 23) fSafe_fn (fSafe_none x plan a b 4) ⟨ha,rfl,rfl,trivial⟩
  ·rw[if_neg h4]
   have h4':(e==4)=false:=beq_eq_false_iff_ne.2 h4
   exact Yaa (GF 23) fSafe_fn (fSafe_err x plan a b e) ⟨ha,h0',h4',trivial⟩
def fplanE (x:FBook)(plan:List Work):Int:=if Ydb x=false then 70 else if Ygc x plan=false then 71 else 0
def fFeetF (x:FBook)(plan:List Work):Int×Int:=if fplanE x plan=0 then(Yc6 x plan,0) else(0,fplanE x plan)
theorem fFeet_con {x:FBook}(hs:FSmall x){plan:List Work}(hl:plan.length≤9223372036854775807):CF 29 [Yad x,.sl false .work plan] (.tup [.int .i64 (fFeetF x plan).1,.int .i64 (fFeetF x plan).2]):=by
 have hch:=fcheck_con hs
 unfold fcheckF at hch
 unfold fFeetF fplanE
 cases hv:Ydb x with
 | false =>
  rw[hv]at hch
  exact Yaa (GF 22) fFeet_fn (fFeet_bad x plan 70) ⟨hch,rfl,trivial⟩
 | true =>
  rw[hv]at hch
  have hV:=Ydt.1 hv
  have ho:=opened_con' (x:=x) (by have:=hV.inn.n;omega) (by have:=hV.inn.opnl;omega)
  have hp:=Contract.ofOp (isPlanW_con hV [] [] hl)
  cases h1:Ygc x plan with
  | false =>
   rw[show isPlanF (Ya8 x) plan=false from h1]at hp
   exact Yaa (GF 22) fFeet_fn (fFeet_ask x plan _) ⟨hch,ho,hp,trivial⟩
  | true =>
   rw[show isPlanF (Ya8 x) plan=true from h1]at hp
   have hf:=Contract.ofOp (feet_con hV.inn (.work (Ya8 x)) [] [] (((Yds hV).1 h1).ok hV.inn))
   exact Yaa (GF 22) fFeet_fn (fFeet_ok x plan _ _) ⟨hch,ho,hp,hf,trivial⟩
def fShortF (x:FBook)(plan:List Work):Int×Int:=if fplanE x plan=0 then(match shortF x plan with
  | some k=>((k:Int),0)
  | none=>(0,4)) else(0,fplanE x plan)
theorem short_cases (x:FBook)(plan:List Work):(shortF x plan=none∧∀ k<plan.length,¬Yf1 x (plan.take (k+1))>x.stock)∨∃ k,shortF x plan=some k∧k<plan.length∧Yf1 x (plan.take (k+1))>x.stock∧∀ j<k,¬Yf1 x (plan.take (j+1))>x.stock:=by
 unfold shortF
 cases h:(List.range plan.length).find? fun k=>decide (Yf1 x (plan.take (k+1))>x.stock) with
 | none =>
  rw[List.find?_range_eq_none]at h
  exact .inl ⟨rfl,fun k hk=>by simpa using h k hk⟩
 | some k =>
  rw[List.find?_range_eq_some]at h
  exact .inr ⟨k,rfl,List.mem_range.1 h.2.1,of_decide_eq_true h.1,fun j hj=>by simpa using h.2.2 j hj⟩
theorem fShort_con {x:FBook}(hs:FSmall x){plan:List Work}(hl:plan.length≤9223372036854775807):CF 31 [Yad x,.sl false .work plan] (.tup [.int .i64 (fShortF x plan).1,.int .i64 (fShortF x plan).2]):=by
 have hf:=fFeet_con hs hl
 unfold fFeetF at hf
 unfold fShortF
 by_cases he:fplanE x plan=0
 ·rw[if_pos he]at hf ⊢
  have hv:FValid x∧Ygc x plan=true:=by
   unfold fplanE at he
   split at he
   ·cases he
   ·rename_i h1
    split at he
    ·cases he
    ·rename_i h2
     exact⟨Ydt.1 (by simpa using h1),by simpa using h2⟩
  obtain⟨hV,h1⟩:=hv
  have hp:=((Yds hV).1 h1).ok hV.inn
  have hpl:=hp.1
  have ho:=opened_con' (x:=x) (by have:=hV.inn.n;omega) (by have:=hV.inn.opnl;omega)
  have hn:∀ k,CF 67 [fopD x (Ya8 x),.sl false .work (plan.take (k+1))] (.int .i64 (Yf1 x (plan.take (k+1)))):=fun k=>Contract.ofOp (needs_con hV.inn (.work (Ya8 x)) [] [] (hp.take (k+1)))
  have hcode:k_31 [1,1,1,0,1]=.block 0 (.loop (k_31 [1,1,1,0,1,0,0])):=by kernel_rfl
  have hon:∀ k,k<plan.length→¬Yf1 x (plan.take (k+1))>x.stock→∃ dec orc lorc ks ps L1,runK (MF 37) dec orc lorc (k_31 [1,1,1,0,1,0,0]) (Yct x plan (Ya8 x) k) ks=some (ps,.normal,L1)∧allP ps∧L1=Yct x plan (Ya8 x) (k+1):=fun k hk h =>
   ⟨_,_,_,_,_,_,fShort_0_on x plan (Ya8 x) k (Yf1 x (plan.take (k+1))),⟨Yaq hk,Yap (by omega) (by omega),⟨by omega,by omega,by omega⟩,hn k,decide_eq_false h,Yap (by omega) (by omega),trivial⟩,rfl⟩
  rcases short_cases x plan with ⟨h2,h3⟩|⟨k,h2,h3,h4,h5⟩
  ·rw[h2]
   refine Yaa (GF 37) fShort_fn (fShort_none x plan (Ya8 x) _ plan.length) ⟨hf,ho,?_,trivial⟩
   exact LF.each (id:=0) hcode plan.length (fun i=>Yct x plan (Ya8 x) i) (fun i hi=>hon i hi (h3 i hi)) ⟨_,_,_,_,_,_,_,fShort_0_end x plan _ _,⟨Yaz,trivial⟩,.inl ⟨rfl,rfl⟩,rfl⟩
  ·rw[h2]
   refine Yaa (GF 37) fShort_fn (fShort_hit x plan (Ya8 x) _ (Yf1 x (plan.take (k+1))) k) ⟨hf,ho,?_,trivial⟩
   exact LF.each (id:=0) hcode k (fun i=>Yct x plan (Ya8 x) i) (fun i hi=>hon i (by omega) (h5 i hi)) ⟨_,_,_,_,_,_,_,fShort_0_hit x plan _ k _,⟨Yaq h3,Yap (by omega) (by omega),⟨by omega,by omega,by omega⟩,hn k,decide_eq_true h4,trivial⟩,.inr ⟨rfl,rfl⟩,rfl⟩
 ·rw[if_neg he]at hf ⊢
  exact Yaa (GF 37) fShort_fn (fShort_bad x plan 0 _) ⟨hf,by simpa using he,trivial⟩
end Go.Di

namespace Go.Di
open Proofs
end Go.Di

namespace Go.Di
open Proofs
end Go.Di

namespace Go.Di
open Proofs
end Go.Di

namespace Go.Di
open Proofs
theorem span_ext {s t:Span}(h1:s.lo=t.lo)(h2:s.hi=t.hi):s=t:=by
 cases s;cases t;simp only at h1 h2;subst h1 h2;rfl
theorem can_true {b:Book}(h:Yaj b []≠[]):canF b=true:=by
 unfold canF
 cases hq:Yaj b [] with
 | nil=>exact absurd hq h
 | cons x l=>rfl
def Yd6 (turns:List Int)(d:Int):Bool:=turns.foldl (fun p t=>if t≤d then !p else p) false
theorem flips_fold (d:Int):∀(l:List Int) (p:Bool),l.foldl (fun p t=>if t≤d then !p else p) p=Bool.xor p (Yd6 l d)
 | [],p=>by simp[Yd6]
 | t::l,p=>by
  unfold Yd6
  simp only[List.foldl_cons]
  rw[flips_fold d l,flips_fold d l]
  by_cases h:t≤d
  ·rw[if_pos h,if_pos h];cases p<;>simp
  ·rw[if_neg h,if_neg h];simp
theorem flips_append (l m:List Int)(d:Int):Yd6 (l++m) d=Bool.xor (Yd6 l d) (Yd6 m d):=by
 have:Yd6 (l++m) d=m.foldl (fun p t=>if t≤d then !p else p) (Yd6 l d):=by
  unfold Yd6
  rw[List.foldl_append]
 rw[this,flips_fold]
theorem flips_one (t d:Int):Yd6 [t] d=decide (t≤d):=by
 unfold Yd6
 simp only[List.foldl_cons,List.foldl_nil]
 by_cases h:t≤d
 ·rw[if_pos h];simp[h]
 ·rw[if_neg h];simp[h]
theorem place_fold (n d:Int):∀(l:List Int) (s:Int),Ybz n l d s=if Yd6 l d=true then n-1-s else s
 | [],s=>by simp[Ybz,Yd6]
 | t::l,s=>by
  have h1:Ybz n (t::l) d s=Ybz n l d (if t≤d then n-1-s else s):=rfl
  have h2:Yd6 (t::l) d=Bool.xor (decide (t≤d)) (Yd6 l d):=by
   have:=flips_append [t] l d
   rwa [flips_one]at this
  rw[h1,place_fold n d l,h2]
  by_cases h:t≤d
  ·rw[if_pos h,decide_eq_true h]
   cases Yd6 l d<;>simp
   omega
  ·rw[if_neg h,decide_eq_false h]
   cases Yd6 l d<;>simp
theorem svZ_mem {b:Book}{i:Nat}(hi:i<b.svs.length):svZ b i∈b.svs:=Ybq b.svs i sv0 hi
theorem mem_svZ {b:Book}{y:Sv}(hy:y∈b.svs):∃ i,i<b.svs.length∧svZ b i=y:=by
 obtain⟨i,hi,h⟩:=List.getElem_of_mem hy
 refine⟨i,hi,?_⟩
 show b.svs.getD i sv0=y
 rw[List.getD_eq_getElem?_getD,List.getElem?_eq_getElem hi,←h]
 rfl
structure Feas0 (b:Book) (T:Nat→Int) (x:W4):Prop where
 wear:∀ p<b.secs.length,(b.secs.getD p sec0).w.lo≤x.at p∧x.at p≤(b.secs.getD p sec0).w.hi
 zero:∀ p,b.secs.length≤p→x.at p=0
 thick:∀ k<b.secs.length,(b.secs.getD k sec0).t.lo≤T k∧T k≤(b.secs.getD k sec0).t.hi
theorem feas_nil {b:Book}{T:Nat→Int}{x:W4}:Feas b [] T x↔Feas0 b T x∧∀ y∈b.svs,∀ k:Nat,k<b.secs.length→SatY b x k (T k) y:=by
 constructor
 ·intro h
  refine⟨⟨h.wear,h.zero,h.thick⟩,fun y hy k hk=>?_⟩
  obtain⟨i,hi,rfl⟩:=mem_svZ hy
  exact h.right i hi (by simp) k hk
 ·rintro⟨h,h'⟩
  exact⟨h.wear,h.zero,h.thick,fun i hi _ k hk=>h' _ (svZ_mem hi) k hk⟩
def wearsBy (b:Book)(f:Sec→Int):W4:=⟨f (b.secs.getD 0 sec0),f (b.secs.getD 1 sec0),f (b.secs.getD 2 sec0),f (b.secs.getD 3 sec0)⟩
theorem wearsBy_at {b:Book}{f:Sec→Int}(h4:b.secs.length≤4)(hf:f sec0=0)(p:Nat):(wearsBy b f).at p=f (b.secs.getD p sec0):=by
 match p with
 | 0=>rfl
 | 1=>rfl
 | 2=>rfl
 | 3=>rfl
 | p+4 =>
  rw[List.getD_eq_getElem?_getD,List.getElem?_eq_none (by omega)]
  show([_,_,_,_]:List Int).getD (p+4) 0=f sec0
  rw[hf]
  simp
end Go.Di

namespace Go.Di
open Proofs
structure Val9 (b:Book):Prop where
 secs:1≤b.secs.length∧b.secs.length≤4
 days:1≤b.days∧b.days≤30
 turns:b.turns.length≤4
 svs:b.svs.length≤1000
 sec:∀ x∈b.secs,SecOk x
 sv:∀ y∈b.svs,Ya6 b y=true
theorem Valid.v9 {b:Book}(hV:Valid b):Val9 b:=⟨hV.secs,hV.days,hV.turns,by have:=hV.svs;omega,hV.sec,hV.sv⟩
theorem Val9.wlo {b:Book}(hV:Val9 b)(p:Nat):0≤(b.secs.getD p sec0).w.lo:=by
 by_cases h:p<b.secs.length
 ·exact(hV.sec _ (Ybq b.secs p sec0 h)).w.1
 ·rw[List.getD_eq_getElem?_getD,List.getElem?_eq_none (by omega)]
  decide
theorem Val9.base {b:Book}(hV:Val9 b):Base b:=⟨hV.secs.2,hV.wlo,fun y hy=>(Ygg.1 (hV.sv y hy)).1.1⟩
theorem feas9_by {b:Book}(hV:Val9 b){f g:Sec→Int}(hf:f sec0=0)(h:∀ x∈b.secs,x.w.lo≤f x∧f x≤x.w.hi)(h':∀ x∈b.secs,x.t.lo≤g x∧g x≤x.t.hi):Feas0 b (fun k=>g (b.secs.getD k sec0)) (wearsBy b f):=by
 have h4:=hV.secs.2
 refine⟨fun p hp=>?_,fun p hp=>?_,fun k hk=>h' _ (Ybq b.secs k sec0 hk)⟩
 ·rw[wearsBy_at h4 hf]
  exact h _ (Ybq b.secs p sec0 hp)
 ·rw[wearsBy_at h4 hf,List.getD_eq_getElem?_getD,List.getElem?_eq_none (by omega)]
  exact hf
def othF (b:Book)(k:Nat):Nat:=b.secs.length-1-k
def th1 (turns:List Int)(t w v:Int):Nat→Int
 | 0=>t
 | d+1=>th1 turns t w v d-(if Yd6 turns d=true then v else w)
def tr1D (u:Tr1):D:=.agg [.int .i64 u.t0,.int .i64 u.t1,.int .i64 u.w0,.int .i64 u.w1]
def sat1 (b:Book)(k o:Nat)(u:Tr1)(y:Sv):Bool :=
 if y.s=(k:Int) then Yfn (y.r-th1 b.turns u.t0 u.w0 u.w1 y.d.toNat) (0-y.e) y.e
 else if y.s=(o:Int) then Yfn (y.r-th1 b.turns u.t1 u.w1 u.w0 y.d.toNat) (0-y.e) y.e else true
def right1 (b:Book)(k o:Nat)(u:Tr1):Bool:=(List.range b.svs.length).all fun i=>sat1 b k o u (svZ b i)
def lpF (lo:Int)(g:Int→List Tr1)(i:Nat):List Tr1:=(List.range i).flatMap fun(j:Nat)=>g (lo+(j:Int))
def one1 (b:Book)(k o:Nat)(t0 t1 w0 w1:Int):List Tr1:=if k=o∧¬(t0=t1∧w0=w1) then [] else if right1 b k o ⟨t0,t1,w0,w1⟩=true then [⟨t0,t1,w0,w1⟩] else []
def sp1 (s:Span):Nat:=(s.hi+1-s.lo).toNat
def g3 (b:Book)(k o:Nat)(t0 t1 w0:Int)(i:Nat):List Tr1:=lpF (b.secs.getD o sec0).w.lo (one1 b k o t0 t1 w0) i
def g2 (b:Book)(k o:Nat)(t0 t1:Int)(i:Nat):List Tr1:=lpF (b.secs.getD k sec0).w.lo (fun w0=>g3 b k o t0 t1 w0 (sp1 (b.secs.getD o sec0).w)) i
def g1 (b:Book)(k o:Nat)(t0:Int)(i:Nat):List Tr1:=lpF (b.secs.getD o sec0).t.lo (fun t1=>g2 b k o t0 t1 (sp1 (b.secs.getD k sec0).w)) i
def g0 (b:Book)(k o:Nat)(i:Nat):List Tr1:=lpF (b.secs.getD k sec0).t.lo (fun t0=>g1 b k o t0 (sp1 (b.secs.getD o sec0).t)) i
def Ybr (b:Book)(k:Nat):List Tr1:=g0 b k (othF b k) (sp1 (b.secs.getD k sec0).t)
theorem lp_next (lo:Int)(g:Int→List Tr1)(i:Nat):lpF lo g (i+1)=lpF lo g i++g (lo+i):=by
 unfold lpF
 rw[List.range_succ,List.flatMap_append]
 simp
theorem mem_lp {lo:Int}{g:Int→List Tr1}{i:Nat}{u:Tr1}:u∈lpF lo g i↔∃ n,lo≤n∧n<lo+i∧u∈g n:=by
 unfold lpF
 rw[List.mem_flatMap]
 constructor
 ·rintro⟨j,hj,hu⟩
  rw[List.mem_range]at hj
  exact⟨lo+j,by omega,by omega,hu⟩
 ·rintro⟨n,h1,h2,hu⟩
  refine⟨(n-lo).toNat,List.mem_range.2 (by omega),?_⟩
  rwa [show lo+((n-lo).toNat:Int)=n by omega]
theorem lp_len {lo:Int}{g:Int→List Tr1}{M:Nat}(h:∀ n,(g n).length≤M):∀ i:Nat,(lpF lo g i).length≤i*M
 | 0=>by simp[lpF]
 | i+1=>by
  rw[lp_next,List.length_append,Nat.succ_mul]
  have:=lp_len (lo:=lo) h i
  have:=h (lo+i)
  omega
theorem one1_len (b:Book)(k o:Nat)(t0 t1 w0 w1:Int):(one1 b k o t0 t1 w0 w1).length≤1:=by
 unfold one1
 split
 ·simp
 ·split<;>simp
theorem g3_len (b:Book)(k o:Nat)(t0 t1 w0:Int)(i:Nat):(g3 b k o t0 t1 w0 i).length≤i:=by
 have:=lp_len (lo:=(b.secs.getD o sec0).w.lo) (one1_len b k o t0 t1 w0) i
 unfold g3
 omega
theorem mem_one1 {b:Book}{k o:Nat}{t0 t1 w0 w1:Int}{u:Tr1}:u∈one1 b k o t0 t1 w0 w1↔u=⟨t0,t1,w0,w1⟩∧(k=o→t0=t1∧w0=w1)∧right1 b k o ⟨t0,t1,w0,w1⟩=true:=by
 unfold one1
 by_cases h:k=o∧¬(t0=t1∧w0=w1)
 ·rw[if_pos h]
  exact⟨fun h'=>by simp at h',fun h'=>absurd (h'.2.1 h.1) h.2⟩
 ·rw[if_neg h]
  have h':k=o→t0=t1∧w0=w1:=fun e=>Classical.byContradiction fun hc=>h ⟨e,hc⟩
  by_cases hr:right1 b k o ⟨t0,t1,w0,w1⟩=true
  ·rw[if_pos hr]
   simp[hr]
   exact fun _=>h'
  ·rw[if_neg hr]
   simp[hr]
structure In1 (b:Book) (k o:Nat) (u:Tr1):Prop where
 t0:(b.secs.getD k sec0).t.lo≤u.t0∧u.t0≤(b.secs.getD k sec0).t.hi
 t1:(b.secs.getD o sec0).t.lo≤u.t1∧u.t1≤(b.secs.getD o sec0).t.hi
 w0:(b.secs.getD k sec0).w.lo≤u.w0∧u.w0≤(b.secs.getD k sec0).w.hi
 w1:(b.secs.getD o sec0).w.lo≤u.w1∧u.w1≤(b.secs.getD o sec0).w.hi
 same:k=o→u.t0=u.t1∧u.w0=u.w1
 right:right1 b k o u=true
theorem mem_truths1 {b:Book}{k:Nat}{u:Tr1}:u∈Ybr b k↔In1 b k (othF b k) u:=by
 unfold Ybr g0
 simp only[mem_lp,g1,g2,g3,mem_one1,sp1]
 constructor
 ·rintro⟨t0,a1,a2,t1,b1,b2,w0,c1,c2,w1,d1,d2,rfl,e1,e2⟩
  exact⟨by simp only;omega,by simp only;omega,by simp only;omega,by simp only;omega,e1,e2⟩
 ·rintro⟨h1,h2,h3,h4,h5,h6⟩
  exact⟨u.t0,h1.1,by omega,u.t1,h2.1,by omega,u.w0,h3.1,by omega,u.w1,h4.1,by omega,rfl,h5,h6⟩
theorem th1_worn {b:Book}{x:W4}{tn:List Int}{k:Nat}(hk:k<b.secs.length)(t:Int):∀ d:Nat,th1 tn t (x.at k) (x.at (othF b k)) d=t-wornX b tn x k d
 | 0=>by simp[th1,wornX,Yd3]
 | d+1=>by
  have ih:=th1_worn (x:=x) (tn:=tn) hk t d
  have e:wornX b tn x k ((d+1:Nat):Int)=wornX b tn x k d+wF x.a x.b x.c x.d (Ybz b.secs.length tn d k):=rfl
  rw[e,place_fold]
  simp only[th1]
  rw[ih]
  by_cases h:Yd6 tn d=true
  ·rw[if_pos h,if_pos h]
   have:wF x.a x.b x.c x.d ((b.secs.length:Int)-1-k)=x.at (othF b k):=by
    unfold wF W4.at othF
    rw[show((b.secs.length:Int)-1-k).toNat=b.secs.length-1-k by omega]
   omega
  ·rw[if_neg h,if_neg h]
   have:wF x.a x.b x.c x.d (k:Int)=x.at k:=rfl
   omega
theorem oth_lt {b:Book}{k:Nat}(hk:k<b.secs.length):othF b k<b.secs.length:=by unfold othF;omega
theorem oth_oth {b:Book}{k:Nat}(hk:k<b.secs.length):othF b (othF b k)=k:=by unfold othF;omega
theorem satY_th {b:Book}{x:W4}{k:Nat}(hk:k<b.secs.length){t:Int}{y:Sv}(hd:0≤y.d):SatY b x k t y↔(y.s=k→Yfn (y.r-th1 b.turns t (x.at k) (x.at (othF b k)) y.d.toNat) (0-y.e) y.e=true):=by
 rw[th1_worn hk]
 unfold SatY wornX
 simp only[Yfn,Bool.and_eq_true,decide_eq_true_eq,Int.toNat_natCast]
 constructor
 ·intro h hs
  have:=h hs
  omega
 ·intro h hs
  have:=h hs
  omega
theorem right1_iff {b:Book}{k o:Nat}{u:Tr1}:right1 b k o u=true↔∀ y∈b.svs,sat1 b k o u y=true:=by
 unfold right1
 rw[List.all_eq_true]
 constructor
 ·intro h y hy
  obtain⟨i,hi,rfl⟩:=mem_svZ hy
  exact h i (List.mem_range.2 hi)
 ·intro h i hi
  exact h _ (svZ_mem (List.mem_range.1 hi))
theorem Val9.d0 {b:Book}(hV:Val9 b):∀ y∈b.svs,0≤y.d:=fun y hy=>(Ygg.1 (hV.sv y hy)).2.1.1
theorem sat1_iff {b:Book}{T:Nat→Int}{x:W4}{k:Nat}(hk:k<b.secs.length){y:Sv}(hd:0≤y.d) :
  sat1 b k (othF b k) ⟨T k,T (othF b k),x.at k,x.at (othF b k)⟩ y=true↔SatY b x k (T k) y∧(othF b k≠k→SatY b x (othF b k) (T (othF b k)) y):=by
 rw[satY_th hk hd,satY_th (oth_lt hk) hd,oth_oth hk]
 unfold sat1
 by_cases h1:y.s=(k:Int)
 ·rw[if_pos h1]
  exact⟨fun h=>⟨fun _=>h,fun hne hs=>absurd (by omega) hne⟩,fun h=>h.1 h1⟩
 ·rw[if_neg h1]
  by_cases h2:y.s=(othF b k:Int)
  ·rw[if_pos h2]
   exact⟨fun h=>⟨fun hs=>absurd hs h1,fun _ _=>h⟩,fun h=>h.2 (fun e=>h1 (by rw[h2,e])) h2⟩
  ·rw[if_neg h2]
   exact⟨fun _=>⟨fun hs=>absurd hs h1,fun _ hs=>absurd hs h2⟩,fun _=>rfl⟩
theorem Yel {b:Book}(hV:Val9 b){T:Nat→Int}{x:W4}(h:Feas b [] T x){k:Nat}(hk:k<b.secs.length):(⟨T k,T (othF b k),x.at k,x.at (othF b k)⟩:Tr1)∈Ybr b k:=by
 obtain⟨h0,hs⟩:=feas_nil.1 h
 have ho:=oth_lt hk
 exact mem_truths1.2 ⟨h0.thick k hk,h0.thick _ ho,h0.wear k hk,h0.wear _ ho,fun e=>by simp only[←e,and_self],right1_iff.2 fun y hy=>(sat1_iff hk (hV.d0 y hy)).2 ⟨hs y hy k hk,fun _=>hs y hy _ ho⟩⟩
theorem glue {b:Book}(hV:Val9 b){T:Nat→Int}{x:W4}(h0:Feas0 b T x){k:Nat}(hk:k<b.secs.length){u:Tr1}(hu:u∈Ybr b k) :
  ∃ T' x',Feas0 b T' x'∧T' k=u.t0∧x'.at k=u.w0∧x'.at (othF b k)=u.w1∧∀ y∈b.svs,∀ j<b.secs.length,(j=k∨j=othF b k∨SatY b x j (T j) y)→SatY b x' j (T' j) y:=by
 have hi:=mem_truths1.1 hu
 have ho:=oth_lt hk
 have h4:=hV.secs.2
 let T':Nat→Int:=fun j=>if j=k then u.t0 else if j=othF b k then u.t1 else T j
 let x':W4:=(x.set (othF b k) u.w1).set k u.w0
 have xa:∀ q,x'.at q=if q=k then u.w0 else if q=othF b k then u.w1 else x.at q:=fun q=>by
  show((x.set (othF b k) u.w1).set k u.w0).at q=_
  rw[set_at _ _ _ (by omega),set_at _ _ _ (by omega)]
 have tk:T' k=u.t0:=if_pos rfl
 have to:T' (othF b k)=u.t1:=by
  show(if othF b k=k then u.t0 else if othF b k=othF b k then u.t1 else T (othF b k))=_
  by_cases e:othF b k=k
  ·rw[if_pos e];exact(hi.same e.symm).1
  ·rw[if_neg e,if_pos rfl]
 have xk:x'.at k=u.w0:=by rw[xa,if_pos rfl]
 have xo:x'.at (othF b k)=u.w1:=by
  rw[xa]
  by_cases e:othF b k=k
  ·rw[if_pos e];exact(hi.same e.symm).2
  ·rw[if_neg e,if_pos rfl]
 have hsat:∀ y∈b.svs,SatY b x' k (T' k) y∧(othF b k≠k→SatY b x' (othF b k) (T' (othF b k)) y):=fun y hy=>by
  have:=right1_iff.1 hi.right y hy
  rw[←sat1_iff hk (hV.d0 y hy),tk,to,xk,xo]
  exact this
 refine⟨T',x',⟨fun p hp=>?_,fun p hp=>?_,fun j hj=>?_⟩,tk,xk,xo,fun y hy j hj hc=>?_⟩
 ·rw[xa]
  by_cases e1:p=k
  ·rw[if_pos e1,e1];exact hi.w0
  ·rw[if_neg e1]
   by_cases e2:p=othF b k
   ·rw[if_pos e2,e2];exact hi.w1
   ·rw[if_neg e2];exact h0.wear p hp
 ·rw[xa,if_neg (by omega),if_neg (by omega)]
  exact h0.zero p hp
 ·show(b.secs.getD j sec0).t.lo≤(if j=k then u.t0 else if j=othF b k then u.t1 else T j)∧(if j=k then u.t0 else if j=othF b k then u.t1 else T j)≤_
  by_cases e1:j=k
  ·rw[if_pos e1,e1];exact hi.t0
  ·rw[if_neg e1]
   by_cases e2:j=othF b k
   ·rw[if_pos e2,e2];exact hi.t1
   ·rw[if_neg e2];exact h0.thick j hj
 ·by_cases e1:j=k
  ·rw[e1];exact(hsat y hy).1
  ·by_cases e2:j=othF b k
   ·rw[e2];exact(hsat y hy).2 (fun e=>e1 (by rw[e2,e]))
   ·rcases hc with hc|hc|hc
    ·exact absurd hc e1
    ·exact absurd hc e2
    rw[satY_th hj (hV.d0 y hy)]at hc ⊢
    have q1:x'.at j=x.at j:=by rw[xa,if_neg e1,if_neg e2]
    have q2:x'.at (othF b j)=x.at (othF b j):=by
     rw[xa,if_neg (fun e=>e2 (by rw[←e,oth_oth hj])),if_neg (fun e=>e1 (by rw[←oth_oth hj,e,oth_oth hk]))]
    have q3:T' j=T j:=by
     show(if j=k then u.t0 else if j=othF b k then u.t1 else T j)=_
     rw[if_neg e1,if_neg e2]
    rw[q1,q2,q3]
    exact hc
theorem feas_glue {b:Book}(hV:Val9 b){T:Nat→Int}{x:W4}(h:Feas b [] T x){k:Nat}(hk:k<b.secs.length){u:Tr1}(hu:u∈Ybr b k):∃ T' x',Feas b [] T' x'∧T' k=u.t0∧x'.at k=u.w0∧x'.at (othF b k)=u.w1:=by
 obtain⟨h0,hs⟩:=feas_nil.1 h
 obtain⟨T',x',h0',a1,a2,a3,hs'⟩:=glue hV h0 hk hu
 exact⟨T',x',feas_nil.2 ⟨h0',fun y hy j hj=>hs' y hy j hj (.inr (.inr (hs y hy j hj)))⟩,a1,a2,a3⟩
theorem Ygv {b:Book}(hV:Val9 b):Yaj b []≠[]↔∀ k<b.secs.length,Ybr b k≠[]:=by
 rw[can_iff hV.base]
 constructor
 ·rintro⟨T,x,h⟩ k hk hn
  have:=Yel hV h hk
  rw[hn]at this
  simp at this
 ·intro h
  suffices ∀ m,m≤b.secs.length→∃ T x,Feas0 b T x∧∀ y∈b.svs,∀ j<m,SatY b x j (T j) y by
   obtain⟨T,x,h0,hs⟩:=this b.secs.length (Nat.le_refl _)
   exact⟨T,x,feas_nil.2 ⟨h0,fun y hy j hj=>hs y hy j hj⟩⟩
  intro m
  induction m with
  | zero=>exact fun _=>⟨_,_,feas9_by hV (f:=fun s=>s.w.lo) (g:=fun s=>s.t.lo) rfl (fun x hx=>⟨Int.le_refl _,(hV.sec x hx).w.2.1⟩) (fun x hx=>⟨Int.le_refl _,(hV.sec x hx).t.2.1⟩),fun _ _ _ h=>absurd h (by omega)⟩
  | succ m ih =>
   intro hm
   obtain⟨T,x,h0,hs⟩:=ih (by omega)
   obtain⟨u,hu⟩:=List.exists_mem_of_ne_nil _ (h m (by omega))
   obtain⟨T',x',h0',_,_,_,hs'⟩:=glue hV h0 (k:=m) (by omega) hu
   refine⟨T',x',h0',fun y hy j hj=>hs' y hy j (by omega) ?_⟩
   by_cases e:j=m
   ·exact .inl e
   ·exact .inr (.inr (hs y hy j (by omega)))
def Yf6 (g:Tr1→Int)(ts:List Tr1)(z:Tr1):Nat→Span
 | 0=>⟨g (ts.getD 0 z),g (ts.getD 0 z)⟩
 | i+1=>Ycg (Yf6 g ts z i) ⟨g (ts.getD i z),g (ts.getD i z)⟩
theorem hull_lo {s u:Span}:(Ycg s u).lo≤s.lo∧(Ycg s u).lo≤u.lo∧s.hi≤(Ycg s u).hi∧u.hi≤(Ycg s u).hi∧((Ycg s u).lo=s.lo∨(Ycg s u).lo=u.lo)∧((Ycg s u).hi=s.hi∨(Ycg s u).hi=u.hi):=by
 unfold Ycg mn mx
 refine⟨?_,?_,?_,?_,?_,?_⟩<;>simp only<;>split<;>omega
theorem told1_spec (g:Tr1→Int){ts:List Tr1}(z:Tr1)(hn:0<ts.length):∀ i,i≤ts.length→(∃ u∈ts,(Yf6 g ts z i).lo=g u)∧(∃ u∈ts,(Yf6 g ts z i).hi=g u)∧∀ j<i,(Yf6 g ts z i).lo≤g (ts.getD j z)∧g (ts.getD j z)≤(Yf6 g ts z i).hi
 | 0,_=>⟨⟨_,Ybq ts 0 z hn,rfl⟩,⟨_,Ybq ts 0 z hn,rfl⟩,fun _ h=>absurd h (by omega)⟩
 | i+1,hi=>by
  obtain⟨⟨u,hu,e1⟩,⟨v,hv,e2⟩,h⟩:=told1_spec g z hn i (by omega)
  have hh:=hull_lo (s:=Yf6 g ts z i) (u:=⟨g (ts.getD i z),g (ts.getD i z)⟩)
  simp only at hh
  have hm:=Ybq ts i z (by omega)
  refine⟨?_,?_,fun j hj=>?_⟩
  ·rcases hh.2.2.2.2.1 with e|e
   ·exact⟨u,hu,by rw[←e1,←e];rfl⟩
   ·exact⟨_,hm,by rw[←e];rfl⟩
  ·rcases hh.2.2.2.2.2 with e|e
   ·exact⟨v,hv,by rw[←e2,←e];rfl⟩
   ·exact⟨_,hm,by rw[←e];rfl⟩
  ·show(Ycg (Yf6 g ts z i) ⟨g (ts.getD i z),g (ts.getD i z)⟩).lo≤_∧_≤(Ycg (Yf6 g ts z i) ⟨g (ts.getD i z),g (ts.getD i z)⟩).hi
   by_cases e:j=i
   ·rw[e];omega
   ·have:=h j (by omega);omega
def tr10:Tr1:=⟨0,0,0,0⟩
def Ygz (g:Tr1→Int)(ts:List Tr1):Span:=Yf6 g ts tr10 ts.length
theorem toldAll_spec (g:Tr1→Int){ts:List Tr1}(hn:ts≠[]):(∃ u∈ts,(Ygz g ts).lo=g u)∧(∃ u∈ts,(Ygz g ts).hi=g u)∧∀ u∈ts,(Ygz g ts).lo≤g u∧g u≤(Ygz g ts).hi:=by
 obtain⟨h1,h2,h3⟩:=told1_spec g tr10 (List.length_pos_iff.2 hn) ts.length (Nat.le_refl _)
 refine⟨h1,h2,fun u hu=>?_⟩
 obtain⟨i,hi,e⟩:=List.getElem_of_mem hu
 have:=h3 i hi
 rw[List.getD_eq_getElem?_getD,List.getElem?_eq_getElem hi]at this
 simp only[Option.getD_some,e]at this
 exact this
theorem thick_ref {b:Book}{tn:List Int}(hV:Val9 b)(hne:Yaj b []≠[]){k:Nat}(hk:k<b.secs.length)(d:Nat) :
  Ygz (fun u=>th1 tn u.t0 u.w0 u.w1 d) (Ybr b k)=Ybn b (Yaj b []) tn k d:=by
 obtain⟨⟨u,hu,e1⟩,⟨v,hv,e2⟩,h⟩:=toldAll_spec (fun u=>th1 tn u.t0 u.w0 u.w1 d) ((Ygv hV).1 hne k hk)
 obtain⟨T1,x1,f1,q1⟩:=thick_lo hV.base hne tn k hk (d:Int)
 obtain⟨T2,x2,f2,q2⟩:=thick_hi hV.base hne tn k hk (d:Int)
 obtain⟨T3,x3,f3,a1,a2,a3⟩:=feas_glue hV f1 hk hu
 obtain⟨T4,x4,f4,c1,c2,c3⟩:=feas_glue hV f1 hk hv
 have g3:=thick_in hV.base f3 tn k hk (d:Int)
 have g4:=thick_in hV.base f4 tn k hk (d:Int)
 rw[←th1_worn hk,a1,a2,a3]at g3
 rw[←th1_worn hk,c1,c2,c3]at g4
 have m1:=h _ (Yel hV f1 hk)
 have m2:=h _ (Yel hV f2 hk)
 simp only at m1 m2 e1 e2
 rw[th1_worn hk]at m1 m2
 exact span_ext (by omega) (by omega)
theorem wear_ref {b:Book}(hV:Val9 b)(hne:Yaj b []≠[]){k:Nat}(hk:k<b.secs.length) :
  Ygz (fun u=>u.w0) (Ybr b k)=Yc2 (Ybe k) (Yaj b []):=by
 obtain⟨⟨u,hu,e1⟩,⟨v,hv,e2⟩,h⟩:=toldAll_spec (fun u=>u.w0) ((Ygv hV).1 hne k hk)
 obtain⟨T1,x1,f1,q1⟩:=wear_lo hV.base hne k
 obtain⟨T2,x2,f2,q2⟩:=wear_hi hV.base hne k
 obtain⟨T3,x3,f3,a1,a2,a3⟩:=feas_glue hV f1 hk hu
 obtain⟨T4,x4,f4,c1,c2,c3⟩:=feas_glue hV f1 hk hv
 have g3:=wear_in hV.base f3 k
 have g4:=wear_in hV.base f4 k
 rw[a2]at g3
 rw[c2]at g4
 have m1:=h _ (Yel hV f1 hk)
 have m2:=h _ (Yel hV f2 hk)
 simp only at m1 m2 e1 e2
 exact span_ext (by omega) (by omega)
end Go.Di

