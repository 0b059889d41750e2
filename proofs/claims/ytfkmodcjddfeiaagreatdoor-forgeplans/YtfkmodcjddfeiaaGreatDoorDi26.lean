/- Part 26: contracts are proved. No condition. -/
import Derived.Test.YtfkmodcjddfeiaaGreatDoorDi25
import Derived.Deep.Slices
import Derived.Deep.DeepHandedRow
import Derived.Carry
import Derived.LaidMore
import Derived.ProofKit
import Derived.OpenShut
set_option linter.unusedVariables false
set_option linter.unusedSimpArgs false
namespace Go.Di
open Proofs
open Go.RowKit
theorem Zv4 {x:FBook}(hx:FIn x)(th:LL)(wr:LI):PlanOk x (Yem x th wr).1:=by
 have key:∀(l:List (List Work)) (o:List Work×Bool),PlanOk x o.1->(∀ p∈l,PlanOk x p)->PlanOk x (l.foldl (Yb8 x) o).1:=by
  intro l
  induction l with
  | nil=>exact fun o h _=>h
  | cons p l ih =>
   intro o ho hl;refine ih _ ?_ (fun q hq=>hl q (by simp[hq]));unfold Yb8;split
   ·exact hl p (by simp)
   ·exact ho
 exact key _ _ ⟨by simp,fun w hw=>by simp at hw⟩ (fun p hp=>Yfp hx hp)
def Yeq (x:FBook):List Work×Int:=if Yda x true=0 then(match Yem x (Yas x) (Yar x) with
 | (p,true)=>(p,0)
 | (_,false)=>([],4)) else([],Yda x true)
theorem Yhr {R:Foot}{w:World}{v:Value}{l:List Work}{e:Int}(h:Rel R w (.tup [.sl true .work l,.int .i64 e]) v):Rel R w (.tup [.z .work l,.int .i64 e]) v:=by
 obtain⟨vs,rfl,h⟩:=h;obtain⟨v0,l',e',h0,h⟩:=Yaq h;refine⟨vs,rfl,?_⟩;rw[e'];exact⟨Yi3 h0,h⟩
theorem Yro {x:FBook}(hs:FSmall x):CF 33 [Yab x] (.tup [.z .work (Yeq x).1,.I (Yeq x).2]):=by
 have ha:=Yhy hs 68 [] [] true (fun hV=>Ylo x);unfold Yeq
 by_cases he:Yda x true=0
 ·obtain⟨hV,h1,h2,h3⟩:=Yio he;rw[if_pos he];rw[h3,he]at ha;have hb:=Ywr hV.inn (.work (Ybj x)) (Yjl hV h2)
  cases hbf:Yem x (Yas x) (Yar x) with
  | mk p f =>
   rw[hbf]at hb
   cases f with
   | false=>exact(Yaa (GF 29) Ypp (Zna x _ _ _ p) ⟨ha,hb,trivial⟩).toRes fun R w v h=>Yhr h
   | true =>
    have e:(List.drop 0 (List.take (Int.toNat (List.length p:Int)) p):List Work)=p:=by rw[Int.toNat_natCast,List.take_length];rfl
    exact(Yaa (GF 29) Ypp (Zm9 x _ _ _ p) ⟨ha,hb,⟨by omega,by omega,by omega,rfl⟩,trivial⟩).toRes fun R w v h=>by
     have h':Rel R w (.tup [.sl true .work (List.drop 0 (List.take (Int.toNat (List.length p:Int)) p):List Work),.int .i64 0]) v:=h;rw[e]at h';exact Yhr h'
 ·obtain⟨h1,h2⟩:=Ymp he;rw[if_neg he];rcases h1 with h1|h1
  ·rw[h1]at ha;exact(Yaa (GF 29) Ypp (Znb x _) ⟨ha,h2,trivial⟩).toRes fun R w v h=>Yhr h
  ·rw[h1]at ha;exact(Yaa (GF 29) Ypp (Znc x _ _) ⟨ha,h2,trivial⟩).toRes fun R w v h=>Yhr h
def Yhg (x:FBook):Int×Int:=if Yda x true=0 then(if Ylx x (Yas x) (Yar x)>200 then(0,4) else(Ylx x (Yas x) (Yar x),0)) else(0,Yda x true)
theorem Zis {x:FBook}(hx:FIn x)(m:Mp){th:LL}{wr:LI}(hk:KnOk x th wr)(ha:CF 44 [Yab x,.fn 68 [] []] (.tup [fbkD x m th wr,.I 0])) :
  CF 34 [Yab x] (if Ylx x th wr>200 then .tup [.I 0,.I 4] else .tup [.I (Ylx x th wr),.I 0]):=by
 have hcode:body Tryz.f34=.seq (k_34 [0]) (.seq (k_34 [1,0]) (.seq (k_34 [1,1,0]) (.seq (k_34 [1,1,1,0]) (.seq (.seq (k_34 [1,1,1,1,0,0]) (.block 0 (.rangeFunc (.tmp 17) #[18] (k_34 [1,1,1,1,0,1,0,0]) (k_34 [1,1,1,1,0,1,0,1])))) (k_34 [1,1,1,1,1]))))):=by kernel_rfl
 have hgoal:∀(r:D),(∀(ke:Nat->Prop) (w1:World) (ds:List Deferred),WpL PRG (mkE PRG (Yac Ybl) Yca 27 ke w1 ds) (k_34 [1,1,1,1,1]) (skS x m th wr (Ylx x th wr)) (fun e L'=>e=.ret/\∃ ps,fin (mkE PRG (Yac Ybl) Yca 27 ke w1 ds) [.tmp 2,.tmp 3] (ofL L')=some (ps,r)/\allP ps)) ->
   CF 34 [Yab x] r:=by
  intro r hend;refine Yez Yav Xja ?_;intro w0 R0 a Q hH hQ;rw[hcode];refine wpIn_seq (WpL.path (GF 27) (sk_0 x) trivial (Post:=fun e L'=>e=.normal/\L'=skA x) ⟨rfl,rfl⟩ w0 R0 a w0 _ none 1 (fun _=>rfl) hH fun e L' a1 W1 hp hH1=>?_);obtain⟨rfl,rfl⟩:=hp;show Code.wpIn _ _ _ _ _ _ _;refine wpIn_seq (WpL.path (GF 27) (sk_1 x m th wr) ⟨ha,trivial⟩ (Post:=fun e L'=>e=.normal/\L'=skB x m th wr) ⟨rfl,rfl⟩ w0 R0 a1 W1 _ none 1 (fun _=>rfl) hH1 fun e L' a2 W2 hp hH2=>?_)
  obtain⟨rfl,rfl⟩:=hp;show Code.wpIn _ _ _ _ _ _ _;refine wpIn_seq (WpL.path (GF 27) (sk_2 x m th wr) trivial (Post:=fun e L'=>e=.normal/\L'=[(.tmp 4,.d (.ptr 4 0)),(.box 4,.bx (some ⟨false,cellsOf (fbkD x m th wr)⟩))]) ⟨rfl,rfl⟩ w0 R0 a2 W2 _ none 1 (fun _=>rfl) hH2 fun e L' a3 W3 hp hH3=>?_);obtain⟨rfl,rfl⟩:=hp;show Code.wpIn _ _ _ _ _ _ _;refine wpIn_seq (WpL.path (GF 27) (sk_3 x m th wr) trivial (Post:=fun e L'=>e=.normal/\L'=skS x m th wr 201) ⟨rfl,rfl⟩ w0 R0 a3 W3 _ none 1 (fun _=>rfl) hH3 fun e L' a4 W4 hp hH4=>?_)
  obtain⟨rfl,rfl⟩:=hp;show Code.wpIn _ _ _ _ _ _ _;refine wpIn_seq (wpIn_seq (WpL.path (GF 27) (sk_4 x m th wr) ⟨Yyk x m th wr,trivial⟩ (Post:=fun e L'=>e=.normal/\L'=(.tmp 17,.d (plW x m th wr))::skS x m th wr 201) ⟨rfl,rfl⟩ w0 R0 a4 W4 _ none 1 (fun _=>rfl) hH4 fun e L' a5 W5 hp hH5=>?_));obtain⟨rfl,rfl⟩:=hp;show Code.wpIn _ _ _ _ _ _ _
  refine Yle (tt:=Yac Ybl) (glob:=Yca) (n:=27) (gf:=97) (caps:=[cellsOf (fbkD x m th wr)]) (Told:=Zfw) (xs:=Yc5 x th wr) (S:=fun pre=>skS x m th wr (Yc1 x pre)) (S1:=fun pre p=>skS1 x m th wr (Yc1 x pre) p) (fx:=[4,6]) (dx:=fun p=>.z .work p) (L:=(.tmp 17,.d (plW x m th wr))::skS x m th wr 201) (ks:=skK)
   ?_ ⟨Tryz.f97,by kernel_rfl,by kernel_rfl,by kernel_rfl⟩ ?_ (by decide) (by decide) ?_ ?_ ?_ ?_ rfl (by kernel_rfl) (by kernel_rfl) (fun k=>by rfl) ?_ hH5 ?_
  ·exact fun KE R w lb h1 h2 h3 h4=>Yxn hx hk m KE R w lb h1 h2 h3 h4
  ·exact fun R T p vs W h=>Zt5 h
  ·intro pre i hi;exact Yj7 (fx:=[4,6]) (by kernel_rfl) i hi
  ·intro pre i;rfl
  ·rintro pre p ke no w1 fv _
   exact WpL.path (Yn1 Yan Yav) (Xjc x m th wr _ p ke no w1 fv) trivial ⟨rfl,rfl⟩
  ·rintro pre p ke no w1 fv hsp
   obtain⟨hm,hpre⟩:=Yoq hsp;have hp:=Yfp hx hm;have hg:=Yq1 hx m th wr hp;have e1:Yc1 x (pre++[p])=mn (Yc1 x pre) (Ycc x p):=by unfold Yc1;rw[List.foldl_append];rfl
   show WpL _ _ _ _ (fun e L'=>e=.normal/\L'=skS x m th wr (Yc1 x (pre++[p])));rw[e1];exact WpL.path (Yn1 Yan Yav) (Xjb x m th wr _ p _ ke no w1 fv) ⟨by omega,hg,trivial⟩ ⟨rfl,rfl⟩
  ·exact Ygl (by kernel_rfl)
  ·intro D a6 W6 hD hH6 hWD;show Code.wpIn _ _ _ _ _ _ _;refine hend _ _ _ w0 R0 a6 W6 _ none 1 (fun _=>rfl) hH6 fun e L' a7 W7 hp hH7=>?_;obtain⟨rfl,hfin⟩:=hp;exact hQ D a7 W7 W6 _ L' hD hH7 hWD hfin (.inr rfl)
 by_cases h:Ylx x th wr>200
 ·rw[if_pos h];exact hgoal _ fun ke w1 ds=>WpL.path (Zl6 Yan Yav) (Xi9 x m th wr _ ke w1 ds) ⟨by omega,decide_eq_true h,trivial⟩ ⟨rfl,[],by kernel_rfl,trivial⟩
 ·rw[if_neg h];exact hgoal _ fun ke w1 ds=>WpL.path (Zl6 Yan Yav) (Xg1 x m th wr _ ke w1 ds) ⟨by omega,decide_eq_false h,by omega,trivial⟩ ⟨rfl,[],by kernel_rfl,trivial⟩
theorem Yua {x:FBook}(hs:FSmall x):CF 34 [Yab x] (.tup [.I (Yhg x).1,.I (Yhg x).2]):=by
 have ha:=Yhy hs 68 [] [] true (fun hV=>Ylo x);unfold Yhg
 by_cases he:Yda x true=0
 ·obtain⟨hV,h1,h2,h3⟩:=Yio he;rw[if_pos he];rw[h3,he]at ha
  have:=Zis hV.inn (.work (Ybj x)) (Yjl hV h2) ha
  by_cases h:Ylx x (Yas x) (Yar x)>200
  ·rw[if_pos h]at this ⊢;exact this
  ·rw[if_neg h]at this ⊢;exact this
 ·obtain⟨h1,h2⟩:=Ymp he;rw[if_neg he];rcases h1 with h1|h1
  ·rw[h1]at ha;exact Yaa (GF 27) Yz4 (Ze2 x _) ⟨ha,h2,trivial⟩
  ·rw[h1]at ha;exact Yaa (GF 27) Yz4 (Ze3 x _ _) ⟨ha,h2,trivial⟩
def FBook.rest (x:FBook)(d:Int):FBook:=x.withOpn (insL x.opn (x.opn.countP (·<d)) d)
def Yib (x:FBook)(th:LL)(wr:LI)(o:Int×Int×Bool)(d:Nat):Int×Int×Bool :=
 if x.opn.contains (d:Int)=true then o else match Yem (x.rest d) th wr with
  | (_,false)=>o
  | (p,true)=>if o.2.2=false\/Ybf x p<o.2.1 then((d:Int),Ybf x p,true) else o
def Yc7 (x:FBook)(th:LL)(wr:LI):Nat->Int×Int×Bool
 | 0=>(-1,Ybf x (Yem x th wr).1,(Yem x th wr).2)
 | d+1=>Yib x th wr (Yc7 x th wr d) d
def Yk1 (x:FBook):Int×Int:=if Yda x true=0 then(if (Yc7 x (Yas x) (Yar x) (x.chain.days+1).toNat).1<0 then(0,4) else((Yc7 x (Yas x) (Yar x) (x.chain.days+1).toNat).1,0)) else(0,Yda x true)
theorem Yu2 {x:FBook}(hV:FValid x){d:Int}(hd:0<=d/\d<=x.chain.days):FIn (x.rest d):=by
 have h:=hV.inn;have hl:=hV.opnl;have hc:x.opn.countP (·<d)<=x.opn.length:=List.countP_le_length;refine⟨h.n,h.days,h.turns,h.feet,h.new,?_,fun e he=>?_,h.stock,h.make⟩
 ·show(insL x.opn _ d).length<=5
  rw[Yq6 d hc];omega
 ·have he':e∈insL x.opn (x.opn.countP (·<d)) d:=he;unfold insL at he';rcases List.mem_append.1 he' with h1|h1
  ·exact h.opn _ (List.mem_of_mem_take h1)
  ·rcases List.mem_cons.1 h1 with h1|h1
   ·have:=h.days;omega
   ·exact h.opn _ (List.mem_of_mem_drop h1)
def rS (x:FBook)(m:Mp)(th:LL)(wr:LI):Int×Int×Bool->Nat->KV
 | (k,v,false),i=>Ycz x m th wr k v i
 | (k,v,true),i=>Ybv x m th wr k v i
theorem Zrg {x:FBook}(hV:FValid x){th:LL}{wr:LI}(hk:KnOk x th wr)(m:Mp) :
  LF 82 (k_35 [1,1,1,1,1,0,1]) (rS x m th wr (Yc7 x th wr 0) 0) .normal (rS x m th wr (Yc7 x th wr (x.chain.days+1).toNat) (x.chain.days+1).toNat):=by
 have hd:=hV.inn.days;have hx:=hV.inn;refine LF.each (id:=0) (c:=k_35 [1,1,1,1,1,0,1,0,0]) (by kernel_rfl) (x.chain.days+1).toNat (fun i=>rS x m th wr (Yc7 x th wr i) i) (fun i hi=>?_) ?_
 ·have hlt:decide ((i:Int)<x.chain.days+1)=true:=decide_eq_true (by omega);have hi64:Yae ((i:Int)+1):=Yap (by omega) (by omega);have hbs:=Xix (l:=x.opn) (by have:=hx.opnl;omega) hV.opn.2 (i:Int);have hstep:Yc7 x th wr (i+1)=Yib x th wr (Yc7 x th wr i) i:=rfl;simp only[hstep];generalize Yc7 x th wr i=o;obtain⟨k,v,f⟩:=o;unfold Yib
  cases hc:x.opn.contains (i:Int) with
  | true =>
   rw[hc]at hbs;rw[if_pos rfl]
   cases f with
   | false=>exact⟨_,_,_,_,_,_,Yxy x m th wr k v i _,⟨hlt,hbs,hi64,trivial⟩,rfl⟩
   | true=>exact⟨_,_,_,_,_,_,Yxx x m th wr k v i _,⟨hlt,hbs,hi64,trivial⟩,rfl⟩
  | false =>
   rw[hc]at hbs;rw[if_neg (by decide)];have hxr:=Yu2 hV (d:=(i:Int)) (by omega);have hkr:KnOk (x.rest i) th wr:=⟨hk.wl,hk.w,hk.tl,hk.row,hk.t⟩;have hb:=Ywr hxr m hkr;have hins:=fun b=>Xim (x:=x) (by have:=hx.opnl;omega) m th wr b k v i (x.opn.countP (·<(i:Int))) List.countP_le_length;have hok:=Zv4 hxr th wr
   cases hbf:Yem (x.rest i) th wr with
   | mk q g =>
    rw[hbf]at hb hok;have hf:=Ykn hx m th wr (plan:=q) ⟨hok.1,fun w hw=>⟨(hok.2 w hw).s,(hok.2 w hw).d⟩⟩
    cases g with
    | false =>
     cases f with
     | false=>exact⟨_,_,_,_,_,_,Zj3 x m th wr k v i _ _ q,⟨hlt,hbs,hins false,hb,hi64,trivial⟩,rfl⟩
     | true=>exact⟨_,_,_,_,_,_,Zj0 x m th wr k v i _ _ q,⟨hlt,hbs,hins true,hb,hi64,trivial⟩,rfl⟩
    | true =>
     cases f with
     | false=>exact⟨_,_,_,_,_,_,Yu4 x m th wr k v i _ _ q _,⟨hlt,hbs,hins false,hb,hf,hi64,trivial⟩,by dsimp only;rw[if_pos (.inl rfl)];rfl⟩
     | true =>
      by_cases hlt2:Ybf x q<v
      ·exact⟨_,_,_,_,_,_,Yr9 x m th wr k v i _ _ q _,⟨hlt,hbs,hins true,hb,hf,decide_eq_true hlt2,hf,hi64,trivial⟩,by dsimp only;rw[if_pos (.inr hlt2)];rfl⟩
      ·exact⟨_,_,_,_,_,_,Yu3 x m th wr k v i _ _ q _,⟨hlt,hbs,hins true,hb,hf,decide_eq_false hlt2,hi64,trivial⟩,by dsimp only;rw[if_neg (by simp[hlt2])];rfl⟩
 ·have hend:decide ((((x.chain.days+1).toNat:Nat):Int)<x.chain.days+1)=false:=decide_eq_false (by omega);generalize Yc7 x th wr (x.chain.days+1).toNat=o;obtain⟨k,v,f⟩:=o
  cases f with
  | false=>exact⟨_,_,_,_,_,_,_,Zb4 x m th wr k v _,⟨hend,trivial⟩,.inl ⟨rfl,rfl⟩,rfl⟩
  | true=>exact⟨_,_,_,_,_,_,_,Zbz x m th wr k v _,⟨hend,trivial⟩,.inl ⟨rfl,rfl⟩,rfl⟩
theorem Zjz {x:FBook}{th:LL}{wr:LI}(o:Int×Int×Bool)(d:Nat)(h:o.2.2=true):(Yib x th wr o d).2.2=true:=by
 unfold Yib;split
 ·exact h
 ·split
  ·exact h
  ·split
   ·rfl
   ·exact h
theorem Zgi {x:FBook}{th:LL}{wr:LI}(h:(Yem x th wr).2=true):∀ d,(Yc7 x th wr d).2.2=true
 | 0=>h
 | d+1=>Zjz _ _ (Zgi h d)
theorem Yz8 {x:FBook}(hs:FSmall x):CF 35 [Yab x] (.tup [.I (Yk1 x).1,.I (Yk1 x).2]):=by
 have ha:=Yhy hs 68 [] [] true (fun hV=>Ylo x);unfold Yk1
 by_cases he:Yda x true=0
 ·obtain⟨hV,h1,h2,h3⟩:=Yio he;rw[if_pos he];rw[h3,he]at ha;have hk:=Yjl hV h2;have hb:=Ywr hV.inn (.work (Ybj x)) hk;have hf:=Ykn hV.inn (.work (Ybj x)) (Yas x) (Yar x) (Zv4 hV.inn (Yas x) (Yar x));have hl:=Zrg hV hk (.work (Ybj x));have hd:=hV.inn.days;have hi64:Yae (x.chain.days+1):=Yap (by omega) (by omega);have hmono:=Zgi (x:=x) (th:=Yas x) (wr:=Yar x);have e0:Yc7 x (Yas x) (Yar x) 0=(-1,Ybf x (Yem x (Yas x) (Yar x)).1,(Yem x (Yas x) (Yar x)).2):=rfl
  rw[e0]at hl;generalize hbf:Yem x (Yas x) (Yar x)=bp at hb hf hl hmono;obtain⟨p,f⟩:=bp;have hmono':=fun h=>hmono h (x.chain.days+1).toNat
  clear hmono
  generalize Yc7 x (Yas x) (Yar x) (x.chain.days+1).toNat=o at hl hmono' ⊢;obtain⟨k,y,g⟩:=o
  dsimp only at *
  by_cases hk0:k<0
  ·rw[if_pos hk0]
   cases f with
   | false =>
    cases g with
    | false=>exact Yaa (GF 82) Ykb (Zb3 x _ _ _ p _ k y _) ⟨ha,hb,hf,hi64,hl,decide_eq_true hk0,trivial⟩
    | true=>exact Yaa (GF 82) Ykb (Zb1 x _ _ _ p _ k y _) ⟨ha,hb,hf,hi64,hl,decide_eq_true hk0,trivial⟩
   | true =>
    obtain rfl:g=true:=hmono' rfl;exact Yaa (GF 82) Zgj (Zby x _ _ _ p _ k y _) ⟨ha,hb,hf,hi64,hl,decide_eq_true hk0,trivial⟩
  ·rw[if_neg hk0]
   cases f with
   | false =>
    cases g with
    | false=>exact Yaa (GF 82) Ykb (Zb2 x _ _ _ p _ k y _) ⟨ha,hb,hf,hi64,hl,decide_eq_false hk0,trivial⟩
    | true=>exact Yaa (GF 82) Ykb (Zb0 x _ _ _ p _ k y _) ⟨ha,hb,hf,hi64,hl,decide_eq_false hk0,trivial⟩
   | true =>
    obtain rfl:g=true:=hmono' rfl;exact Yaa (GF 82) Zgj (Zbx x _ _ _ p _ k y _) ⟨ha,hb,hf,hi64,hl,decide_eq_false hk0,trivial⟩
 ·obtain⟨h1,h2⟩:=Ymp he;rw[if_neg he];rcases h1 with h1|h1
  ·rw[h1]at ha;exact Yaa (GF 82) Ykb (Zj1 x _) ⟨ha,h2,trivial⟩
  ·rw[h1]at ha;exact Yaa (GF 82) Ykb (Zj2 x _ _) ⟨ha,h2,trivial⟩
end Go.Di
namespace Go.Di
open Proofs
def linksB (svs:List Sv):Book:={secs:=[⟨⟨40,42⟩,⟨1,2⟩⟩,⟨⟨38,39⟩,⟨0,1⟩⟩],turns:=[6],svs:=svs,rule:=30,days:=12}
def Yaw (n:Int):FBook:={chain:=linksB [],feet:=[9,6],new:=40,opn:=[3,5,9],stock:=n,make:=1}
def Ykr:FBook:={Yaw 12 with chain:=linksB [⟨0,6,34,1⟩,⟨0,6,40,1⟩]}
def threeW:List Work:=[⟨3,1⟩,⟨5,0⟩,⟨9,1⟩]
end Go.Di
namespace Go.Di
open Proofs
noncomputable abbrev k_36 (p:List Nat):Code:=Code.at p (body Proofs.Tryz.f36)
theorem Zzx:FnOk PRG (MF 13) 66 (body Tryz.f66) [.cell 2 26]:=by refine⟨Tryz.f66,?_,?_,?_,?_,?_⟩<;>kernel_rfl
theorem Zu2:FnOk PRG (MF 8) 63 (body Tryz.f63) [.cell 2 28]:=by refine⟨Tryz.f63,?_,?_,?_,?_,?_⟩<;>kernel_rfl
theorem Xfx:FnOk PRG (MF 2) 26 (body Tryz.f26) [.cell 0 28]:=by refine⟨Tryz.f26,?_,?_,?_,?_,?_⟩<;>kernel_rfl
theorem Xa3:FnOk PRG (MF 2) 32 (body Tryz.f32) [.cell 0 28]:=by refine⟨Tryz.f32,?_,?_,?_,?_,?_⟩<;>kernel_rfl
theorem Xay:FnOk PRG (MF 8) 28 (body Tryz.f28) [.cell 4 54]:=by refine⟨Tryz.f28,?_,?_,?_,?_,?_⟩<;>kernel_rfl
theorem Zud:FnOk PRG (MF 5) 27 (body Tryz.f27) [.tmp 0]:=by refine⟨Tryz.f27,?_,?_,?_,?_,?_⟩<;>kernel_rfl
theorem Xaz:FnOk PRG (MF 9) 30 (body Tryz.f30) [.cell 0 28]:=by refine⟨Tryz.f30,?_,?_,?_,?_,?_⟩<;>kernel_rfl
theorem Zbi:FnOk PRG (MF 26) 36 (body Tryz.f36) [.tmp 4]:=by refine⟨Tryz.f36,?_,?_,?_,?_,?_⟩<;>kernel_rfl
theorem Xg9:FnOk PRG (MF 136) 11 (body Tryz.f11) [.tmp 0]:=by refine⟨Tryz.f11,?_,?_,?_,?_,?_⟩<;>kernel_rfl
def Yer (p q:List Work)(i:Nat):KV :=
 [(.tmp 0,.d (D.z E.work p)),
  (.tmp 1,.d (D.z E.work q)),
  (.tmp 5,.d (.I i))]
def Yus:List Key:=[.tmp 0,.tmp 1,.tmp 5]
def Yi4 (p q:List Work)(i:Nat)  : KV :=
 [(.tmp 0,.d (D.z E.work p)),(.tmp 1,.d (D.z E.work q)),(.tmp 5,.d (D.I (i:Int))),(.tmp 4,.d (D.bool false))]
theorem Zp8 (p q:List Work)(i:Nat) :runK (MF 26) [(14,true),(25,false)] [] [] (k_36 [1,1,0,1,0,0]) (Yer p q i) Yus =some ([decide ((i:Int)<(p.length:Int))=true,(0:Int)<=(i:Int)/\(i:Int)<(p.length:Int),0+2<=2,(0:Int)<=(i:Int)/\(i:Int)<(q.length:Int),0+2<=2,(!eqI [Work.d (List.getD p (i) Yam),Work.s (List.getD p (i) Yam)] [Work.d (List.getD q (i) Yam),Work.s (List.getD q (i) Yam)])=false,Yae ((i:Int)+(1:Int))],Ex.normal,Yer p q (i+1)):=by kernel_rfl
theorem Zbj (p q:List Work)(i:Nat) :runK (MF 26) [(14,true),(25,true)] [] [] (k_36 [1,1,0,1,0,0]) (Yer p q i) [.tmp 0,.tmp 1,.tmp 5,.tmp 4] =some ([decide ((i:Int)<(p.length:Int))=true,(0:Int)<=(i:Int)/\(i:Int)<(p.length:Int),0+2<=2,(0:Int)<=(i:Int)/\(i:Int)<(q.length:Int),0+2<=2,(!eqI [Work.d (List.getD p (i) Yam),Work.s (List.getD p (i) Yam)] [Work.d (List.getD q (i) Yam),Work.s (List.getD q (i) Yam)])=true],Ex.ret,Yi4 p q i ):=by kernel_rfl
theorem Zit (p q:List Work)(i:Nat) :runK (MF 26) [(14,false)] [] [] (k_36 [1,1,0,1,0,0]) (Yer p q i) Yus =some ([decide ((i:Int)<(p.length:Int))=false],Ex.exit 0,Yer p q i):=by kernel_rfl
theorem Zta (svs:List Sv) :Yaj (MF 13) [] [(3,spD ⟨40,42⟩),(4,spD ⟨1,2⟩),(6,spD ⟨38,39⟩),(7,spD ⟨0,1⟩)] [] (body Tryz.f66) [.cell 2 26] [.z .sv svs] =let Z0:=Span.mk (40:Int) (42:Int);let Z1:=Span.mk (38:Int) (39:Int);let Z2:=Span.mk (1:Int) (2:Int);let Z3:=Span.mk (0:Int) (1:Int);some ([CF 94 [D.I 40,D.I 42] (D.agg [D.I (Span.lo Z0),D.I (Span.hi Z0)]),CF 94 [D.I 1,D.I 2] (D.agg [D.I (Span.lo Z2),D.I (Span.hi Z2)]),CF 94 [D.I 38,D.I 39] (D.agg [D.I (Span.lo Z1),D.I (Span.hi Z1)]),CF 94 [D.I 0,D.I 1] (D.agg [D.I (Span.lo Z3),D.I (Span.hi Z3)])],D.agg [D.sl true E.sec [Sec.mk (Span.mk (Span.lo Z0) (Span.hi Z0)) (Span.mk (Span.lo Z2) (Span.hi Z2)),Sec.mk (Span.mk (Span.lo Z1) (Span.hi Z1)) (Span.mk (Span.lo Z3) (Span.hi Z3))],D.sl true E.int [(6:Int)],D.z E.sv svs,D.I 30,D.I 12]):=by kernel_rfl
theorem Zm1 (n:Int) :Yaj (MF 8) [] [(3,Yah (linksB []))] [] (body Tryz.f63) [.cell 2 28] [.I n] =some ([CF 66 [D.z E.sv []] (D.agg (Yal (linksB [])))],D.agg [D.z E.sec (Book.secs (linksB [])),D.z E.int (Book.turns (linksB [])),D.z E.sv (Book.svs (linksB [])),D.I (Book.rule (linksB [])),D.I (Book.days (linksB [])),D.sl true E.int [(9:Int),(6:Int)],D.I 40,D.sl true E.int [(3:Int),(5:Int),(9:Int)],D.I n,D.I 1]):=by kernel_rfl
theorem Xa4  :Yaj (MF 2) [] [(1,Yab (Yaw 12))] [] (body Tryz.f26) [.cell 0 28] [] =let Z0:=FBook.chain (Yaw (12:Int));let Z1:=FBook.stock (Yaw (12:Int));let Z2:=FBook.feet (Yaw (12:Int));let Z3:=FBook.make (Yaw (12:Int));let Z4:=FBook.new (Yaw (12:Int));let Z5:=FBook.opn (Yaw (12:Int));some ([CF 63 [D.I 12] (D.agg [D.z E.sec (Book.secs Z0),D.z E.int (Book.turns Z0),D.z E.sv (Book.svs Z0),D.I (Book.rule Z0),D.I (Book.days Z0),D.z E.int Z2,D.I Z4,D.z E.int Z5,D.I Z1,D.I Z3])],D.agg [D.z E.sec (Book.secs Z0),D.z E.int (Book.turns Z0),D.z E.sv (Book.svs Z0),D.I (Book.rule Z0),D.I (Book.days Z0),D.z E.int Z2,D.I Z4,D.z E.int Z5,D.I Z1,D.I Z3]):=by kernel_rfl
theorem Zuh  :Yaj (MF 2) [] [(1,Yab (Yaw 11))] [] (body Tryz.f32) [.cell 0 28] [] =let Z0:=FBook.chain (Yaw (11:Int));let Z1:=FBook.stock (Yaw (11:Int));let Z2:=FBook.feet (Yaw (11:Int));let Z3:=FBook.make (Yaw (11:Int));let Z4:=FBook.new (Yaw (11:Int));let Z5:=FBook.opn (Yaw (11:Int));some ([CF 63 [D.I 11] (D.agg [D.z E.sec (Book.secs Z0),D.z E.int (Book.turns Z0),D.z E.sv (Book.svs Z0),D.I (Book.rule Z0),D.I (Book.days Z0),D.z E.int Z2,D.I Z4,D.z E.int Z5,D.I Z1,D.I Z3])],D.agg [D.z E.sec (Book.secs Z0),D.z E.int (Book.turns Z0),D.z E.sv (Book.svs Z0),D.I (Book.rule Z0),D.I (Book.days Z0),D.z E.int Z2,D.I Z4,D.z E.int Z5,D.I Z1,D.I Z3]):=by kernel_rfl
theorem Zua (d s:Int) :Yaj (MF 8) [] [] [] (body Tryz.f28) [.cell 4 54] [.I d,.I s] =some ([0+2<=2],D.agg [D.I d,D.I s]):=by kernel_rfl
theorem Zl9  :Yaj (MF 5) [] [(1,wkD ⟨3,1⟩),(2,wkD ⟨5,0⟩),(3,wkD ⟨9,1⟩)] [] (body Tryz.f27) [.tmp 0] [] =let Z0:=Work.mk (3:Int) (1:Int);let Z1:=Work.mk (5:Int) (0:Int);let Z2:=Work.mk (9:Int) (1:Int);some ([CF 28 [D.I 3,D.I 1] (D.agg [D.I (Work.d Z0),D.I (Work.s Z0)]),CF 28 [D.I 5,D.I 0] (D.agg [D.I (Work.d Z1),D.I (Work.s Z1)]),CF 28 [D.I 9,D.I 1] (D.agg [D.I (Work.d Z2),D.I (Work.s Z2)])],D.sl true E.work [Work.mk (Work.d Z0) (Work.s Z0),Work.mk (Work.d Z1) (Work.s Z1),Work.mk (Work.d Z2) (Work.s Z2)]):=by kernel_rfl
theorem Zuc  :Yaj (MF 9) [] [(2,Yab (Yaw 12)),(6,Yah (linksB [⟨0,6,34,1⟩,⟨0,6,40,1⟩]))] [] (body Tryz.f30) [.cell 0 28] [] =let Z0:=FBook.chain (Yaw (12:Int));let Z1:=FBook.stock (Yaw (12:Int));let Z2:=FBook.feet (Yaw (12:Int));let Z3:=FBook.make (Yaw (12:Int));let Z4:=FBook.new (Yaw (12:Int));let Z5:=FBook.opn (Yaw (12:Int));some ([CF 26 [] (D.agg [D.z E.sec (Book.secs Z0),D.z E.int (Book.turns Z0),D.z E.sv (Book.svs Z0),D.I (Book.rule Z0),D.I (Book.days Z0),D.z E.int Z2,D.I Z4,D.z E.int Z5,D.I Z1,D.I Z3]),CF 66 [D.z E.sv [Sv.mk (0:Int) (6:Int) (34:Int) (1:Int),Sv.mk (0:Int) (6:Int) (40:Int) (1:Int)]] (D.agg (Yal (linksB [Sv.mk (0:Int) (6:Int) (34:Int) (1:Int),Sv.mk (0:Int) (6:Int) (40:Int) (1:Int)])))],D.agg [D.z E.sec (Book.secs (linksB [Sv.mk (0:Int) (6:Int) (34:Int) (1:Int),Sv.mk (0:Int) (6:Int) (40:Int) (1:Int)])),D.z E.int (Book.turns (linksB [Sv.mk (0:Int) (6:Int) (34:Int) (1:Int),Sv.mk (0:Int) (6:Int) (40:Int) (1:Int)])),D.z E.sv (Book.svs (linksB [Sv.mk (0:Int) (6:Int) (34:Int) (1:Int),Sv.mk (0:Int) (6:Int) (40:Int) (1:Int)])),D.I (Book.rule (linksB [Sv.mk (0:Int) (6:Int) (34:Int) (1:Int),Sv.mk (0:Int) (6:Int) (40:Int) (1:Int)])),D.I (Book.days (linksB [Sv.mk (0:Int) (6:Int) (34:Int) (1:Int),Sv.mk (0:Int) (6:Int) (40:Int) (1:Int)])),D.z E.int Z2,D.I Z4,D.z E.int Z5,D.I Z1,D.I Z3]):=by kernel_rfl
theorem Zxr (p q:List Work) :Yaj (MF 26) [(10,true)] [] [] (body Tryz.f36) [.tmp 4] [.z .work p,.z .work q] =some ([((p.length:Int) != (q.length:Int))=true],D.bool false):=by kernel_rfl
theorem Zp7 (p q:List Work)(i:Nat) :Yaj (MF 26) [(10,false)] [] [(0,(Yus,(.ret,Yi4 p q i)))] (body Tryz.f36) [.tmp 4] [.z .work p,.z .work q] =some ([((p.length:Int) != (q.length:Int))=false,LF 26 (k_36 [1,1,0,1]) (Yer p q 0) Ex.ret (Yi4 p q i)],D.bool false):=by kernel_rfl
theorem Zxt (p q:List Work)(i:Nat) :Yaj (MF 26) [(10,false)] [] [(0,(Yus,(.normal,Yer p q i)))] (body Tryz.f36) [.tmp 4] [.z .work p,.z .work q] =some ([((p.length:Int) != (q.length:Int))=false,LF 26 (k_36 [1,1,0,1]) (Yer p q 0) Ex.normal (Yer p q i)],D.bool true):=by kernel_rfl
theorem Xdy  :Yaj (MF 136) [] [(16,Yab (Yaw 12)),(17,.z .work threeW),(18,.tup [.I 32,.I 0]),(22,Yab (Yaw 12)),(23,.z .work threeW),(24,.tup [.bool true,.I 0]),(28,Yab (Yaw 12)),(29,wkD ⟨5,0⟩),(31,.tup [.I 8,.I 1,.I 0]),(36,Yab Ykr),(37,.z .work threeW),(38,.tup [.I 21,.I 0]),(42,Yab (Yaw 11)),(43,.z .work threeW),(44,.tup [.I 2,.I 0]),(90,Yab (Yaw 12)),(91,.tup [.z .work threeW,.I 0]),(95,Yab (Yaw 11)),(96,.tup [.I 12,.I 0]),(100,Yab (Yaw 12)),(101,.tup [.I 7,.I 0]),(105,Yab Ykr),(106,.tup [.z .work ([]:List Work),.I 72]),(125,.z .work threeW),(126,.bool true)] [] (body Tryz.f11) [.tmp 0] [] =let Z0:Prop:=CF 26 [] (D.agg [D.z E.sec (Book.secs (FBook.chain (Yaw (12:Int)))),D.z E.int (Book.turns (FBook.chain (Yaw (12:Int)))),D.z E.sv (Book.svs (FBook.chain (Yaw (12:Int)))),D.I (Book.rule (FBook.chain (Yaw (12:Int)))),D.I (Book.days (FBook.chain (Yaw (12:Int)))),D.z E.int (FBook.feet (Yaw (12:Int))),D.I (FBook.new (Yaw (12:Int))),D.z E.int (FBook.opn (Yaw (12:Int))),D.I (FBook.stock (Yaw (12:Int))),D.I (FBook.make (Yaw (12:Int)))]);let Z1:=FBook.chain (Yaw (12:Int));let Z2:=FBook.chain (Yaw (11:Int));let Z3:Prop:=CF 32 [] (D.agg [D.z E.sec (Book.secs Z2),D.z E.int (Book.turns Z2),D.z E.sv (Book.svs Z2),D.I (Book.rule Z2),D.I (Book.days Z2),D.z E.int (FBook.feet (Yaw (11:Int))),D.I (FBook.new (Yaw (11:Int))),D.z E.int (FBook.opn (Yaw (11:Int))),D.I (FBook.stock (Yaw (11:Int))),D.I (FBook.make (Yaw (11:Int)))]);let Z4:Prop:=CF 27 [] (D.z E.work threeW);let Z5:=FBook.stock (Yaw (12:Int));let Z6:=FBook.feet (Yaw (12:Int));let Z7:=FBook.make (Yaw (12:Int));let Z8:=FBook.new (Yaw (12:Int));let Z9:=FBook.opn (Yaw (12:Int));let Z10:=Work.mk (5:Int) (0:Int);let Z11:=FBook.stock (Yaw (11:Int));let Z12:=FBook.feet (Yaw (11:Int));let Z13:=FBook.make (Yaw (11:Int));let Z14:=FBook.new (Yaw (11:Int));let Z15:=FBook.opn (Yaw (11:Int));some ([Z0,Z4,CF 16 [D.agg [D.z E.sec (Book.secs Z1),D.z E.int (Book.turns Z1),D.z E.sv (Book.svs Z1),D.I (Book.rule Z1),D.I (Book.days Z1),D.z E.int Z6,D.I Z8,D.z E.int Z9,D.I Z5,D.I Z7],D.z E.work threeW,D.I 0,D.I 12] (D.tup [D.I 32,D.I 0]),Z0,Z4,CF 20 [D.agg [D.z E.sec (Book.secs Z1),D.z E.int (Book.turns Z1),D.z E.sv (Book.svs Z1),D.I (Book.rule Z1),D.I (Book.days Z1),D.z E.int Z6,D.I Z8,D.z E.int Z9,D.I Z5,D.I Z7],D.z E.work threeW] (D.tup [D.bool true,D.I 0]),Z0,CF 28 [D.I 5,D.I 0] (D.agg [D.I (Work.d Z10),D.I (Work.s Z10)]),CF 22 [D.agg [D.z E.sec (Book.secs Z1),D.z E.int (Book.turns Z1),D.z E.sv (Book.svs Z1),D.I (Book.rule Z1),D.I (Book.days Z1),D.z E.int Z6,D.I Z8,D.z E.int Z9,D.I Z5,D.I Z7],D.z E.work [Work.mk (Work.d Z10) (Work.s Z10)]] (D.tup [D.I 8,D.I 1,D.I 0]),CF 30 [] (Yab Ykr),Z4,CF 29 [Yab Ykr,D.z E.work threeW] (D.tup [D.I 21,D.I 0]),Z3,Z4,CF 31 [D.agg [D.z E.sec (Book.secs Z2),D.z E.int (Book.turns Z2),D.z E.sv (Book.svs Z2),D.I (Book.rule Z2),D.I (Book.days Z2),D.z E.int Z12,D.I Z14,D.z E.int Z15,D.I Z11,D.I Z13],D.z E.work threeW] (D.tup [D.I 2,D.I 0]),Z0,CF 33 [D.agg [D.z E.sec (Book.secs Z1),D.z E.int (Book.turns Z1),D.z E.sv (Book.svs Z1),D.I (Book.rule Z1),D.I (Book.days Z1),D.z E.int Z6,D.I Z8,D.z E.int Z9,D.I Z5,D.I Z7]] (D.tup [D.z E.work threeW,D.I 0]),Z3,CF 34 [D.agg [D.z E.sec (Book.secs Z2),D.z E.int (Book.turns Z2),D.z E.sv (Book.svs Z2),D.I (Book.rule Z2),D.I (Book.days Z2),D.z E.int Z12,D.I Z14,D.z E.int Z15,D.I Z11,D.I Z13]] (D.tup [D.I 12,D.I 0]),Z0,CF 35 [D.agg [D.z E.sec (Book.secs Z1),D.z E.int (Book.turns Z1),D.z E.sv (Book.svs Z1),D.I (Book.rule Z1),D.I (Book.days Z1),D.z E.int Z6,D.I Z8,D.z E.int Z9,D.I Z5,D.I Z7]] (D.tup [D.I 7,D.I 0]),CF 30 [] (Yab Ykr),CF 33 [Yab Ykr] (D.tup [D.z E.work [],D.I 72]),Z4,CF 36 [D.z E.work threeW,D.z E.work threeW] (D.bool true)],D.bool true):=by kernel_rfl
end Go.Di
namespace Go.Di
open Proofs
theorem Yyp:Yas (Yaw 12)=[[40,38,36,34,32,30,28,27,26,25,24,23,22],[38,37,36,35,34,33,32,30,28,26,24,22,20]]:=by kernel_rfl
theorem Yyo:Yar (Yaw 12)=[2,1]:=by kernel_rfl
theorem Xep:Yas (Yaw 11)=Yas (Yaw 12):=rfl
theorem Xeo:Yar (Yaw 11)=Yar (Yaw 12):=rfl
theorem Zsv:Yda (Yaw 12) true=0:=by kernel_rfl
theorem Zzh:Yda (Yaw 11) true=0:=by kernel_rfl
theorem Xbk:Ywg (Yaw 12) threeW 0 12=(32,0):=by kernel_rfl
theorem Zvb:Yfk (Yaw 12) threeW=(0,0,4):=by
 have h:Yda (Yaw 12) (Yl8 (Yaw 12) threeW)=0:=by kernel_rfl
 have e:Yra (Yaw 12) (Yas (Yaw 12)) (Yar (Yaw 12)) threeW=none:=by rw[Yyp,Yyo];kernel_rfl
 unfold Yfk;rw[if_pos h,e]
theorem Xf0:Yz7 (Yaw 12) threeW=(true,0):=by unfold Yz7;rw[Zvb];rfl
theorem Xbl:Yfk (Yaw 12) [⟨5,0⟩]=(8,1,0):=by
 have h:Yda (Yaw 12) (Yl8 (Yaw 12) [⟨5,0⟩])=0:=by kernel_rfl
 have e:Yra (Yaw 12) (Yas (Yaw 12)) (Yar (Yaw 12)) [⟨5,0⟩]=some (8,1):=by rw[Yyp,Yyo];kernel_rfl
 unfold Yfk;rw[if_pos h,e];rfl
theorem Xf3:Zaa Ykr threeW=(21,0):=by kernel_rfl
theorem Xbi:Ywe (Yaw 11) threeW=(2,0):=by kernel_rfl
theorem Xf4:Yem (Yaw 12) (Yas (Yaw 12)) (Yar (Yaw 12))=(threeW,true):=by rw[Yyp,Yyo];kernel_rfl
theorem Xf2:Yeq (Yaw 12)=(threeW,0):=by unfold Yeq;rw[if_pos Zsv,Xf4]
theorem Zva:Ylx (Yaw 11) (Yas (Yaw 11)) (Yar (Yaw 11))=12:=by rw[Xep,Xeo,Yyp,Yyo];kernel_rfl
theorem Xbh:Yhg (Yaw 11)=(12,0):=by unfold Yhg;rw[if_pos Zzh,Zva];rfl
theorem Xbj:(Yc7 (Yaw 12) (Yas (Yaw 12)) (Yar (Yaw 12)) ((Yaw 12).chain.days+1).toNat).1=7:=by rw[Yyp,Yyo];kernel_rfl
theorem Xf1:Yk1 (Yaw 12)=(7,0):=by unfold Yk1;rw[if_pos Zsv,Xbj];rfl
theorem Xfz:Yeq Ykr=([],72):=by
 have h:Yda Ykr true=72:=by kernel_rfl
 unfold Yeq;rw[h];rfl
theorem Yyw (svs:List Sv):CF 66 [.z .sv svs] (Yah (linksB svs)):=by
 have:=Yaa (GF 13) Zzx (Zta svs) ⟨(Yfy 40 42).up,(Yfy 1 2).up,(Yfy 38 39).up,(Yfy 0 1).up,trivial⟩
 exact this.toWeak
theorem Yt9 (n:Int):CF 63 [.I n] (Yab (Yaw n)):=(Yaa (GF 8) Zu2 (Zm1 n) ⟨Yyw [],trivial⟩).toWeak
theorem Zhl:CF 26 [] (Yab (Yaw 12)):=Yaa (GF 2) Xfx Xa4 ⟨Yt9 12,trivial⟩
theorem Zug:CF 32 [] (Yab (Yaw 11)):=Yaa (GF 2) Xa3 Zuh ⟨Yt9 11,trivial⟩
theorem Ymm (d s:Int):CF 28 [.I d,.I s] (wkD ⟨d,s⟩):=Yaa (GF 8) Xay (Zua d s) ⟨by omega,trivial⟩
theorem Zl8:CF 27 [] (.z .work threeW):=(Yaa (GF 5) Zud Zl9 ⟨Ymm 3 1,Ymm 5 0,Ymm 9 1,trivial⟩).toRes fun R w v h=>Yi3 h
theorem Zub:CF 30 [] (Yab Ykr):=Yaa (GF 9) Xaz Zuc ⟨Zhl,Yyw _,trivial⟩
instance workEq:DecidableEq Work:=fun x y=>if h:x.d=y.d/\x.s=y.s then isTrue (by obtain⟨a,b⟩:=x;obtain⟨c,d⟩:=y;obtain⟨rfl,rfl⟩:=h;rfl) else isFalse fun e=>h (by rw[e];exact⟨rfl,rfl⟩)
theorem Zvc {x y:Work}:eqI [x.d,x.s] [y.d,y.s]=decide (x=y):=by
 obtain⟨a,b⟩:=x;obtain⟨c,d⟩:=y
 by_cases h:(⟨a,b⟩:Work)=⟨c,d⟩
 ·rw[decide_eq_true h]
  cases h
  simp[eqI]
 ·rw[decide_eq_false h];simp only[Work.mk.injEq,not_and]at h;simp only[eqI]
  by_cases h1:a=c
  ·have:=h h1
   simp[this]
  ·simp[h1]
theorem Xbf {xs ys:List Work}(hl:xs.length=ys.length)(h:∀ i<xs.length,xs.getD i Yam=ys.getD i Yam):xs=ys:=by
 refine List.ext_getElem hl fun i h1 h2=>?_
 have:=h i h1
 rwa [List.getD_eq_getElem?_getD,List.getD_eq_getElem?_getD,List.getElem?_eq_getElem h1,List.getElem?_eq_getElem h2]at this
theorem Zgd (p q:List Work)(hl:p.length<=1000000):CF 36 [.z .work p,.z .work q] (.bool (decide (p=q))):=by
 have hb:k_36 [1,1,0,1]=.block 0 (.loop (k_36 [1,1,0,1,0,0])):=by kernel_rfl
 by_cases hlen:p.length=q.length
 ·have hne:((p.length:Int) != (q.length:Int))=false:=by rw[hlen];simp
  have hon:∀ k,k<=p.length->(∀ i<k,(!eqI [(p.getD i Yam).d,(p.getD i Yam).s] [(q.getD i Yam).d,(q.getD i Yam).s])=false)->∀ i,i<k->∃ dec orc lorc ks ps L1,runK (MF 26) dec orc lorc (k_36 [1,1,0,1,0,0]) (Yer p q i) ks=some (ps,.normal,L1)/\allP ps/\L1=Yer p q (i+1):=fun k hk h i hi =>
   ⟨_,_,_,_,_,_,Zp8 p q i,⟨Yat (by omega),⟨by omega,by omega⟩,by omega,⟨by omega,by omega⟩,by omega,h i hi,Yap (by omega) (by omega),trivial⟩,rfl⟩
  rcases Ycr (fun i=>!eqI [(p.getD i Yam).d,(p.getD i Yam).s] [(q.getD i Yam).d,(q.getD i Yam).s]) p.length with ⟨k,h1,h2,h3⟩|h
  ·have:decide (p=q)=false:=decide_eq_false fun e=>by subst e;rw[Zvc]at h2;simp at h2
   rw[this];exact Yaa (GF 26) Zbi (Zp7 p q k) ⟨hne,LF.each hb k (Yer p q) (hon k (by omega) h3) ⟨_,_,_,_,_,_,_,Zbj p q k,⟨Yat h1,⟨by omega,by omega⟩,by omega,⟨by omega,by omega⟩,by omega,h2,trivial⟩,.inr ⟨rfl,rfl⟩,rfl⟩,trivial⟩
  ·have:decide (p=q)=true:=decide_eq_true (Xbf hlen fun i hi=>by have:=h i hi;rw[Zvc]at this;simpa using this)
   rw[this];exact Yaa (GF 26) Zbi (Zxt p q p.length) ⟨hne,LF.each hb p.length (Yer p q) (hon _ (Nat.le_refl _) h) ⟨_,_,_,_,_,_,_,Zit p q _,⟨Yay,trivial⟩,.inl ⟨rfl,rfl⟩,rfl⟩,trivial⟩
 ·have:decide (p=q)=false:=decide_eq_false fun e=>hlen (by rw[e])
  rw[this];exact Yaa (GF 26) Zbi (Zxr p q) ⟨by simp;omega,trivial⟩
theorem Yd0 (n:Int):FSmall (Yaw n):=⟨⟨by simp[Yaw,linksB],by simp[Yaw,linksB],by simp[Yaw,linksB]⟩,by simp[Yaw],by simp[Yaw]⟩
theorem Yte:FSmall Ykr:=⟨⟨by simp[Ykr,Yaw,linksB],by simp[Ykr,Yaw,linksB],by simp[Ykr,Yaw,linksB]⟩,by simp[Ykr,Yaw],by simp[Ykr,Yaw]⟩
theorem Xdx:CF 11 [] (.bool true):=by
 have w3:threeW.length<=9223372036854775807:=by decide
 have c1:=Znd (Yd0 12) w3 0 12;have c2:=Zu6 (Yd0 12) w3;have c3:=Yub (Yd0 12) (plan:=[⟨5,0⟩]) (by decide);have c4:=Yz9 Yte w3;have c5:=Zm6 (Yd0 11) w3;have c6:=Yro (Yd0 12);have c7:=Yua (Yd0 11);have c8:=Yz8 (Yd0 12);have c9:=Yro Yte;rw[Xbk]at c1;rw[Xf0]at c2;rw[Xbl]at c3;rw[Xf3]at c4;rw[Xbi]at c5;rw[Xf2]at c6;rw[Xbh]at c7;rw[Xf1]at c8;rw[Xfz]at c9;have c10:=Zgd threeW threeW (by decide);rw[decide_eq_true rfl]at c10
 exact Yaa (GF 136) Xg9 Xdy (by
  repeat(first|exact trivial|refine⟨by first|exact Zhl|exact Zl8|exact Zug|exact Zub|exact Ymm 5 0|exact c1|exact c2|exact c3|exact c4|exact c5|exact c6|exact c7|exact c8|exact c9|exact c10|exact c3.toArgs (fun R w vs h=>by obtain⟨v,l,rfl,h1,h⟩:=Yaq h;obtain⟨v2,l,rfl,h2,h⟩:=Yaq h;exact⟨h1,Yi3 h2,h⟩)|rfl|decide,?_⟩))
end Go.Di
namespace Go.Di
open Proofs
end Go.Di
namespace Go.Di
open Go.RowKit Go.ChangeShapes Go.WideShapes Go.Deep
section
variable {H:Type} {enc:TypeId×Value->H} {P:Program}
theorem Yls (hl:laidOutB P=true){W W':World}(hb:Below W.heap.size W W'){sp:Nat->Bool}:∀ {ts:List TypeId} {vs:List Value} {ds:List (DataW H)} {ps:List MemPlace},
  (∀ t∈ts,P.readableRec t=true/\t<P.types.size)->DataW.TrodAll enc P W 0 (fun _=>true) true ts vs ds ps->(∀ x∈ps,x.block<W.heap.size)->(∀ x∈ps,sp x.block=true)->DataW.TrodAll enc P W' 0 sp true ts vs ds ps
 | [],[],[],ps,_,h,_,_=>h
 | [],[],_::_,_,_,h,_,_=>h.elim
 | [],_::_,_,_,_,h,_,_=>h.elim
 | _::_,[],_,_,_,h,_,_=>h.elim
 | _::_,_::_,[],_,_,h,_,_=>h.elim
 | t::ts,v::vs,d::ds,ps,ht,⟨p,q,h1,h2,e⟩,hlt,hsp=>by
  subst e;have hx:∀ x∈p,x∈p++q:=fun x hx=>List.mem_append_left _ hx;have hy:∀ x∈q,x∈p++q:=fun x hx=>List.mem_append_right _ hx;obtain⟨r1,r2⟩:=ht t (by simp);exact⟨p,q,WideElems.Trod_stays hl r1 r2 h1 (fun x h=>hb.same (hlt x (hx x h))) (fun x h=>hsp x (hx x h)),Yls hl hb (fun u hu=>ht u (by simp[hu])) h2 (fun x h=>hlt x (hy x h)) (fun x h=>hsp x (hy x h)),rfl⟩
theorem Zz2 {f:Func}{s:ChangeSpec}{apart fresh handsOn again:Bool}{W W':World}{args:Array Value}{ds gs:List (DataW H)}{before:List MemPlace}{tb:TypeId}
  (hl:laidOutB P=true) (hread:∀ t∈f.params.toList,P.readableRec t=true/\t<P.types.size) (hvars:s.vars=[]) (hres:f.resultTypes=#[tb]) (htb:P.underlying tb=some .bool)
  (hW:DataW.Whole enc P f.params.toList s.vars apart W args.toList ds gs before) (hspec:s.fn H (ds++gs)={results:=[.lit (.bool true)],args:=ds}) (hb:Below W.heap.size W W') :
  s.post enc P f apart fresh handsOn again W args (.bool true) W':=by
 have hlt:∀ x∈before,x.block<W.heap.size:=fun x hx=>by simpa using hW.lt x hx
 have hW0:=hW;obtain⟨p,q,h1,h2,rfl,hz,hn⟩:=hW
 have hq:q=[]/\gs=[]:=by
  rw[hvars]at h2
  cases gs with
  | nil=>exact⟨h2,rfl⟩
  | cons _ _=>exact h2.elim
 obtain⟨rfl,rfl⟩:=hq
 have hbool:∀(b:Nat) (sp:Nat->Bool) (hd:Bool),DataW.TrodAll enc P W' b sp hd f.resultTypes.toList ((Value.bool true).resultList f.resultTypes.size) [.lit (.bool true)] []:=fun b sp hd=>by
  rw[hres];exact trodAll_cons_mk (shut_bool htb _) trodAll_mk0
 have hargs:∀ sp:Nat->Bool,(∀ x∈p,sp x.block=true)->DataW.TrodAll enc P W' 0 sp true f.params.toList args.toList ds p:=fun sp hsp =>
  Yls hl hb hread h1 (fun x hx=>hlt x (by simp[hx])) hsp
 have hv:∀ sp:Nat->Bool,DataW.TrodVars enc P W' sp s.vars ([]:List (DataW H)) []:=fun sp=>by rw[hvars];rfl
 refine⟨ds,[],p++[],[],p,[],hW0,?_,?_,?_,hb.frame _,fun _=>⟨?_,[.lit (.bool true)]++ds,[],[]++p,⟨[]++p,[],?_,hv (fun _=>true),by simp,?_,?_⟩,?_⟩⟩
 ·rw[hspec];exact hbool _ _ _
 ·rw[hspec];exact hargs _ fun x hx=>by simpa using hlt x (by simp[hx])
 ·rw[hspec];exact hv _
 ·exact ok_one hres rfl (okWide_bool_mk htb _)
 ·exact trodAll_append (hargs (fun _=>true) fun _ _=>rfl) (hbool _ _ _)
 ·intro b off hp;have hp':MemPlace.cell b off∈p:=by simpa using hp
  rw[hb.frozen (p:=⟨b,off,none⟩) (hlt (.cell b off) (by simp[hp']))];exact hz b off (by simpa using hp')
 ·intro ha
  have:=hn ha
  simpa using this
 ·intro x hx _;simpa using hx
variable {w:World} {sp:Nat->Bool} {hd:Bool}
def Old (w:World):Foot:=fun b _=>b<w.heap.size
theorem Yis {w:World}{a:Addr}{v:Value}(h:w.cell? a=some v):a.block<w.heap.size:=by
 unfold World.cell? at h
 cases hh:w.heap[a.block]? with
 | none=>rw[hh]at h;cases h
 | some o=>exact(Array.getElem?_eq_some_iff.1 hh).1
def Yr6 (enc:TypeId×Value->H)(P:Program)(w:World)(sp:Nat->Bool)(hd:Bool)(t:TypeId)(e:E):Prop:=∀(fuel:Nat) (cs:List Value) (x:DataW H×List MemPlace),DataW.trod enc P w 0 sp hd fuel t cs=some x->∃ y:e.α,cs.length=e.sz/\RelE (Old w) w e y cs
theorem Yc8 {t:TypeId}(ht:P.underlying t=some (.int .i64)){fuel:Nat}{cs:List Value}{x:DataW H×List MemPlace}(h:DataW.trod enc P w 0 sp hd fuel t cs=some x):∃ n,cs=[.int .i64 n]:=by
 obtain⟨n,h1,_⟩:=DataW.trod_int ht h;exact⟨n,h1⟩
theorem Zrl {t:TypeId}{f0 f1:Field}(ht:P.underlying t=some (.struct #[f0,f1]))(hc:P.cellsOf t=2)(o0:f0.offset=0)(o1:f1.offset=1)(c0:P.cellsOf f0.type=1)(c1:P.cellsOf f1.type=1)
  (t0:P.underlying f0.type=some (.int .i64)) (t1:P.underlying f1.type=some (.int .i64)) {fuel:Nat} {cs:List Value} {x:DataW H×List MemPlace} (h:DataW.trod enc P w 0 sp hd fuel t cs=some x):∃ a b,cs=[.int .i64 a,.int .i64 b]:=by
 obtain⟨xs,k,_,_,hl,hx,hf⟩:=DataW.trod_struct ht h;rw[hc]at hl
 match xs,hx,cs,hl with
 | [y0,y1],_,[v0,v1],_ =>
  have g0:=hf 0 f0 rfl;have g1:=hf 1 f1 rfl;simp[o0,o1,c0,c1]at g0 g1;obtain⟨a,ha⟩:=Yc8 t0 g0;obtain⟨b,hb⟩:=Yc8 t1 g1;simp only[List.cons.injEq,and_true]at ha hb;exact⟨a,b,by rw[ha,hb]⟩
theorem Zj4 {t:TypeId}{f0 f1 f2 f3:Field}(ht:P.underlying t=some (.struct #[f0,f1,f2,f3]))(hc:P.cellsOf t=4)(o0:f0.offset=0)(o1:f1.offset=1)(o2:f2.offset=2)(o3:f3.offset=3)
  (c0:P.cellsOf f0.type=1) (c1:P.cellsOf f1.type=1) (c2:P.cellsOf f2.type=1) (c3:P.cellsOf f3.type=1) (t0:P.underlying f0.type=some (.int .i64)) (t1:P.underlying f1.type=some (.int .i64)) (t2:P.underlying f2.type=some (.int .i64)) (t3:P.underlying f3.type=some (.int .i64))
  {fuel:Nat} {cs:List Value} {x:DataW H×List MemPlace} (h:DataW.trod enc P w 0 sp hd fuel t cs=some x):∃ a b c d,cs=[.int .i64 a,.int .i64 b,.int .i64 c,.int .i64 d]:=by
 obtain⟨xs,k,_,_,hl,hx,hf⟩:=DataW.trod_struct ht h;rw[hc]at hl
 match xs,hx,cs,hl with
 | [y0,y1,y2,y3],_,[v0,v1,v2,v3],_ =>
  have g0:=hf 0 f0 rfl;have g1:=hf 1 f1 rfl;have g2:=hf 2 f2 rfl;have g3:=hf 3 f3 rfl;simp[o0,o1,o2,o3,c0,c1,c2,c3]at g0 g1 g2 g3;obtain⟨a,ha⟩:=Yc8 t0 g0;obtain⟨b,hb⟩:=Yc8 t1 g1;obtain⟨c,hc⟩:=Yc8 t2 g2;obtain⟨d,hd⟩:=Yc8 t3 g3;simp only[List.cons.injEq,and_true]at ha hb hc hd;exact⟨a,b,c,d,by rw[ha,hb,hc,hd]⟩
theorem Zrm {t:TypeId}{f0 f1:Field}(ht:P.underlying t=some (.struct #[f0,f1]))(hc:P.cellsOf t=4)(o0:f0.offset=0)(o1:f1.offset=2)(c0:P.cellsOf f0.type=2)(c1:P.cellsOf f1.type=2)
  (t0:∀(fuel:Nat) (cs:List Value) (x:DataW H×List MemPlace),DataW.trod enc P w 0 sp hd fuel f0.type cs=some x->∃ a b,cs=[.int .i64 a,.int .i64 b])
  (t1:∀(fuel:Nat) (cs:List Value) (x:DataW H×List MemPlace),DataW.trod enc P w 0 sp hd fuel f1.type cs=some x->∃ a b,cs=[.int .i64 a,.int .i64 b])
  {fuel:Nat} {cs:List Value} {x:DataW H×List MemPlace} (h:DataW.trod enc P w 0 sp hd fuel t cs=some x):∃ a b c d,cs=[.int .i64 a,.int .i64 b,.int .i64 c,.int .i64 d]:=by
 obtain⟨xs,k,_,_,hl,hx,hf⟩:=DataW.trod_struct ht h;rw[hc]at hl
 match xs,hx,cs,hl with
 | [y0,y1],_,[v0,v1,v2,v3],_ =>
  have g0:=hf 0 f0 rfl;have g1:=hf 1 f1 rfl;simp[o0,o1,c0,c1]at g0 g1;obtain⟨a,b,hab⟩:=t0 _ _ _ g0;obtain⟨c,d,hcd⟩:=t1 _ _ _ g1;simp only[List.cons.injEq,and_true]at hab hcd;exact⟨a,b,c,d,by rw[hab.1,hab.2,hcd.1,hcd.2]⟩
theorem Ygc {t et:TypeId}{e:E}(ht:P.underlying t=some (.slice et))(hc:P.cellsOf et=e.sz)(hE:Yr6 enc P w sp hd et e){fuel:Nat}{cs:List Value}{x:DataW H×List MemPlace}(h:DataW.trod enc P w 0 sp hd fuel t cs=some x) :
  ∃(v:Value) (xs:List e.α),cs=[v]/\SlR (RelE (Old w) w e) e.sz (Old w) w false xs v/\xs.length<=maxLen:=by
 rcases open_slice ht h with ⟨rfl,_⟩|⟨a,len,cap,m,n,D,Pl,rfl,hb,hlc,hmx,hm,_,hel⟩
 ·exact⟨_,[],rfl,Yoi _ _ _ _ _,by simp⟩
 ·have hlm:len<=m:=by rw[hm];split<;>omega
  have hz:Nonempty e.α:=⟨E.z e⟩
  have hget:∀ i,i<len->∃ y:e.α,∃ cs',w.cells? 0 (a.add (i*e.sz)) e.sz=some cs'/\RelE (Old w) w e y cs'/\cs'.length=e.sz:=fun i hi=>by
   obtain⟨cs',h1,h2⟩:=hel i (by omega);obtain⟨y,h3,h4⟩:=hE _ _ _ h2;rw[hc]at h1;exact⟨y,cs',h1,h4,h3⟩
  haveI:Inhabited e.α:=⟨E.z e⟩
  obtain⟨f,hf⟩:=choose_lt hget;refine⟨_,(List.range len).map f,rfl,⟨some a,cap,by simp,by simpa using hlc,hmx,fun h=>(by cases h),fun hpos=>?_⟩,by simp;omega⟩;have hlen:0<len:=by simpa using hpos
  obtain⟨b,off,spot⟩:=a;have hszpos:0<e.sz:=by cases e<;>simp[E.sz]
  have hspot:spot=none:=by
   obtain⟨cs',h1,h2,h3⟩:=hf 0 hlen;obtain⟨_,_,hcell⟩:=World.cells?_some h1
   have:=hcell 0 hszpos
   rw[Nat.zero_mul]at this;have h0:w.cell? ⟨b,off,spot⟩=cs'[0]?:=by simpa [Addr.add] using this
   rw[List.getElem?_eq_getElem (by omega)]at h0;simpa using World.cell?_spot h0
  subst hspot;refine⟨b,off,rfl,fun i y hy=>?_⟩
  have hi:i<len:=by
   have:=(List.getElem?_eq_some_iff.1 hy).1
   simpa using this
  have hyf:y=f i:=by
   rw[List.getElem?_map,List.getElem?_range hi]at hy;exact(Option.some.inj hy).symm
  subst hyf;obtain⟨cs',h1,h2,h3⟩:=hf i hi;obtain⟨_,_,hcell⟩:=World.cells?_some h1;refine⟨cs',h3,h2,fun j u hu=>?_⟩
  have hj:j<e.sz:=by
   have:=(List.getElem?_eq_some_iff.1 hu).1
   omega
  have hcj:=hcell j hj;rw[Deep.add_add,hu]at hcj
  have hca:w.cell? ⟨b,off+i*e.sz+j,none⟩=some u:=by
   have:(⟨b,off,none⟩:Addr).add (i*e.sz+j)=⟨b,off+i*e.sz+j,none⟩:=by
    unfold Addr.add
    by_cases h0:i*e.sz+j=0
    ·rw[if_pos h0];congr 1;omega
    ·rw[if_neg h0];congr 1;dsimp only;omega
   rwa [this]at hcj
  exact⟨Yis hca,hca⟩
theorem Zj5 {t:TypeId}{f0 f1 f2 f3 f4:Field}(ht:P.underlying t=some (.struct #[f0,f1,f2,f3,f4]))(hc:P.cellsOf t=5)(o0:f0.offset=0)(o1:f1.offset=1)(o2:f2.offset=2)(o3:f3.offset=3)(o4:f4.offset=4)
  (c0:P.cellsOf f0.type=1) (c1:P.cellsOf f1.type=1) (c2:P.cellsOf f2.type=1) (c3:P.cellsOf f3.type=1) (c4:P.cellsOf f4.type=1)
  {e0 e1 e2:TypeId} (t0:P.underlying f0.type=some (.slice e0)) (t1:P.underlying f1.type=some (.slice e1)) (t2:P.underlying f2.type=some (.slice e2)) (t3:P.underlying f3.type=some (.int .i64)) (t4:P.underlying f4.type=some (.int .i64))
  (k0:P.cellsOf e0=4) (k1:P.cellsOf e1=1) (k2:P.cellsOf e2=4) (r0:Yr6 enc P w sp hd e0 .sec) (r1:Yr6 enc P w sp hd e1 .int) (r2:Yr6 enc P w sp hd e2 .sv)
  {fuel:Nat} {cs:List Value} {x:DataW H×List MemPlace} (h:DataW.trod enc P w 0 sp hd fuel t cs=some x) :
  ∃ b:Book,All2 (RelC (Old w) w) [.z .sec b.secs,.z .int b.turns,.z .sv b.svs,.int .i64 b.rule,.int .i64 b.days] cs/\b.secs.length<=maxLen/\b.turns.length<=maxLen/\b.svs.length<=maxLen:=by
 obtain⟨xs,k,_,_,hl,hx,hf⟩:=DataW.trod_struct ht h;rw[hc]at hl
 match xs,hx,cs,hl with
 | [y0,y1,y2,y3,y4],_,[v0,v1,v2,v3,v4],_ =>
  have g0:=hf 0 f0 rfl;have g1:=hf 1 f1 rfl;have g2:=hf 2 f2 rfl;have g3:=hf 3 f3 rfl;have g4:=hf 4 f4 rfl;simp[o0,o1,o2,o3,o4,c0,c1,c2,c3,c4]at g0 g1 g2 g3 g4;obtain⟨w0,a,ha,sa,la⟩:=Ygc (e:=.sec) t0 k0 r0 g0;obtain⟨w1,b,hb,sb,lb⟩:=Ygc (e:=.int) t1 k1 r1 g1;obtain⟨w2,c,hc,sc,lc⟩:=Ygc (e:=.sv) t2 k2 r2 g2;obtain⟨d,hd⟩:=Yc8 t3 g3;obtain⟨e,he⟩:=Yc8 t4 g4;simp only[List.cons.injEq,and_true]at ha hb hc hd he
  subst ha hb hc hd he;exact⟨⟨a,b,c,d,e⟩,⟨sa,sb,sc,rfl,rfl,trivial⟩,la,lb,lc⟩
end
end Go.Di
