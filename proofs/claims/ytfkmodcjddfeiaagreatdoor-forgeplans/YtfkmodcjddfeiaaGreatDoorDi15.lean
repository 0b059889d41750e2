/- Part 15: contracts are proved. No condition. -/
import Derived.Test.YtfkmodcjddfeiaaGreatDoorDi14
set_option linter.unusedVariables false
set_option linter.unusedSimpArgs false
namespace Go.Di
open Proofs
theorem LF.each {n id:Nat}{b c:Code}(hb:b=.block id (.loop c))(N:Nat)(S:Nat->KV){e:Ex}{L':KV}
  (on:∀ i,i<N->∃ dec orc lorc ks ps L1,runK (MF n) dec orc lorc c (S i) ks=some (ps,.normal,L1)/\allP ps/\L1=S (i+1))
  (fin:∃ dec orc lorc ks ps e1 L1,runK (MF n) dec orc lorc c (S N) ks=some (ps,e1,L1)/\allP ps/\(e1=.exit id/\e=.normal\/e1=.ret/\e=.ret)/\L1=L'):LF n b (S 0) e L':=by
 refine LoopT.count (tt:=Yac Ybl) hb N S (fun i hi=>?_) ?_
 ·obtain⟨dec,orc,lorc,ks,ps,L1,h1,h2,h3⟩:=on i hi;exact WpL.path (GF n) h1 h2 ⟨rfl,h3⟩
 ·obtain⟨dec,orc,lorc,ks,ps,e1,L1,h1,h2,h3,h4⟩:=fin;exact WpL.path (GF n) h1 h2 ⟨h3,h4⟩
theorem Yap {z:Int}(h1:-1000000000000<=z)(h2:z<=1000000000000):Yae z:=by simp only[Yae];omega
theorem Yat {i n:Nat}(h:i<n):decide ((i:Int)<(n:Int))=true:=decide_eq_true (by omega)
theorem Yay {n:Nat}:decide ((n:Int)<(n:Int))=false:=decide_eq_false (by omega)
theorem Ybw {α:Type}{l:List α}{i:Nat}(d:α)(h:i<l.length):l.getD i d∈l:=by
 rw[List.getD_eq_getElem?_getD,List.getElem?_eq_getElem h];exact List.getElem_mem h
theorem Yd4 (n lo hi:Int):CF 47 [.I n,.I lo,.I hi] (.bool (Yad n lo hi)):=by
 unfold Yad
 cases h:decide (lo<=n) with
 | false=>exact Yaa (GF 15) Yt3 (Zl7 n lo hi) (by repeat(first|exact trivial|refine⟨by first|assumption|omega|rfl,?_⟩))
 | true=>exact Yaa (GF 15) Yt3 (Zd8 n lo hi) (by repeat(first|exact trivial|refine⟨by first|assumption|omega|rfl,?_⟩))
theorem Yf2:CF 101 [] (wD 0 0 0 0):=Yaa (GF 3) Zul Zmi (by repeat(first|exact trivial|refine⟨by omega,?_⟩))
theorem Yjx (a b:Work)(h1:Yae (a.d-b.d))(h2:Yae (a.s-b.s)):CF 82 [wkD a,wkD b] (.I (Ya7 a b)):=by
 unfold Ya7
 by_cases h:a.d=b.d
 ·rw[if_pos h];have hb:(a.d != b.d)=false:=by simp[h]
  exact Yaa (GF 20) Yrl (Zeq a b) (by repeat(first|exact trivial|refine⟨by first|exact hb|exact h2|omega,?_⟩))
 ·rw[if_neg h];have hb:(a.d != b.d)=true:=by simp[h]
  exact Yaa (GF 20) Yrl (Zep a b) (by repeat(first|exact trivial|refine⟨by first|exact hb|exact h1|omega,?_⟩))
structure FIn (x:FBook):Prop where
 n:1<=x.feet.length/\x.feet.length<=4
 days:0<=x.chain.days/\x.chain.days<=900
 turns:x.chain.turns.length<=1000
 feet:∀ n∈x.feet,1<=n/\n<=1000
 new:0<=x.new/\x.new<=1000
 opnl:x.opn.length<=5
 opn:∀ d∈x.opn,0<=d/\d<=900
 stock:0<=x.stock/\x.stock<=1000
 make:0<=x.make/\x.make<=1000
structure KnOk (x:FBook) (th:LL) (wr:LI):Prop where
 wl:wr.length=x.feet.length
 w:∀ n∈wr,0<=n/\n<=1000
 tl:th.length=x.feet.length
 row:∀ l∈th,l.length=(x.chain.days+1).toNat
 t:∀ l∈th,∀ n∈l,-1000000<=n/\n<=1000000
structure WorkOk (x:FBook) (w:Work):Prop where
 s:0<=w.s/\w.s<x.feet.length
 d:0<=w.d/\w.d<=900
def PlanOk (x:FBook)(plan:List Work):Prop:=plan.length<=1000/\∀ w∈plan,WorkOk x w
theorem Yrd {x:FBook}{s:Int}(d:Int)(hs:0<=s/\s<x.feet.length):0<=Yhf x s d/\Yhf x s d<x.feet.length:=Yjg hs
theorem Zmg {x:FBook}(hx:FIn x)(m:Mp)(th:LL)(wr:LI)(s d:Int)(hs:0<=s/\s<x.feet.length):CF 175 [fbkD x m th wr,.I s,.I d] (.I (Yhf x s d)):=by
 have ht:=hx.turns;have hn:=hx.n;refine Yaa (GF 30) Zuj (Zmh x m th wr s d (Yhf x s d) x.chain.turns.length) ⟨?_,trivial⟩;refine LF.each (id:=0) (c:=Ztm [1,0,1,0,0]) (by kernel_rfl) x.chain.turns.length (fun i=>Ydo x m th wr s d (Yb7 x.feet.length (x.chain.turns.take i) d s) i) (fun i hi=>?_) ⟨_,_,_,_,_,_,_,Yzm x m th wr s d _ _,⟨Yay,trivial⟩,.inl ⟨rfl,rfl⟩,by rw[List.take_length];rfl⟩;have hin:=Yjg (turns:=x.chain.turns.take i) (day:=d) hs
 have hf:=Ybm (fun s t=>if t<=d then(x.feet.length:Int)-1-s else s) x.chain.turns s i 0 hi
 by_cases hd:x.chain.turns.getD i 0<=d
 ·rw[if_pos hd]at hf;exact⟨_,_,_,_,_,_,Yzl x m th wr s d _ i,⟨Yat hi,⟨by omega,by omega⟩,by omega,decide_eq_true hd,Yap (by omega) (by omega),Yap (by omega) (by omega),Yap (by omega) (by omega),trivial⟩,by unfold Yb7;rw[hf]⟩
 ·rw[if_neg hd]at hf;exact⟨_,_,_,_,_,_,Zef x m th wr s d _ i,⟨Yat hi,⟨by omega,by omega⟩,by omega,decide_eq_false hd,Yap (by omega) (by omega),trivial⟩,by unfold Yb7;rw[hf]⟩
theorem Xa5 {x:FBook}{th:LL}{wr:LI}(hk:KnOk x th wr)(m:Mp)(s c d:Int)(hs:0<=s/\s<x.feet.length)(hd:0<=d/\d<=x.chain.days):CF 173 [fbkD x m th wr,.I s,.I c,.I d] (.I (oldF th s d)):=by
 have h1:=hk.tl;have h2:=hk.row _ (Ybw (i:=s.toNat) [] (show s.toNat<th.length by omega));exact Yaa (GF 17) Xfy (Xa6 x m th wr s c d) ⟨by omega,⟨hd.1,by show d<((th.getD s.toNat []).length:Int);omega⟩,by omega,trivial⟩
theorem Yjw {x:FBook}{th:LL}{wr:LI}(hx:FIn x)(hk:KnOk x th wr){s:Int}(hs:0<=s/\s<x.feet.length)(c:Int):∀ k:Nat,-(1000*k:Int)<=Yfm x wr s c k/\Yfm x wr s c k<=1000
 | 0=>by
  have:=hx.new
  simp only[Yfm];omega
 | k+1=>by
  have ih:=Yjw hx hk hs c k;have hp:=Yrd (c+k) hs;have hw:=hk.w _ (Ybw (i:=(Yhf x s (c+k)).toNat) 0 (by rw[hk.wl];omega));simp only[Yfm];omega
theorem Zmn {x:FBook}{th:LL}{wr:LI}(hx:FIn x)(hk:KnOk x th wr)(m:Mp)(s c d:Int)(hs:0<=s/\s<x.feet.length)(hc:0<=c/\c<=d)(hd:d<=900):CF 174 [fbkD x m th wr,.I s,.I c,.I d] (.I (Yfm x wr s c (d-c).toNat)):=by
 refine Yaa (GF 34) Zuv (Zmo x m th wr s c d (Yfm x wr s c (d-c).toNat) (d-c).toNat) ⟨Yap (by omega) (by omega),?_,trivial⟩;refine LF.each (id:=0) (c:=Xab [1,1,0,1,0,0]) (by kernel_rfl) (d-c).toNat (fun i=>Yfg x m th wr s c d (Yfm x wr s c i) i) (fun i hi=>?_) ⟨_,_,_,_,_,_,_,Yzx x m th wr s c d _ _,⟨decide_eq_false (by omega),trivial⟩,.inl ⟨rfl,rfl⟩,rfl⟩;have h0:=Yjw hx hk hs c i;have h1:=Yjw hx hk hs c (i+1)
 have hp:=Yrd (c+i) hs;have hl:=hk.wl;exact⟨_,_,_,_,_,_,Zej x m th wr s c d _ i (Yhf x s (c+i)),⟨decide_eq_true (by omega),Yap (by omega) (by omega),Zmg hx m th wr s _ hs,⟨hp.1,by omega⟩,by omega,by simp only[Yfm]at h1;exact Yap (by omega) (by omega),Yap (by omega) (by omega),trivial⟩,rfl⟩
theorem Zhn {plan:List Work}{s d:Int}:∀(p:Int×Int),(p=(0,0)\/p.1=1/\p.2<=d/\∃ w∈plan,w.d=p.2)->∀ l:List Work,(∀ w∈l,w∈plan)->(l.foldl (Ycf s d) p=(0,0)\/(l.foldl (Ycf s d) p).1=1/\(l.foldl (Ycf s d) p).2<=d/\∃ w∈plan,w.d=(l.foldl (Ycf s d) p).2)
 | p,hp,[],_=>hp
 | p,hp,w::l,hl=>by
  refine Zhn (Ycf s d p w) ?_ l (fun u hu=>hl u (by simp[hu]));unfold Ycf
  by_cases h:w.s=s/\w.d<=d
  ·rw[if_pos h];exact .inr ⟨rfl,h.2,w,hl w (by simp),rfl⟩
  ·rw[if_neg h];exact hp
theorem Ytx (plan:List Work)(s d:Int):Yhs plan s d=(0,0)\/(Yhs plan s d).1=1/\(Yhs plan s d).2<=d/\∃ w∈plan,w.d=(Yhs plan s d).2:=Zhn (0,0) (.inl rfl) plan (fun _ h=>h)
theorem Yn5 {x:FBook}{th:LL}{wr:LI}(hx:FIn x)(hk:KnOk x th wr)(m:Mp){plan:List Work}(hp:PlanOk x plan)(s d:Int)(hs:0<=s/\s<x.feet.length)(hd:0<=d/\d<=x.chain.days) :
  CF 48 [fbkD x m th wr,.z .work plan,.I s,.I d] (.I (Ydc x th wr plan s d)):=by
 have hdd:=hx.days;have hpl:=hp.1
 have hloop:LF 40 (k_48 [1,1,0,1]) (Yb5 x m th wr plan s d 0 0 0) .normal (Yb5 x m th wr plan s d (Yhs plan s d).1 (Yhs plan s d).2 plan.length):=by
  refine LF.each (id:=0) (c:=k_48 [1,1,0,1,0,0]) (by kernel_rfl) plan.length (fun i=>Yb5 x m th wr plan s d ((plan.take i).foldl (Ycf s d) (0,0)).1 ((plan.take i).foldl (Ycf s d) (0,0)).2 i) (fun i hi=>?_) ⟨_,_,_,_,_,_,_,Yzv x m th wr plan s d _ _ _,⟨Yay,trivial⟩,.inl ⟨rfl,rfl⟩,by rw[List.take_length];rfl⟩;have hf:=Ybm (Ycf s d) plan (0,0) i Yam hi
  by_cases h1:(plan.getD i Yam).s=s
  ·have h1':((plan.getD i Yam).s==s)=true:=beq_iff_eq.2 h1
   by_cases h2:(plan.getD i Yam).d<=d
   ·have h2':decide ((plan.getD i Yam).d<=d)=true:=decide_eq_true h2;refine⟨_,_,_,_,_,_,Yzs x m th wr plan s d _ _ i,?_,?_⟩
    ·repeat(first|exact trivial|refine⟨by first|exact h1'|exact h2'|exact Yat hi|omega|exact Yap (by omega) (by omega),?_⟩)
    ·rw[hf,show Ycf s d _ _=(1,(plan.getD i Yam).d) from if_pos ⟨h1,h2⟩]
   ·have h2':decide ((plan.getD i Yam).d<=d)=false:=decide_eq_false h2;refine⟨_,_,_,_,_,_,Yzt x m th wr plan s d _ _ i,?_,?_⟩
    ·repeat(first|exact trivial|refine⟨by first|exact h1'|exact h2'|exact Yat hi|omega|exact Yap (by omega) (by omega),?_⟩)
    ·rw[hf];unfold Ycf;rw[if_neg (fun h=>h2 h.2)]
  ·have h1':((plan.getD i Yam).s==s)=false:=beq_eq_false_iff_ne.2 h1;refine⟨_,_,_,_,_,_,Yzu x m th wr plan s d _ _ i,?_,?_⟩
   ·repeat(first|exact trivial|refine⟨by first|exact h1'|exact Yat hi|omega|exact Yap (by omega) (by omega),?_⟩)
   ·rw[hf];unfold Ycf;rw[if_neg (fun h=>h1 h.1)]
 unfold Ydc;rcases Ytx plan s d with h|⟨h1,h2,w,hw,h3⟩
 ·rw[h]at hloop ⊢;rw[if_pos rfl];exact Yaa (GF 40) Yzr (Zmk x m th wr plan s d (oldF th s d) 0 plan.length) ⟨hloop,by omega,Xa5 hk m s 0 d hs hd,trivial⟩
 ·have hwd:=(hp.2 w hw).d;rw[h1]at hloop;rw[if_neg (by omega)];exact Yaa (GF 40) Yzr (Zml x m th wr plan s d (Yfm x wr s (Yhs plan s d).2 (d-(Yhs plan s d).2).toNat) (Yhs plan s d).2 plan.length) ⟨hloop,by omega,Zmn hx hk m s _ d hs ⟨by omega,h2⟩ (by omega),trivial⟩
end Go.Di
namespace Go.Di
open Proofs
theorem Zf6 {xs:LI}(h:∀ n∈xs,0<=n/\n<=1000)(z:Int)(hz:0<=z):0<=xs.foldl (·+·) z/\z<=xs.foldl (·+·) z/\xs.foldl (·+·) z<=z+1000*xs.length:=by
 induction xs generalizing z with
 | nil=>simp;omega
 | cons y l ih =>
  have hy:=h y (by simp)
  have:=ih (fun n hn=>h n (by simp[hn])) (z+y) (by omega)
  simp only[List.foldl_cons,List.length_cons];omega
theorem Xa0 {xs:LI}(h:∀ n∈xs,0<=n/\n<=1000)(hl:xs.length<=100000):CF 93 [.z .int xs] (.I (sumF xs)):=by
 refine Yaa (GF 17) Xfw (Xa1 xs (sumF xs) xs.length) ⟨?_,trivial⟩;refine LF.each (id:=0) (c:=k_93 [1,1,0,1,0,0]) (by kernel_rfl) xs.length (fun i=>Yju xs (sumF (xs.take i)) i) (fun i hi=>?_) ⟨_,_,_,_,_,_,_,Zmd xs _ _,⟨Yay,trivial⟩,.inl ⟨rfl,rfl⟩,by rw[List.take_length]⟩;have hf:=Ybm (fun(a b:Int)=>a+b) xs 0 i 0 hi;have h1:=Zf6 (xs:=xs.take i) (fun n hn=>h n (List.mem_of_mem_take hn)) 0 (by omega);have h2:=h _ (Ybw 0 hi)
 rw[List.length_take]at h1;have h3:(((min i xs.length:Nat)):Int)<=100000:=by omega
 exact⟨_,_,_,_,_,_,Zuf xs _ i,⟨Yat hi,⟨by omega,by omega⟩,by omega,by unfold sumF;exact Yap (by omega) (by omega),Yap (by omega) (by omega),trivial⟩,by unfold sumF;rw[hf]⟩
theorem Zhr {x:FBook}(hx:FIn x){plan:List Work}(hp:∀ w∈plan,WorkOk x w):∀ n∈Yd7 x plan,1<=n/\n<=1000:=by
 intro n hn;obtain⟨w,hw,rfl⟩:=List.mem_map.1 hn
 have:=(hp w hw).s
 exact hx.feet _ (Ybw 0 (by omega))
theorem Zuy {x:FBook}(hx:FIn x){plan:List Work}(hp:PlanOk x plan):0<=Ybf x plan/\Ybf x plan<=1000000:=by
 have:=Zf6 (xs:=Yd7 x plan) (fun n hn=>by have:=Zhr hx hp.2 n hn;omega) 0 (by omega)
 have hl:=hp.1;unfold Yd7 at this;rw[List.length_map]at this;unfold Ybf sumF Yd7;omega
def Xir (x:FBook)(m:Mp)(th:LL)(wr:LI)(plan:List Work)(i:Nat):LI->KV
 | []=>Yfu x m th wr plan i
 | y::r=>Ygy x m th wr plan y r i
theorem Ykn {x:FBook}(hx:FIn x)(m:Mp)(th:LL)(wr:LI){plan:List Work}(hp:PlanOk x plan):CF 65 [fbkD x m th wr,.z .work plan] (.I (Ybf x plan)):=by
 have hpl:=hp.1
 have hloop:LF 27 (k_65 [1,1,0,1]) (Yfu x m th wr plan 0) .normal (Xir x m th wr plan plan.length (Yd7 x plan)):=by
  refine LF.each (id:=0) (c:=k_65 [1,1,0,1,0,0]) (by kernel_rfl) plan.length (fun i=>Xir x m th wr plan i (Yd7 x (plan.take i))) (fun i hi=>?_) ?_
  ·have hs:=(hp.2 _ (Ybw Yam hi)).s;have hlen:(Yd7 x (plan.take i)).length<=1000:=by unfold Yd7;rw[List.length_map,List.length_take];omega
   have hn:Yd7 x (plan.take (i+1))=Yd7 x (plan.take i)++[x.feet.getD (plan.getD i Yam).s.toNat 0]:=by
    unfold Yd7;rw[List.take_add_one,List.map_append,List.getElem?_eq_getElem hi,List.getD_eq_getElem?_getD (l:=plan),List.getElem?_eq_getElem hi];rfl
   simp only[hn]
   cases hl:Yd7 x (plan.take i) with
   | nil=>exact⟨_,_,_,_,_,_,Zmz x m th wr plan i,⟨Yat hi,⟨by omega,by omega⟩,by omega,by omega,hs,by omega,by omega,Yap (by omega) (by omega),trivial⟩,rfl⟩
   | cons y r =>
    rw[hl]at hlen;exact⟨_,_,_,_,_,_,Zmw x m th wr plan y r i,⟨Yat hi,⟨by omega,by omega⟩,by omega,by omega,hs,by omega,rfl,by rw[List.length_append];simp only[List.length_cons,List.length_nil]at hlen ⊢;omega,Yap (by omega) (by omega),trivial⟩,rfl⟩
  ·rw[List.take_length]
   cases hl:Yd7 x plan with
   | nil=>exact⟨_,_,_,_,_,_,_,Zeo x m th wr plan _,⟨Yay,trivial⟩,.inl ⟨rfl,rfl⟩,rfl⟩
   | cons y r=>exact⟨_,_,_,_,_,_,_,Zen x m th wr plan y r _,⟨Yay,trivial⟩,.inl ⟨rfl,rfl⟩,rfl⟩
 have hsum:CF 93 [.z .int (Yd7 x plan)] (.I (Ybf x plan)):=Xa0 (fun n hn=>by have:=Zhr hx hp.2 n hn;omega) (by unfold Yd7;rw[List.length_map];omega)
 cases hl:Yd7 x plan with
 | nil =>
  rw[hl]at hloop hsum;exact Yaa (GF 27) Zhs (Zmy x m th wr plan _ plan.length) ⟨hloop,hsum,trivial⟩
 | cons y r =>
  rw[hl]at hloop hsum;exact Yaa (GF 27) Zhs (Zmx x m th wr plan _ plan.length y r) ⟨hloop,rfl,hsum,trivial⟩
theorem PlanOk.take {x:FBook}{plan:List Work}(h:PlanOk x plan)(k:Nat):PlanOk x (plan.take k) :=
 ⟨by have:=h.1;rw[List.length_take];omega,fun w hw=>h.2 w (List.mem_of_mem_take hw)⟩
theorem Xe8 {x:FBook}(hx:FIn x){d:Int}(hd:0<=d/\d<=900):0<=x.make*d/\x.make*d<=900000:=by
 have hm:=hx.make;refine⟨Int.mul_nonneg hm.1 hd.1,?_⟩
 calc x.make*d<=1000*d:=Int.mul_le_mul_of_nonneg_right hm.2 hd.1
  _<=900000:=by omega
theorem Yq1 {x:FBook}(hx:FIn x)(m:Mp)(th:LL)(wr:LI){plan:List Work}(hp:PlanOk x plan):CF 67 [fbkD x m th wr,.z .work plan] (.I (Ycc x plan)):=by
 have hpl:=hp.1;refine Yaa (GF 32) Zum (Zmj x m th wr plan (Ycc x plan) plan.length) ⟨?_,trivial⟩;refine LF.each (id:=0) (c:=k_67 [1,1,0,1,0,0]) (by kernel_rfl) plan.length (fun i=>Yff x m th wr plan (Yew x plan i) i) (fun i hi=>?_) ⟨_,_,_,_,_,_,_,Yzp x m th wr plan _ _,⟨Yay,trivial⟩,.inl ⟨rfl,rfl⟩,rfl⟩;have hf:=Zuy hx (hp.take (i+1));have hw:=(hp.2 _ (Ybw Yam hi)).d;have hm:=Xe8 hx hw;exact⟨_,_,_,_,_,_,Zeg x m th wr plan _ i (Ybf x (plan.take (i+1))),⟨Yat hi,⟨by omega,by omega⟩,by omega,Yap (by omega) (by omega),⟨by omega,by omega,by omega⟩,Ykn hx m th wr (hp.take (i+1)),by omega,Yap (by omega) (by omega),Yap (by omega) (by omega),Yap (by omega) (by omega),trivial⟩,rfl⟩
theorem Xau {x:FBook}(hx:FIn x)(m:Mp)(th:LL)(wr:LI){plan:List Work}(hp:PlanOk x plan):CF 95 [fbkD x m th wr,.z .work plan] (.bool (Yep x plan)) :=
 Yaa (GF 12) Xbb (Zuu x m th wr plan _) ⟨Yq1 hx m th wr hp,trivial⟩
def Yyl (m:List (K2×Bool))(plan:List Work)(i:Nat):Bool:=!badF m (if i=0 then ⟨-1,0⟩ else plan.getD (i-1) Yam) (plan.getD i Yam)
theorem Yzb (m:List (K2×Bool)):∀(l:List Work) (la:Work),Yin m la l=(List.range l.length).all fun i=>!badF m (if i=0 then la else l.getD (i-1) Yam) (l.getD i Yam)
 | [],_=>rfl
 | w::r,la=>by
  simp only[Yin,Yzb m r w,List.length_cons,List.range_succ_eq_map,List.all_cons,List.all_map]
  cases hb:badF m la w with
  | true=>simp[hb]
  | false =>
   simp only[hb,if_true,if_false,Bool.not_false,List.getD_cons_zero,Bool.true_and,Bool.false_eq_true];refine congrArg _ ?_;funext i
   cases i with
   | zero=>rfl
   | succ i=>simp
theorem Zl4 (m:List (K2×Bool))(plan:List Work):isPlanF m plan=(List.range plan.length).all (Yyl m plan):=Yzb m plan ⟨-1,0⟩
theorem Zaw (p:Nat->Bool)(n:Nat):((List.range n).all p=true/\∀ i<n,p i=true)\/((List.range n).all p=false/\∃ k<n,p k=false/\∀ i<k,p i=true):=by
 rcases Ycr (fun i=>!p i) n with ⟨k,h1,h2,h3⟩|h
 ·refine .inr ⟨?_,k,h1,by simpa using h2,fun i hi=>by simpa using h3 i hi⟩;rw[Bool.eq_false_iff];intro hh
  have:=List.all_eq_true.1 hh k (List.mem_range.2 h1)
  simp[this]at h2
 ·exact .inl ⟨List.all_eq_true.2 fun i hi=>by simpa using h i (List.mem_range.1 hi),fun i hi=>by simpa using h i hi⟩
theorem Zl2 (x:FBook)(m:List (K2×Bool))(th:LL)(wr:LI){plan:List Work}(hl:plan.length<=9223372036854775807)(hm:∀ w,Yjp m w=true->-1000000<=w.d/\w.d<=1000000/\-1000000<=w.s/\w.s<=1000000):CF 46 [fbkD x (.work m) th wr,.z .work plan] (.bool (isPlanF m plan)):=by
 obtain⟨la,hla⟩:∃ la:Nat->Work,∀ i,la i=if i=0 then ⟨-1,0⟩ else plan.getD (i-1) Yam:=⟨_,fun _=>rfl⟩
 have hcode:k_46 [1,1,0,1]=.block 0 (.loop (k_46 [1,1,0,1,0,0])):=by kernel_rfl
 have hat:∀ i,Yyl m plan i=!badF m (la i) (plan.getD i Yam):=fun i=>by rw[hla];rfl
 have hst:∀ {e:Ex} {L':KV},LF 33 (k_46 [1,1,0,1]) (Yb3 x m th wr plan (la 0) 0) e L'->LF 33 (k_46 [1,1,0,1]) (Yb3 x m th wr plan ⟨-1,0⟩ 0) e L':=by
  intro e L' h
  rwa [show la 0=⟨-1,0⟩ by rw[hla];rfl]at h
 have hon:∀ i,i<plan.length->Yyl m plan i=true->(∀ j<i,Yyl m plan j=true)->∃ dec orc lorc ks ps L1,runK (MF 33) dec orc lorc (k_46 [1,1,0,1,0,0]) (Yb3 x m th wr plan (la i) i) ks=some (ps,.normal,L1)/\allP ps/\L1=Yb3 x m th wr plan (la (i+1)) (i+1):=by
  intro i hi hp hbefore;have hnext:la (i+1)=plan.getD i Yam:=by rw[hla];rfl
  rw[hat]at hp;have hb:badF m (la i) (plan.getD i Yam)=false:=by simpa using hp
  unfold badF at hb;rw[Bool.or_eq_false_iff]at hb;obtain⟨hb1,hb2⟩:=hb;have h20:(!(Ybq m ((plan.getD i Yam).d,(plan.getD i Yam).s)).getD false)=false:=by simpa [Yjp] using hb1
  have hw:=hm (plan.getD i Yam) (by simpa using hb1);have hi64:Yae ((i:Int)+1):=by simp only[Yae];omega
  by_cases hz:(la i).d=-1/\(la i).s=0
  ·have h24:(!eqI [(la i).d,(la i).s] [-1,0])=false:=by rw[hz.1,hz.2];rfl
   refine⟨_,_,_,_,_,_,Ysc x m th wr plan (la i) i,?_,by rw[hnext]⟩
   repeat(first|exact trivial|refine⟨by first|exact h20|exact h24|exact Yat hi|omega|exact hi64,?_⟩)
  ·have h24:(!eqI [(la i).d,(la i).s] [-1,0])=true:=by
    cases he:eqI [(la i).d,(la i).s] [-1,0] with
    | false=>rfl
    | true =>
     have:=(Yn9 _ _).1 he
     simp only[List.cons.injEq,and_true]at this;exact absurd this hz
   rw[show decide ((la i).d=-1/\(la i).s=0)=false from decide_eq_false hz]at hb2;have h30:decide (Ya7 (la i) (plan.getD i Yam)>=0)=false:=by simpa using hb2
   have hla2:-1000000<=(la i).d/\(la i).d<=1000000/\-1000000<=(la i).s/\(la i).s<=1000000:=by
    cases i with
    | zero=>rw[hla]at hz;simp at hz
    | succ i =>
     have hq:=hbefore i (by omega);rw[hat]at hq;rw[hla];refine hm _ ?_
     have:badF m (la i) (plan.getD i Yam)=false:=by simpa using hq
     unfold badF at this;rw[Bool.or_eq_false_iff]at this;simpa using this.1
   have hc:=Yjx (la i) (plan.getD i Yam) (Yap (by omega) (by omega)) (Yap (by omega) (by omega));refine⟨_,_,_,_,_,_,Zd4 x m th wr plan (la i) i (Ya7 (la i) (plan.getD i Yam)),?_,by rw[hnext]⟩
   repeat(first|exact trivial|refine⟨by first|exact h20|exact h24|exact h30|exact hc|exact Yat hi|omega|exact hi64,?_⟩)
 rw[Zl4];rcases Zaw (Yyl m plan) plan.length with ⟨h1,h2⟩|⟨h1,k,hk,hpk,hbefore⟩
 ·rw[h1];refine Yaa (GF 33) Yq5 (Zl1 x m th wr plan (la plan.length) plan.length) ⟨by omega,?_,trivial⟩;exact hst (LF.each (id:=0) hcode plan.length (fun i=>Yb3 x m th wr plan (la i) i) (fun i hi=>hon i hi (h2 i hi) fun j hj=>h2 j (by omega)) ⟨_,_,_,_,_,_,_,Yzc x m th wr plan _ _,⟨Yay,trivial⟩,.inl ⟨rfl,rfl⟩,rfl⟩)
 ·rw[h1];have hb:badF m (la k) (plan.getD k Yam)=true:=by rw[hat]at hpk;simpa using hpk
  unfold badF at hb
  cases hw:Yjp m (plan.getD k Yam) with
  | false =>
   have h20:(!(Ybq m ((plan.getD k Yam).d,(plan.getD k Yam).s)).getD false)=true:=by simpa [Yjp] using hw
   refine Yaa (GF 33) Yq5 (Zd3 x m th wr plan (la k) k) ⟨by omega,?_,trivial⟩;refine hst (LF.each (id:=0) hcode k (fun i=>Yb3 x m th wr plan (la i) i) (fun i hi=>hon i (by omega) (hbefore i hi) fun j hj=>hbefore j (by omega)) ⟨_,_,_,_,_,_,_,Yvw x m th wr plan _ _,?_,.inr ⟨rfl,rfl⟩,rfl⟩)
   repeat(first|exact trivial|refine⟨by first|exact h20|exact Yat hk|omega,?_⟩)
  | true =>
   have h20:(!(Ybq m ((plan.getD k Yam).d,(plan.getD k Yam).s)).getD false)=false:=by simpa [Yjp] using hw
   rw[hw]at hb;simp only[Bool.not_true,Bool.false_or,Bool.and_eq_true,Bool.not_eq_true',decide_eq_false_iff_not]at hb;obtain⟨hz,h30⟩:=hb
   have h24:(!eqI [(la k).d,(la k).s] [-1,0])=true:=by
    cases he:eqI [(la k).d,(la k).s] [-1,0] with
    | false=>rfl
    | true =>
     have:=(Yn9 _ _).1 he
     simp only[List.cons.injEq,and_true]at this;exact absurd this hz
   have hw2:=hm _ hw
   have hla2:-1000000<=(la k).d/\(la k).d<=1000000/\-1000000<=(la k).s/\(la k).s<=1000000:=by
    cases k with
    | zero=>rw[hla]at hz;simp at hz
    | succ i =>
     have hq:=hbefore i (by omega);rw[hat]at hq;rw[hla];refine hm _ ?_
     have:badF m (la i) (plan.getD i Yam)=false:=by simpa using hq
     unfold badF at this;rw[Bool.or_eq_false_iff]at this;simpa using this.1
   have hc:=Yjx (la k) (plan.getD k Yam) (Yap (by omega) (by omega)) (Yap (by omega) (by omega));refine Yaa (GF 33) Yq5 (Zl3 x m th wr plan (la k) k (Ya7 (la k) (plan.getD k Yam))) ⟨by omega,?_,trivial⟩;refine hst (LF.each (id:=0) hcode k (fun i=>Yb3 x m th wr plan (la i) i) (fun i hi=>hon i (by omega) (hbefore i hi) fun j hj=>hbefore j (by omega)) ⟨_,_,_,_,_,_,_,Yzd x m th wr plan _ _ _,?_,.inr ⟨rfl,rfl⟩,rfl⟩)
   repeat(first|exact trivial|refine⟨by first|exact h20|exact h24|exact h30|exact hc|exact Yat hk|omega,?_⟩)
end Go.Di
namespace Go.Di
open Proofs
section
variable (x:FBook) (th:LL) (wr:LI) (plan:List Work)
theorem Zme (d:Nat):(Xa2 x th wr plan d=none/\∀ s<x.feet.length,Yln x th wr plan d s=false)\/∃ s,Xa2 x th wr plan d=some s/\s<x.feet.length/\Yln x th wr plan d s=true/\∀ s'<s,Yln x th wr plan d s'=false:=by
 unfold Xa2
 cases h:(List.range x.feet.length).find? (Yln x th wr plan d) with
 | none =>
  rw[List.find?_range_eq_none]at h;exact .inl ⟨rfl,fun s hs=>by simpa using h s hs⟩
 | some s =>
  rw[List.find?_range_eq_some]at h;exact .inr ⟨s,rfl,List.mem_range.1 h.2.1,h.1,fun s' hs'=>by simpa using h.2.2 s' hs'⟩
theorem Ymn:∀(k d:Nat),(Yjt x th wr plan k d=none/\∀ d',d<=d'->d'<d+k->∀ s<x.feet.length,Yln x th wr plan d' s=false) \/
  ∃ e s,Yjt x th wr plan k d=some (e,s)/\d<=e/\e<d+k/\s<x.feet.length/\Yln x th wr plan e s=true/\(∀ d',d<=d'->d'<e->∀ s'<x.feet.length,Yln x th wr plan d' s'=false)/\∀ s'<s,Yln x th wr plan e s'=false
 | 0,d=>.inl ⟨rfl,fun d' h1 h2=>by omega⟩
 | k+1,d=>by
  rcases Zme x th wr plan d with ⟨h1,h2⟩|⟨s,h1,h2,h3,h4⟩
  ·have he:Yjt x th wr plan (k+1) d=Yjt x th wr plan k (d+1):=by simp only[Yjt,h1]
   rw[he];rcases Ymn k (d+1) with ⟨g1,g2⟩|⟨e,s,g1,g2,g3,g4,g5,g6,g7⟩
   ·refine .inl ⟨g1,fun d' q1 q2 s hs=>?_⟩
    by_cases hd:d'=d
    ·rw[hd];exact h2 s hs
    ·exact g2 d' (by omega) (by omega) s hs
   ·refine .inr ⟨e,s,g1,by omega,by omega,g4,g5,fun d' q1 q2 s' hs'=>?_,g7⟩
    by_cases hd:d'=d
    ·rw[hd];exact h2 s' hs'
    ·exact g6 d' (by omega) q2 s' hs'
  ·exact .inr ⟨d,s,by simp only[Yjt,h1],by omega,by omega,h2,h3,fun d' q1 q2=>by omega,h4⟩
theorem Zd9:(Yra x th wr plan=none/\∀ d:Nat,(d:Int)<=x.chain.days->∀ s<x.feet.length,Yln x th wr plan d s=false) \/
  ∃ e s:Nat,Yra x th wr plan=some (e,s)/\(e:Int)<=x.chain.days/\s<x.feet.length/\Yln x th wr plan e s=true/\(∀ d'<e,∀ s'<x.feet.length,Yln x th wr plan d' s'=false)/\∀ s'<s,Yln x th wr plan e s'=false:=by
 rcases Ymn x th wr plan (x.chain.days+1).toNat 0 with ⟨h1,h2⟩|⟨e,s,h1,h2,h3,h4,h5,h6,h7⟩
 ·exact .inl ⟨h1,fun d hd=>h2 d (by omega) (by omega)⟩
 ·exact .inr ⟨e,s,h1,by omega,h4,h5,fun d' hd'=>h6 d' (by omega) hd',h7⟩
end
def Xin (o:Option (Nat×Nat)):D:=match o with
 | some (d,s)=>.tup [.int .i64 (d:Int),.int .i64 (s:Int),.bool true]
 | none=>.tup [.int .i64 0,.int .i64 0,.bool false]
theorem Zxe {x:FBook}{th:LL}{wr:LI}(hx:FIn x)(hk:KnOk x th wr)(m:Mp){plan:List Work}(hp:PlanOk x plan):CF 60 [fbkD x m th wr,.z .work plan] (Xin (Yra x th wr plan)):=by
 have hn:=hx.n;have hdd:=hx.days;have hcode:k_60 [1,0,1]=.block 0 (.loop (k_60 [1,0,1,0,0])):=by kernel_rfl
 have hcode2:k_60 [1,0,1,0,0,1,1,0,0,1,1]=.block 2 (.loop (k_60 [1,0,1,0,0,1,1,0,0,1,1,0,0])):=by kernel_rfl
 have hle:∀ d s:Nat,(d:Int)<=x.chain.days->s<x.feet.length->CF 48 [fbkD x m th wr,.z .work plan,.I (s:Int),.I (d:Int)] (.I (Ydc x th wr plan s d)):=fun d s hd hs=>Yn5 hx hk m hp s d ⟨by omega,by omega⟩ ⟨by omega,hd⟩
 have hin:∀(d:Nat),(d:Int)<=x.chain.days->∀ N≤x.feet.length,(∀ s<N,Yln x th wr plan d s=false)->∀ {e:Ex} {L':KV},
   (∃ dec orc lorc ks ps e1 L1,runK (MF 38) dec orc lorc (k_60 [1,0,1,0,0,1,1,0,0,1,1,0,0]) (Yds x m th wr plan d N) ks=some (ps,e1,L1)/\allP ps/\(e1=.exit 2/\e=.normal\/e1=.ret/\e=.ret)/\L1=L') ->
   LF 38 (k_60 [1,0,1,0,0,1,1,0,0,1,1]) (Yds x m th wr plan d 0) e L':=by
  intro d hd N hN hb e L' hfin;refine LF.each (id:=2) hcode2 N (fun j=>Yds x m th wr plan d j) (fun j hj=>?_) hfin;exact⟨_,_,_,_,_,_,Zmb x m th wr plan d j (Ydc x th wr plan j d),⟨Yat (by omega),hle d j hd (by omega),hb j hj,Yap (by omega) (by omega),trivial⟩,rfl⟩
 have hon:∀ d:Nat,(d:Int)<=x.chain.days->(∀ s<x.feet.length,Yln x th wr plan d s=false)->∃ dec orc lorc ks ps L1,runK (MF 38) dec orc lorc (k_60 [1,0,1,0,0]) (Ydk x m th wr plan d) ks=some (ps,.normal,L1)/\allP ps/\L1=Ydk x m th wr plan (d+1):=fun d hd hb =>
  ⟨_,_,_,_,_,_,Zmc x m th wr plan d x.feet.length,⟨decide_eq_true (by omega),hin d hd _ (Nat.le_refl _) hb ⟨_,_,_,_,_,_,_,Zeb x m th wr plan d _,⟨Yay,trivial⟩,.inl ⟨rfl,rfl⟩,rfl⟩,Yap (by omega) (by omega),trivial⟩,rfl⟩
 rcases Zd9 x th wr plan with ⟨h1,h2⟩|⟨d,s,h1,h2,h3,h4,h5,h6⟩
 ·rw[h1];refine Yaa (GF 38) Zhk (Zma x m th wr plan (x.chain.days+1).toNat) ⟨Yap (by omega) (by omega),?_,trivial⟩;exact LF.each (id:=0) hcode _ (fun d=>Ydk x m th wr plan d) (fun d hd=>hon d (by omega) (h2 d (by omega))) ⟨_,_,_,_,_,_,_,Zed x m th wr plan _,⟨decide_eq_false (by omega),trivial⟩,.inl ⟨rfl,rfl⟩,rfl⟩
 ·rw[h1];refine Yaa (GF 38) Zhk (Zue x m th wr plan d s (Ydc x th wr plan s d)) ⟨Yap (by omega) (by omega),?_,trivial⟩;refine LF.each (id:=0) hcode d (fun d=>Ydk x m th wr plan d) (fun d' hd'=>hon d' (by omega) (h5 d' hd')) ⟨_,_,_,_,_,_,_,Zec x m th wr plan d s _,⟨decide_eq_true (by omega),?_,trivial⟩,.inr ⟨rfl,rfl⟩,rfl⟩;exact hin d h2 s (by omega) h6 ⟨_,_,_,_,_,_,_,Zea x m th wr plan d s _,⟨Yat h3,hle d s h2 h3,h4,trivial⟩,.inr ⟨rfl,rfl⟩,rfl⟩
end Go.Di
