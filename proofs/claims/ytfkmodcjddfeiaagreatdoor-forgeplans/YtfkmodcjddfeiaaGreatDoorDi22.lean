/- Part 22: contracts are proved. No condition. -/
import Derived.Test.YtfkmodcjddfeiaaGreatDoorDi21
set_option linter.unusedVariables false
set_option linter.unusedSimpArgs false
namespace Go.Di
open Proofs
theorem LF.leaves {n id k:Nat}{b c:Code}(hk:k≠id)(hb:b=.block id (.loop c))(N:Nat)(S:Nat->KV){L':KV}
  (on:∀ i,i<N->∃ dec orc lorc ks ps L1,runK (MF n) dec orc lorc c (S i) ks=some (ps,.normal,L1)/\allP ps/\L1=S (i+1))
  (fin:∃ dec orc lorc ks ps L1,runK (MF n) dec orc lorc c (S N) ks=some (ps,.exit k,L1)/\allP ps/\L1=L'):LF n b (S 0) (.exit k) L':=by
 subst hb;refine LoopT.rounds (tt:=Yac Ybl) (S:=fun i:{i:Nat // i<=N}=>S i.1) (fun i=>N-i.1) ?_ ⟨0,Nat.zero_le _⟩
 rintro⟨i,hi⟩
 by_cases hlt:i<N
 ·obtain⟨dec,orc,lorc,ks,ps,L1,h1,h2,h3⟩:=on i hlt;exact WpL.path (GF n) h1 h2 ⟨⟨i+1,hlt⟩,h3,by dsimp only;omega⟩
 ·obtain rfl:i=N:=by omega
  obtain⟨dec,orc,lorc,ks,ps,L1,h1,h2,h3⟩:=fin;refine WpL.path (GF n) h1 h2 ?_;show if k=id then _ else _
  rw[if_neg hk];exact⟨rfl,h3⟩
def plS0 (x:FBook)(m:Mp)(th:LL)(wr:LI)(on:W4)(k:Nat):List Work->KV
 | []=>Ye3 x m th wr on k
 | y::r=>Ygw x m th wr on k y r
def plS2 (x:FBook)(m:Mp)(th:LL)(wr:LI)(on:W4)(k s:Nat)(d:Int):List Work->KV
 | []=>Ygx x m th wr on k s d
 | y::r=>Ydr x m th wr on k s d y r
theorem Ye2 (x:FBook)(on:W4)(k:Nat)(l:List Work):∀ s,(Yao x on k l s).length<=l.length+s
 | 0=>Nat.le_refl _
 | s+1=>by
  have:=Ye2 x on k l s
  simp only[Yao];split
  ·rw[List.length_append,List.length_singleton];omega
  ·omega
theorem Yed (x:FBook)(on:W4):∀ k,(Ya5 x on k).length<=k*x.feet.length
 | 0=>by simp[Ya5]
 | k+1=>by
  have h1:=Yed x on k;have h2:=Ye2 x on k (Ya5 x on k) x.feet.length;simp only[Ya5];rw[Nat.succ_mul];omega
theorem Zu1 (k:Nat):bitF 0 k=false:=by
 unfold bitF;rw[Int.zero_fdiv];rfl
theorem Xaw (s:Nat):W4.get ⟨0,0,0,0⟩ s=0:=by
 match s with
 | 0=>rfl
 | 1=>rfl
 | 2=>rfl
 | 3=>rfl
 | _+4=>rfl
theorem Yjf (x:FBook)(k:Nat)(l:List Work):∀ s,Yao x ⟨0,0,0,0⟩ k l s=l
 | 0=>rfl
 | s+1=>by simp only[Yao,Xaw,Zu1,Bool.false_eq_true,if_false];exact Yjf x k l s
theorem Yop (x:FBook):∀ k,Ya5 x ⟨0,0,0,0⟩ k=[]
 | 0=>rfl
 | k+1=>by simp only[Ya5,Yjf,Yop x k]
theorem Contract.weaken {f:FuncId}{args:List D}{e:E}{xs:List e.α}(h:CF f args (.sl true e xs)):CF f args (.z e xs) :=
 h.toRes fun R w v hr=>Zb6 hr
theorem Yqy {x:FBook}(hx:FIn x)(m:Mp)(th:LL)(wr:LI)(on:W4):CF 100 [fbkD x m th wr,Ynd on] (.z .work (Yax x on)):=by
 have hn:=hx.n;have ho:=hx.opnl
 cases hz:eqI [on.a,on.b,on.c,on.d] [0,0,0,0] with
 | true =>
  have h0:=(Yn9 _ _).1 hz;simp only[List.cons.injEq,and_true]at h0;have hon:on=⟨0,0,0,0⟩:=by cases on;simp only at h0;simp[h0]
  have he:Yax x on=[]:=by rw[hon];exact Yop x _
  rw[he];exact Contract.weaken (Yaa (GF 45) Yvg (Zk6 x m th wr on) ⟨by omega,Yf2,hz,trivial⟩)
 | false =>
  have hloop:LF 45 (Yhu [1,1,1,0,1]) (plS0 x m th wr on 0 (Ya5 x on 0)) .normal (plS0 x m th wr on x.opn.length (Yax x on)):=by
   refine LF.each (id:=0) (c:=Yhu [1,1,1,0,1,0,0]) (by kernel_rfl) x.opn.length (fun k=>plS0 x m th wr on k (Ya5 x on k)) (fun k hk=>?_) ?_
   ·have hlen:=Yed x on k;have hlen':(Ya5 x on k).length<=20:=Nat.le_trans hlen (Nat.le_trans (Nat.mul_le_mul (show k<=5 by omega) hn.2) (by decide))
    have hin:∀ l,l.length<=20->LF 45 (Yhu [1,1,1,0,1,0,0,1,1,0,0,1,1]) (plS2 x m th wr on k 0 (x.opn.getD k 0) l) .normal (plS2 x m th wr on k x.feet.length (x.opn.getD k 0) (Yao x on k l x.feet.length)):=by
     intro l hl;refine LF.each (id:=2) (c:=Yhu [1,1,1,0,1,0,0,1,1,0,0,1,1,0,0]) (by kernel_rfl) x.feet.length (fun s=>plS2 x m th wr on k s (x.opn.getD k 0) (Yao x on k l s)) (fun s hs=>?_) ?_
     ·have hl2:=Ye2 x on k l s;have hix:0+s*1=s:=by omega
      have hi1:0+s*1+1<=4:=by omega
      cases hb:bitF (on.get s) k with
      | true =>
       have hb':(IntKind.wrap .i64 ((BitVec.toNat (BitVec.ofInt 64 (Int.fdiv (List.getD [W4.a on,W4.b on,W4.c on,W4.d on] (0+s*1) (0:Int)) ((2:Int) ^ Min.min k 64))&&& BitVec.ofInt 64 (1:Int)):Nat):Int)==(1:Int))=true:=by rw[hix];exact hb
       have hn2:Yao x on k l (s+1)=Yao x on k l s++[⟨x.opn.getD k 0,(s:Int)⟩]:=by simp only[Yao,hb,if_true]
       simp only[hn2]
       cases he:Yao x on k l s with
       | nil=>exact⟨_,_,_,_,_,_,Zdh x m th wr on k s (x.opn.getD k 0),⟨Yat hs,⟨by omega,by omega⟩,hi1,by omega,hb',by omega,Yap (by omega) (by omega),trivial⟩,rfl⟩
       | cons y r =>
        rw[he]at hl2;exact⟨_,_,_,_,_,_,Zde x m th wr on k s (x.opn.getD k 0) y r,⟨Yat hs,⟨by omega,by omega⟩,hi1,by omega,hb',rfl,by rw[List.length_append,List.length_singleton];omega,Yap (by omega) (by omega),trivial⟩,rfl⟩
      | false =>
       have hb':(IntKind.wrap .i64 ((BitVec.toNat (BitVec.ofInt 64 (Int.fdiv (List.getD [W4.a on,W4.b on,W4.c on,W4.d on] (0+s*1) (0:Int)) ((2:Int) ^ Min.min k 64))&&& BitVec.ofInt 64 (1:Int)):Nat):Int)==(1:Int))=false:=by rw[hix];exact hb
       have hn2:Yao x on k l (s+1)=Yao x on k l s:=by simp only[Yao,hb,Bool.false_eq_true,if_false]
       simp only[hn2]
       cases he:Yao x on k l s with
       | nil=>exact⟨_,_,_,_,_,_,Zk9 x m th wr on k s (x.opn.getD k 0),⟨Yat hs,⟨by omega,by omega⟩,hi1,by omega,hb',Yap (by omega) (by omega),trivial⟩,rfl⟩
       | cons y r=>exact⟨_,_,_,_,_,_,Zk4 x m th wr on k s (x.opn.getD k 0) y r,⟨Yat hs,⟨by omega,by omega⟩,hi1,by omega,hb',Yap (by omega) (by omega),trivial⟩,rfl⟩
     ·cases Yao x on k l x.feet.length with
      | nil=>exact⟨_,_,_,_,_,_,_,Zdi x m th wr on k _ _,⟨Yay,trivial⟩,.inl ⟨rfl,rfl⟩,rfl⟩
      | cons y r=>exact⟨_,_,_,_,_,_,_,Zdf x m th wr on k _ _ y r,⟨Yay,trivial⟩,.inl ⟨rfl,rfl⟩,rfl⟩
    have hin:=hin _ hlen';have he:Ya5 x on (k+1)=Yao x on k (Ya5 x on k) x.feet.length:=rfl;simp only[he]
    cases h1:Ya5 x on k with
    | nil =>
     rw[h1]at hin
     cases h2:Yao x on k [] x.feet.length with
     | nil =>
      rw[h2]at hin;exact⟨_,_,_,_,_,_,Zla x m th wr on k x.feet.length,⟨Yat hk,⟨by omega,by omega⟩,by omega,hin,Yap (by omega) (by omega),trivial⟩,rfl⟩
     | cons y r =>
      rw[h2]at hin;exact⟨_,_,_,_,_,_,Zdj x m th wr on k x.feet.length y r,⟨Yat hk,⟨by omega,by omega⟩,by omega,hin,Yap (by omega) (by omega),trivial⟩,rfl⟩
    | cons y r =>
     rw[h1]at hin
     obtain⟨y',r',h2⟩:∃ y' r',Yao x on k (y::r) x.feet.length=y'::r':=by
      have hpre:∀ s,∃ z,Yao x on k (y::r) s=(y::r)++z:=by
       intro s
       induction s with
       | zero=>exact⟨[],by simp[Yao]⟩
       | succ s ih =>
        obtain⟨z,hz⟩:=ih;simp only[Yao,hz];split
        ·exact⟨z++[⟨x.opn.getD k 0,(s:Int)⟩],by rw[List.append_assoc]⟩
        ·exact⟨z,rfl⟩
      obtain⟨z,hz⟩:=hpre x.feet.length;exact⟨y,r++z,by rw[hz];rfl⟩
     rw[h2]at hin ⊢;exact⟨_,_,_,_,_,_,Zk5 x m th wr on k y r x.feet.length y' r',⟨Yat hk,⟨by omega,by omega⟩,by omega,hin,Yap (by omega) (by omega),trivial⟩,rfl⟩
   ·rw[show Yax x on=Ya5 x on x.opn.length from rfl]
    cases Ya5 x on x.opn.length with
    | nil=>exact⟨_,_,_,_,_,_,_,Zdk x m th wr on _,⟨Yay,trivial⟩,.inl ⟨rfl,rfl⟩,rfl⟩
    | cons y r=>exact⟨_,_,_,_,_,_,_,Zdg x m th wr on _ y r,⟨Yay,trivial⟩,.inl ⟨rfl,rfl⟩,rfl⟩
  cases hp:Yax x on with
  | nil =>
   rw[hp]at hloop;exact Contract.weaken (Yaa (GF 45) Yvg (Zk8 x m th wr on x.opn.length) ⟨by omega,Yf2,hz,hloop,trivial⟩)
  | cons y r =>
   rw[hp]at hloop;exact Yaa (GF 45) Yvg (Zk7 x m th wr on x.opn.length y r) ⟨by omega,Yf2,hz,hloop,rfl,trivial⟩
end Go.Di
namespace Go.Di
open Proofs
theorem Yky (x:FBook)(on:W4)(k:Nat)(l:List Work)(w:Work):∀ s,w∈Yao x on k l s↔w∈l\/∃ j,j<s/\bitF (on.get j) k=true/\w=⟨x.opn.getD k 0,(j:Int)⟩
 | 0=>by
  simp only[Yao];exact⟨.inl,fun h=>h.elim id fun⟨j,hj,_⟩=>by omega⟩
 | s+1=>by
  have ih:=Yky x on k l w s;simp only[Yao]
  cases hb:bitF (on.get s) k with
  | true =>
   simp only[if_true,List.mem_append,List.mem_singleton,ih]
   constructor
   ·rintro((h|⟨j,hj,h⟩)|h)
    ·exact .inl h
    ·exact .inr ⟨j,by omega,h⟩
    ·exact .inr ⟨s,by omega,hb,h⟩
   ·rintro(h|⟨j,hj,h1,h2⟩)
    ·exact .inl (.inl h)
    ·by_cases hjs:j=s
     ·subst hjs;exact .inr h2
     ·exact .inl (.inr ⟨j,by omega,h1,h2⟩)
  | false =>
   simp only[Bool.false_eq_true,if_false,ih];refine or_congr_right ⟨fun⟨j,hj,h⟩=>⟨j,by omega,h⟩,fun⟨j,hj,h1,h2⟩=>?_⟩
   by_cases hjs:j=s
   ·subst hjs;rw[hb]at h1;cases h1
   ·exact⟨j,by omega,h1,h2⟩
theorem Yl5 (x:FBook)(on:W4)(w:Work):∀ n,w∈Ya5 x on n↔∃ k j,k<n/\j<x.feet.length/\bitF (on.get j) k=true/\w=⟨x.opn.getD k 0,(j:Int)⟩
 | 0=>by
  simp only[Ya5];exact⟨fun h=>(by cases h),fun⟨k,_,hk,_⟩=>by omega⟩
 | n+1=>by
  simp only[Ya5,Yky,Yl5 x on w n]
  constructor
  ·rintro(⟨k,j,h1,h2⟩|⟨j,h1,h2⟩)
   ·exact⟨k,j,by omega,h2⟩
   ·exact⟨n,j,by omega,h1,h2⟩
  ·rintro⟨k,j,h1,h2,h3⟩
   by_cases hk:k=n
   ·subst hk;exact .inr ⟨j,h2,h3⟩
   ·exact .inl ⟨k,j,by omega,h2,h3⟩
theorem Yqx {x:FBook}{on:W4}{w:Work}:w∈Yax x on↔∃ k j,k<x.opn.length/\j<x.feet.length/\bitF (on.get j) k=true/\w=⟨x.opn.getD k 0,(j:Int)⟩:=Yl5 x on w _
theorem Ynw {x:FBook}(hx:FIn x)(on:W4):PlanOk x (Yax x on):=by
 have hn:=hx.n;have hl:=Yed x on x.opn.length;refine⟨Nat.le_trans hl (Nat.le_trans (Nat.mul_le_mul hx.opnl hn.2) (by decide)),fun w hw=>?_⟩;obtain⟨k,j,hk,hj,_,rfl⟩:=Yqx.1 hw;exact⟨⟨by show(0:Int)<=(j:Int);omega,by show(j:Int)<_;omega⟩,hx.opn _ (Ybw 0 hk)⟩
theorem Yy6 (x:FBook)(m:Mp)(th:LL)(wr:LI)(s:Nat)(hs:s<4)(set:Int):LF 36 (Ylj [1,1,0]) (Ymh x m th wr s set) .normal (Yee x m th wr s set):=by
 have h4:s=0\/s=1\/s=2\/s=3:=by omega
 rcases h4 with rfl|rfl|rfl|rfl
 ·exact Yjo (Zz9 x m th wr set) ⟨by omega,trivial⟩ rfl
 ·exact Yjo (Zz8 x m th wr set) ⟨by omega,trivial⟩ rfl
 ·exact Yjo (Zz7 x m th wr set) ⟨by omega,trivial⟩ rfl
 ·exact Yjo (Zz6 x m th wr set) ⟨by omega,trivial⟩ rfl
theorem Ztl {x:FBook}{th:LL}{wr:LI}(hx:FIn x)(hk:KnOk x th wr)(m:Mp){s:Nat}(hs:s<x.feet.length)(set:Int):CF 124 [fbkD x m th wr,.I (s:Int),.I set] (.bool (Ydd x th wr s set)):=by
 have hn:=hx.n;have hd:=hx.days;have hreg:=Yy6 x m th wr s (by omega) set;have hp:=Yqy hx m th wr (zeroW.set s set);have hle:∀ d:Nat,(d:Int)<=x.chain.days->CF 48 [fbkD x m th wr,.z .work (Yax x (zeroW.set s set)),.I (s:Int),.I (d:Int)] (.I (Ydc x th wr (Yax x (zeroW.set s set)) s d)):=fun d hdd=>Yn5 hx hk m (Ynw hx _) s d ⟨by omega,by omega⟩ ⟨by omega,hdd⟩;have hcode:Ylj [1,1,1,1,0,1]=.block 0 (.loop (Ylj [1,1,1,1,0,1,0,0])):=by kernel_rfl
 have hon:∀ d:Nat,(d:Int)<=x.chain.days->(!(decide (Ydc x th wr (Yax x (zeroW.set s set)) s d<x.chain.rule)))=true->∃ dec orc lorc ks ps L1,runK (MF 36) dec orc lorc (Ylj [1,1,1,1,0,1,0,0]) (Ydi x m th wr s set (Yax x (zeroW.set s set)) d) ks=some (ps,.normal,L1)/\allP ps/\L1=Ydi x m th wr s set (Yax x (zeroW.set s set)) (d+1):=fun d hdd hb =>
  ⟨_,_,_,_,_,_,Zlq x m th wr s set _ d _,⟨decide_eq_true (by omega),hle d hdd,by simpa using hb,Yap (by omega) (by omega),trivial⟩,rfl⟩
 unfold Ydd;rcases Zaw (fun d=>!(decide (Ydc x th wr (Yax x (zeroW.set s set)) s d<x.chain.rule))) (x.chain.days+1).toNat with ⟨h1,h2⟩|⟨h1,k,hk,hpk,hb⟩
 ·rw[h1];refine Yaa (GF 36) Zhb (Ztk x m th wr s set _ (x.chain.days+1).toNat) ⟨Yf2,hreg,by omega,hp,Yap (by omega) (by omega),?_,trivial⟩;exact LF.each (id:=0) hcode _ (fun d=>Ydi x m th wr s set (Yax x (zeroW.set s set)) d) (fun d hdd=>hon d (by omega) (h2 d hdd)) ⟨_,_,_,_,_,_,_,Zd1 x m th wr s set _ _,⟨decide_eq_false (by omega),trivial⟩,.inl ⟨rfl,rfl⟩,rfl⟩
 ·rw[h1];refine Yaa (GF 36) Zhb (Xaa x m th wr s set _ k (Ydc x th wr (Yax x (zeroW.set s set)) s k)) ⟨Yf2,hreg,by omega,hp,Yap (by omega) (by omega),?_,trivial⟩;exact LF.each (id:=0) hcode k (fun d=>Ydi x m th wr s set (Yax x (zeroW.set s set)) d) (fun d hdd=>hon d (by omega) (hb d hdd)) ⟨_,_,_,_,_,_,_,Zd0 x m th wr s set _ k _,⟨decide_eq_true (by omega),hle k (by omega),by simpa using hpk,trivial⟩,.inr ⟨rfl,rfl⟩,rfl⟩
theorem Zgs {n:Nat}(h:n<=5):(1:Int)*(2:Int) ^ Min.min (Int.toNat (n:Int)) 64=((2 ^ n:Nat):Int):=by
 have h5:n=0\/n=1\/n=2\/n=3\/n=4\/n=5:=by omega
 rcases h5 with rfl|rfl|rfl|rfl|rfl|rfl<;>rfl
theorem Yyj {n:Nat}(h:n<=5):2 ^ n<=32:=Nat.pow_le_pow_right (by decide) h
def chS (x:FBook)(m:Mp)(th:LL)(wr:LI)(s i:Nat):LI->KV
 | []=>Yk6 x m th wr s i
 | y::r=>Yix x m th wr s i y r
theorem Yfv (x:FBook)(th:LL)(wr:LI)(s:Nat):∀ k,(Ya0 x th wr s k).length<=k
 | 0=>Nat.le_refl _
 | k+1=>by
  have:=Yfv x th wr s k
  simp only[Ya0];split
  ·omega
  ·split
   ·rw[List.length_append,List.length_singleton];omega
   ·omega
theorem Xb7 (p:Int->Bool)(l:LI):(l.any p=true/\∃ j,j<l.length/\p (l.getD j 0)=true/\∀ i<j,p (l.getD i 0)=false)\/(l.any p=false/\∀ j<l.length,p (l.getD j 0)=false):=by
 rcases Ycr (fun j=>p (l.getD j 0)) l.length with ⟨k,h1,h2,h3⟩|h
 ·exact .inl ⟨List.any_eq_true.2 ⟨_,Ybw 0 h1,h2⟩,k,h1,h2,h3⟩
 ·refine .inr ⟨List.any_eq_false.2 fun z hz=>?_,h⟩;obtain⟨j,hj,rfl⟩:=Yfc.1 hz;simpa using h j hj
theorem Zfr {x:FBook}{th:LL}{wr:LI}(hx:FIn x)(hk:KnOk x th wr)(m:Mp){s:Nat}(hs:s<x.feet.length):CF 98 [fbkD x m th wr,.I (s:Int)] (.z .int (Ybk x th wr s)):=by
 have ho:=hx.opnl;have hc:=Zgs ho;have hp:=Yyj ho;have hN:Yae ((1:Int)*(2:Int) ^ Min.min (Int.toNat (x.opn.length:Int)) 64):=by rw[hc];revert hp;generalize 2 ^ x.opn.length=N;intro hp;exact Yap (by omega) (by omega)
 have hkeep:=fun i:Nat=>Ztl hx hk m hs (i:Int);have hcode2:k_98 [1,0,1,1,0,1,0,0,1,1,0,0,1,0,1]=.block 2 (.loop (k_98 [1,0,1,1,0,1,0,0,1,1,0,0,1,0,1,0,0])):=by kernel_rfl
 have hloop:LF 39 (k_98 [1,0,1,1,0,1]) (chS x m th wr s 0 (Ya0 x th wr s 0)) .normal (chS x m th wr s (2 ^ x.opn.length) (Ybk x th wr s)):=by
  refine LF.each (id:=0) (c:=k_98 [1,0,1,1,0,1,0,0]) (by kernel_rfl) (2 ^ x.opn.length) (fun i=>chS x m th wr s i (Ya0 x th wr s i)) (fun i hi=>?_) ?_
  ·have hlt:decide ((i:Int)<(1:Int)*(2:Int) ^ Min.min (Int.toNat (x.opn.length:Int)) 64)=true:=by rw[hc];exact Yat hi
   have hi64:Yae ((i:Int)+1):=Yap (by omega) (by omega);have hlen:=Yfv x th wr s i;have he:Ya0 x th wr s (i+1)=if ((Ya0 x th wr s i).any fun l=>andF i l==l)=true then Ya0 x th wr s i else if Ydd x th wr s i=true then Ya0 x th wr s i++[(i:Int)] else Ya0 x th wr s i:=rfl
   simp only[he]
   cases hl:Ya0 x th wr s i with
   | nil =>
    have hin:LF 39 (k_98 [1,0,1,1,0,1,0,0,1,1,0,0,1,0,1]) (Yj2 x m th wr s i) .normal (Yj2 x m th wr s i) :=
     LF.each (id:=2) hcode2 0 (fun _=>Yj2 x m th wr s i) (fun j hj=>by omega) ⟨_,_,_,_,_,_,_,Zvy x m th wr s i,⟨rfl,trivial⟩,.inl ⟨rfl,rfl⟩,rfl⟩
    simp only[List.any_nil,Bool.false_eq_true,if_false]
    cases hb:Ydd x th wr s i with
    | true =>
     have:=hkeep i
     rw[hb]at this;exact⟨_,_,_,_,_,_,Zvz x m th wr s i true,⟨hlt,hin,this,rfl,by omega,hi64,trivial⟩,rfl⟩
    | false =>
     have:=hkeep i
     rw[hb]at this;exact⟨_,_,_,_,_,_,Xbw x m th wr s i false,⟨hlt,hin,this,rfl,hi64,trivial⟩,rfl⟩
   | cons y r =>
    rw[hl]at hlen;have hj64:∀ j:Nat,j<(y::r).length->Yae ((j:Int)+1):=fun j hj=>Yap (by omega) (by omega)
    have hon:∀ j,j<(y::r).length->(andF i ((y::r).getD j 0)==(y::r).getD j 0)=false->∃ dec orc lorc ks ps L1,runK (MF 39) dec orc lorc (k_98 [1,0,1,1,0,1,0,0,1,1,0,0,1,0,1,0,0]) (Yd9 x m th wr s i j y r) ks=some (ps,.normal,L1)/\allP ps/\L1=Yd9 x m th wr s i (j+1) y r:=fun j hj hb =>
     ⟨_,_,_,_,_,_,Xbs x m th wr s i j y r,⟨Yat hj,rfl,⟨by omega,by omega⟩,by omega,hb,hj64 j hj,trivial⟩,rfl⟩
    rcases Xb7 (fun l=>andF i l==l) (y::r) with ⟨h1,j,h2,h3,h4⟩|⟨h1,h2⟩
    ·rw[h1,if_pos rfl]
     have hin:LF 39 (k_98 [1,0,1,1,0,1,0,0,1,1,0,0,1,0,1]) (Yd9 x m th wr s i 0 y r) (.exit 1) (Yd9 x m th wr s i j y r) :=
      LF.leaves (id:=2) (by decide) hcode2 j (fun j=>Yd9 x m th wr s i j y r) (fun j' hj'=>hon j' (by omega) (h4 j' hj')) ⟨_,_,_,_,_,_,Zvt x m th wr s i j y r,⟨Yat h2,rfl,⟨by omega,by omega⟩,by omega,h3,trivial⟩,rfl⟩
     exact⟨_,_,_,_,_,_,Zn5 x m th wr s i y r j,⟨hlt,rfl,hin,hi64,trivial⟩,rfl⟩
    ·rw[h1];simp only[Bool.false_eq_true,if_false]
     have hin:LF 39 (k_98 [1,0,1,1,0,1,0,0,1,1,0,0,1,0,1]) (Yd9 x m th wr s i 0 y r) .normal (Yd9 x m th wr s i (y::r).length y r) :=
      LF.each (id:=2) hcode2 (y::r).length (fun j=>Yd9 x m th wr s i j y r) (fun j' hj'=>hon j' hj' (h2 j' hj')) ⟨_,_,_,_,_,_,_,Zvu x m th wr s i _ y r,⟨Yay,trivial⟩,.inl ⟨rfl,rfl⟩,rfl⟩
     cases hb:Ydd x th wr s i with
     | true =>
      have:=hkeep i
      rw[hb]at this;exact⟨_,_,_,_,_,_,Zvv x m th wr s i y r _ true,⟨hlt,rfl,hin,this,rfl,rfl,by rw[List.length_append,List.length_singleton];omega,hi64,trivial⟩,rfl⟩
     | false =>
      have:=hkeep i
      rw[hb]at this;exact⟨_,_,_,_,_,_,Xbt x m th wr s i y r _ false,⟨hlt,rfl,hin,this,rfl,hi64,trivial⟩,rfl⟩
  ·have hlt:decide ((((2 ^ x.opn.length:Nat)):Int)<(1:Int)*(2:Int) ^ Min.min (Int.toNat (x.opn.length:Int)) 64)=false:=by rw[hc];exact Yay
   rw[show Ybk x th wr s=Ya0 x th wr s (2 ^ x.opn.length) from rfl]
   cases Ya0 x th wr s (2 ^ x.opn.length) with
   | nil=>exact⟨_,_,_,_,_,_,_,Zv0 x m th wr s _,⟨hlt,trivial⟩,.inl ⟨rfl,rfl⟩,rfl⟩
   | cons y r=>exact⟨_,_,_,_,_,_,_,Zvw x m th wr s _ y r,⟨hlt,trivial⟩,.inl ⟨rfl,rfl⟩,rfl⟩
 cases hl:Ybk x th wr s with
 | nil =>
  rw[hl]at hloop;exact Contract.weaken (Yaa (GF 39) Xcu (Xbv x m th wr s (2 ^ x.opn.length)) ⟨⟨by omega,hN⟩,hloop,trivial⟩)
 | cons y r =>
  rw[hl]at hloop;exact Yaa (GF 39) Xcu (Xbu x m th wr s (2 ^ x.opn.length) y r) ⟨⟨by omega,hN⟩,hloop,rfl,trivial⟩
end Go.Di
namespace Go.Di
open Proofs
theorem Ymx:∀(k:Nat) (p q:List Work),k<=p.length->(∀ i<k,i<q.length/\Ya7 (p.getD i Yam) (q.getD i Yam)=0)->Ya9 p q=Ya9 (p.drop k) (q.drop k)
 | 0,p,q,_,_=>by simp
 | k+1,[],q,h,_=>by simp at h
 | k+1,a::p,[],_,h=>by have:=(h 0 (by omega)).1;simp at this
 | k+1,a::p,b::q,h,hc=>by
  have h0:Ya7 a b=0:=(hc 0 (by omega)).2;simp only[Ya9,List.drop_succ_cons];rw[if_neg (by omega)]
  exact Ymx k p q (by simpa using h) fun i hi=>by
   have:=hc (i+1) (by omega)
   simpa using this
theorem Ygo (l:List Work)(k:Nat)(h:k<l.length):l.drop k=l.getD k Yam::l.drop (k+1):=Zae l k Yam h
def Num (l:List Work):Prop:=l.length<=1000000/\∀ w∈l,-1000000<=w.d/\w.d<=1000000/\-1000000<=w.s/\w.s<=1000000
theorem PlanOk.num {x:FBook}(hx:FIn x){plan:List Work}(h:PlanOk x plan):Num plan:=by
 have hn:=hx.n;exact⟨by have:=h.1;omega,fun w hw=>by have h1:=(h.2 w hw).s;have h2:=(h.2 w hw).d;omega⟩
theorem Xbn {p q:List Work}(hp:Num p)(hq:Num q):CF 123 [.z .work p,.z .work q,.fn 82 [] []] (.I (Ya9 p q)):=by
 have hpl:=hp.1;have hql:=hq.1
 have hc:∀ i,i<p.length->i<q.length->CF 82 [wkD (p.getD i Yam),wkD (q.getD i Yam)] (.I (Ya7 (p.getD i Yam) (q.getD i Yam))):=fun i h1 h2=>by
  have a1:=hp.2 _ (Ybw Yam h1);have a2:=hq.2 _ (Ybw Yam h2);exact Yjx _ _ (Yap (by omega) (by omega)) (Yap (by omega) (by omega))
 have hcode:Yo2 [1,0,1]=.block 0 (.loop (Yo2 [1,0,1,0,0])):=by kernel_rfl
 have hon:∀ i,i<p.length->i<q.length/\Ya7 (p.getD i Yam) (q.getD i Yam)=0->∃ dec orc lorc ks ps L1,runK (MF 39) dec orc lorc (Yo2 [1,0,1,0,0]) (Ycx p q i) ks=some (ps,.normal,L1)/\allP ps/\L1=Ycx p q (i+1):=fun i h1 ⟨h2,h3⟩=>by
  have h4:=hc i h1 h2;rw[h3]at h4;exact⟨_,_,_,_,_,_,Zvm p q i 0,⟨Yat h1,⟨by omega,by omega⟩,by omega,decide_eq_false (by omega),⟨by omega,by omega⟩,by omega,by omega,by omega,h4,rfl,Yap (by omega) (by omega),trivial⟩,rfl⟩
 rcases Ycr (fun i=>decide (i>=q.length)||(Ya7 (p.getD i Yam) (q.getD i Yam) != 0)) p.length with ⟨k,h1,h2,h3⟩|h
 ·have hbefore:∀ i<k,i<q.length/\Ya7 (p.getD i Yam) (q.getD i Yam)=0:=fun i hi=>by
   have:=h3 i hi
   simpa using this
  rw[Ymx k p q (by omega) hbefore]
  by_cases hk:k<q.length
  ·have hne:(Ya7 (p.getD k Yam) (q.getD k Yam) != 0)=true:=by
    rw[show decide (k>=q.length)=false from decide_eq_false (by omega)]at h2;simpa using h2
   rw[Ygo p k h1,Ygo q k hk];simp only[Ya9];rw[if_pos (by simpa using hne)];refine Yaa (GF 39) Ywm (Xf7 p q k _) ⟨?_,trivial⟩;exact LF.each (id:=0) hcode k (fun i=>Ycx p q i) (fun i hi=>hon i (by omega) (hbefore i hi)) ⟨_,_,_,_,_,_,_,Zvn p q k _,⟨Yat h1,⟨by omega,by omega⟩,by omega,decide_eq_false (by omega),⟨by omega,by omega⟩,by omega,by omega,by omega,hc k h1 hk,hne,trivial⟩,.inr ⟨rfl,rfl⟩,rfl⟩
  ·rw[Ygo p k h1,List.drop_eq_nil_of_le (by omega:q.length<=k)];simp only[Ya9];refine Yaa (GF 39) Ywm (Zvk p q k) ⟨?_,trivial⟩;exact LF.each (id:=0) hcode k (fun i=>Ycx p q i) (fun i hi=>hon i (by omega) (hbefore i hi)) ⟨_,_,_,_,_,_,_,Zff p q k,⟨Yat h1,⟨by omega,by omega⟩,by omega,decide_eq_true (by omega),trivial⟩,.inr ⟨rfl,rfl⟩,rfl⟩
 ·have hall:∀ i<p.length,i<q.length/\Ya7 (p.getD i Yam) (q.getD i Yam)=0:=fun i hi=>by
   have:=h i hi
   simpa using this
  rw[Ymx p.length p q (Nat.le_refl _) hall,List.drop_length]
  have hloop:LF 39 (Yo2 [1,0,1]) (Ycx p q 0) .normal (Ycx p q p.length) :=
   LF.each (id:=0) hcode p.length (fun i=>Ycx p q i) (fun i hi=>hon i hi (hall i hi)) ⟨_,_,_,_,_,_,_,Znh p q _,⟨Yay,trivial⟩,.inl ⟨rfl,rfl⟩,rfl⟩
  by_cases hk:p.length<q.length
  ·rw[Ygo q _ hk];exact Yaa (GF 39) Ywm (Zvl p q p.length) ⟨hloop,decide_eq_true (by omega),trivial⟩
  ·rw[List.drop_eq_nil_of_le (by omega:q.length<=p.length)];exact Yaa (GF 39) Ywm (Zvj p q p.length) ⟨hloop,decide_eq_false (by omega),trivial⟩
theorem Zmq (x:FBook)(m:Mp)(th:LL)(wr:LI):CF 96 [fbkD x m th wr] (.agg [.fn 122 [] [cellsOf (fbkD x m th wr)]]):=Yaa (GF 5) Zuw (Zmr x m th wr) trivial
theorem Yyk (x:FBook)(m:Mp)(th:LL)(wr:LI):CF 70 [fbkD x m th wr] (.fn 97 [] [cellsOf (fbkD x m th wr)]):=Yaa (GF 4) Zui (Zmf x m th wr) trivial
theorem Zob {x:FBook}(hx:FIn x)(m:Mp)(th:LL)(wr:LI){p q:List Work}(hp:PlanOk x p)(hq:PlanOk x q):CF 122 [.z .work p,.z .work q,.ref (cellsOf (fbkD x m th wr)) 0] (.bool (Ycw x p q)):=by
 have c1:=Ykn hx m th wr hp;have c2:=Ykn hx m th wr hq;have c3:=Xbn (hp.num hx) (hq.num hx);unfold Ycw
 by_cases h1:Ybf x p<Ybf x q
 ·have h1':decide (Ybf x p<Ybf x q)=true:=decide_eq_true h1;rw[h1'];refine Yaa (GF 28) Yn8 (Zms x m th wr p q (Ybf x p) (Ybf x q) 0) ?_
  repeat(first|exact trivial|refine⟨by first|exact c1|exact c2|exact h1',?_⟩)
 ·have h1':decide (Ybf x p<Ybf x q)=false:=decide_eq_false h1;rw[h1']
  by_cases h2:Ybf x p=Ybf x q
  ·have h2':(Ybf x p==Ybf x q)=true:=beq_iff_eq.2 h2;rw[decide_eq_true h2];refine Yaa (GF 28) Yn8 (Zmu x m th wr p q (Ybf x p) (Ybf x q) (Ya9 p q)) ?_
   repeat(first|exact trivial|refine⟨by first|exact c1|exact c2|exact c3|exact h1'|exact h2',?_⟩)
  ·have h2':(Ybf x p==Ybf x q)=false:=beq_eq_false_iff_ne.2 h2;rw[decide_eq_false h2];refine Yaa (GF 28) Yn8 (Zmt x m th wr p q (Ybf x p) (Ybf x q) 0) ?_
   repeat(first|exact trivial|refine⟨by first|exact c1|exact c2|exact h1'|exact h2',?_⟩)
end Go.Di
namespace Go.Di
open Proofs
noncomputable abbrev k_99 (p:List Nat):Code:=Code.at p (body Proofs.Tryz.f99)
noncomputable abbrev k_97 (p:List Nat):Code:=Code.at p (body Proofs.Tryz.f97)
noncomputable abbrev MFF (n:Nat)(ke no:Nat->Prop)(w1:World)(fx:List Nat)(fv:Nat->Value):Cfg:=mkF PRG (Yac Ybl) Yca n ke no w1 fx fv
def gS (x:FBook)(m:Mp)(th:LL)(wr:LI)(al:LL)(on:W4)(s:Int):KV :=
 [(.tmp 1,.d (.I s)),(.tmp 2,.d (.ref [.z (.list .int) al] 0)),(.tmp 4,.d (.ref (cellsOf (fbkD x m th wr)) 0)),(.tmp 6,.d (.ptr 6 0)),(.box 6,.bx (some ⟨false,cellsOf (Ynd on)⟩))]
def gK:List Key:=[.tmp 1,.tmp 2,.tmp 4,.tmp 6,.box 6]
def gL (x:FBook)(m:Mp)(th:LL)(wr:LI)(al:LL)(on:W4)(s:Int)(row:LI)(j:Nat):KV :=
 gS x m th wr al on s++[(.tmp 23,.d (.z .int row)),(.tmp 24,.d (.I row.length)),(.tmp 25,.d (.I j))]
def gLK:List Key:=gK++[.tmp 23,.tmp 24,.tmp 25]
def hS (x:FBook)(m:Mp)(th:LL)(wr:LI):KV:=[(.tmp 0,.d .undef),(.tmp 1,.d (.ref (cellsOf (fbkD x m th wr)) 0))]
def hS1 (x:FBook)(m:Mp)(th:LL)(wr:LI)(c:D):KV:=[(.tmp 1,.d (.ref (cellsOf (fbkD x m th wr)) 0)),(.tmp 3,.d (.ptr 3 0)),(.box 3,.bx (some ⟨false,[c]⟩))]
def hK1:List Key:=[.tmp 1,.tmp 3,.box 3]
def hL (x:FBook)(m:Mp)(th:LL)(wr:LI)(i:Nat):LL->KV
 | []=>hS1 x m th wr .nil++[(.tmp 9,.d (.I x.feet.length)),(.tmp 10,.d (.I i))]
 | y::r=>hS1 x m th wr (.own 18 (y::r).length)++[(.tmp 9,.d (.I x.feet.length)),(.tmp 10,.d (.I i)),(.obj 18,.ob (some ⟨.list .int,y::r⟩))]
def hLK:List Key:=hK1++[.tmp 9,.tmp 10]
def hLK1:List Key:=hLK++[.obj 18]
theorem g_0 (x:FBook)(m:Mp)(th:LL)(wr:LI)(al:LL)(on:W4)(s:Int)(ke no:Nat->Prop)(w1:World)(fv:Nat->Value) :runK (MFF 39 ke no w1 [2,3,4,5] fv) [] [] [] (k_99 [0]) (entry 0 [Ynd on,.I s,.ref [.z (.list .int) al] 0,.undef,.ref (cellsOf (fbkD x m th wr)) 0]) gK =some ([],.normal,gS x m th wr al on s):=by kernel_rfl
theorem g_1 (x:FBook)(m:Mp)(th:LL)(wr:LI)(al:LL)(on:W4)(s:Int)(ke no:Nat->Prop)(w1:World)(fv:Nat->Value) :runK (MFF 39 ke no w1 [2,3,4,5,6] fv) [] [] [] (k_99 [1,0,0]) (gS x m th wr al on s) (gK++[.tmp 14]) =some ([],.normal,gS x m th wr al on s++[(.tmp 14,.d (.bool (s==(al.length:Int))))]):=by kernel_rfl
theorem g_3 (x:FBook)(m:Mp)(th:LL)(wr:LI)(al:LL)(on:W4)(s:Int)(ke no:Nat->Prop)(w1:World)(fv:Nat->Value) :runK (MFF 39 ke no w1 [2,3,4,5,6] fv) [] [] [] (k_99 [1,1,0,0]) (gS x m th wr al on s) gLK =some ([(0:Int)<=s/\s<(al.length:Int)],.normal,gL x m th wr al on s (al.getD s.toNat []) 0):=by kernel_rfl
theorem g_4 (x:FBook)(m:Mp)(th:LL)(wr:LI)(al:LL)(on:W4)(s:Int)(row:LI)(j:Nat)(ke no:Nat->Prop)(w1:World)(fv:Nat->Value) :runK (MFF 39 ke no w1 [2,3,4,5,6] fv) [] [] [] (k_99 [1,1,0,1,0,0,0]) (gL x m th wr al on s row j) (gLK++[.tmp 26]) =some ([],.normal,gL x m th wr al on s row j++[(.tmp 26,.d (.bool (decide ((j:Int)<(row.length:Int)))))]):=by kernel_rfl
theorem g_5 (x:FBook)(m:Mp)(th:LL)(wr:LI)(al:LL)(on:W4)(s:Int)(row:LI)(j:Nat)(ke no:Nat->Prop)(w1:World)(fv:Nat->Value) :runK (MFF 39 ke no w1 [2,3,4,5,6] fv) [] [] [] (k_99 [1,1,0,1,0,0,1,1,0,0,0]) (gL x m th wr al on s row j) (gLK++[.tmp 10]) =some ([(0:Int)<=(j:Int)/\(j:Int)<(row.length:Int),0+1<=1],.normal,gL x m th wr al on s row j++[(.tmp 10,.d (.I (row.getD j 0)))]):=by kernel_rfl
theorem Xjy (x:FBook)(m:Mp)(th:LL)(wr:LI)(al:LL)(on:W4)(row:LI)(j:Nat)(z:Int)(ke no:Nat->Prop)(w1:World)(fv:Nat->Value) :runK (MFF 39 ke no w1 [2,3,4,5,6] fv) [] [] [] (k_99 [1,1,0,1,0,0,1,1,0,0,1,0]) (gL x m th wr al on 0 row j++[(.tmp 10,.d (.I z))]) gLK =some ([(0:Int)<=(0:Int)/\(0:Int)<(Nat.cast:Nat->Int) 4],.normal,gL x m th wr al (on.set 0 z) 0 row j):=by kernel_rfl
theorem Xjx (x:FBook)(m:Mp)(th:LL)(wr:LI)(al:LL)(on:W4)(row:LI)(j:Nat)(z:Int)(ke no:Nat->Prop)(w1:World)(fv:Nat->Value) :runK (MFF 39 ke no w1 [2,3,4,5,6] fv) [] [] [] (k_99 [1,1,0,1,0,0,1,1,0,0,1,0]) (gL x m th wr al on 1 row j++[(.tmp 10,.d (.I z))]) gLK =some ([(0:Int)<=(1:Int)/\(1:Int)<(Nat.cast:Nat->Int) 4],.normal,gL x m th wr al (on.set 1 z) 1 row j):=by kernel_rfl
theorem Xjw (x:FBook)(m:Mp)(th:LL)(wr:LI)(al:LL)(on:W4)(row:LI)(j:Nat)(z:Int)(ke no:Nat->Prop)(w1:World)(fv:Nat->Value) :runK (MFF 39 ke no w1 [2,3,4,5,6] fv) [] [] [] (k_99 [1,1,0,1,0,0,1,1,0,0,1,0]) (gL x m th wr al on 2 row j++[(.tmp 10,.d (.I z))]) gLK =some ([(0:Int)<=(2:Int)/\(2:Int)<(Nat.cast:Nat->Int) 4],.normal,gL x m th wr al (on.set 2 z) 2 row j):=by kernel_rfl
theorem Xjv (x:FBook)(m:Mp)(th:LL)(wr:LI)(al:LL)(on:W4)(row:LI)(j:Nat)(z:Int)(ke no:Nat->Prop)(w1:World)(fv:Nat->Value) :runK (MFF 39 ke no w1 [2,3,4,5,6] fv) [] [] [] (k_99 [1,1,0,1,0,0,1,1,0,0,1,0]) (gL x m th wr al on 3 row j++[(.tmp 10,.d (.I z))]) gLK =some ([(0:Int)<=(3:Int)/\(3:Int)<(Nat.cast:Nat->Int) 4],.normal,gL x m th wr al (on.set 3 z) 3 row j):=by kernel_rfl
theorem g_7a (x:FBook)(m:Mp)(th:LL)(wr:LI)(al:LL)(on:W4)(s:Int)(row:LI)(j:Nat)(ke no:Nat->Prop)(w1:World)(fv:Nat->Value) :Yi5 (MFF 39 ke no w1 [2,3,4,5,6,32] fv) [] [] (rops (k_99 [1,1,0,1,0,0,1,1,0,0,1,1,0])) [(rops (k_99 [1,1,0,1,0,0,1,1,0,0,1,1,0]))[1],(rops (k_99 [1,1,0,1,0,0,1,1,0,0,1,1,0]))[2],(rops (k_99 [1,1,0,1,0,0,1,1,0,0,1,1,0]))[3]] (gL x m th wr al on s row j) (gLK++[.tmp 33,.tmp 35]) =some ([0+4<=4,Yae (s+(1:Int))],gL x m th wr al on s row j++[(.tmp 33,.d (Ynd on)),(.tmp 35,.d (.I (s+1)))]):=by kernel_rfl
theorem g_7b (x:FBook)(m:Mp)(th:LL)(wr:LI)(al:LL)(on:W4)(s:Int)(row:LI)(j:Nat)(ke no:Nat->Prop)(w1:World)(fv:Nat->Value) :Yi5 (MFF 39 ke no w1 [2,3,4,5,6] fv) [] [] (rops (k_99 [1,1,0,1,0,0,1,1,0,0,1,1,0])) [(rops (k_99 [1,1,0,1,0,0,1,1,0,0,1,1,0]))[5]] ((.tmp 36,.d (.bool true))::(gL x m th wr al on s row j++[(.tmp 33,.d (Ynd on)),(.tmp 35,.d (.I (s+1)))])) (gLK++[.tmp 37]) =some ([],gL x m th wr al on s row j++[(.tmp 37,.d (.bool false))]):=by kernel_rfl
theorem g_9 (x:FBook)(m:Mp)(th:LL)(wr:LI)(al:LL)(on:W4)(s:Int)(row:LI)(j:Nat)(ke no:Nat->Prop)(w1:World)(fv:Nat->Value) :runK (MFF 39 ke no w1 [2,3,4,5,6] fv) [] [] [] (k_99 [1,1,0,1,0,0,1,1,1]) (gL x m th wr al on s row j) gLK =some ([Yae ((j:Int)+(1:Int))],.normal,gL x m th wr al on s row (j+1)):=by kernel_rfl
theorem g_10 (x:FBook)(m:Mp)(th:LL)(wr:LI)(al:LL)(on:W4)(s:Int)(ke no:Nat->Prop)(w1:World)(fv:Nat->Value) :runK (MFF 39 ke no w1 [2,3,4,5,6] fv) [] [] [] (k_99 [1,1,1,0]) (gS x m th wr al on s) (gK++[.tmp 8]) =some ([],.normal,gS x m th wr al on s++[(.tmp 8,.d (.bool true))]):=by kernel_rfl
theorem h_1 (x:FBook)(m:Mp)(th:LL)(wr:LI)(ke no:Nat->Prop)(w1:World)(fv:Nat->Value) :runK (MFF 24 ke no w1 [0,1,2] fv) [] [] [] (k_97 [1,0]) (hS x m th wr) hK1 =some ([],.normal,hS1 x m th wr .nil):=by kernel_rfl
theorem h_2 (x:FBook)(m:Mp)(th:LL)(wr:LI)(ke no:Nat->Prop)(w1:World)(fv:Nat->Value) :runK (MFF 24 ke no w1 [0,1,2,3] fv) [] [] [] (k_97 [1,1,0,0]) (hS1 x m th wr .nil) hLK =some ([],.normal,hL x m th wr 0 []):=by kernel_rfl
theorem Xjs (x:FBook)(m:Mp)(th:LL)(wr:LI)(i:Nat)(l:LI)(ke no:Nat->Prop)(w1:World)(fv:Nat->Value) :runK (MFF 24 ke no w1 [0,1,2,3] fv) [(11,true)] [(16,.z .int l)] [] (k_97 [1,1,0,1,0,0]) (hL x m th wr i []) hLK1 =some ([decide ((i:Int)<(x.feet.length:Int))=true,CF 98 [fbkD x m th wr,D.I (i:Int)] (D.z E.int l),1*(24+1)<=140737488355328,1=1,Yae ((i:Int)+(1:Int))],.normal,hL x m th wr (i+1) [l]):=by kernel_rfl
theorem Xjr (x:FBook)(m:Mp)(th:LL)(wr:LI)(i:Nat)(y:LI)(r:LL)(l:LI)(ke no:Nat->Prop)(w1:World)(fv:Nat->Value) :runK (MFF 24 ke no w1 [0,1,2,3] fv) [(11,true)] [(16,.z .int l)] [] (k_97 [1,1,0,1,0,0]) (hL x m th wr i (y::r)) hLK1 =some ([decide ((i:Int)<(x.feet.length:Int))=true,CF 98 [fbkD x m th wr,D.I (i:Int)] (D.z E.int l),(y::r).length=List.length ((y::r)),List.length ((y::r)++[l])*(24+1)<=140737488355328,List.length ((y::r)++[l])=List.length (((y::r)++[l])),Yae ((i:Int)+(1:Int))],.normal,hL x m th wr (i+1) (y::r++[l])):=by kernel_rfl
theorem Xjt (x:FBook)(m:Mp)(th:LL)(wr:LI)(i:Nat)(y:LI)(r:LL)(ke no:Nat->Prop)(w1:World)(fv:Nat->Value) :runK (MFF 24 ke no w1 [0,1,2,3] fv) [(11,false)] [] [] (k_97 [1,1,0,1,0,0]) (hL x m th wr i (y::r)) hLK1 =some ([decide ((i:Int)<(x.feet.length:Int))=false],.exit 0,hL x m th wr i (y::r)):=by kernel_rfl
theorem h_5 (x:FBook)(m:Mp)(th:LL)(wr:LI)(al:LL)(ke no:Nat->Prop)(w1:World)(fv:Nat->Value) :runK (MFF 24 ke no w1 [0,1,2,3] fv) [] [] [] (k_97 [1,1,1,0]) (hS1 x m th wr (.z (.list .int) al)) (hK1++[.tmp 5,.box 5]) =some ([],.normal,hS1 x m th wr (.z (.list .int) al)++[(.tmp 5,.d (.ptr 5 0)),(.box 5,.bx (some ⟨false,[.nilfn]⟩))]):=by kernel_rfl
end Go.Di
namespace Go.Di
open Proofs
open Go.RowKit
section
variable {P:Program} {Q:Exit->Act->World->Prop} {a:Act} {w w':World} {K:Act->World->Prop} {ops:Array Oper}
theorem Yrs:∀(l:List Bool) (i:Nat),l[i]?=some false->(l.set i true).count false+1=l.count false
 | [],i,h=>by simp at h
 | b::l,0,h=>by
  simp only[List.getElem?_cons_zero,Option.some.injEq]at h;subst h;simp
 | b::l,i+1,h=>by
  have ih:=Yrs l i (by simpa using h);simp only[List.set_cons_succ,List.count_cons];omega
def Ygn (ops:Array Oper)(i:Nat):List Nat:=match ops[i]? with
 | some o=>(o.after.toList.filter fun e=>Region.binds .any e).map (·.on)
 | none=>[]
theorem Yqs {l:Array Bool}{i:Nat}:i∈Region.ready .any ops l↔i<ops.size/\l.getD i true=false/\∀ j∈Ygn ops i,l.getD j false=true:=by
 rw[mem_ready];unfold Ygn
 constructor
 ·rintro⟨h1,o,h2,h3⟩
  refine⟨(Array.getElem?_eq_some_iff.1 h2).1,h1,fun j hj=>?_⟩;rw[h2]at hj;obtain⟨e,he,rfl⟩:=List.mem_map.1 hj;rw[List.mem_filter]at he;exact h3 e (by simpa using he.1) he.2
 ·rintro⟨h1,h2,h3⟩
  refine⟨h2,ops[i],Array.getElem?_eq_getElem h1,fun e he hb=>h3 e.on ?_⟩;rw[Array.getElem?_eq_getElem h1];exact List.mem_map.2 ⟨e,List.mem_filter.2 ⟨by simpa using he,hb⟩,rfl⟩
theorem Za2 {m:Nat}(Φ:Array Bool->Act->World->Prop)(hdone:∀ l a w,Φ l a w->(∀ i,i<ops.size->(∀ j∈Ygn ops i,l.getD j false=true)->l.getD i true=true)->Q .normal a w)
  (hstep:∀ l a w i,Φ l a w->i<ops.size->l.getD i true=false->(∀ j∈Ygn ops i,l.getD j false=true)->wpOpIn (FR none) m P ops Q i (Φ (l.setIfInBounds i true)) a w) :
  ∀(fuel:Nat) (l:Array Bool) (a:Act) (w:World),Φ l a w->l.toList.count false<=fuel->wpAnyIn (FR none) m P .any ops Q fuel l a w:=by
 have key:∀(l:Array Bool) (i:Nat),l.getD i true=false->l.toList[i]?=some false:=by
  intro l i h;rw[Array.getD_eq_getD_getElem?]at h;rw[Array.getElem?_toList]
  cases hl:l[i]? with
  | none=>rw[hl]at h;simp at h
  | some b=>rw[hl]at h;simp only[Option.getD_some]at h;rw[h]
 have hd:∀ l a w,Φ l a w->Region.ready .any ops l=[]->Q .normal a w:=fun l a w h hr=>hdone l a w h fun i h1 h2=>by
  cases hb:l.getD i true with
  | true=>rfl
  | false =>
   have:i∈Region.ready .any ops l:=Yqs.2 ⟨h1,hb,h2⟩
   rw[hr]at this
   cases this
 intro fuel
 induction fuel with
 | zero =>
  intro l a w h hc
  have hr:Region.ready .any ops l=[]:=by
   cases hr:Region.ready .any ops l with
   | nil=>rfl
   | cons i r =>
    have hi:i∈Region.ready .any ops l:=by rw[hr];simp
    have:=Yrs l.toList i (key l i (Yqs.1 hi).2.1)
    omega
  exact⟨hr,hd l a w h hr⟩
 | succ fuel ih =>
  intro l a w h hc;refine⟨fun hr=>hd l a w h hr,fun i hi=>?_⟩;obtain⟨h0,h1,h2⟩:=Yqs.1 hi;refine wpOpIn_mono (fun a' w' h'=>ih _ a' w' h' ?_) (hstep l a w i h h0 h1 h2)
  have:=Yrs l.toList i (key l i h1)
  rw[Array.toList_setIfInBounds];omega
theorem Zt9 {l:Array Bool}{i:Nat}(h:i<l.size):l.getD i true=l.getD i false:=by
 rw[Array.getD_eq_getD_getElem?,Array.getD_eq_getD_getElem?,Array.getElem?_eq_getElem h];rfl
theorem Yc9 {l:Array Bool}{i j:Nat}(h:(l.setIfInBounds i true).getD j false=true):i=j\/l.getD j false=true:=by
 rw[Array.getD_eq_getD_getElem?,Array.getElem?_setIfInBounds]at h;rw[Array.getD_eq_getD_getElem?]
 by_cases hij:i=j
 ·exact .inl hij
 ·rw[if_neg hij]at h;exact .inr h
theorem Yb4 {l:Array Bool}{i j:Nat}{b:Bool}(hij:i≠j)(h:l.getD j false=b):(l.setIfInBounds i true).getD j false=b:=by
 rw[Array.getD_eq_getD_getElem?]at h;rw[Array.getD_eq_getD_getElem?,Array.getElem?_setIfInBounds,if_neg hij];exact h
theorem Zhi {l:Array Bool}{i:Nat}(h:i<l.size):(l.setIfInBounds i true).getD i false=true:=by
 rw[Array.getD_eq_getD_getElem?,Array.getElem?_setIfInBounds,if_pos rfl,if_pos h];rfl
theorem Ypx {i:Nat}{o:Oper}{m:Nat}(ho:ops[i]?=some o)(hg:o.guard=none)(h:o.wpIn (FR none) m P a w K Q):wpOpIn (FR none) m P ops Q i K a w:=by
 unfold wpOpIn;rw[ho]
 have:Region.wanted o (yielded ops a.tmps)=true:=by simp[Region.wanted,hg]
 simp only[this,if_true];exact h
theorem Yh2 {i:Nat}{o:Oper}{m:Nat}(ho:ops[i]?=some o)(hg:o.guard=none)(hd:∀ c,o.op≠.defer c){v:Value}(hrun:(execOp a.eval o).run P w=.ok (.value v) w')(hK:K (a.put o.dst v) w'):wpOpIn (FR none) m P ops Q i K a w :=
 Ypx ho hg (opIn hd (Ycd hrun hK))
theorem Yw1 {i:Nat}{o:Oper}{m:Nat}{f:FuncId}{vs caps:Array Value}{R:Ending->World->Prop}(ho:ops[i]?=some o)(hg:o.guard=none){c:Call}(hc:o.op=.call c){t:Operand}(hcal:c.callee=.value t)(hev:a.eval t=.func (.func f) #[] caps)(hargs:c.args.map a.eval=vs)
  {fn : Func} (h1 : P.funcs[f]? = some fn) (h2 : (fn.name == "runtime.NumGoroutine") = false) (h3 : fn.body.isNone = false) (hcl : Calls P f (vs ++ caps) w R) (hK : ∀ e w',R e w' -> ∃ v,e = .returned v /\ K (a.put o.dst v) w') : wpOpIn (FR none) m P ops Q i K a w := by
 refine Ypx ho hg (opIn (Xgc hc) ?_)
 obtain⟨cb,hbody⟩:∃ cb,fn.body=some cb:=by
  cases hb:fn.body with
  | none=>rw[hb]at h3;cases h3
  | some cb=>exact⟨cb,rfl⟩
 have h2' : fn.name ≠ "runtime.NumGoroutine" := by simpa using h2
 have hrun:(execOp a.eval o).run P w=.ok (.enter f (vs++caps)) w:=by
  simp[execOp,hc,resolve,hcal,hev,hargs,Deferred.ofValue,invoke,callFunc,h1,h2',hbody]
 unfold Oper.wp;rw[hrun,Oper.upon_enter];refine hcl.mono fun e w' he=>?_;obtain⟨v,rfl,hk⟩:=hK e w' he;exact hk
theorem Zib {gl:Nat->Option (List D)}{i:Nat}{o:Oper}{m:Nat}{f:FuncId}{args:List D}{r:D}{vs:List Value}{R:Foot}(hcon:Contract P gl f args r)(ho:ops[i]?=some o)(hg:o.guard=none){c:Call}(hc:o.op=.call c)(hcal:c.callee=.value (.func f))(hargs:c.args.map a.eval=vs.toArray)
  (hs:∀ b o,R b o->b<w.heap.size) (hgl:∀ g cs,gl g=some cs->Rel R w (.ref cs 0) (.pointer (some ⟨g,0,none⟩))) (ha:All2 (Rel R w) args vs)
  (hK:∀ v w' R',Below w.heap.size w w'->(∀ b o,R b o->R' b o)->(∀ b o,R' b o->b<w'.heap.size/\(R b o\/w.heap.size<=b))->Rel R' w' r v->K (a.put o.dst v) w'):wpOpIn (FR none) m P ops Q i K a w:=by
 obtain⟨⟨fn,h1,h2,h3⟩,hcalls⟩:=hcon;refine Yw1 ho hg hc hcal (f:=f) (caps:=#[]) rfl hargs h1 h2 h3 (by simpa using hcalls w R vs hs hgl ha) ?_
 rintro e w' ⟨v,rfl,hb,R',h4,h5,h6⟩
 exact⟨v,rfl,hK v w' R' hb h4 h5 h6⟩
theorem Yw0 {i:Nat}{o:Oper}{m y:Nat}{vs:Array Value}{R:Ending->World->Prop}(ho:ops[i]?=some o)(hg:o.guard=none){c:Call}(hc:o.op=.call c){t:Operand}(hcal:c.callee=.value t)(hev:a.eval t=.func (.yield y) #[] #[])(hargs:c.args.map a.eval=vs)
  (hy:YieldAt Fence.wide 0 P y vs w R) (hK:∀ e w',R e w'->∃ v,e=.returned v/\K (a.put o.dst v) w'):wpOpIn (FR none) m P ops Q i K a w:=by
 refine Ypx ho hg ⟨fun _ _=>trivial,?_⟩;obtain⟨fn,tmps,assign,body,hrun,hr⟩:=hy;rw[show(FR none).round=none from rfl,Oper.semAt_eq none a.eval o (fun c' hc'=>by rw[hc]at hc';cases hc')]
 have:(execOp a.eval o).run P w=.ok (.round y fn tmps assign body) w:=by
  rw[<-hrun];simp[execOp,hc,resolve,hcal,hev,hargs,Deferred.ofValue,invoke]
 rw[this,Oper.uponIn_round];refine⟨fun x=>by simp[FR,Fence.wide]at x,⟨trivial,fun c' cs hroom=>?_⟩⟩;obtain⟨e,w',hr1,hr2⟩:=hr.2 c' cs (room_wide _);obtain⟨v,rfl,hk⟩:=hK e w' hr1;refine⟨.returned v,w',hk,?_⟩;exact hr2
end
def Zfw (R:Foot)(T:Nat->Prop)(p:List Work)(vs:Array Value)(W:World):Prop:=∃ v R',vs=#[v]/\(∀ b o,R' b o->R b o\/T b)/\Rel R' W (.z .work p) v
section
variable (x:FBook) (m:Mp) (th:LL) (wr:LI) (al:LL) (R:Foot) (KE:Nat->Prop) (xs:List (List Work)) (y:Nat) (J:List (List Work)->(Nat->Prop)->World->Prop) (pA pY pB pC:Value)
def Zwf:Prop:=∀ pre q vs N T W,J pre N W->(∃ post,pre++q::post=xs)->(∀ b,T b->N b)->Zfw R T q vs W->YieldAt Fence.wide 0 PRG y vs W fun e W'=>e=.returned (.bool true)/\J (pre++[q]) (Less N T) W'/\Stays KE (Less N T) W W'
structure PCaps (N:Nat->Prop) (W:World):Prop where
 b:Rel R W (.ref (cellsOf (fbkD x m th wr)) 0) pB
 glob:∀ g cs,Yca g=some cs->Rel R W (.ref cs 0) (.pointer (some ⟨g,0,none⟩))
 all:∃ Ra:Foot,(∀ b o,Ra b o->KE b\/N b)/\Rel Ra W (.ref [.z (.list .int) al] 0) pA
 yld:∃ b4,pY=.pointer (some ⟨b4,0,none⟩)/\N b4/\W.cell? ⟨b4,0,none⟩=some (.func (.yield y) #[] #[])
 chg:∃ b5,pC=.pointer (some ⟨b5,0,none⟩)/\N b5/\W.cell? ⟨b5,0,none⟩=some (.func (.func 99) #[] #[pA,pY,pB,pC])
variable {x m th wr al R KE xs y J pA pY pB pC}
theorem Zha {R:Foot}{W W':World}{X:Nat->Prop}(h1:∀ b o,R b o->X b)(hs:∀ b,X b->W'.heap[b]?=W.heap[b]?):Keeps R R W W' :=
 ⟨fun _ _ h=>h,fun b o u hr hc=>by rw[Ycn (hs b (h1 b o hr))];exact hc,fun b es c hr hm=>by rw[hs b (h1 b 0 hr)];exact hm⟩
theorem PCaps.after {N N':Nat->Prop}{W W':World}(hR:∀ b o,R b o->KE b)(h:PCaps x m th wr al R KE y pA pY pB pC N W)(hN:∀ b,N b->N' b)(hs:∀ b,KE b\/N b->W'.heap[b]?=W.heap[b]?):PCaps x m th wr al R KE y pA pY pB pC N' W':=by
 obtain⟨h1,h2,⟨Ra,h3,h4⟩,⟨b4,q1,q2,q3⟩,⟨b5,r1,r2,r3⟩⟩:=h;have hk:=Zha (R:=R) hR (fun b hb=>hs b (.inl hb));have hk2:=Zha (R:=Ra) h3 hs;exact⟨Rel.keep hk _ _ h1,fun g cs hg=>Rel.keep hk _ _ (h2 g cs hg),⟨Ra,fun b o hr=>(h3 b o hr).imp id (hN b),Rel.keep hk2 _ _ h4⟩,⟨b4,q1,hN _ q2,by rw[Ycn (hs _ (.inr q2))];exact q3⟩,⟨b5,r1,hN _ r2,by rw[Ycn (hs _ (.inr r2))];exact r3⟩⟩
theorem Yqh {t:TypeId}{ti:TI}(hti:Yac Ybl t=some ti)(ha:ti.agg=true){cs:List D}(hsz:cs.length=ti.sz){R:Foot}{W:World}{v:Value}(h:Rel R W (.ref cs 0) v):∃ u,(Instr.loadAt t v).run PRG W=.ok u W/\Rel R W (.agg cs) u:=by
 obtain⟨b,o,rfl,hr⟩:=h;obtain⟨vs,h1,h2⟩:=Yxz hr;have hl:vs.length=ti.sz:=by rw[<-hsz];exact(All2.length h1).symm
 have hrun:=Yfz (P:=PRG) (C:=mkF PRG (Yac Ybl) Yca 0 (fun _=>False) (fun _=>False) W [] (fun _=>undef)) (w:=W) (Yav t ti hti) (b:=b) (o':=o) (off:=0) vs (fun j u hu=>(h2 j u hu).2) (by omega) (fun h=>by rw[ha]at h;cases h);rw[ha]at hrun;simp only[if_true,List.drop_zero]at hrun;rw[List.take_of_length_le (by omega)]at hrun;exact⟨_,hrun,vs.toArray,rfl,h1⟩
end
end Go.Di
