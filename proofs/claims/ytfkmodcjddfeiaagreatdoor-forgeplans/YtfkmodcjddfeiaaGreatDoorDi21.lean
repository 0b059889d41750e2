/- Part 21: contracts are proved. No condition. -/
import Derived.Test.YtfkmodcjddfeiaaGreatDoorDi20
set_option linter.unusedVariables false
set_option linter.unusedSimpArgs false
namespace Go.Di
open Proofs
theorem Yxi {α:Type}(l:List α)(j:Nat)(d:α)(h:j<l.length):l.take (j+1)=l.take j++[l.getD j d]:=by
 rw[List.take_add_one,List.getElem?_eq_getElem h,List.getD_eq_getElem?_getD,List.getElem?_eq_getElem h];rfl
theorem Zu0 (x:FBook)(l:List Work)(w:Work):Ybf x (l++[w])=Ybf x l+x.feet.getD w.s.toNat 0:=by
 unfold Ybf Yd7 sumF;rw[List.map_append,List.foldl_append];rfl
theorem Zmv (x:FBook)(plan:List Work){i:Nat}(h:i<plan.length):Ybf x (plan.take (i+1))=Ybf x (plan.take i)+x.feet.getD (plan.getD i Yam).s.toNat 0:=by
 rw[Yxi plan i Yam h,Zu0]
def Yku (x:FBook)(plan:List Work)(k:Nat):Int:=Ybf x (plan.take (k+1))-x.make*(plan.getD k Yam).d
theorem Xe3 {a b c:Int}:mx a b<=c↔a<=c/\b<=c:=by unfold mx;split<;>omega
theorem Ygh (x:FBook)(plan:List Work)(c:Int):∀ k,Yew x plan k<=c↔0<=c/\∀ j,j<k->Yku x plan j<=c
 | 0=>⟨fun h=>⟨h,fun j hj=>by omega⟩,fun h=>h.1⟩
 | k+1=>by
  rw[show Yew x plan (k+1)=mx (Yew x plan k) (Yku x plan k) from rfl,Xe3,Ygh x plan c k]
  constructor
  ·rintro⟨⟨h1,h2⟩,h3⟩
   refine⟨h1,fun j hj=>?_⟩
   by_cases h:j=k
   ·subst h;exact h3
   ·exact h2 j (by omega)
  ·rintro⟨h1,h2⟩
   exact⟨⟨h1,fun j hj=>h2 j (by omega)⟩,h2 k (by omega)⟩
theorem Yq0 (x:FBook)(plan:List Work)(n:Nat):∀ k,k<=n->Yew x (plan.take n) k=Yew x plan k
 | 0,_=>rfl
 | k+1,h=>by
  have ih:=Yq0 x plan n k (by omega);simp only[Yew];rw[ih,List.take_take,Nat.min_eq_left h]
  have:(plan.take n).getD k Yam=plan.getD k Yam:=by
   rw[List.getD_eq_getElem?_getD,List.getD_eq_getElem?_getD,List.getElem?_take,if_pos (by omega)]
  rw[this]
theorem Yji (x:FBook)(plan:List Work){k:Nat}(h:k<plan.length):Ycc x (plan.take (k+1))=Yew x plan (k+1):=by
 unfold Ycc;rw[List.length_take,Nat.min_eq_left (by omega)];exact Yq0 x plan (k+1) (k+1) (Nat.le_refl _)
def Yoz (x:FBook)(plan:List Work):Int:=match Yly x plan with
 | some k=>(k:Int)
 | none=>-1
theorem Zir {x:FBook}(hx:FIn x):0<=x.stock:=hx.stock.1
theorem Yqe {x:FBook}{plan:List Work}(h:Yly x plan=none):∀ k,k<plan.length->Yku x plan k<=x.stock:=by
 rcases Yk9 x plan with ⟨_,h1⟩|⟨k,h1,_⟩
 ·intro k hk
  have:=h1 k hk
  rw[Yji x plan hk]at this;exact((Ygh x plan x.stock (k+1)).1 (by omega)).2 k (by omega)
 ·rw[h]at h1;cases h1
theorem Yqd {x:FBook}(hx:FIn x){plan:List Work}{k:Nat}(h:Yly x plan=some k):k<plan.length/\x.stock<Yku x plan k/\∀ j,j<k->Yku x plan j<=x.stock:=by
 rcases Yk9 x plan with ⟨h1,_⟩|⟨k',h1,h2,h3,h4⟩
 ·rw[h]at h1;cases h1
 ·rw[h]at h1;obtain rfl:=Option.some.inj h1;rw[Yji x plan h2]at h3
  have hlow:∀ j,j<k->Yku x plan j<=x.stock:=fun j hj=>by
   have:=h4 j hj
   rw[Yji x plan (by omega)]at this;exact((Ygh x plan x.stock (j+1)).1 (by omega)).2 j (by omega)
  refine⟨h2,?_,hlow⟩
  by_cases hc:x.stock<Yku x plan k
  ·exact hc
  ·have:=(Ygh x plan x.stock (k+1)).2 ⟨Zir hx,fun j hj=>by
    by_cases hjk:j=k
    ·subst hjk;omega
    ·exact hlow j (by omega)⟩
   omega
theorem Xe4 {a b A B:Int}(ha:0<=a/\a<=A)(hb:0<=b/\b<=B):0<=a*b/\a*b<=A*B :=
 ⟨Int.mul_nonneg ha.1 hb.1,Int.mul_le_mul ha.2 hb.2 hb.1 (Int.le_trans ha.1 ha.2)⟩
theorem Yll (f:Nat->Bool):∀ m,∃ n,n<=m/\(∀ i,i<n->f i=true)/\(f n=false\/n=m)
 | 0=>⟨0,Nat.le_refl _,fun i hi=>by omega,.inr rfl⟩
 | m+1=>by
  obtain⟨n,h1,h2,h3⟩:=Yll f m;rcases h3 with h|rfl
  ·exact⟨n,by omega,h2,.inl h⟩
  ·cases h:f n with
   | false=>exact⟨n,by omega,h2,.inl h⟩
   | true =>
    refine⟨n+1,Nat.le_refl _,fun i hi=>?_,.inr rfl⟩
    by_cases hin:i=n
    ·subst hin;exact h
    ·exact h2 i (by omega)
theorem Zgu {α:Type}(R:α->α->Prop)(tr:∀ a b c,R a b->R b c->R a c)(d:α):∀ l:List α,(∀ i,0<i->i<l.length->R (l.getD (i-1) d) (l.getD i d))->l.Pairwise R
 | [],_=>List.Pairwise.nil
 | [a],_=>List.pairwise_singleton R a
 | a::b::l,h=>by
  have ih:=Zgu R tr d (b::l) fun i h0 hi=>by
   have:=h (i+1) (by omega) (by simp at hi ⊢;omega)
   obtain⟨j,rfl⟩:∃ j,i=j+1:=⟨i-1,by omega⟩;simpa using this
  have hab:R a b:=by simpa using h 1 (by omega) (by simp)
  refine List.pairwise_cons.2 ⟨fun c hc=>?_,ih⟩;rcases List.mem_cons.1 hc with rfl|hc
  ·exact hab
  ·exact tr _ _ _ hab ((List.pairwise_cons.1 ih).1 c hc)
theorem Xca {α:Type}{R:α->α->Prop}(d:α){l:List α}(h:l.Pairwise R){i:Nat}(h0:0<i)(hi:i<l.length):R (l.getD (i-1) d) (l.getD i d):=by
 rw[List.getD_eq_getElem?_getD,List.getD_eq_getElem?_getD,List.getElem?_eq_getElem hi,List.getElem?_eq_getElem (show i-1<l.length by omega)];exact List.pairwise_iff_getElem.1 h (i-1) i (by omega) hi (by omega)
theorem Yxs {days:Int}:∀(l:LI) (n:Int),-1<=n->l.Pairwise (·<·)->(∀ d∈l,n<d/\d<=days)->(l.foldl (Ydz days) (true,n)).1=true
 | [],n,_,_,_=>rfl
 | t::l,n,hn,hp,h=>by
  obtain⟨h1,h2⟩:=List.pairwise_cons.1 hp;have ht:=h t (by simp);simp only[List.foldl_cons,Ydz,Bool.true_and];rw[show Yad t (n+1) days=true from Ya2.2 (by omega)];exact Yxs l t (by omega) h2 fun d hd=>⟨h1 d hd,(h d (by simp[hd])).2⟩
theorem Znk {l:LI}{m:Int}:Ycq l m=true↔l.Pairwise (·<·)/\∀ z∈l,0<=z/\z<m:=by
 unfold Ycq Ylq Ygk;simp only[List.all_eq_true,List.mem_range,Bool.and_eq_true,decide_eq_true_eq,Bool.not_eq_true',Bool.and_eq_false_iff,decide_eq_false_iff_not]
 constructor
 ·intro h;refine⟨Zgu _ (fun a b c h1 h2=>by omega) 0 l fun i h0 hi=>?_,fun z hz=>?_⟩
  ·rcases (h i hi).2 with h1|h1<;>omega
  ·obtain⟨j,hj,rfl⟩:=Yfc.1 hz
   have:=(h j hj).1
   omega
 ·rintro⟨h1,h2⟩ i hi
  have h3:=h2 _ (Ybw 0 hi);refine⟨by omega,?_⟩
  by_cases h0:i>0
  ·have:=Xca 0 h1 h0 hi
   exact .inr (by omega)
  ·exact .inl h0
def okR (x:FBook):Bool:=(Yai x.chain==0)&&decide (x.feet.length=x.chain.secs.length)&&Yad x.new 0 200&&decide (x.opn.length<=4)&&Ycq x.opn (x.chain.days+1)&&Yad x.stock 0 200&&Yad x.make 0 9
theorem Zgm (x:FBook)(hs:FSmall x):LF 67 (k_19 [1,0]) (Yom x) .normal (Yfj x (okR x)):=by
 have c0:=(Ynt hs.chain).up;have c1:=(Yb9 x.new 0 200).up;have c2:=(Yb9 x.stock 0 200).up;have c3:=(Yb9 x.make 0 9).up;unfold okR
 cases h1:(Yai x.chain==0) with
 | false =>
  refine Yjo (Zyn x) ?_ rfl
  repeat(first|exact trivial|refine⟨by first|exact h1|exact c0,?_⟩)
 | true =>
  have hd:=(Yc0.1 (check_zero.symm.trans h1)).days;have c4:=(Znm x.opn (x.chain.days+1) hs.opn (by omega)).up;have hi:Yae (x.chain.days+1):=Yap (by omega) (by omega)
  by_cases h2:(x.feet.length:Int)=x.chain.secs.length
  ·have h2':((x.feet.length:Int)==(x.chain.secs.length:Int))=true:=beq_iff_eq.2 h2;rw[decide_eq_true (show x.feet.length=x.chain.secs.length by omega)]
   cases h3:Yad x.new 0 200 with
   | false =>
    refine Yjo (Zyl x) ?_ rfl;rw[h3]at c1
    repeat(first|exact trivial|refine⟨by first|exact h1|exact h2'|exact h3|exact c0|exact c1|rw[h3];exact c1|omega,?_⟩)
   | true =>
    rw[h3]at c1
    by_cases h4:x.opn.length<=4
    ·have h4':decide ((x.opn.length:Int)<=4)=true:=decide_eq_true (by omega);rw[decide_eq_true h4]
     cases h5:Ycq x.opn (x.chain.days+1) with
     | false =>
      refine Yjo (Zyj x) ?_ rfl
      repeat(first|exact trivial|refine⟨by first|exact h1|exact h2'|exact h3|exact h4'|exact h5|exact hi|exact c0|exact c1|exact c4|rw[h3];exact c1|omega,?_⟩)
     | true =>
      cases h6:Yad x.stock 0 200 with
      | false =>
       refine Yjo (Zyi x) ?_ rfl
       repeat(first|exact trivial|refine⟨by first|exact h1|exact h2'|exact h3|exact h4'|exact h5|exact h6|exact hi|exact c0|exact c1|exact c2|exact c4|rw[h3];exact c1|omega,?_⟩)
      | true =>
       refine Yjo (Zyh x) ?_ rfl
       repeat(first|exact trivial|refine⟨by first|exact h1|exact h2'|exact h3|exact h4'|exact h5|exact h6|exact hi|exact c0|exact c1|exact c2|exact c3|exact c4|rw[h3];exact c1|omega,?_⟩)
    ·have h4':decide ((x.opn.length:Int)<=4)=false:=decide_eq_false (by omega);rw[decide_eq_false h4];refine Yjo (Zyk x) ?_ rfl
     repeat(first|exact trivial|refine⟨by first|exact h1|exact h2'|exact h3|exact h4'|exact c0|exact c1|rw[h3];exact c1|omega,?_⟩)
  ·have h2':((x.feet.length:Int)==(x.chain.secs.length:Int))=false:=beq_eq_false_iff_ne.2 h2;rw[decide_eq_false (show ¬x.feet.length=x.chain.secs.length by omega)];refine Yjo (Zym x) ?_ rfl
   repeat(first|exact trivial|refine⟨by first|exact h1|exact h2'|exact c0,?_⟩)
def okAt (x:FBook)(i:Nat):Bool:=okR x&&(x.feet.take i).all fun n=>Yad n 1 30
theorem Zsy (x:FBook){i:Nat}(h:i<x.feet.length):okAt x (i+1)=(okAt x i&&Yad (x.feet.getD i 0) 1 30):=by
 unfold okAt;rw[Yxi x.feet i 0 h,List.all_append,<-Bool.and_assoc];simp
theorem Zld (x:FBook){i:Nat}(h:okAt x i=false):okAt x x.feet.length=false:=by
 cases hb:okAt x x.feet.length with
 | false=>rfl
 | true =>
  unfold okAt at h hb;rw[Bool.and_eq_true,List.take_length,List.all_eq_true]at hb;rw[hb.1,Bool.true_and,List.all_eq_false]at h;obtain⟨n,hn,h2⟩:=h;exact absurd (hb.2 n (List.mem_of_mem_take hn)) h2
theorem Zlc (x:FBook):okAt x x.feet.length=Yey x:=by
 rw[Bool.eq_iff_iff,Yf1];unfold okAt okR;rw[List.take_length];simp only[Bool.and_eq_true,decide_eq_true_eq,Ya2,Znk,check_zero,List.all_eq_true,Yc0]
 constructor
 ·rintro⟨⟨⟨⟨⟨⟨⟨h1,h2⟩,h3⟩,h4⟩,h5,h5'⟩,h6⟩,h7⟩,h8⟩
  exact⟨h1,h2,h3,h4,h6,h7,h8,Yxs x.opn (-1) (by omega) h5 fun d hd=>by have:=h5' d hd;omega⟩
 ·intro h;exact⟨⟨⟨⟨⟨⟨⟨h.chain,h.feet⟩,h.new⟩,h.opnl⟩,h.opn.2,fun d hd=>by have:=h.opn.1 d hd;omega⟩,h.stock⟩,h.make⟩,h.each⟩
theorem Xem {x:FBook}(hs:FSmall x):CF 19 [Yab x] (.I (Ylm x)):=by
 have hl:=hs.feet;obtain⟨n,hn,h1,h2⟩:=Yll (okAt x) x.feet.length
 have hend:okAt x n=Yey x:=by
  rw[<-Zlc];rcases h2 with h2|rfl
  ·rw[h2,Zld x h2]
  ·rfl
 have hloop:LF 67 (k_19 [1,1,0,1]) (Ygd x (okAt x 0) 0) .normal (Ygd x (okAt x n) n):=by
  refine LF.each (id:=0) (c:=k_19 [1,1,0,1,0,0]) (by kernel_rfl) n (fun i=>Ygd x (okAt x i) i) (fun i hi=>?_) ?_
  ·have hok:=h1 i hi;have c:=(Yb9 (x.feet.getD i 0) 1 30).up;have hi64:Yae ((i:Int)+1):=by simp only[Yae];omega
   exact⟨_,_,_,_,_,_,Zyo x (okAt x i) i (Yad (x.feet.getD i 0) 1 30),by repeat(first|exact trivial|refine⟨by first|exact hok|exact c|exact Yat (show i<x.feet.length by omega)|exact hi64|omega,?_⟩),by rw[Zsy x (by omega),hok];rfl⟩
  ·rcases h2 with h2|rfl
   ·exact⟨_,_,_,_,_,_,_,Ytl x (okAt x n) n,by repeat(first|exact trivial|refine⟨by exact h2,?_⟩),.inl ⟨rfl,rfl⟩,rfl⟩
   ·cases hb:okAt x x.feet.length with
    | false=>exact⟨_,_,_,_,_,_,_,Ytl x false _,by repeat(first|exact trivial|refine⟨by rfl,?_⟩),.inl ⟨rfl,rfl⟩,rfl⟩
    | true=>exact⟨_,_,_,_,_,_,_,Zrq x true _,by repeat(first|exact trivial|refine⟨by first|rfl|exact Yay,?_⟩),.inl ⟨rfl,rfl⟩,rfl⟩
 rw[hend]at hloop;have h0:okAt x 0=okR x:=by unfold okAt;simp
 rw[h0]at hloop;unfold Ylm
 cases h:Yey x with
 | false =>
  rw[h]at hloop;exact Yaa (GF 67) Xcj (Xd5 x _ _) ⟨Zgm x hs,hloop,trivial⟩
 | true =>
  rw[h]at hloop;exact Yaa (GF 67) Xcj (Zyg x _ _) ⟨Zgm x hs,hloop,trivial⟩
theorem Zyz (a b:Work):CF 84 [wkD a,wkD b] (.bool (decide (a.d<b.d)||(decide (a.d=b.d)&&decide (a.s<b.s)))):=by
 by_cases h1:a.d<b.d
 ·rw[decide_eq_true h1];exact Yaa (GF 24) Zcf (Xeb a b) (by repeat(first|exact trivial|refine⟨by first|exact decide_eq_true h1|omega,?_⟩))
 ·rw[decide_eq_false h1,Bool.false_or];have h1':=decide_eq_false h1
  by_cases h2:a.d=b.d
  ·have h2':(a.d==b.d)=true:=beq_iff_eq.2 h2;rw[decide_eq_true h2,Bool.true_and];exact Yaa (GF 24) Zcf (Xec a b) (by repeat(first|exact trivial|refine⟨by first|exact h1'|exact h2'|omega,?_⟩))
  ·have h2':(a.d==b.d)=false:=beq_eq_false_iff_ne.2 h2;rw[decide_eq_false h2,Bool.false_and];exact Yaa (GF 24) Zcf (Xea a b) (by repeat(first|exact trivial|refine⟨by first|exact h1'|exact h2'|omega,?_⟩))
def bef (a b:Work):Bool:=decide (a.d<b.d)||(decide (a.d=b.d)&&decide (a.s<b.s))
theorem Xgh {a b:Work}:bef a b=true↔wlt a b:=by
 unfold bef wlt;simp only[Bool.or_eq_true,Bool.and_eq_true,decide_eq_true_eq]
theorem Ynj {x:FBook}(hx:FIn x){plan:List Work}(hp:PlanOk x plan):CF 74 [Yab x,.z .work plan] (.I (Ybf x plan)):=by
 have hl:=hp.1;refine Yaa (GF 25) Xhf (Xd1 x plan (Ybf x plan) plan.length) ⟨?_,trivial⟩;refine LF.each (id:=0) (c:=k_74 [1,1,0,1,0,0]) (by kernel_rfl) plan.length (fun i=>Yok x plan (Ybf x (plan.take i)) i) (fun i hi=>?_) ⟨_,_,_,_,_,_,_,Zrf x plan _ _,⟨Yay,trivial⟩,.inl ⟨rfl,rfl⟩,by rw[List.take_length]⟩;have hs:=(hp.2 _ (Ybw Yam hi)).s;have hin:=Zuy hx (hp.take (i+1));have he:=Zmv x plan hi;rw[he]at hin
 exact⟨_,_,_,_,_,_,Zx9 x plan _ i,⟨Yat hi,⟨by omega,by omega⟩,by omega,hs,by omega,Yap (by omega) (by omega),Yap (by omega) (by omega),trivial⟩,by rw[he]⟩
theorem Zqj {x:FBook}(hx:FIn x){plan:List Work}(hp:PlanOk x plan):CF 75 [Yab x,.z .work plan] (.I (Yoz x plan)):=by
 have hb:k_75 [1,0,1]=.block 0 (.loop (k_75 [1,0,1,0,0])):=by kernel_rfl
 have hl:=hp.1;have hst:=hx.stock
 have hround:∀ i,i<plan.length->CF 74 [Yab x,.z .work (List.drop 0 (List.take (Int.toNat ((i:Int)+1)) plan))] (.I (Ybf x (plan.take (i+1))))/\Yae (x.make*(plan.getD i Yam).d)/\Yae (x.stock+x.make*(plan.getD i Yam).d)/\(Ybf x (plan.take (i+1))>x.stock+x.make*(plan.getD i Yam).d↔x.stock<Yku x plan i):=by
  intro i hi;have hd:=(hp.2 _ (Ybw Yam hi)).d;have m:=Xe4 hx.make hd;refine⟨?_,Yap (by omega) (by omega),Yap (by omega) (by omega),by unfold Yku;omega⟩;rw[List.drop_zero,show((i:Int)+1).toNat=i+1 by omega];exact Ynj hx (hp.take (i+1))
 have hon:∀ k,k<=plan.length->(∀ i,i<k->Yku x plan i<=x.stock)->∀ i,i<k->∃ dec orc lorc ks ps L1,runK (MF 31) dec orc lorc (k_75 [1,0,1,0,0]) (Yhm x plan i) ks=some (ps,.normal,L1)/\allP ps/\L1=Yhm x plan (i+1):=by
  intro k hk h i hi;obtain⟨r1,r2,r3,r4⟩:=hround i (by omega);have h':=h i hi;have k2:Yae ((i:Int)+1):=Yap (by omega) (by omega);exact⟨_,_,_,_,_,_,Zxy x plan i _,⟨Yat (by omega),k2,by omega,r1,⟨by omega,by omega⟩,by omega,r2,r3,decide_eq_false (fun hc=>by have:=r4.1 hc;omega),k2,trivial⟩,rfl⟩
 unfold Yoz
 cases hsh:Yly x plan with
 | none=>exact Yaa (GF 31) Xch (Zxx x plan plan.length) ⟨LF.each hb plan.length (Yhm x plan) (hon _ (Nat.le_refl _) (Yqe hsh)) ⟨_,_,_,_,_,_,_,Zql x plan _,⟨Yay,trivial⟩,.inl ⟨rfl,rfl⟩,rfl⟩,trivial⟩
 | some k =>
  obtain⟨h1,h2,h3⟩:=Yqd hx hsh;obtain⟨r1,r2,r3,r4⟩:=hround k h1;have k2:Yae ((k:Int)+1):=Yap (by omega) (by omega);exact Yaa (GF 31) Xch (Xdh x plan k (Ybf x (plan.take (k+1)))) ⟨LF.each hb k (Yhm x plan) (hon k (by omega) h3) ⟨_,_,_,_,_,_,_,Zqk x plan k _,⟨Yat h1,k2,by omega,r1,⟨by omega,by omega⟩,by omega,r2,r3,decide_eq_true (r4.2 h2),trivial⟩,.inr ⟨rfl,rfl⟩,rfl⟩,trivial⟩
structure FRoom (x:FBook):Prop where
 chain:Room x.chain
 feet:x.feet.length*8<=140737488355328
 opn:x.opn.length*8<=140737488355328
theorem Zzn {x:FBook}(hr:FRoom x):CF 6 [Yab x] (Yab x) :=
 Yaa (GF 16) Xe0 (Zzo x) ⟨(Zle hr.chain).up,(Yvk x.feet hr.feet).up,(Yvk x.opn hr.opn).up,trivial⟩
theorem Xaf {x:FBook}(hs:FSmall x):CF 9 [Yab x,Yab x] (.bool true):=by
 have c1:=(Zlu hs.chain).up;have c2:=(Yr5 x.feet x.feet hs.feet).up;have c3:=(Yr5 x.opn x.opn hs.opn).up;rw[decide_eq_true rfl]at c2 c3;have e1:(x.new==x.new)=true:=by simp
 have e2:(x.stock==x.stock)=true:=by simp
 have e3:(x.make==x.make)=true:=by simp
 rw[<-e3];exact Yaa (GF 45) Xfq (Xag x) (by repeat(first|exact trivial|refine⟨by first|exact c1|exact c2|exact c3|exact e1|exact e2|exact e3|omega,?_⟩))
noncomputable abbrev Yhu (p:List Nat):Code:=Code.at p (body Proofs.Tryz.f100)
noncomputable abbrev Ylj (p:List Nat):Code:=Code.at p (body Proofs.Tryz.f124)
noncomputable abbrev k_98 (p:List Nat):Code:=Code.at p (body Proofs.Tryz.f98)
noncomputable abbrev Yo2 (p:List Nat):Code:=Code.at p (body Proofs.Tryz.f123)
theorem Yvg:FnOk PRG (MF 45) 100 (body Tryz.f100) [.tmp 4]:=by refine⟨Tryz.f100,?_,?_,?_,?_,?_⟩<;>kernel_rfl
theorem Zhb:FnOk PRG (MF 36) 124 (body Tryz.f124) [.tmp 6]:=by refine⟨Tryz.f124,?_,?_,?_,?_,?_⟩<;>kernel_rfl
theorem Xcu:FnOk PRG (MF 39) 98 (body Tryz.f98) [.tmp 4]:=by refine⟨Tryz.f98,?_,?_,?_,?_,?_⟩<;>kernel_rfl
theorem Ywm:FnOk PRG (MF 39) 123 (body Tryz.f123) [.tmp 6]:=by refine⟨Tryz.f123,?_,?_,?_,?_,?_⟩<;>kernel_rfl
theorem Zuw:FnOk PRG (MF 5) 96 (body Tryz.f96) [.cell 2 124]:=by refine⟨Tryz.f96,?_,?_,?_,?_,?_⟩<;>kernel_rfl
theorem Yn8:FnOk PRG (MF 28) 122 (body Tryz.f122) [.tmp 5]:=by refine⟨Tryz.f122,?_,?_,?_,?_,?_⟩<;>kernel_rfl
theorem Zui:FnOk PRG (MF 4) 70 (body Tryz.f70) [.tmp 2]:=by refine⟨Tryz.f70,?_,?_,?_,?_,?_⟩<;>kernel_rfl
def Ydr (x:FBook)(m:Mp)(th:LL)(wr:LI)(on:W4)(k s:Nat)(d:Int)(y:Work)(r:List Work):KV :=
 [(.tmp 2,.d (D.ptr 2 0)),
  (.tmp 3,.d (D.ptr 3 0)),
  (.tmp 5,.d (.own 41 (y::r).length)),
  (.tmp 6,.d (.I k)),
  (.tmp 7,.d (.I d)),
  (.tmp 15,.d (D.z E.int (FBook.opn x))),
  (.tmp 16,.d (D.I ((List.length (FBook.opn x):Int)))),
  (.tmp 17,.d (.I k)),
  (.tmp 25,.d (D.I ((List.length (FBook.feet x):Int)))),
  (.tmp 26,.d (.I s)),
  (.box 2,.bz (cellsOf (fbkD x m th wr))),
  (.box 3,.bz [D.I (W4.a on),D.I (W4.b on),D.I (W4.c on),D.I (W4.d on)]),
  (.obj 41,.ob (some ⟨.work,y::r⟩))]
def Yl7:List Key:=[.tmp 2,.tmp 3,.tmp 5,.tmp 6,.tmp 7,.tmp 15,.tmp 16,.tmp 17,.tmp 25,.tmp 26,.box 2,.box 3,.obj 41]
def Ygw (x:FBook)(m:Mp)(th:LL)(wr:LI)(on:W4)(k:Nat)(y:Work)(r:List Work):KV :=
 [(.tmp 2,.d (D.ptr 2 0)),
  (.tmp 3,.d (D.ptr 3 0)),
  (.tmp 5,.d (.own 41 (y::r).length)),
  (.tmp 15,.d (D.z E.int (FBook.opn x))),
  (.tmp 16,.d (D.I ((List.length (FBook.opn x):Int)))),
  (.tmp 17,.d (.I k)),
  (.box 2,.bz (cellsOf (fbkD x m th wr))),
  (.box 3,.bz [D.I (W4.a on),D.I (W4.b on),D.I (W4.c on),D.I (W4.d on)]),
  (.obj 41,.ob (some ⟨.work,y::r⟩))]
def Yvf:List Key:=[.tmp 2,.tmp 3,.tmp 5,.tmp 15,.tmp 16,.tmp 17,.box 2,.box 3,.obj 41]
def Ygx (x:FBook)(m:Mp)(th:LL)(wr:LI)(on:W4)(k s:Nat)(d:Int):KV :=
 [(.tmp 2,.d (D.ptr 2 0)),
  (.tmp 3,.d (D.ptr 3 0)),
  (.tmp 5,.d (.sl true .work [])),
  (.tmp 6,.d (.I k)),
  (.tmp 7,.d (.I d)),
  (.tmp 15,.d (D.z E.int (FBook.opn x))),
  (.tmp 16,.d (D.I ((List.length (FBook.opn x):Int)))),
  (.tmp 17,.d (.I k)),
  (.tmp 25,.d (D.I ((List.length (FBook.feet x):Int)))),
  (.tmp 26,.d (.I s)),
  (.box 2,.bz (cellsOf (fbkD x m th wr))),
  (.box 3,.bz [D.I (W4.a on),D.I (W4.b on),D.I (W4.c on),D.I (W4.d on)]),
  (.obj 41,.ob none)]
def Ypf:List Key:=[.tmp 2,.tmp 3,.tmp 5,.tmp 6,.tmp 7,.tmp 15,.tmp 16,.tmp 17,.tmp 25,.tmp 26,.box 2,.box 3,.obj 41]
def Ye3 (x:FBook)(m:Mp)(th:LL)(wr:LI)(on:W4)(k:Nat):KV :=
 [(.tmp 2,.d (D.ptr 2 0)),
  (.tmp 3,.d (D.ptr 3 0)),
  (.tmp 5,.d (.sl true .work [])),
  (.tmp 15,.d (D.z E.int (FBook.opn x))),
  (.tmp 16,.d (D.I ((List.length (FBook.opn x):Int)))),
  (.tmp 17,.d (.I k)),
  (.box 2,.bz (cellsOf (fbkD x m th wr))),
  (.box 3,.bz [D.I (W4.a on),D.I (W4.b on),D.I (W4.c on),D.I (W4.d on)]),
  (.obj 41,.ob none)]
def Ypg:List Key:=[.tmp 2,.tmp 3,.tmp 5,.tmp 15,.tmp 16,.tmp 17,.box 2,.box 3,.obj 41]
def Ymh (x:FBook)(m:Mp)(th:LL)(wr:LI)(s:Nat)(set:Int)  : KV :=
 [(.tmp 1,.d (D.I (s:Int))),
  (.tmp 2,.d (D.I set)),
  (.tmp 3,.d (D.ptr 3 0)),
  (.tmp 7,.d (D.ptr 7 0)),
  (.box 3,.bz (cellsOf (fbkD x m th wr))),
  (.box 7,.bz [D.I 0,D.I 0,D.I 0,D.I 0])]
def Yy7:List Key:=[.tmp 1,.tmp 2,.tmp 3,.tmp 7,.box 3,.box 7]
def Ymg:List Key:=[.tmp 1,.tmp 3,.tmp 7,.box 3,.box 7]
def Yee (x:FBook)(m:Mp)(th:LL)(wr:LI)(s:Nat)(set:Int)   : KV :=
 [(.tmp 1,.d (D.I (s:Int))),
  (.tmp 3,.d (D.ptr 3 0)),
  (.tmp 7,.d (D.ptr 7 0)),
  (.box 3,.bz (cellsOf (fbkD x m th wr))),
  (.box 7,.bx (some ⟨false,cellsOf (Ynd (zeroW.set s set))⟩))]
def Yd9 (x:FBook)(m:Mp)(th:LL)(wr:LI)(s:Nat)(i j:Nat)(y:Int)(r:LI):KV :=
 [(.tmp 1,.d (D.I (s:Int))),
  (.tmp 2,.d (D.ptr 2 0)),
  (.tmp 5,.d (.own 36 (y::r).length)),
  (.tmp 6,.d (.I i)),
  (.tmp 13,.d (D.I ((1:Int)*(2:Int) ^ Min.min (Int.toNat ((List.length (FBook.opn x):Int))) 64))),
  (.tmp 14,.d (.I i)),
  (.tmp 17,.d (.own 36 (y::r).length)),
  (.tmp 18,.d (.I (y::r).length)),
  (.tmp 19,.d (.I j)),
  (.box 2,.bz (cellsOf (fbkD x m th wr))),
  (.obj 36,.ob (some ⟨.int,y::r⟩))]
def Yuh:List Key:=[.tmp 1,.tmp 2,.tmp 5,.tmp 6,.tmp 13,.tmp 14,.tmp 17,.tmp 18,.tmp 19,.box 2,.obj 36]
def Yix (x:FBook)(m:Mp)(th:LL)(wr:LI)(s:Nat)(i:Nat)(y:Int)(r:LI):KV :=
 [(.tmp 1,.d (D.I (s:Int))),
  (.tmp 2,.d (D.ptr 2 0)),
  (.tmp 5,.d (.own 36 (y::r).length)),
  (.tmp 13,.d (D.I ((1:Int)*(2:Int) ^ Min.min (Int.toNat ((List.length (FBook.opn x):Int))) 64))),
  (.tmp 14,.d (.I i)),
  (.box 2,.bz (cellsOf (fbkD x m th wr))),
  (.obj 36,.ob (some ⟨.int,y::r⟩))]
def Zap:List Key:=[.tmp 1,.tmp 2,.tmp 5,.tmp 13,.tmp 14,.box 2,.obj 36]
def Yj2 (x:FBook)(m:Mp)(th:LL)(wr:LI)(s:Nat)(i:Nat):KV :=
 [(.tmp 1,.d (D.I (s:Int))),
  (.tmp 2,.d (D.ptr 2 0)),
  (.tmp 5,.d (.sl true .int [])),
  (.tmp 6,.d (.I i)),
  (.tmp 13,.d (D.I ((1:Int)*(2:Int) ^ Min.min (Int.toNat ((List.length (FBook.opn x):Int))) 64))),
  (.tmp 14,.d (.I i)),
  (.tmp 17,.d (.sl true .int [])),
  (.tmp 18,.d (.I 0)),
  (.tmp 19,.d (.I 0)),
  (.box 2,.bz (cellsOf (fbkD x m th wr))),
  (.obj 36,.ob none)]
def Zvx:List Key:=[.tmp 1,.tmp 2,.tmp 5,.tmp 6,.tmp 13,.tmp 14,.tmp 17,.tmp 18,.tmp 19,.box 2,.obj 36]
def Yk6 (x:FBook)(m:Mp)(th:LL)(wr:LI)(s:Nat)(i:Nat):KV :=
 [(.tmp 1,.d (D.I (s:Int))),
  (.tmp 2,.d (D.ptr 2 0)),
  (.tmp 5,.d (.sl true .int [])),
  (.tmp 13,.d (D.I ((1:Int)*(2:Int) ^ Min.min (Int.toNat ((List.length (FBook.opn x):Int))) 64))),
  (.tmp 14,.d (.I i)),
  (.box 2,.bz (cellsOf (fbkD x m th wr))),
  (.obj 36,.ob none)]
def Zh1:List Key:=[.tmp 1,.tmp 2,.tmp 5,.tmp 13,.tmp 14,.box 2,.obj 36]
def Ycx (p q:List Work)(i:Nat):KV :=
 [(.tmp 0,.d (D.z E.work p)),
  (.tmp 1,.d (D.z E.work q)),
  (.tmp 2,.d (D.fn 82 [] [])),
  (.tmp 11,.d (D.z E.work p)),
  (.tmp 12,.d (D.I ((List.length p:Int)))),
  (.tmp 13,.d (.I i))]
def Yoc:List Key:=[.tmp 0,.tmp 1,.tmp 2,.tmp 11,.tmp 12,.tmp 13]
def Ydi (x:FBook)(m:Mp)(th:LL)(wr:LI)(s:Nat)(set:Int)(plan:List Work)(i:Nat):KV :=
 [(.tmp 1,.d (D.I (s:Int))),
  (.tmp 3,.d (D.ptr 3 0)),
  (.tmp 8,.d (D.z E.work plan)),
  (.tmp 21,.d (D.I (Book.days (FBook.chain x)+(1:Int)))),
  (.tmp 22,.d (.I i)),
  (.box 3,.bz (cellsOf (fbkD x m th wr)))]
def Ypk:List Key:=[.tmp 1,.tmp 3,.tmp 8,.tmp 21,.tmp 22,.box 3]
def Yjm (x:FBook)(m:Mp)(th:LL)(wr:LI)(s:Nat)(set:Int)(plan:List Work)(i:Nat)(v:Int):KV :=
 [(.tmp 1,.d (D.I (s:Int))),(.tmp 3,.d (D.ptr 3 0)),(.tmp 8,.d (D.z E.work plan)),(.tmp 21,.d (D.I (Book.days (FBook.chain x)+(1:Int)))),(.tmp 22,.d (D.I (i:Int))),(.box 3,.bz (cellsOf (fbkD x m th wr))),(.tmp 6,.d (D.bool false))]
def Yj0 (p q:List Work)(i:Nat)  : KV :=
 [(.tmp 0,.d (D.z E.work p)),(.tmp 1,.d (D.z E.work q)),(.tmp 2,.d (D.fn 82 [] [])),(.tmp 11,.d (D.z E.work p)),(.tmp 12,.d (D.I ((List.length p:Int)))),(.tmp 13,.d (D.I (i:Int))),(.tmp 6,.d (D.I 1))]
def Yob (p q:List Work)(i:Nat)(c:Int):KV :=
 [(.tmp 0,.d (D.z E.work p)),(.tmp 1,.d (D.z E.work q)),(.tmp 2,.d (D.fn 82 [] [])),(.tmp 11,.d (D.z E.work p)),(.tmp 12,.d (D.I ((List.length p:Int)))),(.tmp 13,.d (D.I (i:Int))),(.tmp 6,.d (D.I c))]
theorem Zde (x:FBook)(m:Mp)(th:LL)(wr:LI)(on:W4)(k s:Nat)(d:Int)(y:Work)(r:List Work) :runK (MF 45) [(27,true),(35,true)] [] [] (Yhu [1,1,1,0,1,0,0,1,1,0,0,1,1,0,0]) (Ydr x m th wr on k s d y r) Yl7 =some ([decide ((s:Int)<(x.feet.length:Int))=true,(0:Int)<=(s:Int)/\(s:Int)<(Nat.cast:Nat->Int) 4,0+s*1+1<=4,(0:Int)<=(k:Int),(IntKind.wrap .i64 ((Nat.cast:Nat->Int) (BitVec.toNat (BitVec.ofInt 64 (Int.fdiv (List.getD [W4.a on,W4.b on,W4.c on,W4.d on] (0+s*1) (0:Int)) ((2:Int) ^ Min.min (k) 64))&&& BitVec.ofInt 64 (1:Int))))==(1:Int))=true,(y::r).length=List.length ((y::r)),List.length ((y::r)++[Work.mk d ((s:Int))])*(16+1)<=140737488355328,Yae ((s:Int)+(1:Int))],Ex.normal,Ydr x m th wr on k (s+1) d y (r++[⟨d,(s:Int)⟩])):=by kernel_rfl
theorem Zk4 (x:FBook)(m:Mp)(th:LL)(wr:LI)(on:W4)(k s:Nat)(d:Int)(y:Work)(r:List Work) :runK (MF 45) [(27,true),(35,false)] [] [] (Yhu [1,1,1,0,1,0,0,1,1,0,0,1,1,0,0]) (Ydr x m th wr on k s d y r) Yl7 =some ([decide ((s:Int)<(x.feet.length:Int))=true,(0:Int)<=(s:Int)/\(s:Int)<(Nat.cast:Nat->Int) 4,0+s*1+1<=4,(0:Int)<=(k:Int),(IntKind.wrap .i64 ((Nat.cast:Nat->Int) (BitVec.toNat (BitVec.ofInt 64 (Int.fdiv (List.getD [W4.a on,W4.b on,W4.c on,W4.d on] (0+s*1) (0:Int)) ((2:Int) ^ Min.min (k) 64))&&& BitVec.ofInt 64 (1:Int))))==(1:Int))=false,Yae ((s:Int)+(1:Int))],Ex.normal,Ydr x m th wr on k (s+1) d y r):=by kernel_rfl
theorem Zdf (x:FBook)(m:Mp)(th:LL)(wr:LI)(on:W4)(k s:Nat)(d:Int)(y:Work)(r:List Work) :runK (MF 45) [(27,false)] [] [] (Yhu [1,1,1,0,1,0,0,1,1,0,0,1,1,0,0]) (Ydr x m th wr on k s d y r) Yl7 =some ([decide ((s:Int)<(x.feet.length:Int))=false],Ex.exit 2,Ydr x m th wr on k s d y r):=by kernel_rfl
theorem Zk5 (x:FBook)(m:Mp)(th:LL)(wr:LI)(on:W4)(k:Nat)(y:Work)(r:List Work)(s:Nat)(z:Work)(q:List Work) :runK (MF 45) [(18,true)] [] [(2,(Yl7,(.normal,Ydr x m th wr on k s (x.opn.getD k 0) z q)))] (Yhu [1,1,1,0,1,0,0]) (Ygw x m th wr on k y r) Yvf =some ([decide ((k:Int)<(x.opn.length:Int))=true,(0:Int)<=(k:Int)/\(k:Int)<(x.opn.length:Int),0+1<=1,LF 45 (Yhu [1,1,1,0,1,0,0,1,1,0,0,1,1]) [(.tmp 2,.d (D.ptr 2 0)),(.tmp 3,.d (D.ptr 3 0)),(.tmp 5,.d (D.own 41 ((y::r).length))),(.tmp 6,.d (D.I (k:Int))),(.tmp 7,.d (D.I (List.getD x.opn (k) (0:Int)))),(.tmp 15,.d (D.z E.int x.opn)),(.tmp 16,.d (D.I ((x.opn.length:Int)))),(.tmp 17,.d (D.I (k:Int))),(.tmp 25,.d (D.I ((x.feet.length:Int)))),(.tmp 26,.d (D.I 0)),(.box 2,.bz (cellsOf (fbkD x m th wr))),(.box 3,.bz [D.I (W4.a on),D.I (W4.b on),D.I (W4.c on),D.I (W4.d on)]),(.obj 41,.ob (some (Ob.mk E.work (y::r))))] Ex.normal (Ydr x m th wr on k s (List.getD x.opn k (0:Int)) z q),Yae ((k:Int)+(1:Int))],Ex.normal,Ygw x m th wr on (k+1) z q):=by kernel_rfl
theorem Zdg (x:FBook)(m:Mp)(th:LL)(wr:LI)(on:W4)(k:Nat)(y:Work)(r:List Work) :runK (MF 45) [(18,false)] [] [] (Yhu [1,1,1,0,1,0,0]) (Ygw x m th wr on k y r) Yvf =some ([decide ((k:Int)<(x.opn.length:Int))=false],Ex.exit 0,Ygw x m th wr on k y r):=by kernel_rfl
theorem Zdh (x:FBook)(m:Mp)(th:LL)(wr:LI)(on:W4)(k s:Nat)(d:Int) :runK (MF 45) [(27,true),(35,true)] [] [] (Yhu [1,1,1,0,1,0,0,1,1,0,0,1,1,0,0]) (Ygx x m th wr on k s d) Yl7 =some ([decide ((s:Int)<(x.feet.length:Int))=true,(0:Int)<=(s:Int)/\(s:Int)<(Nat.cast:Nat->Int) 4,0+s*1+1<=4,(0:Int)<=(k:Int),(IntKind.wrap .i64 ((Nat.cast:Nat->Int) (BitVec.toNat (BitVec.ofInt 64 (Int.fdiv (List.getD [W4.a on,W4.b on,W4.c on,W4.d on] (0+s*1) (0:Int)) ((2:Int) ^ Min.min (k) 64))&&& BitVec.ofInt 64 (1:Int))))==(1:Int))=true,1*(16+1)<=140737488355328,Yae ((s:Int)+(1:Int))],Ex.normal,Ydr x m th wr on k (s+1) d ⟨d,(s:Int)⟩ []):=by kernel_rfl
theorem Zk9 (x:FBook)(m:Mp)(th:LL)(wr:LI)(on:W4)(k s:Nat)(d:Int) :runK (MF 45) [(27,true),(35,false)] [] [] (Yhu [1,1,1,0,1,0,0,1,1,0,0,1,1,0,0]) (Ygx x m th wr on k s d) Ypf =some ([decide ((s:Int)<(x.feet.length:Int))=true,(0:Int)<=(s:Int)/\(s:Int)<(Nat.cast:Nat->Int) 4,0+s*1+1<=4,(0:Int)<=(k:Int),(IntKind.wrap .i64 ((Nat.cast:Nat->Int) (BitVec.toNat (BitVec.ofInt 64 (Int.fdiv (List.getD [W4.a on,W4.b on,W4.c on,W4.d on] (0+s*1) (0:Int)) ((2:Int) ^ Min.min (k) 64))&&& BitVec.ofInt 64 (1:Int))))==(1:Int))=false,Yae ((s:Int)+(1:Int))],Ex.normal,Ygx x m th wr on k (s+1) d):=by kernel_rfl
theorem Zdi (x:FBook)(m:Mp)(th:LL)(wr:LI)(on:W4)(k s:Nat)(d:Int) :runK (MF 45) [(27,false)] [] [] (Yhu [1,1,1,0,1,0,0,1,1,0,0,1,1,0,0]) (Ygx x m th wr on k s d) Ypf =some ([decide ((s:Int)<(x.feet.length:Int))=false],Ex.exit 2,Ygx x m th wr on k s d):=by kernel_rfl
theorem Zla (x:FBook)(m:Mp)(th:LL)(wr:LI)(on:W4)(k:Nat)(s:Nat) :runK (MF 45) [(18,true)] [] [(2,(Ypf,(.normal,Ygx x m th wr on k s (x.opn.getD k 0))))] (Yhu [1,1,1,0,1,0,0]) (Ye3 x m th wr on k) Ypg =some ([decide ((k:Int)<(x.opn.length:Int))=true,(0:Int)<=(k:Int)/\(k:Int)<(x.opn.length:Int),0+1<=1,LF 45 (Yhu [1,1,1,0,1,0,0,1,1,0,0,1,1]) [(.tmp 2,.d (D.ptr 2 0)),(.tmp 3,.d (D.ptr 3 0)),(.tmp 5,.d (D.sl true E.work [])),(.tmp 6,.d (D.I (k:Int))),(.tmp 7,.d (D.I (List.getD x.opn (k) (0:Int)))),(.tmp 15,.d (D.z E.int x.opn)),(.tmp 16,.d (D.I ((x.opn.length:Int)))),(.tmp 17,.d (D.I (k:Int))),(.tmp 25,.d (D.I ((x.feet.length:Int)))),(.tmp 26,.d (D.I 0)),(.box 2,.bz (cellsOf (fbkD x m th wr))),(.box 3,.bz [D.I (W4.a on),D.I (W4.b on),D.I (W4.c on),D.I (W4.d on)]),(.obj 41,.ob Option.none)] Ex.normal (Ygx x m th wr on k s (List.getD x.opn k (0:Int))),Yae ((k:Int)+(1:Int))],Ex.normal,Ye3 x m th wr on (k+1)):=by kernel_rfl
theorem Zdk (x:FBook)(m:Mp)(th:LL)(wr:LI)(on:W4)(k:Nat) :runK (MF 45) [(18,false)] [] [] (Yhu [1,1,1,0,1,0,0]) (Ye3 x m th wr on k) Ypg =some ([decide ((k:Int)<(x.opn.length:Int))=false],Ex.exit 0,Ye3 x m th wr on k):=by kernel_rfl
theorem Zdj (x:FBook)(m:Mp)(th:LL)(wr:LI)(on:W4)(k:Nat)(s:Nat)(y:Work)(r:List Work) :runK (MF 45) [(18,true)] [] [(2,(Ypf,(.normal,Ydr x m th wr on k s (x.opn.getD k 0) y r)))] (Yhu [1,1,1,0,1,0,0]) (Ye3 x m th wr on k) Yvf =some ([decide ((k:Int)<(x.opn.length:Int))=true,(0:Int)<=(k:Int)/\(k:Int)<(x.opn.length:Int),0+1<=1,LF 45 (Yhu [1,1,1,0,1,0,0,1,1,0,0,1,1]) [(.tmp 2,.d (D.ptr 2 0)),(.tmp 3,.d (D.ptr 3 0)),(.tmp 5,.d (D.sl true E.work [])),(.tmp 6,.d (D.I (k:Int))),(.tmp 7,.d (D.I (List.getD x.opn (k) (0:Int)))),(.tmp 15,.d (D.z E.int x.opn)),(.tmp 16,.d (D.I ((x.opn.length:Int)))),(.tmp 17,.d (D.I (k:Int))),(.tmp 25,.d (D.I ((x.feet.length:Int)))),(.tmp 26,.d (D.I 0)),(.box 2,.bz (cellsOf (fbkD x m th wr))),(.box 3,.bz [D.I (W4.a on),D.I (W4.b on),D.I (W4.c on),D.I (W4.d on)]),(.obj 41,.ob Option.none)] Ex.normal (Ydr x m th wr on k s (List.getD x.opn k (0:Int)) y r),Yae ((k:Int)+(1:Int))],Ex.normal,Ygw x m th wr on (k+1) y r):=by kernel_rfl
theorem Zlq (x:FBook)(m:Mp)(th:LL)(wr:LI)(s:Nat)(set:Int)(plan:List Work)(i:Nat)(v:Int) :runK (MF 36) [(23,true),(34,false)] [(29,.I v)] [] (Ylj [1,1,1,1,0,1,0,0]) (Ydi x m th wr s set plan i) Ypk =some ([decide ((i:Int)<x.chain.days+(1:Int))=true,CF 48 [fbkD x m th wr,D.z E.work plan,D.I (s:Int),D.I (i:Int)] (D.I v),decide (v<x.chain.rule)=false,Yae ((i:Int)+(1:Int))],Ex.normal,Ydi x m th wr s set plan (i+1)):=by kernel_rfl
theorem Zd0 (x:FBook)(m:Mp)(th:LL)(wr:LI)(s:Nat)(set:Int)(plan:List Work)(i:Nat)(v:Int) :runK (MF 36) [(23,true),(34,true)] [(29,.I v)] [] (Ylj [1,1,1,1,0,1,0,0]) (Ydi x m th wr s set plan i) [.tmp 1,.tmp 3,.tmp 8,.tmp 21,.tmp 22,.box 3,.tmp 6] =some ([decide ((i:Int)<x.chain.days+(1:Int))=true,CF 48 [fbkD x m th wr,D.z E.work plan,D.I (s:Int),D.I (i:Int)] (D.I v),decide (v<x.chain.rule)=true],Ex.ret,Yjm x m th wr s set plan i v):=by kernel_rfl
theorem Zd1 (x:FBook)(m:Mp)(th:LL)(wr:LI)(s:Nat)(set:Int)(plan:List Work)(i:Nat) :runK (MF 36) [(23,false)] [] [] (Ylj [1,1,1,1,0,1,0,0]) (Ydi x m th wr s set plan i) Ypk =some ([decide ((i:Int)<x.chain.days+(1:Int))=false],Ex.exit 0,Ydi x m th wr s set plan i):=by kernel_rfl
theorem Xbs (x:FBook)(m:Mp)(th:LL)(wr:LI)(s:Nat)(i j:Nat)(y:Int)(r:LI) :runK (MF 39) [(20,true),(27,false)] [] [] (k_98 [1,0,1,1,0,1,0,0,1,1,0,0,1,0,1,0,0]) (Yd9 x m th wr s i j y r) Yuh =some ([decide ((j:Int)<((y::r).length:Int))=true,(y::r).length=List.length ((y::r)),(0:Int)<=(j:Int)/\(j:Int)<(List.length ((y::r)):Int),0+1<=1,(IntKind.wrap .i64 ((Nat.cast:Nat->Int) (BitVec.toNat (BitVec.ofInt 64 ((i:Int))&&& BitVec.ofInt 64 (List.getD ((y::r)) (j) (E.z (Ob.e (Ob.mk E.int (y::r))))))))==List.getD ((y::r)) (j) (E.z (Ob.e (Ob.mk E.int (y::r)))))=false,Yae ((j:Int)+(1:Int))],Ex.normal,Yd9 x m th wr s i (j+1) y r):=by kernel_rfl
theorem Zvt (x:FBook)(m:Mp)(th:LL)(wr:LI)(s:Nat)(i j:Nat)(y:Int)(r:LI) :runK (MF 39) [(20,true),(27,true)] [] [] (k_98 [1,0,1,1,0,1,0,0,1,1,0,0,1,0,1,0,0]) (Yd9 x m th wr s i j y r) Yuh =some ([decide ((j:Int)<((y::r).length:Int))=true,(y::r).length=List.length ((y::r)),(0:Int)<=(j:Int)/\(j:Int)<(List.length ((y::r)):Int),0+1<=1,(IntKind.wrap .i64 ((Nat.cast:Nat->Int) (BitVec.toNat (BitVec.ofInt 64 ((i:Int))&&& BitVec.ofInt 64 (List.getD ((y::r)) (j) (E.z (Ob.e (Ob.mk E.int (y::r))))))))==List.getD ((y::r)) (j) (E.z (Ob.e (Ob.mk E.int (y::r)))))=true],Ex.exit 1,Yd9 x m th wr s i j y r):=by kernel_rfl
theorem Zvu (x:FBook)(m:Mp)(th:LL)(wr:LI)(s:Nat)(i j:Nat)(y:Int)(r:LI) :runK (MF 39) [(20,false)] [] [] (k_98 [1,0,1,1,0,1,0,0,1,1,0,0,1,0,1,0,0]) (Yd9 x m th wr s i j y r) Yuh =some ([decide ((j:Int)<((y::r).length:Int))=false],Ex.exit 2,Yd9 x m th wr s i j y r):=by kernel_rfl
theorem Zn5 (x:FBook)(m:Mp)(th:LL)(wr:LI)(s:Nat)(i:Nat)(y:Int)(r:LI)(j:Nat) :runK (MF 39) [(15,true)] [] [(2,(Yuh,(.exit 1,Yd9 x m th wr s i j y r)))] (k_98 [1,0,1,1,0,1,0,0]) (Yix x m th wr s i y r) Zap =let Z0:=Int.toNat ((x.opn.length:Int));let Z1:=D.own 36 ((y::r).length);some ([decide ((i:Int)<(1:Int)*(2:Int) ^ Min.min Z0 64)=true,(y::r).length=List.length ((y::r)),LF 39 (k_98 [1,0,1,1,0,1,0,0,1,1,0,0,1,0,1]) [(.tmp 1,.d (D.I (s:Int))),(.tmp 2,.d (D.ptr 2 0)),(.tmp 5,.d Z1),(.tmp 6,.d (D.I (i:Int))),(.tmp 13,.d (D.I ((1:Int)*(2:Int) ^ Min.min Z0 64))),(.tmp 14,.d (D.I (i:Int))),(.tmp 17,.d Z1),(.tmp 18,.d (D.I ((List.length ((y::r)):Int)))),(.tmp 19,.d (D.I 0)),(.box 2,.bz (cellsOf (fbkD x m th wr))),(.obj 36,.ob (some (Ob.mk E.int (y::r))))] (Ex.exit 1) (Yd9 x m th wr s i j y r),Yae ((i:Int)+(1:Int))],Ex.normal,Yix x m th wr s (i+1) y r):=by kernel_rfl
theorem Xbt (x:FBook)(m:Mp)(th:LL)(wr:LI)(s:Nat)(i:Nat)(y:Int)(r:LI)(j:Nat)(b:Bool) :runK (MF 39) [(15,true),(32,false)] [(32,.bool b)] [(2,(Yuh,(.normal,Yd9 x m th wr s i j y r)))] (k_98 [1,0,1,1,0,1,0,0]) (Yix x m th wr s i y r) Zap =let Z0:=Int.toNat ((x.opn.length:Int));let Z1:=D.own 36 ((y::r).length);some ([decide ((i:Int)<(1:Int)*(2:Int) ^ Min.min Z0 64)=true,(y::r).length=List.length ((y::r)),LF 39 (k_98 [1,0,1,1,0,1,0,0,1,1,0,0,1,0,1]) [(.tmp 1,.d (D.I (s:Int))),(.tmp 2,.d (D.ptr 2 0)),(.tmp 5,.d Z1),(.tmp 6,.d (D.I (i:Int))),(.tmp 13,.d (D.I ((1:Int)*(2:Int) ^ Min.min Z0 64))),(.tmp 14,.d (D.I (i:Int))),(.tmp 17,.d Z1),(.tmp 18,.d (D.I ((List.length ((y::r)):Int)))),(.tmp 19,.d (D.I 0)),(.box 2,.bz (cellsOf (fbkD x m th wr))),(.obj 36,.ob (some (Ob.mk E.int (y::r))))] Ex.normal (Yd9 x m th wr s i j y r),CF 124 [fbkD x m th wr,D.I (s:Int),D.I (i:Int)] (D.bool b),b=false,Yae ((i:Int)+(1:Int))],Ex.normal,Yix x m th wr s (i+1) y r):=by kernel_rfl
theorem Zvv (x:FBook)(m:Mp)(th:LL)(wr:LI)(s:Nat)(i:Nat)(y:Int)(r:LI)(j:Nat)(b:Bool) :runK (MF 39) [(15,true),(32,true)] [(32,.bool b)] [(2,(Yuh,(.normal,Yd9 x m th wr s i j y r)))] (k_98 [1,0,1,1,0,1,0,0]) (Yix x m th wr s i y r) Zap =let Z0:=Int.toNat ((x.opn.length:Int));let Z1:=D.own 36 ((y::r).length);some ([decide ((i:Int)<(1:Int)*(2:Int) ^ Min.min Z0 64)=true,(y::r).length=List.length ((y::r)),LF 39 (k_98 [1,0,1,1,0,1,0,0,1,1,0,0,1,0,1]) [(.tmp 1,.d (D.I (s:Int))),(.tmp 2,.d (D.ptr 2 0)),(.tmp 5,.d Z1),(.tmp 6,.d (D.I (i:Int))),(.tmp 13,.d (D.I ((1:Int)*(2:Int) ^ Min.min Z0 64))),(.tmp 14,.d (D.I (i:Int))),(.tmp 17,.d Z1),(.tmp 18,.d (D.I ((List.length ((y::r)):Int)))),(.tmp 19,.d (D.I 0)),(.box 2,.bz (cellsOf (fbkD x m th wr))),(.obj 36,.ob (some (Ob.mk E.int (y::r))))] Ex.normal (Yd9 x m th wr s i j y r),CF 124 [fbkD x m th wr,D.I (s:Int),D.I (i:Int)] (D.bool b),b=true,(y::r).length=List.length ((y::r)),List.length ((y::r)++[(i:Int)])*(8+1)<=140737488355328,Yae ((i:Int)+(1:Int))],Ex.normal,Yix x m th wr s (i+1) y (r++[(i:Int)])):=by kernel_rfl
theorem Zvw (x:FBook)(m:Mp)(th:LL)(wr:LI)(s:Nat)(i:Nat)(y:Int)(r:LI) :runK (MF 39) [(15,false)] [] [] (k_98 [1,0,1,1,0,1,0,0]) (Yix x m th wr s i y r) Zap =some ([decide ((i:Int)<(1:Int)*(2:Int) ^ Min.min (Int.toNat ((x.opn.length:Int))) 64)=false],Ex.exit 0,Yix x m th wr s i y r):=by kernel_rfl
theorem Zvy (x:FBook)(m:Mp)(th:LL)(wr:LI)(s:Nat)(i:Nat) :runK (MF 39) [(20,false)] [] [] (k_98 [1,0,1,1,0,1,0,0,1,1,0,0,1,0,1,0,0]) (Yj2 x m th wr s i) Zvx =some ([decide ((0:Int)<(0:Int))=false],Ex.exit 2,Yj2 x m th wr s i):=by kernel_rfl
theorem Xbw (x:FBook)(m:Mp)(th:LL)(wr:LI)(s:Nat)(i:Nat)(b:Bool) :runK (MF 39) [(15,true),(32,false)] [(32,.bool b)] [(2,(Zvx,(.normal,Yj2 x m th wr s i)))] (k_98 [1,0,1,1,0,1,0,0]) (Yk6 x m th wr s i) Zh1 =some ([decide ((i:Int)<(1:Int)*(2:Int) ^ Min.min (Int.toNat ((x.opn.length:Int))) 64)=true,LF 39 (k_98 [1,0,1,1,0,1,0,0,1,1,0,0,1,0,1]) (Yj2 x m th wr s i) Ex.normal (Yj2 x m th wr s i),CF 124 [fbkD x m th wr,D.I (s:Int),D.I (i:Int)] (D.bool b),b=false,Yae ((i:Int)+(1:Int))],Ex.normal,Yk6 x m th wr s (i+1)):=by kernel_rfl
theorem Zvz (x:FBook)(m:Mp)(th:LL)(wr:LI)(s:Nat)(i:Nat)(b:Bool) :runK (MF 39) [(15,true),(32,true)] [(32,.bool b)] [(2,(Zvx,(.normal,Yj2 x m th wr s i)))] (k_98 [1,0,1,1,0,1,0,0]) (Yk6 x m th wr s i) Zap =some ([decide ((i:Int)<(1:Int)*(2:Int) ^ Min.min (Int.toNat ((x.opn.length:Int))) 64)=true,LF 39 (k_98 [1,0,1,1,0,1,0,0,1,1,0,0,1,0,1]) (Yj2 x m th wr s i) Ex.normal (Yj2 x m th wr s i),CF 124 [fbkD x m th wr,D.I (s:Int),D.I (i:Int)] (D.bool b),b=true,1*(8+1)<=140737488355328,Yae ((i:Int)+(1:Int))],Ex.normal,Yix x m th wr s (i+1) (i:Int) []):=by kernel_rfl
theorem Zv0 (x:FBook)(m:Mp)(th:LL)(wr:LI)(s:Nat)(i:Nat) :runK (MF 39) [(15,false)] [] [] (k_98 [1,0,1,1,0,1,0,0]) (Yk6 x m th wr s i) Zh1 =some ([decide ((i:Int)<(1:Int)*(2:Int) ^ Min.min (Int.toNat ((x.opn.length:Int))) 64)=false],Ex.exit 0,Yk6 x m th wr s i):=by kernel_rfl
theorem Zvm (p q:List Work)(i:Nat)(c:Int) :runK (MF 39) [(14,true),(21,false),(31,false)] [(29,.I c)] [] (Yo2 [1,0,1,0,0]) (Ycx p q i) Yoc =some ([decide ((i:Int)<(p.length:Int))=true,(0:Int)<=(i:Int)/\(i:Int)<(p.length:Int),0+2<=2,decide ((i:Int)>=(q.length:Int))=false,(0:Int)<=(i:Int)/\(i:Int)<(q.length:Int),0+2<=2,0+2<=2,0+2<=2,CF 82 [D.agg [D.I (Work.d (List.getD p (i) Yam)),D.I (Work.s (List.getD p (i) Yam))],D.agg [D.I (Work.d (List.getD q (i) Yam)),D.I (Work.s (List.getD q (i) Yam))]] (D.I c),(c != (0:Int))=false,Yae ((i:Int)+(1:Int))],Ex.normal,Ycx p q (i+1)):=by kernel_rfl
theorem Zff (p q:List Work)(i:Nat) :runK (MF 39) [(14,true),(21,true)] [] [] (Yo2 [1,0,1,0,0]) (Ycx p q i) [.tmp 0,.tmp 1,.tmp 2,.tmp 11,.tmp 12,.tmp 13,.tmp 6] =some ([decide ((i:Int)<(p.length:Int))=true,(0:Int)<=(i:Int)/\(i:Int)<(p.length:Int),0+2<=2,decide ((i:Int)>=(q.length:Int))=true],Ex.ret,Yj0 p q i ):=by kernel_rfl
theorem Zvn (p q:List Work)(i:Nat)(c:Int) :runK (MF 39) [(14,true),(21,false),(31,true)] [(29,.I c)] [] (Yo2 [1,0,1,0,0]) (Ycx p q i) [.tmp 0,.tmp 1,.tmp 2,.tmp 11,.tmp 12,.tmp 13,.tmp 6] =some ([decide ((i:Int)<(p.length:Int))=true,(0:Int)<=(i:Int)/\(i:Int)<(p.length:Int),0+2<=2,decide ((i:Int)>=(q.length:Int))=false,(0:Int)<=(i:Int)/\(i:Int)<(q.length:Int),0+2<=2,0+2<=2,0+2<=2,CF 82 [D.agg [D.I (Work.d (List.getD p (i) Yam)),D.I (Work.s (List.getD p (i) Yam))],D.agg [D.I (Work.d (List.getD q (i) Yam)),D.I (Work.s (List.getD q (i) Yam))]] (D.I c),(c != (0:Int))=true],Ex.ret,Yob p q i c):=by kernel_rfl
theorem Znh (p q:List Work)(i:Nat) :runK (MF 39) [(14,false)] [] [] (Yo2 [1,0,1,0,0]) (Ycx p q i) Yoc =some ([decide ((i:Int)<(p.length:Int))=false],Ex.exit 0,Ycx p q i):=by kernel_rfl
theorem Zk6 (x:FBook)(m:Mp)(th:LL)(wr:LI)(on:W4) :Yaj (MF 45) [(11,true)] [(10,wD 0 0 0 0)] [] (body Tryz.f100) [.tmp 4] [fbkD x m th wr,Ynd on] =some ([0+4<=4,CF 101 [] (D.agg [D.I 0,D.I 0,D.I 0,D.I 0]),eqI [W4.a on,W4.b on,W4.c on,W4.d on] [(0:Int),(0:Int),(0:Int),(0:Int)]=true],D.sl true E.work []):=by kernel_rfl
theorem Zk8 (x:FBook)(m:Mp)(th:LL)(wr:LI)(on:W4)(k:Nat) :Yaj (MF 45) [(11,false)] [(10,wD 0 0 0 0)] [(0,(Ypg,(.normal,Ye3 x m th wr on k)))] (body Tryz.f100) [.tmp 4] [fbkD x m th wr,Ynd on] =some ([0+4<=4,CF 101 [] (D.agg [D.I 0,D.I 0,D.I 0,D.I 0]),eqI [W4.a on,W4.b on,W4.c on,W4.d on] [(0:Int),(0:Int),(0:Int),(0:Int)]=false,LF 45 (Yhu [1,1,1,0,1]) (Ye3 x m th wr on 0) Ex.normal (Ye3 x m th wr on k)],D.sl true E.work []):=by kernel_rfl
theorem Zk7 (x:FBook)(m:Mp)(th:LL)(wr:LI)(on:W4)(k:Nat)(y:Work)(r:List Work) :Yaj (MF 45) [(11,false)] [(10,wD 0 0 0 0)] [(0,(Ypg,(.normal,Ygw x m th wr on k y r)))] (body Tryz.f100) [.tmp 4] [fbkD x m th wr,Ynd on] =some ([0+4<=4,CF 101 [] (D.agg [D.I 0,D.I 0,D.I 0,D.I 0]),eqI [W4.a on,W4.b on,W4.c on,W4.d on] [(0:Int),(0:Int),(0:Int),(0:Int)]=false,LF 45 (Yhu [1,1,1,0,1]) (Ye3 x m th wr on 0) Ex.normal (Ygw x m th wr on k y r),(y::r).length=List.length ((y::r))],D.z E.work ((y::r))):=by kernel_rfl
theorem Ztk (x:FBook)(m:Mp)(th:LL)(wr:LI)(s:Nat)(set:Int)(plan:List Work)(i:Nat) :Yaj (MF 36) [] [(10,wD 0 0 0 0),(16,.z .work plan)] [(1002,(Yy7,(.normal,Yee x m th wr s set))),(0,(Ypk,(.normal,Ydi x m th wr s set plan i)))] (body Tryz.f124) [.tmp 6] [fbkD x m th wr,.I (s:Int),.I set] =some ([CF 101 [] (D.agg [D.I 0,D.I 0,D.I 0,D.I 0]),LF 36 (Ylj [1,1,0]) [(.tmp 1,.d (D.I (s:Int))),(.tmp 2,.d (D.I set)),(.tmp 3,.d (D.ptr 3 0)),(.tmp 7,.d (D.ptr 7 0)),(.box 3,.bz (cellsOf (fbkD x m th wr))),(.box 7,.bz [D.I 0,D.I 0,D.I 0,D.I 0])] Ex.normal (Yee x m th wr s set),0+4<=4,CF 100 [fbkD x m th wr,D.agg [D.I (W4.a (W4.set zeroW s set)),D.I (W4.b (W4.set zeroW s set)),D.I (W4.c (W4.set zeroW s set)),D.I (W4.d (W4.set zeroW s set))]] (D.z E.work plan),Yae (x.chain.days+(1:Int)),LF 36 (Ylj [1,1,1,1,0,1]) (Ydi x m th wr s set plan 0) Ex.normal (Ydi x m th wr s set plan i)],D.bool true):=by kernel_rfl
theorem Xaa (x:FBook)(m:Mp)(th:LL)(wr:LI)(s:Nat)(set:Int)(plan:List Work)(i:Nat)(v:Int) :Yaj (MF 36) [] [(10,wD 0 0 0 0),(16,.z .work plan)] [(1002,(Yy7,(.normal,Yee x m th wr s set))),(0,(Ypk,(.ret,Yjm x m th wr s set plan i v)))] (body Tryz.f124) [.tmp 6] [fbkD x m th wr,.I (s:Int),.I set] =some ([CF 101 [] (D.agg [D.I 0,D.I 0,D.I 0,D.I 0]),LF 36 (Ylj [1,1,0]) [(.tmp 1,.d (D.I (s:Int))),(.tmp 2,.d (D.I set)),(.tmp 3,.d (D.ptr 3 0)),(.tmp 7,.d (D.ptr 7 0)),(.box 3,.bz (cellsOf (fbkD x m th wr))),(.box 7,.bz [D.I 0,D.I 0,D.I 0,D.I 0])] Ex.normal (Yee x m th wr s set),0+4<=4,CF 100 [fbkD x m th wr,D.agg [D.I (W4.a (W4.set zeroW s set)),D.I (W4.b (W4.set zeroW s set)),D.I (W4.c (W4.set zeroW s set)),D.I (W4.d (W4.set zeroW s set))]] (D.z E.work plan),Yae (x.chain.days+(1:Int)),LF 36 (Ylj [1,1,1,1,0,1]) (Ydi x m th wr s set plan 0) Ex.ret (Yjm x m th wr s set plan i v)],D.bool false):=by kernel_rfl
theorem Xbv (x:FBook)(m:Mp)(th:LL)(wr:LI)(s:Nat)(i:Nat) :Yaj (MF 39) [] [] [(0,(Zh1,(.normal,Yk6 x m th wr s i)))] (body Tryz.f98) [.tmp 4] [fbkD x m th wr,.I (s:Int)] =some ([(0:Int)<=(x.opn.length:Int)/\Yae ((1:Int)*(2:Int) ^ Min.min (Int.toNat ((x.opn.length:Int))) 64),LF 39 (k_98 [1,0,1,1,0,1]) (Yk6 x m th wr s 0) Ex.normal (Yk6 x m th wr s i)],D.sl true E.int []):=by kernel_rfl
theorem Xbu (x:FBook)(m:Mp)(th:LL)(wr:LI)(s:Nat)(i:Nat)(y:Int)(r:LI) :Yaj (MF 39) [] [] [(0,(Zh1,(.normal,Yix x m th wr s i y r)))] (body Tryz.f98) [.tmp 4] [fbkD x m th wr,.I (s:Int)] =some ([(0:Int)<=(x.opn.length:Int)/\Yae ((1:Int)*(2:Int) ^ Min.min (Int.toNat ((x.opn.length:Int))) 64),LF 39 (k_98 [1,0,1,1,0,1]) (Yk6 x m th wr s 0) Ex.normal (Yix x m th wr s i y r),(y::r).length=List.length ((y::r))],D.z E.int ((y::r))):=by kernel_rfl
theorem Zvl (p q:List Work)(i:Nat) :Yaj (MF 39) [(38,true)] [] [(0,(Yoc,(.normal,Ycx p q i)))] (body Tryz.f123) [.tmp 6] [.z .work p,.z .work q,.fn 82 [] []] =some ([LF 39 (Yo2 [1,0,1]) (Ycx p q 0) Ex.normal (Ycx p q i),decide ((p.length:Int)<(q.length:Int))=true],D.I (-(1:Int))):=by kernel_rfl
theorem Zvj (p q:List Work)(i:Nat) :Yaj (MF 39) [(38,false)] [] [(0,(Yoc,(.normal,Ycx p q i)))] (body Tryz.f123) [.tmp 6] [.z .work p,.z .work q,.fn 82 [] []] =some ([LF 39 (Yo2 [1,0,1]) (Ycx p q 0) Ex.normal (Ycx p q i),decide ((p.length:Int)<(q.length:Int))=false],D.I 0):=by kernel_rfl
theorem Zvk (p q:List Work)(i:Nat) :Yaj (MF 39) [] [] [(0,(Yoc,(.ret,Yj0 p q i)))] (body Tryz.f123) [.tmp 6] [.z .work p,.z .work q,.fn 82 [] []] =some ([LF 39 (Yo2 [1,0,1]) (Ycx p q 0) Ex.ret (Yj0 p q i)],D.I 1):=by kernel_rfl
theorem Xf7 (p q:List Work)(i:Nat)(c:Int) :Yaj (MF 39) [] [] [(0,(Yoc,(.ret,Yob p q i c)))] (body Tryz.f123) [.tmp 6] [.z .work p,.z .work q,.fn 82 [] []] =some ([LF 39 (Yo2 [1,0,1]) (Ycx p q 0) Ex.ret (Yob p q i c)],D.I c):=by kernel_rfl
theorem Zmr (x:FBook)(m:Mp)(th:LL)(wr:LI) :Yaj (MF 5) [] [] [] (body Tryz.f96) [.cell 2 124] [fbkD x m th wr] =some ([],D.agg [D.fn 122 [] [(cellsOf (fbkD x m th wr))]]):=by kernel_rfl
theorem Zms (x:FBook)(m:Mp)(th:LL)(wr:LI)(p q:List Work)(a b c:Int) :Yaj (MF 28) [(17,true)] [(10,.I a),(13,.I b),(24,.I c)] [] (body Tryz.f122) [.tmp 5] [.z .work p,.z .work q,.ref (cellsOf (fbkD x m th wr)) 0] =let Z0:Prop:=decide (a<b)=true;some ([CF 65 [fbkD x m th wr,D.z E.work p] (D.I a),CF 65 [fbkD x m th wr,D.z E.work q] (D.I b),Z0,Z0,Z0,Z0,Z0,Z0],D.bool true):=by kernel_rfl
theorem Zmt (x:FBook)(m:Mp)(th:LL)(wr:LI)(p q:List Work)(a b c:Int) :Yaj (MF 28) [(17,false),(21,false)] [(10,.I a),(13,.I b),(24,.I c)] [] (body Tryz.f122) [.tmp 5] [.z .work p,.z .work q,.ref (cellsOf (fbkD x m th wr)) 0] =let Z0:Prop:=decide (a<b)=false;some ([CF 65 [fbkD x m th wr,D.z E.work p] (D.I a),CF 65 [fbkD x m th wr,D.z E.work q] (D.I b),Z0,Z0,Z0,Z0,(a==b)=false,(a==b)=false,(a==b)=false,(a==b)=false,Z0,(a==b)=false,Z0],D.bool false):=by kernel_rfl
theorem Zmu (x:FBook)(m:Mp)(th:LL)(wr:LI)(p q:List Work)(a b c:Int) :Yaj (MF 28) [(17,false),(21,true)] [(10,.I a),(13,.I b),(24,.I c)] [] (body Tryz.f122) [.tmp 5] [.z .work p,.z .work q,.ref (cellsOf (fbkD x m th wr)) 0] =let Z0:Prop:=decide (a<b)=false;some ([CF 65 [fbkD x m th wr,D.z E.work p] (D.I a),CF 65 [fbkD x m th wr,D.z E.work q] (D.I b),Z0,Z0,Z0,Z0,(a==b)=true,(a==b)=true,(a==b)=true,CF 123 [D.z E.work p,D.z E.work q,D.fn 82 [] []] (D.I c),(a==b)=true,Z0,(a==b)=true,Z0],D.bool (decide (c<(0:Int)))):=by kernel_rfl
theorem Zmf (x:FBook)(m:Mp)(th:LL)(wr:LI) :Yaj (MF 4) [] [] [] (body Tryz.f70) [.tmp 2] [fbkD x m th wr] =some ([],D.fn 97 [] [(cellsOf (fbkD x m th wr))]):=by kernel_rfl
theorem Zz9 (x:FBook)(m:Mp)(th:LL)(wr:LI)(set:Int) :runK (MF 36) [] [] [] (Ylj [1,1,0]) (Ymh x m th wr 0 set) Ymg =some ([(0:Int)<=(Nat.cast:Nat->Int) 0/\(Nat.cast:Nat->Int) 0<(Nat.cast:Nat->Int) 4],.normal,Yee x m th wr 0 set):=by kernel_rfl
theorem Zz8 (x:FBook)(m:Mp)(th:LL)(wr:LI)(set:Int) :runK (MF 36) [] [] [] (Ylj [1,1,0]) (Ymh x m th wr 1 set) Ymg =some ([(0:Int)<=(Nat.cast:Nat->Int) 1/\(Nat.cast:Nat->Int) 1<(Nat.cast:Nat->Int) 4],.normal,Yee x m th wr 1 set):=by kernel_rfl
theorem Zz7 (x:FBook)(m:Mp)(th:LL)(wr:LI)(set:Int) :runK (MF 36) [] [] [] (Ylj [1,1,0]) (Ymh x m th wr 2 set) Ymg =some ([(0:Int)<=(Nat.cast:Nat->Int) 2/\(Nat.cast:Nat->Int) 2<(Nat.cast:Nat->Int) 4],.normal,Yee x m th wr 2 set):=by kernel_rfl
theorem Zz6 (x:FBook)(m:Mp)(th:LL)(wr:LI)(set:Int) :runK (MF 36) [] [] [] (Ylj [1,1,0]) (Ymh x m th wr 3 set) Ymg =some ([(0:Int)<=(Nat.cast:Nat->Int) 3/\(Nat.cast:Nat->Int) 3<(Nat.cast:Nat->Int) 4],.normal,Yee x m th wr 3 set):=by kernel_rfl
end Go.Di
