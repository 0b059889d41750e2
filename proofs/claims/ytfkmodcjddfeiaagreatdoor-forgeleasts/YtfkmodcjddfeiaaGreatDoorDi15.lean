/- Part 15: contracts are proved. No condition. -/
import Derived.Test.YtfkmodcjddfeiaaGreatDoorDi14
set_option linter.unusedVariables false
set_option linter.unusedSimpArgs false
namespace Go.Di
open Proofs
theorem LF.each {n id:Nat}{b c:Code}(hb:b=.block id (.loop c))(N:Nat)(S:Nat→List (Key×Val)){e:Ex}{L':List (Key×Val)}
  (on:∀ i,i<N→∃ dec orc lorc ks ps L1,runK (MF n) dec orc lorc c (S i) ks=some (ps,.normal,L1)∧allP ps∧L1=S (i+1))
  (fin:∃ dec orc lorc ks ps e1 L1,runK (MF n) dec orc lorc c (S N) ks=some (ps,e1,L1)∧allP ps∧(e1=.exit id∧e=.normal∨e1=.ret∧e=.ret)∧L1=L'):LF n b (S 0) e L':=by
 refine LoopT.count (tt:=Yac Ybb) hb N S (fun i hi=>?_) ?_
 ·obtain⟨dec,orc,lorc,ks,ps,L1,h1,h2,h3⟩:=on i hi
  exact WpL.path (GF n) h1 h2 ⟨rfl,h3⟩
 ·obtain⟨dec,orc,lorc,ks,ps,e1,L1,h1,h2,h3,h4⟩:=fin
  exact WpL.path (GF n) h1 h2 ⟨h3,h4⟩
theorem Yap {z:Int}(h1:-1000000000000≤z)(h2:z≤1000000000000):Yae z:=by simp only[Yae];omega
theorem Yaq {i n:Nat}(h:i<n):decide ((i:Int)<(n:Int))=true:=decide_eq_true (by omega)
theorem Yaz {n:Nat}:decide ((n:Int)<(n:Int))=false:=decide_eq_false (by omega)
theorem Yc0 {α:Type}{l:List α}{i:Nat}(d:α)(h:i<l.length):l.getD i d∈l:=by
 rw[List.getD_eq_getElem?_getD,List.getElem?_eq_getElem h]
 exact List.getElem_mem h
theorem Ydr (n lo hi:Int):CF 47 [.int .i64 n,.int .i64 lo,.int .i64 hi] (.bool (Yab n lo hi)):=by
 unfold Yab
 cases h:decide (lo≤n) with
 | false=>exact Yaa (GF 15) fwithin_fn (fwithin_no n lo hi) (by repeat(first|exact trivial|refine⟨by first|assumption|omega|rfl,?_⟩))
 | true=>exact Yaa (GF 15) fwithin_fn (fwithin_yes n lo hi) (by repeat(first|exact trivial|refine⟨by first|assumption|omega|rfl,?_⟩))
theorem Yfb:CF 101 [] (wD 0 0 0 0):=Yaa (GF 3) fnever_fn fnever_all (by repeat(first|exact trivial|refine⟨by omega,?_⟩))
theorem fcompare_con (a b:Work)(h1:Yae (a.d-b.d))(h2:Yae (a.s-b.s)):CF 82 [wkD a,wkD b] (.int .i64 (Ycd a b)):=by
 unfold Ycd
 by_cases h:a.d=b.d
 ·rw[if_pos h]
  have hb:(a.d != b.d)=false:=by simp[h]
  exact Yaa (GF 20) fcompare_fn (fcompare_eq a b) (by repeat(first|exact trivial|refine⟨by first|exact hb|exact h2|omega,?_⟩))
 ·rw[if_neg h]
  have hb:(a.d != b.d)=true:=by simp[h]
  exact Yaa (GF 20) fcompare_fn (fcompare_ne a b) (by repeat(first|exact trivial|refine⟨by first|exact hb|exact h1|omega,?_⟩))
structure FIn (x:FBook):Prop where
 n:1≤x.feet.length∧x.feet.length≤4
 days:0≤x.chain.days∧x.chain.days≤900
 turns:x.chain.turns.length≤1000
 feet:∀ n∈x.feet,1≤n∧n≤1000
 new:0≤x.new∧x.new≤1000
 opnl:x.opn.length≤5
 opn:∀ d∈x.opn,0≤d∧d≤900
 stock:0≤x.stock∧x.stock≤1000
 make:0≤x.make∧x.make≤1000
structure KnOk (x:FBook) (th:List (List Int)) (wr:List Int):Prop where
 wl:wr.length=x.feet.length
 w:∀ n∈wr,0≤n∧n≤1000
 tl:th.length=x.feet.length
 row:∀ l∈th,l.length=(x.chain.days+1).toNat
 t:∀ l∈th,∀ n∈l,-1000000≤n∧n≤1000000
structure WorkOk (x:FBook) (w:Work):Prop where
 s:0≤w.s∧w.s<x.feet.length
 d:0≤w.d∧w.d≤900
def PlanOk (x:FBook)(plan:List Work):Prop:=plan.length≤1000∧∀ w∈plan,WorkOk x w
theorem fplace_in {x:FBook}{s:Int}(d:Int)(hs:0≤s∧s<x.feet.length):0≤Yge x s d∧Yge x s d<x.feet.length:=placeF_in hs
theorem fplace_con {x:FBook}(hx:FIn x)(m:Mp)(th:List (List Int))(wr:List Int)(s d:Int)(hs:0≤s∧s<x.feet.length):CF 175 [fbkD x m th wr,.int .i64 s,.int .i64 d] (.int .i64 (Yge x s d)):=by
 have ht:=hx.turns
 have hn:=hx.n
 refine Yaa (GF 30) fplace_fn (fplace_all x m th wr s d (Yge x s d) x.chain.turns.length) ⟨?_,trivial⟩
 refine LF.each (id:=0) (c:=k_175 [1,0,1,0,0]) (by kernel_rfl) x.chain.turns.length (fun i=>Ydd x m th wr s d (Ybz x.feet.length (x.chain.turns.take i) d s) i) (fun i hi=>?_) ⟨_,_,_,_,_,_,_,fplace_0_end x m th wr s d _ _,⟨Yaz,trivial⟩,.inl ⟨rfl,rfl⟩,by rw[List.take_length];rfl⟩
 have hin:=placeF_in (turns:=x.chain.turns.take i) (day:=d) hs
 have hf:=Yba (fun s t=>if t≤d then(x.feet.length:Int)-1-s else s) x.chain.turns s i 0 hi
 by_cases hd:x.chain.turns.getD i 0≤d
 ·rw[if_pos hd]at hf
  exact⟨_,_,_,_,_,_,fplace_0_yes x m th wr s d _ i,⟨Yaq hi,⟨by omega,by omega⟩,by omega,decide_eq_true hd,Yap (by omega) (by omega),Yap (by omega) (by omega),Yap (by omega) (by omega),trivial⟩,by unfold Ybz;rw[hf]⟩
 ·rw[if_neg hd]at hf
  exact⟨_,_,_,_,_,_,fplace_0_no x m th wr s d _ i,⟨Yaq hi,⟨by omega,by omega⟩,by omega,decide_eq_false hd,Yap (by omega) (by omega),trivial⟩,by unfold Ybz;rw[hf]⟩
theorem fold_con {x:FBook}{th:List (List Int)}{wr:List Int}(hk:KnOk x th wr)(m:Mp)(s c d:Int)(hs:0≤s∧s<x.feet.length)(hd:0≤d∧d≤x.chain.days):CF 173 [fbkD x m th wr,.int .i64 s,.int .i64 c,.int .i64 d] (.int .i64 (oldF th s d)):=by
 have h1:=hk.tl
 have h2:=hk.row _ (Yc0 (i:=s.toNat) [] (show s.toNat<th.length by omega))
 exact Yaa (GF 17) fold_fn (fold_all x m th wr s c d) ⟨by omega,⟨hd.1,by show d<((th.getD s.toNat []).length:Int);omega⟩,by omega,trivial⟩
theorem ffresh_in {x:FBook}{th:List (List Int)}{wr:List Int}(hx:FIn x)(hk:KnOk x th wr){s:Int}(hs:0≤s∧s<x.feet.length)(c:Int):∀ k:Nat,-(1000*k:Int)≤Yew x wr s c k∧Yew x wr s c k≤1000
 | 0=>by
  have:=hx.new
  simp only[Yew]
  omega
 | k+1=>by
  have ih:=ffresh_in hx hk hs c k
  have hp:=fplace_in (c+k) hs
  have hw:=hk.w _ (Yc0 (i:=(Yge x s (c+k)).toNat) 0 (by rw[hk.wl];omega))
  simp only[Yew]
  omega
theorem ffresh_con {x:FBook}{th:List (List Int)}{wr:List Int}(hx:FIn x)(hk:KnOk x th wr)(m:Mp)(s c d:Int)(hs:0≤s∧s<x.feet.length)(hc:0≤c∧c≤d)(hd:d≤900):CF 174 [fbkD x m th wr,.int .i64 s,.int .i64 c,.int .i64 d] (.int .i64 (Yew x wr s c (d-c).toNat)):=by
 refine Yaa (GF 34) ffresh_fn (ffresh_all x m th wr s c d (Yew x wr s c (d-c).toNat) (d-c).toNat) ⟨Yap (by omega) (by omega),?_,trivial⟩
 refine LF.each (id:=0) (c:=k_174 [1,1,0,1,0,0]) (by kernel_rfl) (d-c).toNat (fun i=>Yer x m th wr s c d (Yew x wr s c i) i) (fun i hi=>?_) ⟨_,_,_,_,_,_,_,ffresh_0_end x m th wr s c d _ _,⟨decide_eq_false (by omega),trivial⟩,.inl ⟨rfl,rfl⟩,rfl⟩
 have h0:=ffresh_in hx hk hs c i
 have h1:=ffresh_in hx hk hs c (i+1)
 have hp:=fplace_in (c+i) hs
 have hl:=hk.wl
 exact⟨_,_,_,_,_,_,ffresh_0_on x m th wr s c d _ i (Yge x s (c+i)),⟨decide_eq_true (by omega),Yap (by omega) (by omega),fplace_con hx m th wr s _ hs,⟨hp.1,by omega⟩,by omega,by simp only[Yew]at h1;exact Yap (by omega) (by omega),Yap (by omega) (by omega),trivial⟩,rfl⟩
theorem flast_in {plan:List Work}{s d:Int}:∀(p:Int×Int),(p=(0,0)∨p.1=1∧p.2≤d∧∃ w∈plan,w.d=p.2)→∀ l:List Work,(∀ w∈l,w∈plan)→(l.foldl (Ycc s d) p=(0,0)∨(l.foldl (Ycc s d) p).1=1∧(l.foldl (Ycc s d) p).2≤d∧∃ w∈plan,w.d=(l.foldl (Ycc s d) p).2)
 | p,hp,[],_=>hp
 | p,hp,w::l,hl=>by
  refine flast_in (Ycc s d p w) ?_ l (fun u hu=>hl u (by simp[hu]))
  unfold Ycc
  by_cases h:w.s=s∧w.d≤d
  ·rw[if_pos h]
   exact .inr ⟨rfl,h.2,w,hl w (by simp),rfl⟩
  ·rw[if_neg h]
   exact hp
theorem last_cases (plan:List Work)(s d:Int):lastF plan s d=(0,0)∨(lastF plan s d).1=1∧(lastF plan s d).2≤d∧∃ w∈plan,w.d=(lastF plan s d).2:=flast_in (0,0) (.inl rfl) plan (fun _ h=>h)
theorem fleast_con {x:FBook}{th:List (List Int)}{wr:List Int}(hx:FIn x)(hk:KnOk x th wr)(m:Mp){plan:List Work}(hp:PlanOk x plan)(s d:Int)(hs:0≤s∧s<x.feet.length)(hd:0≤d∧d≤x.chain.days) :
  CF 48 [fbkD x m th wr,.sl false .work plan,.int .i64 s,.int .i64 d] (.int .i64 (Yc5 x th wr plan s d)):=by
 have hdd:=hx.days
 have hpl:=hp.1
 have hloop:LF 40 (k_48 [1,1,0,1]) (Ybw x m th wr plan s d 0 0 0) .normal (Ybw x m th wr plan s d (lastF plan s d).1 (lastF plan s d).2 plan.length):=by
  refine LF.each (id:=0) (c:=k_48 [1,1,0,1,0,0]) (by kernel_rfl) plan.length (fun i=>Ybw x m th wr plan s d ((plan.take i).foldl (Ycc s d) (0,0)).1 ((plan.take i).foldl (Ycc s d) (0,0)).2 i) (fun i hi=>?_) ⟨_,_,_,_,_,_,_,fleast_0_end x m th wr plan s d _ _ _,⟨Yaz,trivial⟩,.inl ⟨rfl,rfl⟩,by rw[List.take_length];rfl⟩
  have hf:=Yba (Ycc s d) plan (0,0) i Yak hi
  by_cases h1:(plan.getD i Yak).s=s
  ·have h1':((plan.getD i Yak).s==s)=true:=beq_iff_eq.2 h1
   by_cases h2:(plan.getD i Yak).d≤d
   ·have h2':decide ((plan.getD i Yak).d≤d)=true:=decide_eq_true h2
    refine⟨_,_,_,_,_,_,fleast_0_yes x m th wr plan s d _ _ i,?_,?_⟩
    ·repeat(first|exact trivial|refine⟨by first|exact h1'|exact h2'|exact Yaq hi|omega|exact Yap (by omega) (by omega),?_⟩)
    ·rw[hf,show Ycc s d _ _=(1,(plan.getD i Yak).d) from if_pos ⟨h1,h2⟩]
   ·have h2':decide ((plan.getD i Yak).d≤d)=false:=decide_eq_false h2
    refine⟨_,_,_,_,_,_,fleast_0_no2 x m th wr plan s d _ _ i,?_,?_⟩
    ·repeat(first|exact trivial|refine⟨by first|exact h1'|exact h2'|exact Yaq hi|omega|exact Yap (by omega) (by omega),?_⟩)
    ·rw[hf]
     unfold Ycc
     rw[if_neg (fun h=>h2 h.2)]
  ·have h1':((plan.getD i Yak).s==s)=false:=beq_eq_false_iff_ne.2 h1
   refine⟨_,_,_,_,_,_,fleast_0_no1 x m th wr plan s d _ _ i,?_,?_⟩
   ·repeat(first|exact trivial|refine⟨by first|exact h1'|exact Yaq hi|omega|exact Yap (by omega) (by omega),?_⟩)
   ·rw[hf]
    unfold Ycc
    rw[if_neg (fun h=>h1 h.1)]
 unfold Yc5
 rcases last_cases plan s d with h|⟨h1,h2,w,hw,h3⟩
 ·rw[h]at hloop ⊢
  rw[if_pos rfl]
  exact Yaa (GF 40) fleast_fn (fleast_old x m th wr plan s d (oldF th s d) 0 plan.length) ⟨hloop,by omega,fold_con hk m s 0 d hs hd,trivial⟩
 ·have hwd:=(hp.2 w hw).d
  rw[h1]at hloop
  rw[if_neg (by omega)]
  exact Yaa (GF 40) fleast_fn (fleast_new x m th wr plan s d (Yew x wr s (lastF plan s d).2 (d-(lastF plan s d).2).toNat) (lastF plan s d).2 plan.length) ⟨hloop,by omega,ffresh_con hx hk m s _ d hs ⟨by omega,h2⟩ (by omega),trivial⟩
end Go.Di

namespace Go.Di
open Proofs
theorem sumTo_in {xs:List Int}(h:∀ n∈xs,0≤n∧n≤1000)(z:Int)(hz:0≤z):0≤xs.foldl (·+·) z∧z≤xs.foldl (·+·) z∧xs.foldl (·+·) z≤z+1000*xs.length:=by
 induction xs generalizing z with
 | nil=>simp;omega
 | cons y l ih =>
  have hy:=h y (by simp)
  have:=ih (fun n hn=>h n (by simp[hn])) (z+y) (by omega)
  simp only[List.foldl_cons,List.length_cons]
  omega
theorem fsum_con {xs:List Int}(h:∀ n∈xs,0≤n∧n≤1000)(hl:xs.length≤100000):CF 93 [.sl false .int xs] (.int .i64 (sumF xs)):=by
 refine Yaa (GF 17) fsum_fn (fsum_all xs (sumF xs) xs.length) ⟨?_,trivial⟩
 refine LF.each (id:=0) (c:=k_93 [1,1,0,1,0,0]) (by kernel_rfl) xs.length (fun i=>fsum_S0 xs (sumF (xs.take i)) i) (fun i hi=>?_) ⟨_,_,_,_,_,_,_,fsum_0_end xs _ _,⟨Yaz,trivial⟩,.inl ⟨rfl,rfl⟩,by rw[List.take_length]⟩
 have hf:=Yba (fun(a b:Int)=>a+b) xs 0 i 0 hi
 have h1:=sumTo_in (xs:=xs.take i) (fun n hn=>h n (List.mem_of_mem_take hn)) 0 (by omega)
 have h2:=h _ (Yc0 0 hi)
 rw[List.length_take]at h1
 have h3:(((min i xs.length:Nat)):Int)≤100000:=by omega
 exact⟨_,_,_,_,_,_,fsum_0_on xs _ i,⟨Yaq hi,⟨by omega,by omega⟩,by omega,by unfold sumF;exact Yap (by omega) (by omega),Yap (by omega) (by omega),trivial⟩,by unfold sumF;rw[hf]⟩
theorem feetL_in {x:FBook}(hx:FIn x){plan:List Work}(hp:∀ w∈plan,WorkOk x w):∀ n∈Yes x plan,1≤n∧n≤1000:=by
 intro n hn
 obtain⟨w,hw,rfl⟩:=List.mem_map.1 hn
 have:=(hp w hw).s
 exact hx.feet _ (Yc0 0 (by omega))
theorem feet_in {x:FBook}(hx:FIn x){plan:List Work}(hp:PlanOk x plan):0≤Yc6 x plan∧Yc6 x plan≤1000000:=by
 have:=sumTo_in (xs:=Yes x plan) (fun n hn=>by have:=feetL_in hx hp.2 n hn;omega) 0 (by omega)
 have hl:=hp.1
 unfold Yes at this
 rw[List.length_map]at this
 unfold Yc6 sumF Yes
 omega
def feetS (x:FBook)(m:Mp)(th:List (List Int))(wr:List Int)(plan:List Work)(i:Nat):List Int→List (Key×Val)
 | []=>Ye2 x m th wr plan i
 | y::r=>Yf2 x m th wr plan y r i
theorem feet_con {x:FBook}(hx:FIn x)(m:Mp)(th:List (List Int))(wr:List Int){plan:List Work}(hp:PlanOk x plan):CF 65 [fbkD x m th wr,.sl false .work plan] (.int .i64 (Yc6 x plan)):=by
 have hpl:=hp.1
 have hloop:LF 27 (k_65 [1,1,0,1]) (Ye2 x m th wr plan 0) .normal (feetS x m th wr plan plan.length (Yes x plan)):=by
  refine LF.each (id:=0) (c:=k_65 [1,1,0,1,0,0]) (by kernel_rfl) plan.length (fun i=>feetS x m th wr plan i (Yes x (plan.take i))) (fun i hi=>?_) ?_
  ·have hs:=(hp.2 _ (Yc0 Yak hi)).s
   have hlen:(Yes x (plan.take i)).length≤1000:=by unfold Yes;rw[List.length_map,List.length_take];omega
   have hn:Yes x (plan.take (i+1))=Yes x (plan.take i)++[x.feet.getD (plan.getD i Yak).s.toNat 0]:=by
    unfold Yes
    rw[List.take_add_one,List.map_append,List.getElem?_eq_getElem hi,List.getD_eq_getElem?_getD (l:=plan),List.getElem?_eq_getElem hi]
    rfl
   simp only[hn]
   cases hl:Yes x (plan.take i) with
   | nil=>exact⟨_,_,_,_,_,_,feetA_0_on x m th wr plan i,⟨Yaq hi,⟨by omega,by omega⟩,by omega,by omega,hs,by omega,by omega,Yap (by omega) (by omega),trivial⟩,rfl⟩
   | cons y r =>
    rw[hl]at hlen
    exact⟨_,_,_,_,_,_,feetB_0_on x m th wr plan y r i,⟨Yaq hi,⟨by omega,by omega⟩,by omega,by omega,hs,by omega,rfl,by rw[List.length_append];simp only[List.length_cons,List.length_nil]at hlen ⊢;omega,Yap (by omega) (by omega),trivial⟩,rfl⟩
  ·rw[List.take_length]
   cases hl:Yes x plan with
   | nil=>exact⟨_,_,_,_,_,_,_,feetA_0_end x m th wr plan _,⟨Yaz,trivial⟩,.inl ⟨rfl,rfl⟩,rfl⟩
   | cons y r=>exact⟨_,_,_,_,_,_,_,feetB_0_end x m th wr plan y r _,⟨Yaz,trivial⟩,.inl ⟨rfl,rfl⟩,rfl⟩
 have hsum:CF 93 [.sl false .int (Yes x plan)] (.int .i64 (Yc6 x plan)):=fsum_con (fun n hn=>by have:=feetL_in hx hp.2 n hn;omega) (by unfold Yes;rw[List.length_map];omega)
 cases hl:Yes x plan with
 | nil =>
  rw[hl]at hloop hsum
  exact Yaa (GF 27) feetA_fn (feetA_none x m th wr plan _ plan.length) ⟨hloop,hsum,trivial⟩
 | cons y r =>
  rw[hl]at hloop hsum
  exact Yaa (GF 27) feetA_fn (feetA_some x m th wr plan _ plan.length y r) ⟨hloop,rfl,hsum,trivial⟩
theorem PlanOk.take {x:FBook}{plan:List Work}(h:PlanOk x plan)(k:Nat):PlanOk x (plan.take k) :=
 ⟨by have:=h.1;rw[List.length_take];omega,fun w hw=>h.2 w (List.mem_of_mem_take hw)⟩
theorem make_in {x:FBook}(hx:FIn x){d:Int}(hd:0≤d∧d≤900):0≤x.make*d∧x.make*d≤900000:=by
 have hm:=hx.make
 refine⟨Int.mul_nonneg hm.1 hd.1,?_⟩
 calc x.make*d≤1000*d:=Int.mul_le_mul_of_nonneg_right hm.2 hd.1
  _≤900000:=by omega
theorem needs_con {x:FBook}(hx:FIn x)(m:Mp)(th:List (List Int))(wr:List Int){plan:List Work}(hp:PlanOk x plan):CF 67 [fbkD x m th wr,.sl false .work plan] (.int .i64 (Yf1 x plan)):=by
 have hpl:=hp.1
 refine Yaa (GF 32) fneeds_fn (fneeds_all x m th wr plan (Yf1 x plan) plan.length) ⟨?_,trivial⟩
 refine LF.each (id:=0) (c:=k_67 [1,1,0,1,0,0]) (by kernel_rfl) plan.length (fun i=>Yeq x m th wr plan (needsTo x plan i) i) (fun i hi=>?_) ⟨_,_,_,_,_,_,_,fneeds_0_end x m th wr plan _ _,⟨Yaz,trivial⟩,.inl ⟨rfl,rfl⟩,rfl⟩
 have hf:=feet_in hx (hp.take (i+1))
 have hw:=(hp.2 _ (Yc0 Yak hi)).d
 have hm:=make_in hx hw
 exact⟨_,_,_,_,_,_,fneeds_0_on x m th wr plan _ i (Yc6 x (plan.take (i+1))),⟨Yaq hi,⟨by omega,by omega⟩,by omega,Yap (by omega) (by omega),⟨by omega,by omega,by omega⟩,feet_con hx m th wr (hp.take (i+1)),by omega,Yap (by omega) (by omega),Yap (by omega) (by omega),Yap (by omega) (by omega),trivial⟩,rfl⟩
theorem good_con {x:FBook}(hx:FIn x)(m:Mp)(th:List (List Int))(wr:List Int){plan:List Work}(hp:PlanOk x plan):CF 95 [fbkD x m th wr,.sl false .work plan] (.bool (fgoodF x plan)) :=
 Yaa (GF 12) fgood_fn (fgood_all x m th wr plan _) ⟨needs_con hx m th wr hp,trivial⟩
def planAt (m:List (K2×Bool))(plan:List Work)(i:Nat):Bool:=!badF m (if i=0 then ⟨-1,0⟩ else plan.getD (i-1) Yak) (plan.getD i Yak)
theorem isPlan_go (m:List (K2×Bool)):∀(l:List Work) (la:Work),Yhh m la l=(List.range l.length).all fun i=>!badF m (if i=0 then la else l.getD (i-1) Yak) (l.getD i Yak)
 | [],_=>rfl
 | w::r,la=>by
  simp only[Yhh,isPlan_go m r w,List.length_cons,List.range_succ_eq_map,List.all_cons,List.all_map]
  cases hb:badF m la w with
  | true=>simp[hb]
  | false =>
   simp only[hb,if_true,if_false,Bool.not_false,List.getD_cons_zero,Bool.true_and,Bool.false_eq_true]
   refine congrArg _ ?_
   funext i
   cases i with
   | zero=>rfl
   | succ i=>simp
theorem isPlan_all (m:List (K2×Bool))(plan:List Work):isPlanF m plan=(List.range plan.length).all (planAt m plan):=isPlan_go m plan ⟨-1,0⟩
theorem all_first (p:Nat→Bool)(n:Nat):((List.range n).all p=true∧∀ i<n,p i=true)∨((List.range n).all p=false∧∃ k<n,p k=false∧∀ i<k,p i=true):=by
 rcases Ycz (fun i=>!p i) n with ⟨k,h1,h2,h3⟩|h
 ·refine .inr ⟨?_,k,h1,by simpa using h2,fun i hi=>by simpa using h3 i hi⟩
  rw[Bool.eq_false_iff]
  intro hh
  have:=List.all_eq_true.1 hh k (List.mem_range.2 h1)
  simp[this]at h2
 ·exact .inl ⟨List.all_eq_true.2 fun i hi=>by simpa using h i (List.mem_range.1 hi),fun i hi=>by simpa using h i hi⟩
theorem isPlan_con (x:FBook)(m:List (K2×Bool))(th:List (List Int))(wr:List Int){plan:List Work}(hl:plan.length≤9223372036854775807)(hm:∀ w,isWorkF m w=true→-1000000≤w.d∧w.d≤1000000∧-1000000≤w.s∧w.s≤1000000):CF 46 [fbkD x (.work m) th wr,.sl false .work plan] (.bool (isPlanF m plan)):=by
 obtain⟨la,hla⟩:∃ la:Nat→Work,∀ i,la i=if i=0 then ⟨-1,0⟩ else plan.getD (i-1) Yak:=⟨_,fun _=>rfl⟩
 have hcode:k_46 [1,1,0,1]=.block 0 (.loop (k_46 [1,1,0,1,0,0])):=by kernel_rfl
 have hat:∀ i,planAt m plan i=!badF m (la i) (plan.getD i Yak):=fun i=>by rw[hla];rfl
 have hst:∀ {e:Ex} {L':List (Key×Val)},LF 33 (k_46 [1,1,0,1]) (Ybu x m th wr plan (la 0) 0) e L'→LF 33 (k_46 [1,1,0,1]) (Ybu x m th wr plan ⟨-1,0⟩ 0) e L':=by
  intro e L' h
  rwa [show la 0=⟨-1,0⟩ by rw[hla];rfl]at h
 have hon:∀ i,i<plan.length→planAt m plan i=true→(∀ j<i,planAt m plan j=true)→∃ dec orc lorc ks ps L1,runK (MF 33) dec orc lorc (k_46 [1,1,0,1,0,0]) (Ybu x m th wr plan (la i) i) ks=some (ps,.normal,L1)∧allP ps∧L1=Ybu x m th wr plan (la (i+1)) (i+1):=by
  intro i hi hp hbefore
  have hnext:la (i+1)=plan.getD i Yak:=by rw[hla];rfl
  rw[hat]at hp
  have hb:badF m (la i) (plan.getD i Yak)=false:=by simpa using hp
  unfold badF at hb
  rw[Bool.or_eq_false_iff]at hb
  obtain⟨hb1,hb2⟩:=hb
  have h20:(!(Ybf m ((plan.getD i Yak).d,(plan.getD i Yak).s)).getD false)=false:=by simpa [isWorkF] using hb1
  have hw:=hm (plan.getD i Yak) (by simpa using hb1)
  have hi64:Yae ((i:Int)+1):=by simp only[Yae];omega
  by_cases hz:(la i).d=-1∧(la i).s=0
  ·have h24:(!eqI [(la i).d,(la i).s] [-1,0])=false:=by rw[hz.1,hz.2];rfl
   refine⟨_,_,_,_,_,_,isPlan_0_first x m th wr plan (la i) i,?_,by rw[hnext]⟩
   repeat(first|exact trivial|refine⟨by first|exact h20|exact h24|exact Yaq hi|omega|exact hi64,?_⟩)
  ·have h24:(!eqI [(la i).d,(la i).s] [-1,0])=true:=by
    cases he:eqI [(la i).d,(la i).s] [-1,0] with
    | false=>rfl
    | true =>
     have:=(eqI_iff _ _).1 he
     simp only[List.cons.injEq,and_true]at this
     exact absurd this hz
   rw[show decide ((la i).d=-1∧(la i).s=0)=false from decide_eq_false hz]at hb2
   have h30:decide (Ycd (la i) (plan.getD i Yak)≥0)=false:=by simpa using hb2
   have hla2:-1000000≤(la i).d∧(la i).d≤1000000∧-1000000≤(la i).s∧(la i).s≤1000000:=by
    cases i with
    | zero=>rw[hla]at hz;simp at hz
    | succ i =>
     have hq:=hbefore i (by omega)
     rw[hat]at hq
     rw[hla]
     refine hm _ ?_
     have:badF m (la i) (plan.getD i Yak)=false:=by simpa using hq
     unfold badF at this
     rw[Bool.or_eq_false_iff]at this
     simpa using this.1
   have hc:=fcompare_con (la i) (plan.getD i Yak) (Yap (by omega) (by omega)) (Yap (by omega) (by omega))
   refine⟨_,_,_,_,_,_,isPlan_0_ok x m th wr plan (la i) i (Ycd (la i) (plan.getD i Yak)),?_,by rw[hnext]⟩
   repeat(first|exact trivial|refine⟨by first|exact h20|exact h24|exact h30|exact hc|exact Yaq hi|omega|exact hi64,?_⟩)
 rw[isPlan_all]
 rcases all_first (planAt m plan) plan.length with ⟨h1,h2⟩|⟨h1,k,hk,hpk,hbefore⟩
 ·rw[h1]
  refine Yaa (GF 33) isPlan_fn (isPlan_yes x m th wr plan (la plan.length) plan.length) ⟨by omega,?_,trivial⟩
  exact hst (LF.each (id:=0) hcode plan.length (fun i=>Ybu x m th wr plan (la i) i) (fun i hi=>hon i hi (h2 i hi) fun j hj=>h2 j (by omega)) ⟨_,_,_,_,_,_,_,isPlan_0_end x m th wr plan _ _,⟨Yaz,trivial⟩,.inl ⟨rfl,rfl⟩,rfl⟩)
 ·rw[h1]
  have hb:badF m (la k) (plan.getD k Yak)=true:=by rw[hat]at hpk;simpa using hpk
  unfold badF at hb
  cases hw:isWorkF m (plan.getD k Yak) with
  | false =>
   have h20:(!(Ybf m ((plan.getD k Yak).d,(plan.getD k Yak).s)).getD false)=true:=by simpa [isWorkF] using hw
   refine Yaa (GF 33) isPlan_fn (isPlan_none x m th wr plan (la k) k) ⟨by omega,?_,trivial⟩
   refine hst (LF.each (id:=0) hcode k (fun i=>Ybu x m th wr plan (la i) i) (fun i hi=>hon i (by omega) (hbefore i hi) fun j hj=>hbefore j (by omega)) ⟨_,_,_,_,_,_,_,isPlan_0_none x m th wr plan _ _,?_,.inr ⟨rfl,rfl⟩,rfl⟩)
   repeat(first|exact trivial|refine⟨by first|exact h20|exact Yaq hk|omega,?_⟩)
  | true =>
   have h20:(!(Ybf m ((plan.getD k Yak).d,(plan.getD k Yak).s)).getD false)=false:=by simpa [isWorkF] using hw
   rw[hw]at hb
   simp only[Bool.not_true,Bool.false_or,Bool.and_eq_true,Bool.not_eq_true',decide_eq_false_iff_not]at hb
   obtain⟨hz,h30⟩:=hb
   have h24:(!eqI [(la k).d,(la k).s] [-1,0])=true:=by
    cases he:eqI [(la k).d,(la k).s] [-1,0] with
    | false=>rfl
    | true =>
     have:=(eqI_iff _ _).1 he
     simp only[List.cons.injEq,and_true]at this
     exact absurd this hz
   have hw2:=hm _ hw
   have hla2:-1000000≤(la k).d∧(la k).d≤1000000∧-1000000≤(la k).s∧(la k).s≤1000000:=by
    cases k with
    | zero=>rw[hla]at hz;simp at hz
    | succ i =>
     have hq:=hbefore i (by omega)
     rw[hat]at hq
     rw[hla]
     refine hm _ ?_
     have:badF m (la i) (plan.getD i Yak)=false:=by simpa using hq
     unfold badF at this
     rw[Bool.or_eq_false_iff]at this
     simpa using this.1
   have hc:=fcompare_con (la k) (plan.getD k Yak) (Yap (by omega) (by omega)) (Yap (by omega) (by omega))
   refine Yaa (GF 33) isPlan_fn (isPlan_bad x m th wr plan (la k) k (Ycd (la k) (plan.getD k Yak))) ⟨by omega,?_,trivial⟩
   refine hst (LF.each (id:=0) hcode k (fun i=>Ybu x m th wr plan (la i) i) (fun i hi=>hon i (by omega) (hbefore i hi) fun j hj=>hbefore j (by omega)) ⟨_,_,_,_,_,_,_,isPlan_0_bad x m th wr plan _ _ _,?_,.inr ⟨rfl,rfl⟩,rfl⟩)
   repeat(first|exact trivial|refine⟨by first|exact h20|exact h24|exact h30|exact hc|exact Yaq hk|omega,?_⟩)
end Go.Di

namespace Go.Di
open Proofs
section
variable (x:FBook) (th:List (List Int)) (wr:List Int) (plan:List Work)
theorem fsec_cases (d:Nat):(fsecF x th wr plan d=none∧∀ s<x.feet.length,fbadF x th wr plan d s=false)∨∃ s,fsecF x th wr plan d=some s∧s<x.feet.length∧fbadF x th wr plan d s=true∧∀ s'<s,fbadF x th wr plan d s'=false:=by
 unfold fsecF
 cases h:(List.range x.feet.length).find? (fbadF x th wr plan d) with
 | none =>
  rw[List.find?_range_eq_none]at h
  exact .inl ⟨rfl,fun s hs=>by simpa using h s hs⟩
 | some s =>
  rw[List.find?_range_eq_some]at h
  exact .inr ⟨s,rfl,List.mem_range.1 h.2.1,h.1,fun s' hs'=>by simpa using h.2.2 s' hs'⟩
theorem fthinGo_cases:∀(k d:Nat),(fthinGo x th wr plan k d=none∧∀ d',d≤d'→d'<d+k→∀ s<x.feet.length,fbadF x th wr plan d' s=false) ∨
  ∃ e s,fthinGo x th wr plan k d=some (e,s)∧d≤e∧e<d+k∧s<x.feet.length∧fbadF x th wr plan e s=true∧(∀ d',d≤d'→d'<e→∀ s'<x.feet.length,fbadF x th wr plan d' s'=false)∧∀ s'<s,fbadF x th wr plan e s'=false
 | 0,d=>.inl ⟨rfl,fun d' h1 h2=>by omega⟩
 | k+1,d=>by
  rcases fsec_cases x th wr plan d with ⟨h1,h2⟩|⟨s,h1,h2,h3,h4⟩
  ·have he:fthinGo x th wr plan (k+1) d=fthinGo x th wr plan k (d+1):=by simp only[fthinGo,h1]
   rw[he]
   rcases fthinGo_cases k (d+1) with ⟨g1,g2⟩|⟨e,s,g1,g2,g3,g4,g5,g6,g7⟩
   ·refine .inl ⟨g1,fun d' q1 q2 s hs=>?_⟩
    by_cases hd:d'=d
    ·rw[hd];exact h2 s hs
    ·exact g2 d' (by omega) (by omega) s hs
   ·refine .inr ⟨e,s,g1,by omega,by omega,g4,g5,fun d' q1 q2 s' hs'=>?_,g7⟩
    by_cases hd:d'=d
    ·rw[hd];exact h2 s' hs'
    ·exact g6 d' (by omega) q2 s' hs'
  ·exact .inr ⟨d,s,by simp only[fthinGo,h1],by omega,by omega,h2,h3,fun d' q1 q2=>by omega,h4⟩
theorem fthin_cases:(fthinF x th wr plan=none∧∀ d:Nat,(d:Int)≤x.chain.days→∀ s<x.feet.length,fbadF x th wr plan d s=false) ∨
  ∃ e s:Nat,fthinF x th wr plan=some (e,s)∧(e:Int)≤x.chain.days∧s<x.feet.length∧fbadF x th wr plan e s=true∧(∀ d'<e,∀ s'<x.feet.length,fbadF x th wr plan d' s'=false)∧∀ s'<s,fbadF x th wr plan e s'=false:=by
 rcases fthinGo_cases x th wr plan (x.chain.days+1).toNat 0 with ⟨h1,h2⟩|⟨e,s,h1,h2,h3,h4,h5,h6,h7⟩
 ·exact .inl ⟨h1,fun d hd=>h2 d (by omega) (by omega)⟩
 ·exact .inr ⟨e,s,h1,by omega,h4,h5,fun d' hd'=>h6 d' (by omega) hd',h7⟩
end
def fthinR (o:Option (Nat×Nat)):D:=match o with
 | some (d,s)=>.tup [.int .i64 (d:Int),.int .i64 (s:Int),.bool true]
 | none=>.tup [.int .i64 0,.int .i64 0,.bool false]
theorem thin_con {x:FBook}{th:List (List Int)}{wr:List Int}(hx:FIn x)(hk:KnOk x th wr)(m:Mp){plan:List Work}(hp:PlanOk x plan):CF 60 [fbkD x m th wr,.sl false .work plan] (fthinR (fthinF x th wr plan)):=by
 have hn:=hx.n
 have hdd:=hx.days
 have hcode:k_60 [1,0,1]=.block 0 (.loop (k_60 [1,0,1,0,0])):=by kernel_rfl
 have hcode2:k_60 [1,0,1,0,0,1,1,0,0,1,1]=.block 2 (.loop (k_60 [1,0,1,0,0,1,1,0,0,1,1,0,0])):=by kernel_rfl
 have hle:∀ d s:Nat,(d:Int)≤x.chain.days→s<x.feet.length→CF 48 [fbkD x m th wr,.sl false .work plan,.int .i64 (s:Int),.int .i64 (d:Int)] (.int .i64 (Yc5 x th wr plan s d)):=fun d s hd hs=>fleast_con hx hk m hp s d ⟨by omega,by omega⟩ ⟨by omega,hd⟩
 have hin:∀(d:Nat),(d:Int)≤x.chain.days→∀ N≤x.feet.length,(∀ s<N,fbadF x th wr plan d s=false)→∀ {e:Ex} {L':List (Key×Val)},
   (∃ dec orc lorc ks ps e1 L1,runK (MF 38) dec orc lorc (k_60 [1,0,1,0,0,1,1,0,0,1,1,0,0]) (Ydh x m th wr plan d N) ks=some (ps,e1,L1)∧allP ps∧(e1=.exit 2∧e=.normal∨e1=.ret∧e=.ret)∧L1=L') →
   LF 38 (k_60 [1,0,1,0,0,1,1,0,0,1,1]) (Ydh x m th wr plan d 0) e L':=by
  intro d hd N hN hb e L' hfin
  refine LF.each (id:=2) hcode2 N (fun j=>Ydh x m th wr plan d j) (fun j hj=>?_) hfin
  exact⟨_,_,_,_,_,_,fthin_2_on x m th wr plan d j (Yc5 x th wr plan j d),⟨Yaq (by omega),hle d j hd (by omega),hb j hj,Yap (by omega) (by omega),trivial⟩,rfl⟩
 have hon:∀ d:Nat,(d:Int)≤x.chain.days→(∀ s<x.feet.length,fbadF x th wr plan d s=false)→∃ dec orc lorc ks ps L1,runK (MF 38) dec orc lorc (k_60 [1,0,1,0,0]) (Yc9 x m th wr plan d) ks=some (ps,.normal,L1)∧allP ps∧L1=Yc9 x m th wr plan (d+1):=fun d hd hb =>
  ⟨_,_,_,_,_,_,fthin_0_on x m th wr plan d x.feet.length,⟨decide_eq_true (by omega),hin d hd _ (Nat.le_refl _) hb ⟨_,_,_,_,_,_,_,fthin_2_end x m th wr plan d _,⟨Yaz,trivial⟩,.inl ⟨rfl,rfl⟩,rfl⟩,Yap (by omega) (by omega),trivial⟩,rfl⟩
 rcases fthin_cases x th wr plan with ⟨h1,h2⟩|⟨d,s,h1,h2,h3,h4,h5,h6⟩
 ·rw[h1]
  refine Yaa (GF 38) fthin_fn (fthin_none x m th wr plan (x.chain.days+1).toNat) ⟨Yap (by omega) (by omega),?_,trivial⟩
  exact LF.each (id:=0) hcode _ (fun d=>Yc9 x m th wr plan d) (fun d hd=>hon d (by omega) (h2 d (by omega))) ⟨_,_,_,_,_,_,_,fthin_0_end x m th wr plan _,⟨decide_eq_false (by omega),trivial⟩,.inl ⟨rfl,rfl⟩,rfl⟩
 ·rw[h1]
  refine Yaa (GF 38) fthin_fn (fthin_hit x m th wr plan d s (Yc5 x th wr plan s d)) ⟨Yap (by omega) (by omega),?_,trivial⟩
  refine LF.each (id:=0) hcode d (fun d=>Yc9 x m th wr plan d) (fun d' hd'=>hon d' (by omega) (h5 d' hd')) ⟨_,_,_,_,_,_,_,fthin_0_hit x m th wr plan d s _,⟨decide_eq_true (by omega),?_,trivial⟩,.inr ⟨rfl,rfl⟩,rfl⟩
  exact hin d h2 s (by omega) h6 ⟨_,_,_,_,_,_,_,fthin_2_hit x m th wr plan d s _,⟨Yaq h3,hle d s h2 h3,h4,trivial⟩,.inr ⟨rfl,rfl⟩,rfl⟩
end Go.Di

