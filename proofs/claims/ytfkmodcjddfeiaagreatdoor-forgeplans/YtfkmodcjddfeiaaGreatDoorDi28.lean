/- Part 28: contracts are proved. No condition. -/
import Derived.Test.YtfkmodcjddfeiaaGreatDoorDi27
set_option linter.unusedVariables false
set_option linter.unusedSimpArgs false
namespace Go.Di
open Proofs
theorem Zco {b:Book}(hV:Valid b)(hc:canF b=true){s d:Int}(hs:0<=s/\s<b.secs.length)(hd:0<=d/\d<=b.days):CF 87 [Yah b,.I s,.I d] (.tup [spD (Yby b (Yak b []) b.turns s d),.I 0]):=by
 have h:=Zcq (Yo7 hV) s d;have h1:Yaf b s=true:=by unfold Yaf;rw[Ya2];omega
 have h2:Ya3 b d=true:=by unfold Ya3;rw[Ya2];omega
 unfold askE at h;rw[h1,h2,Bool.and_self,Ypq hV hc,show spanOr 0 (Yby b (Yak b []) b.turns s d)=Yby b (Yak b []) b.turns s d from if_pos rfl]at h;exact h.up
theorem Zkc {b:Book}(hV:Valid b)(hc:canF b=true){s:Int}(hs:0<=s/\s<b.secs.length):CF 86 [Yah b,.I s] (.tup [spD (Ydf (Ybp s) (Yak b [])),.I 0]):=by
 have h:=Zke (Yo7 hV) s;have h1:Yaf b s=true:=by unfold Yaf;rw[Ya2];omega
 rw[h1,Ypq hV hc,show spanOr 0 (Ydf (Ybp s) (Yak b []))=Ydf (Ybp s) (Yak b []) from if_pos rfl]at h;exact h.up
def Xdv (x:FBook)(i j:Nat)(y:Int)(r:LI):LL->LI->KV
 | [],[]=>Ypc x i j y r
 | [],z::l=>Ygt x i j y r z l
 | t::q,[]=>Ypa x i j y r t q
 | t::q,z::l=>Ygs x i j y r t q z l
def rknS (x:FBook)(i:Nat):LI->LL->KV
 | y::r,t::q=>Yia x i y r t q
 | _,_=>Yu1 x i
theorem Xg8 {x:FBook}(hV:Valid x.chain)(hc:canF x.chain=true)(i:Nat)(hi:i<x.chain.secs.length)(y:Int)(r:LI)(th:LL) :
  LF 59 (k_53 [1,1,0,1,0,0,1,0,0,1,1,1,0,1]) (Xdv x i 0 y r th []) .normal (Xdv x i (x.chain.days+1).toNat y r th (Yea x i (x.chain.days+1).toNat)):=by
 have hd:=hV.days;refine LG.each (id:=2) (c:=k_53 [1,1,0,1,0,0,1,0,0,1,1,1,0,1,0,0]) (by kernel_rfl) (x.chain.days+1).toNat (fun j=>Xdv x i j y r th (Yea x i j)) (fun j hj=>?_) ?_
 ·have hth:=Zco hV hc (s:=(i:Int)) (d:=(j:Int)) (by omega) (by omega);have hn:Yea x i (j+1)=Yea x i j++[(Yby x.chain (Yak x.chain []) x.chain.turns i j).lo]:=Yev _ j;have hlen:(Yea x i j).length<=31:=by unfold Yea;rw[List.length_map,List.length_range];omega
  simp only[hn]
  cases th with
  | nil =>
   cases hl:Yea x i j with
   | nil=>exact⟨_,_,_,_,_,_,Zjw x i j y r (Yby x.chain (Yak x.chain []) x.chain.turns i j) 0,⟨decide_eq_true (by omega),hth,by omega,by omega,Yap (by omega) (by omega),trivial⟩,rfl⟩
   | cons z l =>
    rw[hl]at hlen;exact⟨_,_,_,_,_,_,Zjv x i j y r z l (Yby x.chain (Yak x.chain []) x.chain.turns i j) 0,⟨decide_eq_true (by omega),hth,by omega,rfl,by rw[List.length_append];simp only[List.length_cons,List.length_nil]at hlen ⊢;omega,Yap (by omega) (by omega),trivial⟩,rfl⟩
  | cons t q =>
   cases hl:Yea x i j with
   | nil=>exact⟨_,_,_,_,_,_,Zjt x i j y r t q (Yby x.chain (Yak x.chain []) x.chain.turns i j) 0,⟨decide_eq_true (by omega),hth,by omega,by omega,Yap (by omega) (by omega),trivial⟩,rfl⟩
   | cons z l =>
    rw[hl]at hlen;exact⟨_,_,_,_,_,_,Zjs x i j y r t q z l (Yby x.chain (Yak x.chain []) x.chain.turns i j) 0,⟨decide_eq_true (by omega),hth,by omega,rfl,by rw[List.length_append];simp only[List.length_cons,List.length_nil]at hlen ⊢;omega,Yap (by omega) (by omega),trivial⟩,rfl⟩
 ·have hf:decide ((((x.chain.days+1).toNat:Nat):Int)<=x.chain.days)=false:=decide_eq_false (by omega)
  cases th with
  | nil=>cases Yea x i (x.chain.days+1).toNat with
   | nil=>exact⟨_,_,_,_,_,_,_,Zbw x i _ y r,⟨hf,trivial⟩,.inl ⟨rfl,rfl⟩,rfl⟩
   | cons z l=>exact⟨_,_,_,_,_,_,_,Zbv x i _ y r z l,⟨hf,trivial⟩,.inl ⟨rfl,rfl⟩,rfl⟩
  | cons t q=>cases Yea x i (x.chain.days+1).toNat with
   | nil=>exact⟨_,_,_,_,_,_,_,Zbu x i _ y r t q,⟨hf,trivial⟩,.inl ⟨rfl,rfl⟩,rfl⟩
   | cons z l=>exact⟨_,_,_,_,_,_,_,Zbt x i _ y r t q z l,⟨hf,trivial⟩,.inl ⟨rfl,rfl⟩,rfl⟩
theorem Xdu {x:FBook}(hC:Valid x.chain)(hfe:x.feet.length=x.chain.secs.length)(hc:canF x.chain=true):CF 53 [Yab x] (.agg [.z (.list .int) (Yas x),.z .int (Yar x)]):=by
 have hd:=hC.days;have hn:=hC.secs
 have hloop:LF 59 (k_53 [1,1,0,1]) (rknS x 0 (wrTo x 0) (thTo x 0)) .normal (rknS x x.feet.length (wrTo x x.feet.length) (thTo x x.feet.length)):=by
  refine LG.each (id:=0) (c:=k_53 [1,1,0,1,0,0]) (by kernel_rfl) x.feet.length (fun i=>rknS x i (wrTo x i) (thTo x i)) (fun i hi=>?_) ?_
  ·have hw:=Zkc hC hc (s:=(i:Int)) (by omega);have e1:wrTo x (i+1)=wrTo x i++[(Ydf (Ybp (i:Int)) (Yak x.chain [])).hi]:=Yev _ i;have e2:thTo x (i+1)=thTo x i++[Yea x i (x.chain.days+1).toNat]:=Yev _ i
   have hrow:∃ z l,Yea x i (x.chain.days+1).toNat=z::l:=by
    cases h:Yea x i (x.chain.days+1).toNat with
    | nil =>
     have:=congrArg List.length h
     unfold Yea at this;rw[List.length_map,List.length_range]at this;simp at this;omega
    | cons z l=>exact⟨z,l,rfl⟩
   obtain⟨z,l,hrow⟩:=hrow;simp only[e1,e2];have hin:=Xg8 hC hc i (by omega);rw[hrow]at hin ⊢
   cases i with
   | zero=>exact⟨_,_,_,_,_,_,Zrb x 0 (Ydf (Ybp ((0:Nat):Int)) (Yak x.chain [])) 0 (x.chain.days+1).toNat z l,⟨Yat hi,hw,by omega,by omega,rfl,hin (Ydf (Ybp ((0:Nat):Int)) (Yak x.chain [])).hi [] [],rfl,by omega,rfl,Yap (by omega) (by omega),trivial⟩,rfl⟩
   | succ i =>
    have hwl:(wrTo x (i+1)).length=i+1:=by unfold wrTo;rw[List.length_map,List.length_range]
    have htl:(thTo x (i+1)).length=i+1:=by unfold thTo;rw[List.length_map,List.length_range]
    obtain⟨y,r,hy⟩:=List.exists_cons_of_length_eq_add_one hwl;obtain⟨t,q,ht⟩:=List.exists_cons_of_length_eq_add_one htl;rw[hy]at hwl;rw[ht]at htl;rw[hy,ht];exact⟨_,_,_,_,_,_,Zra x (i+1) y r t q (Ydf (Ybp ((i+1:Nat):Int)) (Yak x.chain [])) 0 (x.chain.days+1).toNat z l,⟨Yat hi,hw,by omega,rfl,by rw[List.length_append,hwl,List.length_singleton];omega,rfl,hin y _ (t::q),rfl,rfl,by rw[List.length_append,htl,List.length_singleton];omega,rfl,Yap (by omega) (by omega),trivial⟩,rfl⟩
  ·have hwl:(wrTo x x.feet.length).length=(x.feet.length-1)+1:=by unfold wrTo;rw[List.length_map,List.length_range];omega
   have htl:(thTo x x.feet.length).length=(x.feet.length-1)+1:=by unfold thTo;rw[List.length_map,List.length_range];omega
   obtain⟨y,r,hy⟩:=List.exists_cons_of_length_eq_add_one hwl;obtain⟨t,q,ht⟩:=List.exists_cons_of_length_eq_add_one htl;rw[hy,ht];exact⟨_,_,_,_,_,_,_,Zju x _ y r t q,⟨Yay,trivial⟩,.inl ⟨rfl,rfl⟩,rfl⟩
 have hwl:(wrTo x x.feet.length).length=(x.feet.length-1)+1:=by unfold wrTo;rw[List.length_map,List.length_range];omega
 have htl:(thTo x x.feet.length).length=(x.feet.length-1)+1:=by unfold thTo;rw[List.length_map,List.length_range];omega
 obtain⟨y,r,hy⟩:=List.exists_cons_of_length_eq_add_one hwl;obtain⟨t,q,ht⟩:=List.exists_cons_of_length_eq_add_one htl;have e1:Yar x=y::r:=hy;have e2:Yas x=t::q:=ht;rw[show rknS x 0 (wrTo x 0) (thTo x 0)=Yu1 x 0 from rfl,hy,ht,show rknS x x.feet.length (y::r) (t::q)=Yia x x.feet.length y r t q from rfl]at hloop;rw[e1,e2];exact Yaa (GG 59) Xdw (Zx5 x x.feet.length y r t q) ⟨hloop,rfl,rfl,rfl,rfl,trivial⟩
def Xbr (p:Int×Int):Int:=if p.1=0 then -1 else p.2
theorem Xds {x:FBook}(hx:FIn x)(s d:Int)(hs:0<=s/\s<x.feet.length):CF 85 [Yab x,.I s,.I d] (.I (Yhf x s d)):=by
 have ht:=hx.turns;have hn:=hx.n;refine Yaa (GG 33) Xg7 (Xdt x s d (Yhf x s d) x.chain.turns.length) ⟨?_,trivial⟩;refine LG.each (id:=0) (c:=k_85 [1,1,0,1,0,0]) (by kernel_rfl) x.chain.turns.length (fun i=>Ykw x s d (Yb7 x.feet.length (x.chain.turns.take i) d s) i) (fun i hi=>?_) ⟨_,_,_,_,_,_,_,Zq9 x s d _ _,⟨Yay,trivial⟩,.inl ⟨rfl,rfl⟩,by rw[List.take_length];rfl⟩;have hin:=Yjg (turns:=x.chain.turns.take i) (day:=d) hs
 have hf:=Ybm (fun s t=>if t<=d then(x.feet.length:Int)-1-s else s) x.chain.turns s i 0 hi
 by_cases hd:x.chain.turns.getD i 0<=d
 ·rw[if_pos hd]at hf;exact⟨_,_,_,_,_,_,Zq8 x s d _ i,⟨Yat hi,⟨by omega,by omega⟩,by omega,decide_eq_true hd,Yap (by omega) (by omega),Yap (by omega) (by omega),Yap (by omega) (by omega),trivial⟩,by unfold Yb7;rw[hf]⟩
 ·rw[if_neg hd]at hf;exact⟨_,_,_,_,_,_,Zx3 x s d _ i,⟨Yat hi,⟨by omega,by omega⟩,by omega,decide_eq_false hd,Yap (by omega) (by omega),trivial⟩,by unfold Yb7;rw[hf]⟩
def knD (th:LL)(wr:LI):D:=.agg [.z (.list .int) th,.z .int wr]
theorem Zx0 {x:FBook}{th:LL}{wr:LI}(hk:KnOk x th wr)(s d:Int)(hs:0<=s/\s<x.feet.length)(hd:0<=d/\d<=x.chain.days):CF 52 [Yab x,knD th wr,.I s,.I (-1),.I d] (.I (oldF th s d)):=by
 have h1:=hk.tl;have h2:=hk.row _ (Ybw (i:=s.toNat) [] (show s.toNat<th.length by omega));exact Yaa (GG 42) Xci (Xdq x th wr s (-1) d) ⟨decide_eq_true (by decide),by omega,⟨hd.1,by show d<((th.getD s.toNat []).length:Int);omega⟩,by omega,trivial⟩
theorem Zx1 {x:FBook}{th:LL}{wr:LI}(hx:FIn x)(hk:KnOk x th wr)(s c d:Int)(hs:0<=s/\s<x.feet.length)(hc:0<=c/\c<=d)(hd:d<=900):CF 52 [Yab x,knD th wr,.I s,.I c,.I d] (.I (Yfm x wr s c (d-c).toNat)):=by
 have hloop:LF 42 (k_52 [1,1,1,0,1]) (Ykv x th wr s c d (Yfm x wr s c 0) (c+((0:Nat):Int))) .normal (Ykv x th wr s c d (Yfm x wr s c (d-c).toNat) (c+(((d-c).toNat:Nat):Int))):=by
  refine LG.each (id:=0) (c:=k_52 [1,1,1,0,1,0,0]) (by kernel_rfl) (d-c).toNat (fun i=>Ykv x th wr s c d (Yfm x wr s c i) (c+(i:Int))) (fun i hi=>?_) ⟨_,_,_,_,_,_,_,Zq7 x th wr s c d _ _,⟨decide_eq_false (by omega),trivial⟩,.inl ⟨rfl,rfl⟩,rfl⟩;have h0:=Yjw hx hk hs c i;have h1:=Yjw hx hk hs c (i+1);have hp:=Yrd (c+i) hs;have hl:=hk.wl;exact⟨_,_,_,_,_,_,Zx2 x th wr s c d _ _ (Yhf x s (c+i)),⟨decide_eq_true (by omega),Xds hx s _ hs,⟨hp.1,by omega⟩,by omega,by simp only[Yfm]at h1;exact Yap (by omega) (by omega),Yap (by omega) (by omega),trivial⟩,by rw[show c+((i+1:Nat):Int)=c+(i:Int)+1 by omega];rfl⟩
 have e0:c+((0:Nat):Int)=c:=by omega
 rw[e0]at hloop;exact Yaa (GG 42) Xci (Xdr x th wr s c d _ _) ⟨decide_eq_false (by omega),hloop,trivial⟩
theorem Zjr {x:FBook}{th:LL}{wr:LI}(hx:FIn x)(hk:KnOk x th wr){plan:List Work}(hp:PlanOk x plan)(s d:Int)(hs:0<=s/\s<x.feet.length)(hd:0<=d/\d<=x.chain.days) :
  CF 52 [Yab x,knD th wr,.I s,.I (Xbr (Yhs plan s d)),.I d] (.I (Ydc x th wr plan s d)):=by
 have hdd:=hx.days;unfold Ydc Xbr;rcases Ytx plan s d with h|⟨h1,h2,w,hw,h3⟩
 ·rw[h,if_pos rfl,if_pos rfl];exact Zx0 hk s d hs hd
 ·have hwd:=(hp.2 w hw).d;rw[if_neg (by omega),if_neg (by omega)];exact Zx1 hx hk s _ d hs ⟨by omega,h2⟩ (by omega)
theorem Zcg {x:FBook}(hs:FSmall x)(ok:Bool):CF 49 [Yab x,.bool ok] (.I (Yda x ok)):=by
 have hch:=Xem hs;unfold Ylm at hch;unfold Yda
 cases hv:Yey x with
 | false =>
  rw[hv]at hch;rw[if_pos rfl]
  cases ok with
  | false=>exact Yaa (GG 23) Zrz (Zy2 x 70) ⟨hch,rfl,trivial⟩
  | true=>exact Yaa (GG 23) Zch (Zy1 x 70) ⟨hch,rfl,trivial⟩
 | true =>
  rw[hv]at hch;have hV:=Yf1.1 hv;have hr:=(Zcu hs.chain).up;rw[Yc0.2 hV.chain,Bool.true_and]at hr
  cases ok with
  | false=>exact Yaa (GG 23) Zrz (Zy3 x) ⟨hch,trivial⟩
  | true =>
   cases hc:canF x.chain with
   | false =>
    rw[hc]at hr;exact Yaa (GG 23) Zch (Xed x _) ⟨hch,hr,trivial⟩
   | true =>
    rw[hc]at hr;exact Yaa (GG 23) Zch (Zy0 x _) ⟨hch,hr,trivial⟩
def Zf0:List (Nat×TI):=(101,⟨.slice 29,1,24,[.nil],none,false⟩)::Yw9
theorem Yw8:Ybu PR (Yac Zf0):=Zxj (by kernel_rfl)
noncomputable abbrev MH (n:Nat):Cfg:=mk PRG (Yac Zf0) Yca n
theorem GH (n:Nat):Good PR (mk PR (Yac Zf0) Yca n):=good Yan Yw8
theorem LH.each {n id:Nat}{b c:Code}(hb:b=.block id (.loop c))(N:Nat)(S:Nat->KV){e:Ex}{L':KV}
  (on:∀ i,i<N->∃ dec orc lorc ks ps L1,runK (MH n) dec orc lorc c (S i) ks=some (ps,.normal,L1)/\allP ps/\L1=S (i+1))
  (fin:∃ dec orc lorc ks ps e1 L1,runK (MH n) dec orc lorc c (S N) ks=some (ps,e1,L1)/\allP ps/\(e1=.exit id/\e=.normal\/e1=.ret/\e=.ret)/\L1=L'):LF n b (S 0) e L':=by
 refine LoopT.count (tt:=Yac Zf0) hb N S (fun i hi=>?_) ?_
 ·obtain⟨dec,orc,lorc,ks,ps,L1,h1,h2,h3⟩:=on i hi;exact WpL.path (GH n) h1 h2 ⟨rfl,h3⟩
 ·obtain⟨dec,orc,lorc,ks,ps,e1,L1,h1,h2,h3,h4⟩:=fin;exact WpL.path (GH n) h1 h2 ⟨h3,h4⟩
noncomputable abbrev Yy8 (p:List Nat):Code:=Code.at p (body Proofs.Tryz.f108)
noncomputable abbrev k_77 (p:List Nat):Code:=Code.at p (body Proofs.Tryz.f77)
noncomputable abbrev k_76 (p:List Nat):Code:=Code.at p (body Proofs.Tryz.f76)
noncomputable abbrev k_40 (p:List Nat):Code:=Code.at p (body Proofs.Tryz.f40)
noncomputable abbrev k_41 (p:List Nat):Code:=Code.at p (body Proofs.Tryz.f41)
theorem Xhg:FnOk PRG (MH 42) 108 (body Tryz.f108) [.tmp 6]:=by refine⟨Tryz.f108,?_,?_,?_,?_,?_⟩<;>kernel_rfl
theorem Xck:FnOk PRG (MH 42) 108 (body Tryz.f108) [.tmp 6]:=by refine⟨Tryz.f108,?_,?_,?_,?_,?_⟩<;>kernel_rfl
theorem Xdl:FnOk PRG (MH 25) 77 (body Tryz.f77) [.tmp 2]:=by refine⟨Tryz.f77,?_,?_,?_,?_,?_⟩<;>kernel_rfl
theorem Zrx:FnOk PRG (MH 60) 76 (body Tryz.f76) [.tmp 2,.tmp 3]:=by refine⟨Tryz.f76,?_,?_,?_,?_,?_⟩<;>kernel_rfl
theorem Zsi:FnOk PRG (MH 20) 39 (body Tryz.f39) [.tmp 2,.tmp 3]:=by refine⟨Tryz.f39,?_,?_,?_,?_,?_⟩<;>kernel_rfl
theorem Zsb:FnOk PRG (MH 39) 40 (body Tryz.f40) [.tmp 2,.tmp 3]:=by refine⟨Tryz.f40,?_,?_,?_,?_,?_⟩<;>kernel_rfl
theorem Yx7:FnOk PRG (MH 62) 41 (body Tryz.f41) [.tmp 2,.tmp 3]:=by refine⟨Tryz.f41,?_,?_,?_,?_,?_⟩<;>kernel_rfl
theorem Xh4:FnOk PRG (MH 66) 13 (body Tryz.f13) [.tmp 4]:=by refine⟨Tryz.f13,?_,?_,?_,?_,?_⟩<;>kernel_rfl
theorem Xig:FnOk PRG (MH 17) 5 (body Tryz.f5) [.tmp 2]:=by refine⟨Tryz.f5,?_,?_,?_,?_,?_⟩<;>kernel_rfl
def Yon (x:FBook)(al:LL)(sm:LI)(l:LI)(i:Nat)(ys:List (List Work)):KV :=
 [(.tmp 1,.d (D.z (E.list E.int) al)),
  (.tmp 2,.d (D.z E.int sm)),
  (.tmp 3,.d (D.ptr 3 0)),
  (.tmp 7,.d (.own 40 ys.length)),
  (.tmp 8,.d (.z .int l)),
  (.tmp 9,.d (.I i)),
  (.box 3,.bz (cellsOf (Yab x))),
  (.obj 40,.ob (some ⟨.list .work,ys⟩))]
def Zrr:List Key:=[.tmp 1,.tmp 2,.tmp 3,.tmp 7,.tmp 8,.tmp 9,.box 3,.obj 40]
def Yoo (x:FBook)(al:LL)(sm:LI)(l:LI)(i:Nat):KV :=
 [(.tmp 1,.d (D.z (E.list E.int) al)),
  (.tmp 2,.d (D.z E.int sm)),
  (.tmp 3,.d (D.ptr 3 0)),
  (.tmp 7,.d (.sl true (.list .work) [])),
  (.tmp 8,.d (.z .int l)),
  (.tmp 9,.d (.I i)),
  (.box 3,.bz (cellsOf (Yab x))),
  (.obj 40,.ob none)]
def Zrt:List Key:=[.tmp 1,.tmp 2,.tmp 3,.tmp 7,.tmp 8,.tmp 9,.box 3,.obj 40]
def Yh9 (x:FBook)(th:LL)(wr:LI)(i:Nat)(ys:LL):KV :=
 [(.tmp 1,.d (D.ptr 1 0)),
  (.tmp 3,.d (D.ptr 3 0)),
  (.tmp 4,.d (.own 21 ys.length)),
  (.tmp 5,.d (.I i)),
  (.box 1,.bz (cellsOf (Yab x))),
  (.box 3,.bz [D.z (E.list E.int) th,D.z E.int wr]),
  (.obj 21,.ob (some ⟨.list .int,ys⟩))]
def Zbr:List Key:=[.tmp 1,.tmp 3,.tmp 4,.tmp 5,.box 1,.box 3,.obj 21]
def Yux (x:FBook)(th:LL)(wr:LI)(i:Nat):KV :=
 [(.tmp 1,.d (D.ptr 1 0)),
  (.tmp 3,.d (D.ptr 3 0)),
  (.tmp 4,.d (.sl true (.list .int) [])),
  (.tmp 5,.d (.I i)),
  (.box 1,.bz (cellsOf (Yab x))),
  (.box 3,.bz [D.z (E.list E.int) th,D.z E.int wr]),
  (.obj 21,.ob none)]
def Xdm:List Key:=[.tmp 1,.tmp 3,.tmp 4,.tmp 5,.box 1,.box 3,.obj 21]
def Ydl (x:FBook)(l:List (List Work))(i:Nat)(o:List Work):KV :=
 [(.tmp 1,.d (D.ptr 1 0)),
  (.tmp 4,.d (D.z (E.list E.work) l)),
  (.tmp 5,.d (.z .work o)),
  (.tmp 6,.d (.bool true)),
  (.tmp 7,.d (.I i)),
  (.box 1,.bz (cellsOf (Yab x)))]
def Yld:List Key:=[.tmp 1,.tmp 4,.tmp 5,.tmp 6,.tmp 7,.box 1]
def Yha (x:FBook)(l:List (List Work))(i:Nat):KV :=
 [(.tmp 1,.d (D.ptr 1 0)),
  (.tmp 4,.d (D.z (E.list E.work) l)),
  (.tmp 5,.d (.sl true .work [])),
  (.tmp 6,.d (.bool false)),
  (.tmp 7,.d (.I i)),
  (.box 1,.bz (cellsOf (Yab x)))]
def Yu6:List Key:=[.tmp 1,.tmp 4,.tmp 5,.tmp 6,.tmp 7,.box 1]
def Ykx (x:FBook)(l:List (List Work))(c i:Nat):KV :=
 [(.tmp 5,.d (D.z (E.list E.work) l)),
  (.tmp 6,.d (D.ptr 6 0)),
  (.tmp 7,.d (.I i)),
  (.box 6,.bx (some ⟨false,[.z .sec x.chain.secs,.z .int x.chain.turns,.z .sv x.chain.svs,.I x.chain.rule,.I x.chain.days,.z .int x.feet,.I x.new,.z .int x.opn,.I c,.I x.make]⟩))]
def Zgo:List Key:=[.tmp 5,.tmp 6,.tmp 7,.box 6]
def Yi9 (x:FBook)(l:List (List Work))(c:Nat):KV :=
 [(.tmp 5,.d (D.z (E.list E.work) l)),
  (.tmp 6,.d (D.ptr 6 0)),
  (.box 6,.bx (some ⟨false,[.z .sec x.chain.secs,.z .int x.chain.turns,.z .sv x.chain.svs,.I x.chain.rule,.I x.chain.days,.z .int x.feet,.I x.new,.z .int x.opn,.I c,.I x.make]⟩))]
def Zgp:List Key:=[.tmp 5,.tmp 6,.box 6]
def Ydn (x:FBook)(few rest:Int)(d:Nat):KV :=
 [(.tmp 1,.d (D.ptr 1 0)),
  (.tmp 6,.d (.I few)),
  (.tmp 9,.d (.I rest)),
  (.tmp 10,.d (.I d)),
  (.box 1,.bz (cellsOf (Yab x)))]
def Yl1:List Key:=[.tmp 1,.tmp 6,.tmp 9,.tmp 10,.box 1]
def Ynq (x:FBook)(l:List (List Work))(c i:Nat)(v:Int):KV :=
 [(.tmp 5,.d (D.z (E.list E.work) l)),(.tmp 6,.d (D.ptr 6 0)),(.tmp 7,.d (D.I (i:Int))),(.box 6,.bz [D.z E.sec (Book.secs (FBook.chain x)),D.z E.int (Book.turns (FBook.chain x)),D.z E.sv (Book.svs (FBook.chain x)),D.I (Book.rule (FBook.chain x)),D.I (Book.days (FBook.chain x)),D.z E.int (FBook.feet x),D.I (FBook.new x),D.z E.int (FBook.opn x),D.I (c:Int),D.I (FBook.make x)]),(.tmp 2,.d (D.I (c:Int))),(.tmp 3,.d (D.I 0))]
def Ynr (x:FBook)(l:List (List Work))(c:Nat)(i:Nat)(v:Int):KV :=
 [(.tmp 5,.d (D.z (E.list E.work) l)),(.tmp 6,.d (D.ptr 6 0)),(.box 6,.bz [D.z E.sec (Book.secs (FBook.chain x)),D.z E.int (Book.turns (FBook.chain x)),D.z E.sv (Book.svs (FBook.chain x)),D.I (Book.rule (FBook.chain x)),D.I (Book.days (FBook.chain x)),D.z E.int (FBook.feet x),D.I (FBook.new x),D.z E.int (FBook.opn x),D.I (c:Int),D.I (FBook.make x)]),(.tmp 2,.d (D.I (c:Int))),(.tmp 3,.d (D.I 0))]
theorem Zyv (x:FBook)(al:LL)(sm:LI)(l:LI)(i:Nat)(ys:List (List Work))(g:LI)(ps:List (List Work)) :runK (MH 42) [(27,true)] [(38,.z .int g),(39,.z (.list .work) ps)] [] (Yy8 [1,1,1,1,0,1,0,0]) (Yon x al sm l i ys) Zrr =some ([decide ((i:Int)<(l.length:Int))=true,(0:Int)<=(i:Int)/\(i:Int)<(l.length:Int),0+1<=1,CF 129 [D.z E.int sm,D.I (List.getD l (i) (0:Int))] (D.z E.int g),CF 108 [Yab x,D.z (E.list E.int) al,D.z E.int g] (D.z (E.list E.work) ps),ys.length=List.length (ys),List.length (ys++ps)*(24+1)<=140737488355328,Yae ((i:Int)+(1:Int))],Ex.normal,Yon x al sm l (i+1) (ys++ps)):=by kernel_rfl
theorem Zrs (x:FBook)(al:LL)(sm:LI)(l:LI)(i:Nat)(ys:List (List Work)) :runK (MH 42) [(27,false)] [] [] (Yy8 [1,1,1,1,0,1,0,0]) (Yon x al sm l i ys) Zrr =some ([decide ((i:Int)<(l.length:Int))=false],Ex.exit 0,Yon x al sm l i ys):=by kernel_rfl
theorem Zyy (x:FBook)(al:LL)(sm:LI)(l:LI)(i:Nat)(g:LI)(ps:List (List Work)) :runK (MH 42) [(27,true)] [(38,.z .int g),(39,.z (.list .work) ps)] [] (Yy8 [1,1,1,1,0,1,0,0]) (Yoo x al sm l i) Zrr =some ([decide ((i:Int)<(l.length:Int))=true,(0:Int)<=(i:Int)/\(i:Int)<(l.length:Int),0+1<=1,CF 129 [D.z E.int sm,D.I (List.getD l (i) (0:Int))] (D.z E.int g),CF 108 [Yab x,D.z (E.list E.int) al,D.z E.int g] (D.z (E.list E.work) ps),List.length ([]++ps)*(24+1)<=140737488355328,Yae ((i:Int)+(1:Int))],Ex.normal,Yon x al sm l (i+1) ps):=by kernel_rfl
theorem Zru (x:FBook)(al:LL)(sm:LI)(l:LI)(i:Nat) :runK (MH 42) [(27,false)] [] [] (Yy8 [1,1,1,1,0,1,0,0]) (Yoo x al sm l i) Zrt =some ([decide ((i:Int)<(l.length:Int))=false],Ex.exit 0,Yoo x al sm l i):=by kernel_rfl
theorem Zqu (x:FBook)(th:LL)(wr:LI)(i:Nat)(ys:LL)(z:LI) :runK (MH 25) [(12,true)] [(19,.z .int z)] [] (k_77 [1,1,1,0,1,0,0]) (Yh9 x th wr i ys) Zbr =some ([decide ((i:Int)<(x.feet.length:Int))=true,CF 107 [Yab x,D.agg [D.z (E.list E.int) th,D.z E.int wr],D.I (i:Int)] (D.z E.int z),ys.length=List.length (ys),List.length (ys++[z])*(24+1)<=140737488355328,Yae ((i:Int)+(1:Int))],Ex.normal,Yh9 x th wr (i+1) (ys++[z])):=by kernel_rfl
theorem Zjk (x:FBook)(th:LL)(wr:LI)(i:Nat)(ys:LL) :runK (MH 25) [(12,false)] [] [] (k_77 [1,1,1,0,1,0,0]) (Yh9 x th wr i ys) Zbr =some ([decide ((i:Int)<(x.feet.length:Int))=false],Ex.exit 0,Yh9 x th wr i ys):=by kernel_rfl
theorem Zqv (x:FBook)(th:LL)(wr:LI)(i:Nat)(z:LI) :runK (MH 25) [(12,true)] [(19,.z .int z)] [] (k_77 [1,1,1,0,1,0,0]) (Yux x th wr i) Zbr =some ([decide ((i:Int)<(x.feet.length:Int))=true,CF 107 [Yab x,D.agg [D.z (E.list E.int) th,D.z E.int wr],D.I (i:Int)] (D.z E.int z),1*(24+1)<=140737488355328,Yae ((i:Int)+(1:Int))],Ex.normal,Yh9 x th wr (i+1) [z]):=by kernel_rfl
theorem Zca (x:FBook)(l:List (List Work))(i:Nat)(o:List Work)(k:Int) :runK (MH 60) [(15,true),(24,true)] [(23,.I k)] [] (k_76 [1,1,1,1,0,1,0,0]) (Ydl x l i o) Yld =some ([decide ((i:Int)<(l.length:Int))=true,(0:Int)<=(i:Int)/\(i:Int)<(l.length:Int),CF 75 [Yab x,D.z E.work (List.getD l (i) (E.z (E.list E.work)))] (D.I k),decide (k>=(0:Int))=true,Yae ((i:Int)+(1:Int))],Ex.normal,Ydl x l (i+1) o):=by kernel_rfl
theorem Zj8 (x:FBook)(l:List (List Work))(i:Nat)(o:List Work) :runK (MH 60) [(15,false)] [] [] (k_76 [1,1,1,1,0,1,0,0]) (Ydl x l i o) Yld =some ([decide ((i:Int)<(l.length:Int))=false],Ex.exit 0,Ydl x l i o):=by kernel_rfl
theorem Zcc (x:FBook)(l:List (List Work))(i:Nat)(o:List Work)(k n m:Int) :runK (MH 60) [(15,true),(24,false),(41,true)] [(23,.I k),(30,.I n),(33,.I m)] [] (k_76 [1,1,1,1,0,1,0,0]) (Ydl x l i o) Yld =let Z0:Prop:=decide (n<m)=true;let Z1:=List.getD l (i) (E.z (E.list E.work));some ([decide ((i:Int)<(l.length:Int))=true,(0:Int)<=(i:Int)/\(i:Int)<(l.length:Int),CF 75 [Yab x,D.z E.work Z1] (D.I k),decide (k>=(0:Int))=false,(0:Int)<=(i:Int)/\(i:Int)<(l.length:Int),CF 74 [Yab x,D.z E.work Z1] (D.I n),CF 74 [Yab x,D.z E.work o] (D.I m),Z0,Z0,Z0,Z0,Z0,Z0,(0:Int)<=(i:Int)/\(i:Int)<(l.length:Int),Yae ((i:Int)+(1:Int))],Ex.normal,Ydl x l (i+1) (l.getD i [])):=by kernel_rfl
theorem Zcb (x:FBook)(l:List (List Work))(i:Nat)(o:List Work)(k n m:Int) :runK (MH 60) [(15,true),(24,false),(41,false),(45,false)] [(23,.I k),(30,.I n),(33,.I m)] [] (k_76 [1,1,1,1,0,1,0,0]) (Ydl x l i o) Yld =let Z0:Prop:=decide (n<m)=false;let Z1:=List.getD l (i) (E.z (E.list E.work));some ([decide ((i:Int)<(l.length:Int))=true,(0:Int)<=(i:Int)/\(i:Int)<(l.length:Int),CF 75 [Yab x,D.z E.work Z1] (D.I k),decide (k>=(0:Int))=false,(0:Int)<=(i:Int)/\(i:Int)<(l.length:Int),CF 74 [Yab x,D.z E.work Z1] (D.I n),CF 74 [Yab x,D.z E.work o] (D.I m),Z0,Z0,Z0,Z0,(n==m)=false,(n==m)=false,(n==m)=false,(n==m)=false,(n==m)=false,(n==m)=false,Z0,(n==m)=false,Z0,Yae ((i:Int)+(1:Int))],Ex.normal,Ydl x l (i+1) o):=by kernel_rfl
theorem Zj6 (x:FBook)(l:List (List Work))(i:Nat)(o:List Work)(k n m:Int) :runK (MH 60) [(15,true),(24,false),(41,false),(45,true)] [(23,.I k),(30,.I n),(33,.I m),(51,.bool true)] [] (k_76 [1,1,1,1,0,1,0,0]) (Ydl x l i o) Yld =let Z0:Prop:=decide (n<m)=false;let Z1:=List.getD l (i) (E.z (E.list E.work));some ([decide ((i:Int)<(l.length:Int))=true,(0:Int)<=(i:Int)/\(i:Int)<(l.length:Int),CF 75 [Yab x,D.z E.work Z1] (D.I k),decide (k>=(0:Int))=false,(0:Int)<=(i:Int)/\(i:Int)<(l.length:Int),CF 74 [Yab x,D.z E.work Z1] (D.I n),CF 74 [Yab x,D.z E.work o] (D.I m),Z0,Z0,Z0,Z0,(n==m)=true,(n==m)=true,(n==m)=true,(0:Int)<=(i:Int)/\(i:Int)<(l.length:Int),(n==m)=true,(n==m)=true,(n==m)=true,CF 106 [D.z E.work Z1,D.z E.work o] (D.bool true),Z0,(n==m)=true,Z0,(0:Int)<=(i:Int)/\(i:Int)<(l.length:Int),Yae ((i:Int)+(1:Int))],Ex.normal,Ydl x l (i+1) (l.getD i [])):=by kernel_rfl
theorem Zj7 (x:FBook)(l:List (List Work))(i:Nat)(o:List Work)(k n m:Int) :runK (MH 60) [(15,true),(24,false),(41,false),(45,true)] [(23,.I k),(30,.I n),(33,.I m),(51,.bool false)] [] (k_76 [1,1,1,1,0,1,0,0]) (Ydl x l i o) Yld =let Z0:Prop:=decide (n<m)=false;let Z1:=List.getD l (i) (E.z (E.list E.work));some ([decide ((i:Int)<(l.length:Int))=true,(0:Int)<=(i:Int)/\(i:Int)<(l.length:Int),CF 75 [Yab x,D.z E.work Z1] (D.I k),decide (k>=(0:Int))=false,(0:Int)<=(i:Int)/\(i:Int)<(l.length:Int),CF 74 [Yab x,D.z E.work Z1] (D.I n),CF 74 [Yab x,D.z E.work o] (D.I m),Z0,Z0,Z0,Z0,(n==m)=true,(n==m)=true,(n==m)=true,(0:Int)<=(i:Int)/\(i:Int)<(l.length:Int),(n==m)=true,(n==m)=true,(n==m)=true,CF 106 [D.z E.work Z1,D.z E.work o] (D.bool false),Z0,(n==m)=true,Z0,Yae ((i:Int)+(1:Int))],Ex.normal,Ydl x l (i+1) o):=by kernel_rfl
theorem Zce (x:FBook)(l:List (List Work))(i:Nat)(k:Int) :runK (MH 60) [(15,true),(24,true)] [(23,.I k)] [] (k_76 [1,1,1,1,0,1,0,0]) (Yha x l i) Yu6 =some ([decide ((i:Int)<(l.length:Int))=true,(0:Int)<=(i:Int)/\(i:Int)<(l.length:Int),CF 75 [Yab x,D.z E.work (List.getD l (i) (E.z (E.list E.work)))] (D.I k),decide (k>=(0:Int))=true,Yae ((i:Int)+(1:Int))],Ex.normal,Yha x l (i+1)):=by kernel_rfl
theorem Zj9 (x:FBook)(l:List (List Work))(i:Nat) :runK (MH 60) [(15,false)] [] [] (k_76 [1,1,1,1,0,1,0,0]) (Yha x l i) Yu6 =some ([decide ((i:Int)<(l.length:Int))=false],Ex.exit 0,Yha x l i):=by kernel_rfl
theorem Zcd (x:FBook)(l:List (List Work))(i:Nat)(k n m:Int) :runK (MH 60) [(15,true),(24,false)] [(23,.I k),(30,.I n),(33,.I m)] [] (k_76 [1,1,1,1,0,1,0,0]) (Yha x l i) Yld =let Z0:=List.getD l (i) (E.z (E.list E.work));some ([decide ((i:Int)<(l.length:Int))=true,(0:Int)<=(i:Int)/\(i:Int)<(l.length:Int),CF 75 [Yab x,D.z E.work Z0] (D.I k),decide (k>=(0:Int))=false,(0:Int)<=(i:Int)/\(i:Int)<(l.length:Int),CF 74 [Yab x,D.z E.work Z0] (D.I n),CF 74 [Yab x,D.z E.work []] (D.I m),(0:Int)<=(i:Int)/\(i:Int)<(l.length:Int),Yae ((i:Int)+(1:Int))],Ex.normal,Ydl x l (i+1) (l.getD i [])):=by kernel_rfl
theorem Zy8 (x:FBook)(l:List (List Work))(c i:Nat)(v:Int) :runK (MH 39) [(27,true),(36,false)] [(35,.I v)] [] (k_40 [1,1,1,0,1,0,0,1,0,0,1,0,0]) (Ykx x l c i) Zgo =some ([decide ((i:Int)<(l.length:Int))=true,(0:Int)<=(i:Int)/\(i:Int)<(l.length:Int),CF 75 [D.agg [D.z E.sec x.chain.secs,D.z E.int x.chain.turns,D.z E.sv x.chain.svs,D.I x.chain.rule,D.I x.chain.days,D.z E.int x.feet,D.I x.new,D.z E.int x.opn,D.I (c:Int),D.I x.make],D.z E.work (List.getD l (i) (E.z (E.list E.work)))] (D.I v),decide (v<(0:Int))=false,Yae ((i:Int)+(1:Int))],Ex.normal,Ykx x l c (i+1)):=by kernel_rfl
theorem Zsc (x:FBook)(l:List (List Work))(c i:Nat)(v:Int) :runK (MH 39) [(27,true),(36,true)] [(35,.I v)] [] (k_40 [1,1,1,0,1,0,0,1,0,0,1,0,0]) (Ykx x l c i) [.tmp 5,.tmp 6,.tmp 7,.box 6,.tmp 2,.tmp 3] =some ([decide ((i:Int)<(l.length:Int))=true,(0:Int)<=(i:Int)/\(i:Int)<(l.length:Int),CF 75 [D.agg [D.z E.sec x.chain.secs,D.z E.int x.chain.turns,D.z E.sv x.chain.svs,D.I x.chain.rule,D.I x.chain.days,D.z E.int x.feet,D.I x.new,D.z E.int x.opn,D.I (c:Int),D.I x.make],D.z E.work (List.getD l (i) (E.z (E.list E.work)))] (D.I v),decide (v<(0:Int))=true],Ex.ret,Ynq x l c i v):=by kernel_rfl
theorem Zsd (x:FBook)(l:List (List Work))(c i:Nat) :runK (MH 39) [(27,false)] [] [] (k_40 [1,1,1,0,1,0,0,1,0,0,1,0,0]) (Ykx x l c i) Zgo =some ([decide ((i:Int)<(l.length:Int))=false],Ex.exit 2,Ykx x l c i):=by kernel_rfl
theorem Zy9 (x:FBook)(l:List (List Work))(c:Nat)(i:Nat) :runK (MH 39) [(19,true)] [] [(2,(Zgo,(.normal,Ykx x l c i)))] (k_40 [1,1,1,0,1,0,0]) (Yi9 x l c) Zgp =some ([decide ((c:Int)<=(200:Int))=true,LF 39 (k_40 [1,1,1,0,1,0,0,1,0,0,1]) [(.tmp 5,.d (D.z (E.list E.work) l)),(.tmp 6,.d (D.ptr 6 0)),(.tmp 7,.d (D.I 0)),(.box 6,.bz [D.z E.sec x.chain.secs,D.z E.int x.chain.turns,D.z E.sv x.chain.svs,D.I x.chain.rule,D.I x.chain.days,D.z E.int x.feet,D.I x.new,D.z E.int x.opn,D.I (c:Int),D.I x.make])] Ex.normal (Ykx x l c i),Yae ((c:Int)+(1:Int))],Ex.normal,Yi9 x l (c+1)):=by kernel_rfl
theorem Zse (x:FBook)(l:List (List Work))(c:Nat)(i:Nat)(v:Int) :runK (MH 39) [(19,true)] [] [(2,(Zgo,(.ret,Ynq x l c i v)))] (k_40 [1,1,1,0,1,0,0]) (Yi9 x l c) [.tmp 5,.tmp 6,.box 6,.tmp 2,.tmp 3] =some ([decide ((c:Int)<=(200:Int))=true,LF 39 (k_40 [1,1,1,0,1,0,0,1,0,0,1]) [(.tmp 5,.d (D.z (E.list E.work) l)),(.tmp 6,.d (D.ptr 6 0)),(.tmp 7,.d (D.I 0)),(.box 6,.bz [D.z E.sec x.chain.secs,D.z E.int x.chain.turns,D.z E.sv x.chain.svs,D.I x.chain.rule,D.I x.chain.days,D.z E.int x.feet,D.I x.new,D.z E.int x.opn,D.I (c:Int),D.I x.make])] Ex.ret (Ynq x l c i v)],Ex.ret,Ynr x l c i v):=by kernel_rfl
theorem Zsf (x:FBook)(l:List (List Work))(c:Nat) :runK (MH 39) [(19,false)] [] [] (k_40 [1,1,1,0,1,0,0]) (Yi9 x l c) Zgp =some ([decide ((c:Int)<=(200:Int))=false],Ex.exit 0,Yi9 x l c):=by kernel_rfl
theorem Zsg (x:FBook)(few rest:Int)(d:Nat)(a:Int) :runK (MH 62) [(32,true),(39,true)] [(38,.I a)] [] (k_41 [1,1,1,1,1,1,0,1,0,0]) (Ydn x few rest d) Yl1 =some ([decide ((d:Int)<=x.chain.days)=true,CF 78 [D.z E.int x.opn,D.I (d:Int)] (D.I a),decide (a>=(0:Int))=true,Yae ((d:Int)+(1:Int))],Ex.normal,Ydn x few rest (d+1)):=by kernel_rfl
theorem Zza (x:FBook)(few rest:Int)(d:Nat)(a:Int)(y:FBook) :runK (MH 62) [(32,true),(39,false)] [(38,.I a),(43,Yab y),(44,.tup [.sl true .work [],.bool false])] [] (k_41 [1,1,1,1,1,1,0,1,0,0]) (Ydn x few rest d) Yl1 =some ([decide ((d:Int)<=x.chain.days)=true,CF 78 [D.z E.int x.opn,D.I (d:Int)] (D.I a),decide (a>=(0:Int))=false,CF 79 [Yab x,D.I (d:Int)] (Yab y),CF 76 [Yab y] (D.tup [D.sl true E.work [],D.bool false]),Yae ((d:Int)+(1:Int))],Ex.normal,Ydn x few rest (d+1)):=by kernel_rfl
theorem Zkl (x:FBook)(few rest:Int)(d:Nat)(a n:Int)(y:FBook)(p:List Work) :runK (MH 62) [(32,true),(39,false),(54,false)] [(38,.I a),(43,Yab y),(44,.tup [.z .work p,.bool true]),(51,.I n)] [] (k_41 [1,1,1,1,1,1,0,1,0,0]) (Ydn x few rest d) Yl1 =some ([decide ((d:Int)<=x.chain.days)=true,CF 78 [D.z E.int x.opn,D.I (d:Int)] (D.I a),decide (a>=(0:Int))=false,CF 79 [Yab x,D.I (d:Int)] (Yab y),CF 76 [Yab y] (D.tup [D.z E.work p,D.bool true]),CF 74 [Yab x,D.z E.work p] (D.I n),decide (n<few)=false,Yae ((d:Int)+(1:Int))],Ex.normal,Ydn x few rest (d+1)):=by kernel_rfl
theorem Zkm (x:FBook)(few rest:Int)(d:Nat)(a n:Int)(y:FBook)(p:List Work) :runK (MH 62) [(32,true),(39,false),(54,true)] [(38,.I a),(43,Yab y),(44,.tup [.z .work p,.bool true]),(51,.I n),(58,.I n)] [] (k_41 [1,1,1,1,1,1,0,1,0,0]) (Ydn x few rest d) Yl1 =let Z0:Prop:=CF 74 [Yab x,D.z E.work p] (D.I n);some ([decide ((d:Int)<=x.chain.days)=true,CF 78 [D.z E.int x.opn,D.I (d:Int)] (D.I a),decide (a>=(0:Int))=false,CF 79 [Yab x,D.I (d:Int)] (Yab y),CF 76 [Yab y] (D.tup [D.z E.work p,D.bool true]),Z0,decide (n<few)=true,Z0,Yae ((d:Int)+(1:Int))],Ex.normal,Ydn x n (d:Int) (d+1)):=by kernel_rfl
theorem Zsh (x:FBook)(few rest:Int)(d:Nat) :runK (MH 62) [(32,false)] [] [] (k_41 [1,1,1,1,1,1,0,1,0,0]) (Ydn x few rest d) Yl1 =some ([decide ((d:Int)<=x.chain.days)=false],Ex.exit 0,Ydn x few rest d):=by kernel_rfl
theorem Zyf (x:FBook)(al:LL)(sm:LI)(p:List Work) :Yaj (MH 42) [(14,true)] [(17,.z .work p)] [] (body Tryz.f108) [.tmp 6] [Yab x,.z (.list .int) al,.z .int sm] =some ([((sm.length:Int)==(al.length:Int))=true,CF 128 [Yab x,D.z E.int sm] (D.z E.work p)],D.sl true (E.list E.work) [p]):=by kernel_rfl
theorem Zyx (x:FBook)(al:LL)(sm:LI)(l:LI)(i:Nat) :Yaj (MH 42) [(14,false)] [] [(0,(Zrt,(.normal,Yoo x al sm l i)))] (body Tryz.f108) [.tmp 6] [Yab x,.z (.list .int) al,.z .int sm] =some ([((sm.length:Int)==(al.length:Int))=false,(0:Int)<=(sm.length:Int)/\(sm.length:Int)<(al.length:Int),LF 42 (Yy8 [1,1,1,1,0,1]) (Yoo x al sm (List.getD al (Int.toNat (sm.length:Int)) (E.z (E.list E.int))) 0) Ex.normal (Yoo x al sm l i)],D.sl true (E.list E.work) []):=by kernel_rfl
theorem Zyw (x:FBook)(al:LL)(sm:LI)(l:LI)(i:Nat)(ys:List (List Work)) :Yaj (MH 42) [(14,false)] [] [(0,(Zrt,(.normal,Yon x al sm l i ys)))] (body Tryz.f108) [.tmp 6] [Yab x,.z (.list .int) al,.z .int sm] =some ([((sm.length:Int)==(al.length:Int))=false,(0:Int)<=(sm.length:Int)/\(sm.length:Int)<(al.length:Int),LF 42 (Yy8 [1,1,1,1,0,1]) (Yoo x al sm (List.getD al (Int.toNat (sm.length:Int)) (E.z (E.list E.int))) 0) Ex.normal (Yon x al sm l i ys),ys.length=List.length (ys)],D.z (E.list E.work) (ys)):=by kernel_rfl
theorem Zxz (x:FBook)(th:LL)(wr:LI)(i:Nat)(ys:LL)(ps:List (List Work)) :Yaj (MH 25) [] [(7,.agg [.z (.list .int) th,.z .int wr]),(24,.z (.list .work) ps)] [(0,(Xdm,(.normal,Yh9 x th wr i ys)))] (body Tryz.f77) [.tmp 2] [Yab x] =some ([CF 53 [Yab x] (D.agg [D.z (E.list E.int) th,D.z E.int wr]),LF 25 (k_77 [1,1,1,0,1]) (Yux x th wr 0) Ex.normal (Yh9 x th wr i ys),ys.length=List.length (ys),CF 108 [Yab x,D.z (E.list E.int) (ys),D.z E.int []] (D.z (E.list E.work) ps)],D.z (E.list E.work) ps):=by kernel_rfl
theorem Zrw (x:FBook)(l:List (List Work))(i:Nat) :Yaj (MH 60) [] [(11,.z (.list .work) l)] [(0,(Yu6,(.normal,Yha x l i)))] (body Tryz.f76) [.tmp 2,.tmp 3] [Yab x] =some ([CF 77 [Yab x] (D.z (E.list E.work) l),LF 60 (k_76 [1,1,1,1,0,1]) (Yha x l 0) Ex.normal (Yha x l i)],D.tup [D.sl true E.work [],D.bool false]):=by kernel_rfl
theorem Zrv (x:FBook)(l:List (List Work))(i:Nat)(o:List Work) :Yaj (MH 60) [] [(11,.z (.list .work) l)] [(0,(Yu6,(.normal,Ydl x l i o)))] (body Tryz.f76) [.tmp 2,.tmp 3] [Yab x] =some ([CF 77 [Yab x] (D.z (E.list E.work) l),LF 60 (k_76 [1,1,1,1,0,1]) (Yha x l 0) Ex.normal (Ydl x l i o)],D.tup [D.z E.work o,D.bool true]):=by kernel_rfl
theorem Xek (x:FBook)(e:Int) :Yaj (MH 20) [(10,true)] [(8,.I e)] [] (body Tryz.f39) [.tmp 2,.tmp 3] [Yab x] =some ([CF 49 [Yab x,D.bool true] (D.I e),(e != (0:Int))=true],D.tup [D.sl true E.work [],D.I e]):=by kernel_rfl
theorem Zzc (x:FBook) :Yaj (MH 20) [] [(8,.I 0),(14,.tup [.sl true .work [],.bool false])] [] (body Tryz.f39) [.tmp 2,.tmp 3] [Yab x] =some ([CF 49 [Yab x,D.bool true] (D.I 0),CF 76 [Yab x] (D.tup [D.sl true E.work [],D.bool false])],D.tup [D.sl true E.work [],D.I 4]):=by kernel_rfl
theorem Zzb (x:FBook)(p:List Work) :Yaj (MH 20) [] [(8,.I 0),(14,.tup [.z .work p,.bool true])] [] (body Tryz.f39) [.tmp 2,.tmp 3] [Yab x] =some ([CF 49 [Yab x,D.bool true] (D.I 0),CF 76 [Yab x] (D.tup [D.z E.work p,D.bool true])],D.tup [D.z E.work p,D.I 0]):=by kernel_rfl
theorem Xeg (x:FBook)(l:List (List Work))(e:Int) :Yaj (MH 39) [(11,true)] [(9,.I e)] [] (body Tryz.f40) [.tmp 2,.tmp 3] [Yab x] =some ([CF 49 [Yab x,D.bool true] (D.I e),(e != (0:Int))=true],D.tup [D.I 0,D.I e]):=by kernel_rfl
theorem Zy7 (x:FBook)(l:List (List Work))(c:Nat) :Yaj (MH 39) [] [(9,.I 0),(14,.z (.list .work) l)] [(0,(Zgp,(.normal,Yi9 x l c)))] (body Tryz.f40) [.tmp 2,.tmp 3] [Yab x] =let Z0:=D.z (E.list E.work) l;some ([CF 49 [Yab x,D.bool true] (D.I 0),CF 77 [Yab x] Z0,LF 39 (k_40 [1,1,1,0,1]) [(.tmp 5,.d Z0),(.tmp 6,.d (D.ptr 6 0)),(.box 6,.bz [D.z E.sec x.chain.secs,D.z E.int x.chain.turns,D.z E.sv x.chain.svs,D.I x.chain.rule,D.I x.chain.days,D.z E.int x.feet,D.I x.new,D.z E.int x.opn,D.I 0,D.I x.make])] Ex.normal (Yi9 x l c)],D.tup [D.I 0,D.I 4]):=by kernel_rfl
theorem Xee (x:FBook)(l:List (List Work))(c i:Nat)(v:Int) :Yaj (MH 39) [] [(9,.I 0),(14,.z (.list .work) l)] [(0,(Zgp,(.ret,Ynr x l c i v)))] (body Tryz.f40) [.tmp 2,.tmp 3] [Yab x] =let Z0:=D.z (E.list E.work) l;some ([CF 49 [Yab x,D.bool true] (D.I 0),CF 77 [Yab x] Z0,LF 39 (k_40 [1,1,1,0,1]) [(.tmp 5,.d Z0),(.tmp 6,.d (D.ptr 6 0)),(.box 6,.bz [D.z E.sec x.chain.secs,D.z E.int x.chain.turns,D.z E.sv x.chain.svs,D.I x.chain.rule,D.I x.chain.days,D.z E.int x.feet,D.I x.new,D.z E.int x.opn,D.I 0,D.I x.make])] Ex.ret (Ynr x l c i v)],D.tup [D.I (c:Int),D.I 0]):=by kernel_rfl
theorem Xei (x:FBook)(e:Int) :Yaj (MH 62) [(16,true)] [(14,.I e)] [] (body Tryz.f41) [.tmp 2,.tmp 3] [Yab x] =some ([CF 49 [Yab x,D.bool true] (D.I e),(e != (0:Int))=true],D.tup [D.I 0,D.I e]):=by kernel_rfl
theorem Xhn (x:FBook)(few rest:Int)(d:Nat) :Yaj (MH 62) [(60,true)] [(14,.I 0),(21,.tup [.sl true .work [],.bool false])] [(0,(Yl1,(.normal,Ydn x few rest d)))] (body Tryz.f41) [.tmp 2,.tmp 3] [Yab x] =some ([CF 49 [Yab x,D.bool true] (D.I 0),CF 76 [Yab x] (D.tup [D.sl true E.work [],D.bool false]),LF 62 (k_41 [1,1,1,1,1,1,0,1]) [(.tmp 1,.d (D.ptr 1 0)),(.tmp 6,.d (D.I 601)),(.tmp 9,.d (D.I (-(1:Int)))),(.tmp 10,.d (D.I 0)),(.box 1,.bz (cellsOf (Yab x)))] Ex.normal (Ydn x few rest d),decide (rest<(0:Int))=true],D.tup [D.I 0,D.I 4]):=by kernel_rfl
theorem Xhm (x:FBook)(few rest:Int)(d:Nat) :Yaj (MH 62) [(60,false)] [(14,.I 0),(21,.tup [.sl true .work [],.bool false])] [(0,(Yl1,(.normal,Ydn x few rest d)))] (body Tryz.f41) [.tmp 2,.tmp 3] [Yab x] =some ([CF 49 [Yab x,D.bool true] (D.I 0),CF 76 [Yab x] (D.tup [D.sl true E.work [],D.bool false]),LF 62 (k_41 [1,1,1,1,1,1,0,1]) [(.tmp 1,.d (D.ptr 1 0)),(.tmp 6,.d (D.I 601)),(.tmp 9,.d (D.I (-(1:Int)))),(.tmp 10,.d (D.I 0)),(.box 1,.bz (cellsOf (Yab x)))] Ex.normal (Ydn x few rest d),decide (rest<(0:Int))=false],D.tup [D.I rest,D.I 0]):=by kernel_rfl
theorem Xhl (x:FBook)(few rest:Int)(d:Nat)(p:List Work)(n:Int) :Yaj (MH 62) [(60,true)] [(14,.I 0),(21,.tup [.z .work p,.bool true]),(27,.I n)] [(0,(Yl1,(.normal,Ydn x few rest d)))] (body Tryz.f41) [.tmp 2,.tmp 3] [Yab x] =some ([CF 49 [Yab x,D.bool true] (D.I 0),CF 76 [Yab x] (D.tup [D.z E.work p,D.bool true]),CF 74 [Yab x,D.z E.work p] (D.I n),LF 62 (k_41 [1,1,1,1,1,1,0,1]) [(.tmp 1,.d (D.ptr 1 0)),(.tmp 6,.d (D.I n)),(.tmp 9,.d (D.I (-(1:Int)))),(.tmp 10,.d (D.I 0)),(.box 1,.bz (cellsOf (Yab x)))] Ex.normal (Ydn x few rest d),decide (rest<(0:Int))=true],D.tup [D.I 0,D.I 4]):=by kernel_rfl
theorem Xhk (x:FBook)(few rest:Int)(d:Nat)(p:List Work)(n:Int) :Yaj (MH 62) [(60,false)] [(14,.I 0),(21,.tup [.z .work p,.bool true]),(27,.I n)] [(0,(Yl1,(.normal,Ydn x few rest d)))] (body Tryz.f41) [.tmp 2,.tmp 3] [Yab x] =some ([CF 49 [Yab x,D.bool true] (D.I 0),CF 76 [Yab x] (D.tup [D.z E.work p,D.bool true]),CF 74 [Yab x,D.z E.work p] (D.I n),LF 62 (k_41 [1,1,1,1,1,1,0,1]) [(.tmp 1,.d (D.ptr 1 0)),(.tmp 6,.d (D.I n)),(.tmp 9,.d (D.I (-(1:Int)))),(.tmp 10,.d (D.I 0)),(.box 1,.bz (cellsOf (Yab x)))] Ex.normal (Ydn x few rest d),decide (rest<(0:Int))=false],D.tup [D.I rest,D.I 0]):=by kernel_rfl
theorem Xfa (x:FBook)(p:List Work)(e k g m h:Int) :Yaj (MH 66) [(29,false),(43,false),(47,false),(61,true)] [(13,.tup [.z .work p,.I e]),(18,.tup [.z .work p,.I e]),(23,.bool true),(32,.tup [.I k,.I g]),(37,.tup [.I k,.I g]),(50,.tup [.I m,.I h]),(55,.tup [.I m,.I h])] [] (body Tryz.f13) [.tmp 4] [Yab x,Yab x] =let Z0:=D.tup [D.z E.work p,D.I e];some ([CF 33 [Yab x] Z0,CF 39 [Yab x] Z0,CF 36 [D.z E.work p,D.z E.work p] (D.bool true),(e != e)=false,CF 34 [Yab x] (D.tup [D.I k,D.I g]),CF 40 [Yab x] (D.tup [D.I k,D.I g]),(k != k)=false,(k != k)=false,(k != k)=false,(k != k)=false,(g != g)=false,CF 35 [Yab x] (D.tup [D.I m,D.I h]),CF 41 [Yab x] (D.tup [D.I m,D.I h]),(m==m)=true,(m==m)=true,(m==m)=true,(m==m)=true],D.bool (h==h)):=by kernel_rfl
theorem Xfl (x:FBook) :Yaj (MH 17) [] [(5,Yab x),(8,.bool true),(12,.bool true),(15,.bool true)] [] (body Tryz.f5) [.tmp 2] [Yab x] =some ([CF 6 [Yab x] (Yab x),CF 13 [Yab x,Yab x] (D.bool true),CF 9 [Yab x,Yab x] (D.bool true),CF 11 [] (D.bool true)],D.bool true):=by kernel_rfl
end Go.Di
