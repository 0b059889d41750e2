/- Part 14: contracts are proved. No condition. -/
import Derived.Test.YtfkmodcjddfeiaaGreatDoorDi13
set_option linter.unusedVariables false
set_option linter.unusedSimpArgs false
namespace Go.Di
open Proofs
theorem Ycr (p:Nat->Bool):∀ n,(∃ k,k<n/\p k=true/\∀ i<k,p i=false)\/∀ i<n,p i=false
 | 0=>.inr fun i h=>by omega
 | n+1=>by
  rcases Ycr p n with ⟨k,h1,h2,h3⟩|h
  ·exact .inl ⟨k,by omega,h2,h3⟩
  ·cases hn:p n with
   | true=>exact .inl ⟨n,by omega,hn,h⟩
   | false =>
    refine .inr fun i hi=>?_
    by_cases e:i=n
    ·subst e;exact hn
    ·exact h i (by omega)
theorem Contract.toWeak {P:Program}{glob:Nat->Option (List D)}{f:FuncId}{args:List D}{r:D}(h:Contract P glob f args r):Contract P glob f args (weak r):=h.toRes fun _ _ _=>Zfz
theorem Yfy (a c:Int):Contract PR glob 94 [.I a,.I c] (spD ⟨a,c⟩):=Yaa (G 8) Zr0 (Zkb a c) ⟨by omega,trivial⟩
theorem Yl4 (a:Int):Contract PR glob 116 [.I a] (spD ⟨a,a⟩):=Yaa (G 6) Zzi (Zsp a) ⟨Yfy a a,by omega,trivial⟩
theorem Ykl (n lo hi:Int):Contract PR glob 51 [.I n,.I lo,.I hi] (.bool (Ygk n lo hi)):=by
 unfold Ygk
 cases h:decide (n>=lo) with
 | false=>exact Yaa (G 15) Yzg (Zt1 n lo hi) ⟨h,h,h,h,trivial⟩
 | true=>exact Yaa (G 15) Yzg (Zl5 n lo hi) ⟨h,h,h,h,trivial⟩
def Ybr (s:Span)(lo hi:Int):Bool:=decide (s.lo>=lo)&&decide (s.lo<=s.hi)&&decide (s.hi<=hi)
theorem Ys5 (s:Span)(lo hi:Int):Contract PR glob 91 [spD s,.I lo,.I hi] (.bool (Ybr s lo hi)):=by
 unfold Ybr
 cases h:decide (s.lo>=lo) with
 | false =>
  refine Yaa (G 24) Yp4 (Zws s lo hi) ?_
  repeat(first|exact trivial|refine⟨by first|exact h|omega,?_⟩)
 | true =>
  cases h2:decide (s.lo<=s.hi) with
  | false =>
   refine Yaa (G 24) Yp4 (Zwr s lo hi) ?_
   repeat(first|exact trivial|refine⟨by first|exact h|exact h2|omega,?_⟩)
  | true =>
   refine Yaa (G 24) Yp4 (Zwq s lo hi) ?_
   repeat(first|exact trivial|refine⟨by first|exact h|exact h2|omega,?_⟩)
theorem Xbg {xs ys:LI}(hl:xs.length=ys.length)(h:∀ i<xs.length,xs.getD i 0=ys.getD i 0):xs=ys:=by
 refine List.ext_getElem hl fun i h1 h2=>?_
 have:=h i h1
 rwa [List.getD_eq_getElem?_getD,List.getD_eq_getElem?_getD,List.getElem?_eq_getElem h1,List.getElem?_eq_getElem h2]at this
theorem Yr5 (xs ys:LI)(hl:xs.length<=9223372036854775807):Contract PR glob 25 [.z .int xs,.z .int ys] (.bool (decide (xs=ys))):=by
 have hb:k_25 [1,1,0,1]=.block 0 (.loop (k_25 [1,1,0,1,0,0])):=by kernel_rfl
 by_cases hlen:xs.length=ys.length
 ·have hne:((xs.length:Int) != (ys.length:Int))=false:=by rw[hlen];simp
  have hon:∀ k,k<=xs.length->(∀ i<k,(xs.getD i 0 != ys.getD i 0)=false)->∀ i,i<k->WpL PR (MP 26) (k_25 [1,1,0,1,0,0]) (Yeh xs ys i) fun e1 L1=>e1=.normal/\L1=Yeh xs ys (i+1):=fun k hk h i hi =>
   WpL.path (G 26) (Zof xs ys i) ⟨decide_eq_true (by omega),by omega,by omega,by omega,by omega,h i hi,by simp only[Yae];omega,trivial⟩ ⟨rfl,rfl⟩
  rcases Ycr (fun i=>xs.getD i 0 != ys.getD i 0) xs.length with ⟨k,h1,h2,h3⟩|h
  ·have:decide (xs=ys)=false:=decide_eq_false fun e=>by subst e;simp at h2
   rw[this];exact Yaa (G 26) Ywx (Zoe xs ys k) ⟨hne,LoopT.count (tt:=Yac types) hb k (Yeh xs ys) (hon k (by omega) h3) (WpL.path (G 26) (Zaz xs ys k) ⟨decide_eq_true (by omega),by omega,by omega,by omega,by omega,h2,trivial⟩ ⟨.inr ⟨rfl,rfl⟩,rfl⟩),trivial⟩
  ·have:decide (xs=ys)=true:=decide_eq_true (Xbg hlen fun i hi=>by simpa using h i hi)
   rw[this];exact Yaa (G 26) Ywx (Zwe xs ys xs.length) ⟨hne,LoopT.count (tt:=Yac types) hb xs.length (Yeh xs ys) (hon _ (Nat.le_refl _) h) (WpL.path (G 26) (Zfu xs ys _) ⟨decide_eq_false (Int.lt_irrefl _),trivial⟩ ⟨.inl ⟨rfl,rfl⟩,rfl⟩),trivial⟩
 ·have:decide (xs=ys)=false:=decide_eq_false fun e=>hlen (by rw[e])
  rw[this];exact Yaa (G 26) Ywx (Zwd xs ys) ⟨by simp;omega,trivial⟩
theorem Zv6 (xs:LI)(v:Int)(hl:xs.length<=9223372036854775807):Contract PR glob 78 [.z .int xs,.I v] (.I (Yd6 v xs 0)):=by
 have hb:k_78 [1,0,1]=.block 0 (.loop (k_78 [1,0,1,0,0])):=by kernel_rfl
 have hbeq:∀ a b:Int,(a==b)=(b==a):=fun a b=>BEq.comm
 have hon:∀ k,k<=xs.length->(∀ i<k,(v==xs.getD i 0)=false)->∀ i,i<k->WpL PR (MP 19) (k_78 [1,0,1,0,0]) (Yj4 xs v i) fun e1 L1=>e1=.normal/\L1=Yj4 xs v (i+1):=fun k hk h i hi =>
  WpL.path (G 19) (Xb5 xs v i) ⟨decide_eq_true (by omega),by omega,by omega,(hbeq _ _).trans (h i hi),by simp only[Yae];omega,trivial⟩ ⟨rfl,rfl⟩
 rcases Yot v xs with ⟨k,h1,h2,h3,h4⟩|⟨h2,h4⟩
 ·rw[h2];exact Yaa (G 19) Xcv (Xgm xs v k) ⟨LoopT.count (tt:=Yac types) hb k (Yj4 xs v) (hon k (by omega) h4) (WpL.path (G 19) (Zv7 xs v k) ⟨decide_eq_true (by omega),by omega,by omega,(hbeq _ _).trans h3,trivial⟩ ⟨.inr ⟨rfl,rfl⟩,rfl⟩),trivial⟩
 ·rw[h2];exact Yaa (G 19) Xcv (Xgn xs v xs.length) ⟨LoopT.count (tt:=Yac types) hb xs.length (Yj4 xs v) (hon _ (Nat.le_refl _) h4) (WpL.path (G 19) (Zv8 xs v _) ⟨decide_eq_false (Int.lt_irrefl _),trivial⟩ ⟨.inl ⟨rfl,rfl⟩,rfl⟩),trivial⟩
def Ylq (xs:LI)(m:Int)(i:Nat):Bool:=Ygk (xs.getD i 0) 0 (m-1)&&!(decide (i>0)&&decide (xs.getD i 0<=xs.getD (i-1) 0))
def Ycq (xs:LI)(m:Int):Bool:=(List.range xs.length).all (Ylq xs m)
theorem Znm (xs:LI)(m:Int)(hl:xs.length<=9223372036854775807)(hm:0<=m/\m<=4611686018427387904):Contract PR glob 57 [.z .int xs,.I m] (.bool (Ycq xs m)):=by
 have hb:k_57 [1,0,1]=.block 0 (.loop (k_57 [1,0,1,0,0])):=by kernel_rfl
 have hin:=fun i:Nat=>Ykl (xs.getD i 0) 0 (m-1);have hi64:Yae (m-1):=by simp only[Yae];omega
 have hix:∀ i:Nat,i>0->((i:Int)-1).toNat=i-1:=fun i hi=>by omega
 have hon:∀ k,k<=xs.length->(∀ i<k,(!Ylq xs m i)=false)->∀ i,i<k->WpL PR (MP 36) (k_57 [1,0,1,0,0]) (Ycm xs m i) fun e1 L1=>e1=.normal/\L1=Ycm xs m (i+1):=by
  intro k hk h i hi;have h':=h i hi;unfold Ylq at h';simp only[Bool.not_eq_eq_eq_not,Bool.not_false,Bool.and_eq_true,Bool.not_true]at h';have hq:=hin i;rw[h'.1]at hq
  by_cases hz:i>0
  ·have h1:decide ((i:Int)>0)=true:=decide_eq_true (by omega)
   have h2:decide (xs.getD i 0<=xs.getD ((i:Int)-1).toNat 0)=false:=by
    rw[hix i hz]
    have:=h'.2
    rw[decide_eq_true hz]at this;simpa using this
   refine WpL.path (G 36) (Zak xs m i) ?_ ⟨rfl,rfl⟩
   repeat(first|exact trivial|refine⟨by first|exact hq|exact h1|exact h2|exact hi64|exact decide_eq_true (by omega)|omega|(simp only[Yae];omega),?_⟩)
  ·have h1:decide ((i:Int)>0)=false:=decide_eq_false (by omega);refine WpL.path (G 36) (Zal xs m i) ?_ ⟨rfl,rfl⟩
   repeat(first|exact trivial|refine⟨by first|exact hq|exact h1|exact hi64|exact decide_eq_true (by omega)|omega|(simp only[Yae];omega),?_⟩)
 rcases Ycr (fun i=>!Ylq xs m i) xs.length with ⟨k,h1,h2,h3⟩|h
 ·have hF:Ycq xs m=false:=by
   unfold Ycq;rw[List.all_eq_false];exact⟨k,by simpa using h1,by simpa using h2⟩
  rw[hF];have h2':Ylq xs m k=false:=by simpa using h2
  unfold Ylq at h2';have hq:=hin k
  cases hc:Ygk (xs.getD k 0) 0 (m-1) with
  | false =>
   rw[hc]at hq;refine Yaa (G 36) Yru (Zni xs m k) ⟨LoopT.count (tt:=Yac types) hb k (Ycm xs m) (hon k (by omega) h3) (WpL.path (G 36) (Zaj xs m k) ?_ ⟨.inr ⟨rfl,rfl⟩,rfl⟩),trivial⟩
   repeat(first|exact trivial|refine⟨by first|exact hq|exact hi64|exact decide_eq_true (by omega)|omega,?_⟩)
  | true =>
   rw[hc]at hq h2';simp only[Bool.true_and,Bool.not_eq_eq_eq_not,Bool.not_false,Bool.and_eq_true,decide_eq_true_eq]at h2';have h1':decide ((k:Int)>0)=true:=decide_eq_true (by omega)
   have hle:decide (xs.getD k 0<=xs.getD ((k:Int)-1).toNat 0)=true:=by
    rw[hix k h2'.1];exact decide_eq_true h2'.2
   refine Yaa (G 36) Yru (Znj xs m k) ⟨LoopT.count (tt:=Yac types) hb k (Ycm xs m) (hon k (by omega) h3) (WpL.path (G 36) (Zam xs m k) ?_ ⟨.inr ⟨rfl,rfl⟩,rfl⟩),trivial⟩
   repeat(first|exact trivial|refine⟨by first|exact hq|exact h1'|exact hle|exact hi64|exact decide_eq_true (by omega)|omega|(simp only[Yae];omega),?_⟩)
 ·have hF:Ycq xs m=true:=by
   unfold Ycq;rw[List.all_eq_true];intro i hi
   have:=h i (by simpa using hi)
   simpa using this
  rw[hF];exact Yaa (G 36) Yru (Znl xs m xs.length) ⟨LoopT.count (tt:=Yac types) hb xs.length (Ycm xs m) (hon _ (Nat.le_refl _) h) (WpL.path (G 36) (Zan xs m _) ⟨decide_eq_false (Int.lt_irrefl _),trivial⟩ ⟨.inl ⟨rfl,rfl⟩,rfl⟩),trivial⟩
def Ybl:List (Nat×TI) :=
 [(28,⟨.struct [(0,26),(5,23),(6,3),(7,23),(8,3),(9,3)],10,160,[.nil,.nil,.nil,.int .i64 0,.int .i64 0,.nil,.int .i64 0,.nil,.int .i64 0,.int .i64 0],some .fbook,false⟩),
  (67,⟨.struct [(0,28),(10,64),(11,65),(12,23)],13,216,[.nil,.nil,.nil,.int .i64 0,.int .i64 0,.nil,.int .i64 0,.nil,.int .i64 0,.int .i64 0,.nilmap,.nil,.nil],none,false⟩),
  (64,⟨.map 54 4 false,1,8,[.nilmap],none,false⟩),
  (29,⟨.slice 54,1,24,[.nil],some (.list .work),false⟩),
  (94,⟨.other,1,8,[.nilfn],none,false⟩),
  (72,⟨.other,1,8,[.nilfn],none,false⟩),
  (70,⟨.other,1,8,[.nilfn],none,false⟩),
  (35,⟨.other,1,8,[.nilfn],none,false⟩),
  (124,⟨.struct [(0,35)],1,8,[.nilfn],none,false⟩),
  (107,⟨.other,1,8,[.nilfn],none,false⟩),
  (108,⟨.other,1,8,[.nilfn],none,false⟩),
  (109,⟨.array 2 108,2,16,[.nilfn,.nilfn],none,false⟩),
  (127,⟨.other,1,8,[.nilfn],none,false⟩)]++types
theorem Yav:Ybu PR (Yac Ybl):=Zxj (by kernel_rfl)
def Yca:Nat->Option (List D)
 | 0=>some [.int .i64 (-1),.int .i64 0]
 | 1=>some [.fn 173 [] [],.fn 174 [] []]
 | g=>glob g
noncomputable abbrev PRG:Program:=PR
noncomputable abbrev MF (n:Nat):Cfg:=mk PRG (Yac Ybl) Yca n
abbrev CF (f:FuncId)(args:List D)(r:D):Prop:=Contract PRG Yca f args r
abbrev LF (n:Nat)(c:Code)(L:KV)(e:Ex)(L':KV):Prop:=LoopT PRG Yca n c L e L'
theorem GF (n:Nat):Good PR (mk PR (Yac Ybl) Yca n):=good Yan Yav
theorem Xfv {g:Nat}{cs:List D}(h:glob g=some cs):Yca g=some cs:=by
 match g,h with
 | 2,h=>exact h
theorem Contract.up {P:Program}{f:FuncId}{args:List D}{r:D}(h:Contract P glob f args r):Contract P Yca f args r :=
 ⟨h.form,fun w R vs h1 h2 h3=>h.calls w R vs h1 (fun g cs hg=>h2 g cs (Xfv hg)) h3⟩
def Yab (x:FBook):D:=.agg [.z .sec x.chain.secs,.z .int x.chain.turns,.z .sv x.chain.svs,.int .i64 x.chain.rule,.int .i64 x.chain.days,.z .int x.feet,.int .i64 x.new,.z .int x.opn,.int .i64 x.stock,.int .i64 x.make]
def fbkD (x:FBook)(m:Mp)(th:LL)(wr:LI):D:=.agg [.z .sec x.chain.secs,.z .int x.chain.turns,.z .sv x.chain.svs,.int .i64 x.chain.rule,.int .i64 x.chain.days,.z .int x.feet,.int .i64 x.new,.z .int x.opn,.int .i64 x.stock,.int .i64 x.make,.map m,.z (.list .int) th,.z .int wr]
def wkD (x:Work):D:=.agg [.int .i64 x.d,.int .i64 x.s]
def Yam:Work:=⟨0,0⟩
def Ynd (x:W4):D:=wD x.a x.b x.c x.d
def W4.get (x:W4)(s:Nat):Int:=[x.a,x.b,x.c,x.d].getD s 0
def Yrh (x:FBook):Bool:=(Yai x.chain==0)&&decide ((x.feet.length:Int)=x.chain.secs.length)&&Yad x.new 0 200&&decide (x.opn.length<=4)&&Yad x.stock 0 200&&Yad x.make 0 9
def Yn3 (x:FBook)(l:LI):Bool:=l.foldl (fun ok n=>ok&&Yad n 1 30) (Yrh x)
def Yks (x:FBook)(l:LI):Bool×Int:=l.foldl (Ydz x.chain.days) (Yn3 x x.feet,-1)
def Yey (x:FBook):Bool:=(Yks x x.opn).1
def Ylm (x:FBook):Int:=if Yey x then 0 else 70
def Yw2 (m:List (K2×Bool))(d:Int):Nat->List (K2×Bool)
 | 0=>m
 | s+1=>updK (Yw2 m d s) (d,(s:Int)) true
def Yi1 (x:FBook):Nat->List (K2×Bool)
 | 0=>[((-1,0),false)]
 | i+1=>Yw2 (Yi1 x i) (x.opn.getD i 0) x.feet.length
def Ybj (x:FBook):List (K2×Bool):=Yi1 x x.opn.length
def Ya7 (x y:Work):Int:=if x.d=y.d then x.s-y.s else x.d-y.d
def Yjp (m:List (K2×Bool))(w:Work):Bool:=(Ybq m (w.d,w.s)).getD false
def badF (m:List (K2×Bool))(last w:Work):Bool:=!(Yjp m w)||(!(decide (last.d=-1/\last.s=0))&&decide (Ya7 last w>=0))
def Yin (m:List (K2×Bool))(last:Work):List Work->Bool
 | []=>true
 | w::r=>if badF m last w=true then false else Yin m w r
def isPlanF (m:List (K2×Bool))(plan:List Work):Bool:=Yin m ⟨-1,0⟩ plan
def Yhf (x:FBook)(s d:Int):Int:=Yb7 x.feet.length x.chain.turns d s
def oldF (th:LL)(s d:Int):Int:=(th.getD s.toNat []).getD d.toNat 0
def Yfm (x:FBook)(wr:LI)(s c:Int):Nat->Int
 | 0=>x.new
 | k+1=>Yfm x wr s c k-wr.getD (Yhf x s (c+k)).toNat 0
def Ycf (s d:Int)(p:Int×Int)(w:Work):Int×Int:=if w.s=s/\w.d<=d then(1,w.d) else p
def Yhs (plan:List Work)(s d:Int):Int×Int:=plan.foldl (Ycf s d) (0,0)
def Ydc (x:FBook)(th:LL)(wr:LI)(plan:List Work)(s d:Int):Int :=
 if (Yhs plan s d).1=0 then oldF th s d else Yfm x wr s (Yhs plan s d).2 (d-(Yhs plan s d).2).toNat
def Yln (x:FBook)(th:LL)(wr:LI)(plan:List Work)(d s:Nat):Bool:=decide (Ydc x th wr plan s d<x.chain.rule)
def Xa2 (x:FBook)(th:LL)(wr:LI)(plan:List Work)(d:Nat):Option Nat:=(List.range x.feet.length).find? (Yln x th wr plan d)
def Yjt (x:FBook)(th:LL)(wr:LI)(plan:List Work):Nat->Nat->Option (Nat×Nat)
 | 0,_=>none
 | k+1,d=>match Xa2 x th wr plan d with
  | some s=>some (d,s)
  | none=>Yjt x th wr plan k (d+1)
def Yra (x:FBook)(th:LL)(wr:LI)(plan:List Work):Option (Nat×Nat):=Yjt x th wr plan (x.chain.days+1).toNat 0
def Yd7 (x:FBook)(plan:List Work):LI:=plan.map fun w=>x.feet.getD w.s.toNat 0
def sumF (l:LI):Int:=l.foldl (·+·) 0
def Ybf (x:FBook)(plan:List Work):Int:=sumF (Yd7 x plan)
def Yew (x:FBook)(plan:List Work):Nat->Int
 | 0=>0
 | k+1=>mx (Yew x plan k) (Ybf x (plan.take (k+1))-x.make*(plan.getD k Yam).d)
def Ycc (x:FBook)(plan:List Work):Int:=Yew x plan plan.length
def Yep (x:FBook)(plan:List Work):Bool:=decide (Ycc x plan<=x.stock)
def Yly (x:FBook)(plan:List Work):Option Nat:=(List.range plan.length).find? fun k=>decide (Ycc x (plan.take (k+1))>x.stock)
def andF (a b:Int):Int:=IntKind.i64.wrap ((BitVec.ofInt 64 a&&& BitVec.ofInt 64 b).toNat:Int)
def bitF (set:Int)(k:Nat):Bool:=andF (set.fdiv (2 ^ min k 64)) 1==1
def Yao (x:FBook)(on:W4)(k:Nat)(l:List Work):Nat->List Work
 | 0=>l
 | s+1=>if bitF (on.get s) k=true then Yao x on k l s++[⟨x.opn.getD k 0,s⟩] else Yao x on k l s
def Ya5 (x:FBook)(on:W4):Nat->List Work
 | 0=>[]
 | k+1=>Yao x on k (Ya5 x on k) x.feet.length
def Yax (x:FBook)(on:W4):List Work:=Ya5 x on x.opn.length
def zeroW:W4:=⟨0,0,0,0⟩
def Ydd (x:FBook)(th:LL)(wr:LI)(s:Nat)(set:Int):Bool :=
 (List.range (x.chain.days+1).toNat).all fun d=>!(decide (Ydc x th wr (Yax x (zeroW.set s set)) s d<x.chain.rule))
def Ya0 (x:FBook)(th:LL)(wr:LI)(s:Nat):Nat->LI
 | 0=>[]
 | k+1=>if ((Ya0 x th wr s k).any fun l=>andF k l==l)=true then Ya0 x th wr s k
  else if Ydd x th wr s k=true then Ya0 x th wr s k++[(k:Int)] else Ya0 x th wr s k
def Ybk (x:FBook)(th:LL)(wr:LI)(s:Nat):LI:=Ya0 x th wr s (2 ^ x.opn.length)
def Ybe (x:FBook)(all:LL):Nat->Nat->W4->List (List Work)
 | 0,_,on=>[Yax x on]
 | f+1,s,on=>(all.getD s []).flatMap fun set=>Ybe x all f (s+1) (on.set s set)
def allF (x:FBook)(th:LL)(wr:LI):LL:=(List.range x.feet.length).map (Ybk x th wr)
def Yc5 (x:FBook)(th:LL)(wr:LI):List (List Work):=Ybe x (allF x th wr) x.feet.length 0 zeroW
def Ya9:List Work->List Work->Int
 | [],[]=>0
 | [],_::_=>-1
 | _::_,[]=>1
 | x::l,y::m=>if Ya7 x y≠0 then Ya7 x y else Ya9 l m
def Ycw (x:FBook)(p q:List Work):Bool:=decide (Ybf x p<Ybf x q)||(decide (Ybf x p=Ybf x q)&&decide (Ya9 p q<0))
def Yb8 (x:FBook)(o:List Work×Bool)(p:List Work):List Work×Bool:=if Yep x p&&(!o.2||Ycw x p o.1) then(p,true) else o
def bestOf (x:FBook)(l:List (List Work)):List Work×Bool:=l.foldl (Yb8 x) ([],false)
def Yem (x:FBook)(th:LL)(wr:LI):List Work×Bool:=bestOf x (Yc5 x th wr)
def Yc1 (x:FBook)(l:List (List Work)):Int:=l.foldl (fun n p=>mn n (Ycc x p)) 201
def Ylx (x:FBook)(th:LL)(wr:LI):Int:=Yc1 x (Yc5 x th wr)
def Yw6 (b:Book)(p:Int):Int:=(Ydf (Ybp p) (Yak b [])).hi
def Yqb (b:Book)(s d:Int):Int:=(Yby b (Yak b []) b.turns s d).lo
def Yar (x:FBook):LI:=(List.range x.feet.length).map fun s=>Yw6 x.chain (s:Nat)
def Yas (x:FBook):LL:=(List.range x.feet.length).map fun s=>(List.range (x.chain.days+1).toNat).map fun d=>Yqb x.chain (s:Nat) (d:Nat)
def Yda (x:FBook)(is:Bool):Int:=if Yey x=false then 70 else if is=false then 71 else if canF x.chain=false then 72 else 0
noncomputable abbrev Ztm (p:List Nat):Code:=Code.at p (body Proofs.Tryz.f175)
noncomputable abbrev Xab (p:List Nat):Code:=Code.at p (body Proofs.Tryz.f174)
noncomputable abbrev k_48 (p:List Nat):Code:=Code.at p (body Proofs.Tryz.f48)
noncomputable abbrev k_93 (p:List Nat):Code:=Code.at p (body Proofs.Tryz.f93)
noncomputable abbrev k_65 (p:List Nat):Code:=Code.at p (body Proofs.Tryz.f65)
noncomputable abbrev k_67 (p:List Nat):Code:=Code.at p (body Proofs.Tryz.f67)
noncomputable abbrev k_46 (p:List Nat):Code:=Code.at p (body Proofs.Tryz.f46)
noncomputable abbrev k_60 (p:List Nat):Code:=Code.at p (body Proofs.Tryz.f60)
theorem Yt3:FnOk PRG (MF 15) 47 (body Tryz.f47) [.tmp 6]:=by refine⟨Tryz.f47,?_,?_,?_,?_,?_⟩<;>kernel_rfl
theorem Zul:FnOk PRG (MF 3) 101 (body Tryz.f101) [.cell 0 129]:=by refine⟨Tryz.f101,?_,?_,?_,?_,?_⟩<;>kernel_rfl
theorem Yrl:FnOk PRG (MF 20) 82 (body Tryz.f82) [.tmp 4]:=by refine⟨Tryz.f82,?_,?_,?_,?_,?_⟩<;>kernel_rfl
theorem Zuj:FnOk PRG (MF 30) 175 (body Tryz.f175) [.tmp 6]:=by refine⟨Tryz.f175,?_,?_,?_,?_,?_⟩<;>kernel_rfl
theorem Xfy:FnOk PRG (MF 17) 173 (body Tryz.f173) [.tmp 8]:=by refine⟨Tryz.f173,?_,?_,?_,?_,?_⟩<;>kernel_rfl
theorem Zuv:FnOk PRG (MF 34) 174 (body Tryz.f174) [.tmp 8]:=by refine⟨Tryz.f174,?_,?_,?_,?_,?_⟩<;>kernel_rfl
theorem Yzr:FnOk PRG (MF 40) 48 (body Tryz.f48) [.tmp 8]:=by refine⟨Tryz.f48,?_,?_,?_,?_,?_⟩<;>kernel_rfl
theorem Xfw:FnOk PRG (MF 17) 93 (body Tryz.f93) [.tmp 2]:=by refine⟨Tryz.f93,?_,?_,?_,?_,?_⟩<;>kernel_rfl
theorem Zhs:FnOk PRG (MF 27) 65 (body Tryz.f65) [.tmp 4]:=by refine⟨Tryz.f65,?_,?_,?_,?_,?_⟩<;>kernel_rfl
theorem Zum:FnOk PRG (MF 32) 67 (body Tryz.f67) [.tmp 4]:=by refine⟨Tryz.f67,?_,?_,?_,?_,?_⟩<;>kernel_rfl
theorem Xbb:FnOk PRG (MF 12) 95 (body Tryz.f95) [.tmp 4]:=by refine⟨Tryz.f95,?_,?_,?_,?_,?_⟩<;>kernel_rfl
theorem Yq5:FnOk PRG (MF 33) 46 (body Tryz.f46) [.tmp 4]:=by refine⟨Tryz.f46,?_,?_,?_,?_,?_⟩<;>kernel_rfl
theorem Zhk:FnOk PRG (MF 38) 60 (body Tryz.f60) [.tmp 4,.tmp 5,.tmp 6]:=by refine⟨Tryz.f60,?_,?_,?_,?_,?_⟩<;>kernel_rfl
def Ydo (x:FBook)(m:Mp)(th:LL)(wr:LI)(s d:Int)(p:Int)(i:Nat):KV :=
 [(.tmp 1,.d (.I p)),
  (.tmp 2,.d (D.I d)),
  (.tmp 3,.d (D.ptr 3 0)),
  (.tmp 12,.d (D.z E.int (Book.turns (FBook.chain x)))),
  (.tmp 13,.d (D.I ((List.length (Book.turns (FBook.chain x)):Int)))),
  (.tmp 14,.d (.I i)),
  (.box 3,.bz (cellsOf (fbkD x m th wr)))]
def Ymo:List Key:=[.tmp 1,.tmp 2,.tmp 3,.tmp 12,.tmp 13,.tmp 14,.box 3]
def Yfg (x:FBook)(m:Mp)(th:LL)(wr:LI)(s c d:Int)(n:Int)(i:Nat):KV :=
 [(.tmp 1,.d (D.I s)),
  (.tmp 2,.d (D.I c)),
  (.tmp 4,.d (D.ptr 4 0)),
  (.tmp 9,.d (.I n)),
  (.tmp 16,.d (D.I (d-c))),
  (.tmp 17,.d (.I i)),
  (.box 4,.bz (cellsOf (fbkD x m th wr)))]
def Yrk:List Key:=[.tmp 1,.tmp 2,.tmp 4,.tmp 9,.tmp 16,.tmp 17,.box 4]
def Yb5 (x:FBook)(m:Mp)(th:LL)(wr:LI)(plan:List Work)(s d:Int)(k c:Int)(i:Nat):KV :=
 [(.tmp 2,.d (D.I s)),
  (.tmp 3,.d (D.I d)),
  (.tmp 4,.d (D.ptr 4 0)),
  (.tmp 9,.d (.I k)),
  (.tmp 10,.d (.I c)),
  (.tmp 13,.d (D.z E.work plan)),
  (.tmp 14,.d (D.I ((List.length plan:Int)))),
  (.tmp 15,.d (.I i)),
  (.box 4,.bz (cellsOf (fbkD x m th wr)))]
def Yhx:List Key:=[.tmp 2,.tmp 3,.tmp 4,.tmp 9,.tmp 10,.tmp 13,.tmp 14,.tmp 15,.box 4]
def Yju (xs:LI)(n:Int)(i:Nat):KV :=
 [(.tmp 3,.d (.I n)),
  (.tmp 6,.d (D.z E.int xs)),
  (.tmp 7,.d (D.I ((List.length xs:Int)))),
  (.tmp 8,.d (.I i))]
def Zee:List Key:=[.tmp 3,.tmp 6,.tmp 7,.tmp 8]
def Ygy (x:FBook)(m:Mp)(th:LL)(wr:LI)(plan:List Work)(y:Int)(r:LI)(i:Nat):KV :=
 [(.tmp 2,.d (D.ptr 2 0)),
  (.tmp 5,.d (.own 23 (y::r).length)),
  (.tmp 8,.d (D.z E.work plan)),
  (.tmp 9,.d (D.I ((List.length plan:Int)))),
  (.tmp 10,.d (.I i)),
  (.box 2,.bz (cellsOf (fbkD x m th wr))),
  (.obj 23,.ob (some ⟨.int,y::r⟩))]
def Ywc:List Key:=[.tmp 2,.tmp 5,.tmp 8,.tmp 9,.tmp 10,.box 2,.obj 23]
def Yfu (x:FBook)(m:Mp)(th:LL)(wr:LI)(plan:List Work)(i:Nat):KV :=
 [(.tmp 2,.d (D.ptr 2 0)),
  (.tmp 5,.d (D.sl true E.int [])),
  (.tmp 8,.d (D.z E.work plan)),
  (.tmp 9,.d (D.I ((List.length plan:Int)))),
  (.tmp 10,.d (.I i)),
  (.box 2,.bz (cellsOf (fbkD x m th wr))),
  (.obj 23,.ob none)]
def Ywd:List Key:=[.tmp 2,.tmp 5,.tmp 8,.tmp 9,.tmp 10,.box 2,.obj 23]
def Yff (x:FBook)(m:Mp)(th:LL)(wr:LI)(plan:List Work)(n:Int)(i:Nat):KV :=
 [(.tmp 1,.d (D.z E.work plan)),
  (.tmp 2,.d (D.ptr 2 0)),
  (.tmp 5,.d (.I n)),
  (.tmp 8,.d (D.z E.work plan)),
  (.tmp 9,.d (D.I ((List.length plan:Int)))),
  (.tmp 10,.d (.I i)),
  (.box 2,.bz (cellsOf (fbkD x m th wr)))]
def Yri:List Key:=[.tmp 1,.tmp 2,.tmp 5,.tmp 8,.tmp 9,.tmp 10,.box 2]
def Yb3 (x:FBook)(l:List (K2×Bool))(th:LL)(wr:LI)(plan:List Work)(la:Work)(i:Nat):KV :=
 [(.tmp 2,.d (D.ptr 2 0)),
  (.tmp 5,.d (D.ptr 5 0)),
  (.tmp 9,.d (D.z E.work plan)),
  (.tmp 10,.d (D.I ((List.length plan:Int)))),
  (.tmp 11,.d (.I i)),
  (.box 2,.bz (cellsOf (fbkD x (Mp.work l) th wr))),
  (.box 5,.bx (some ⟨false,E.enc .work la⟩))]
def Yhv:List Key:=[.tmp 2,.tmp 5,.tmp 9,.tmp 10,.tmp 11,.box 2,.box 5]
def Ydk (x:FBook)(m:Mp)(th:LL)(wr:LI)(plan:List Work)(i:Nat):KV :=
 [(.tmp 1,.d (D.z E.work plan)),
  (.tmp 2,.d (D.ptr 2 0)),
  (.tmp 13,.d (D.I (Book.days (FBook.chain x)+(1:Int)))),
  (.tmp 14,.d (.I i)),
  (.box 2,.bz (cellsOf (fbkD x m th wr)))]
def Ypn:List Key:=[.tmp 1,.tmp 2,.tmp 13,.tmp 14,.box 2]
def Yds (x:FBook)(m:Mp)(th:LL)(wr:LI)(plan:List Work)(i j:Nat):KV :=
 [(.tmp 1,.d (D.z E.work plan)),
  (.tmp 2,.d (D.ptr 2 0)),
  (.tmp 7,.d (.I i)),
  (.tmp 13,.d (D.I (Book.days (FBook.chain x)+(1:Int)))),
  (.tmp 14,.d (.I i)),
  (.tmp 20,.d (D.I ((List.length (FBook.feet x):Int)))),
  (.tmp 21,.d (.I j)),
  (.box 2,.bz (cellsOf (fbkD x m th wr)))]
def Ypm:List Key:=[.tmp 1,.tmp 2,.tmp 7,.tmp 13,.tmp 14,.tmp 20,.tmp 21,.box 2]
def Yhe (x:FBook)(l:List (K2×Bool))(th:LL)(wr:LI)(plan:List Work)(la:Work)(i:Nat)  : KV :=
 [(.tmp 2,.d (D.ptr 2 0)),(.tmp 5,.d (D.ptr 5 0)),(.tmp 9,.d (D.z E.work plan)),(.tmp 10,.d (D.I ((List.length plan:Int)))),(.tmp 11,.d (D.I (i:Int))),(.box 2,.bz (cellsOf (fbkD x (Mp.work l) th wr))),(.box 5,.bz [D.I (Work.d la),D.I (Work.s la)]),(.tmp 4,.d (D.bool false))]
def Yim (x:FBook)(l:List (K2×Bool))(th:LL)(wr:LI)(plan:List Work)(la:Work)(i:Nat)(c:Int):KV :=
 [(.tmp 2,.d (D.ptr 2 0)),(.tmp 5,.d (D.ptr 5 0)),(.tmp 9,.d (D.z E.work plan)),(.tmp 10,.d (D.I ((List.length plan:Int)))),(.tmp 11,.d (D.I (i:Int))),(.box 2,.bz (cellsOf (fbkD x (Mp.work l) th wr))),(.box 5,.bz [D.I (Work.d la),D.I (Work.s la)]),(.tmp 4,.d (D.bool false))]
def Yjr (x:FBook)(m:Mp)(th:LL)(wr:LI)(plan:List Work)(i j:Nat)(v:Int):KV :=
 [(.tmp 1,.d (D.z E.work plan)),(.tmp 2,.d (D.ptr 2 0)),(.tmp 7,.d (D.I (i:Int))),(.tmp 13,.d (D.I (Book.days (FBook.chain x)+(1:Int)))),(.tmp 14,.d (D.I (i:Int))),(.tmp 20,.d (D.I ((List.length (FBook.feet x):Int)))),(.tmp 21,.d (D.I (j:Int))),(.box 2,.bz (cellsOf (fbkD x m th wr))),(.tmp 4,.d (D.I (i:Int))),(.tmp 5,.d (D.I (j:Int))),(.tmp 6,.d (D.bool true))]
def Yjs (x:FBook)(m:Mp)(th:LL)(wr:LI)(plan:List Work)(i:Nat)(j:Nat)(v:Int):KV :=
 [(.tmp 1,.d (D.z E.work plan)),(.tmp 2,.d (D.ptr 2 0)),(.tmp 13,.d (D.I (Book.days (FBook.chain x)+(1:Int)))),(.tmp 14,.d (D.I (i:Int))),(.box 2,.bz (cellsOf (fbkD x m th wr))),(.tmp 4,.d (D.I (i:Int))),(.tmp 5,.d (D.I (j:Int))),(.tmp 6,.d (D.bool true))]
theorem Yzl (x:FBook)(m:Mp)(th:LL)(wr:LI)(s d:Int)(p:Int)(i:Nat) :runK (MF 30) [(15,true),(20,true)] [] [] (Ztm [1,0,1,0,0]) (Ydo x m th wr s d p i) Ymo =some ([decide ((i:Int)<(x.chain.turns.length:Int))=true,(0:Int)<=(i:Int)/\(i:Int)<(x.chain.turns.length:Int),0+1<=1,decide (List.getD x.chain.turns (i) (0:Int)<=d)=true,Yae ((x.feet.length:Int)-(1:Int)),Yae ((x.feet.length:Int)-(1:Int)-p),Yae ((i:Int)+(1:Int))],Ex.normal,Ydo x m th wr s d (x.feet.length-1-p) (i+1)):=by kernel_rfl
theorem Zef (x:FBook)(m:Mp)(th:LL)(wr:LI)(s d:Int)(p:Int)(i:Nat) :runK (MF 30) [(15,true),(20,false)] [] [] (Ztm [1,0,1,0,0]) (Ydo x m th wr s d p i) Ymo =some ([decide ((i:Int)<(x.chain.turns.length:Int))=true,(0:Int)<=(i:Int)/\(i:Int)<(x.chain.turns.length:Int),0+1<=1,decide (List.getD x.chain.turns (i) (0:Int)<=d)=false,Yae ((i:Int)+(1:Int))],Ex.normal,Ydo x m th wr s d p (i+1)):=by kernel_rfl
theorem Yzm (x:FBook)(m:Mp)(th:LL)(wr:LI)(s d:Int)(p:Int)(i:Nat) :runK (MF 30) [(15,false)] [] [] (Ztm [1,0,1,0,0]) (Ydo x m th wr s d p i) Ymo =some ([decide ((i:Int)<(x.chain.turns.length:Int))=false],Ex.exit 0,Ydo x m th wr s d p i):=by kernel_rfl
theorem Zej (x:FBook)(m:Mp)(th:LL)(wr:LI)(s c d:Int)(n:Int)(i:Nat)(p:Int) :runK (MF 34) [(18,true)] [(28,.I p)] [] (Xab [1,1,0,1,0,0]) (Yfg x m th wr s c d n i) Yrk =some ([decide ((i:Int)<d-c)=true,Yae (c+(i:Int)),CF 175 [fbkD x m th wr,D.I s,D.I (c+(i:Int))] (D.I p),(0:Int)<=p/\p<(wr.length:Int),0+1<=1,Yae (n-List.getD wr (Int.toNat p) (0:Int)),Yae ((i:Int)+(1:Int))],Ex.normal,Yfg x m th wr s c d (n-wr.getD p.toNat 0) (i+1)):=by kernel_rfl
theorem Yzx (x:FBook)(m:Mp)(th:LL)(wr:LI)(s c d:Int)(n:Int)(i:Nat) :runK (MF 34) [(18,false)] [] [] (Xab [1,1,0,1,0,0]) (Yfg x m th wr s c d n i) Yrk =some ([decide ((i:Int)<d-c)=false],Ex.exit 0,Yfg x m th wr s c d n i):=by kernel_rfl
theorem Yzs (x:FBook)(m:Mp)(th:LL)(wr:LI)(plan:List Work)(s d:Int)(k c:Int)(i:Nat) :runK (MF 40) [(16,true),(23,true),(28,true)] [] [] (k_48 [1,1,0,1,0,0]) (Yb5 x m th wr plan s d k c i) Yhx =let Z0:=Work.s (List.getD plan (i) Yam)==s;some ([decide ((i:Int)<(plan.length:Int))=true,(0:Int)<=(i:Int)/\(i:Int)<(plan.length:Int),0+2<=2,0+1+1<=2,Z0=true,Z0=true,0+0+1<=2,Z0=true,Z0=true,Z0=true,decide (Work.d (List.getD plan (i) Yam)<=d)=true,0+0+1<=2,Yae ((i:Int)+(1:Int))],Ex.normal,Yb5 x m th wr plan s d 1 (plan.getD i Yam).d (i+1)):=by kernel_rfl
theorem Yzu (x:FBook)(m:Mp)(th:LL)(wr:LI)(plan:List Work)(s d:Int)(k c:Int)(i:Nat) :runK (MF 40) [(16,true),(23,false)] [] [] (k_48 [1,1,0,1,0,0]) (Yb5 x m th wr plan s d k c i) Yhx =let Z0:=Work.s (List.getD plan (i) Yam)==s;some ([decide ((i:Int)<(plan.length:Int))=true,(0:Int)<=(i:Int)/\(i:Int)<(plan.length:Int),0+2<=2,0+1+1<=2,Z0=false,Z0=false,Z0=false,Z0=false,Z0=false,Yae ((i:Int)+(1:Int))],Ex.normal,Yb5 x m th wr plan s d k c (i+1)):=by kernel_rfl
theorem Yzt (x:FBook)(m:Mp)(th:LL)(wr:LI)(plan:List Work)(s d:Int)(k c:Int)(i:Nat) :runK (MF 40) [(16,true),(23,true),(28,false)] [] [] (k_48 [1,1,0,1,0,0]) (Yb5 x m th wr plan s d k c i) Yhx =let Z0:=Work.s (List.getD plan (i) Yam)==s;some ([decide ((i:Int)<(plan.length:Int))=true,(0:Int)<=(i:Int)/\(i:Int)<(plan.length:Int),0+2<=2,0+1+1<=2,Z0=true,Z0=true,0+0+1<=2,Z0=true,Z0=true,Z0=true,decide (Work.d (List.getD plan (i) Yam)<=d)=false,Yae ((i:Int)+(1:Int))],Ex.normal,Yb5 x m th wr plan s d k c (i+1)):=by kernel_rfl
theorem Yzv (x:FBook)(m:Mp)(th:LL)(wr:LI)(plan:List Work)(s d:Int)(k c:Int)(i:Nat) :runK (MF 40) [(16,false)] [] [] (k_48 [1,1,0,1,0,0]) (Yb5 x m th wr plan s d k c i) Yhx =some ([decide ((i:Int)<(plan.length:Int))=false],Ex.exit 0,Yb5 x m th wr plan s d k c i):=by kernel_rfl
theorem Zuf (xs:LI)(n:Int)(i:Nat) :runK (MF 17) [(9,true)] [] [] (k_93 [1,1,0,1,0,0]) (Yju xs n i) Zee =some ([decide ((i:Int)<(xs.length:Int))=true,(0:Int)<=(i:Int)/\(i:Int)<(xs.length:Int),0+1<=1,Yae (n+List.getD xs (i) (0:Int)),Yae ((i:Int)+(1:Int))],Ex.normal,Yju xs (n+xs.getD i 0) (i+1)):=by kernel_rfl
theorem Zmd (xs:LI)(n:Int)(i:Nat) :runK (MF 17) [(9,false)] [] [] (k_93 [1,1,0,1,0,0]) (Yju xs n i) Zee =some ([decide ((i:Int)<(xs.length:Int))=false],Ex.exit 0,Yju xs n i):=by kernel_rfl
theorem Zmw (x:FBook)(m:Mp)(th:LL)(wr:LI)(plan:List Work)(y:Int)(r:LI)(i:Nat) :runK (MF 27) [(11,true)] [] [] (k_65 [1,1,0,1,0,0]) (Ygy x m th wr plan y r i) Ywc =let Z0:=List.getD plan (i) Yam;some ([decide ((i:Int)<(plan.length:Int))=true,(0:Int)<=(i:Int)/\(i:Int)<(plan.length:Int),0+2<=2,0+1+1<=2,(0:Int)<=Work.s Z0/\Work.s Z0<(x.feet.length:Int),0+1<=1,(y::r).length=List.length ((y::r)),List.length ((y::r)++[List.getD x.feet (Int.toNat (Work.s Z0)) (0:Int)])*(8+1)<=140737488355328,Yae ((i:Int)+(1:Int))],Ex.normal,Ygy x m th wr plan y (r++[(x.feet.getD (plan.getD i Yam).s.toNat 0)]) (i+1)):=by kernel_rfl
theorem Zen (x:FBook)(m:Mp)(th:LL)(wr:LI)(plan:List Work)(y:Int)(r:LI)(i:Nat) :runK (MF 27) [(11,false)] [] [] (k_65 [1,1,0,1,0,0]) (Ygy x m th wr plan y r i) Ywc =some ([decide ((i:Int)<(plan.length:Int))=false],Ex.exit 0,Ygy x m th wr plan y r i):=by kernel_rfl
theorem Zmz (x:FBook)(m:Mp)(th:LL)(wr:LI)(plan:List Work)(i:Nat) :runK (MF 27) [(11,true)] [] [] (k_65 [1,1,0,1,0,0]) (Yfu x m th wr plan i) Ywc =let Z0:=List.getD plan (i) Yam;some ([decide ((i:Int)<(plan.length:Int))=true,(0:Int)<=(i:Int)/\(i:Int)<(plan.length:Int),0+2<=2,0+1+1<=2,(0:Int)<=Work.s Z0/\Work.s Z0<(x.feet.length:Int),0+1<=1,1*(8+1)<=140737488355328,Yae ((i:Int)+(1:Int))],Ex.normal,Ygy x m th wr plan (x.feet.getD (plan.getD i Yam).s.toNat 0) [] (i+1)):=by kernel_rfl
theorem Zeo (x:FBook)(m:Mp)(th:LL)(wr:LI)(plan:List Work)(i:Nat) :runK (MF 27) [(11,false)] [] [] (k_65 [1,1,0,1,0,0]) (Yfu x m th wr plan i) Ywd =some ([decide ((i:Int)<(plan.length:Int))=false],Ex.exit 0,Yfu x m th wr plan i):=by kernel_rfl
theorem Zeg (x:FBook)(m:Mp)(th:LL)(wr:LI)(plan:List Work)(n:Int)(i:Nat)(v:Int) :runK (MF 32) [(11,true)] [(21,.I v)] [] (k_67 [1,1,0,1,0,0]) (Yff x m th wr plan n i) Yri =let Z0:Prop:=Yae ((i:Int)+(1:Int));let Z1:=List.getD plan (i) Yam;some ([decide ((i:Int)<(plan.length:Int))=true,(0:Int)<=(i:Int)/\(i:Int)<(plan.length:Int),0+2<=2,Z0,(0:Int)<=(0:Int)/\(0:Int)<=(i:Int)+(1:Int)/\(i:Int)+(1:Int)<=(plan.length:Int),CF 65 [fbkD x m th wr,D.z E.work (List.drop 0 (List.take (Int.toNat ((i:Int)+(1:Int))) plan))] (D.I v),0+0+1<=2,Yae (x.make*Work.d Z1),Yae (v-x.make*Work.d Z1),Z0],Ex.normal,Yff x m th wr plan (mx n (v-x.make*(plan.getD i Yam).d)) (i+1)):=by kernel_rfl
theorem Yzp (x:FBook)(m:Mp)(th:LL)(wr:LI)(plan:List Work)(n:Int)(i:Nat) :runK (MF 32) [(11,false)] [] [] (k_67 [1,1,0,1,0,0]) (Yff x m th wr plan n i) Yri =some ([decide ((i:Int)<(plan.length:Int))=false],Ex.exit 0,Yff x m th wr plan n i):=by kernel_rfl
theorem Yvw (x:FBook)(l:List (K2×Bool))(th:LL)(wr:LI)(plan:List Work)(la:Work)(i:Nat) :runK (MF 33) [(12,true),(20,true)] [] [] (k_46 [1,1,0,1,0,0]) (Yb3 x l th wr plan la i) [.tmp 2,.tmp 5,.tmp 9,.tmp 10,.tmp 11,.box 2,.box 5,.tmp 4] =let Z0:=(Work.d (List.getD plan (i) Yam),Work.s (List.getD plan (i) Yam));some ([decide ((i:Int)<(plan.length:Int))=true,(0:Int)<=(i:Int)/\(i:Int)<(plan.length:Int),0+2<=2,0+2<=2,(!Option.getD (Ybq l Z0) false)=true,(!Option.getD (Ybq l Z0) false)=true,(!Option.getD (Ybq l Z0) false)=true,(!Option.getD (Ybq l Z0) false)=true,(!Option.getD (Ybq l Z0) false)=true,(!Option.getD (Ybq l Z0) false)=true],Ex.ret,Yhe x l th wr plan la i ):=by kernel_rfl
theorem Ysc (x:FBook)(l:List (K2×Bool))(th:LL)(wr:LI)(plan:List Work)(la:Work)(i:Nat) :runK (MF 33) [(12,true),(20,false),(24,false)] [] [] (k_46 [1,1,0,1,0,0]) (Yb3 x l th wr plan la i) Yhv =let Z0:=(Work.d (List.getD plan (i) Yam),Work.s (List.getD plan (i) Yam));some ([decide ((i:Int)<(plan.length:Int))=true,(0:Int)<=(i:Int)/\(i:Int)<(plan.length:Int),0+2<=2,0+2<=2,(!Option.getD (Ybq l Z0) false)=false,0+2<=2,(!Option.getD (Ybq l Z0) false)=false,0+2<=2,(!Option.getD (Ybq l Z0) false)=false,(!Option.getD (Ybq l Z0) false)=false,(!eqI [la.d,la.s] [-(1:Int),(0:Int)])=false,(!eqI [la.d,la.s] [-(1:Int),(0:Int)])=false,(!eqI [la.d,la.s] [-(1:Int),(0:Int)])=false,(!eqI [la.d,la.s] [-(1:Int),(0:Int)])=false,(!Option.getD (Ybq l Z0) false)=false,(!eqI [la.d,la.s] [-(1:Int),(0:Int)])=false,(!Option.getD (Ybq l Z0) false)=false,0+2<=2,Yae ((i:Int)+(1:Int))],Ex.normal,Yb3 x l th wr plan (plan.getD i Yam) (i+1)):=by kernel_rfl
theorem Zd4 (x:FBook)(l:List (K2×Bool))(th:LL)(wr:LI)(plan:List Work)(la:Work)(i:Nat)(c:Int) :runK (MF 33) [(12,true),(20,false),(24,true),(30,false)] [(27,.I c)] [] (k_46 [1,1,0,1,0,0]) (Yb3 x l th wr plan la i) Yhv =let Z0:=(Work.d (List.getD plan (i) Yam),Work.s (List.getD plan (i) Yam));let Z1:=List.getD plan (i) Yam;some ([decide ((i:Int)<(plan.length:Int))=true,(0:Int)<=(i:Int)/\(i:Int)<(plan.length:Int),0+2<=2,0+2<=2,(!Option.getD (Ybq l Z0) false)=false,0+2<=2,(!Option.getD (Ybq l Z0) false)=false,0+2<=2,(!Option.getD (Ybq l Z0) false)=false,(!Option.getD (Ybq l Z0) false)=false,(!eqI [la.d,la.s] [-(1:Int),(0:Int)])=true,0+2<=2,(!eqI [la.d,la.s] [-(1:Int),(0:Int)])=true,0+2<=2,(!eqI [la.d,la.s] [-(1:Int),(0:Int)])=true,CF 82 [D.agg [D.I la.d,D.I la.s],D.agg [D.I (Work.d Z1),D.I (Work.s Z1)]] (D.I c),(!eqI [la.d,la.s] [-(1:Int),(0:Int)])=true,(!Option.getD (Ybq l Z0) false)=false,(!eqI [la.d,la.s] [-(1:Int),(0:Int)])=true,(!Option.getD (Ybq l Z0) false)=false,decide (c>=(0:Int))=false,0+2<=2,Yae ((i:Int)+(1:Int))],Ex.normal,Yb3 x l th wr plan (plan.getD i Yam) (i+1)):=by kernel_rfl
theorem Yzd (x:FBook)(l:List (K2×Bool))(th:LL)(wr:LI)(plan:List Work)(la:Work)(i:Nat)(c:Int) :runK (MF 33) [(12,true),(20,false),(24,true),(30,true)] [(27,.I c)] [] (k_46 [1,1,0,1,0,0]) (Yb3 x l th wr plan la i) [.tmp 2,.tmp 5,.tmp 9,.tmp 10,.tmp 11,.box 2,.box 5,.tmp 4] =let Z0:=(Work.d (List.getD plan (i) Yam),Work.s (List.getD plan (i) Yam));let Z1:=List.getD plan (i) Yam;some ([decide ((i:Int)<(plan.length:Int))=true,(0:Int)<=(i:Int)/\(i:Int)<(plan.length:Int),0+2<=2,0+2<=2,(!Option.getD (Ybq l Z0) false)=false,0+2<=2,(!Option.getD (Ybq l Z0) false)=false,0+2<=2,(!Option.getD (Ybq l Z0) false)=false,(!Option.getD (Ybq l Z0) false)=false,(!eqI [la.d,la.s] [-(1:Int),(0:Int)])=true,0+2<=2,(!eqI [la.d,la.s] [-(1:Int),(0:Int)])=true,0+2<=2,(!eqI [la.d,la.s] [-(1:Int),(0:Int)])=true,CF 82 [D.agg [D.I la.d,D.I la.s],D.agg [D.I (Work.d Z1),D.I (Work.s Z1)]] (D.I c),(!eqI [la.d,la.s] [-(1:Int),(0:Int)])=true,(!Option.getD (Ybq l Z0) false)=false,(!eqI [la.d,la.s] [-(1:Int),(0:Int)])=true,(!Option.getD (Ybq l Z0) false)=false,decide (c>=(0:Int))=true],Ex.ret,Yim x l th wr plan la i c):=by kernel_rfl
theorem Yzc (x:FBook)(l:List (K2×Bool))(th:LL)(wr:LI)(plan:List Work)(la:Work)(i:Nat) :runK (MF 33) [(12,false)] [] [] (k_46 [1,1,0,1,0,0]) (Yb3 x l th wr plan la i) Yhv =some ([decide ((i:Int)<(plan.length:Int))=false],Ex.exit 0,Yb3 x l th wr plan la i):=by kernel_rfl
theorem Zmc (x:FBook)(m:Mp)(th:LL)(wr:LI)(plan:List Work)(i:Nat)(j:Nat) :runK (MF 38) [(15,true)] [] [(2,(Ypm,(.normal,Yds x m th wr plan i j)))] (k_60 [1,0,1,0,0]) (Ydk x m th wr plan i) Ypn =some ([decide ((i:Int)<x.chain.days+(1:Int))=true,LF 38 (k_60 [1,0,1,0,0,1,1,0,0,1,1]) (Yds x m th wr plan i 0) Ex.normal (Yds x m th wr plan i j),Yae ((i:Int)+(1:Int))],Ex.normal,Ydk x m th wr plan (i+1)):=by kernel_rfl
theorem Zec (x:FBook)(m:Mp)(th:LL)(wr:LI)(plan:List Work)(i:Nat)(j:Nat)(v:Int) :runK (MF 38) [(15,true)] [] [(2,(Ypm,(.ret,Yjr x m th wr plan i j v)))] (k_60 [1,0,1,0,0]) (Ydk x m th wr plan i) [.tmp 1,.tmp 2,.tmp 13,.tmp 14,.box 2,.tmp 4,.tmp 5,.tmp 6] =some ([decide ((i:Int)<x.chain.days+(1:Int))=true,LF 38 (k_60 [1,0,1,0,0,1,1,0,0,1,1]) (Yds x m th wr plan i 0) Ex.ret (Yjr x m th wr plan i j v)],Ex.ret,Yjs x m th wr plan i j v):=by kernel_rfl
theorem Zed (x:FBook)(m:Mp)(th:LL)(wr:LI)(plan:List Work)(i:Nat) :runK (MF 38) [(15,false)] [] [] (k_60 [1,0,1,0,0]) (Ydk x m th wr plan i) Ypn =some ([decide ((i:Int)<x.chain.days+(1:Int))=false],Ex.exit 0,Ydk x m th wr plan i):=by kernel_rfl
theorem Zmb (x:FBook)(m:Mp)(th:LL)(wr:LI)(plan:List Work)(i j:Nat)(v:Int) :runK (MF 38) [(22,true),(33,false)] [(28,.I v)] [] (k_60 [1,0,1,0,0,1,1,0,0,1,1,0,0]) (Yds x m th wr plan i j) Ypm =some ([decide ((j:Int)<(x.feet.length:Int))=true,CF 48 [fbkD x m th wr,D.z E.work plan,D.I (j:Int),D.I (i:Int)] (D.I v),decide (v<x.chain.rule)=false,Yae ((j:Int)+(1:Int))],Ex.normal,Yds x m th wr plan i (j+1)):=by kernel_rfl
theorem Zea (x:FBook)(m:Mp)(th:LL)(wr:LI)(plan:List Work)(i j:Nat)(v:Int) :runK (MF 38) [(22,true),(33,true)] [(28,.I v)] [] (k_60 [1,0,1,0,0,1,1,0,0,1,1,0,0]) (Yds x m th wr plan i j) [.tmp 1,.tmp 2,.tmp 7,.tmp 13,.tmp 14,.tmp 20,.tmp 21,.box 2,.tmp 4,.tmp 5,.tmp 6] =some ([decide ((j:Int)<(x.feet.length:Int))=true,CF 48 [fbkD x m th wr,D.z E.work plan,D.I (j:Int),D.I (i:Int)] (D.I v),decide (v<x.chain.rule)=true],Ex.ret,Yjr x m th wr plan i j v):=by kernel_rfl
theorem Zeb (x:FBook)(m:Mp)(th:LL)(wr:LI)(plan:List Work)(i j:Nat) :runK (MF 38) [(22,false)] [] [] (k_60 [1,0,1,0,0,1,1,0,0,1,1,0,0]) (Yds x m th wr plan i j) Ypm =some ([decide ((j:Int)<(x.feet.length:Int))=false],Ex.exit 2,Yds x m th wr plan i j):=by kernel_rfl
theorem Zl7 (n lo hi:Int) :Yaj (MF 15) [(10,false)] [] [] (body Tryz.f47) [.tmp 6] [.I n,.I lo,.I hi] =let Z0:Prop:=decide (lo<=n)=false;some ([Z0,Z0,Z0,Z0],D.bool false):=by kernel_rfl
theorem Zd8 (n lo hi:Int) :Yaj (MF 15) [(10,true)] [] [] (body Tryz.f47) [.tmp 6] [.I n,.I lo,.I hi] =let Z0:Prop:=decide (lo<=n)=true;some ([Z0,Z0,Z0,Z0],D.bool (decide (n<=hi))):=by kernel_rfl
theorem Zmi  :Yaj (MF 3) [] [] [] (body Tryz.f101) [.cell 0 129] [] =some ([0+4<=4,0+4<=4],D.agg [D.I 0,D.I 0,D.I 0,D.I 0]):=by kernel_rfl
theorem Zep (a b:Work) :Yaj (MF 20) [(9,true)] [] [] (body Tryz.f82) [.tmp 4] [wkD a,wkD b] =let Z0:Prop:=0+0+1<=2;some ([Z0,Z0,(a.d != b.d)=true,Z0,Z0,Yae (a.d-b.d)],D.I (a.d-b.d)):=by kernel_rfl
theorem Zeq (a b:Work) :Yaj (MF 20) [(9,false)] [] [] (body Tryz.f82) [.tmp 4] [wkD a,wkD b] =some ([0+0+1<=2,0+0+1<=2,(a.d != b.d)=false,0+1+1<=2,0+1+1<=2,Yae (a.s-b.s)],D.I (a.s-b.s)):=by kernel_rfl
theorem Zmh (x:FBook)(m:Mp)(th:LL)(wr:LI)(s d:Int)(p:Int)(i:Nat) :Yaj (MF 30) [] [] [(0,(Ymo,(.normal,Ydo x m th wr s d p i)))] (body Tryz.f175) [.tmp 6] [fbkD x m th wr,.I s,.I d] =some ([LF 30 (Ztm [1,0,1]) (Ydo x m th wr s d s 0) Ex.normal (Ydo x m th wr s d p i)],D.I p):=by kernel_rfl
theorem Xa6 (x:FBook)(m:Mp)(th:LL)(wr:LI)(s c d:Int) :Yaj (MF 17) [] [] [] (body Tryz.f173) [.tmp 8] [fbkD x m th wr,.I s,.I c,.I d] =let Z0:=List.getD th (Int.toNat s) (E.z (E.list E.int));some ([(0:Int)<=s/\s<(th.length:Int),(0:Int)<=d/\d<(Nat.cast:Nat->Int) (List.length Z0),0+1<=1],D.I (List.getD Z0 (Int.toNat d) (0:Int))):=by kernel_rfl
theorem Zmo (x:FBook)(m:Mp)(th:LL)(wr:LI)(s c d:Int)(n:Int)(i:Nat) :Yaj (MF 34) [] [] [(0,(Yrk,(.normal,Yfg x m th wr s c d n i)))] (body Tryz.f174) [.tmp 8] [fbkD x m th wr,.I s,.I c,.I d] =some ([Yae (d-c),LF 34 (Xab [1,1,0,1]) (Yfg x m th wr s c d x.new 0) Ex.normal (Yfg x m th wr s c d n i)],D.I n):=by kernel_rfl
theorem Zmk (x:FBook)(m:Mp)(th:LL)(wr:LI)(plan:List Work)(s d:Int)(v c:Int)(i:Nat) :Yaj (MF 40) [] [(39,.I v)] [(0,(Yhx,(.normal,Yb5 x m th wr plan s d 0 c i)))] (body Tryz.f48) [.tmp 8] [fbkD x m th wr,.z .work plan,.I s,.I d] =some ([LF 40 (k_48 [1,1,0,1]) (Yb5 x m th wr plan s d 0 0 0) Ex.normal (Yb5 x m th wr plan s d (0:Int) c i),(0:Int)<=(0:Int)/\(0:Int)<(Nat.cast:Nat->Int) 2,CF 173 [fbkD x m th wr,D.I s,D.I c,D.I d] (D.I v)],D.I v):=by kernel_rfl
theorem Zml (x:FBook)(m:Mp)(th:LL)(wr:LI)(plan:List Work)(s d:Int)(v c:Int)(i:Nat) :Yaj (MF 40) [] [(39,.I v)] [(0,(Yhx,(.normal,Yb5 x m th wr plan s d 1 c i)))] (body Tryz.f48) [.tmp 8] [fbkD x m th wr,.z .work plan,.I s,.I d] =some ([LF 40 (k_48 [1,1,0,1]) (Yb5 x m th wr plan s d 0 0 0) Ex.normal (Yb5 x m th wr plan s d (1:Int) c i),(0:Int)<=(1:Int)/\(1:Int)<(Nat.cast:Nat->Int) 2,CF 174 [fbkD x m th wr,D.I s,D.I c,D.I d] (D.I v)],D.I v):=by kernel_rfl
theorem Xa1 (xs:LI)(n:Int)(i:Nat) :Yaj (MF 17) [] [] [(0,(Zee,(.normal,Yju xs n i)))] (body Tryz.f93) [.tmp 2] [.z .int xs] =some ([LF 17 (k_93 [1,1,0,1]) (Yju xs 0 0) Ex.normal (Yju xs n i)],D.I n):=by kernel_rfl
theorem Zmy (x:FBook)(m:Mp)(th:LL)(wr:LI)(plan:List Work)(n:Int)(i:Nat) :Yaj (MF 27) [] [(26,.I n)] [(0,(Ywd,(.normal,Yfu x m th wr plan i)))] (body Tryz.f65) [.tmp 4] [fbkD x m th wr,.z .work plan] =some ([LF 27 (k_65 [1,1,0,1]) (Yfu x m th wr plan 0) Ex.normal (Yfu x m th wr plan i),CF 93 [D.z E.int []] (D.I n)],D.I n):=by kernel_rfl
theorem Zmx (x:FBook)(m:Mp)(th:LL)(wr:LI)(plan:List Work)(n:Int)(i:Nat)(y:Int)(r:LI) :Yaj (MF 27) [] [(26,.I n)] [(0,(Ywd,(.normal,Ygy x m th wr plan y r i)))] (body Tryz.f65) [.tmp 4] [fbkD x m th wr,.z .work plan] =some ([LF 27 (k_65 [1,1,0,1]) (Yfu x m th wr plan 0) Ex.normal (Ygy x m th wr plan y r i),(y::r).length=List.length ((y::r)),CF 93 [D.z E.int ((y::r))] (D.I n)],D.I n):=by kernel_rfl
theorem Zmj (x:FBook)(m:Mp)(th:LL)(wr:LI)(plan:List Work)(n:Int)(i:Nat) :Yaj (MF 32) [] [] [(0,(Yri,(.normal,Yff x m th wr plan n i)))] (body Tryz.f67) [.tmp 4] [fbkD x m th wr,.z .work plan] =some ([LF 32 (k_67 [1,1,0,1]) (Yff x m th wr plan 0 0) Ex.normal (Yff x m th wr plan n i)],D.I n):=by kernel_rfl
theorem Zuu (x:FBook)(m:Mp)(th:LL)(wr:LI)(plan:List Work)(n:Int) :Yaj (MF 12) [] [(7,.I n)] [] (body Tryz.f95) [.tmp 4] [fbkD x m th wr,.z .work plan] =some ([CF 67 [fbkD x m th wr,D.z E.work plan] (D.I n)],D.bool (decide (n<=x.stock))):=by kernel_rfl
theorem Zl1 (x:FBook)(l:List (K2×Bool))(th:LL)(wr:LI)(plan:List Work)(la:Work)(i:Nat) :Yaj (MF 33) [] [] [(0,(Yhv,(.normal,Yb3 x l th wr plan la i)))] (body Tryz.f46) [.tmp 4] [fbkD x (.work l) th wr,.z .work plan] =some ([0+2<=2,LF 33 (k_46 [1,1,0,1]) [(.tmp 2,.d (D.ptr 2 0)),(.tmp 5,.d (D.ptr 5 0)),(.tmp 9,.d (D.z E.work plan)),(.tmp 10,.d (D.I ((plan.length:Int)))),(.tmp 11,.d (D.I 0)),(.box 2,.bz (cellsOf (fbkD x (Mp.work l) th wr))),(.box 5,.bz [D.I (-(1:Int)),D.I 0])] Ex.normal (Yb3 x l th wr plan la i)],D.bool true):=by kernel_rfl
theorem Zd3 (x:FBook)(l:List (K2×Bool))(th:LL)(wr:LI)(plan:List Work)(la:Work)(i:Nat) :Yaj (MF 33) [] [] [(0,(Yhv,(.ret,Yhe x l th wr plan la i)))] (body Tryz.f46) [.tmp 4] [fbkD x (.work l) th wr,.z .work plan] =some ([0+2<=2,LF 33 (k_46 [1,1,0,1]) [(.tmp 2,.d (D.ptr 2 0)),(.tmp 5,.d (D.ptr 5 0)),(.tmp 9,.d (D.z E.work plan)),(.tmp 10,.d (D.I ((plan.length:Int)))),(.tmp 11,.d (D.I 0)),(.box 2,.bz (cellsOf (fbkD x (Mp.work l) th wr))),(.box 5,.bz [D.I (-(1:Int)),D.I 0])] Ex.ret (Yhe x l th wr plan la i)],D.bool false):=by kernel_rfl
theorem Zl3 (x:FBook)(l:List (K2×Bool))(th:LL)(wr:LI)(plan:List Work)(la:Work)(i:Nat)(c:Int) :Yaj (MF 33) [] [] [(0,(Yhv,(.ret,Yim x l th wr plan la i c)))] (body Tryz.f46) [.tmp 4] [fbkD x (.work l) th wr,.z .work plan] =some ([0+2<=2,LF 33 (k_46 [1,1,0,1]) [(.tmp 2,.d (D.ptr 2 0)),(.tmp 5,.d (D.ptr 5 0)),(.tmp 9,.d (D.z E.work plan)),(.tmp 10,.d (D.I ((plan.length:Int)))),(.tmp 11,.d (D.I 0)),(.box 2,.bz (cellsOf (fbkD x (Mp.work l) th wr))),(.box 5,.bz [D.I (-(1:Int)),D.I 0])] Ex.ret (Yim x l th wr plan la i c)],D.bool false):=by kernel_rfl
theorem Zma (x:FBook)(m:Mp)(th:LL)(wr:LI)(plan:List Work)(i:Nat) :Yaj (MF 38) [] [] [(0,(Ypn,(.normal,Ydk x m th wr plan i)))] (body Tryz.f60) [.tmp 4,.tmp 5,.tmp 6] [fbkD x m th wr,.z .work plan] =some ([Yae (x.chain.days+(1:Int)),LF 38 (k_60 [1,0,1]) (Ydk x m th wr plan 0) Ex.normal (Ydk x m th wr plan i)],D.tup [D.I 0,D.I 0,D.bool false]):=by kernel_rfl
theorem Zue (x:FBook)(m:Mp)(th:LL)(wr:LI)(plan:List Work)(i j:Nat)(v:Int) :Yaj (MF 38) [] [] [(0,(Ypn,(.ret,Yjs x m th wr plan i j v)))] (body Tryz.f60) [.tmp 4,.tmp 5,.tmp 6] [fbkD x m th wr,.z .work plan] =some ([Yae (x.chain.days+(1:Int)),LF 38 (k_60 [1,0,1]) (Ydk x m th wr plan 0) Ex.ret (Yjs x m th wr plan i j v)],D.tup [D.I (i:Int),D.I (j:Int),D.bool true]):=by kernel_rfl
end Go.Di
