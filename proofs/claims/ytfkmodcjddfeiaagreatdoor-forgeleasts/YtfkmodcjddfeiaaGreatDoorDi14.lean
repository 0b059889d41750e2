/- Part 14: contracts are proved. No condition. -/
import Derived.Test.YtfkmodcjddfeiaaGreatDoorDi13
set_option linter.unusedVariables false
set_option linter.unusedSimpArgs false
namespace Go.Di
open Proofs
theorem Ycz (p:Nat→Bool):∀ n,(∃ k,k<n∧p k=true∧∀ i<k,p i=false)∨∀ i<n,p i=false
 | 0=>.inr fun i h=>by omega
 | n+1=>by
  rcases Ycz p n with ⟨k,h1,h2,h3⟩|h
  ·exact .inl ⟨k,by omega,h2,h3⟩
  ·cases hn:p n with
   | true=>exact .inl ⟨n,by omega,hn,h⟩
   | false =>
    refine .inr fun i hi=>?_
    by_cases e:i=n
    ·subst e;exact hn
    ·exact h i (by omega)
theorem Contract.toWeak {P:Program}{glob:Nat→Option (List D)}{f:FuncId}{args:List D}{r:D}(h:Contract P glob f args r):Contract P glob f args (weak r):=h.toRes fun _ _ _=>weak_rel
theorem Ye8 (a c:Int):Contract PR glob 94 [.int .i64 a,.int .i64 c] (spD ⟨a,c⟩):=Yaa (G 8) rangeB_fn (rangeB_all a c) ⟨by omega,trivial⟩
theorem point_con (a:Int):Contract PR glob 116 [.int .i64 a] (spD ⟨a,a⟩):=Yaa (G 6) point_fn (point_all a) ⟨Ye8 a a,by omega,trivial⟩
theorem inside_con (n lo hi:Int):Contract PR glob 51 [.int .i64 n,.int .i64 lo,.int .i64 hi] (.bool (Yfn n lo hi)):=by
 unfold Yfn
 cases h:decide (n≥lo) with
 | false=>exact Yaa (G 15) inside_fn (inside_no n lo hi) ⟨h,h,h,h,trivial⟩
 | true=>exact Yaa (G 15) inside_fn (inside_yes n lo hi) ⟨h,h,h,h,trivial⟩
def Ybg (s:Span)(lo hi:Int):Bool:=decide (s.lo≥lo)&&decide (s.lo≤s.hi)&&decide (s.hi≤hi)
theorem validB_con (s:Span)(lo hi:Int):Contract PR glob 91 [spD s,.int .i64 lo,.int .i64 hi] (.bool (Ybg s lo hi)):=by
 unfold Ybg
 cases h:decide (s.lo≥lo) with
 | false =>
  refine Yaa (G 24) validB_fn (validB_a s lo hi) ?_
  repeat(first|exact trivial|refine⟨by first|exact h|omega,?_⟩)
 | true =>
  cases h2:decide (s.lo≤s.hi) with
  | false =>
   refine Yaa (G 24) validB_fn (validB_b s lo hi) ?_
   repeat(first|exact trivial|refine⟨by first|exact h|exact h2|omega,?_⟩)
  | true =>
   refine Yaa (G 24) validB_fn (validB_c s lo hi) ?_
   repeat(first|exact trivial|refine⟨by first|exact h|exact h2|omega,?_⟩)
theorem ext_getD {xs ys:List Int}(hl:xs.length=ys.length)(h:∀ i<xs.length,xs.getD i 0=ys.getD i 0):xs=ys:=by
 refine List.ext_getElem hl fun i h1 h2=>?_
 have:=h i h1
 rwa [List.getD_eq_getElem?_getD,List.getD_eq_getElem?_getD,List.getElem?_eq_getElem h1,List.getElem?_eq_getElem h2]at this
theorem alike_con (xs ys:List Int)(hl:xs.length≤9223372036854775807):Contract PR glob 25 [.sl false .int xs,.sl false .int ys] (.bool (decide (xs=ys))):=by
 have hb:k_25 [1,1,0,1]=.block 0 (.loop (k_25 [1,1,0,1,0,0])):=by kernel_rfl
 by_cases hlen:xs.length=ys.length
 ·have hne:((xs.length:Int) != (ys.length:Int))=false:=by rw[hlen];simp
  have hon:∀ k,k≤xs.length→(∀ i<k,(xs.getD i 0 != ys.getD i 0)=false)→∀ i,i<k→WpL PR (mk PR (Yac types) glob 26) (k_25 [1,1,0,1,0,0]) (Yd2 xs ys i) fun e1 L1=>e1=.normal∧L1=Yd2 xs ys (i+1):=fun k hk h i hi =>
   WpL.path (G 26) (alike_0_on xs ys i) ⟨decide_eq_true (by omega),by omega,by omega,by omega,by omega,h i hi,by simp only[Yae];omega,trivial⟩ ⟨rfl,rfl⟩
  rcases Ycz (fun i=>xs.getD i 0 != ys.getD i 0) xs.length with ⟨k,h1,h2,h3⟩|h
  ·have:decide (xs=ys)=false:=decide_eq_false fun e=>by subst e;simp at h2
   rw[this]
   exact Yaa (G 26) alike_fn (alike_diff xs ys k) ⟨hne,LoopT.count (tt:=Yac types) hb k (Yd2 xs ys) (hon k (by omega) h3) (WpL.path (G 26) (alike_0_diff xs ys k) ⟨decide_eq_true (by omega),by omega,by omega,by omega,by omega,h2,trivial⟩ ⟨.inr ⟨rfl,rfl⟩,rfl⟩),trivial⟩
  ·have:decide (xs=ys)=true:=decide_eq_true (ext_getD hlen fun i hi=>by simpa using h i hi)
   rw[this]
   exact Yaa (G 26) alike_fn (alike_all xs ys xs.length) ⟨hne,LoopT.count (tt:=Yac types) hb xs.length (Yd2 xs ys) (hon _ (Nat.le_refl _) h) (WpL.path (G 26) (alike_0_end xs ys _) ⟨decide_eq_false (Int.lt_irrefl _),trivial⟩ ⟨.inl ⟨rfl,rfl⟩,rfl⟩),trivial⟩
 ·have:decide (xs=ys)=false:=decide_eq_false fun e=>hlen (by rw[e])
  rw[this]
  exact Yaa (G 26) alike_fn (alike_len xs ys) ⟨by simp;omega,trivial⟩
theorem atB_con (xs:List Int)(v:Int)(hl:xs.length≤9223372036854775807):Contract PR glob 78 [.sl false .int xs,.int .i64 v] (.int .i64 (indexF v xs 0)):=by
 have hb:k_78 [1,0,1]=.block 0 (.loop (k_78 [1,0,1,0,0])):=by kernel_rfl
 have hbeq:∀ a b:Int,(a==b)=(b==a):=fun a b=>BEq.comm
 have hon:∀ k,k≤xs.length→(∀ i<k,(v==xs.getD i 0)=false)→∀ i,i<k→WpL PR (mk PR (Yac types) glob 19) (k_78 [1,0,1,0,0]) (atB_S0 xs v i) fun e1 L1=>e1=.normal∧L1=atB_S0 xs v (i+1):=fun k hk h i hi =>
  WpL.path (G 19) (atB_0_on xs v i) ⟨decide_eq_true (by omega),by omega,by omega,(hbeq _ _).trans (h i hi),by simp only[Yae];omega,trivial⟩ ⟨rfl,rfl⟩
 rcases indexF_cases v xs with ⟨k,h1,h2,h3,h4⟩|⟨h2,h4⟩
 ·rw[h2]
  exact Yaa (G 19) atB_fn (atB_hit xs v k) ⟨LoopT.count (tt:=Yac types) hb k (atB_S0 xs v) (hon k (by omega) h4) (WpL.path (G 19) (atB_0_hit xs v k) ⟨decide_eq_true (by omega),by omega,by omega,(hbeq _ _).trans h3,trivial⟩ ⟨.inr ⟨rfl,rfl⟩,rfl⟩),trivial⟩
 ·rw[h2]
  exact Yaa (G 19) atB_fn (atB_end xs v xs.length) ⟨LoopT.count (tt:=Yac types) hb xs.length (atB_S0 xs v) (hon _ (Nat.le_refl _) h4) (WpL.path (G 19) (atB_0_end xs v _) ⟨decide_eq_false (Int.lt_irrefl _),trivial⟩ ⟨.inl ⟨rfl,rfl⟩,rfl⟩),trivial⟩
def climbAt (xs:List Int)(m:Int)(i:Nat):Bool:=Yfn (xs.getD i 0) 0 (m-1)&&!(decide (i>0)&&decide (xs.getD i 0≤xs.getD (i-1) 0))
def Ych (xs:List Int)(m:Int):Bool:=(List.range xs.length).all (climbAt xs m)
theorem climbs_con (xs:List Int)(m:Int)(hl:xs.length≤9223372036854775807)(hm:0≤m∧m≤4611686018427387904):Contract PR glob 57 [.sl false .int xs,.int .i64 m] (.bool (Ych xs m)):=by
 have hb:k_57 [1,0,1]=.block 0 (.loop (k_57 [1,0,1,0,0])):=by kernel_rfl
 have hin:=fun i:Nat=>inside_con (xs.getD i 0) 0 (m-1)
 have hi64:Yae (m-1):=by simp only[Yae];omega
 have hix:∀ i:Nat,i>0→((i:Int)-1).toNat=i-1:=fun i hi=>by omega
 have hon:∀ k,k≤xs.length→(∀ i<k,(!climbAt xs m i)=false)→∀ i,i<k→WpL PR (mk PR (Yac types) glob 36) (k_57 [1,0,1,0,0]) (Yca xs m i) fun e1 L1=>e1=.normal∧L1=Yca xs m (i+1):=by
  intro k hk h i hi
  have h':=h i hi
  unfold climbAt at h'
  simp only[Bool.not_eq_eq_eq_not,Bool.not_false,Bool.and_eq_true,Bool.not_true]at h'
  have hq:=hin i
  rw[h'.1]at hq
  by_cases hz:i>0
  ·have h1:decide ((i:Int)>0)=true:=decide_eq_true (by omega)
   have h2:decide (xs.getD i 0≤xs.getD ((i:Int)-1).toNat 0)=false:=by
    rw[hix i hz]
    have:=h'.2
    rw[decide_eq_true hz]at this
    simpa using this
   refine WpL.path (G 36) (climbs_0_on1 xs m i) ?_ ⟨rfl,rfl⟩
   repeat(first|exact trivial|refine⟨by first|exact hq|exact h1|exact h2|exact hi64|exact decide_eq_true (by omega)|omega|(simp only[Yae];omega),?_⟩)
  ·have h1:decide ((i:Int)>0)=false:=decide_eq_false (by omega)
   refine WpL.path (G 36) (climbs_0_on0 xs m i) ?_ ⟨rfl,rfl⟩
   repeat(first|exact trivial|refine⟨by first|exact hq|exact h1|exact hi64|exact decide_eq_true (by omega)|omega|(simp only[Yae];omega),?_⟩)
 rcases Ycz (fun i=>!climbAt xs m i) xs.length with ⟨k,h1,h2,h3⟩|h
 ·have hF:Ych xs m=false:=by
   unfold Ych
   rw[List.all_eq_false]
   exact⟨k,by simpa using h1,by simpa using h2⟩
  rw[hF]
  have h2':climbAt xs m k=false:=by simpa using h2
  unfold climbAt at h2'
  have hq:=hin k
  cases hc:Yfn (xs.getD k 0) 0 (m-1) with
  | false =>
   rw[hc]at hq
   refine Yaa (G 36) climbs_fn (climbs_out xs m k) ⟨LoopT.count (tt:=Yac types) hb k (Yca xs m) (hon k (by omega) h3) (WpL.path (G 36) (climbs_0_out xs m k) ?_ ⟨.inr ⟨rfl,rfl⟩,rfl⟩),trivial⟩
   repeat(first|exact trivial|refine⟨by first|exact hq|exact hi64|exact decide_eq_true (by omega)|omega,?_⟩)
  | true =>
   rw[hc]at hq h2'
   simp only[Bool.true_and,Bool.not_eq_eq_eq_not,Bool.not_false,Bool.and_eq_true,decide_eq_true_eq]at h2'
   have h1':decide ((k:Int)>0)=true:=decide_eq_true (by omega)
   have hle:decide (xs.getD k 0≤xs.getD ((k:Int)-1).toNat 0)=true:=by
    rw[hix k h2'.1]
    exact decide_eq_true h2'.2
   refine Yaa (G 36) climbs_fn (climbs_low xs m k) ⟨LoopT.count (tt:=Yac types) hb k (Yca xs m) (hon k (by omega) h3) (WpL.path (G 36) (climbs_0_low xs m k) ?_ ⟨.inr ⟨rfl,rfl⟩,rfl⟩),trivial⟩
   repeat(first|exact trivial|refine⟨by first|exact hq|exact h1'|exact hle|exact hi64|exact decide_eq_true (by omega)|omega|(simp only[Yae];omega),?_⟩)
 ·have hF:Ych xs m=true:=by
   unfold Ych
   rw[List.all_eq_true]
   intro i hi
   have:=h i (by simpa using hi)
   simpa using this
  rw[hF]
  exact Yaa (G 36) climbs_fn (climbs_end xs m xs.length) ⟨LoopT.count (tt:=Yac types) hb xs.length (Yca xs m) (hon _ (Nat.le_refl _) h) (WpL.path (G 36) (climbs_0_end xs m _) ⟨decide_eq_false (Int.lt_irrefl _),trivial⟩ ⟨.inl ⟨rfl,rfl⟩,rfl⟩),trivial⟩
end Go.Di

namespace Go.Di
open Proofs
def Ybb:List (Nat×TI) :=
 [(28,⟨.struct [(0,26),(5,23),(6,3),(7,23),(8,3),(9,3)],10,160,[.nil,.nil,.nil,.int .i64 0,.int .i64 0,.nil,.int .i64 0,.nil,.int .i64 0,.int .i64 0],some .fbook,false⟩),
  (67,⟨.struct [(0,28),(10,64),(11,65),(12,23)],13,216,[.nil,.nil,.nil,.int .i64 0,.int .i64 0,.nil,.int .i64 0,.nil,.int .i64 0,.int .i64 0,.nilmap,.nil,.nil],none,false⟩),
  (64,⟨.map 54 4 false,1,8,[.nilmap],none,false⟩),
  (29,⟨.slice 54,1,24,[.nil],some (.list .work),false⟩),
  (94,⟨.other,1,8,[.nilfn],none,false⟩),
  (72,⟨.other,1,8,[.nilfn],none,false⟩),
  (70,⟨.other,1,8,[.nilfn],none,false⟩),
  (35,⟨.other,1,8,[.nilfn],none,false⟩),
  (124,⟨.struct [(0,35)],1,8,[.nilfn],none,false⟩),
  (107,⟨.other,1,8,[.nilfn],none,false⟩),
  (108,⟨.other,1,8,[.nilfn],none,false⟩),
  (109,⟨.array 2 108,2,16,[.nilfn,.nilfn],none,false⟩),
  (127,⟨.other,1,8,[.nilfn],none,false⟩)]++types
theorem Yao:Ybl PR (Yac Ybb):=tabOk (by kernel_rfl)
def Yb4:Nat→Option (List D)
 | 0=>some [.int .i64 (-1),.int .i64 0]
 | 1=>some [.fn 173 [] [],.fn 174 [] []]
 | g=>glob g
noncomputable abbrev PRG:Program:=PR
noncomputable abbrev MF (n:Nat):Cfg:=mk PRG (Yac Ybb) Yb4 n
abbrev CF (f:FuncId)(args:List D)(r:D):Prop:=Contract PRG Yb4 f args r
abbrev LF (n:Nat)(c:Code)(L:List (Key×Val))(e:Ex)(L':List (Key×Val)):Prop:=LoopT PRG Yb4 n c L e L'
theorem GF (n:Nat):Good PR (mk PR (Yac Ybb) Yb4 n):=good Yam Yao
theorem glob_up {g:Nat}{cs:List D}(h:glob g=some cs):Yb4 g=some cs:=by
 match g,h with
 | 2,h=>exact h
theorem Contract.up {P:Program}{f:FuncId}{args:List D}{r:D}(h:Contract P glob f args r):Contract P Yb4 f args r :=
 ⟨h.form,fun w R vs h1 h2 h3=>h.calls w R vs h1 (fun g cs hg=>h2 g cs (glob_up hg)) h3⟩
end Go.Di

namespace Go.Di
open Proofs
def Yad (x:FBook):D:=.agg [.sl false .sec x.chain.secs,.sl false .int x.chain.turns,.sl false .sv x.chain.svs,.int .i64 x.chain.rule,.int .i64 x.chain.days,.sl false .int x.feet,.int .i64 x.new,.sl false .int x.opn,.int .i64 x.stock,.int .i64 x.make]
def fbkD (x:FBook)(m:Mp)(th:List (List Int))(wr:List Int):D:=.agg [.sl false .sec x.chain.secs,.sl false .int x.chain.turns,.sl false .sv x.chain.svs,.int .i64 x.chain.rule,.int .i64 x.chain.days,.sl false .int x.feet,.int .i64 x.new,.sl false .int x.opn,.int .i64 x.stock,.int .i64 x.make,.map m,.sl false (.list .int) th,.sl false .int wr]
def wkD (x:Work):D:=.agg [.int .i64 x.d,.int .i64 x.s]
def Yak:Work:=⟨0,0⟩
def setsD (x:W4):D:=wD x.a x.b x.c x.d
def W4.get (x:W4)(s:Nat):Int:=[x.a,x.b,x.c,x.d].getD s 0
def fok0F (x:FBook):Bool:=(Yah x.chain==0)&&decide ((x.feet.length:Int)=x.chain.secs.length)&&Yab x.new 0 200&&decide (x.opn.length≤4)&&Yab x.stock 0 200&&Yab x.make 0 9
def fok1F (x:FBook)(l:List Int):Bool:=l.foldl (fun ok n=>ok&&Yab n 1 30) (fok0F x)
def fok2F (x:FBook)(l:List Int):Bool×Int:=l.foldl (Ydn x.chain.days) (fok1F x x.feet,-1)
def Ydb (x:FBook):Bool:=(fok2F x x.opn).1
def fcheckF (x:FBook):Int:=if Ydb x then 0 else 70
def worksS (m:List (K2×Bool))(d:Int):Nat→List (K2×Bool)
 | 0=>m
 | s+1=>updK (worksS m d s) (d,(s:Int)) true
def worksO (x:FBook):Nat→List (K2×Bool)
 | 0=>[((-1,0),false)]
 | i+1=>worksS (worksO x i) (x.opn.getD i 0) x.feet.length
def Ya8 (x:FBook):List (K2×Bool):=worksO x x.opn.length
def Ycd (x y:Work):Int:=if x.d=y.d then x.s-y.s else x.d-y.d
def isWorkF (m:List (K2×Bool))(w:Work):Bool:=(Ybf m (w.d,w.s)).getD false
def badF (m:List (K2×Bool))(last w:Work):Bool:=!(isWorkF m w)||(!(decide (last.d=-1∧last.s=0))&&decide (Ycd last w≥0))
def Yhh (m:List (K2×Bool))(last:Work):List Work→Bool
 | []=>true
 | w::r=>if badF m last w=true then false else Yhh m w r
def isPlanF (m:List (K2×Bool))(plan:List Work):Bool:=Yhh m ⟨-1,0⟩ plan
def Yge (x:FBook)(s d:Int):Int:=Ybz x.feet.length x.chain.turns d s
def oldF (th:List (List Int))(s d:Int):Int:=(th.getD s.toNat []).getD d.toNat 0
def Yew (x:FBook)(wr:List Int)(s c:Int):Nat→Int
 | 0=>x.new
 | k+1=>Yew x wr s c k-wr.getD (Yge x s (c+k)).toNat 0
def Ycc (s d:Int)(p:Int×Int)(w:Work):Int×Int:=if w.s=s∧w.d≤d then(1,w.d) else p
def lastF (plan:List Work)(s d:Int):Int×Int:=plan.foldl (Ycc s d) (0,0)
def Yc5 (x:FBook)(th:List (List Int))(wr:List Int)(plan:List Work)(s d:Int):Int :=
 if (lastF plan s d).1=0 then oldF th s d else Yew x wr s (lastF plan s d).2 (d-(lastF plan s d).2).toNat
def fbadF (x:FBook)(th:List (List Int))(wr:List Int)(plan:List Work)(d s:Nat):Bool:=decide (Yc5 x th wr plan s d<x.chain.rule)
def fsecF (x:FBook)(th:List (List Int))(wr:List Int)(plan:List Work)(d:Nat):Option Nat:=(List.range x.feet.length).find? (fbadF x th wr plan d)
def fthinGo (x:FBook)(th:List (List Int))(wr:List Int)(plan:List Work):Nat→Nat→Option (Nat×Nat)
 | 0,_=>none
 | k+1,d=>match fsecF x th wr plan d with
  | some s=>some (d,s)
  | none=>fthinGo x th wr plan k (d+1)
def fthinF (x:FBook)(th:List (List Int))(wr:List Int)(plan:List Work):Option (Nat×Nat):=fthinGo x th wr plan (x.chain.days+1).toNat 0
def Yes (x:FBook)(plan:List Work):List Int:=plan.map fun w=>x.feet.getD w.s.toNat 0
def sumF (l:List Int):Int:=l.foldl (·+·) 0
def Yc6 (x:FBook)(plan:List Work):Int:=sumF (Yes x plan)
def needsTo (x:FBook)(plan:List Work):Nat→Int
 | 0=>0
 | k+1=>mx (needsTo x plan k) (Yc6 x (plan.take (k+1))-x.make*(plan.getD k Yak).d)
def Yf1 (x:FBook)(plan:List Work):Int:=needsTo x plan plan.length
def fgoodF (x:FBook)(plan:List Work):Bool:=decide (Yf1 x plan≤x.stock)
def shortF (x:FBook)(plan:List Work):Option Nat:=(List.range plan.length).find? fun k=>decide (Yf1 x (plan.take (k+1))>x.stock)
def andF (a b:Int):Int:=IntKind.i64.wrap ((BitVec.ofInt 64 a&&& BitVec.ofInt 64 b).toNat:Int)
def bitF (set:Int)(k:Nat):Bool:=andF (set.fdiv (2 ^ min k 64)) 1==1
def Yau (x:FBook)(on:W4)(k:Nat)(l:List Work):Nat→List Work
 | 0=>l
 | s+1=>if bitF (on.get s) k=true then Yau x on k l s++[⟨x.opn.getD k 0,s⟩] else Yau x on k l s
def Ybh (x:FBook)(on:W4):Nat→List Work
 | 0=>[]
 | k+1=>Yau x on k (Ybh x on k) x.feet.length
def Ya4 (x:FBook)(on:W4):List Work:=Ybh x on x.opn.length
def zeroW:W4:=⟨0,0,0,0⟩
def keepsF (x:FBook)(th:List (List Int))(wr:List Int)(s:Nat)(set:Int):Bool :=
 (List.range (x.chain.days+1).toNat).all fun d=>!(decide (Yc5 x th wr (Ya4 x (zeroW.set s set)) s d<x.chain.rule))
def Ybi (x:FBook)(th:List (List Int))(wr:List Int)(s:Nat):Nat→List Int
 | 0=>[]
 | k+1=>if ((Ybi x th wr s k).any fun l=>andF k l==l)=true then Ybi x th wr s k
  else if keepsF x th wr s k=true then Ybi x th wr s k++[(k:Int)] else Ybi x th wr s k
def Ycl (x:FBook)(th:List (List Int))(wr:List Int)(s:Nat):List Int:=Ybi x th wr s (2 ^ x.opn.length)
def Yb0 (x:FBook)(all:List (List Int)):Nat→Nat→W4→List (List Work)
 | 0,_,on=>[Ya4 x on]
 | f+1,s,on=>(all.getD s []).flatMap fun set=>Yb0 x all f (s+1) (on.set s set)
def allF (x:FBook)(th:List (List Int))(wr:List Int):List (List Int):=(List.range x.feet.length).map (Ycl x th wr)
def plansF (x:FBook)(th:List (List Int))(wr:List Int):List (List Work):=Yb0 x (allF x th wr) x.feet.length 0 zeroW
def Ye3:List Work→List Work→Int
 | [],[]=>0
 | [],_::_=>-1
 | _::_,[]=>1
 | x::l,y::m=>if Ycd x y≠0 then Ycd x y else Ye3 l m
def betterWF (x:FBook)(p q:List Work):Bool:=decide (Yc6 x p<Yc6 x q)||(decide (Yc6 x p=Yc6 x q)&&decide (Ye3 p q<0))
def Yd1 (x:FBook)(o:List Work×Bool)(p:List Work):List Work×Bool:=if fgoodF x p&&(!o.2||betterWF x p o.1) then(p,true) else o
def Yd9 (x:FBook)(l:List (List Work)):List Work×Bool:=l.foldl (Yd1 x) ([],false)
def bestF (x:FBook)(th:List (List Int))(wr:List Int):List Work×Bool:=Yd9 x (plansF x th wr)
def stockOf (x:FBook)(l:List (List Work)):Int:=l.foldl (fun n p=>mn n (Yf1 x p)) 201
def stockF (x:FBook)(th:List (List Int))(wr:List Int):Int:=stockOf x (plansF x th wr)
def wearHi (b:Book)(p:Int):Int:=(Yc2 (Ybe p) (Yaj b [])).hi
def thickLo (b:Book)(s d:Int):Int:=(Ybn b (Yaj b []) b.turns s d).lo
def Ybo (x:FBook):List Int:=(List.range x.feet.length).map fun s=>wearHi x.chain (s:Nat)
def Ybp (x:FBook):List (List Int):=(List.range x.feet.length).map fun s=>(List.range (x.chain.days+1).toNat).map fun d=>thickLo x.chain (s:Nat) (d:Nat)
def Yb7 (x:FBook)(is:Bool):Int:=if Ydb x=false then 70 else if is=false then 71 else if canF x.chain=false then 72 else 0
end Go.Di

namespace Go.Di
open Proofs
noncomputable abbrev k_175 (p:List Nat):Code:=Code.at p (body Proofs.Tryz.f175)
noncomputable abbrev k_174 (p:List Nat):Code:=Code.at p (body Proofs.Tryz.f174)
noncomputable abbrev k_48 (p:List Nat):Code:=Code.at p (body Proofs.Tryz.f48)
noncomputable abbrev k_93 (p:List Nat):Code:=Code.at p (body Proofs.Tryz.f93)
noncomputable abbrev k_65 (p:List Nat):Code:=Code.at p (body Proofs.Tryz.f65)
noncomputable abbrev k_67 (p:List Nat):Code:=Code.at p (body Proofs.Tryz.f67)
noncomputable abbrev k_46 (p:List Nat):Code:=Code.at p (body Proofs.Tryz.f46)
noncomputable abbrev k_60 (p:List Nat):Code:=Code.at p (body Proofs.Tryz.f60)
theorem fwithin_fn:FnOk PRG (MF 15) 47 (body Tryz.f47) [.tmp 6]:=by refine⟨Tryz.f47,?_,?_,?_,?_,?_⟩<;>kernel_rfl
theorem fnever_fn:FnOk PRG (MF 3) 101 (body Tryz.f101) [.cell 0 129]:=by refine⟨Tryz.f101,?_,?_,?_,?_,?_⟩<;>kernel_rfl
theorem fcompare_fn:FnOk PRG (MF 20) 82 (body Tryz.f82) [.tmp 4]:=by refine⟨Tryz.f82,?_,?_,?_,?_,?_⟩<;>kernel_rfl
theorem fplace_fn:FnOk PRG (MF 30) 175 (body Tryz.f175) [.tmp 6]:=by refine⟨Tryz.f175,?_,?_,?_,?_,?_⟩<;>kernel_rfl
theorem fold_fn:FnOk PRG (MF 17) 173 (body Tryz.f173) [.tmp 8]:=by refine⟨Tryz.f173,?_,?_,?_,?_,?_⟩<;>kernel_rfl
theorem ffresh_fn:FnOk PRG (MF 34) 174 (body Tryz.f174) [.tmp 8]:=by refine⟨Tryz.f174,?_,?_,?_,?_,?_⟩<;>kernel_rfl
theorem fleast_fn:FnOk PRG (MF 40) 48 (body Tryz.f48) [.tmp 8]:=by refine⟨Tryz.f48,?_,?_,?_,?_,?_⟩<;>kernel_rfl
theorem fsum_fn:FnOk PRG (MF 17) 93 (body Tryz.f93) [.tmp 2]:=by refine⟨Tryz.f93,?_,?_,?_,?_,?_⟩<;>kernel_rfl
theorem feetA_fn:FnOk PRG (MF 27) 65 (body Tryz.f65) [.tmp 4]:=by refine⟨Tryz.f65,?_,?_,?_,?_,?_⟩<;>kernel_rfl
theorem fneeds_fn:FnOk PRG (MF 32) 67 (body Tryz.f67) [.tmp 4]:=by refine⟨Tryz.f67,?_,?_,?_,?_,?_⟩<;>kernel_rfl
theorem fgood_fn:FnOk PRG (MF 12) 95 (body Tryz.f95) [.tmp 4]:=by refine⟨Tryz.f95,?_,?_,?_,?_,?_⟩<;>kernel_rfl
theorem isPlan_fn:FnOk PRG (MF 33) 46 (body Tryz.f46) [.tmp 4]:=by refine⟨Tryz.f46,?_,?_,?_,?_,?_⟩<;>kernel_rfl
theorem fthin_fn:FnOk PRG (MF 38) 60 (body Tryz.f60) [.tmp 4,.tmp 5,.tmp 6]:=by refine⟨Tryz.f60,?_,?_,?_,?_,?_⟩<;>kernel_rfl
def Ydd (x:FBook)(m:Mp)(th:List (List Int))(wr:List Int)(s d:Int)(p:Int)(i:Nat):List (Key×Val) :=
 [(.tmp 1,.d (.I p)),
  (.tmp 2,.d (D.I d)),
  (.tmp 3,.d (D.ptr 3 0)),
  (.tmp 12,.d (D.sl false E.int (Book.turns (FBook.chain x)))),
  (.tmp 13,.d (D.I ((List.length (Book.turns (FBook.chain x)):Int)))),
  (.tmp 14,.d (.I i)),
  (.box 3,.bx (some (Box.mk false (cellsOf (fbkD x m th wr)))))]
def fplace_K0:List Key:=[.tmp 1,.tmp 2,.tmp 3,.tmp 12,.tmp 13,.tmp 14,.box 3]
def Yer (x:FBook)(m:Mp)(th:List (List Int))(wr:List Int)(s c d:Int)(n:Int)(i:Nat):List (Key×Val) :=
 [(.tmp 1,.d (D.I s)),
  (.tmp 2,.d (D.I c)),
  (.tmp 4,.d (D.ptr 4 0)),
  (.tmp 9,.d (.I n)),
  (.tmp 16,.d (D.I (d-c))),
  (.tmp 17,.d (.I i)),
  (.box 4,.bx (some (Box.mk false (cellsOf (fbkD x m th wr)))))]
def ffresh_K0:List Key:=[.tmp 1,.tmp 2,.tmp 4,.tmp 9,.tmp 16,.tmp 17,.box 4]
def Ybw (x:FBook)(m:Mp)(th:List (List Int))(wr:List Int)(plan:List Work)(s d:Int)(k c:Int)(i:Nat):List (Key×Val) :=
 [(.tmp 2,.d (D.I s)),
  (.tmp 3,.d (D.I d)),
  (.tmp 4,.d (D.ptr 4 0)),
  (.tmp 9,.d (.I k)),
  (.tmp 10,.d (.I c)),
  (.tmp 13,.d (D.sl false E.work plan)),
  (.tmp 14,.d (D.I ((List.length plan:Int)))),
  (.tmp 15,.d (.I i)),
  (.box 4,.bx (some (Box.mk false (cellsOf (fbkD x m th wr)))))]
def Ygs:List Key:=[.tmp 2,.tmp 3,.tmp 4,.tmp 9,.tmp 10,.tmp 13,.tmp 14,.tmp 15,.box 4]
def fsum_S0 (xs:List Int)(n:Int)(i:Nat):List (Key×Val) :=
 [(.tmp 3,.d (.I n)),
  (.tmp 6,.d (D.sl false E.int xs)),
  (.tmp 7,.d (D.I ((List.length xs:Int)))),
  (.tmp 8,.d (.I i))]
def fsum_K0:List Key:=[.tmp 3,.tmp 6,.tmp 7,.tmp 8]
def Yf2 (x:FBook)(m:Mp)(th:List (List Int))(wr:List Int)(plan:List Work)(y:Int)(r:List Int)(i:Nat):List (Key×Val) :=
 [(.tmp 2,.d (D.ptr 2 0)),
  (.tmp 5,.d (.own 23 (y::r).length)),
  (.tmp 8,.d (D.sl false E.work plan)),
  (.tmp 9,.d (D.I ((List.length plan:Int)))),
  (.tmp 10,.d (.I i)),
  (.box 2,.bx (some (Box.mk false (cellsOf (fbkD x m th wr))))),
  (.obj 23,.ob (some ⟨.int,y::r⟩))]
def feetB_K0:List Key:=[.tmp 2,.tmp 5,.tmp 8,.tmp 9,.tmp 10,.box 2,.obj 23]
def Ye2 (x:FBook)(m:Mp)(th:List (List Int))(wr:List Int)(plan:List Work)(i:Nat):List (Key×Val) :=
 [(.tmp 2,.d (D.ptr 2 0)),
  (.tmp 5,.d (D.sl true E.int [])),
  (.tmp 8,.d (D.sl false E.work plan)),
  (.tmp 9,.d (D.I ((List.length plan:Int)))),
  (.tmp 10,.d (.I i)),
  (.box 2,.bx (some (Box.mk false (cellsOf (fbkD x m th wr))))),
  (.obj 23,.ob none)]
def feetA_K0:List Key:=[.tmp 2,.tmp 5,.tmp 8,.tmp 9,.tmp 10,.box 2,.obj 23]
def Yeq (x:FBook)(m:Mp)(th:List (List Int))(wr:List Int)(plan:List Work)(n:Int)(i:Nat):List (Key×Val) :=
 [(.tmp 1,.d (D.sl false E.work plan)),
  (.tmp 2,.d (D.ptr 2 0)),
  (.tmp 5,.d (.I n)),
  (.tmp 8,.d (D.sl false E.work plan)),
  (.tmp 9,.d (D.I ((List.length plan:Int)))),
  (.tmp 10,.d (.I i)),
  (.box 2,.bx (some (Box.mk false (cellsOf (fbkD x m th wr)))))]
def fneeds_K0:List Key:=[.tmp 1,.tmp 2,.tmp 5,.tmp 8,.tmp 9,.tmp 10,.box 2]
def Ybu (x:FBook)(l:List (K2×Bool))(th:List (List Int))(wr:List Int)(plan:List Work)(la:Work)(i:Nat):List (Key×Val) :=
 [(.tmp 2,.d (D.ptr 2 0)),
  (.tmp 5,.d (D.ptr 5 0)),
  (.tmp 9,.d (D.sl false E.work plan)),
  (.tmp 10,.d (D.I ((List.length plan:Int)))),
  (.tmp 11,.d (.I i)),
  (.box 2,.bx (some (Box.mk false (cellsOf (fbkD x (Mp.work l) th wr))))),
  (.box 5,.bx (some ⟨false,E.enc .work la⟩))]
def Ygq:List Key:=[.tmp 2,.tmp 5,.tmp 9,.tmp 10,.tmp 11,.box 2,.box 5]
def Yc9 (x:FBook)(m:Mp)(th:List (List Int))(wr:List Int)(plan:List Work)(i:Nat):List (Key×Val) :=
 [(.tmp 1,.d (D.sl false E.work plan)),
  (.tmp 2,.d (D.ptr 2 0)),
  (.tmp 13,.d (D.I (Book.days (FBook.chain x)+(1:Int)))),
  (.tmp 14,.d (.I i)),
  (.box 2,.bx (some (Box.mk false (cellsOf (fbkD x m th wr)))))]
def fthin_K0:List Key:=[.tmp 1,.tmp 2,.tmp 13,.tmp 14,.box 2]
def Ydh (x:FBook)(m:Mp)(th:List (List Int))(wr:List Int)(plan:List Work)(i j:Nat):List (Key×Val) :=
 [(.tmp 1,.d (D.sl false E.work plan)),
  (.tmp 2,.d (D.ptr 2 0)),
  (.tmp 7,.d (.I i)),
  (.tmp 13,.d (D.I (Book.days (FBook.chain x)+(1:Int)))),
  (.tmp 14,.d (.I i)),
  (.tmp 20,.d (D.I ((List.length (FBook.feet x):Int)))),
  (.tmp 21,.d (.I j)),
  (.box 2,.bx (some (Box.mk false (cellsOf (fbkD x m th wr)))))]
def fthin_K2:List Key:=[.tmp 1,.tmp 2,.tmp 7,.tmp 13,.tmp 14,.tmp 20,.tmp 21,.box 2]
def Ygd (x:FBook)(l:List (K2×Bool))(th:List (List Int))(wr:List Int)(plan:List Work)(la:Work)(i:Nat)  : List (Key×Val) :=
 [(.tmp 2,.d (D.ptr 2 0)),(.tmp 5,.d (D.ptr 5 0)),(.tmp 9,.d (D.sl false E.work plan)),(.tmp 10,.d (D.I ((List.length plan:Int)))),(.tmp 11,.d (D.I (i:Int))),(.box 2,.bx (some (Box.mk false (cellsOf (fbkD x (Mp.work l) th wr))))),(.box 5,.bx (some (Box.mk false [D.I (Work.d la),D.I (Work.s la)]))),(.tmp 4,.d (D.bool false))]
def Yhg (x:FBook)(l:List (K2×Bool))(th:List (List Int))(wr:List Int)(plan:List Work)(la:Work)(i:Nat)(c:Int):List (Key×Val) :=
 [(.tmp 2,.d (D.ptr 2 0)),(.tmp 5,.d (D.ptr 5 0)),(.tmp 9,.d (D.sl false E.work plan)),(.tmp 10,.d (D.I ((List.length plan:Int)))),(.tmp 11,.d (D.I (i:Int))),(.box 2,.bx (some (Box.mk false (cellsOf (fbkD x (Mp.work l) th wr))))),(.box 5,.bx (some (Box.mk false [D.I (Work.d la),D.I (Work.s la)]))),(.tmp 4,.d (D.bool false))]
def fthin_T2_hit (x:FBook)(m:Mp)(th:List (List Int))(wr:List Int)(plan:List Work)(i j:Nat)(v:Int):List (Key×Val) :=
 [(.tmp 1,.d (D.sl false E.work plan)),(.tmp 2,.d (D.ptr 2 0)),(.tmp 7,.d (D.I (i:Int))),(.tmp 13,.d (D.I (Book.days (FBook.chain x)+(1:Int)))),(.tmp 14,.d (D.I (i:Int))),(.tmp 20,.d (D.I ((List.length (FBook.feet x):Int)))),(.tmp 21,.d (D.I (j:Int))),(.box 2,.bx (some (Box.mk false (cellsOf (fbkD x m th wr))))),(.tmp 4,.d (D.I (i:Int))),(.tmp 5,.d (D.I (j:Int))),(.tmp 6,.d (D.bool true))]
def fthin_T0_hit (x:FBook)(m:Mp)(th:List (List Int))(wr:List Int)(plan:List Work)(i:Nat)(j:Nat)(v:Int):List (Key×Val) :=
 [(.tmp 1,.d (D.sl false E.work plan)),(.tmp 2,.d (D.ptr 2 0)),(.tmp 13,.d (D.I (Book.days (FBook.chain x)+(1:Int)))),(.tmp 14,.d (D.I (i:Int))),(.box 2,.bx (some (Box.mk false (cellsOf (fbkD x m th wr))))),(.tmp 4,.d (D.I (i:Int))),(.tmp 5,.d (D.I (j:Int))),(.tmp 6,.d (D.bool true))]
theorem fplace_0_yes (x:FBook)(m:Mp)(th:List (List Int))(wr:List Int)(s d:Int)(p:Int)(i:Nat) :
  runK (MF 30) [(15,true),(20,true)] [] [] (k_175 [1,0,1,0,0]) (Ydd x m th wr s d p i) fplace_K0 =
   some ([decide ((i:Int)<(x.chain.turns.length:Int))=true,(0:Int)≤(i:Int)∧(i:Int)<(x.chain.turns.length:Int),0+1≤1,decide (List.getD x.chain.turns (i) (0:Int)≤d)=true,Yae ((x.feet.length:Int)-(1:Int)),Yae ((x.feet.length:Int)-(1:Int)-p),Yae ((i:Int)+(1:Int))],Ex.normal,Ydd x m th wr s d (x.feet.length-1-p) (i+1)):=by kernel_rfl
theorem fplace_0_no (x:FBook)(m:Mp)(th:List (List Int))(wr:List Int)(s d:Int)(p:Int)(i:Nat) :
  runK (MF 30) [(15,true),(20,false)] [] [] (k_175 [1,0,1,0,0]) (Ydd x m th wr s d p i) fplace_K0 =
   some ([decide ((i:Int)<(x.chain.turns.length:Int))=true,(0:Int)≤(i:Int)∧(i:Int)<(x.chain.turns.length:Int),0+1≤1,decide (List.getD x.chain.turns (i) (0:Int)≤d)=false,Yae ((i:Int)+(1:Int))],Ex.normal,Ydd x m th wr s d p (i+1)):=by kernel_rfl
theorem fplace_0_end (x:FBook)(m:Mp)(th:List (List Int))(wr:List Int)(s d:Int)(p:Int)(i:Nat) :
  runK (MF 30) [(15,false)] [] [] (k_175 [1,0,1,0,0]) (Ydd x m th wr s d p i) fplace_K0 =
   some ([decide ((i:Int)<(x.chain.turns.length:Int))=false],Ex.exit 0,Ydd x m th wr s d p i):=by kernel_rfl
theorem ffresh_0_on (x:FBook)(m:Mp)(th:List (List Int))(wr:List Int)(s c d:Int)(n:Int)(i:Nat)(p:Int) :
  runK (MF 34) [(18,true)] [(28,.I p)] [] (k_174 [1,1,0,1,0,0]) (Yer x m th wr s c d n i) ffresh_K0 =
   some ([decide ((i:Int)<d-c)=true,Yae (c+(i:Int)),CF 175 [fbkD x m th wr,D.I s,D.I (c+(i:Int))] (D.I p),(0:Int)≤p∧p<(wr.length:Int),0+1≤1,Yae (n-List.getD wr (Int.toNat p) (0:Int)),Yae ((i:Int)+(1:Int))],Ex.normal,Yer x m th wr s c d (n-wr.getD p.toNat 0) (i+1)):=by kernel_rfl
theorem ffresh_0_end (x:FBook)(m:Mp)(th:List (List Int))(wr:List Int)(s c d:Int)(n:Int)(i:Nat) :
  runK (MF 34) [(18,false)] [] [] (k_174 [1,1,0,1,0,0]) (Yer x m th wr s c d n i) ffresh_K0 =
   some ([decide ((i:Int)<d-c)=false],Ex.exit 0,Yer x m th wr s c d n i):=by kernel_rfl
theorem fleast_0_yes (x:FBook)(m:Mp)(th:List (List Int))(wr:List Int)(plan:List Work)(s d:Int)(k c:Int)(i:Nat) :
  runK (MF 40) [(16,true),(23,true),(28,true)] [] [] (k_48 [1,1,0,1,0,0]) (Ybw x m th wr plan s d k c i) Ygs =
   let Z0:=Work.s (List.getD plan (i) Yak)==s;some ([decide ((i:Int)<(plan.length:Int))=true,(0:Int)≤(i:Int)∧(i:Int)<(plan.length:Int),0+2≤2,0+1+1≤2,Z0=true,Z0=true,0+0+1≤2,Z0=true,Z0=true,Z0=true,decide (Work.d (List.getD plan (i) Yak)≤d)=true,0+0+1≤2,Yae ((i:Int)+(1:Int))],Ex.normal,Ybw x m th wr plan s d 1 (plan.getD i Yak).d (i+1)):=by kernel_rfl
theorem fleast_0_no1 (x:FBook)(m:Mp)(th:List (List Int))(wr:List Int)(plan:List Work)(s d:Int)(k c:Int)(i:Nat) :
  runK (MF 40) [(16,true),(23,false)] [] [] (k_48 [1,1,0,1,0,0]) (Ybw x m th wr plan s d k c i) Ygs =
   let Z0:=Work.s (List.getD plan (i) Yak)==s;some ([decide ((i:Int)<(plan.length:Int))=true,(0:Int)≤(i:Int)∧(i:Int)<(plan.length:Int),0+2≤2,0+1+1≤2,Z0=false,Z0=false,Z0=false,Z0=false,Z0=false,Yae ((i:Int)+(1:Int))],Ex.normal,Ybw x m th wr plan s d k c (i+1)):=by kernel_rfl
theorem fleast_0_no2 (x:FBook)(m:Mp)(th:List (List Int))(wr:List Int)(plan:List Work)(s d:Int)(k c:Int)(i:Nat) :
  runK (MF 40) [(16,true),(23,true),(28,false)] [] [] (k_48 [1,1,0,1,0,0]) (Ybw x m th wr plan s d k c i) Ygs =
   let Z0:=Work.s (List.getD plan (i) Yak)==s;some ([decide ((i:Int)<(plan.length:Int))=true,(0:Int)≤(i:Int)∧(i:Int)<(plan.length:Int),0+2≤2,0+1+1≤2,Z0=true,Z0=true,0+0+1≤2,Z0=true,Z0=true,Z0=true,decide (Work.d (List.getD plan (i) Yak)≤d)=false,Yae ((i:Int)+(1:Int))],Ex.normal,Ybw x m th wr plan s d k c (i+1)):=by kernel_rfl
theorem fleast_0_end (x:FBook)(m:Mp)(th:List (List Int))(wr:List Int)(plan:List Work)(s d:Int)(k c:Int)(i:Nat) :
  runK (MF 40) [(16,false)] [] [] (k_48 [1,1,0,1,0,0]) (Ybw x m th wr plan s d k c i) Ygs =
   some ([decide ((i:Int)<(plan.length:Int))=false],Ex.exit 0,Ybw x m th wr plan s d k c i):=by kernel_rfl
theorem fsum_0_on (xs:List Int)(n:Int)(i:Nat) :
  runK (MF 17) [(9,true)] [] [] (k_93 [1,1,0,1,0,0]) (fsum_S0 xs n i) fsum_K0 =
   some ([decide ((i:Int)<(xs.length:Int))=true,(0:Int)≤(i:Int)∧(i:Int)<(xs.length:Int),0+1≤1,Yae (n+List.getD xs (i) (0:Int)),Yae ((i:Int)+(1:Int))],Ex.normal,fsum_S0 xs (n+xs.getD i 0) (i+1)):=by kernel_rfl
theorem fsum_0_end (xs:List Int)(n:Int)(i:Nat) :
  runK (MF 17) [(9,false)] [] [] (k_93 [1,1,0,1,0,0]) (fsum_S0 xs n i) fsum_K0 =
   some ([decide ((i:Int)<(xs.length:Int))=false],Ex.exit 0,fsum_S0 xs n i):=by kernel_rfl
theorem feetB_0_on (x:FBook)(m:Mp)(th:List (List Int))(wr:List Int)(plan:List Work)(y:Int)(r:List Int)(i:Nat) :
  runK (MF 27) [(11,true)] [] [] (k_65 [1,1,0,1,0,0]) (Yf2 x m th wr plan y r i) feetB_K0 =
   let Z0:=List.getD plan (i) Yak;some ([decide ((i:Int)<(plan.length:Int))=true,(0:Int)≤(i:Int)∧(i:Int)<(plan.length:Int),0+2≤2,0+1+1≤2,(0:Int)≤Work.s Z0∧Work.s Z0<(x.feet.length:Int),0+1≤1,(y::r).length=List.length ((y::r)),List.length ((y::r)++[List.getD x.feet (Int.toNat (Work.s Z0)) (0:Int)])*(8+1)≤140737488355328,Yae ((i:Int)+(1:Int))],Ex.normal,Yf2 x m th wr plan y (r++[(x.feet.getD (plan.getD i Yak).s.toNat 0)]) (i+1)):=by kernel_rfl
theorem feetB_0_end (x:FBook)(m:Mp)(th:List (List Int))(wr:List Int)(plan:List Work)(y:Int)(r:List Int)(i:Nat) :
  runK (MF 27) [(11,false)] [] [] (k_65 [1,1,0,1,0,0]) (Yf2 x m th wr plan y r i) feetB_K0 =
   some ([decide ((i:Int)<(plan.length:Int))=false],Ex.exit 0,Yf2 x m th wr plan y r i):=by kernel_rfl
theorem feetA_0_on (x:FBook)(m:Mp)(th:List (List Int))(wr:List Int)(plan:List Work)(i:Nat) :
  runK (MF 27) [(11,true)] [] [] (k_65 [1,1,0,1,0,0]) (Ye2 x m th wr plan i) feetB_K0 =
   let Z0:=List.getD plan (i) Yak;some ([decide ((i:Int)<(plan.length:Int))=true,(0:Int)≤(i:Int)∧(i:Int)<(plan.length:Int),0+2≤2,0+1+1≤2,(0:Int)≤Work.s Z0∧Work.s Z0<(x.feet.length:Int),0+1≤1,1*(8+1)≤140737488355328,Yae ((i:Int)+(1:Int))],Ex.normal,Yf2 x m th wr plan (x.feet.getD (plan.getD i Yak).s.toNat 0) [] (i+1)):=by kernel_rfl
theorem feetA_0_end (x:FBook)(m:Mp)(th:List (List Int))(wr:List Int)(plan:List Work)(i:Nat) :
  runK (MF 27) [(11,false)] [] [] (k_65 [1,1,0,1,0,0]) (Ye2 x m th wr plan i) feetA_K0 =
   some ([decide ((i:Int)<(plan.length:Int))=false],Ex.exit 0,Ye2 x m th wr plan i):=by kernel_rfl
theorem fneeds_0_on (x:FBook)(m:Mp)(th:List (List Int))(wr:List Int)(plan:List Work)(n:Int)(i:Nat)(v:Int) :
  runK (MF 32) [(11,true)] [(21,.I v)] [] (k_67 [1,1,0,1,0,0]) (Yeq x m th wr plan n i) fneeds_K0 =
   let Z0:Prop:=Yae ((i:Int)+(1:Int));let Z1:=List.getD plan (i) Yak;some ([decide ((i:Int)<(plan.length:Int))=true,(0:Int)≤(i:Int)∧(i:Int)<(plan.length:Int),0+2≤2,Z0,(0:Int)≤(0:Int)∧(0:Int)≤(i:Int)+(1:Int)∧(i:Int)+(1:Int)≤(plan.length:Int),CF 65 [fbkD x m th wr,D.sl false E.work (List.drop 0 (List.take (Int.toNat ((i:Int)+(1:Int))) plan))] (D.I v),0+0+1≤2,Yae (x.make*Work.d Z1),Yae (v-x.make*Work.d Z1),Z0],Ex.normal,Yeq x m th wr plan (mx n (v-x.make*(plan.getD i Yak).d)) (i+1)):=by kernel_rfl
theorem fneeds_0_end (x:FBook)(m:Mp)(th:List (List Int))(wr:List Int)(plan:List Work)(n:Int)(i:Nat) :
  runK (MF 32) [(11,false)] [] [] (k_67 [1,1,0,1,0,0]) (Yeq x m th wr plan n i) fneeds_K0 =
   some ([decide ((i:Int)<(plan.length:Int))=false],Ex.exit 0,Yeq x m th wr plan n i):=by kernel_rfl
theorem isPlan_0_none (x:FBook)(l:List (K2×Bool))(th:List (List Int))(wr:List Int)(plan:List Work)(la:Work)(i:Nat) :
  runK (MF 33) [(12,true),(20,true)] [] [] (k_46 [1,1,0,1,0,0]) (Ybu x l th wr plan la i) [.tmp 2,.tmp 5,.tmp 9,.tmp 10,.tmp 11,.box 2,.box 5,.tmp 4] =
   let Z0:=(Work.d (List.getD plan (i) Yak),Work.s (List.getD plan (i) Yak));some ([decide ((i:Int)<(plan.length:Int))=true,(0:Int)≤(i:Int)∧(i:Int)<(plan.length:Int),0+2≤2,0+2≤2,(!Option.getD (Ybf l Z0) false)=true,(!Option.getD (Ybf l Z0) false)=true,(!Option.getD (Ybf l Z0) false)=true,(!Option.getD (Ybf l Z0) false)=true,(!Option.getD (Ybf l Z0) false)=true,(!Option.getD (Ybf l Z0) false)=true],Ex.ret,Ygd x l th wr plan la i ):=by kernel_rfl
theorem isPlan_0_first (x:FBook)(l:List (K2×Bool))(th:List (List Int))(wr:List Int)(plan:List Work)(la:Work)(i:Nat) :
  runK (MF 33) [(12,true),(20,false),(24,false)] [] [] (k_46 [1,1,0,1,0,0]) (Ybu x l th wr plan la i) Ygq =
   let Z0:=(Work.d (List.getD plan (i) Yak),Work.s (List.getD plan (i) Yak));some ([decide ((i:Int)<(plan.length:Int))=true,(0:Int)≤(i:Int)∧(i:Int)<(plan.length:Int),0+2≤2,0+2≤2,(!Option.getD (Ybf l Z0) false)=false,0+2≤2,(!Option.getD (Ybf l Z0) false)=false,0+2≤2,(!Option.getD (Ybf l Z0) false)=false,(!Option.getD (Ybf l Z0) false)=false,(!eqI [la.d,la.s] [-(1:Int),(0:Int)])=false,(!eqI [la.d,la.s] [-(1:Int),(0:Int)])=false,(!eqI [la.d,la.s] [-(1:Int),(0:Int)])=false,(!eqI [la.d,la.s] [-(1:Int),(0:Int)])=false,(!Option.getD (Ybf l Z0) false)=false,(!eqI [la.d,la.s] [-(1:Int),(0:Int)])=false,(!Option.getD (Ybf l Z0) false)=false,0+2≤2,Yae ((i:Int)+(1:Int))],Ex.normal,Ybu x l th wr plan (plan.getD i Yak) (i+1)):=by kernel_rfl
theorem isPlan_0_ok (x:FBook)(l:List (K2×Bool))(th:List (List Int))(wr:List Int)(plan:List Work)(la:Work)(i:Nat)(c:Int) :
  runK (MF 33) [(12,true),(20,false),(24,true),(30,false)] [(27,.I c)] [] (k_46 [1,1,0,1,0,0]) (Ybu x l th wr plan la i) Ygq =
   let Z0:=(Work.d (List.getD plan (i) Yak),Work.s (List.getD plan (i) Yak));let Z1:=List.getD plan (i) Yak;some ([decide ((i:Int)<(plan.length:Int))=true,(0:Int)≤(i:Int)∧(i:Int)<(plan.length:Int),0+2≤2,0+2≤2,(!Option.getD (Ybf l Z0) false)=false,0+2≤2,(!Option.getD (Ybf l Z0) false)=false,0+2≤2,(!Option.getD (Ybf l Z0) false)=false,(!Option.getD (Ybf l Z0) false)=false,(!eqI [la.d,la.s] [-(1:Int),(0:Int)])=true,0+2≤2,(!eqI [la.d,la.s] [-(1:Int),(0:Int)])=true,0+2≤2,(!eqI [la.d,la.s] [-(1:Int),(0:Int)])=true,CF 82 [D.agg [D.I la.d,D.I la.s],D.agg [D.I (Work.d Z1),D.I (Work.s Z1)]] (D.I c),(!eqI [la.d,la.s] [-(1:Int),(0:Int)])=true,(!Option.getD (Ybf l Z0) false)=false,(!eqI [la.d,la.s] [-(1:Int),(0:Int)])=true,(!Option.getD (Ybf l Z0) false)=false,decide (c≥(0:Int))=false,0+2≤2,Yae ((i:Int)+(1:Int))],Ex.normal,Ybu x l th wr plan (plan.getD i Yak) (i+1)):=by kernel_rfl
theorem isPlan_0_bad (x:FBook)(l:List (K2×Bool))(th:List (List Int))(wr:List Int)(plan:List Work)(la:Work)(i:Nat)(c:Int) :
  runK (MF 33) [(12,true),(20,false),(24,true),(30,true)] [(27,.I c)] [] (k_46 [1,1,0,1,0,0]) (Ybu x l th wr plan la i) [.tmp 2,.tmp 5,.tmp 9,.tmp 10,.tmp 11,.box 2,.box 5,.tmp 4] =
   let Z0:=(Work.d (List.getD plan (i) Yak),Work.s (List.getD plan (i) Yak));let Z1:=List.getD plan (i) Yak;some ([decide ((i:Int)<(plan.length:Int))=true,(0:Int)≤(i:Int)∧(i:Int)<(plan.length:Int),0+2≤2,0+2≤2,(!Option.getD (Ybf l Z0) false)=false,0+2≤2,(!Option.getD (Ybf l Z0) false)=false,0+2≤2,(!Option.getD (Ybf l Z0) false)=false,(!Option.getD (Ybf l Z0) false)=false,(!eqI [la.d,la.s] [-(1:Int),(0:Int)])=true,0+2≤2,(!eqI [la.d,la.s] [-(1:Int),(0:Int)])=true,0+2≤2,(!eqI [la.d,la.s] [-(1:Int),(0:Int)])=true,CF 82 [D.agg [D.I la.d,D.I la.s],D.agg [D.I (Work.d Z1),D.I (Work.s Z1)]] (D.I c),(!eqI [la.d,la.s] [-(1:Int),(0:Int)])=true,(!Option.getD (Ybf l Z0) false)=false,(!eqI [la.d,la.s] [-(1:Int),(0:Int)])=true,(!Option.getD (Ybf l Z0) false)=false,decide (c≥(0:Int))=true],Ex.ret,Yhg x l th wr plan la i c):=by kernel_rfl
theorem isPlan_0_end (x:FBook)(l:List (K2×Bool))(th:List (List Int))(wr:List Int)(plan:List Work)(la:Work)(i:Nat) :
  runK (MF 33) [(12,false)] [] [] (k_46 [1,1,0,1,0,0]) (Ybu x l th wr plan la i) Ygq =
   some ([decide ((i:Int)<(plan.length:Int))=false],Ex.exit 0,Ybu x l th wr plan la i):=by kernel_rfl
theorem fthin_0_on (x:FBook)(m:Mp)(th:List (List Int))(wr:List Int)(plan:List Work)(i:Nat)(j:Nat) :
  runK (MF 38) [(15,true)] [] [(2,(fthin_K2,(.normal,Ydh x m th wr plan i j)))] (k_60 [1,0,1,0,0]) (Yc9 x m th wr plan i) fthin_K0 =
   some ([decide ((i:Int)<x.chain.days+(1:Int))=true,LF 38 (k_60 [1,0,1,0,0,1,1,0,0,1,1]) (Ydh x m th wr plan i 0) Ex.normal (Ydh x m th wr plan i j),Yae ((i:Int)+(1:Int))],Ex.normal,Yc9 x m th wr plan (i+1)):=by kernel_rfl
theorem fthin_0_hit (x:FBook)(m:Mp)(th:List (List Int))(wr:List Int)(plan:List Work)(i:Nat)(j:Nat)(v:Int) :
  runK (MF 38) [(15,true)] [] [(2,(fthin_K2,(.ret,fthin_T2_hit x m th wr plan i j v)))] (k_60 [1,0,1,0,0]) (Yc9 x m th wr plan i) [.tmp 1,.tmp 2,.tmp 13,.tmp 14,.box 2,.tmp 4,.tmp 5,.tmp 6] =
   some ([decide ((i:Int)<x.chain.days+(1:Int))=true,LF 38 (k_60 [1,0,1,0,0,1,1,0,0,1,1]) (Ydh x m th wr plan i 0) Ex.ret (fthin_T2_hit x m th wr plan i j v)],Ex.ret,fthin_T0_hit x m th wr plan i j v):=by kernel_rfl
theorem fthin_0_end (x:FBook)(m:Mp)(th:List (List Int))(wr:List Int)(plan:List Work)(i:Nat) :
  runK (MF 38) [(15,false)] [] [] (k_60 [1,0,1,0,0]) (Yc9 x m th wr plan i) fthin_K0 =
   some ([decide ((i:Int)<x.chain.days+(1:Int))=false],Ex.exit 0,Yc9 x m th wr plan i):=by kernel_rfl
theorem fthin_2_on (x:FBook)(m:Mp)(th:List (List Int))(wr:List Int)(plan:List Work)(i j:Nat)(v:Int) :
  runK (MF 38) [(22,true),(33,false)] [(28,.I v)] [] (k_60 [1,0,1,0,0,1,1,0,0,1,1,0,0]) (Ydh x m th wr plan i j) fthin_K2 =
   some ([decide ((j:Int)<(x.feet.length:Int))=true,CF 48 [fbkD x m th wr,D.sl false E.work plan,D.I (j:Int),D.I (i:Int)] (D.I v),decide (v<x.chain.rule)=false,Yae ((j:Int)+(1:Int))],Ex.normal,Ydh x m th wr plan i (j+1)):=by kernel_rfl
theorem fthin_2_hit (x:FBook)(m:Mp)(th:List (List Int))(wr:List Int)(plan:List Work)(i j:Nat)(v:Int) :
  runK (MF 38) [(22,true),(33,true)] [(28,.I v)] [] (k_60 [1,0,1,0,0,1,1,0,0,1,1,0,0]) (Ydh x m th wr plan i j) [.tmp 1,.tmp 2,.tmp 7,.tmp 13,.tmp 14,.tmp 20,.tmp 21,.box 2,.tmp 4,.tmp 5,.tmp 6] =
   some ([decide ((j:Int)<(x.feet.length:Int))=true,CF 48 [fbkD x m th wr,D.sl false E.work plan,D.I (j:Int),D.I (i:Int)] (D.I v),decide (v<x.chain.rule)=true],Ex.ret,fthin_T2_hit x m th wr plan i j v):=by kernel_rfl
theorem fthin_2_end (x:FBook)(m:Mp)(th:List (List Int))(wr:List Int)(plan:List Work)(i j:Nat) :
  runK (MF 38) [(22,false)] [] [] (k_60 [1,0,1,0,0,1,1,0,0,1,1,0,0]) (Ydh x m th wr plan i j) fthin_K2 =
   some ([decide ((j:Int)<(x.feet.length:Int))=false],Ex.exit 2,Ydh x m th wr plan i j):=by kernel_rfl
theorem fwithin_no (n lo hi:Int) :
  Yai (MF 15) [(10,false)] [] [] (body Tryz.f47) [.tmp 6] [.I n,.I lo,.I hi] =
   let Z0:Prop:=decide (lo≤n)=false;some ([Z0,Z0,Z0,Z0],D.bool false):=by kernel_rfl
theorem fwithin_yes (n lo hi:Int) :
  Yai (MF 15) [(10,true)] [] [] (body Tryz.f47) [.tmp 6] [.I n,.I lo,.I hi] =
   let Z0:Prop:=decide (lo≤n)=true;some ([Z0,Z0,Z0,Z0],D.bool (decide (n≤hi))):=by kernel_rfl
theorem fnever_all  :
  Yai (MF 3) [] [] [] (body Tryz.f101) [.cell 0 129] [] =
   some ([0+4≤4,0+4≤4],D.agg [D.I 0,D.I 0,D.I 0,D.I 0]):=by kernel_rfl
theorem fcompare_ne (a b:Work) :
  Yai (MF 20) [(9,true)] [] [] (body Tryz.f82) [.tmp 4] [wkD a,wkD b] =
   let Z0:Prop:=0+0+1≤2;some ([Z0,Z0,(a.d != b.d)=true,Z0,Z0,Yae (a.d-b.d)],D.I (a.d-b.d)):=by kernel_rfl
theorem fcompare_eq (a b:Work) :
  Yai (MF 20) [(9,false)] [] [] (body Tryz.f82) [.tmp 4] [wkD a,wkD b] =
   some ([0+0+1≤2,0+0+1≤2,(a.d != b.d)=false,0+1+1≤2,0+1+1≤2,Yae (a.s-b.s)],D.I (a.s-b.s)):=by kernel_rfl
theorem fplace_all (x:FBook)(m:Mp)(th:List (List Int))(wr:List Int)(s d:Int)(p:Int)(i:Nat) :
  Yai (MF 30) [] [] [(0,(fplace_K0,(.normal,Ydd x m th wr s d p i)))] (body Tryz.f175) [.tmp 6] [fbkD x m th wr,.I s,.I d] =
   some ([LF 30 (k_175 [1,0,1]) (Ydd x m th wr s d s 0) Ex.normal (Ydd x m th wr s d p i)],D.I p):=by kernel_rfl
theorem fold_all (x:FBook)(m:Mp)(th:List (List Int))(wr:List Int)(s c d:Int) :
  Yai (MF 17) [] [] [] (body Tryz.f173) [.tmp 8] [fbkD x m th wr,.I s,.I c,.I d] =
   let Z0:=List.getD th (Int.toNat s) (E.z (E.list E.int));some ([(0:Int)≤s∧s<(th.length:Int),(0:Int)≤d∧d<(Nat.cast:Nat→Int) (List.length Z0),0+1≤1],D.I (List.getD Z0 (Int.toNat d) (0:Int))):=by kernel_rfl
theorem ffresh_all (x:FBook)(m:Mp)(th:List (List Int))(wr:List Int)(s c d:Int)(n:Int)(i:Nat) :
  Yai (MF 34) [] [] [(0,(ffresh_K0,(.normal,Yer x m th wr s c d n i)))] (body Tryz.f174) [.tmp 8] [fbkD x m th wr,.I s,.I c,.I d] =
   some ([Yae (d-c),LF 34 (k_174 [1,1,0,1]) (Yer x m th wr s c d x.new 0) Ex.normal (Yer x m th wr s c d n i)],D.I n):=by kernel_rfl
theorem fleast_old (x:FBook)(m:Mp)(th:List (List Int))(wr:List Int)(plan:List Work)(s d:Int)(v c:Int)(i:Nat) :
  Yai (MF 40) [] [(39,.I v)] [(0,(Ygs,(.normal,Ybw x m th wr plan s d 0 c i)))] (body Tryz.f48) [.tmp 8] [fbkD x m th wr,.sl false .work plan,.I s,.I d] =
   some ([LF 40 (k_48 [1,1,0,1]) (Ybw x m th wr plan s d 0 0 0) Ex.normal (Ybw x m th wr plan s d (0:Int) c i),(0:Int)≤(0:Int)∧(0:Int)<(Nat.cast:Nat→Int) 2,CF 173 [fbkD x m th wr,D.I s,D.I c,D.I d] (D.I v)],D.I v):=by kernel_rfl
theorem fleast_new (x:FBook)(m:Mp)(th:List (List Int))(wr:List Int)(plan:List Work)(s d:Int)(v c:Int)(i:Nat) :
  Yai (MF 40) [] [(39,.I v)] [(0,(Ygs,(.normal,Ybw x m th wr plan s d 1 c i)))] (body Tryz.f48) [.tmp 8] [fbkD x m th wr,.sl false .work plan,.I s,.I d] =
   some ([LF 40 (k_48 [1,1,0,1]) (Ybw x m th wr plan s d 0 0 0) Ex.normal (Ybw x m th wr plan s d (1:Int) c i),(0:Int)≤(1:Int)∧(1:Int)<(Nat.cast:Nat→Int) 2,CF 174 [fbkD x m th wr,D.I s,D.I c,D.I d] (D.I v)],D.I v):=by kernel_rfl
theorem fsum_all (xs:List Int)(n:Int)(i:Nat) :
  Yai (MF 17) [] [] [(0,(fsum_K0,(.normal,fsum_S0 xs n i)))] (body Tryz.f93) [.tmp 2] [.sl false .int xs] =
   some ([LF 17 (k_93 [1,1,0,1]) (fsum_S0 xs 0 0) Ex.normal (fsum_S0 xs n i)],D.I n):=by kernel_rfl
theorem feetA_none (x:FBook)(m:Mp)(th:List (List Int))(wr:List Int)(plan:List Work)(n:Int)(i:Nat) :
  Yai (MF 27) [] [(26,.I n)] [(0,(feetA_K0,(.normal,Ye2 x m th wr plan i)))] (body Tryz.f65) [.tmp 4] [fbkD x m th wr,.sl false .work plan] =
   some ([LF 27 (k_65 [1,1,0,1]) (Ye2 x m th wr plan 0) Ex.normal (Ye2 x m th wr plan i),CF 93 [D.sl false E.int []] (D.I n)],D.I n):=by kernel_rfl
theorem feetA_some (x:FBook)(m:Mp)(th:List (List Int))(wr:List Int)(plan:List Work)(n:Int)(i:Nat)(y:Int)(r:List Int) :
  Yai (MF 27) [] [(26,.I n)] [(0,(feetA_K0,(.normal,Yf2 x m th wr plan y r i)))] (body Tryz.f65) [.tmp 4] [fbkD x m th wr,.sl false .work plan] =
   some ([LF 27 (k_65 [1,1,0,1]) (Ye2 x m th wr plan 0) Ex.normal (Yf2 x m th wr plan y r i),(y::r).length=List.length ((y::r)),CF 93 [D.sl false E.int ((y::r))] (D.I n)],D.I n):=by kernel_rfl
theorem fneeds_all (x:FBook)(m:Mp)(th:List (List Int))(wr:List Int)(plan:List Work)(n:Int)(i:Nat) :
  Yai (MF 32) [] [] [(0,(fneeds_K0,(.normal,Yeq x m th wr plan n i)))] (body Tryz.f67) [.tmp 4] [fbkD x m th wr,.sl false .work plan] =
   some ([LF 32 (k_67 [1,1,0,1]) (Yeq x m th wr plan 0 0) Ex.normal (Yeq x m th wr plan n i)],D.I n):=by kernel_rfl
theorem fgood_all (x:FBook)(m:Mp)(th:List (List Int))(wr:List Int)(plan:List Work)(n:Int) :
  Yai (MF 12) [] [(7,.I n)] [] (body Tryz.f95) [.tmp 4] [fbkD x m th wr,.sl false .work plan] =
   some ([CF 67 [fbkD x m th wr,D.sl false E.work plan] (D.I n)],D.bool (decide (n≤x.stock))):=by kernel_rfl
theorem isPlan_yes (x:FBook)(l:List (K2×Bool))(th:List (List Int))(wr:List Int)(plan:List Work)(la:Work)(i:Nat) :
  Yai (MF 33) [] [] [(0,(Ygq,(.normal,Ybu x l th wr plan la i)))] (body Tryz.f46) [.tmp 4] [fbkD x (.work l) th wr,.sl false .work plan] =
   some ([0+2≤2,LF 33 (k_46 [1,1,0,1]) [(.tmp 2,.d (D.ptr 2 0)),(.tmp 5,.d (D.ptr 5 0)),(.tmp 9,.d (D.sl false E.work plan)),(.tmp 10,.d (D.I ((plan.length:Int)))),(.tmp 11,.d (D.I 0)),(.box 2,.bx (some (Box.mk false (cellsOf (fbkD x (Mp.work l) th wr))))),(.box 5,.bx (some (Box.mk false [D.I (-(1:Int)),D.I 0])))] Ex.normal (Ybu x l th wr plan la i)],D.bool true):=by kernel_rfl
theorem isPlan_none (x:FBook)(l:List (K2×Bool))(th:List (List Int))(wr:List Int)(plan:List Work)(la:Work)(i:Nat) :
  Yai (MF 33) [] [] [(0,(Ygq,(.ret,Ygd x l th wr plan la i)))] (body Tryz.f46) [.tmp 4] [fbkD x (.work l) th wr,.sl false .work plan] =
   some ([0+2≤2,LF 33 (k_46 [1,1,0,1]) [(.tmp 2,.d (D.ptr 2 0)),(.tmp 5,.d (D.ptr 5 0)),(.tmp 9,.d (D.sl false E.work plan)),(.tmp 10,.d (D.I ((plan.length:Int)))),(.tmp 11,.d (D.I 0)),(.box 2,.bx (some (Box.mk false (cellsOf (fbkD x (Mp.work l) th wr))))),(.box 5,.bx (some (Box.mk false [D.I (-(1:Int)),D.I 0])))] Ex.ret (Ygd x l th wr plan la i)],D.bool false):=by kernel_rfl
theorem isPlan_bad (x:FBook)(l:List (K2×Bool))(th:List (List Int))(wr:List Int)(plan:List Work)(la:Work)(i:Nat)(c:Int) :
  Yai (MF 33) [] [] [(0,(Ygq,(.ret,Yhg x l th wr plan la i c)))] (body Tryz.f46) [.tmp 4] [fbkD x (.work l) th wr,.sl false .work plan] =
   some ([0+2≤2,LF 33 (k_46 [1,1,0,1]) [(.tmp 2,.d (D.ptr 2 0)),(.tmp 5,.d (D.ptr 5 0)),(.tmp 9,.d (D.sl false E.work plan)),(.tmp 10,.d (D.I ((plan.length:Int)))),(.tmp 11,.d (D.I 0)),(.box 2,.bx (some (Box.mk false (cellsOf (fbkD x (Mp.work l) th wr))))),(.box 5,.bx (some (Box.mk false [D.I (-(1:Int)),D.I 0])))] Ex.ret (Yhg x l th wr plan la i c)],D.bool false):=by kernel_rfl
theorem fthin_none (x:FBook)(m:Mp)(th:List (List Int))(wr:List Int)(plan:List Work)(i:Nat) :
  Yai (MF 38) [] [] [(0,(fthin_K0,(.normal,Yc9 x m th wr plan i)))] (body Tryz.f60) [.tmp 4,.tmp 5,.tmp 6] [fbkD x m th wr,.sl false .work plan] =
   some ([Yae (x.chain.days+(1:Int)),LF 38 (k_60 [1,0,1]) (Yc9 x m th wr plan 0) Ex.normal (Yc9 x m th wr plan i)],D.tup [D.I 0,D.I 0,D.bool false]):=by kernel_rfl
theorem fthin_hit (x:FBook)(m:Mp)(th:List (List Int))(wr:List Int)(plan:List Work)(i j:Nat)(v:Int) :
  Yai (MF 38) [] [] [(0,(fthin_K0,(.ret,fthin_T0_hit x m th wr plan i j v)))] (body Tryz.f60) [.tmp 4,.tmp 5,.tmp 6] [fbkD x m th wr,.sl false .work plan] =
   some ([Yae (x.chain.days+(1:Int)),LF 38 (k_60 [1,0,1]) (Yc9 x m th wr plan 0) Ex.ret (fthin_T0_hit x m th wr plan i j v)],D.tup [D.I (i:Int),D.I (j:Int),D.bool true]):=by kernel_rfl
end Go.Di

