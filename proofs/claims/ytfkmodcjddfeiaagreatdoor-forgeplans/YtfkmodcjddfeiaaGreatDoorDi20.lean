/- Part 20: contracts are proved. No condition. -/
import Derived.Test.YtfkmodcjddfeiaaGreatDoorDi19
set_option linter.unusedVariables false
set_option linter.unusedSimpArgs false
namespace Go.Di
open Proofs
structure Room (b:Book):Prop where
 secs:b.secs.length*32<=140737488355328
 turns:b.turns.length*8<=140737488355328
 svs:b.svs.length*32<=140737488355328
theorem Zzk (xs:List Sec)(h:xs.length*32<=140737488355328):Contract PR glob 42 [.z .sec xs] (.z .sec xs):=by
 refine(Yaa (G 7) Xey (Zzl xs) ?_).toWeak;have h1:xs.length*32<=140737488355328/\xs.length<=140737488355328:=⟨h,by omega⟩
 repeat(first|exact trivial|refine⟨by first|exact h1|rfl|omega,?_⟩)
theorem Yvk (xs:LI)(h:xs.length*8<=140737488355328):Contract PR glob 15 [.z .int xs] (.z .int xs):=by
 refine(Yaa (G 7) Xez (Zzm xs) ?_).toWeak;have h1:xs.length*8<=140737488355328/\xs.length<=140737488355328:=⟨h,by omega⟩
 repeat(first|exact trivial|refine⟨by first|exact h1|rfl|omega,?_⟩)
theorem Xew (xs:List Sv)(h:xs.length*32<=140737488355328):Contract PR glob 43 [.z .sv xs] (.z .sv xs):=by
 refine(Yaa (G 7) Xh0 (Xex xs) ?_).toWeak;have h1:xs.length*32<=140737488355328/\xs.length<=140737488355328:=⟨h,by omega⟩
 repeat(first|exact trivial|refine⟨by first|exact h1|rfl|omega,?_⟩)
theorem Zle {b:Book}(hr:Room b):Contract PR glob 14 [Yah b] (Yah b):=by
 have c1:=Zzk b.secs hr.secs;have c2:=Yvk b.turns hr.turns;have c3:=Xew b.svs hr.svs;refine Yaa (G 16) Zs2 (Zlf b) ?_
 repeat(first|exact trivial|refine⟨by first|exact c1|exact c2|exact c3|rfl|omega,?_⟩)
theorem Ywi:∀ l:LI,eqI l l=true
 | []=>rfl
 | x::l=>by simp[eqI,Ywi l]
theorem Xad (xs:List Sec)(hl:xs.length<=9223372036854775807):Contract PR glob 61 [.z .sec xs,.z .sec xs] (.bool true):=by
 have hloop:LoopT PR glob 31 (k_61 [1,1,0,1]) (Ygi xs true 0) .normal (Ygi xs true xs.length):=by
  refine LoopT.count (tt:=Yac types) (id:=0) (c:=k_61 [1,1,0,1,0,0]) (by kernel_rfl) xs.length (fun i=>Ygi xs true i) (fun i hi=>?_) (WpL.path (G 31) (Zlt xs true _) ⟨rfl,rfl,rfl,rfl,rfl,decide_eq_false (Int.lt_irrefl _),trivial⟩ ⟨.inl ⟨rfl,rfl⟩,rfl⟩);have hlt:decide ((i:Int)<xs.length)=true:=decide_eq_true (by omega);have hi64:Yae ((i:Int)+1):=by simp only[Yae];omega
  refine WpL.path (G 31) (Ztt xs true i) ?_ ⟨rfl,by unfold Ygi;rw[Ywi];rfl⟩
  repeat(first|exact trivial|refine⟨by first|exact hlt|exact hi64|rfl|omega|simp,?_⟩)
 have hany:∀ ok,ok=true->LoopT PR glob 31 (k_61 [1,1,0,1]) (Ygi xs ok 0) .normal (Ygi xs true xs.length):=by rintro _ rfl;exact hloop
 have hb:((xs.length:Int)==xs.length)=true:=by simp
 refine Yaa (G 31) Xfp (Xae xs xs.length) ?_
 repeat(first|exact trivial|refine⟨by first|exact hany _ hb|rfl|omega|simp,?_⟩)
theorem Xfn (xs:List Sv)(hl:xs.length<=9223372036854775807):Contract PR glob 62 [.z .sv xs,.z .sv xs] (.bool true):=by
 have hloop:LoopT PR glob 31 (k_62 [1,1,0,1]) (Yjn xs true 0) .normal (Yjn xs true xs.length):=by
  refine LoopT.count (tt:=Yac types) (id:=0) (c:=k_62 [1,1,0,1,0,0]) (by kernel_rfl) xs.length (fun i=>Yjn xs true i) (fun i hi=>?_) (WpL.path (G 31) (Zts xs true _) ⟨rfl,rfl,rfl,rfl,rfl,decide_eq_false (Int.lt_irrefl _),trivial⟩ ⟨.inl ⟨rfl,rfl⟩,rfl⟩);have hlt:decide ((i:Int)<xs.length)=true:=decide_eq_true (by omega);have hi64:Yae ((i:Int)+1):=by simp only[Yae];omega
  refine WpL.path (G 31) (Xac xs true i) ?_ ⟨rfl,by unfold Yjn;rw[Ywi];rfl⟩
  repeat(first|exact trivial|refine⟨by first|exact hlt|exact hi64|rfl|omega|simp,?_⟩)
 have hany:∀ ok,ok=true->LoopT PR glob 31 (k_62 [1,1,0,1]) (Yjn xs ok 0) .normal (Yjn xs true xs.length):=by rintro _ rfl;exact hloop
 have hb:((xs.length:Int)==xs.length)=true:=by simp
 refine Yaa (G 31) Xih (Xfo xs xs.length) ?_
 repeat(first|exact trivial|refine⟨by first|exact hany _ hb|rfl|omega|simp,?_⟩)
theorem Zlu {b:Book}(hs:Small b):Contract PR glob 24 [Yah b,Yah b] (.bool true):=by
 have c1:=Xad b.secs hs.secs;have c2:=Yr5 b.turns b.turns hs.turns;have c3:=Xfn b.svs hs.svs;rw[decide_eq_true rfl]at c2;have e1:(b.rule==b.rule)=true:=by simp
 have e2:(b.days==b.days)=true:=by simp
 rw[<-e2];refine Yaa (G 38) Ztu (Zlv b) ?_
 repeat(first|exact trivial|refine⟨by first|exact c1|exact c2|exact c3|exact e1|rfl|omega,?_⟩)
theorem Yv0 {n lo hi:Int}:Ygk n lo hi=Yad n lo hi:=by simp[Ygk,Yad]
theorem Yb9 (n lo hi:Int):Contract PR glob 51 [.I n,.I lo,.I hi] (.bool (Yad n lo hi)):=by
 rw[<-Yv0];exact Ykl n lo hi
theorem Yja (b:Book)(n:Int)(hs:b.secs.length<=9223372036854775807):Contract PR glob 114 [Yah b,.I n] (.bool (Yaf b n)):=by
 have c:=Yb9 n 0 (b.secs.length-1);have h1:Yae ((b.secs.length:Int)-1):=by simp only[Yae];omega
 refine Yaa (G 11) Zct (Yx6 b n) ?_
 repeat(first|exact trivial|refine⟨by first|exact c|exact h1|rfl|omega,?_⟩)
theorem Zgq (b:Book)(n:Int):Contract PR glob 118 [Yah b,.I n] (.bool (Ya3 b n)):=by
 have c:=Yb9 n 0 b.days;refine Yaa (G 9) Xel (Zze b n) ?_
 repeat(first|exact trivial|refine⟨by first|exact c|rfl|omega,?_⟩)
theorem Zcr (b:Book)(x:Sv)(hs:b.secs.length<=9223372036854775807):Contract PR glob 92 [Yah b,svD x] (.bool (Ybh b x)):=by
 have c1:=Yja b x.s hs;have c2:=Zgq b x.d;have c3:=Yb9 x.r 0 200;have c4:=Yb9 x.e 0 5;unfold Ybh
 cases h1:Yaf b x.s with
 | false =>
  refine Yaa (G 25) Ykf (Zr8 b x) ?_
  repeat(first|exact trivial|refine⟨by first|exact c1|exact h1|rfl|omega,?_⟩)
 | true =>
  cases h2:Ya3 b x.d with
  | false =>
   refine Yaa (G 25) Ykf (Zr7 b x) ?_
   repeat(first|exact trivial|refine⟨by first|exact c1|exact c2|exact h1|exact h2|rfl|omega,?_⟩)
  | true =>
   cases h3:Yad x.r 0 200 with
   | false =>
    refine Yaa (G 25) Ykf (Zr6 b x) ?_
    repeat(first|exact trivial|refine⟨by first|exact c1|exact c2|exact c3|exact h1|exact h2|exact h3|rfl|omega,?_⟩)
   | true =>
    refine Yaa (G 25) Ykf (Zr5 b x) ?_
    repeat(first|exact trivial|refine⟨by first|exact c1|exact c2|exact c3|exact c4|exact h1|exact h2|exact h3|rfl|omega,?_⟩)
theorem Yns {b:Book}(hV:Val9 b){k:Nat}(hk:k<b.secs.length):Contract PR glob 137 [Yah b,.I (k:Int)] (.I (othF b k:Nat)):=by
 have h4:=hV.secs;have e:((othF b k:Nat):Int)=b.secs.length-1-k:=by unfold othF;omega
 rw[e];have h1:Yae ((b.secs.length:Int)-1):=by simp only[Yae];omega
 have h2:Yae ((b.secs.length:Int)-1-k):=by simp only[Yae];omega
 refine Yaa (G 11) Zsj (Zkt b k) ?_
 repeat(first|exact trivial|refine⟨by first|exact h1|exact h2|rfl|omega,?_⟩)
theorem Yqv (b:Book)(d:Int)(ht:b.turns.length<=9223372036854775807):Contract PR glob 153 [Yah b,.I d] (.bool (Yel b.turns d)):=by
 have hloop:LoopT PR glob 24 (Zls [1,1,0,1]) (Ydh b d false 0) .normal (Ydh b d (Yel b.turns d) b.turns.length):=by
  refine LoopT.count (tt:=Yac types) (id:=0) (c:=Zls [1,1,0,1,0,0]) (by kernel_rfl) b.turns.length (fun i=>Ydh b d (Yel (b.turns.take i) d) i) (fun i hi=>?_) ?_
  ·have hlt:decide ((i:Int)<b.turns.length)=true:=decide_eq_true (by omega);have hi64:Yae ((i:Int)+1):=by simp only[Yae];omega
   have hix:(0:Int)<=i/\(i:Int)<b.turns.length:=by omega
   have hn:Yel (b.turns.take (i+1)) d=if b.turns.getD i 0<=d then !Yel (b.turns.take i) d else Yel (b.turns.take i) d:=Ybm _ b.turns false i 0 hi
   rw[hn]
   by_cases hc:b.turns.getD i 0<=d
   ·have hd:decide (b.turns.getD i 0<=d)=true:=decide_eq_true hc;rw[if_pos hc];refine WpL.path (G 24) (Yu7 b d _ i) ?_ ⟨rfl,rfl⟩
    repeat(first|exact trivial|refine⟨by first|exact hlt|exact hi64|exact hix|exact hd|rfl|omega,?_⟩)
   ·have hd:decide (b.turns.getD i 0<=d)=false:=decide_eq_false hc;rw[if_neg hc];refine WpL.path (G 24) (Yx4 b d _ i) ?_ ⟨rfl,rfl⟩
    repeat(first|exact trivial|refine⟨by first|exact hlt|exact hi64|exact hix|exact hd|rfl|omega,?_⟩)
  ·rw[List.take_length];exact WpL.path (G 24) (Yu8 b d _ _) ⟨decide_eq_false (Int.lt_irrefl _),trivial⟩ ⟨.inl ⟨rfl,rfl⟩,rfl⟩
 refine Yaa (G 24) Zkf (Zcj b d (Yel b.turns d) b.turns.length) ?_
 repeat(first|exact trivial|refine⟨by first|exact hloop|rfl|omega,?_⟩)
theorem Yxg {turns:LI}{t w v:Int}(ht:-1000<=t/\t<=1000)(hw:0<=w/\w<=1000)(hv:0<=v/\v<=1000):∀ d:Nat,-1000-1000*d<=th1 turns t w v d/\th1 turns t w v d<=1000
 | 0=>by simp only[th1];omega
 | d+1=>by
  have:=Yxg (turns:=turns) ht hw hv d
  simp only[th1]
  split<;>omega
theorem Yx5 {b:Book}(hT:b.turns.length<=1000){u:Tr1}(ht:-1000<=u.t0/\u.t0<=1000)(hw:0<=u.w0/\u.w0<=1000)(hv:0<=u.w1/\u.w1<=1000){d:Int}(hd:0<=d/\d<=1000):Contract PR glob 139 [Yah b,tr1D u,.I 0,.I d] (.I (th1 b.turns u.t0 u.w0 u.w1 d.toNat)):=by
 have hloop:LoopT PR glob 37 (Yo1 [1,1,0,1]) (Yfo b u d u.t0 0) .normal (Yfo b u d (th1 b.turns u.t0 u.w0 u.w1 d.toNat) d.toNat):=by
  refine LoopT.count (tt:=Yac types) (id:=0) (c:=Yo1 [1,1,0,1,0,0]) (by kernel_rfl) d.toNat (fun i=>Yfo b u d (th1 b.turns u.t0 u.w0 u.w1 i) i) (fun i hi=>?_) (WpL.path (G 37) (Zcn b u d _ _) ⟨decide_eq_false (by omega),trivial⟩ ⟨.inl ⟨rfl,rfl⟩,rfl⟩);have hlt:decide ((i:Int)<d)=true:=decide_eq_true (by omega);have hi64:Yae ((i:Int)+1):=by simp only[Yae];omega
  have hin:=Yxg (turns:=b.turns) ht hw hv i;have c:=Yqv b i (by omega);have j1:Yae (th1 b.turns u.t0 u.w0 u.w1 i-u.w1):=by simp only[Yae];omega
  have j2:Yae (th1 b.turns u.t0 u.w0 u.w1 i-u.w0):=by simp only[Yae];omega
  cases hf:Yel b.turns i with
  | true =>
   rw[hf]at c;refine WpL.path (G 37) (Zcm b u d _ i) ?_ ⟨rfl,by simp only[th1];rw[if_pos hf];rfl⟩
   repeat(first|exact trivial|refine⟨by first|exact hlt|exact hi64|exact c|exact j1|rfl|omega|(simp only[Yae];omega),?_⟩)
  | false =>
   rw[hf]at c;refine WpL.path (G 37) (Zkh b u d _ i) ?_ ⟨rfl,by simp only[th1];rw[if_neg (by rw[hf];simp)];rfl⟩
   repeat(first|exact trivial|refine⟨by first|exact hlt|exact hi64|exact c|exact j2|rfl|omega|(simp only[Yae];omega),?_⟩)
 refine Yaa (G 37) Zy5 (Zr4 b u d (th1 b.turns u.t0 u.w0 u.w1 d.toNat) d.toNat) ?_
 repeat(first|exact trivial|refine⟨by first|exact hloop|rfl|omega|(simp only[Yae];omega),?_⟩)
theorem Zr2 {b:Book}(hT:b.turns.length<=1000){u:Tr1}(ht:-1000<=u.t1/\u.t1<=1000)(hw:0<=u.w0/\u.w0<=1000)(hv:0<=u.w1/\u.w1<=1000){d:Int}(hd:0<=d/\d<=1000):Contract PR glob 139 [Yah b,tr1D u,.I 1,.I d] (.I (th1 b.turns u.t1 u.w1 u.w0 d.toNat)):=by
 have hloop:LoopT PR glob 37 (Yo1 [1,1,0,1]) (Yfn b u d u.t1 0) .normal (Yfn b u d (th1 b.turns u.t1 u.w1 u.w0 d.toNat) d.toNat):=by
  refine LoopT.count (tt:=Yac types) (id:=0) (c:=Yo1 [1,1,0,1,0,0]) (by kernel_rfl) d.toNat (fun i=>Yfn b u d (th1 b.turns u.t1 u.w1 u.w0 i) i) (fun i hi=>?_) (WpL.path (G 37) (Zcl b u d _ _) ⟨decide_eq_false (by omega),trivial⟩ ⟨.inl ⟨rfl,rfl⟩,rfl⟩);have hlt:decide ((i:Int)<d)=true:=decide_eq_true (by omega);have hi64:Yae ((i:Int)+1):=by simp only[Yae];omega
  have hin:=Yxg (turns:=b.turns) ht hv hw i;have c:=Yqv b i (by omega);have j1:Yae (th1 b.turns u.t1 u.w1 u.w0 i-u.w0):=by simp only[Yae];omega
  have j2:Yae (th1 b.turns u.t1 u.w1 u.w0 i-u.w1):=by simp only[Yae];omega
  cases hf:Yel b.turns i with
  | true =>
   rw[hf]at c;refine WpL.path (G 37) (Zck b u d _ i) ?_ ⟨rfl,by simp only[th1];rw[if_pos hf];rfl⟩
   repeat(first|exact trivial|refine⟨by first|exact hlt|exact hi64|exact c|exact j1|rfl|omega|(simp only[Yae];omega),?_⟩)
  | false =>
   rw[hf]at c;refine WpL.path (G 37) (Zkg b u d _ i) ?_ ⟨rfl,by simp only[th1];rw[if_neg (by rw[hf];simp)];rfl⟩
   repeat(first|exact trivial|refine⟨by first|exact hlt|exact hi64|exact c|exact j2|rfl|omega|(simp only[Yae];omega),?_⟩)
 refine Yaa (G 37) Zy4 (Zr3 b u d (th1 b.turns u.t1 u.w1 u.w0 d.toNat) d.toNat) ?_
 repeat(first|exact trivial|refine⟨by first|exact hloop|rfl|omega|(simp only[Yae];omega),?_⟩)
structure Tame (u:Tr1):Prop where
 t0:0<=u.t0/\u.t0<=200
 t1:0<=u.t1/\u.t1<=200
 w0:0<=u.w0/\u.w0<=3
 w1:0<=u.w1/\u.w1<=3
theorem Xc6 {b:Book}(hV:Val9 b){k o:Nat}(hk:k<b.secs.length)(ho:o<b.secs.length){u:Tr1}
  (h0:(b.secs.getD k sec0).t.lo<=u.t0/\u.t0<=(b.secs.getD k sec0).t.hi) (h1:(b.secs.getD o sec0).t.lo<=u.t1/\u.t1<=(b.secs.getD o sec0).t.hi)
  (h2:(b.secs.getD k sec0).w.lo<=u.w0/\u.w0<=(b.secs.getD k sec0).w.hi) (h3:(b.secs.getD o sec0).w.lo<=u.w1/\u.w1<=(b.secs.getD o sec0).w.hi):Tame u:=by
 have a:=hV.sec _ (Yb0 b.secs k sec0 hk);have c:=hV.sec _ (Yb0 b.secs o sec0 ho);have a1:=a.t;have a2:=a.w;have c1:=c.t;have c2:=c.w;exact⟨by omega,by omega,by omega,by omega⟩
def Xho (b:Book)(k:Nat)(u:Tr1)(i o:Nat)(z:Int):Nat->KV
 | 0=>Yhc b k u i o z
 | 1=>Yhb b k u i o z
 | _=>Yhd b k u i o z
theorem Zkr {b:Book}(hV:Val9 b){k:Nat}(hk:k<b.secs.length){u:Tr1}(hu:Tame u):Contract PR glob 138 [Yah b,.I (k:Int),tr1D u] (.bool (Yi7 b k (othF b k) u)):=by
 have h8:=hV.svs;have hoc:=Yns hV hk
 have hround:∀ i,i<b.svs.length->(sat1 b k (othF b k) u (svZ b i)=true->WpL PR (MP 64) (Yi0 [1,0,1,0,0]) (Ybg b k u i) fun e1 L1=>e1=.normal/\L1=Ybg b k u (i+1)) /\
   (sat1 b k (othF b k) u (svZ b i)=false->∃ c:Nat,∃ z,WpL PR (MP 64) (Yi0 [1,0,1,0,0]) (Ybg b k u i) fun e1 L1=>e1=Ex.ret/\L1=Xho b k u i (othF b k) z c):=by
  intro i hi;obtain⟨s1,s2,s3,s4⟩:=Yhi.1 (hV.sv _ (Zbd hi));have hdd:=hV.days;have hlt:decide ((i:Int)<b.svs.length)=true:=decide_eq_true (by omega);have hi64:Yae ((i:Int)+1):=by simp only[Yae];omega
  have hix:(0:Int)<=i/\(i:Int)<b.svs.length:=by omega
  have d1:(svZ b i).d.toNat<=30:=by omega
  have t0:=Yxg (turns:=b.turns) (t:=u.t0) (w:=u.w0) (v:=u.w1) (by have:=hu.t0;omega) (by have:=hu.w0;omega) (by have:=hu.w1;omega) (svZ b i).d.toNat;have t1:=Yxg (turns:=b.turns) (t:=u.t1) (w:=u.w1) (v:=u.w0) (by have:=hu.t1;omega) (by have:=hu.w1;omega) (by have:=hu.w0;omega) (svZ b i).d.toNat;have q0:=Yx5 (b:=b) (by have:=hV.turns;omega) (u:=u) (by have:=hu.t0;omega) (by have:=hu.w0;omega) (by have:=hu.w1;omega) (d:=(svZ b i).d) (by omega)
  have q1:=Zr2 (b:=b) (by have:=hV.turns;omega) (u:=u) (by have:=hu.t1;omega) (by have:=hu.w0;omega) (by have:=hu.w1;omega) (d:=(svZ b i).d) (by omega);have j0:Yae ((svZ b i).r-th1 b.turns u.t0 u.w0 u.w1 (svZ b i).d.toNat):=by simp only[Yae];omega
  have j1:Yae ((svZ b i).r-th1 b.turns u.t1 u.w1 u.w0 (svZ b i).d.toNat):=by simp only[Yae];omega
  have j2:Yae (0-(svZ b i).e):=by simp only[Yae];omega
  have n0:=Ykl ((svZ b i).r-th1 b.turns u.t0 u.w0 u.w1 (svZ b i).d.toNat) (0-(svZ b i).e) (svZ b i).e;have n1:=Ykl ((svZ b i).r-th1 b.turns u.t1 u.w1 u.w0 (svZ b i).d.toNat) (0-(svZ b i).e) (svZ b i).e;unfold sat1
  by_cases hsk:(svZ b i).s=(k:Int)
  ·rw[if_pos hsk];have e2:decide ((svZ b i).s≠(k:Int))=false:=decide_eq_false (fun h=>h hsk);have e2':((svZ b i).s != (k:Int))=false:=by simp[hsk]
   by_cases hso:(svZ b i).s=(othF b k:Int)
   ·have e1:((svZ b i).s==(othF b k:Int))=true:=by simp[hso]
    refine⟨fun hg=>?_,fun hg=>⟨2,th1 b.turns u.t0 u.w0 u.w1 (svZ b i).d.toNat,?_⟩⟩<;>rw[hg]at n0
    ·refine WpL.path (G 64) (Yya b k u i (othF b k) (th1 b.turns u.t0 u.w0 u.w1 (svZ b i).d.toNat)) ?_ ⟨rfl,rfl⟩
     repeat(first|exact trivial|refine⟨by first|exact hlt|exact hi64|exact hix|exact hoc|exact e1|exact e2|exact e2'|exact q0|exact j0|exact j2|exact n0|rfl|omega,?_⟩)
    ·refine WpL.path (G 64) (Yvd b k u i (othF b k) (th1 b.turns u.t0 u.w0 u.w1 (svZ b i).d.toNat)) ?_ ⟨rfl,rfl⟩
     repeat(first|exact trivial|refine⟨by first|exact hlt|exact hi64|exact hix|exact hoc|exact e1|exact e2|exact e2'|exact q0|exact j0|exact j2|exact n0|rfl|omega,?_⟩)
   ·have e1:((svZ b i).s==(othF b k:Int))=false:=by simp[hso]
    refine⟨fun hg=>?_,fun hg=>⟨1,th1 b.turns u.t0 u.w0 u.w1 (svZ b i).d.toNat,?_⟩⟩<;>rw[hg]at n0
    ·refine WpL.path (G 64) (Yx8 b k u i (othF b k) (th1 b.turns u.t0 u.w0 u.w1 (svZ b i).d.toNat)) ?_ ⟨rfl,rfl⟩
     repeat(first|exact trivial|refine⟨by first|exact hlt|exact hi64|exact hix|exact hoc|exact e1|exact e2|exact e2'|exact q0|exact j0|exact j2|exact n0|rfl|omega,?_⟩)
    ·refine WpL.path (G 64) (Yva b k u i (othF b k) (th1 b.turns u.t0 u.w0 u.w1 (svZ b i).d.toNat)) ?_ ⟨rfl,rfl⟩
     repeat(first|exact trivial|refine⟨by first|exact hlt|exact hi64|exact hix|exact hoc|exact e1|exact e2|exact e2'|exact q0|exact j0|exact j2|exact n0|rfl|omega,?_⟩)
  ·rw[if_neg hsk];have e2:decide ((svZ b i).s≠(k:Int))=true:=decide_eq_true hsk;have e2':((svZ b i).s != (k:Int))=true:=by simp[hsk]
   by_cases hso:(svZ b i).s=(othF b k:Int)
   ·rw[if_pos hso];have e1:((svZ b i).s==(othF b k:Int))=true:=by simp[hso]
    have e3:decide ((svZ b i).s≠(othF b k:Int))=false:=decide_eq_false (fun h=>h hso);have e3':((svZ b i).s != (othF b k:Int))=false:=by simp[hso]
    refine⟨fun hg=>?_,fun hg=>⟨0,th1 b.turns u.t1 u.w1 u.w0 (svZ b i).d.toNat,?_⟩⟩<;>rw[hg]at n1
    ·refine WpL.path (G 64) (Yx9 b k u i (othF b k) (th1 b.turns u.t1 u.w1 u.w0 (svZ b i).d.toNat)) ?_ ⟨rfl,rfl⟩
     repeat(first|exact trivial|refine⟨by first|exact hlt|exact hi64|exact hix|exact hoc|exact e1|exact e2|exact e2'|exact e3|exact e3'|exact q1|exact j1|exact j2|exact n1|rfl|omega,?_⟩)
    ·refine WpL.path (G 64) (Yvc b k u i (othF b k) (th1 b.turns u.t1 u.w1 u.w0 (svZ b i).d.toNat)) ?_ ⟨rfl,rfl⟩
     repeat(first|exact trivial|refine⟨by first|exact hlt|exact hi64|exact hix|exact hoc|exact e1|exact e2|exact e2'|exact e3|exact e3'|exact q1|exact j1|exact j2|exact n1|rfl|omega,?_⟩)
   ·rw[if_neg hso];have e1:((svZ b i).s==(othF b k:Int))=false:=by simp[hso]
    have e3:decide ((svZ b i).s≠(othF b k:Int))=true:=decide_eq_true hso;have e3':((svZ b i).s != (othF b k:Int))=true:=by simp[hso]
    refine⟨fun hg=>?_,fun hg=>by cases hg⟩;refine WpL.path (G 64) (Yvb b k u i (othF b k) 0) ?_ ⟨rfl,rfl⟩
    repeat(first|exact trivial|refine⟨by first|exact hlt|exact hi64|exact hix|exact hoc|exact e1|exact e2|exact e2'|exact e3|exact e3'|rfl|omega,?_⟩)
 unfold Yi7;rcases Ycr (fun i=>!sat1 b k (othF b k) u (svZ b i)) b.svs.length with ⟨m,hm,hb,hgood⟩|hgood
 ·have hbad:sat1 b k (othF b k) u (svZ b m)=false:=by simpa using hb
  have hall:((List.range b.svs.length).all fun i=>sat1 b k (othF b k) u (svZ b i))=false:=by
   rw[Bool.eq_false_iff];intro h;rw[List.all_eq_true]at h
   have:=h m (List.mem_range.2 hm)
   rw[hbad]at this
   cases this
  rw[hall];obtain⟨c,z,hw⟩:=(hround m hm).2 hbad
  have hloop:LoopT PR glob 64 (Yi0 [1,0,1]) (Ybg b k u 0) .ret (Xho b k u m (othF b k) z c) :=
   LoopT.count (tt:=Yac types) (id:=0) (c:=Yi0 [1,0,1,0,0]) (by kernel_rfl) m (fun i=>Ybg b k u i) (fun i hi=>(hround i (by omega)).1 (by have:=hgood i hi;simpa using this)) (hw.mono fun e1 L1 h=>⟨.inr ⟨h.1,rfl⟩,h.2⟩)
  match c,hloop with
  | 0,hloop =>
   refine Yaa (G 64) Yl2 (Zkp b k u m (othF b k) z) ?_
   repeat(first|exact trivial|refine⟨by first|exact hloop|rfl|omega,?_⟩)
  | 1,hloop =>
   refine Yaa (G 64) Yl2 (Zko b k u m (othF b k) z) ?_
   repeat(first|exact trivial|refine⟨by first|exact hloop|rfl|omega,?_⟩)
  | n+2,hloop =>
   refine Yaa (G 64) Yl2 (Zkq b k u m (othF b k) z) ?_
   repeat(first|exact trivial|refine⟨by first|exact hloop|rfl|omega,?_⟩)
 ·have hall:((List.range b.svs.length).all fun i=>sat1 b k (othF b k) u (svZ b i))=true:=List.all_eq_true.2 fun i hi=>by
   have:=hgood i (List.mem_range.1 hi)
   simpa using this
  rw[hall]
  have hloop:LoopT PR glob 64 (Yi0 [1,0,1]) (Ybg b k u 0) .normal (Ybg b k u b.svs.length) :=
   LoopT.count (tt:=Yac types) (id:=0) (c:=Yi0 [1,0,1,0,0]) (by kernel_rfl) b.svs.length (fun i=>Ybg b k u i) (fun i hi=>(hround i hi).1 (by have:=hgood i hi;simpa using this)) (WpL.path (G 64) (Yyb b k u _) ⟨decide_eq_false (Int.lt_irrefl _),trivial⟩ ⟨.inl ⟨rfl,rfl⟩,rfl⟩)
  refine Yaa (G 64) Yl2 (Zkn b k u b.svs.length) ?_
  repeat(first|exact trivial|refine⟨by first|exact hloop|rfl|omega,?_⟩)
end Go.Di
namespace Go.Di
open Proofs
def tr6S (b:Book)(k o:Nat)(t0 t1 w0 w1:Int):List Tr1->KV
 | []=>Ykt b k o t0 t1 w0 w1
 | y::r=>Yiv b k o t0 t1 w0 w1 y r
def tr4S (b:Book)(k o:Nat)(t0 t1 w0:Int):List Tr1->KV
 | []=>Ys7 b k o t0 t1 w0
 | y::r=>Yp8 b k o t0 t1 w0 y r
def tr2S (b:Book)(k o:Nat)(t0 t1:Int):List Tr1->KV
 | []=>Ys8 b k o t0 t1
 | y::r=>Yp9 b k o t0 t1 y r
def tr0S (b:Book)(k o:Nat)(t0:Int):List Tr1->KV
 | []=>Ys9 b k o t0
 | y::r=>Yxb b k o t0 y r
theorem Yvn {nt id:Nat}{cb c:Code}(hb:cb=.block id (.loop c)){St:Int->List Tr1->KV}{lo hi:Int}{g:Int->List Tr1}{M N:Nat}(hlh:lo<=hi+1)(hM:∀ n,(g n).length<=M)(hN:(hi+1-lo).toNat*M<=N){K:Nat}
  (hround:∀ n l,lo<=n->n<=hi->l.length<=K+N->WpL PR (MP nt) c (St n l) fun e1 L1=>e1=.normal/\L1=St (n+1) (l++g n))
  (hend:∀ l,WpL PR (MP nt) c (St (hi+1) l) fun e1 L1=>e1=.exit id/\L1=St (hi+1) l) (l:List Tr1) (hl:l.length<=K) :
  LoopT PR glob nt cb (St lo l) .normal (St (hi+1) (l++lpF lo g (hi+1-lo).toNat)):=by
 have he:lo+((hi+1-lo).toNat:Int)=hi+1:=by omega
 have h:=LoopT.count (P:=PR) (tt:=Yac types) (glob:=glob) (n:=nt) hb (hi+1-lo).toNat (fun i=>St (lo+i) (l++lpF lo g i)) (e:=.normal) (L':=St (hi+1) (l++lpF lo g (hi+1-lo).toNat)) (fun i hi'=>?_) ?_
 ·have e0:St (lo+((0:Nat):Int)) (l++lpF lo g 0)=St lo l:=by simp[lpF]
  rw[e0]at h;exact h
 ·have hlen:=Ytu (lo:=lo) hM i;have hle:i*M<=N:=Nat.le_trans (Nat.mul_le_mul_right _ (by omega)) hN;refine(hround (lo+i) (l++lpF lo g i) (by omega) (by omega) (by rw[List.length_append];omega)).mono fun e1 L1 h=>⟨h.1,?_⟩;rw[h.2,Zs8,<-List.append_assoc,show lo+((i+1:Nat):Int)=lo+i+1 by omega]
 ·show WpL _ _ _ (St (lo+((hi+1-lo).toNat:Int)) (l++lpF lo g (hi+1-lo).toNat)) _;rw[he];exact(hend _).mono fun e1 L1 h=>⟨.inl ⟨h.1,rfl⟩,h.2⟩
section
variable {b:Book} {k:Nat}
theorem Zpo (hV:Val9 b)(hk:k<b.secs.length){t0 t1 w0 w1:Int}(hu:Tame ⟨t0,t1,w0,w1⟩)(hw1:w1<=(b.secs.getD (othF b k) sec0).w.hi)(l:List Tr1)(hl:l.length<=10000) :
  WpL PR (MP 96) (Yb6 [1,1,1,0,1,0,0,1,0,0,1,0,0,1,0,0,1,0,0,1,0,0,1,0,0]) (tr6S b k (othF b k) t0 t1 w0 w1 l) fun e1 L1=>e1=.normal/\L1=tr6S b k (othF b k) t0 t1 w0 (w1+1) (l++one1 b k (othF b k) t0 t1 w0 w1):=by
 have c1:=Yns hV hk;have c2:=Zkr hV hk hu;have hle:decide (w1<=(b.secs.getD (othF b k) sec0).w.hi)=true:=decide_eq_true hw1
 have hi64:Yae (w1+1):=by
  have:=hu.w1
  simp only[Yae]at this ⊢;omega
 have hz:∀ y r,l=y::r->(y::r++[(⟨t0,t1,w0,w1⟩:Tr1)]).length*(32+1)<=140737488355328:=fun y r e=>by subst e;simp only[List.length_append,List.length_cons,List.length_nil]at hl ⊢;omega
 have hadd:∀ x:Bool,Yi7 b k (othF b k) ⟨t0,t1,w0,w1⟩=x->(¬(k=othF b k/\¬(t0=t1/\w0=w1)))->one1 b k (othF b k) t0 t1 w0 w1=if x=true then [⟨t0,t1,w0,w1⟩] else []:=fun x hx hn=>by
  unfold one1;rw[if_neg hn,hx]
 by_cases hko:k=othF b k
 ·have d1:((k:Int)==(othF b k:Int))=true:=by rw[beq_iff_eq];omega
  by_cases h1:t0=t1
  ·have d2:(t0 != t1)=false:=by simp[h1]
   by_cases h2:w0=w1
   ·have d3:(w0 != w1)=false:=by simp[h2]
    cases hr:Yi7 b k (othF b k) ⟨t0,t1,w0,w1⟩ with
    | true =>
     rw[hadd _ hr (fun h=>h.2 ⟨h1,h2⟩),if_pos rfl];rw[hr]at c2
     cases l with
     | nil =>
      refine WpL.path (G 96) (Zw5 b k (othF b k) t0 t1 w0 w1) ?_ ⟨rfl,rfl⟩
      repeat(first|exact trivial|refine⟨by first|exact hle|exact c1|exact d1|exact d2|exact d3|exact c2|exact hi64|rfl|omega|(simp;omega),?_⟩)
     | cons y r =>
      have hz:=hz y r rfl;refine WpL.path (G 96) (Zww b k (othF b k) t0 t1 w0 w1 y r) ?_ ⟨rfl,rfl⟩
      repeat(first|exact trivial|refine⟨by first|exact hle|exact c1|exact d1|exact d2|exact d3|exact c2|exact hz|exact hi64|rfl|omega,?_⟩)
    | false =>
     rw[hadd _ hr (fun h=>h.2 ⟨h1,h2⟩),if_neg (by simp),List.append_nil];rw[hr]at c2
     cases l with
     | nil =>
      refine WpL.path (G 96) (Zw6 b k (othF b k) t0 t1 w0 w1) ?_ ⟨rfl,rfl⟩
      repeat(first|exact trivial|refine⟨by first|exact hle|exact c1|exact d1|exact d2|exact d3|exact c2|exact hi64|rfl|omega,?_⟩)
     | cons y r =>
      refine WpL.path (G 96) (Zwx b k (othF b k) t0 t1 w0 w1 y r) ?_ ⟨rfl,rfl⟩
      repeat(first|exact trivial|refine⟨by first|exact hle|exact c1|exact d1|exact d2|exact d3|exact c2|exact hi64|rfl|omega,?_⟩)
   ·have d3:(w0 != w1)=true:=by simp[h2]
    have e:one1 b k (othF b k) t0 t1 w0 w1=[]:=by unfold one1;rw[if_pos ⟨hko,fun h=>h2 h.2⟩]
    rw[e,List.append_nil]
    cases l with
    | nil =>
     refine WpL.path (G 96) (Za8 b k (othF b k) t0 t1 w0 w1) ?_ ⟨rfl,rfl⟩
     repeat(first|exact trivial|refine⟨by first|exact hle|exact c1|exact d1|exact d2|exact d3|exact hi64|rfl|omega,?_⟩)
    | cons y r =>
     refine WpL.path (G 96) (Za6 b k (othF b k) t0 t1 w0 w1 y r) ?_ ⟨rfl,rfl⟩
     repeat(first|exact trivial|refine⟨by first|exact hle|exact c1|exact d1|exact d2|exact d3|exact hi64|rfl|omega,?_⟩)
  ·have d2:(t0 != t1)=true:=by simp[h1]
   have e:one1 b k (othF b k) t0 t1 w0 w1=[]:=by unfold one1;rw[if_pos ⟨hko,fun h=>h1 h.1⟩]
   rw[e,List.append_nil]
   cases l with
   | nil =>
    refine WpL.path (G 96) (Za9 b k (othF b k) t0 t1 w0 w1) ?_ ⟨rfl,rfl⟩
    repeat(first|exact trivial|refine⟨by first|exact hle|exact c1|exact d1|exact d2|exact hi64|rfl|omega,?_⟩)
   | cons y r =>
    refine WpL.path (G 96) (Za7 b k (othF b k) t0 t1 w0 w1 y r) ?_ ⟨rfl,rfl⟩
    repeat(first|exact trivial|refine⟨by first|exact hle|exact c1|exact d1|exact d2|exact hi64|rfl|omega,?_⟩)
 ·have d1:((k:Int)==(othF b k:Int))=false:=by rw[beq_eq_false_iff_ne];omega
  cases hr:Yi7 b k (othF b k) ⟨t0,t1,w0,w1⟩ with
  | true =>
   rw[hadd _ hr (fun h=>hko h.1),if_pos rfl];rw[hr]at c2
   cases l with
   | nil =>
    refine WpL.path (G 96) (Zw3 b k (othF b k) t0 t1 w0 w1) ?_ ⟨rfl,rfl⟩
    repeat(first|exact trivial|refine⟨by first|exact hle|exact c1|exact d1|exact c2|exact hi64|rfl|omega|(simp;omega),?_⟩)
   | cons y r =>
    have hz:=hz y r rfl;refine WpL.path (G 96) (Zwu b k (othF b k) t0 t1 w0 w1 y r) ?_ ⟨rfl,rfl⟩
    repeat(first|exact trivial|refine⟨by first|exact hle|exact c1|exact d1|exact c2|exact hz|exact hi64|rfl|omega,?_⟩)
  | false =>
   rw[hadd _ hr (fun h=>hko h.1),if_neg (by simp),List.append_nil];rw[hr]at c2
   cases l with
   | nil =>
    refine WpL.path (G 96) (Zw4 b k (othF b k) t0 t1 w0 w1) ?_ ⟨rfl,rfl⟩
    repeat(first|exact trivial|refine⟨by first|exact hle|exact c1|exact d1|exact c2|exact hi64|rfl|omega,?_⟩)
   | cons y r =>
    refine WpL.path (G 96) (Zwv b k (othF b k) t0 t1 w0 w1 y r) ?_ ⟨rfl,rfl⟩
    repeat(first|exact trivial|refine⟨by first|exact hle|exact c1|exact d1|exact c2|exact hi64|rfl|omega,?_⟩)
theorem secw (hV:Val9 b)(hk:k<b.secs.length):SecOk (b.secs.getD k sec0):=hV.sec _ (Yb0 b.secs k sec0 hk)
theorem Zxa (hV:Val9 b)(hk:k<b.secs.length){t0 t1 w0:Int}(h0:0<=t0/\t0<=200)(h1:0<=t1/\t1<=200)(h2:0<=w0/\w0<=3)(l:List Tr1)(hl:l.length<=1000) :
  LoopT PR glob 96 (Yb6 [1,1,1,0,1,0,0,1,0,0,1,0,0,1,0,0,1,0,0,1,0,0,1]) (tr6S b k (othF b k) t0 t1 w0 (b.secs.getD (othF b k) sec0).w.lo l) .normal (tr6S b k (othF b k) t0 t1 w0 ((b.secs.getD (othF b k) sec0).w.hi+1) (l++g3 b k (othF b k) t0 t1 w0 (sp1 (b.secs.getD (othF b k) sec0).w))):=by
 have hs:=(secw hV (Ykz hk)).w;refine Yvn (id:=6) (c:=Yb6 [1,1,1,0,1,0,0,1,0,0,1,0,0,1,0,0,1,0,0,1,0,0,1,0,0]) (by kernel_rfl) (St:=fun n l=>tr6S b k (othF b k) t0 t1 w0 n l) (M:=1) (N:=10) (K:=1000) (by omega) (Zgy b k (othF b k) t0 t1 w0) (by omega) (fun n l a1 a2 a3=>Zpo hV hk ⟨h0,h1,h2,by simp only;omega⟩ a2 l (by omega)) (fun l=>?_) l hl;have hd:decide ((b.secs.getD (othF b k) sec0).w.hi+1<=(b.secs.getD (othF b k) sec0).w.hi)=false:=decide_eq_false (by omega)
 cases l with
 | nil=>exact WpL.path (G 96) (Zph b k (othF b k) t0 t1 w0 _) ⟨by omega,hd,trivial⟩ ⟨rfl,rfl⟩
 | cons y r=>exact WpL.path (G 96) (Zpa b k (othF b k) t0 t1 w0 _ y r) ⟨by omega,hd,trivial⟩ ⟨rfl,rfl⟩
theorem Zpp (hV:Val9 b)(hk:k<b.secs.length){t0 t1 w0:Int}(h0:0<=t0/\t0<=200)(h1:0<=t1/\t1<=200)(h2:0<=w0/\w0<=3)(hw:w0<=(b.secs.getD k sec0).w.hi)(l:List Tr1)(hl:l.length<=1000) :
  WpL PR (MP 96) (Yb6 [1,1,1,0,1,0,0,1,0,0,1,0,0,1,0,0,1,0,0]) (tr4S b k (othF b k) t0 t1 w0 l) fun e1 L1=>e1=.normal/\L1=tr4S b k (othF b k) t0 t1 (w0+1) (l++g3 b k (othF b k) t0 t1 w0 (sp1 (b.secs.getD (othF b k) sec0).w)):=by
 have hloop:=Zxa hV hk h0 h1 h2 l hl;have hle:decide (w0<=(b.secs.getD k sec0).w.hi)=true:=decide_eq_true hw;have hi64:Yae (w0+1):=by simp only[Yae];omega
 generalize g3 b k (othF b k) t0 t1 w0 (sp1 (b.secs.getD (othF b k) sec0).w)=m at hloop
 cases l with
 | nil =>
  rw[List.nil_append]at hloop ⊢
  cases m with
  | nil =>
   refine WpL.path (G 96) (Zpi b k (othF b k) t0 t1 w0 ((b.secs.getD (othF b k) sec0).w.hi+1)) ?_ ⟨rfl,rfl⟩
   repeat(first|exact trivial|refine⟨by first|exact hle|exact hloop|exact hi64|rfl|omega,?_⟩)
  | cons y r =>
   refine WpL.path (G 96) (Zw7 b k (othF b k) t0 t1 w0 ((b.secs.getD (othF b k) sec0).w.hi+1) y r) ?_ ⟨rfl,rfl⟩
   repeat(first|exact trivial|refine⟨by first|exact hle|exact hloop|exact hi64|rfl|omega,?_⟩)
 | cons y r =>
  refine WpL.path (G 96) (Zwy b k (othF b k) t0 t1 w0 y r ((b.secs.getD (othF b k) sec0).w.hi+1) y (r++m)) ?_ ⟨rfl,rfl⟩
  repeat(first|exact trivial|refine⟨by first|exact hle|exact hloop|exact hi64|rfl|omega,?_⟩)
theorem Zxb (hV:Val9 b)(hk:k<b.secs.length){t0 t1:Int}(h0:0<=t0/\t0<=200)(h1:0<=t1/\t1<=200)(l:List Tr1)(hl:l.length<=900) :
  LoopT PR glob 96 (Yb6 [1,1,1,0,1,0,0,1,0,0,1,0,0,1,0,0,1]) (tr4S b k (othF b k) t0 t1 (b.secs.getD k sec0).w.lo l) .normal (tr4S b k (othF b k) t0 t1 ((b.secs.getD k sec0).w.hi+1) (l++g2 b k (othF b k) t0 t1 (sp1 (b.secs.getD k sec0).w))):=by
 have hs:=(secw hV hk).w;have hs':=(secw hV (Ykz hk)).w;have hM:∀ n,(g3 b k (othF b k) t0 t1 n (sp1 (b.secs.getD (othF b k) sec0).w)).length<=3:=fun n=>Nat.le_trans (Xcn b k (othF b k) t0 t1 n _) (by unfold sp1;omega);refine Yvn (id:=4) (c:=Yb6 [1,1,1,0,1,0,0,1,0,0,1,0,0,1,0,0,1,0,0]) (by kernel_rfl) (St:=fun n l=>tr4S b k (othF b k) t0 t1 n l) (M:=3) (N:=9) (K:=900) (by omega) hM (by omega) (fun n l a1 a2 a3=>Zpp hV hk h0 h1 (by omega) a2 l (by omega)) (fun l=>?_) l hl
 have hd:decide ((b.secs.getD k sec0).w.hi+1<=(b.secs.getD k sec0).w.hi)=false:=decide_eq_false (by omega)
 cases l with
 | nil=>exact WpL.path (G 96) (Zpj b k (othF b k) t0 t1 _) ⟨by omega,hd,trivial⟩ ⟨rfl,rfl⟩
 | cons y r=>exact WpL.path (G 96) (Zpb b k (othF b k) t0 t1 _ y r) ⟨by omega,hd,trivial⟩ ⟨rfl,rfl⟩
theorem Xco (hV:Val9 b)(hk:k<b.secs.length)(t0 t1:Int):(g2 b k (othF b k) t0 t1 (sp1 (b.secs.getD k sec0).w)).length<=9:=by
 have hs:=(secw hV hk).w;have hs':=(secw hV (Ykz hk)).w;have hM:∀ n,(g3 b k (othF b k) t0 t1 n (sp1 (b.secs.getD (othF b k) sec0).w)).length<=3:=fun n=>Nat.le_trans (Xcn b k (othF b k) t0 t1 n _) (by unfold sp1;omega)
 have:=Ytu (lo:=(b.secs.getD k sec0).w.lo) hM (sp1 (b.secs.getD k sec0).w)
 have h3:sp1 (b.secs.getD k sec0).w<=3:=by unfold sp1;omega
 unfold g2;omega
theorem Zpq (hV:Val9 b)(hk:k<b.secs.length){t0 t1:Int}(h0:0<=t0/\t0<=200)(h1:0<=t1/\t1<=200)(hw:t1<=(b.secs.getD (othF b k) sec0).t.hi)(l:List Tr1)(hl:l.length<=900) :
  WpL PR (MP 96) (Yb6 [1,1,1,0,1,0,0,1,0,0,1,0,0]) (tr2S b k (othF b k) t0 t1 l) fun e1 L1=>e1=.normal/\L1=tr2S b k (othF b k) t0 (t1+1) (l++g2 b k (othF b k) t0 t1 (sp1 (b.secs.getD k sec0).w)):=by
 have hloop:=Zxb hV hk h0 h1 l hl;have hle:decide (t1<=(b.secs.getD (othF b k) sec0).t.hi)=true:=decide_eq_true hw;have hi64:Yae (t1+1):=by simp only[Yae];omega
 generalize g2 b k (othF b k) t0 t1 (sp1 (b.secs.getD k sec0).w)=m at hloop
 cases l with
 | nil =>
  rw[List.nil_append]at hloop ⊢
  cases m with
  | nil =>
   refine WpL.path (G 96) (Zpk b k (othF b k) t0 t1 ((b.secs.getD k sec0).w.hi+1)) ?_ ⟨rfl,rfl⟩
   repeat(first|exact trivial|refine⟨by first|exact hle|exact hloop|exact hi64|rfl|omega,?_⟩)
  | cons y r =>
   refine WpL.path (G 96) (Zw8 b k (othF b k) t0 t1 ((b.secs.getD k sec0).w.hi+1) y r) ?_ ⟨rfl,rfl⟩
   repeat(first|exact trivial|refine⟨by first|exact hle|exact hloop|exact hi64|rfl|omega,?_⟩)
 | cons y r =>
  refine WpL.path (G 96) (Zwz b k (othF b k) t0 t1 y r ((b.secs.getD k sec0).w.hi+1) y (r++m)) ?_ ⟨rfl,rfl⟩
  repeat(first|exact trivial|refine⟨by first|exact hle|exact hloop|exact hi64|rfl|omega,?_⟩)
theorem Zxc (hV:Val9 b)(hk:k<b.secs.length){t0:Int}(h0:0<=t0/\t0<=200)(l:List Tr1)(hl:l.length<=800) :
  LoopT PR glob 96 (Yb6 [1,1,1,0,1,0,0,1,0,0,1]) (tr2S b k (othF b k) t0 (b.secs.getD (othF b k) sec0).t.lo l) .normal (tr2S b k (othF b k) t0 ((b.secs.getD (othF b k) sec0).t.hi+1) (l++g1 b k (othF b k) t0 (sp1 (b.secs.getD (othF b k) sec0).t))):=by
 have hs:=(secw hV (Ykz hk)).t;refine Yvn (id:=2) (c:=Yb6 [1,1,1,0,1,0,0,1,0,0,1,0,0]) (by kernel_rfl) (St:=fun n l=>tr2S b k (othF b k) t0 n l) (M:=9) (N:=36) (K:=800) (by omega) (fun n=>Xco hV hk t0 n) (by omega) (fun n l a1 a2 a3=>Zpq hV hk h0 (by omega) a2 l (by omega)) (fun l=>?_) l hl;have hd:decide ((b.secs.getD (othF b k) sec0).t.hi+1<=(b.secs.getD (othF b k) sec0).t.hi)=false:=decide_eq_false (by omega)
 cases l with
 | nil=>exact WpL.path (G 96) (Zpl b k (othF b k) t0 _) ⟨by omega,hd,trivial⟩ ⟨rfl,rfl⟩
 | cons y r=>exact WpL.path (G 96) (Zpc b k (othF b k) t0 _ y r) ⟨by omega,hd,trivial⟩ ⟨rfl,rfl⟩
theorem Xcp (hV:Val9 b)(hk:k<b.secs.length)(t0:Int):(g1 b k (othF b k) t0 (sp1 (b.secs.getD (othF b k) sec0).t)).length<=36:=by
 have hs:=(secw hV (Ykz hk)).t
 have:=Ytu (lo:=(b.secs.getD (othF b k) sec0).t.lo) (fun n=>Xco hV hk t0 n) (sp1 (b.secs.getD (othF b k) sec0).t)
 have h3:sp1 (b.secs.getD (othF b k) sec0).t<=4:=by unfold sp1;omega
 unfold g1;omega
theorem Zpr (hV:Val9 b)(hk:k<b.secs.length){t0:Int}(h0:0<=t0/\t0<=200)(hw:t0<=(b.secs.getD k sec0).t.hi)(l:List Tr1)(hl:l.length<=800) :
  WpL PR (MP 96) (Yb6 [1,1,1,0,1,0,0]) (tr0S b k (othF b k) t0 l) fun e1 L1=>e1=.normal/\L1=tr0S b k (othF b k) (t0+1) (l++g1 b k (othF b k) t0 (sp1 (b.secs.getD (othF b k) sec0).t)):=by
 have hloop:=Zxc hV hk h0 l hl;have hle:decide (t0<=(b.secs.getD k sec0).t.hi)=true:=decide_eq_true hw;have hi64:Yae (t0+1):=by simp only[Yae];omega
 generalize g1 b k (othF b k) t0 (sp1 (b.secs.getD (othF b k) sec0).t)=m at hloop
 cases l with
 | nil =>
  rw[List.nil_append]at hloop ⊢
  cases m with
  | nil =>
   refine WpL.path (G 96) (Zpm b k (othF b k) t0 ((b.secs.getD (othF b k) sec0).t.hi+1)) ?_ ⟨rfl,rfl⟩
   repeat(first|exact trivial|refine⟨by first|exact hle|exact hloop|exact hi64|rfl|omega,?_⟩)
  | cons y r =>
   refine WpL.path (G 96) (Zw9 b k (othF b k) t0 ((b.secs.getD (othF b k) sec0).t.hi+1) y r) ?_ ⟨rfl,rfl⟩
   repeat(first|exact trivial|refine⟨by first|exact hle|exact hloop|exact hi64|rfl|omega,?_⟩)
 | cons y r =>
  refine WpL.path (G 96) (Zw0 b k (othF b k) t0 y r ((b.secs.getD (othF b k) sec0).t.hi+1) y (r++m)) ?_ ⟨rfl,rfl⟩
  repeat(first|exact trivial|refine⟨by first|exact hle|exact hloop|exact hi64|rfl|omega,?_⟩)
theorem Zf1 (hV:Val9 b)(hk:k<b.secs.length):Contract PR glob 115 [Yah b,.I (k:Int)] (.z .tr1 (Yb1 b k)):=by
 have hs:=(secw hV hk).t;have ho:=Ykz hk;have c1:=Yns hV hk;have hend:decide ((b.secs.getD k sec0).t.hi+1<=(b.secs.getD k sec0).t.hi)=false:=decide_eq_false (by omega)
 have hloop:=Yvn (nt:=96) (id:=0) (cb:=Yb6 [1,1,1,0,1]) (c:=Yb6 [1,1,1,0,1,0,0]) (by kernel_rfl) (St:=fun n l=>tr0S b k (othF b k) n l) (lo:=(b.secs.getD k sec0).t.lo) (hi:=(b.secs.getD k sec0).t.hi) (M:=36) (N:=144) (K:=0) (by omega) (fun n=>Xcp hV hk n) (by omega) (fun n l a1 a2 a3=>Zpr hV hk (by omega) a2 l (by omega)) (fun l=>by
  cases l with
  | nil=>exact WpL.path (G 96) (Zpn b k (othF b k) _) ⟨by omega,hend,trivial⟩ ⟨rfl,rfl⟩
  | cons y r=>exact WpL.path (G 96) (Zpd b k (othF b k) _ y r) ⟨by omega,hend,trivial⟩ ⟨rfl,rfl⟩) [] (by simp)
 have e:[]++lpF (b.secs.getD k sec0).t.lo (fun t0=>g1 b k (othF b k) t0 (sp1 (b.secs.getD (othF b k) sec0).t)) ((b.secs.getD k sec0).t.hi+1-(b.secs.getD k sec0).t.lo).toNat=Yb1 b k:=rfl;rw[e]at hloop;have i1:(0:Int)<=k/\(k:Int)<b.secs.length:=by omega
 have i2:(0:Int)<=(othF b k:Nat)/\((othF b k:Nat):Int)<b.secs.length:=by omega
 cases hw:Yb1 b k with
 | nil =>
  rw[hw]at hloop;refine(Yaa (G 96) Xcc (Zw2 b k (othF b k) ((b.secs.getD k sec0).t.hi+1)) ?_).toWeak
  repeat(first|exact trivial|refine⟨by first|exact i1|exact i2|exact c1|exact hloop|rfl|omega,?_⟩)
 | cons y r =>
  rw[hw]at hloop;refine(Yaa (G 96) Xcc (Zw1 b k (othF b k) ((b.secs.getD k sec0).t.hi+1) y r) ?_).toWeak
  repeat(first|exact trivial|refine⟨by first|exact i1|exact i2|exact c1|exact hloop|rfl|omega,?_⟩)
end
end Go.Di
namespace Go.Di
open Proofs
theorem Ylw {nt id:Nat}{cb c:Code}(hb:cb=.block id (.loop c)){St:Bool->Nat->KV}(good:Nat->Bool)(N:Nat)
  (hon:∀ i,i<N->(∀ j<i,good j=true)->WpL PR (MP nt) c (St true i) fun e1 L1=>e1=.normal/\L1=St (good i) (i+1))
  (hno:∀ i,WpL PR (MP nt) c (St false i) fun e1 L1=>e1=.exit id/\L1=St false i)
  (hend:WpL PR (MP nt) c (St true N) fun e1 L1=>e1=.exit id/\L1=St true N) :
  ∃ i,LoopT PR glob nt cb (St true 0) .normal (St ((List.range N).all good) i)/\((List.range N).all good=true->i=N):=by
 rcases Ycr (fun i=>!good i) N with ⟨m,hm,hbad,hg⟩|hg
 ·have hbad:good m=false:=by simpa using hbad
  have hall:(List.range N).all good=false:=by
   rw[Bool.eq_false_iff];intro h;rw[List.all_eq_true]at h
   have:=h m (List.mem_range.2 hm)
   rw[hbad]at this
   cases this
  rw[hall];refine⟨m+1,?_,fun h=>by cases h⟩;have h:=LoopT.count (P:=PR) (tt:=Yac types) (glob:=glob) (n:=nt) hb (m+1) (fun i=>St (decide (i<=m)) i) (e:=.normal) (L':=St false (m+1)) (fun i hi=>?_) ?_
  ·rw[show decide (0<=m)=true from decide_eq_true (by omega)]at h;exact h
  ·rw[show decide (i<=m)=true from decide_eq_true (by omega)];refine(hon i (by omega) (fun j hj=>by have:=hg j (by omega);simpa using this)).mono fun e1 L1 h=>⟨h.1,?_⟩;rw[h.2]
   by_cases e:i=m
   ·subst e;rw[hbad,show decide (i+1<=i)=false from decide_eq_false (by omega)]
   ·have hgi:good i=true:=by have:=hg i (by omega);simpa using this
    rw[hgi,show decide (i+1<=m)=true from decide_eq_true (by omega)]
  ·show WpL _ _ _ (St (decide (m+1<=m)) (m+1)) _;rw[show decide (m+1<=m)=false from decide_eq_false (by omega)];exact(hno _).mono fun e1 L1 h=>⟨.inl ⟨h.1,rfl⟩,h.2⟩
 ·have hg:∀ i<N,good i=true:=fun i hi=>by have:=hg i hi;simpa using this
  have hall:(List.range N).all good=true:=List.all_eq_true.2 fun i hi=>hg i (List.mem_range.1 hi);rw[hall];refine⟨N,LoopT.count (tt:=Yac types) hb N (fun i=>St true i) (fun i hi=>?_) (hend.mono fun e1 L1 h=>⟨.inl ⟨h.1,rfl⟩,h.2⟩),fun _=>rfl⟩;refine(hon i hi (fun j hj=>hg j (by omega))).mono fun e1 L1 h=>⟨h.1,?_⟩;rw[h.2,hg i hi]
theorem Yvl {nt id:Nat}{cb c:Code}(hb:cb=.block id (.loop c)){L:KV}(hno:WpL PR (MP nt) c L fun e1 L1=>e1=.exit id/\L1=L):LoopT PR glob nt cb L .normal L :=
 LoopT.count (tt:=Yac types) hb 0 (fun _=>L) (fun i hi=>absurd hi (by omega)) (hno.mono fun e1 L1 h=>⟨.inl ⟨h.1,rfl⟩,h.2⟩)
theorem Yqt {α:Type}(l:List α)(d:α)(f:α->Bool):(List.range l.length).all (fun i=>f (l.getD i d))=l.all f:=by
 rw[Bool.eq_iff_iff,List.all_eq_true,List.all_eq_true]
 constructor
 ·intro h x hx;obtain⟨i,hi,rfl⟩:=List.getElem_of_mem hx
  have:=h i (List.mem_range.2 hi)
  rwa [List.getD_eq_getElem?_getD,List.getElem?_eq_getElem hi,Option.getD_some]at this
 ·intro h i hi;exact h _ (Yb0 l i d (List.mem_range.1 hi))
def secB (x:Sec):Bool:=Ybr x.t 0 200&&decide (x.t.hi-x.t.lo<=3)&&Ybr x.w 0 3&&decide (x.w.hi-x.w.lo<=2)
theorem Xda (x:Sec):secB x=Ydm x:=by
 rw[Bool.eq_iff_iff];simp only[secB,Ybr,Ydm,Yc6,Bool.and_eq_true,decide_eq_true_eq];omega
theorem Zyu (b:Book):LoopT PR glob 161 (k_56 [1,0]) (Yhp b) .normal (Yhn b (ok0F b)):=by
 have h0:=Yb9 b.secs.length 1 4;have h1':=Yb9 b.days 1 30;have h2':=Yb9 b.rule 0 200;unfold ok0F
 cases h1:Yad b.secs.length 1 4 with
 | false =>
  refine Ygj (Zc5 b) ?_ rfl
  repeat(first|exact trivial|refine⟨by first|exact h0|assumption|omega,?_⟩)
 | true =>
  cases h2:Yad b.days 1 30 with
  | false =>
   refine Ygj (Zc4 b) ?_ rfl
   repeat(first|exact trivial|refine⟨by first|exact h0|exact h1'|assumption|omega,?_⟩)
  | true =>
   cases h3:Yad b.rule 0 200 with
   | false =>
    refine Ygj (Zc3 b) ?_ rfl
    repeat(first|exact trivial|refine⟨by first|exact h0|exact h1'|exact h2'|assumption|omega,?_⟩)
   | true =>
    by_cases h4:b.turns.length<=4
    ·have h4':decide ((b.turns.length:Int)<=4)=true:=decide_eq_true (by omega);rw[show decide (b.turns.length<=4)=true from decide_eq_true h4,show decide (b.svs.length<=8)=decide ((b.svs.length:Int)<=8) from by simp only[decide_eq_decide];omega];refine Ygj (Zc1 b) ?_ rfl
     repeat(first|exact trivial|refine⟨by first|exact h0|exact h1'|exact h2'|assumption|omega,?_⟩)
    ·have h4':decide ((b.turns.length:Int)<=4)=false:=decide_eq_false (by omega);rw[show decide (b.turns.length<=4)=false from decide_eq_false h4];refine Ygj (Zc2 b) ?_ rfl
     repeat(first|exact trivial|refine⟨by first|exact h0|exact h1'|exact h2'|assumption|omega,?_⟩)
theorem Zyt (b:Book)(ok:Bool)(most:Int)(i:Nat):LoopT PR glob 161 (k_56 [1,1,1,0,1,0,0,1,0,0,1,0]) (Yjb b ok most i) .normal (Ynu b ok most i (secB (b.secs.getD i sec0))):=by
 have c1:=Ys5 (b.secs.getD i sec0).t 0 200;have c2:=Ys5 (b.secs.getD i sec0).w 0 3;unfold secB
 cases h1:Ybr (b.secs.getD i sec0).t 0 200 with
 | false =>
  refine Ygj (Zc0 b ok most i) ?_ rfl
  repeat(first|exact trivial|refine⟨by first|exact c1|exact h1|omega,?_⟩)
 | true =>
  have v1:=h1;simp only[Ybr,Bool.and_eq_true,decide_eq_true_eq]at v1;have j1:Yae ((b.secs.getD i sec0).t.hi-(b.secs.getD i sec0).t.lo):=by simp only[Yae];omega
  by_cases h2:(b.secs.getD i sec0).t.hi-(b.secs.getD i sec0).t.lo<=3
  ·have d2:decide ((b.secs.getD i sec0).t.hi-(b.secs.getD i sec0).t.lo<=3)=true:=decide_eq_true h2;rw[d2]
   cases h3:Ybr (b.secs.getD i sec0).w 0 3 with
   | false =>
    refine Ygj (Zcy b ok most i) ?_ rfl
    repeat(first|exact trivial|refine⟨by first|exact c1|exact h1|exact j1|exact d2|exact c2|exact h3|omega,?_⟩)
   | true =>
    have v3:=h3;simp only[Ybr,Bool.and_eq_true,decide_eq_true_eq]at v3;have j2:Yae ((b.secs.getD i sec0).w.hi-(b.secs.getD i sec0).w.lo):=by simp only[Yae];omega
    refine Ygj (Zcx b ok most i) ?_ rfl
    repeat(first|exact trivial|refine⟨by first|exact c1|exact h1|exact j1|exact d2|exact c2|exact h3|exact j2|omega,?_⟩)
  ·have d2:decide ((b.secs.getD i sec0).t.hi-(b.secs.getD i sec0).t.lo<=3)=false:=decide_eq_false h2;rw[d2];refine Ygj (Zcz b ok most i) ?_ rfl
   repeat(first|exact trivial|refine⟨by first|exact c1|exact h1|exact j1|exact d2|omega,?_⟩)
theorem Zys (b:Book)(hl:b.secs.length<=9223372036854775807)(ok:Bool):∃ i m,LoopT PR glob 161 (k_56 [1,1,1,0,1]) (Ycv b ok 0 0) .normal (Ycv b (ok&&b.secs.all Ydm) m i)/\((ok&&b.secs.all Ydm)=true->m=Yej b.secs):=by
 have hno:∀ m i,WpL PR (MP 161) (k_56 [1,1,1,0,1,0,0]) (Ycv b false m i) fun e1 L1=>e1=.exit 0/\L1=Ycv b false m i:=fun m i=>by
  refine WpL.path (G 161) (Zdc b false m i) ?_ ⟨rfl,rfl⟩
  repeat(first|exact trivial|refine⟨by first|rfl|omega,?_⟩)
 cases ok with
 | false=>exact⟨0,0,Yvl (id:=0) (c:=k_56 [1,1,1,0,1,0,0]) (by kernel_rfl) (hno 0 0),fun h=>by cases h⟩
 | true =>
  obtain⟨i,h1,h2⟩:=Ylw (nt:=161) (id:=0) (cb:=k_56 [1,1,1,0,1]) (c:=k_56 [1,1,1,0,1,0,0]) (by kernel_rfl) (St:=fun ok i=>Ycv b ok (Yej (b.secs.take i)) i) (fun i=>secB (b.secs.getD i sec0)) b.secs.length (fun i hi hg=>by
   have hlt:decide ((i:Int)<b.secs.length)=true:=decide_eq_true (by omega);have hix:(0:Int)<=i/\(i:Int)<b.secs.length:=by omega
   have hi64:Yae ((i:Int)+1):=by simp only[Yae];omega
   have hj:=Zyt b true (Yej (b.secs.take i)) i;have hm:Yej (b.secs.take (i+1))=mx (Yej (b.secs.take i)) (b.secs.getD i sec0).w.hi:=Ybm (fun m (x:Sec)=>mx m x.w.hi) b.secs 0 i sec0 hi;refine WpL.path (G 161) (Zdb b true (Yej (b.secs.take i)) i (secB (b.secs.getD i sec0))) ?_ ⟨rfl,by rw[hm];rfl⟩
   repeat(first|exact trivial|refine⟨by first|exact hlt|exact hix|exact hj|exact hi64|rfl|omega,?_⟩)) (fun i=>hno _ i) (by
   have hlt:decide ((b.secs.length:Int)<b.secs.length)=false:=decide_eq_false (by omega);refine WpL.path (G 161) (Yyh b true _ b.secs.length) ?_ ⟨rfl,rfl⟩
   repeat(first|exact trivial|refine⟨by first|exact hlt|rfl|omega,?_⟩))
  have e:((List.range b.secs.length).all fun i=>secB (b.secs.getD i sec0))=(true&&b.secs.all Ydm):=by
   rw[Yqt b.secs sec0 secB,Bool.true_and]
   congr 1
   exact funext Xda
  rw[e]at h1 h2;refine⟨i,Yej (b.secs.take i),h1,fun h=>?_⟩;rw[h2 h,List.take_length]
theorem Zyr (b:Book)(hl:b.secs.length<=9223372036854775807)(ok:Bool)(m:Int)(hm:ok=true->Yae (b.days*m)):∃ i,LoopT PR glob 161 (k_56 [1,1,1,1,0,1]) (Ycu b ok m 0) .normal (Ycu b (ok&&b.secs.all fun x=>decide (x.t.lo>=b.days*m)) m i):=by
 have hno:∀ i,WpL PR (MP 161) (k_56 [1,1,1,1,0,1,0,0]) (Ycu b false m i) fun e1 L1=>e1=.exit 2/\L1=Ycu b false m i:=fun i=>by
  refine WpL.path (G 161) (Zda b false m i) ?_ ⟨rfl,rfl⟩
  repeat(first|exact trivial|refine⟨by first|rfl|omega,?_⟩)
 cases ok with
 | false=>exact⟨0,Yvl (id:=2) (c:=k_56 [1,1,1,1,0,1,0,0]) (by kernel_rfl) (hno 0)⟩
 | true =>
  have hm:=hm rfl
  obtain⟨i,h1,h2⟩:=Ylw (nt:=161) (id:=2) (cb:=k_56 [1,1,1,1,0,1]) (c:=k_56 [1,1,1,1,0,1,0,0]) (by kernel_rfl) (St:=fun ok i=>Ycu b ok m i) (fun i=>decide ((b.secs.getD i sec0).t.lo>=b.days*m)) b.secs.length (fun i hi hg=>by
   have hlt:decide ((i:Int)<b.secs.length)=true:=decide_eq_true (by omega);have hix:(0:Int)<=i/\(i:Int)<b.secs.length:=by omega
   have hi64:Yae ((i:Int)+1):=by simp only[Yae];omega
   refine WpL.path (G 161) (Zc9 b true m i) ?_ ⟨rfl,rfl⟩
   repeat(first|exact trivial|refine⟨by first|exact hlt|exact hix|exact hm|exact hi64|rfl|omega,?_⟩)) (fun i=>hno i) (by
   have hlt:decide ((b.secs.length:Int)<b.secs.length)=false:=decide_eq_false (by omega);refine WpL.path (G 161) (Yyg b true m b.secs.length) ?_ ⟨rfl,rfl⟩
   repeat(first|exact trivial|refine⟨by first|exact hlt|rfl|omega,?_⟩))
  rw[Yqt b.secs sec0 fun x=>decide (x.t.lo>=b.days*m)]at h1;exact⟨i,h1⟩
def Za5 (b:Book)(i:Nat):Bool:=Yad (b.turns.getD i 0) 1 b.days&&(decide (i=0)||decide (b.turns.getD i 0>b.turns.getD (i-1) 0))
theorem Ys6 (b:Book):∀ i,i<=b.turns.length->(b.turns.take i).foldl (Ydz b.days) (true,0)=((List.range i).all (Za5 b),if i=0 then 0 else b.turns.getD (i-1) 0)
 | 0,_=>rfl
 | i+1,hi=>by
  have h:=Ybm (Ydz b.days) b.turns (true,0) i 0 (by omega);rw[h,Ys6 b i (by omega),List.range_succ,List.all_append];simp only[Ydz,List.all_cons,List.all_nil,Bool.and_true];rw[show(if i+1=0 then(0:Int) else b.turns.getD (i+1-1) 0)=b.turns.getD i 0 from if_neg (by omega)]
  congr 1
  cases ha:(List.range i).all (Za5 b) with
  | false=>rfl
  | true =>
   rw[Bool.true_and,Bool.true_and];unfold Za5;rw[Bool.eq_iff_iff];simp only[Bool.and_eq_true,Bool.or_eq_true,Ya2,decide_eq_true_eq]
   by_cases e:i=0
   ·rw[if_pos e];omega
   ·rw[if_neg e];rw[List.all_eq_true]at ha;have hp:=ha (i-1) (List.mem_range.2 (by omega));unfold Za5 at hp;rw[Bool.and_eq_true,Ya2]at hp;have hp:=hp.1;generalize b.turns.getD (i-1) 0=q at hp;generalize b.turns.getD i 0=p;omega
theorem Zyq (b:Book)(hl:b.turns.length<=9223372036854775807)(ok:Bool):∃ i,LoopT PR glob 161 (k_56 [1,1,1,1,1,0,1]) (Ycb b ok 0) .normal (Ycb b (ok&&Ylz b.days b.turns) i):=by
 have hno:∀ i,WpL PR (MP 161) (k_56 [1,1,1,1,1,0,1,0,0]) (Ycb b false i) fun e1 L1=>e1=.exit 4/\L1=Ycb b false i:=fun i=>by
  refine WpL.path (G 161) (Zc8 b false i) ?_ ⟨rfl,rfl⟩
  repeat(first|exact trivial|refine⟨by first|rfl|omega,?_⟩)
 cases ok with
 | false=>exact⟨0,Yvl (id:=4) (c:=k_56 [1,1,1,1,1,0,1,0,0]) (by kernel_rfl) (hno 0)⟩
 | true =>
  obtain⟨i,h1,h2⟩:=Ylw (nt:=161) (id:=4) (cb:=k_56 [1,1,1,1,1,0,1]) (c:=k_56 [1,1,1,1,1,0,1,0,0]) (by kernel_rfl) (St:=fun ok i=>Ycb b ok i) (Za5 b) b.turns.length (fun i hi hg=>by
   have hlt:decide ((i:Int)<b.turns.length)=true:=decide_eq_true (by omega);have hix:(0:Int)<=i/\(i:Int)<b.turns.length:=by omega
   have hi64:Yae ((i:Int)+1):=by simp only[Yae];omega
   have c:=Yb9 (b.turns.getD i 0) 1 b.days;unfold Za5
   cases hw:Yad (b.turns.getD i 0) 1 b.days with
   | false =>
    refine WpL.path (G 161) (Zky b true i) ?_ ⟨rfl,rfl⟩
    repeat(first|exact trivial|refine⟨by first|exact hlt|exact hix|exact c|exact hw|exact hi64|rfl|omega,?_⟩)
   | true =>
    by_cases h0:i=0
    ·have d0:((i:Int)==0)=true:=by rw[beq_iff_eq];omega
     rw[decide_eq_true h0];refine WpL.path (G 161) (Zkx b true i) ?_ ⟨rfl,rfl⟩
     repeat(first|exact trivial|refine⟨by first|exact hlt|exact hix|exact c|exact hw|exact d0|exact hi64|rfl|omega,?_⟩)
    ·have d0:((i:Int)==0)=false:=by rw[beq_eq_false_iff_ne];omega
     have hj:Yae ((i:Int)-1):=by simp only[Yae];omega
     have hjx:(0:Int)<=(i:Int)-1/\(i:Int)-1<b.turns.length:=by omega
     have e:((i:Int)-1).toNat=i-1:=by omega
     rw[decide_eq_false h0,Bool.false_or,Bool.true_and,<-e];refine WpL.path (G 161) (Zkw b true i) ?_ ⟨rfl,rfl⟩
     repeat(first|exact trivial|refine⟨by first|exact hlt|exact hix|exact c|exact hw|exact d0|exact hj|exact hjx|exact hi64|rfl|omega,?_⟩)) (fun i=>hno i) (by
   have hlt:decide ((b.turns.length:Int)<b.turns.length)=false:=decide_eq_false (by omega);refine WpL.path (G 161) (Yyf b true b.turns.length) ?_ ⟨rfl,rfl⟩
   repeat(first|exact trivial|refine⟨by first|exact hlt|rfl|omega,?_⟩))
  have e:(List.range b.turns.length).all (Za5 b)=Ylz b.days b.turns:=by
   have:=Ys6 b b.turns.length (Nat.le_refl _)
   rw[List.take_length]at this;unfold Ylz;rw[this]
  rw[e]at h1;exact⟨i,h1⟩
theorem Zyp (b:Book)(hs:b.secs.length<=9223372036854775807)(hl:b.svs.length<=9223372036854775807)(ok:Bool):∃ i,LoopT PR glob 161 (k_56 [1,1,1,1,1,1,0,1]) (Yct b ok 0) .normal (Yct b (ok&&b.svs.all fun y=>Ybh b y) i):=by
 have hno:∀ i,WpL PR (MP 161) (k_56 [1,1,1,1,1,1,0,1,0,0]) (Yct b false i) fun e1 L1=>e1=.exit 6/\L1=Yct b false i:=fun i=>by
  refine WpL.path (G 161) (Zc7 b false i) ?_ ⟨rfl,rfl⟩
  repeat(first|exact trivial|refine⟨by first|rfl|omega,?_⟩)
 cases ok with
 | false=>exact⟨0,Yvl (id:=6) (c:=k_56 [1,1,1,1,1,1,0,1,0,0]) (by kernel_rfl) (hno 0)⟩
 | true =>
  obtain⟨i,h1,h2⟩:=Ylw (nt:=161) (id:=6) (cb:=k_56 [1,1,1,1,1,1,0,1]) (c:=k_56 [1,1,1,1,1,1,0,1,0,0]) (by kernel_rfl) (St:=fun ok i=>Yct b ok i) (fun i=>Ybh b (b.svs.getD i sv0)) b.svs.length (fun i hi hg=>by
   have hlt:decide ((i:Int)<b.svs.length)=true:=decide_eq_true (by omega);have hix:(0:Int)<=i/\(i:Int)<b.svs.length:=by omega
   have hi64:Yae ((i:Int)+1):=by simp only[Yae];omega
   have c:=Zcr b (b.svs.getD i sv0) hs;refine WpL.path (G 161) (Zc6 b true i (Ybh b (b.svs.getD i sv0))) ?_ ⟨rfl,rfl⟩
   repeat(first|exact trivial|refine⟨by first|exact hlt|exact hix|exact c|exact hi64|rfl|omega,?_⟩)) (fun i=>hno i) (by
   have hlt:decide ((b.svs.length:Int)<b.svs.length)=false:=decide_eq_false (by omega);refine WpL.path (G 161) (Yye b true b.svs.length) ?_ ⟨rfl,rfl⟩
   repeat(first|exact trivial|refine⟨by first|exact hlt|rfl|omega,?_⟩))
  rw[Yqt b.svs sv0 fun y=>Ybh b y]at h1;exact⟨i,h1⟩
theorem Ynt {b:Book}(hs:Small b):Contract PR glob 56 [Yah b] (.I (Yai b)):=by
 have hj:=Zyu b;obtain⟨i1,m,h1,hm⟩:=Zys b hs.secs (ok0F b)
 have hday:(ok0F b&&b.secs.all Ydm)=true->Yae (b.days*m):=fun h=>by
  rw[hm h,Int.mul_comm];exact Yyt (by rw[Zs0];exact h)
 obtain⟨i2,h2⟩:=Zyr b hs.secs _ m hday;obtain⟨i3,h3⟩:=Zyq b hs.turns ((ok0F b&&b.secs.all Ydm)&&b.secs.all fun x=>decide (x.t.lo>=b.days*m));obtain⟨i4,h4⟩:=Zyp b hs.secs hs.svs (((ok0F b&&b.secs.all Ydm)&&b.secs.all fun x=>decide (x.t.lo>=b.days*m))&&Ylz b.days b.turns)
 have he:(((((ok0F b&&b.secs.all Ydm)&&b.secs.all fun x=>decide (x.t.lo>=b.days*m))&&Ylz b.days b.turns)&&b.svs.all fun y=>Ybh b y))=Yen b:=by
  have q4:ok4F b b.svs=((ok3F b b.turns).1&&b.svs.all fun x=>Ybh b x):=Yhw _ _ _;have q3:(ok3F b b.turns).1=(ok2F b b.secs&&Ylz b.days b.turns):=Yf5 _ _ _;unfold Yen;rw[q4,q3,Zgz,Zs0]
  cases ha:(ok0F b&&b.secs.all Ydm) with
  | false=>rfl
  | true =>
   rw[hm ha,Int.mul_comm];simp only[Bool.true_and]
 rw[he]at h4;generalize (((ok0F b&&b.secs.all Ydm)&&b.secs.all fun x=>decide (x.t.lo>=b.days*m))&&Ylz b.days b.turns)=k3 at h3 h4;generalize ((ok0F b&&b.secs.all Ydm)&&b.secs.all fun x=>decide (x.t.lo>=b.days*m))=k2 at h2 h3;generalize (ok0F b&&b.secs.all Ydm)=k1 at h1 h2;unfold Yai
 cases hv:Yen b with
 | true =>
  rw[hv]at h4;refine Yaa (G 161) Yyd (Zcw b (ok0F b) k1 k2 k3 true m i1 i2 i3 i4) ?_
  repeat(first|exact trivial|refine⟨by first|exact hj|exact h1|exact h2|exact h3|exact h4|rfl|omega,?_⟩)
 | false =>
  rw[hv]at h4;refine Yaa (G 161) Yyd (Zku b (ok0F b) k1 k2 k3 false m i1 i2 i3 i4) ?_
  repeat(first|exact trivial|refine⟨by first|exact hj|exact h1|exact h2|exact h3|exact h4|rfl|omega,?_⟩)
end Go.Di
