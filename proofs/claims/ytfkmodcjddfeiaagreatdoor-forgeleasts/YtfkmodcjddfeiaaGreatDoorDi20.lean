/- Part 20: contracts are proved. No condition. -/
import Derived.Test.YtfkmodcjddfeiaaGreatDoorDi19
set_option linter.unusedVariables false
set_option linter.unusedSimpArgs false
namespace Go.Di
open Proofs
structure Room (b:Book):Prop where
 secs:b.secs.length*32≤140737488355328
 turns:b.turns.length*8≤140737488355328
 svs:b.svs.length*32≤140737488355328
theorem oSec_con (xs:List Sec)(h:xs.length*32≤140737488355328):Contract PR glob 42 [.sl false .sec xs] (.sl false .sec xs):=by
 refine(Yaa (G 7) oSec_fn (oSec_all xs) ?_).toWeak
 have h1:xs.length*32≤140737488355328∧xs.length≤140737488355328:=⟨h,by omega⟩
 repeat(first|exact trivial|refine⟨by first|exact h1|rfl|omega,?_⟩)
theorem oInt_con (xs:List Int)(h:xs.length*8≤140737488355328):Contract PR glob 15 [.sl false .int xs] (.sl false .int xs):=by
 refine(Yaa (G 7) oInt_fn (oInt_all xs) ?_).toWeak
 have h1:xs.length*8≤140737488355328∧xs.length≤140737488355328:=⟨h,by omega⟩
 repeat(first|exact trivial|refine⟨by first|exact h1|rfl|omega,?_⟩)
theorem oSv_con (xs:List Sv)(h:xs.length*32≤140737488355328):Contract PR glob 43 [.sl false .sv xs] (.sl false .sv xs):=by
 refine(Yaa (G 7) oSv_fn (oSv_all xs) ?_).toWeak
 have h1:xs.length*32≤140737488355328∧xs.length≤140737488355328:=⟨h,by omega⟩
 repeat(first|exact trivial|refine⟨by first|exact h1|rfl|omega,?_⟩)
theorem oChain_con {b:Book}(hr:Room b):Contract PR glob 14 [Yag b] (Yag b):=by
 have c1:=oSec_con b.secs hr.secs
 have c2:=oInt_con b.turns hr.turns
 have c3:=oSv_con b.svs hr.svs
 refine Yaa (G 16) oChain_fn (oChain_all b) ?_
 repeat(first|exact trivial|refine⟨by first|exact c1|exact c2|exact c3|rfl|omega,?_⟩)
theorem eqI_self:∀ l:List Int,eqI l l=true
 | []=>rfl
 | x::l=>by simp[eqI,eqI_self l]
theorem kSec_con (xs:List Sec)(hl:xs.length≤9223372036854775807):Contract PR glob 61 [.sl false .sec xs,.sl false .sec xs] (.bool true):=by
 have hloop:LoopT PR glob 31 (k_61 [1,1,0,1]) (Yfl xs true 0) .normal (Yfl xs true xs.length):=by
  refine LoopT.count (tt:=Yac types) (id:=0) (c:=k_61 [1,1,0,1,0,0]) (by kernel_rfl) xs.length (fun i=>Yfl xs true i) (fun i hi=>?_) (WpL.path (G 31) (kSec_0_end xs true _) ⟨rfl,rfl,rfl,rfl,rfl,decide_eq_false (Int.lt_irrefl _),trivial⟩ ⟨.inl ⟨rfl,rfl⟩,rfl⟩)
  have hlt:decide ((i:Int)<xs.length)=true:=decide_eq_true (by omega)
  have hi64:Yae ((i:Int)+1):=by simp only[Yae];omega
  refine WpL.path (G 31) (kSec_0_on xs true i) ?_ ⟨rfl,by unfold Yfl;rw[eqI_self];rfl⟩
  repeat(first|exact trivial|refine⟨by first|exact hlt|exact hi64|rfl|omega|simp,?_⟩)
 have hany:∀ ok,ok=true→LoopT PR glob 31 (k_61 [1,1,0,1]) (Yfl xs ok 0) .normal (Yfl xs true xs.length):=by rintro _ rfl;exact hloop
 have hb:((xs.length:Int)==xs.length)=true:=by simp
 refine Yaa (G 31) kSec_fn (kSec_all xs xs.length) ?_
 repeat(first|exact trivial|refine⟨by first|exact hany _ hb|rfl|omega|simp,?_⟩)
theorem kSv_con (xs:List Sv)(hl:xs.length≤9223372036854775807):Contract PR glob 62 [.sl false .sv xs,.sl false .sv xs] (.bool true):=by
 have hloop:LoopT PR glob 31 (k_62 [1,1,0,1]) (kSv_S0 xs true 0) .normal (kSv_S0 xs true xs.length):=by
  refine LoopT.count (tt:=Yac types) (id:=0) (c:=k_62 [1,1,0,1,0,0]) (by kernel_rfl) xs.length (fun i=>kSv_S0 xs true i) (fun i hi=>?_) (WpL.path (G 31) (kSv_0_end xs true _) ⟨rfl,rfl,rfl,rfl,rfl,decide_eq_false (Int.lt_irrefl _),trivial⟩ ⟨.inl ⟨rfl,rfl⟩,rfl⟩)
  have hlt:decide ((i:Int)<xs.length)=true:=decide_eq_true (by omega)
  have hi64:Yae ((i:Int)+1):=by simp only[Yae];omega
  refine WpL.path (G 31) (kSv_0_on xs true i) ?_ ⟨rfl,by unfold kSv_S0;rw[eqI_self];rfl⟩
  repeat(first|exact trivial|refine⟨by first|exact hlt|exact hi64|rfl|omega|simp,?_⟩)
 have hany:∀ ok,ok=true→LoopT PR glob 31 (k_62 [1,1,0,1]) (kSv_S0 xs ok 0) .normal (kSv_S0 xs true xs.length):=by rintro _ rfl;exact hloop
 have hb:((xs.length:Int)==xs.length)=true:=by simp
 refine Yaa (G 31) kSv_fn (kSv_all xs xs.length) ?_
 repeat(first|exact trivial|refine⟨by first|exact hany _ hb|rfl|omega|simp,?_⟩)
theorem kChain_con {b:Book}(hs:Small b):Contract PR glob 24 [Yag b,Yag b] (.bool true):=by
 have c1:=kSec_con b.secs hs.secs
 have c2:=alike_con b.turns b.turns hs.turns
 have c3:=kSv_con b.svs hs.svs
 rw[decide_eq_true rfl]at c2
 have e1:(b.rule==b.rule)=true:=by simp
 have e2:(b.days==b.days)=true:=by simp
 rw[←e2]
 refine Yaa (G 38) kChain_fn (kChain_all b) ?_
 repeat(first|exact trivial|refine⟨by first|exact c1|exact c2|exact c3|exact e1|rfl|omega,?_⟩)
theorem inside_within {n lo hi:Int}:Yfn n lo hi=Yab n lo hi:=by simp[Yfn,Yab]
theorem Ybc (n lo hi:Int):Contract PR glob 51 [.int .i64 n,.int .i64 lo,.int .i64 hi] (.bool (Yab n lo hi)):=by
 rw[←inside_within]
 exact inside_con n lo hi
theorem rSection_con (b:Book)(n:Int)(hs:b.secs.length≤9223372036854775807):Contract PR glob 114 [Yag b,.int .i64 n] (.bool (Yaf b n)):=by
 have c:=Ybc n 0 (b.secs.length-1)
 have h1:Yae ((b.secs.length:Int)-1):=by simp only[Yae];omega
 refine Yaa (G 11) rSection_fn (rSection_all b n) ?_
 repeat(first|exact trivial|refine⟨by first|exact c|exact h1|rfl|omega,?_⟩)
theorem rDay_con (b:Book)(n:Int):Contract PR glob 118 [Yag b,.int .i64 n] (.bool (Yaw b n)):=by
 have c:=Ybc n 0 b.days
 refine Yaa (G 9) rDay_fn (rDay_all b n) ?_
 repeat(first|exact trivial|refine⟨by first|exact c|rfl|omega,?_⟩)
theorem rSurvey_con (b:Book)(x:Sv)(hs:b.secs.length≤9223372036854775807):Contract PR glob 92 [Yag b,svD x] (.bool (Ya6 b x)):=by
 have c1:=rSection_con b x.s hs
 have c2:=rDay_con b x.d
 have c3:=Ybc x.r 0 200
 have c4:=Ybc x.e 0 5
 unfold Ya6
 cases h1:Yaf b x.s with
 | false =>
  refine Yaa (G 25) rSurvey_fn (rSurvey_a b x) ?_
  repeat(first|exact trivial|refine⟨by first|exact c1|exact h1|rfl|omega,?_⟩)
 | true =>
  cases h2:Yaw b x.d with
  | false =>
   refine Yaa (G 25) rSurvey_fn (rSurvey_b b x) ?_
   repeat(first|exact trivial|refine⟨by first|exact c1|exact c2|exact h1|exact h2|rfl|omega,?_⟩)
  | true =>
   cases h3:Yab x.r 0 200 with
   | false =>
    refine Yaa (G 25) rSurvey_fn (rSurvey_c b x) ?_
    repeat(first|exact trivial|refine⟨by first|exact c1|exact c2|exact c3|exact h1|exact h2|exact h3|rfl|omega,?_⟩)
   | true =>
    refine Yaa (G 25) rSurvey_fn (rSurvey_d b x) ?_
    repeat(first|exact trivial|refine⟨by first|exact c1|exact c2|exact c3|exact c4|exact h1|exact h2|exact h3|rfl|omega,?_⟩)
theorem rOther_con {b:Book}(hV:Val9 b){k:Nat}(hk:k<b.secs.length):Contract PR glob 137 [Yag b,.int .i64 (k:Int)] (.int .i64 (othF b k:Nat)):=by
 have h4:=hV.secs
 have e:((othF b k:Nat):Int)=b.secs.length-1-k:=by unfold othF;omega
 rw[e]
 have h1:Yae ((b.secs.length:Int)-1):=by simp only[Yae];omega
 have h2:Yae ((b.secs.length:Int)-1-k):=by simp only[Yae];omega
 refine Yaa (G 11) rOther_fn (rOther_all b k) ?_
 repeat(first|exact trivial|refine⟨by first|exact h1|exact h2|rfl|omega,?_⟩)
theorem rTurned_con (b:Book)(d:Int)(ht:b.turns.length≤9223372036854775807):Contract PR glob 153 [Yag b,.int .i64 d] (.bool (Yd6 b.turns d)):=by
 have hloop:LoopT PR glob 24 (k_153 [1,1,0,1]) (Yc7 b d false 0) .normal (Yc7 b d (Yd6 b.turns d) b.turns.length):=by
  refine LoopT.count (tt:=Yac types) (id:=0) (c:=k_153 [1,1,0,1,0,0]) (by kernel_rfl) b.turns.length (fun i=>Yc7 b d (Yd6 (b.turns.take i) d) i) (fun i hi=>?_) ?_
  ·have hlt:decide ((i:Int)<b.turns.length)=true:=decide_eq_true (by omega)
   have hi64:Yae ((i:Int)+1):=by simp only[Yae];omega
   have hix:(0:Int)≤i∧(i:Int)<b.turns.length:=by omega
   have hn:Yd6 (b.turns.take (i+1)) d=if b.turns.getD i 0≤d then !Yd6 (b.turns.take i) d else Yd6 (b.turns.take i) d:=Yba _ b.turns false i 0 hi
   rw[hn]
   by_cases hc:b.turns.getD i 0≤d
   ·have hd:decide (b.turns.getD i 0≤d)=true:=decide_eq_true hc
    rw[if_pos hc]
    refine WpL.path (G 24) (rTurned_0_yes b d _ i) ?_ ⟨rfl,rfl⟩
    repeat(first|exact trivial|refine⟨by first|exact hlt|exact hi64|exact hix|exact hd|rfl|omega,?_⟩)
   ·have hd:decide (b.turns.getD i 0≤d)=false:=decide_eq_false hc
    rw[if_neg hc]
    refine WpL.path (G 24) (rTurned_0_no b d _ i) ?_ ⟨rfl,rfl⟩
    repeat(first|exact trivial|refine⟨by first|exact hlt|exact hi64|exact hix|exact hd|rfl|omega,?_⟩)
  ·rw[List.take_length]
   exact WpL.path (G 24) (rTurned_0_end b d _ _) ⟨decide_eq_false (Int.lt_irrefl _),trivial⟩ ⟨.inl ⟨rfl,rfl⟩,rfl⟩
 refine Yaa (G 24) rTurned_fn (rTurned_all b d (Yd6 b.turns d) b.turns.length) ?_
 repeat(first|exact trivial|refine⟨by first|exact hloop|rfl|omega,?_⟩)
theorem th1_in {turns:List Int}{t w v:Int}(ht:-1000≤t∧t≤1000)(hw:0≤w∧w≤1000)(hv:0≤v∧v≤1000):∀ d:Nat,-1000-1000*d≤th1 turns t w v d∧th1 turns t w v d≤1000
 | 0=>by simp only[th1];omega
 | d+1=>by
  have:=th1_in (turns:=turns) ht hw hv d
  simp only[th1]
  split<;>omega
theorem rThk0_con {b:Book}(hT:b.turns.length≤1000){u:Tr1}(ht:-1000≤u.t0∧u.t0≤1000)(hw:0≤u.w0∧u.w0≤1000)(hv:0≤u.w1∧u.w1≤1000){d:Int}(hd:0≤d∧d≤1000):Contract PR glob 139 [Yag b,tr1D u,.int .i64 0,.int .i64 d] (.int .i64 (th1 b.turns u.t0 u.w0 u.w1 d.toNat)):=by
 have hloop:LoopT PR glob 37 (k_139 [1,1,0,1]) (Yey b u d u.t0 0) .normal (Yey b u d (th1 b.turns u.t0 u.w0 u.w1 d.toNat) d.toNat):=by
  refine LoopT.count (tt:=Yac types) (id:=0) (c:=k_139 [1,1,0,1,0,0]) (by kernel_rfl) d.toNat (fun i=>Yey b u d (th1 b.turns u.t0 u.w0 u.w1 i) i) (fun i hi=>?_) (WpL.path (G 37) (rThk0_0_end b u d _ _) ⟨decide_eq_false (by omega),trivial⟩ ⟨.inl ⟨rfl,rfl⟩,rfl⟩)
  have hlt:decide ((i:Int)<d)=true:=decide_eq_true (by omega)
  have hi64:Yae ((i:Int)+1):=by simp only[Yae];omega
  have hin:=th1_in (turns:=b.turns) ht hw hv i
  have c:=rTurned_con b i (by omega)
  have j1:Yae (th1 b.turns u.t0 u.w0 u.w1 i-u.w1):=by simp only[Yae];omega
  have j2:Yae (th1 b.turns u.t0 u.w0 u.w1 i-u.w0):=by simp only[Yae];omega
  cases hf:Yd6 b.turns i with
  | true =>
   rw[hf]at c
   refine WpL.path (G 37) (rThk0_0_yes b u d _ i) ?_ ⟨rfl,by simp only[th1];rw[if_pos hf];rfl⟩
   repeat(first|exact trivial|refine⟨by first|exact hlt|exact hi64|exact c|exact j1|rfl|omega|(simp only[Yae];omega),?_⟩)
  | false =>
   rw[hf]at c
   refine WpL.path (G 37) (rThk0_0_no b u d _ i) ?_ ⟨rfl,by simp only[th1];rw[if_neg (by rw[hf];simp)];rfl⟩
   repeat(first|exact trivial|refine⟨by first|exact hlt|exact hi64|exact c|exact j2|rfl|omega|(simp only[Yae];omega),?_⟩)
 refine Yaa (G 37) rThk0_fn (rThk0_all b u d (th1 b.turns u.t0 u.w0 u.w1 d.toNat) d.toNat) ?_
 repeat(first|exact trivial|refine⟨by first|exact hloop|rfl|omega|(simp only[Yae];omega),?_⟩)
theorem rThk1_con {b:Book}(hT:b.turns.length≤1000){u:Tr1}(ht:-1000≤u.t1∧u.t1≤1000)(hw:0≤u.w0∧u.w0≤1000)(hv:0≤u.w1∧u.w1≤1000){d:Int}(hd:0≤d∧d≤1000):Contract PR glob 139 [Yag b,tr1D u,.int .i64 1,.int .i64 d] (.int .i64 (th1 b.turns u.t1 u.w1 u.w0 d.toNat)):=by
 have hloop:LoopT PR glob 37 (k_139 [1,1,0,1]) (Yex b u d u.t1 0) .normal (Yex b u d (th1 b.turns u.t1 u.w1 u.w0 d.toNat) d.toNat):=by
  refine LoopT.count (tt:=Yac types) (id:=0) (c:=k_139 [1,1,0,1,0,0]) (by kernel_rfl) d.toNat (fun i=>Yex b u d (th1 b.turns u.t1 u.w1 u.w0 i) i) (fun i hi=>?_) (WpL.path (G 37) (rThk1_0_end b u d _ _) ⟨decide_eq_false (by omega),trivial⟩ ⟨.inl ⟨rfl,rfl⟩,rfl⟩)
  have hlt:decide ((i:Int)<d)=true:=decide_eq_true (by omega)
  have hi64:Yae ((i:Int)+1):=by simp only[Yae];omega
  have hin:=th1_in (turns:=b.turns) ht hv hw i
  have c:=rTurned_con b i (by omega)
  have j1:Yae (th1 b.turns u.t1 u.w1 u.w0 i-u.w0):=by simp only[Yae];omega
  have j2:Yae (th1 b.turns u.t1 u.w1 u.w0 i-u.w1):=by simp only[Yae];omega
  cases hf:Yd6 b.turns i with
  | true =>
   rw[hf]at c
   refine WpL.path (G 37) (rThk1_0_yes b u d _ i) ?_ ⟨rfl,by simp only[th1];rw[if_pos hf];rfl⟩
   repeat(first|exact trivial|refine⟨by first|exact hlt|exact hi64|exact c|exact j1|rfl|omega|(simp only[Yae];omega),?_⟩)
  | false =>
   rw[hf]at c
   refine WpL.path (G 37) (rThk1_0_no b u d _ i) ?_ ⟨rfl,by simp only[th1];rw[if_neg (by rw[hf];simp)];rfl⟩
   repeat(first|exact trivial|refine⟨by first|exact hlt|exact hi64|exact c|exact j2|rfl|omega|(simp only[Yae];omega),?_⟩)
 refine Yaa (G 37) rThk1_fn (rThk1_all b u d (th1 b.turns u.t1 u.w1 u.w0 d.toNat) d.toNat) ?_
 repeat(first|exact trivial|refine⟨by first|exact hloop|rfl|omega|(simp only[Yae];omega),?_⟩)
structure Tame (u:Tr1):Prop where
 t0:0≤u.t0∧u.t0≤200
 t1:0≤u.t1∧u.t1≤200
 w0:0≤u.w0∧u.w0≤3
 w1:0≤u.w1∧u.w1≤3
theorem tame_of {b:Book}(hV:Val9 b){k o:Nat}(hk:k<b.secs.length)(ho:o<b.secs.length){u:Tr1}
  (h0:(b.secs.getD k sec0).t.lo≤u.t0∧u.t0≤(b.secs.getD k sec0).t.hi) (h1:(b.secs.getD o sec0).t.lo≤u.t1∧u.t1≤(b.secs.getD o sec0).t.hi)
  (h2:(b.secs.getD k sec0).w.lo≤u.w0∧u.w0≤(b.secs.getD k sec0).w.hi) (h3:(b.secs.getD o sec0).w.lo≤u.w1∧u.w1≤(b.secs.getD o sec0).w.hi):Tame u:=by
 have a:=hV.sec _ (Ybq b.secs k sec0 hk)
 have c:=hV.sec _ (Ybq b.secs o sec0 ho)
 have a1:=a.t
 have a2:=a.w
 have c1:=c.t
 have c2:=c.w
 exact⟨by omega,by omega,by omega,by omega⟩
def rBadS (b:Book)(k:Nat)(u:Tr1)(i o:Nat)(z:Int):Nat→List (Key×Val)
 | 0=>Yf9 b k u i o z
 | 1=>Yf8 b k u i o z
 | _=>Yga b k u i o z
theorem rRight_con {b:Book}(hV:Val9 b){k:Nat}(hk:k<b.secs.length){u:Tr1}(hu:Tame u):Contract PR glob 138 [Yag b,.int .i64 (k:Int),tr1D u] (.bool (right1 b k (othF b k) u)):=by
 have h8:=hV.svs
 have hoc:=rOther_con hV hk
 have hround:∀ i,i<b.svs.length→(sat1 b k (othF b k) u (svZ b i)=true→WpL PR (mk PR (Yac types) glob 64) (k_138 [1,0,1,0,0]) (Ya5 b k u i) fun e1 L1=>e1=.normal∧L1=Ya5 b k u (i+1)) ∧
   (sat1 b k (othF b k) u (svZ b i)=false→∃ c:Nat,∃ z,WpL PR (mk PR (Yac types) glob 64) (k_138 [1,0,1,0,0]) (Ya5 b k u i) fun e1 L1=>e1=Ex.ret∧L1=rBadS b k u i (othF b k) z c):=by
  intro i hi
  obtain⟨s1,s2,s3,s4⟩:=Ygg.1 (hV.sv _ (svZ_mem hi))
  have hdd:=hV.days
  have hlt:decide ((i:Int)<b.svs.length)=true:=decide_eq_true (by omega)
  have hi64:Yae ((i:Int)+1):=by simp only[Yae];omega
  have hix:(0:Int)≤i∧(i:Int)<b.svs.length:=by omega
  have d1:(svZ b i).d.toNat≤30:=by omega
  have t0:=th1_in (turns:=b.turns) (t:=u.t0) (w:=u.w0) (v:=u.w1) (by have:=hu.t0;omega) (by have:=hu.w0;omega) (by have:=hu.w1;omega) (svZ b i).d.toNat
  have t1:=th1_in (turns:=b.turns) (t:=u.t1) (w:=u.w1) (v:=u.w0) (by have:=hu.t1;omega) (by have:=hu.w1;omega) (by have:=hu.w0;omega) (svZ b i).d.toNat
  have q0:=rThk0_con (b:=b) (by have:=hV.turns;omega) (u:=u) (by have:=hu.t0;omega) (by have:=hu.w0;omega) (by have:=hu.w1;omega) (d:=(svZ b i).d) (by omega)
  have q1:=rThk1_con (b:=b) (by have:=hV.turns;omega) (u:=u) (by have:=hu.t1;omega) (by have:=hu.w0;omega) (by have:=hu.w1;omega) (d:=(svZ b i).d) (by omega)
  have j0:Yae ((svZ b i).r-th1 b.turns u.t0 u.w0 u.w1 (svZ b i).d.toNat):=by simp only[Yae];omega
  have j1:Yae ((svZ b i).r-th1 b.turns u.t1 u.w1 u.w0 (svZ b i).d.toNat):=by simp only[Yae];omega
  have j2:Yae (0-(svZ b i).e):=by simp only[Yae];omega
  have n0:=inside_con ((svZ b i).r-th1 b.turns u.t0 u.w0 u.w1 (svZ b i).d.toNat) (0-(svZ b i).e) (svZ b i).e
  have n1:=inside_con ((svZ b i).r-th1 b.turns u.t1 u.w1 u.w0 (svZ b i).d.toNat) (0-(svZ b i).e) (svZ b i).e
  unfold sat1
  by_cases hsk:(svZ b i).s=(k:Int)
  ·rw[if_pos hsk]
   have e2:decide ((svZ b i).s≠(k:Int))=false:=decide_eq_false (fun h=>h hsk)
   have e2':((svZ b i).s != (k:Int))=false:=by simp[hsk]
   by_cases hso:(svZ b i).s=(othF b k:Int)
   ·have e1:((svZ b i).s==(othF b k:Int))=true:=by simp[hso]
    refine⟨fun hg=>?_,fun hg=>⟨2,th1 b.turns u.t0 u.w0 u.w1 (svZ b i).d.toNat,?_⟩⟩<;>rw[hg]at n0
    ·refine WpL.path (G 64) (rRight_0_mid b k u i (othF b k) (th1 b.turns u.t0 u.w0 u.w1 (svZ b i).d.toNat)) ?_ ⟨rfl,rfl⟩
     repeat(first|exact trivial|refine⟨by first|exact hlt|exact hi64|exact hix|exact hoc|exact e1|exact e2|exact e2'|exact q0|exact j0|exact j2|exact n0|rfl|omega,?_⟩)
    ·refine WpL.path (G 64) (rRight_0_midx b k u i (othF b k) (th1 b.turns u.t0 u.w0 u.w1 (svZ b i).d.toNat)) ?_ ⟨rfl,rfl⟩
     repeat(first|exact trivial|refine⟨by first|exact hlt|exact hi64|exact hix|exact hoc|exact e1|exact e2|exact e2'|exact q0|exact j0|exact j2|exact n0|rfl|omega,?_⟩)
   ·have e1:((svZ b i).s==(othF b k:Int))=false:=by simp[hso]
    refine⟨fun hg=>?_,fun hg=>⟨1,th1 b.turns u.t0 u.w0 u.w1 (svZ b i).d.toNat,?_⟩⟩<;>rw[hg]at n0
    ·refine WpL.path (G 64) (rRight_0_slf b k u i (othF b k) (th1 b.turns u.t0 u.w0 u.w1 (svZ b i).d.toNat)) ?_ ⟨rfl,rfl⟩
     repeat(first|exact trivial|refine⟨by first|exact hlt|exact hi64|exact hix|exact hoc|exact e1|exact e2|exact e2'|exact q0|exact j0|exact j2|exact n0|rfl|omega,?_⟩)
    ·refine WpL.path (G 64) (rRight_0_slfx b k u i (othF b k) (th1 b.turns u.t0 u.w0 u.w1 (svZ b i).d.toNat)) ?_ ⟨rfl,rfl⟩
     repeat(first|exact trivial|refine⟨by first|exact hlt|exact hi64|exact hix|exact hoc|exact e1|exact e2|exact e2'|exact q0|exact j0|exact j2|exact n0|rfl|omega,?_⟩)
  ·rw[if_neg hsk]
   have e2:decide ((svZ b i).s≠(k:Int))=true:=decide_eq_true hsk
   have e2':((svZ b i).s != (k:Int))=true:=by simp[hsk]
   by_cases hso:(svZ b i).s=(othF b k:Int)
   ·rw[if_pos hso]
    have e1:((svZ b i).s==(othF b k:Int))=true:=by simp[hso]
    have e3:decide ((svZ b i).s≠(othF b k:Int))=false:=decide_eq_false (fun h=>h hso)
    have e3':((svZ b i).s != (othF b k:Int))=false:=by simp[hso]
    refine⟨fun hg=>?_,fun hg=>⟨0,th1 b.turns u.t1 u.w1 u.w0 (svZ b i).d.toNat,?_⟩⟩<;>rw[hg]at n1
    ·refine WpL.path (G 64) (rRight_0_oth b k u i (othF b k) (th1 b.turns u.t1 u.w1 u.w0 (svZ b i).d.toNat)) ?_ ⟨rfl,rfl⟩
     repeat(first|exact trivial|refine⟨by first|exact hlt|exact hi64|exact hix|exact hoc|exact e1|exact e2|exact e2'|exact e3|exact e3'|exact q1|exact j1|exact j2|exact n1|rfl|omega,?_⟩)
    ·refine WpL.path (G 64) (rRight_0_othx b k u i (othF b k) (th1 b.turns u.t1 u.w1 u.w0 (svZ b i).d.toNat)) ?_ ⟨rfl,rfl⟩
     repeat(first|exact trivial|refine⟨by first|exact hlt|exact hi64|exact hix|exact hoc|exact e1|exact e2|exact e2'|exact e3|exact e3'|exact q1|exact j1|exact j2|exact n1|rfl|omega,?_⟩)
   ·rw[if_neg hso]
    have e1:((svZ b i).s==(othF b k:Int))=false:=by simp[hso]
    have e3:decide ((svZ b i).s≠(othF b k:Int))=true:=decide_eq_true hso
    have e3':((svZ b i).s != (othF b k:Int))=true:=by simp[hso]
    refine⟨fun hg=>?_,fun hg=>by cases hg⟩
    refine WpL.path (G 64) (rRight_0_skip b k u i (othF b k) 0) ?_ ⟨rfl,rfl⟩
    repeat(first|exact trivial|refine⟨by first|exact hlt|exact hi64|exact hix|exact hoc|exact e1|exact e2|exact e2'|exact e3|exact e3'|rfl|omega,?_⟩)
 unfold right1
 rcases Ycz (fun i=>!sat1 b k (othF b k) u (svZ b i)) b.svs.length with ⟨m,hm,hb,hgood⟩|hgood
 ·have hbad:sat1 b k (othF b k) u (svZ b m)=false:=by simpa using hb
  have hall:((List.range b.svs.length).all fun i=>sat1 b k (othF b k) u (svZ b i))=false:=by
   rw[Bool.eq_false_iff]
   intro h
   rw[List.all_eq_true]at h
   have:=h m (List.mem_range.2 hm)
   rw[hbad]at this
   cases this
  rw[hall]
  obtain⟨c,z,hw⟩:=(hround m hm).2 hbad
  have hloop:LoopT PR glob 64 (k_138 [1,0,1]) (Ya5 b k u 0) .ret (rBadS b k u m (othF b k) z c) :=
   LoopT.count (tt:=Yac types) (id:=0) (c:=k_138 [1,0,1,0,0]) (by kernel_rfl) m (fun i=>Ya5 b k u i) (fun i hi=>(hround i (by omega)).1 (by have:=hgood i hi;simpa using this)) (hw.mono fun e1 L1 h=>⟨.inr ⟨h.1,rfl⟩,h.2⟩)
  match c,hloop with
  | 0,hloop =>
   refine Yaa (G 64) rRight_fn (rRight_oth b k u m (othF b k) z) ?_
   repeat(first|exact trivial|refine⟨by first|exact hloop|rfl|omega,?_⟩)
  | 1,hloop =>
   refine Yaa (G 64) rRight_fn (rRight_slf b k u m (othF b k) z) ?_
   repeat(first|exact trivial|refine⟨by first|exact hloop|rfl|omega,?_⟩)
  | n+2,hloop =>
   refine Yaa (G 64) rRight_fn (rRight_mid b k u m (othF b k) z) ?_
   repeat(first|exact trivial|refine⟨by first|exact hloop|rfl|omega,?_⟩)
 ·have hall:((List.range b.svs.length).all fun i=>sat1 b k (othF b k) u (svZ b i))=true:=List.all_eq_true.2 fun i hi=>by
   have:=hgood i (List.mem_range.1 hi)
   simpa using this
  rw[hall]
  have hloop:LoopT PR glob 64 (k_138 [1,0,1]) (Ya5 b k u 0) .normal (Ya5 b k u b.svs.length) :=
   LoopT.count (tt:=Yac types) (id:=0) (c:=k_138 [1,0,1,0,0]) (by kernel_rfl) b.svs.length (fun i=>Ya5 b k u i) (fun i hi=>(hround i hi).1 (by have:=hgood i hi;simpa using this)) (WpL.path (G 64) (rRight_0_end b k u _) ⟨decide_eq_false (Int.lt_irrefl _),trivial⟩ ⟨.inl ⟨rfl,rfl⟩,rfl⟩)
  refine Yaa (G 64) rRight_fn (rRight_yes b k u b.svs.length) ?_
  repeat(first|exact trivial|refine⟨by first|exact hloop|rfl|omega,?_⟩)
end Go.Di

namespace Go.Di
open Proofs
def tr6S (b:Book)(k o:Nat)(t0 t1 w0 w1:Int):List Tr1→List (Key×Val)
 | []=>trA_S6 b k o t0 t1 w0 w1
 | y::r=>trB_S6 b k o t0 t1 w0 w1 y r
def tr4S (b:Book)(k o:Nat)(t0 t1 w0:Int):List Tr1→List (Key×Val)
 | []=>trA_S4 b k o t0 t1 w0
 | y::r=>trB_S4 b k o t0 t1 w0 y r
def tr2S (b:Book)(k o:Nat)(t0 t1:Int):List Tr1→List (Key×Val)
 | []=>trA_S2 b k o t0 t1
 | y::r=>trB_S2 b k o t0 t1 y r
def tr0S (b:Book)(k o:Nat)(t0:Int):List Tr1→List (Key×Val)
 | []=>trA_S0 b k o t0
 | y::r=>trB_S0 b k o t0 y r
theorem lp_loop {nt id:Nat}{cb c:Code}(hb:cb=.block id (.loop c)){St:Int→List Tr1→List (Key×Val)}{lo hi:Int}{g:Int→List Tr1}{M N:Nat}(hlh:lo≤hi+1)(hM:∀ n,(g n).length≤M)(hN:(hi+1-lo).toNat*M≤N){K:Nat}
  (hround:∀ n l,lo≤n→n≤hi→l.length≤K+N→WpL PR (mk PR (Yac types) glob nt) c (St n l) fun e1 L1=>e1=.normal∧L1=St (n+1) (l++g n))
  (hend:∀ l,WpL PR (mk PR (Yac types) glob nt) c (St (hi+1) l) fun e1 L1=>e1=.exit id∧L1=St (hi+1) l) (l:List Tr1) (hl:l.length≤K) :
  LoopT PR glob nt cb (St lo l) .normal (St (hi+1) (l++lpF lo g (hi+1-lo).toNat)):=by
 have he:lo+((hi+1-lo).toNat:Int)=hi+1:=by omega
 have h:=LoopT.count (P:=PR) (tt:=Yac types) (glob:=glob) (n:=nt) hb (hi+1-lo).toNat (fun i=>St (lo+i) (l++lpF lo g i)) (e:=.normal) (L':=St (hi+1) (l++lpF lo g (hi+1-lo).toNat)) (fun i hi'=>?_) ?_
 ·have e0:St (lo+((0:Nat):Int)) (l++lpF lo g 0)=St lo l:=by simp[lpF]
  rw[e0]at h
  exact h
 ·have hlen:=lp_len (lo:=lo) hM i
  have hle:i*M≤N:=Nat.le_trans (Nat.mul_le_mul_right _ (by omega)) hN
  refine(hround (lo+i) (l++lpF lo g i) (by omega) (by omega) (by rw[List.length_append];omega)).mono fun e1 L1 h=>⟨h.1,?_⟩
  rw[h.2,lp_next,←List.append_assoc,show lo+((i+1:Nat):Int)=lo+i+1 by omega]
 ·show WpL _ _ _ (St (lo+((hi+1-lo).toNat:Int)) (l++lpF lo g (hi+1-lo).toNat)) _
  rw[he]
  exact(hend _).mono fun e1 L1 h=>⟨.inl ⟨h.1,rfl⟩,h.2⟩
section
variable {b:Book} {k:Nat}
theorem tr6_round (hV:Val9 b)(hk:k<b.secs.length){t0 t1 w0 w1:Int}(hu:Tame ⟨t0,t1,w0,w1⟩)(hw1:w1≤(b.secs.getD (othF b k) sec0).w.hi)(l:List Tr1)(hl:l.length≤10000) :
  WpL PR (mk PR (Yac types) glob 96) (Ybx [1,1,1,0,1,0,0,1,0,0,1,0,0,1,0,0,1,0,0,1,0,0,1,0,0]) (tr6S b k (othF b k) t0 t1 w0 w1 l) fun e1 L1=>e1=.normal∧L1=tr6S b k (othF b k) t0 t1 w0 (w1+1) (l++one1 b k (othF b k) t0 t1 w0 w1):=by
 have c1:=rOther_con hV hk
 have c2:=rRight_con hV hk hu
 have hle:decide (w1≤(b.secs.getD (othF b k) sec0).w.hi)=true:=decide_eq_true hw1
 have hi64:Yae (w1+1):=by
  have:=hu.w1
  simp only[Yae]at this ⊢
  omega
 have hz:∀ y r,l=y::r→(y::r++[(⟨t0,t1,w0,w1⟩:Tr1)]).length*(32+1)≤140737488355328:=fun y r e=>by subst e;simp only[List.length_append,List.length_cons,List.length_nil]at hl ⊢;omega
 have hadd:∀ x:Bool,right1 b k (othF b k) ⟨t0,t1,w0,w1⟩=x→(¬(k=othF b k∧¬(t0=t1∧w0=w1)))→one1 b k (othF b k) t0 t1 w0 w1=if x=true then [⟨t0,t1,w0,w1⟩] else []:=fun x hx hn=>by
  unfold one1
  rw[if_neg hn,hx]
 by_cases hko:k=othF b k
 ·have d1:((k:Int)==(othF b k:Int))=true:=by rw[beq_iff_eq];omega
  by_cases h1:t0=t1
  ·have d2:(t0 != t1)=false:=by simp[h1]
   by_cases h2:w0=w1
   ·have d3:(w0 != w1)=false:=by simp[h2]
    cases hr:right1 b k (othF b k) ⟨t0,t1,w0,w1⟩ with
    | true =>
     rw[hadd _ hr (fun h=>h.2 ⟨h1,h2⟩),if_pos rfl]
     rw[hr]at c2
     cases l with
     | nil =>
      refine WpL.path (G 96) (trA_6_e1 b k (othF b k) t0 t1 w0 w1) ?_ ⟨rfl,rfl⟩
      repeat(first|exact trivial|refine⟨by first|exact hle|exact c1|exact d1|exact d2|exact d3|exact c2|exact hi64|rfl|omega|(simp;omega),?_⟩)
     | cons y r =>
      have hz:=hz y r rfl
      refine WpL.path (G 96) (trB_6_e1 b k (othF b k) t0 t1 w0 w1 y r) ?_ ⟨rfl,rfl⟩
      repeat(first|exact trivial|refine⟨by first|exact hle|exact c1|exact d1|exact d2|exact d3|exact c2|exact hz|exact hi64|rfl|omega,?_⟩)
    | false =>
     rw[hadd _ hr (fun h=>h.2 ⟨h1,h2⟩),if_neg (by simp),List.append_nil]
     rw[hr]at c2
     cases l with
     | nil =>
      refine WpL.path (G 96) (trA_6_e0 b k (othF b k) t0 t1 w0 w1) ?_ ⟨rfl,rfl⟩
      repeat(first|exact trivial|refine⟨by first|exact hle|exact c1|exact d1|exact d2|exact d3|exact c2|exact hi64|rfl|omega,?_⟩)
     | cons y r =>
      refine WpL.path (G 96) (trB_6_e0 b k (othF b k) t0 t1 w0 w1 y r) ?_ ⟨rfl,rfl⟩
      repeat(first|exact trivial|refine⟨by first|exact hle|exact c1|exact d1|exact d2|exact d3|exact c2|exact hi64|rfl|omega,?_⟩)
   ·have d3:(w0 != w1)=true:=by simp[h2]
    have e:one1 b k (othF b k) t0 t1 w0 w1=[]:=by unfold one1;rw[if_pos ⟨hko,fun h=>h2 h.2⟩]
    rw[e,List.append_nil]
    cases l with
    | nil =>
     refine WpL.path (G 96) (trA_6_skip2 b k (othF b k) t0 t1 w0 w1) ?_ ⟨rfl,rfl⟩
     repeat(first|exact trivial|refine⟨by first|exact hle|exact c1|exact d1|exact d2|exact d3|exact hi64|rfl|omega,?_⟩)
    | cons y r =>
     refine WpL.path (G 96) (trB_6_skip2 b k (othF b k) t0 t1 w0 w1 y r) ?_ ⟨rfl,rfl⟩
     repeat(first|exact trivial|refine⟨by first|exact hle|exact c1|exact d1|exact d2|exact d3|exact hi64|rfl|omega,?_⟩)
  ·have d2:(t0 != t1)=true:=by simp[h1]
   have e:one1 b k (othF b k) t0 t1 w0 w1=[]:=by unfold one1;rw[if_pos ⟨hko,fun h=>h1 h.1⟩]
   rw[e,List.append_nil]
   cases l with
   | nil =>
    refine WpL.path (G 96) (trA_6_skip1 b k (othF b k) t0 t1 w0 w1) ?_ ⟨rfl,rfl⟩
    repeat(first|exact trivial|refine⟨by first|exact hle|exact c1|exact d1|exact d2|exact hi64|rfl|omega,?_⟩)
   | cons y r =>
    refine WpL.path (G 96) (trB_6_skip1 b k (othF b k) t0 t1 w0 w1 y r) ?_ ⟨rfl,rfl⟩
    repeat(first|exact trivial|refine⟨by first|exact hle|exact c1|exact d1|exact d2|exact hi64|rfl|omega,?_⟩)
 ·have d1:((k:Int)==(othF b k:Int))=false:=by rw[beq_eq_false_iff_ne];omega
  cases hr:right1 b k (othF b k) ⟨t0,t1,w0,w1⟩ with
  | true =>
   rw[hadd _ hr (fun h=>hko h.1),if_pos rfl]
   rw[hr]at c2
   cases l with
   | nil =>
    refine WpL.path (G 96) (trA_6_n1 b k (othF b k) t0 t1 w0 w1) ?_ ⟨rfl,rfl⟩
    repeat(first|exact trivial|refine⟨by first|exact hle|exact c1|exact d1|exact c2|exact hi64|rfl|omega|(simp;omega),?_⟩)
   | cons y r =>
    have hz:=hz y r rfl
    refine WpL.path (G 96) (trB_6_n1 b k (othF b k) t0 t1 w0 w1 y r) ?_ ⟨rfl,rfl⟩
    repeat(first|exact trivial|refine⟨by first|exact hle|exact c1|exact d1|exact c2|exact hz|exact hi64|rfl|omega,?_⟩)
  | false =>
   rw[hadd _ hr (fun h=>hko h.1),if_neg (by simp),List.append_nil]
   rw[hr]at c2
   cases l with
   | nil =>
    refine WpL.path (G 96) (trA_6_n0 b k (othF b k) t0 t1 w0 w1) ?_ ⟨rfl,rfl⟩
    repeat(first|exact trivial|refine⟨by first|exact hle|exact c1|exact d1|exact c2|exact hi64|rfl|omega,?_⟩)
   | cons y r =>
    refine WpL.path (G 96) (trB_6_n0 b k (othF b k) t0 t1 w0 w1 y r) ?_ ⟨rfl,rfl⟩
    repeat(first|exact trivial|refine⟨by first|exact hle|exact c1|exact d1|exact c2|exact hi64|rfl|omega,?_⟩)
theorem secw (hV:Val9 b)(hk:k<b.secs.length):SecOk (b.secs.getD k sec0):=hV.sec _ (Ybq b.secs k sec0 hk)
theorem tr6_loop (hV:Val9 b)(hk:k<b.secs.length){t0 t1 w0:Int}(h0:0≤t0∧t0≤200)(h1:0≤t1∧t1≤200)(h2:0≤w0∧w0≤3)(l:List Tr1)(hl:l.length≤1000) :
  LoopT PR glob 96 (Ybx [1,1,1,0,1,0,0,1,0,0,1,0,0,1,0,0,1,0,0,1,0,0,1]) (tr6S b k (othF b k) t0 t1 w0 (b.secs.getD (othF b k) sec0).w.lo l) .normal (tr6S b k (othF b k) t0 t1 w0 ((b.secs.getD (othF b k) sec0).w.hi+1) (l++g3 b k (othF b k) t0 t1 w0 (sp1 (b.secs.getD (othF b k) sec0).w))):=by
 have hs:=(secw hV (oth_lt hk)).w
 refine lp_loop (id:=6) (c:=Ybx [1,1,1,0,1,0,0,1,0,0,1,0,0,1,0,0,1,0,0,1,0,0,1,0,0]) (by kernel_rfl) (St:=fun n l=>tr6S b k (othF b k) t0 t1 w0 n l) (M:=1) (N:=10) (K:=1000) (by omega) (one1_len b k (othF b k) t0 t1 w0) (by omega) (fun n l a1 a2 a3=>tr6_round hV hk ⟨h0,h1,h2,by simp only;omega⟩ a2 l (by omega)) (fun l=>?_) l hl
 have hd:decide ((b.secs.getD (othF b k) sec0).w.hi+1≤(b.secs.getD (othF b k) sec0).w.hi)=false:=decide_eq_false (by omega)
 cases l with
 | nil=>exact WpL.path (G 96) (trA_6_end b k (othF b k) t0 t1 w0 _) ⟨by omega,hd,trivial⟩ ⟨rfl,rfl⟩
 | cons y r=>exact WpL.path (G 96) (trB_6_end b k (othF b k) t0 t1 w0 _ y r) ⟨by omega,hd,trivial⟩ ⟨rfl,rfl⟩
theorem tr4_round (hV:Val9 b)(hk:k<b.secs.length){t0 t1 w0:Int}(h0:0≤t0∧t0≤200)(h1:0≤t1∧t1≤200)(h2:0≤w0∧w0≤3)(hw:w0≤(b.secs.getD k sec0).w.hi)(l:List Tr1)(hl:l.length≤1000) :
  WpL PR (mk PR (Yac types) glob 96) (Ybx [1,1,1,0,1,0,0,1,0,0,1,0,0,1,0,0,1,0,0]) (tr4S b k (othF b k) t0 t1 w0 l) fun e1 L1=>e1=.normal∧L1=tr4S b k (othF b k) t0 t1 (w0+1) (l++g3 b k (othF b k) t0 t1 w0 (sp1 (b.secs.getD (othF b k) sec0).w)):=by
 have hloop:=tr6_loop hV hk h0 h1 h2 l hl
 have hle:decide (w0≤(b.secs.getD k sec0).w.hi)=true:=decide_eq_true hw
 have hi64:Yae (w0+1):=by simp only[Yae];omega
 generalize g3 b k (othF b k) t0 t1 w0 (sp1 (b.secs.getD (othF b k) sec0).w)=m at hloop
 cases l with
 | nil =>
  rw[List.nil_append]at hloop ⊢
  cases m with
  | nil =>
   refine WpL.path (G 96) (trA_4_nil b k (othF b k) t0 t1 w0 ((b.secs.getD (othF b k) sec0).w.hi+1)) ?_ ⟨rfl,rfl⟩
   repeat(first|exact trivial|refine⟨by first|exact hle|exact hloop|exact hi64|rfl|omega,?_⟩)
  | cons y r =>
   refine WpL.path (G 96) (trA_4_on b k (othF b k) t0 t1 w0 ((b.secs.getD (othF b k) sec0).w.hi+1) y r) ?_ ⟨rfl,rfl⟩
   repeat(first|exact trivial|refine⟨by first|exact hle|exact hloop|exact hi64|rfl|omega,?_⟩)
 | cons y r =>
  refine WpL.path (G 96) (trB_4_on b k (othF b k) t0 t1 w0 y r ((b.secs.getD (othF b k) sec0).w.hi+1) y (r++m)) ?_ ⟨rfl,rfl⟩
  repeat(first|exact trivial|refine⟨by first|exact hle|exact hloop|exact hi64|rfl|omega,?_⟩)
theorem tr4_loop (hV:Val9 b)(hk:k<b.secs.length){t0 t1:Int}(h0:0≤t0∧t0≤200)(h1:0≤t1∧t1≤200)(l:List Tr1)(hl:l.length≤900) :
  LoopT PR glob 96 (Ybx [1,1,1,0,1,0,0,1,0,0,1,0,0,1,0,0,1]) (tr4S b k (othF b k) t0 t1 (b.secs.getD k sec0).w.lo l) .normal (tr4S b k (othF b k) t0 t1 ((b.secs.getD k sec0).w.hi+1) (l++g2 b k (othF b k) t0 t1 (sp1 (b.secs.getD k sec0).w))):=by
 have hs:=(secw hV hk).w
 have hs':=(secw hV (oth_lt hk)).w
 have hM:∀ n,(g3 b k (othF b k) t0 t1 n (sp1 (b.secs.getD (othF b k) sec0).w)).length≤3:=fun n=>Nat.le_trans (g3_len b k (othF b k) t0 t1 n _) (by unfold sp1;omega)
 refine lp_loop (id:=4) (c:=Ybx [1,1,1,0,1,0,0,1,0,0,1,0,0,1,0,0,1,0,0]) (by kernel_rfl) (St:=fun n l=>tr4S b k (othF b k) t0 t1 n l) (M:=3) (N:=9) (K:=900) (by omega) hM (by omega) (fun n l a1 a2 a3=>tr4_round hV hk h0 h1 (by omega) a2 l (by omega)) (fun l=>?_) l hl
 have hd:decide ((b.secs.getD k sec0).w.hi+1≤(b.secs.getD k sec0).w.hi)=false:=decide_eq_false (by omega)
 cases l with
 | nil=>exact WpL.path (G 96) (trA_4_end b k (othF b k) t0 t1 _) ⟨by omega,hd,trivial⟩ ⟨rfl,rfl⟩
 | cons y r=>exact WpL.path (G 96) (trB_4_end b k (othF b k) t0 t1 _ y r) ⟨by omega,hd,trivial⟩ ⟨rfl,rfl⟩
theorem g2_len (hV:Val9 b)(hk:k<b.secs.length)(t0 t1:Int):(g2 b k (othF b k) t0 t1 (sp1 (b.secs.getD k sec0).w)).length≤9:=by
 have hs:=(secw hV hk).w
 have hs':=(secw hV (oth_lt hk)).w
 have hM:∀ n,(g3 b k (othF b k) t0 t1 n (sp1 (b.secs.getD (othF b k) sec0).w)).length≤3:=fun n=>Nat.le_trans (g3_len b k (othF b k) t0 t1 n _) (by unfold sp1;omega)
 have:=lp_len (lo:=(b.secs.getD k sec0).w.lo) hM (sp1 (b.secs.getD k sec0).w)
 have h3:sp1 (b.secs.getD k sec0).w≤3:=by unfold sp1;omega
 unfold g2
 omega
theorem tr2_round (hV:Val9 b)(hk:k<b.secs.length){t0 t1:Int}(h0:0≤t0∧t0≤200)(h1:0≤t1∧t1≤200)(hw:t1≤(b.secs.getD (othF b k) sec0).t.hi)(l:List Tr1)(hl:l.length≤900) :
  WpL PR (mk PR (Yac types) glob 96) (Ybx [1,1,1,0,1,0,0,1,0,0,1,0,0]) (tr2S b k (othF b k) t0 t1 l) fun e1 L1=>e1=.normal∧L1=tr2S b k (othF b k) t0 (t1+1) (l++g2 b k (othF b k) t0 t1 (sp1 (b.secs.getD k sec0).w)):=by
 have hloop:=tr4_loop hV hk h0 h1 l hl
 have hle:decide (t1≤(b.secs.getD (othF b k) sec0).t.hi)=true:=decide_eq_true hw
 have hi64:Yae (t1+1):=by simp only[Yae];omega
 generalize g2 b k (othF b k) t0 t1 (sp1 (b.secs.getD k sec0).w)=m at hloop
 cases l with
 | nil =>
  rw[List.nil_append]at hloop ⊢
  cases m with
  | nil =>
   refine WpL.path (G 96) (trA_2_nil b k (othF b k) t0 t1 ((b.secs.getD k sec0).w.hi+1)) ?_ ⟨rfl,rfl⟩
   repeat(first|exact trivial|refine⟨by first|exact hle|exact hloop|exact hi64|rfl|omega,?_⟩)
  | cons y r =>
   refine WpL.path (G 96) (trA_2_on b k (othF b k) t0 t1 ((b.secs.getD k sec0).w.hi+1) y r) ?_ ⟨rfl,rfl⟩
   repeat(first|exact trivial|refine⟨by first|exact hle|exact hloop|exact hi64|rfl|omega,?_⟩)
 | cons y r =>
  refine WpL.path (G 96) (trB_2_on b k (othF b k) t0 t1 y r ((b.secs.getD k sec0).w.hi+1) y (r++m)) ?_ ⟨rfl,rfl⟩
  repeat(first|exact trivial|refine⟨by first|exact hle|exact hloop|exact hi64|rfl|omega,?_⟩)
theorem tr2_loop (hV:Val9 b)(hk:k<b.secs.length){t0:Int}(h0:0≤t0∧t0≤200)(l:List Tr1)(hl:l.length≤800) :
  LoopT PR glob 96 (Ybx [1,1,1,0,1,0,0,1,0,0,1]) (tr2S b k (othF b k) t0 (b.secs.getD (othF b k) sec0).t.lo l) .normal (tr2S b k (othF b k) t0 ((b.secs.getD (othF b k) sec0).t.hi+1) (l++g1 b k (othF b k) t0 (sp1 (b.secs.getD (othF b k) sec0).t))):=by
 have hs:=(secw hV (oth_lt hk)).t
 refine lp_loop (id:=2) (c:=Ybx [1,1,1,0,1,0,0,1,0,0,1,0,0]) (by kernel_rfl) (St:=fun n l=>tr2S b k (othF b k) t0 n l) (M:=9) (N:=36) (K:=800) (by omega) (fun n=>g2_len hV hk t0 n) (by omega) (fun n l a1 a2 a3=>tr2_round hV hk h0 (by omega) a2 l (by omega)) (fun l=>?_) l hl
 have hd:decide ((b.secs.getD (othF b k) sec0).t.hi+1≤(b.secs.getD (othF b k) sec0).t.hi)=false:=decide_eq_false (by omega)
 cases l with
 | nil=>exact WpL.path (G 96) (trA_2_end b k (othF b k) t0 _) ⟨by omega,hd,trivial⟩ ⟨rfl,rfl⟩
 | cons y r=>exact WpL.path (G 96) (trB_2_end b k (othF b k) t0 _ y r) ⟨by omega,hd,trivial⟩ ⟨rfl,rfl⟩
theorem g1_len (hV:Val9 b)(hk:k<b.secs.length)(t0:Int):(g1 b k (othF b k) t0 (sp1 (b.secs.getD (othF b k) sec0).t)).length≤36:=by
 have hs:=(secw hV (oth_lt hk)).t
 have:=lp_len (lo:=(b.secs.getD (othF b k) sec0).t.lo) (fun n=>g2_len hV hk t0 n) (sp1 (b.secs.getD (othF b k) sec0).t)
 have h3:sp1 (b.secs.getD (othF b k) sec0).t≤4:=by unfold sp1;omega
 unfold g1
 omega
theorem tr0_round (hV:Val9 b)(hk:k<b.secs.length){t0:Int}(h0:0≤t0∧t0≤200)(hw:t0≤(b.secs.getD k sec0).t.hi)(l:List Tr1)(hl:l.length≤800) :
  WpL PR (mk PR (Yac types) glob 96) (Ybx [1,1,1,0,1,0,0]) (tr0S b k (othF b k) t0 l) fun e1 L1=>e1=.normal∧L1=tr0S b k (othF b k) (t0+1) (l++g1 b k (othF b k) t0 (sp1 (b.secs.getD (othF b k) sec0).t)):=by
 have hloop:=tr2_loop hV hk h0 l hl
 have hle:decide (t0≤(b.secs.getD k sec0).t.hi)=true:=decide_eq_true hw
 have hi64:Yae (t0+1):=by simp only[Yae];omega
 generalize g1 b k (othF b k) t0 (sp1 (b.secs.getD (othF b k) sec0).t)=m at hloop
 cases l with
 | nil =>
  rw[List.nil_append]at hloop ⊢
  cases m with
  | nil =>
   refine WpL.path (G 96) (trA_0_nil b k (othF b k) t0 ((b.secs.getD (othF b k) sec0).t.hi+1)) ?_ ⟨rfl,rfl⟩
   repeat(first|exact trivial|refine⟨by first|exact hle|exact hloop|exact hi64|rfl|omega,?_⟩)
  | cons y r =>
   refine WpL.path (G 96) (trA_0_on b k (othF b k) t0 ((b.secs.getD (othF b k) sec0).t.hi+1) y r) ?_ ⟨rfl,rfl⟩
   repeat(first|exact trivial|refine⟨by first|exact hle|exact hloop|exact hi64|rfl|omega,?_⟩)
 | cons y r =>
  refine WpL.path (G 96) (trB_0_on b k (othF b k) t0 y r ((b.secs.getD (othF b k) sec0).t.hi+1) y (r++m)) ?_ ⟨rfl,rfl⟩
  repeat(first|exact trivial|refine⟨by first|exact hle|exact hloop|exact hi64|rfl|omega,?_⟩)
theorem tr_con (hV:Val9 b)(hk:k<b.secs.length):Contract PR glob 115 [Yag b,.int .i64 (k:Int)] (.sl false .tr1 (Ybr b k)):=by
 have hs:=(secw hV hk).t
 have ho:=oth_lt hk
 have c1:=rOther_con hV hk
 have hend:decide ((b.secs.getD k sec0).t.hi+1≤(b.secs.getD k sec0).t.hi)=false:=decide_eq_false (by omega)
 have hloop:=lp_loop (nt:=96) (id:=0) (cb:=Ybx [1,1,1,0,1]) (c:=Ybx [1,1,1,0,1,0,0]) (by kernel_rfl) (St:=fun n l=>tr0S b k (othF b k) n l) (lo:=(b.secs.getD k sec0).t.lo) (hi:=(b.secs.getD k sec0).t.hi) (M:=36) (N:=144) (K:=0) (by omega) (fun n=>g1_len hV hk n) (by omega) (fun n l a1 a2 a3=>tr0_round hV hk (by omega) a2 l (by omega)) (fun l=>by
  cases l with
  | nil=>exact WpL.path (G 96) (trA_0_end b k (othF b k) _) ⟨by omega,hend,trivial⟩ ⟨rfl,rfl⟩
  | cons y r=>exact WpL.path (G 96) (trB_0_end b k (othF b k) _ y r) ⟨by omega,hend,trivial⟩ ⟨rfl,rfl⟩) [] (by simp)
 have e:[]++lpF (b.secs.getD k sec0).t.lo (fun t0=>g1 b k (othF b k) t0 (sp1 (b.secs.getD (othF b k) sec0).t)) ((b.secs.getD k sec0).t.hi+1-(b.secs.getD k sec0).t.lo).toNat=Ybr b k:=rfl
 rw[e]at hloop
 have i1:(0:Int)≤k∧(k:Int)<b.secs.length:=by omega
 have i2:(0:Int)≤(othF b k:Nat)∧((othF b k:Nat):Int)<b.secs.length:=by omega
 cases hw:Ybr b k with
 | nil =>
  rw[hw]at hloop
  refine(Yaa (G 96) trA_fn (trA_none b k (othF b k) ((b.secs.getD k sec0).t.hi+1)) ?_).toWeak
  repeat(first|exact trivial|refine⟨by first|exact i1|exact i2|exact c1|exact hloop|rfl|omega,?_⟩)
 | cons y r =>
  rw[hw]at hloop
  refine(Yaa (G 96) trA_fn (trA_some b k (othF b k) ((b.secs.getD k sec0).t.hi+1) y r) ?_).toWeak
  repeat(first|exact trivial|refine⟨by first|exact i1|exact i2|exact c1|exact hloop|rfl|omega,?_⟩)
end
end Go.Di

