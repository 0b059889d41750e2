/- Part 21: contracts are proved. No condition. -/
import Derived.Test.YtfkmodcjddfeiaaGreatDoorDi20
set_option linter.unusedVariables false
set_option linter.unusedSimpArgs false
namespace Go.Di
open Proofs
theorem stop_loop {nt id:Nat}{cb c:Code}(hb:cb=.block id (.loop c)){St:Bool→Nat→List (Key×Val)}(good:Nat→Bool)(N:Nat)
  (hon:∀ i,i<N→(∀ j<i,good j=true)→WpL PR (mk PR (Yac types) glob nt) c (St true i) fun e1 L1=>e1=.normal∧L1=St (good i) (i+1))
  (hno:∀ i,WpL PR (mk PR (Yac types) glob nt) c (St false i) fun e1 L1=>e1=.exit id∧L1=St false i)
  (hend:WpL PR (mk PR (Yac types) glob nt) c (St true N) fun e1 L1=>e1=.exit id∧L1=St true N) :
  ∃ i,LoopT PR glob nt cb (St true 0) .normal (St ((List.range N).all good) i)∧((List.range N).all good=true→i=N):=by
 rcases Ycz (fun i=>!good i) N with ⟨m,hm,hbad,hg⟩|hg
 ·have hbad:good m=false:=by simpa using hbad
  have hall:(List.range N).all good=false:=by
   rw[Bool.eq_false_iff]
   intro h
   rw[List.all_eq_true]at h
   have:=h m (List.mem_range.2 hm)
   rw[hbad]at this
   cases this
  rw[hall]
  refine⟨m+1,?_,fun h=>by cases h⟩
  have h:=LoopT.count (P:=PR) (tt:=Yac types) (glob:=glob) (n:=nt) hb (m+1) (fun i=>St (decide (i≤m)) i) (e:=.normal) (L':=St false (m+1)) (fun i hi=>?_) ?_
  ·rw[show decide (0≤m)=true from decide_eq_true (by omega)]at h
   exact h
  ·rw[show decide (i≤m)=true from decide_eq_true (by omega)]
   refine(hon i (by omega) (fun j hj=>by have:=hg j (by omega);simpa using this)).mono fun e1 L1 h=>⟨h.1,?_⟩
   rw[h.2]
   by_cases e:i=m
   ·subst e
    rw[hbad,show decide (i+1≤i)=false from decide_eq_false (by omega)]
   ·have hgi:good i=true:=by have:=hg i (by omega);simpa using this
    rw[hgi,show decide (i+1≤m)=true from decide_eq_true (by omega)]
  ·show WpL _ _ _ (St (decide (m+1≤m)) (m+1)) _
   rw[show decide (m+1≤m)=false from decide_eq_false (by omega)]
   exact(hno _).mono fun e1 L1 h=>⟨.inl ⟨h.1,rfl⟩,h.2⟩
 ·have hg:∀ i<N,good i=true:=fun i hi=>by have:=hg i hi;simpa using this
  have hall:(List.range N).all good=true:=List.all_eq_true.2 fun i hi=>hg i (List.mem_range.1 hi)
  rw[hall]
  refine⟨N,LoopT.count (tt:=Yac types) hb N (fun i=>St true i) (fun i hi=>?_) (hend.mono fun e1 L1 h=>⟨.inl ⟨h.1,rfl⟩,h.2⟩),fun _=>rfl⟩
  refine(hon i hi (fun j hj=>hg j (by omega))).mono fun e1 L1 h=>⟨h.1,?_⟩
  rw[h.2,hg i hi]
theorem no_loop {nt id:Nat}{cb c:Code}(hb:cb=.block id (.loop c)){L:List (Key×Val)}(hno:WpL PR (mk PR (Yac types) glob nt) c L fun e1 L1=>e1=.exit id∧L1=L):LoopT PR glob nt cb L .normal L :=
 LoopT.count (tt:=Yac types) hb 0 (fun _=>L) (fun i hi=>absurd hi (by omega)) (hno.mono fun e1 L1 h=>⟨.inl ⟨h.1,rfl⟩,h.2⟩)
theorem range_all {α:Type}(l:List α)(d:α)(f:α→Bool):(List.range l.length).all (fun i=>f (l.getD i d))=l.all f:=by
 rw[Bool.eq_iff_iff,List.all_eq_true,List.all_eq_true]
 constructor
 ·intro h x hx
  obtain⟨i,hi,rfl⟩:=List.getElem_of_mem hx
  have:=h i (List.mem_range.2 hi)
  rwa [List.getD_eq_getElem?_getD,List.getElem?_eq_getElem hi,Option.getD_some]at this
 ·intro h i hi
  exact h _ (Ybq l i d (List.mem_range.1 hi))
def secB (x:Sec):Bool:=Ybg x.t 0 200&&decide (x.t.hi-x.t.lo≤3)&&Ybg x.w 0 3&&decide (x.w.hi-x.w.lo≤2)
theorem secB_eq (x:Sec):secB x=Ydc x:=by
 rw[Bool.eq_iff_iff]
 simp only[secB,Ybg,Ydc,Ycw,Bool.and_eq_true,decide_eq_true_eq]
 omega
theorem rc_join1 (b:Book):LoopT PR glob 161 (k_56 [1,0]) (Ygm b) .normal (Ygk b (ok0F b)):=by
 have h0:=Ybc b.secs.length 1 4
 have h1':=Ybc b.days 1 30
 have h2':=Ybc b.rule 0 200
 unfold ok0F
 cases h1:Yab b.secs.length 1 4 with
 | false =>
  refine Yfm (rCheck_R1_a b) ?_ rfl
  repeat(first|exact trivial|refine⟨by first|exact h0|assumption|omega,?_⟩)
 | true =>
  cases h2:Yab b.days 1 30 with
  | false =>
   refine Yfm (rCheck_R1_b b) ?_ rfl
   repeat(first|exact trivial|refine⟨by first|exact h0|exact h1'|assumption|omega,?_⟩)
  | true =>
   cases h3:Yab b.rule 0 200 with
   | false =>
    refine Yfm (rCheck_R1_c b) ?_ rfl
    repeat(first|exact trivial|refine⟨by first|exact h0|exact h1'|exact h2'|assumption|omega,?_⟩)
   | true =>
    by_cases h4:b.turns.length≤4
    ·have h4':decide ((b.turns.length:Int)≤4)=true:=decide_eq_true (by omega)
     rw[show decide (b.turns.length≤4)=true from decide_eq_true h4,show decide (b.svs.length≤8)=decide ((b.svs.length:Int)≤8) from by simp only[decide_eq_decide];omega]
     refine Yfm (rCheck_R1_e b) ?_ rfl
     repeat(first|exact trivial|refine⟨by first|exact h0|exact h1'|exact h2'|assumption|omega,?_⟩)
    ·have h4':decide ((b.turns.length:Int)≤4)=false:=decide_eq_false (by omega)
     rw[show decide (b.turns.length≤4)=false from decide_eq_false h4]
     refine Yfm (rCheck_R1_d b) ?_ rfl
     repeat(first|exact trivial|refine⟨by first|exact h0|exact h1'|exact h2'|assumption|omega,?_⟩)
theorem rc_join7 (b:Book)(ok:Bool)(most:Int)(i:Nat):LoopT PR glob 161 (k_56 [1,1,1,0,1,0,0,1,0,0,1,0]) (rCheck_R7 b ok most i) .normal (rCheck_RS7 b ok most i (secB (b.secs.getD i sec0))):=by
 have c1:=validB_con (b.secs.getD i sec0).t 0 200
 have c2:=validB_con (b.secs.getD i sec0).w 0 3
 unfold secB
 cases h1:Ybg (b.secs.getD i sec0).t 0 200 with
 | false =>
  refine Yfm (rCheck_R7_a b ok most i) ?_ rfl
  repeat(first|exact trivial|refine⟨by first|exact c1|exact h1|omega,?_⟩)
 | true =>
  have v1:=h1
  simp only[Ybg,Bool.and_eq_true,decide_eq_true_eq]at v1
  have j1:Yae ((b.secs.getD i sec0).t.hi-(b.secs.getD i sec0).t.lo):=by simp only[Yae];omega
  by_cases h2:(b.secs.getD i sec0).t.hi-(b.secs.getD i sec0).t.lo≤3
  ·have d2:decide ((b.secs.getD i sec0).t.hi-(b.secs.getD i sec0).t.lo≤3)=true:=decide_eq_true h2
   rw[d2]
   cases h3:Ybg (b.secs.getD i sec0).w 0 3 with
   | false =>
    refine Yfm (rCheck_R7_c b ok most i) ?_ rfl
    repeat(first|exact trivial|refine⟨by first|exact c1|exact h1|exact j1|exact d2|exact c2|exact h3|omega,?_⟩)
   | true =>
    have v3:=h3
    simp only[Ybg,Bool.and_eq_true,decide_eq_true_eq]at v3
    have j2:Yae ((b.secs.getD i sec0).w.hi-(b.secs.getD i sec0).w.lo):=by simp only[Yae];omega
    refine Yfm (rCheck_R7_e b ok most i) ?_ rfl
    repeat(first|exact trivial|refine⟨by first|exact c1|exact h1|exact j1|exact d2|exact c2|exact h3|exact j2|omega,?_⟩)
  ·have d2:decide ((b.secs.getD i sec0).t.hi-(b.secs.getD i sec0).t.lo≤3)=false:=decide_eq_false h2
   rw[d2]
   refine Yfm (rCheck_R7_b b ok most i) ?_ rfl
   repeat(first|exact trivial|refine⟨by first|exact c1|exact h1|exact j1|exact d2|omega,?_⟩)
theorem rc_loop0 (b:Book)(hl:b.secs.length≤9223372036854775807)(ok:Bool):∃ i m,LoopT PR glob 161 (k_56 [1,1,1,0,1]) (Yck b ok 0 0) .normal (Yck b (ok&&b.secs.all Ydc) m i)∧((ok&&b.secs.all Ydc)=true→m=Yd4 b.secs):=by
 have hno:∀ m i,WpL PR (mk PR (Yac types) glob 161) (k_56 [1,1,1,0,1,0,0]) (Yck b false m i) fun e1 L1=>e1=.exit 0∧L1=Yck b false m i:=fun m i=>by
  refine WpL.path (G 161) (rCheck_0_no b false m i) ?_ ⟨rfl,rfl⟩
  repeat(first|exact trivial|refine⟨by first|rfl|omega,?_⟩)
 cases ok with
 | false=>exact⟨0,0,no_loop (id:=0) (c:=k_56 [1,1,1,0,1,0,0]) (by kernel_rfl) (hno 0 0),fun h=>by cases h⟩
 | true =>
  obtain⟨i,h1,h2⟩:=stop_loop (nt:=161) (id:=0) (cb:=k_56 [1,1,1,0,1]) (c:=k_56 [1,1,1,0,1,0,0]) (by kernel_rfl) (St:=fun ok i=>Yck b ok (Yd4 (b.secs.take i)) i) (fun i=>secB (b.secs.getD i sec0)) b.secs.length (fun i hi hg=>by
   have hlt:decide ((i:Int)<b.secs.length)=true:=decide_eq_true (by omega)
   have hix:(0:Int)≤i∧(i:Int)<b.secs.length:=by omega
   have hi64:Yae ((i:Int)+1):=by simp only[Yae];omega
   have hj:=rc_join7 b true (Yd4 (b.secs.take i)) i
   have hm:Yd4 (b.secs.take (i+1))=mx (Yd4 (b.secs.take i)) (b.secs.getD i sec0).w.hi:=Yba (fun m (x:Sec)=>mx m x.w.hi) b.secs 0 i sec0 hi
   refine WpL.path (G 161) (rCheck_0_on b true (Yd4 (b.secs.take i)) i (secB (b.secs.getD i sec0))) ?_ ⟨rfl,by rw[hm];rfl⟩
   repeat(first|exact trivial|refine⟨by first|exact hlt|exact hix|exact hj|exact hi64|rfl|omega,?_⟩)) (fun i=>hno _ i) (by
   have hlt:decide ((b.secs.length:Int)<b.secs.length)=false:=decide_eq_false (by omega)
   refine WpL.path (G 161) (rCheck_0_end b true _ b.secs.length) ?_ ⟨rfl,rfl⟩
   repeat(first|exact trivial|refine⟨by first|exact hlt|rfl|omega,?_⟩))
  have e:((List.range b.secs.length).all fun i=>secB (b.secs.getD i sec0))=(true&&b.secs.all Ydc):=by
   rw[range_all b.secs sec0 secB,Bool.true_and]
   congr 1
   exact funext secB_eq
  rw[e]at h1 h2
  refine⟨i,Yd4 (b.secs.take i),h1,fun h=>?_⟩
  rw[h2 h,List.take_length]
theorem rc_loop2 (b:Book)(hl:b.secs.length≤9223372036854775807)(ok:Bool)(m:Int)(hm:ok=true→Yae (b.days*m)):∃ i,LoopT PR glob 161 (k_56 [1,1,1,1,0,1]) (Ycj b ok m 0) .normal (Ycj b (ok&&b.secs.all fun x=>decide (x.t.lo≥b.days*m)) m i):=by
 have hno:∀ i,WpL PR (mk PR (Yac types) glob 161) (k_56 [1,1,1,1,0,1,0,0]) (Ycj b false m i) fun e1 L1=>e1=.exit 2∧L1=Ycj b false m i:=fun i=>by
  refine WpL.path (G 161) (rCheck_2_no b false m i) ?_ ⟨rfl,rfl⟩
  repeat(first|exact trivial|refine⟨by first|rfl|omega,?_⟩)
 cases ok with
 | false=>exact⟨0,no_loop (id:=2) (c:=k_56 [1,1,1,1,0,1,0,0]) (by kernel_rfl) (hno 0)⟩
 | true =>
  have hm:=hm rfl
  obtain⟨i,h1,h2⟩:=stop_loop (nt:=161) (id:=2) (cb:=k_56 [1,1,1,1,0,1]) (c:=k_56 [1,1,1,1,0,1,0,0]) (by kernel_rfl) (St:=fun ok i=>Ycj b ok m i) (fun i=>decide ((b.secs.getD i sec0).t.lo≥b.days*m)) b.secs.length (fun i hi hg=>by
   have hlt:decide ((i:Int)<b.secs.length)=true:=decide_eq_true (by omega)
   have hix:(0:Int)≤i∧(i:Int)<b.secs.length:=by omega
   have hi64:Yae ((i:Int)+1):=by simp only[Yae];omega
   refine WpL.path (G 161) (rCheck_2_on b true m i) ?_ ⟨rfl,rfl⟩
   repeat(first|exact trivial|refine⟨by first|exact hlt|exact hix|exact hm|exact hi64|rfl|omega,?_⟩)) (fun i=>hno i) (by
   have hlt:decide ((b.secs.length:Int)<b.secs.length)=false:=decide_eq_false (by omega)
   refine WpL.path (G 161) (rCheck_2_end b true m b.secs.length) ?_ ⟨rfl,rfl⟩
   repeat(first|exact trivial|refine⟨by first|exact hlt|rfl|omega,?_⟩))
  rw[range_all b.secs sec0 fun x=>decide (x.t.lo≥b.days*m)]at h1
  exact⟨i,h1⟩
def turnB (b:Book)(i:Nat):Bool:=Yab (b.turns.getD i 0) 1 b.days&&(decide (i=0)||decide (b.turns.getD i 0>b.turns.getD (i-1) 0))
theorem turnB_fold (b:Book):∀ i,i≤b.turns.length→(b.turns.take i).foldl (Ydn b.days) (true,0)=((List.range i).all (turnB b),if i=0 then 0 else b.turns.getD (i-1) 0)
 | 0,_=>rfl
 | i+1,hi=>by
  have h:=Yba (Ydn b.days) b.turns (true,0) i 0 (by omega)
  rw[h,turnB_fold b i (by omega),List.range_succ,List.all_append]
  simp only[Ydn,List.all_cons,List.all_nil,Bool.and_true]
  rw[show(if i+1=0 then(0:Int) else b.turns.getD (i+1-1) 0)=b.turns.getD i 0 from if_neg (by omega)]
  congr 1
  cases ha:(List.range i).all (turnB b) with
  | false=>rfl
  | true =>
   rw[Bool.true_and,Bool.true_and]
   unfold turnB
   rw[Bool.eq_iff_iff]
   simp only[Bool.and_eq_true,Bool.or_eq_true,Yat,decide_eq_true_eq]
   by_cases e:i=0
   ·rw[if_pos e]
    omega
   ·rw[if_neg e]
    rw[List.all_eq_true]at ha
    have hp:=ha (i-1) (List.mem_range.2 (by omega))
    unfold turnB at hp
    rw[Bool.and_eq_true,Yat]at hp
    have hp:=hp.1
    generalize b.turns.getD (i-1) 0=q at hp
    generalize b.turns.getD i 0=p
    omega
theorem rc_loop4 (b:Book)(hl:b.turns.length≤9223372036854775807)(ok:Bool):∃ i,LoopT PR glob 161 (k_56 [1,1,1,1,1,0,1]) (Yb1 b ok 0) .normal (Yb1 b (ok&&risesF b.days b.turns) i):=by
 have hno:∀ i,WpL PR (mk PR (Yac types) glob 161) (k_56 [1,1,1,1,1,0,1,0,0]) (Yb1 b false i) fun e1 L1=>e1=.exit 4∧L1=Yb1 b false i:=fun i=>by
  refine WpL.path (G 161) (rCheck_4_no b false i) ?_ ⟨rfl,rfl⟩
  repeat(first|exact trivial|refine⟨by first|rfl|omega,?_⟩)
 cases ok with
 | false=>exact⟨0,no_loop (id:=4) (c:=k_56 [1,1,1,1,1,0,1,0,0]) (by kernel_rfl) (hno 0)⟩
 | true =>
  obtain⟨i,h1,h2⟩:=stop_loop (nt:=161) (id:=4) (cb:=k_56 [1,1,1,1,1,0,1]) (c:=k_56 [1,1,1,1,1,0,1,0,0]) (by kernel_rfl) (St:=fun ok i=>Yb1 b ok i) (turnB b) b.turns.length (fun i hi hg=>by
   have hlt:decide ((i:Int)<b.turns.length)=true:=decide_eq_true (by omega)
   have hix:(0:Int)≤i∧(i:Int)<b.turns.length:=by omega
   have hi64:Yae ((i:Int)+1):=by simp only[Yae];omega
   have c:=Ybc (b.turns.getD i 0) 1 b.days
   unfold turnB
   cases hw:Yab (b.turns.getD i 0) 1 b.days with
   | false =>
    refine WpL.path (G 161) (rCheck_4_a b true i) ?_ ⟨rfl,rfl⟩
    repeat(first|exact trivial|refine⟨by first|exact hlt|exact hix|exact c|exact hw|exact hi64|rfl|omega,?_⟩)
   | true =>
    by_cases h0:i=0
    ·have d0:((i:Int)==0)=true:=by rw[beq_iff_eq];omega
     rw[decide_eq_true h0]
     refine WpL.path (G 161) (rCheck_4_b b true i) ?_ ⟨rfl,rfl⟩
     repeat(first|exact trivial|refine⟨by first|exact hlt|exact hix|exact c|exact hw|exact d0|exact hi64|rfl|omega,?_⟩)
    ·have d0:((i:Int)==0)=false:=by rw[beq_eq_false_iff_ne];omega
     have hj:Yae ((i:Int)-1):=by simp only[Yae];omega
     have hjx:(0:Int)≤(i:Int)-1∧(i:Int)-1<b.turns.length:=by omega
     have e:((i:Int)-1).toNat=i-1:=by omega
     rw[decide_eq_false h0,Bool.false_or,Bool.true_and,←e]
     refine WpL.path (G 161) (rCheck_4_c b true i) ?_ ⟨rfl,rfl⟩
     repeat(first|exact trivial|refine⟨by first|exact hlt|exact hix|exact c|exact hw|exact d0|exact hj|exact hjx|exact hi64|rfl|omega,?_⟩)) (fun i=>hno i) (by
   have hlt:decide ((b.turns.length:Int)<b.turns.length)=false:=decide_eq_false (by omega)
   refine WpL.path (G 161) (rCheck_4_end b true b.turns.length) ?_ ⟨rfl,rfl⟩
   repeat(first|exact trivial|refine⟨by first|exact hlt|rfl|omega,?_⟩))
  have e:(List.range b.turns.length).all (turnB b)=risesF b.days b.turns:=by
   have:=turnB_fold b b.turns.length (Nat.le_refl _)
   rw[List.take_length]at this
   unfold risesF
   rw[this]
  rw[e]at h1
  exact⟨i,h1⟩
theorem rc_loop6 (b:Book)(hs:b.secs.length≤9223372036854775807)(hl:b.svs.length≤9223372036854775807)(ok:Bool):∃ i,LoopT PR glob 161 (k_56 [1,1,1,1,1,1,0,1]) (Yci b ok 0) .normal (Yci b (ok&&b.svs.all fun y=>Ya6 b y) i):=by
 have hno:∀ i,WpL PR (mk PR (Yac types) glob 161) (k_56 [1,1,1,1,1,1,0,1,0,0]) (Yci b false i) fun e1 L1=>e1=.exit 6∧L1=Yci b false i:=fun i=>by
  refine WpL.path (G 161) (rCheck_6_no b false i) ?_ ⟨rfl,rfl⟩
  repeat(first|exact trivial|refine⟨by first|rfl|omega,?_⟩)
 cases ok with
 | false=>exact⟨0,no_loop (id:=6) (c:=k_56 [1,1,1,1,1,1,0,1,0,0]) (by kernel_rfl) (hno 0)⟩
 | true =>
  obtain⟨i,h1,h2⟩:=stop_loop (nt:=161) (id:=6) (cb:=k_56 [1,1,1,1,1,1,0,1]) (c:=k_56 [1,1,1,1,1,1,0,1,0,0]) (by kernel_rfl) (St:=fun ok i=>Yci b ok i) (fun i=>Ya6 b (b.svs.getD i sv0)) b.svs.length (fun i hi hg=>by
   have hlt:decide ((i:Int)<b.svs.length)=true:=decide_eq_true (by omega)
   have hix:(0:Int)≤i∧(i:Int)<b.svs.length:=by omega
   have hi64:Yae ((i:Int)+1):=by simp only[Yae];omega
   have c:=rSurvey_con b (b.svs.getD i sv0) hs
   refine WpL.path (G 161) (rCheck_6_on b true i (Ya6 b (b.svs.getD i sv0))) ?_ ⟨rfl,rfl⟩
   repeat(first|exact trivial|refine⟨by first|exact hlt|exact hix|exact c|exact hi64|rfl|omega,?_⟩)) (fun i=>hno i) (by
   have hlt:decide ((b.svs.length:Int)<b.svs.length)=false:=decide_eq_false (by omega)
   refine WpL.path (G 161) (rCheck_6_end b true b.svs.length) ?_ ⟨rfl,rfl⟩
   repeat(first|exact trivial|refine⟨by first|exact hlt|rfl|omega,?_⟩))
  rw[range_all b.svs sv0 fun y=>Ya6 b y]at h1
  exact⟨i,h1⟩
theorem rCheck_con {b:Book}(hs:Small b):Contract PR glob 56 [Yag b] (.int .i64 (Yah b)):=by
 have hj:=rc_join1 b
 obtain⟨i1,m,h1,hm⟩:=rc_loop0 b hs.secs (ok0F b)
 have hday:(ok0F b&&b.secs.all Ydc)=true→Yae (b.days*m):=fun h=>by
  rw[hm h,Int.mul_comm]
  exact most_days (by rw[ok1_eq];exact h)
 obtain⟨i2,h2⟩:=rc_loop2 b hs.secs _ m hday
 obtain⟨i3,h3⟩:=rc_loop4 b hs.turns ((ok0F b&&b.secs.all Ydc)&&b.secs.all fun x=>decide (x.t.lo≥b.days*m))
 obtain⟨i4,h4⟩:=rc_loop6 b hs.secs hs.svs (((ok0F b&&b.secs.all Ydc)&&b.secs.all fun x=>decide (x.t.lo≥b.days*m))&&risesF b.days b.turns)
 have he:(((((ok0F b&&b.secs.all Ydc)&&b.secs.all fun x=>decide (x.t.lo≥b.days*m))&&risesF b.days b.turns)&&b.svs.all fun y=>Ya6 b y))=Yd7 b:=by
  have q4:ok4F b b.svs=((ok3F b b.turns).1&&b.svs.all fun x=>Ya6 b x):=Ygr _ _ _
  have q3:(ok3F b b.turns).1=(ok2F b b.secs&&risesF b.days b.turns):=Yfe _ _ _
  unfold Yd7
  rw[q4,q3,ok2_eq,ok1_eq]
  cases ha:(ok0F b&&b.secs.all Ydc) with
  | false=>rfl
  | true =>
   rw[hm ha,Int.mul_comm]
   simp only[Bool.true_and]
 rw[he]at h4
 generalize (((ok0F b&&b.secs.all Ydc)&&b.secs.all fun x=>decide (x.t.lo≥b.days*m))&&risesF b.days b.turns)=k3 at h3 h4
 generalize ((ok0F b&&b.secs.all Ydc)&&b.secs.all fun x=>decide (x.t.lo≥b.days*m))=k2 at h2 h3
 generalize (ok0F b&&b.secs.all Ydc)=k1 at h1 h2
 unfold Yah
 cases hv:Yd7 b with
 | true =>
  rw[hv]at h4
  refine Yaa (G 161) rCheck_fn (rCheck_good b (ok0F b) k1 k2 k3 true m i1 i2 i3 i4) ?_
  repeat(first|exact trivial|refine⟨by first|exact hj|exact h1|exact h2|exact h3|exact h4|rfl|omega,?_⟩)
 | false =>
  rw[hv]at h4
  refine Yaa (G 161) rCheck_fn (rCheck_bad b (ok0F b) k1 k2 k3 false m i1 i2 i3 i4) ?_
  repeat(first|exact trivial|refine⟨by first|exact hj|exact h1|exact h2|exact h3|exact h4|rfl|omega,?_⟩)
end Go.Di

namespace Go.Di
open Proofs
theorem take_snoc {α:Type}(l:List α)(j:Nat)(d:α)(h:j<l.length):l.take (j+1)=l.take j++[l.getD j d]:=by
 rw[List.take_add_one,List.getElem?_eq_getElem h,List.getD_eq_getElem?_getD,List.getElem?_eq_getElem h];rfl
theorem first_false (f:Nat→Bool):∀ m,∃ n,n≤m∧(∀ i,i<n→f i=true)∧(f n=false∨n=m)
 | 0=>⟨0,Nat.le_refl _,fun i hi=>by omega,.inr rfl⟩
 | m+1=>by
  obtain⟨n,h1,h2,h3⟩:=first_false f m
  rcases h3 with h|rfl
  ·exact⟨n,by omega,h2,.inl h⟩
  ·cases h:f n with
   | false=>exact⟨n,by omega,h2,.inl h⟩
   | true =>
    refine⟨n+1,Nat.le_refl _,fun i hi=>?_,.inr rfl⟩
    by_cases hin:i=n
    ·subst hin;exact h
    ·exact h2 i (by omega)
theorem pair_adj {α:Type}(R:α→α→Prop)(tr:∀ a b c,R a b→R b c→R a c)(d:α):∀ l:List α,(∀ i,0<i→i<l.length→R (l.getD (i-1) d) (l.getD i d))→l.Pairwise R
 | [],_=>List.Pairwise.nil
 | [a],_=>List.pairwise_singleton R a
 | a::b::l,h=>by
  have ih:=pair_adj R tr d (b::l) fun i h0 hi=>by
   have:=h (i+1) (by omega) (by simp at hi ⊢;omega)
   obtain⟨j,rfl⟩:∃ j,i=j+1:=⟨i-1,by omega⟩
   simpa using this
  have hab:R a b:=by simpa using h 1 (by omega) (by simp)
  refine List.pairwise_cons.2 ⟨fun c hc=>?_,ih⟩
  rcases List.mem_cons.1 hc with rfl|hc
  ·exact hab
  ·exact tr _ _ _ hab ((List.pairwise_cons.1 ih).1 c hc)
theorem adj_pair {α:Type}{R:α→α→Prop}(d:α){l:List α}(h:l.Pairwise R){i:Nat}(h0:0<i)(hi:i<l.length):R (l.getD (i-1) d) (l.getD i d):=by
 rw[List.getD_eq_getElem?_getD,List.getD_eq_getElem?_getD,List.getElem?_eq_getElem hi,List.getElem?_eq_getElem (show i-1<l.length by omega)]
 exact List.pairwise_iff_getElem.1 h (i-1) i (by omega) hi (by omega)
theorem rises_of {days:Int}:∀(l:List Int) (n:Int),-1≤n→l.Pairwise (·<·)→(∀ d∈l,n<d∧d≤days)→(l.foldl (Ydn days) (true,n)).1=true
 | [],n,_,_,_=>rfl
 | t::l,n,hn,hp,h=>by
  obtain⟨h1,h2⟩:=List.pairwise_cons.1 hp
  have ht:=h t (by simp)
  simp only[List.foldl_cons,Ydn,Bool.true_and]
  rw[show Yab t (n+1) days=true from Yat.2 (by omega)]
  exact rises_of l t (by omega) h2 fun d hd=>⟨h1 d hd,(h d (by simp[hd])).2⟩
theorem climbs_iff {l:List Int}{m:Int}:Ych l m=true↔l.Pairwise (·<·)∧∀ z∈l,0≤z∧z<m:=by
 unfold Ych climbAt Yfn
 simp only[List.all_eq_true,List.mem_range,Bool.and_eq_true,decide_eq_true_eq,Bool.not_eq_true',Bool.and_eq_false_iff,decide_eq_false_iff_not]
 constructor
 ·intro h
  refine⟨pair_adj _ (fun a b c h1 h2=>by omega) 0 l fun i h0 hi=>?_,fun z hz=>?_⟩
  ·rcases (h i hi).2 with h1|h1<;>omega
  ·obtain⟨j,hj,rfl⟩:=mem_iff_getD.1 hz
   have:=(h j hj).1
   omega
 ·rintro⟨h1,h2⟩ i hi
  have h3:=h2 _ (Yc0 0 hi)
  refine⟨by omega,?_⟩
  by_cases h0:i>0
  ·have:=adj_pair 0 h1 h0 hi
   exact .inr (by omega)
  ·exact .inl h0
def okR (x:FBook):Bool:=(Yah x.chain==0)&&decide (x.feet.length=x.chain.secs.length)&&Yab x.new 0 200&&decide (x.opn.length≤4)&&Ych x.opn (x.chain.days+1)&&Yab x.stock 0 200&&Yab x.make 0 9
theorem rck_join (x:FBook)(hs:FSmall x):LF 67 (k_19 [1,0]) (rck_R1 x) .normal (Yet x (okR x)):=by
 have c0:=(rCheck_con hs.chain).up
 have c1:=(Ybc x.new 0 200).up
 have c2:=(Ybc x.stock 0 200).up
 have c3:=(Ybc x.make 0 9).up
 unfold okR
 cases h1:(Yah x.chain==0) with
 | false =>
  refine joinF (rck_R1_a x) ?_ rfl
  repeat(first|exact trivial|refine⟨by first|exact h1|exact c0,?_⟩)
 | true =>
  have hd:=(Ycq.1 (check_zero.symm.trans h1)).days
  have c4:=(climbs_con x.opn (x.chain.days+1) hs.opn (by omega)).up
  have hi:Yae (x.chain.days+1):=Yap (by omega) (by omega)
  by_cases h2:(x.feet.length:Int)=x.chain.secs.length
  ·have h2':((x.feet.length:Int)==(x.chain.secs.length:Int))=true:=beq_iff_eq.2 h2
   rw[decide_eq_true (show x.feet.length=x.chain.secs.length by omega)]
   cases h3:Yab x.new 0 200 with
   | false =>
    refine joinF (rck_R1_c x) ?_ rfl
    rw[h3]at c1
    repeat(first|exact trivial|refine⟨by first|exact h1|exact h2'|exact h3|exact c0|exact c1|rw[h3];exact c1|omega,?_⟩)
   | true =>
    rw[h3]at c1
    by_cases h4:x.opn.length≤4
    ·have h4':decide ((x.opn.length:Int)≤4)=true:=decide_eq_true (by omega)
     rw[decide_eq_true h4]
     cases h5:Ych x.opn (x.chain.days+1) with
     | false =>
      refine joinF (rck_R1_e x) ?_ rfl
      repeat(first|exact trivial|refine⟨by first|exact h1|exact h2'|exact h3|exact h4'|exact h5|exact hi|exact c0|exact c1|exact c4|rw[h3];exact c1|omega,?_⟩)
     | true =>
      cases h6:Yab x.stock 0 200 with
      | false =>
       refine joinF (rck_R1_f x) ?_ rfl
       repeat(first|exact trivial|refine⟨by first|exact h1|exact h2'|exact h3|exact h4'|exact h5|exact h6|exact hi|exact c0|exact c1|exact c2|exact c4|rw[h3];exact c1|omega,?_⟩)
      | true =>
       refine joinF (rck_R1_g x) ?_ rfl
       repeat(first|exact trivial|refine⟨by first|exact h1|exact h2'|exact h3|exact h4'|exact h5|exact h6|exact hi|exact c0|exact c1|exact c2|exact c3|exact c4|rw[h3];exact c1|omega,?_⟩)
    ·have h4':decide ((x.opn.length:Int)≤4)=false:=decide_eq_false (by omega)
     rw[decide_eq_false h4]
     refine joinF (rck_R1_d x) ?_ rfl
     repeat(first|exact trivial|refine⟨by first|exact h1|exact h2'|exact h3|exact h4'|exact c0|exact c1|rw[h3];exact c1|omega,?_⟩)
  ·have h2':((x.feet.length:Int)==(x.chain.secs.length:Int))=false:=beq_eq_false_iff_ne.2 h2
   rw[decide_eq_false (show ¬x.feet.length=x.chain.secs.length by omega)]
   refine joinF (rck_R1_b x) ?_ rfl
   repeat(first|exact trivial|refine⟨by first|exact h1|exact h2'|exact c0,?_⟩)
def okAt (x:FBook)(i:Nat):Bool:=okR x&&(x.feet.take i).all fun n=>Yab n 1 30
theorem okAt_succ (x:FBook){i:Nat}(h:i<x.feet.length):okAt x (i+1)=(okAt x i&&Yab (x.feet.getD i 0) 1 30):=by
 unfold okAt
 rw[take_snoc x.feet i 0 h,List.all_append,←Bool.and_assoc]
 simp
theorem okAt_false (x:FBook){i:Nat}(h:okAt x i=false):okAt x x.feet.length=false:=by
 cases hb:okAt x x.feet.length with
 | false=>rfl
 | true =>
  unfold okAt at h hb
  rw[Bool.and_eq_true,List.take_length,List.all_eq_true]at hb
  rw[hb.1,Bool.true_and,List.all_eq_false]at h
  obtain⟨n,hn,h2⟩:=h
  exact absurd (hb.2 n (List.mem_of_mem_take hn)) h2
theorem okAt_valid (x:FBook):okAt x x.feet.length=Ydb x:=by
 rw[Bool.eq_iff_iff,Ydt]
 unfold okAt okR
 rw[List.take_length]
 simp only[Bool.and_eq_true,decide_eq_true_eq,Yat,climbs_iff,check_zero,List.all_eq_true,Ycq]
 constructor
 ·rintro⟨⟨⟨⟨⟨⟨⟨h1,h2⟩,h3⟩,h4⟩,h5,h5'⟩,h6⟩,h7⟩,h8⟩
  exact⟨h1,h2,h3,h4,h6,h7,h8,rises_of x.opn (-1) (by omega) h5 fun d hd=>by have:=h5' d hd;omega⟩
 ·intro h
  exact⟨⟨⟨⟨⟨⟨⟨h.chain,h.feet⟩,h.new⟩,h.opnl⟩,h.opn.2,fun d hd=>by have:=h.opn.1 d hd;omega⟩,h.stock⟩,h.make⟩,h.each⟩
theorem rCk_con {x:FBook}(hs:FSmall x):CF 19 [Yad x] (.int .i64 (fcheckF x)):=by
 have hl:=hs.feet
 obtain⟨n,hn,h1,h2⟩:=first_false (okAt x) x.feet.length
 have hend:okAt x n=Ydb x:=by
  rw[←okAt_valid]
  rcases h2 with h2|rfl
  ·rw[h2,okAt_false x h2]
  ·rfl
 have hloop:LF 67 (k_19 [1,1,0,1]) (Yfh x (okAt x 0) 0) .normal (Yfh x (okAt x n) n):=by
  refine LF.each (id:=0) (c:=k_19 [1,1,0,1,0,0]) (by kernel_rfl) n (fun i=>Yfh x (okAt x i) i) (fun i hi=>?_) ?_
  ·have hok:=h1 i hi
   have c:=(Ybc (x.feet.getD i 0) 1 30).up
   have hi64:Yae ((i:Int)+1):=by simp only[Yae];omega
   exact⟨_,_,_,_,_,_,rck_0_on x (okAt x i) i (Yab (x.feet.getD i 0) 1 30),by repeat(first|exact trivial|refine⟨by first|exact hok|exact c|exact Yaq (show i<x.feet.length by omega)|exact hi64|omega,?_⟩),by rw[okAt_succ x (by omega),hok];rfl⟩
  ·rcases h2 with h2|rfl
   ·exact⟨_,_,_,_,_,_,_,rck_0_stop x (okAt x n) n,by repeat(first|exact trivial|refine⟨by exact h2,?_⟩),.inl ⟨rfl,rfl⟩,rfl⟩
   ·cases hb:okAt x x.feet.length with
    | false=>exact⟨_,_,_,_,_,_,_,rck_0_stop x false _,by repeat(first|exact trivial|refine⟨by rfl,?_⟩),.inl ⟨rfl,rfl⟩,rfl⟩
    | true=>exact⟨_,_,_,_,_,_,_,rck_0_end x true _,by repeat(first|exact trivial|refine⟨by first|rfl|exact Yaz,?_⟩),.inl ⟨rfl,rfl⟩,rfl⟩
 rw[hend]at hloop
 have h0:okAt x 0=okR x:=by unfold okAt;simp
 rw[h0]at hloop
 unfold fcheckF
 cases h:Ydb x with
 | false =>
  rw[h]at hloop
  exact Yaa (GF 67) rck_fn (rck_bad x _ _) ⟨rck_join x hs,hloop,trivial⟩
 | true =>
  rw[h]at hloop
  exact Yaa (GF 67) rck_fn (rck_good x _ _) ⟨rck_join x hs,hloop,trivial⟩
end Go.Di

namespace Go.Di
open Proofs
theorem rbef_con (a b:Work):CF 84 [wkD a,wkD b] (.bool (decide (a.d<b.d)||(decide (a.d=b.d)&&decide (a.s<b.s)))):=by
 by_cases h1:a.d<b.d
 ·rw[decide_eq_true h1]
  exact Yaa (GF 24) rbef_fn (rbef_lt a b) (by repeat(first|exact trivial|refine⟨by first|exact decide_eq_true h1|omega,?_⟩))
 ·rw[decide_eq_false h1,Bool.false_or]
  have h1':=decide_eq_false h1
  by_cases h2:a.d=b.d
  ·have h2':(a.d==b.d)=true:=beq_iff_eq.2 h2
   rw[decide_eq_true h2,Bool.true_and]
   exact Yaa (GF 24) rbef_fn (rbef_eq a b) (by repeat(first|exact trivial|refine⟨by first|exact h1'|exact h2'|omega,?_⟩))
  ·have h2':(a.d==b.d)=false:=beq_eq_false_iff_ne.2 h2
   rw[decide_eq_false h2,Bool.false_and]
   exact Yaa (GF 24) rbef_fn (rbef_ne a b) (by repeat(first|exact trivial|refine⟨by first|exact h1'|exact h2'|omega,?_⟩))
def bef (a b:Work):Bool:=decide (a.d<b.d)||(decide (a.d=b.d)&&decide (a.s<b.s))
theorem bef_iff {a b:Work}:bef a b=true↔wlt a b:=by
 unfold bef wlt
 simp only[Bool.or_eq_true,Bool.and_eq_true,decide_eq_true_eq]
def standF (x:FBook)(plan:List Work)(i:Nat):Bool:=decide (indexF (plan.getD i Yak).d x.opn 0≥0)&&Yab (plan.getD i Yak).s 0 (x.feet.length-1)&&(decide (i=0)||bef (plan.getD (i-1) Yak) (plan.getD i Yak))
theorem stand_iff (x:FBook)(plan:List Work):(∀ i,i<plan.length→standF x plan i=true)↔IsPlan x plan:=by
 unfold standF IsPlan WorkIn
 simp only[Bool.and_eq_true,Bool.or_eq_true,decide_eq_true_eq,indexF_ge,Yat,bef_iff]
 constructor
 ·intro h
  refine⟨fun w hw=>?_,pair_adj wlt (fun a b c=>wlt_trans) Yak plan fun i h0 hi=>?_⟩
  ·obtain⟨i,hi,rfl⟩:∃ i,i<plan.length∧plan.getD i Yak=w:=by
    obtain⟨i,hi,h1⟩:=List.getElem_of_mem hw
    exact⟨i,hi,by rw[List.getD_eq_getElem?_getD,List.getElem?_eq_getElem hi];exact h1⟩
   have:=h i hi
   exact⟨this.1.1,by omega,by omega⟩
  ·rcases (h i hi).2 with h1|h1
   ·omega
   ·exact h1
 ·rintro⟨h1,h2⟩ i hi
  have h3:=h1 _ (Yc0 Yak hi)
  refine⟨⟨h3.1,by omega,by omega⟩,?_⟩
  by_cases h0:i=0
  ·exact .inl h0
  ·exact .inr (adj_pair Yak h2 (by omega) hi)
def rplanF (x:FBook)(plan:List Work):Bool:=(List.range plan.length).all (standF x plan)
theorem rPlanS_con {x:FBook}(hs:FSmall x){plan:List Work}(hl:plan.length≤9223372036854775807):CF 50 [Yad x,.sl false .work plan] (.bool (rplanF x plan)):=by
 have hn:=hs.feet
 have hat:=fun i:Nat=>(atB_con x.opn (plan.getD i Yak).d hs.opn).up
 have hin:=fun i:Nat=>(Ybc (plan.getD i Yak).s 0 (x.feet.length-1)).up
 have hbe:=fun i:Nat=>rbef_con (plan.getD (i-1) Yak) (plan.getD i Yak)
 have hi64:Yae ((x.feet.length:Int)-1):=by simp only[Yae];omega
 obtain⟨n,h0,h1,h2⟩:=first_false (standF x plan) plan.length
 have hb:k_50 [1,0,1]=.block 0 (.loop (k_50 [1,0,1,0,0])):=by kernel_rfl
 have hon:∀ i,i<n→∃ dec orc lorc ks ps L1,runK (MF 45) dec orc lorc (k_50 [1,0,1,0,0]) (Yda x plan i) ks=some (ps,.normal,L1)∧allP ps∧L1=Yda x plan (i+1):=by
  intro i hi
  have h:=h1 i hi
  unfold standF at h
  simp only[Bool.and_eq_true,Bool.or_eq_true,decide_eq_true_eq]at h
  obtain⟨⟨g1,g2⟩,g3⟩:=h
  have a1:=hat i
  have a2:=hin i
  rw[g2]at a2
  have g1':decide (indexF (plan.getD i Yak).d x.opn 0<0)=false:=decide_eq_false (by omega)
  have k1:decide ((i:Int)<(plan.length:Int))=true:=Yaq (by omega)
  have k2:Yae ((i:Int)+1):=by simp only[Yae];omega
  by_cases hz:i=0
  ·have k3:decide ((i:Int)>0)=false:=decide_eq_false (by omega)
   exact⟨_,_,_,_,_,_,rpl_0_one x plan i _,by repeat(first|exact trivial|refine⟨by first|exact g1'|exact k1|exact k2|exact k3|exact a1|exact a2|exact hi64|omega,?_⟩),rfl⟩
  ·have k3:decide ((i:Int)>0)=true:=decide_eq_true (by omega)
   have a3:=hbe i
   rw[show(decide ((plan.getD (i-1) Yak).d<(plan.getD i Yak).d)||(decide ((plan.getD (i-1) Yak).d=(plan.getD i Yak).d)&&decide ((plan.getD (i-1) Yak).s<(plan.getD i Yak).s)))=true from g3.resolve_left hz]at a3
   have e:((i:Int)-1).toNat=i-1:=by omega
   have k4:Yae ((i:Int)-1):=by simp only[Yae];omega
   rw[←e]at a3
   exact⟨_,_,_,_,_,_,rpl_0_on x plan i (indexF (plan.getD i Yak).d x.opn 0),by repeat(first|exact trivial|refine⟨by first|exact g1'|exact k1|exact k2|exact k3|exact k4|exact a1|exact a2|exact a3|exact hi64|omega,?_⟩),rfl⟩
 rcases h2 with h2|rfl
 ·by_cases hlt:n<plan.length
  ·have hno:rplanF x plan=false:=List.all_eq_false.2 ⟨n,List.mem_range.2 hlt,by rw[h2];decide⟩
   rw[hno]
   have a1:=hat n
   have a2:=hin n
   have k1:decide ((n:Int)<(plan.length:Int))=true:=Yaq hlt
   by_cases g1:indexF (plan.getD n Yak).d x.opn 0<0
   ·have g1':=decide_eq_true g1
    exact Yaa (GF 45) rpl_fn (rpl_nat x plan n _) ⟨LF.each hb n (Yda x plan) hon ⟨_,_,_,_,_,_,_,rpl_0_at x plan n _,by repeat(first|exact trivial|refine⟨by first|exact g1'|exact k1|exact a1|omega,?_⟩),.inr ⟨rfl,rfl⟩,rfl⟩,trivial⟩
   ·have g1':=decide_eq_false g1
    cases g2:Yab (plan.getD n Yak).s 0 (x.feet.length-1) with
    | false =>
     rw[g2]at a2
     exact Yaa (GF 45) rpl_fn (rpl_nout x plan n (indexF (plan.getD n Yak).d x.opn 0)) ⟨LF.each hb n (Yda x plan) hon ⟨_,_,_,_,_,_,_,rpl_0_out x plan n _,by repeat(first|exact trivial|refine⟨by first|exact g1'|exact k1|exact a1|exact a2|exact hi64|omega,?_⟩),.inr ⟨rfl,rfl⟩,rfl⟩,trivial⟩
    | true =>
     rw[g2]at a2
     unfold standF at h2
     rw[decide_eq_true (show indexF (plan.getD n Yak).d x.opn 0≥0 by omega),g2,Bool.true_and,Bool.true_and,Bool.or_eq_false_iff,decide_eq_false_iff_not]at h2
     have a3:=hbe n
     rw[show(decide ((plan.getD (n-1) Yak).d<(plan.getD n Yak).d)||(decide ((plan.getD (n-1) Yak).d=(plan.getD n Yak).d)&&decide ((plan.getD (n-1) Yak).s<(plan.getD n Yak).s)))=false from h2.2]at a3
     have e:((n:Int)-1).toNat=n-1:=by omega
     have k3:decide ((n:Int)>0)=true:=decide_eq_true (by omega)
     have k4:Yae ((n:Int)-1):=by simp only[Yae];omega
     rw[←e]at a3
     exact Yaa (GF 45) rpl_fn (rpl_nbad x plan n (indexF (plan.getD n Yak).d x.opn 0)) ⟨LF.each hb n (Yda x plan) hon ⟨_,_,_,_,_,_,_,rpl_0_bad x plan n _,by repeat(first|exact trivial|refine⟨by first|exact g1'|exact k1|exact k3|exact k4|exact a1|exact a2|exact a3|exact hi64|omega,?_⟩),.inr ⟨rfl,rfl⟩,rfl⟩,trivial⟩
  ·obtain rfl:n=plan.length:=by omega
   have hyes:rplanF x plan=true:=List.all_eq_true.2 fun i hi=>h1 i (List.mem_range.1 hi)
   rw[hyes]
   exact Yaa (GF 45) rpl_fn (rpl_yes x plan _) ⟨LF.each hb _ (Yda x plan) hon ⟨_,_,_,_,_,_,_,rpl_0_end x plan _,⟨Yaz,trivial⟩,.inl ⟨rfl,rfl⟩,rfl⟩,trivial⟩
 ·have hyes:rplanF x plan=true:=List.all_eq_true.2 fun i hi=>h1 i (List.mem_range.1 hi)
  rw[hyes]
  exact Yaa (GF 45) rpl_fn (rpl_yes x plan _) ⟨LF.each hb _ (Yda x plan) hon ⟨_,_,_,_,_,_,_,rpl_0_end x plan _,⟨Yaz,trivial⟩,.inl ⟨rfl,rfl⟩,rfl⟩,trivial⟩
theorem rplan_eq {x:FBook}(hV:FValid x)(plan:List Work):rplanF x plan=Ygc x plan:=by
 rw[Bool.eq_iff_iff,show(Ygc x plan=true↔IsPlan x plan) from Yds hV,←stand_iff,rplanF,List.all_eq_true]
 exact⟨fun h i hi=>h i (List.mem_range.2 hi),fun h i hi=>h i (List.mem_range.1 hi)⟩
structure FRoom (x:FBook):Prop where
 chain:Room x.chain
 feet:x.feet.length*8≤140737488355328
 opn:x.opn.length*8≤140737488355328
theorem oFor_con {x:FBook}(hr:FRoom x):CF 6 [Yad x] (Yad x) :=
 Yaa (GF 16) oFor_fn (oFor_all x) ⟨(oChain_con hr.chain).up,(oInt_con x.feet hr.feet).up,(oInt_con x.opn hr.opn).up,trivial⟩
theorem oWk_con (plan:List Work)(h:plan.length*16≤140737488355328):CF 7 [.sl false .work plan] (.sl false .work plan):=by
 have h1:plan.length*16≤140737488355328∧plan.length≤140737488355328:=⟨h,by omega⟩
 exact Yaa (GF 7) oWk_fn (oWk_all plan) (by repeat(first|exact trivial|refine⟨by first|exact h1|rfl|omega,?_⟩))
theorem kFor_con {x:FBook}(hs:FSmall x):CF 9 [Yad x,Yad x] (.bool true):=by
 have c1:=(kChain_con hs.chain).up
 have c2:=(alike_con x.feet x.feet hs.feet).up
 have c3:=(alike_con x.opn x.opn hs.opn).up
 rw[decide_eq_true rfl]at c2 c3
 have e1:(x.new==x.new)=true:=by simp
 have e2:(x.stock==x.stock)=true:=by simp
 have e3:(x.make==x.make)=true:=by simp
 rw[←e3]
 exact Yaa (GF 45) kFor_fn (kFor_all x) (by repeat(first|exact trivial|refine⟨by first|exact c1|exact c2|exact c3|exact e1|exact e2|exact e3|omega,?_⟩))
theorem kWk_con (plan:List Work)(hl:plan.length≤9223372036854775807):CF 10 [.sl false .work plan,.sl false .work plan] (.bool true):=by
 have hloop:LF 31 (k_10 [1,1,0,1]) (kWk_S0 plan true 0) .normal (kWk_S0 plan true plan.length):=by
  refine LF.each (id:=0) (c:=k_10 [1,1,0,1,0,0]) (by kernel_rfl) plan.length (fun i=>kWk_S0 plan true i) (fun i hi=>?_) ⟨_,_,_,_,_,_,_,kWk_0_end plan true _,by repeat(first|exact trivial|refine⟨by first|rfl|exact Yaz,?_⟩),.inl ⟨rfl,rfl⟩,rfl⟩
  have k1:decide ((i:Int)<(plan.length:Int))=true:=Yaq hi
  have k2:Yae ((i:Int)+1):=by simp only[Yae];omega
  exact⟨_,_,_,_,_,_,kWk_0_on plan true i,by repeat(first|exact trivial|refine⟨by first|rfl|exact k1|exact k2|omega,?_⟩),by unfold kWk_S0;rw[eqI_self];rfl⟩
 have hany:∀ ok,ok=true→LF 31 (k_10 [1,1,0,1]) (kWk_S0 plan ok 0) .normal (kWk_S0 plan true plan.length):=by rintro _ rfl;exact hloop
 have hb:((plan.length:Int)==plan.length)=true:=by simp
 exact Yaa (GF 31) kWk_fn (kWk_all plan plan.length) ⟨hany _ hb,trivial⟩
end Go.Di

