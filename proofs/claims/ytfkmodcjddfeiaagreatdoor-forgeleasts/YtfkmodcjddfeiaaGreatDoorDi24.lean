/- Part 24: contracts are proved. No condition. -/
import Derived.Test.YtfkmodcjddfeiaaGreatDoorDi23
set_option linter.unusedVariables false
set_option linter.unusedSimpArgs false
namespace Go.Di
open Proofs
open Go.RowKit
section
variable {x:FBook} {m:Mp} {th:List (List Int)} {wr:List Int} {al:List (List Int)} {R:Foot} {KE:Nat→Prop} {xs:List (List Work)} {y:Nat} {J:List (List Work)→(Nat→Prop)→World→Prop} {pA pY pB pC:Value}
def ChgOk (x:FBook)(m:Mp)(th:List (List Int))(wr:List Int)(al:List (List Int))(R:Foot)(KE:Nat→Prop)(xs:List (List Work))(y:Nat)(J:List (List Work)→(Nat→Prop)→World→Prop)(pA pY pB pC:Value)(f s:Nat):Prop :=
 ∀(on:W4) (pre:List (List Work)) (N0:Nat→Prop) (W0:World),(∃ post,pre++Yb0 x al f s on++post=xs)→J pre N0 W0→(∀ b,KE b→b<W0.heap.size)→(∀ b,N0 b→b<W0.heap.size)→PCaps x m th wr al R KE y pA pY pB pC N0 W0 →
  Calls PRG 99 #[w4V on,.int .i64 s,pA,pY,pB,pC] W0 (Yf4 KE J pre (Yb0 x al f s on) N0 W0)
theorem chg_fn : ∃ fn,PRG.funcs[99]? = some fn ∧ (fn.name == "runtime.NumGoroutine") = false ∧ fn.body.isNone = false := ⟨Tryz.f99,by kernel_rfl,by kernel_rfl,by kernel_rfl⟩
theorem take_succ_getD {α:Type}(l:List α)(j:Nat)(d:α)(h:j<l.length):l.take (j+1)=l.take j++[l.getD j d]:=by
 rw[List.take_add_one,List.getElem?_eq_getElem h,List.getD_eq_getElem?_getD,List.getElem?_eq_getElem h];rfl
theorem chg_rec (hJ:Abides J)(hRKE:∀ b o,R b o→KE b){f s:Nat}(ih:ChgOk x m th wr al R KE xs y J pA pY pB pC f (s+1))(hs:s<al.length)(hn:al.length≤4)(hrow:∀ s,(al.getD s []).length≤1000000){on:W4}{pre:List (List Work)}{N0 N:Nat→Prop}{W0 W:World}{a:Act}{fv:Nat→Value}
  (hKE:∀ b,KE b→b<W0.heap.size) (hN0:∀ b,N0 b→b<W0.heap.size) (hcaps:PCaps x m th wr al R KE y pA pY pB pC N0 W0) (hmid:Mid KE J pre [] N0 W0 N W)
  (hfr:Fr PRG (Yac Ybb) Yb4 39 [2,3,4,5,6] fv KE W0.heap.size N a W (gS x m th wr al on s)) (hfv:fv 5=pC) (hxs:∃ post,pre++Yb0 x al (f+1) s on++post=xs)
  {Q:Exit→Act→World→Prop} (hret:∀ a' W',Done KE J pre (Yb0 x al (f+1) s on) N0 W0 a' W'→Q .ret a' W'):(k_99 [1,1]).wpIn (FR none) 0 PRG Q a W:=by
 obtain⟨row,hrw⟩:∃ row,row=al.getD s []:=⟨_,rfl⟩
 have hrl:row.length≤1000000:=by rw[hrw];exact hrow s
 have hcode:k_99 [1,1]=.seq (.seq (k_99 [1,1,0,0]) (.block 0 (.loop (.seq (k_99 [1,1,0,1,0,0,0]) (.seq (.cond (.tmp 26) .skip (.exit 0))
  (.seq (.block 1 (.seq (k_99 [1,1,0,1,0,0,1,1,0,0,0]) (.seq (k_99 [1,1,0,1,0,0,1,1,0,0,1,0])
   (.seq (.region 7 (rops (k_99 [1,1,0,1,0,0,1,1,0,0,1,1,0])) false) (.cond (.tmp 37) (k_99 [1,1,0,1,0,0,1,1,0,0,1,1,1,0]) .skip)))))
  (k_99 [1,1,0,1,0,0,1,1,1]))))))) (.seq (k_99 [1,1,1,0]) .ret):=by kernel_rfl
 rw[hcode]
 refine wpIn_seq (wpIn_seq (hfr.path Yam Yao hJ hmid.j (fun ke no w1=>⟨_,g_3 x m th wr al on s ke no w1 fv,⟨by omega,by omega⟩,trivial⟩) (by kernel_rfl) (by kernel_rfl) fun a1 W1 N1 hN1=>?_))
 have hmid1:=hmid.step hN1 hKE hN0
 have hf1:=hN1.fr
 rw[show((s:Int).toNat)=s from Int.toNat_natCast s,←hrw]at hf1
 show Code.wpIn _ _ _ _ _ _ _
 refine wpIn_block (wpIn_loop_ghost (fun k a W=>∃ j:Nat,k+j=row.length∧∃ on' N fv,(∀ z,W4.set on' s z=on.set s z)∧fv 5=pC∧Fr PRG (Yac Ybb) Yb4 39 [2,3,4,5,6] fv KE W0.heap.size N a W (gL x m th wr al on' s row j) ∧
  Mid KE J pre ((row.take j).flatMap fun z=>Yb0 x al f (s+1) (on.set s z)) N0 W0 N W) row.length ⟨0,by omega,on,N1,fv,fun _=>rfl,hfv,hf1,hmid1⟩ ?_)
 rintro k a W ⟨j,hk,on',N,fv,hset,hfv,hfr,hmid⟩
 refine wpIn_seq (hfr.path Yam Yao hJ hmid.j (fun ke no w1=>⟨_,g_4 x m th wr al on' s row j ke no w1 fv,trivial⟩) (by kernel_rfl) (by kernel_rfl) fun a3 W3 N3 hN3=>?_)
 have hmid3:=hmid.step hN3 hKE hN0
 have h26:a3.tmps.getD 26 undef=.bool (decide ((j:Int)<(row.length:Int))):=hN3.fr.val (i:=26) rfl rfl
 show Code.wpIn _ _ _ _ _ _ _
 by_cases hlt:j<row.length
 ·rw[decide_eq_true (by omega:(j:Int)<(row.length:Int))]at h26
  refine wpIn_seq (wpIn_cond_true h26 (wpIn_skip ?_))
  show Code.wpIn _ _ _ _ _ _ _
  have hf3:=hN3.fr.drop gLK (by kernel_rfl) (by kernel_rfl) (L':=gL x m th wr al on' s row j) (by kernel_rfl) (by kernel_rfl)
  refine wpIn_seq (wpIn_block (wpIn_seq (hf3.path Yam Yao hJ hmid3.j (fun ke no w1=>⟨_,g_5 x m th wr al on' s row j ke no w1 fv,⟨by omega,by omega⟩,by omega,trivial⟩) (by kernel_rfl) (by kernel_rfl) fun a4 V4 N4 hN4=>?_)))
  have hmid4:=hmid3.step hN4 hKE hN0
  obtain⟨z,hz⟩:∃ z,z=row.getD j 0:=⟨_,rfl⟩
  have hf4:=hN4.fr
  rw[←hz]at hf4
  show Code.wpIn _ _ _ _ _ _ _
  have hstore:∀ {Q':Exit→Act→World→Prop},(∀ a' W' N',FrNext PRG (Yac Ybb) Yb4 39 [2,3,4,5,6] fv KE W0.heap.size N4 N' J (pre++(row.take j).flatMap fun z=>Yb0 x al f (s+1) (on.set s z)) a' V4 W' (gL x m th wr al (on'.set s z) s row j)→Q' .normal a' W') →
    (k_99 [1,1,0,1,0,0,1,1,0,0,1,0]).wpIn (FR none) 0 PRG Q' a4 V4:=by
   intro Q' hQ'
   have hp4:s<4:=by omega
   clear hset
   match s,hp4,hf4,hQ' with
   | 0,_,hf4,hQ'=>exact hf4.path Yam Yao hJ hmid4.j (fun ke no w1=>⟨_,g_6_0 x m th wr al on' row j z ke no w1 fv,⟨by omega,by omega⟩,trivial⟩) (by kernel_rfl) (by kernel_rfl) hQ'
   | 1,_,hf4,hQ'=>exact hf4.path Yam Yao hJ hmid4.j (fun ke no w1=>⟨_,g_6_1 x m th wr al on' row j z ke no w1 fv,⟨by omega,by omega⟩,trivial⟩) (by kernel_rfl) (by kernel_rfl) hQ'
   | 2,_,hf4,hQ'=>exact hf4.path Yam Yao hJ hmid4.j (fun ke no w1=>⟨_,g_6_2 x m th wr al on' row j z ke no w1 fv,⟨by omega,by omega⟩,trivial⟩) (by kernel_rfl) (by kernel_rfl) hQ'
   | 3,_,hf4,hQ'=>exact hf4.path Yam Yao hJ hmid4.j (fun ke no w1=>⟨_,g_6_3 x m th wr al on' row j z ke no w1 fv,⟨by omega,by omega⟩,trivial⟩) (by kernel_rfl) (by kernel_rfl) hQ'
   | _+4,h,_,_=>omega
  refine wpIn_seq (hstore fun a6 W6 N6 hN6=>?_)
  have hmid6:=hmid4.step hN6 hKE hN0
  have hfv6:a6.tmps.getD 5 undef=pC:=(hN6.fr.fixed 5 (by simp)).trans hfv
  show Code.wpIn _ _ _ _ _ _ _
  obtain⟨ops,hops⟩:∃ ops,ops=rops (k_99 [1,1,0,1,0,0,1,1,0,0,1,1,0]):=⟨_,rfl⟩
  refine wpIn_seq (Yf5 (by kernel_rfl) ?_)
  have hsz:(rops (k_99 [1,1,0,1,0,0,1,1,0,0,1,1,0])).size=6:=by kernel_rfl
  rw[hsz]
  show wpOps _ _ _ (0::[1,2,3,4,5]) _ _
  obtain⟨b5,hb1,hb2,hb3⟩:=hcaps.chg
  have hc5:W6.cell? ⟨b5,0,none⟩=some (.func (.func 99) #[] #[pA,pY,pB,pC]):=by rw[Ycb (hmid6.same b5 (.inr hb2))];exact hb3
  obtain⟨o0,h00,h01,h02,h03⟩:=(opAt (ops:=(rops (k_99 [1,1,0,1,0,0,1,1,0,0,1,1,0]))) (i:=0) (dst:=some 32) (op:=.load 127 (.tmp 5)) (by kernel_rfl)).at_
  refine Ya2 (v:=.func (.func 99) #[] #[pA,pY,pB,pC]) (w':=W6) h00 h01 ?_ ?_
  ·have hev:a6.eval (.tmp 5)=.pointer (some ⟨b5,0,none⟩):=hfv6.trans hb1
   simp only[execOp,h03,hev]
   simp[Ygh (P:=PRG) Yao (t:=127) (ti:=⟨.other,1,8,[.nilfn],none,false⟩) (by kernel_rfl) rfl rfl hc5]
  rw[h02]
  have hnt6:39≤a6.tmps.size:=by
   obtain⟨β,σ,R,hi⟩:=hN6.fr
   exact hi.inv.nt
  have hf6:=(hN6.fr.putAny 32 (by decide) (by decide) (by kernel_rfl) (.func (.func 99) #[] #[pA,pY,pB,pC])).fix [2,3,4,5,6,32]
  have hfv6':(a6.put (some 32) (.func (.func 99) #[] #[pA,pY,pB,pC])).tmps.getD 5 undef=pC:=Yec (by omega) (by decide) hfv6
  show wpOps _ _ _ (List.range' 1 [(rops (k_99 [1,1,0,1,0,0,1,1,0,0,1,1,0]))[1],(rops (k_99 [1,1,0,1,0,0,1,1,0,0,1,1,0]))[2],(rops (k_99 [1,1,0,1,0,0,1,1,0,0,1,1,0]))[3]].length++[4,5]) _ _
  refine hf6.ops hJ hmid6.j Yao (l:=[(rops (k_99 [1,1,0,1,0,0,1,1,0,0,1,1,0]))[1],(rops (k_99 [1,1,0,1,0,0,1,1,0,0,1,1,0]))[2],(rops (k_99 [1,1,0,1,0,0,1,1,0,0,1,1,0]))[3]]) (fun j o hj=>?_) (fun ke no w1=>⟨_,g_7a x m th wr al (on'.set s z) s row j ke no w1 _,by omega,by simp only[Yae];omega,trivial⟩) (Yeh (by kernel_rfl)) (Ydz (by kernel_rfl)) fun a7 W7 N7 hN7=>?_
  ·match j,hj with
   | 0,hj=>simp only[List.getElem?_cons_zero,Option.some.injEq]at hj;subst hj;exact Array.getElem?_eq_getElem _
   | 1,hj=>simp only[List.getElem?_cons_succ,List.getElem?_cons_zero,Option.some.injEq]at hj;subst hj;exact Array.getElem?_eq_getElem _
   | 2,hj=>simp only[List.getElem?_cons_succ,List.getElem?_cons_zero,Option.some.injEq]at hj;subst hj;exact Array.getElem?_eq_getElem _
  have hmid7:=hmid6.step hN7 hKE hN0
  have h32:a7.tmps.getD 32 undef=.func (.func 99) #[] #[pA,pY,pB,pC]:=by
   rw[hN7.fr.fixed 32 (by simp)]
   exact get_now (by omega)
  have h33:a7.tmps.getD 33 undef=w4V (on'.set s z):=hN7.fr.val (i:=33) rfl rfl
  have h35:a7.tmps.getD 35 undef=.int .i64 ((s:Int)+1):=hN7.fr.val (i:=35) rfl rfl
  have hfv7:a7.tmps.getD 5 undef=pC:=(hN7.fr.fixed 5 (by simp)).trans hfv6'
  obtain⟨o4,h40,h41,h42,h43⟩:=(opAt (ops:=(rops (k_99 [1,1,0,1,0,0,1,1,0,0,1,1,0]))) (i:=4) (dst:=some 36) (op:=.call {callee:=.value (.tmp 32),args:=#[.tmp 33,.tmp 35],argTypes:=#[129,3]}) (by kernel_rfl)).at_
  obtain⟨fn,f1,f2,f3⟩:=chg_fn
  have htk:row.take (j+1)=row.take j++[z]:=by rw[hz];exact take_succ_getD row j 0 hlt
  have hgo:∃ post,(pre++(row.take j).flatMap fun z=>Yb0 x al f (s+1) (on.set s z))++Yb0 x al f (s+1) (on'.set s z)++post=xs:=by
   obtain⟨post,hpost⟩:=hxs
   have e1:Yb0 x al (f+1) s on=row.flatMap fun z=>Yb0 x al f (s+1) (on.set s z):=by rw[hrw];rfl
   refine⟨((row.drop (j+1)).flatMap fun z=>Yb0 x al f (s+1) (on.set s z))++post,?_⟩
   rw[←hpost,e1,hset]
   conv=>rhs;rw[←List.take_append_drop (j+1) row,htk]
   simp[List.flatMap_append,List.append_assoc]
  have hcl:=ih (on'.set s z) _ N7 W7 hgo hmid7.j (fun b hb=>Nat.lt_of_lt_of_le (hKE b hb) hmid7.size) hmid7.own (hcaps.after hRKE hmid7.le hmid7.same)
  have hcl':Calls PRG 99 (#[w4V (on'.set s z),.int .i64 ((s:Int)+1)]++#[pA,pY,pB,pC]) W7 (Yf4 KE J (pre++(row.take j).flatMap fun z=>Yb0 x al f (s+1) (on.set s z)) (Yb0 x al f (s+1) (on'.set s z)) N7 W7):=by
   rw[show((s:Int)+1)=((s+1:Nat):Int) by omega]
   exact hcl
  refine Ydl h40 h41 h43 rfl h32 (vs:=#[w4V (on'.set s z),.int .i64 ((s:Int)+1)]) (by simp only[List.map_toArray,List.map_cons,List.map_nil];show #[a7.tmps.getD 33 undef,a7.tmps.getD 35 undef]=_;rw[h33,h35]) f1 f2 f3 hcl' ?_
  rintro e W8 ⟨rfl,N8,hm8⟩
  refine⟨_,rfl,?_⟩
  rw[h42]
  have hmid8:=hmid7.more hm8
  have hf8:=((hN7.fr.after hm8.le hm8.own hm8.size hm8.same).put 36 (by decide) (by decide) (x:=.bool true) (v:=.bool true) (fun _=>rfl)).fix [2,3,4,5,6]
  have hnt7:39≤a7.tmps.size:=by
   obtain⟨β,σ,R,hi⟩:=hN7.fr
   exact hi.inv.nt
  have hfv8:(a7.put (some 36) (.bool true)).tmps.getD 5 undef=pC:=Yec (by omega) (by decide) hfv7
  show wpOps _ _ _ (List.range' 5 [(rops (k_99 [1,1,0,1,0,0,1,1,0,0,1,1,0]))[5]].length++[]) _ _
  refine hf8.ops hJ hmid8.j Yao (l:=[(rops (k_99 [1,1,0,1,0,0,1,1,0,0,1,1,0]))[5]]) (fun j o hj=>?_) (fun ke no w1=>⟨_,g_7b x m th wr al (on'.set s z) s row j ke no w1 _,trivial⟩) (Yeh (by kernel_rfl)) (Ydz (by kernel_rfl)) fun a9 W9 N9 hN9=>?_
  ·match j,hj with
   | 0,hj=>simp only[List.getElem?_cons_zero,Option.some.injEq]at hj;subst hj;exact Array.getElem?_eq_getElem _
  have hmid9:=hmid8.step hN9 hKE hN0
  show Code.wpIn _ _ _ _ _ _ _
  have h37:a9.tmps.getD 37 undef=.bool false:=hN9.fr.val (i:=37) rfl rfl
  refine wpIn_cond_false h37 (wpIn_skip ?_)
  show Code.wpIn _ _ _ _ _ _ _
  have hf9:=hN9.fr.drop gLK (by kernel_rfl) (by kernel_rfl) (L':=gL x m th wr al (on'.set s z) s row j) (by kernel_rfl) (by kernel_rfl)
  refine hf9.path Yam Yao hJ hmid9.j (fun ke no w1=>⟨_,g_9 x m th wr al (on'.set s z) s row j ke no w1 _,by simp only[Yae];omega,trivial⟩) (by kernel_rfl) (by kernel_rfl) fun a5 W5 N5 hN5=>?_
  refine⟨k-1,by omega,j+1,by omega,on'.set s z,N5,_,fun z'=>by rw[set_set];exact hset z',hfv8,hN5.fr,?_⟩
  have hmid10:=hmid9.step hN5 hKE hN0
  rw[htk,List.flatMap_append,List.flatMap_singleton,←hset]
  exact hmid10
 ·rw[decide_eq_false (by omega:¬(j:Int)<(row.length:Int))]at h26
  refine wpIn_seq (wpIn_cond_false h26 (wpIn_exit ?_))
  have hf3:=hN3.fr.drop gK (by kernel_rfl) (by kernel_rfl) (L':=gS x m th wr al on' s) (by kernel_rfl) (by kernel_rfl)
  show Code.wpIn _ _ _ _ _ _ _
  refine wpIn_seq (hf3.path Yam Yao hJ hmid3.j (fun ke no w1=>⟨_,g_10 x m th wr al on' s ke no w1 fv,trivial⟩) (by kernel_rfl) (by kernel_rfl) fun a4 V4 N4 hN4=>?_)
  show Code.wpIn _ _ _ _ _ _ _
  refine wpIn_ret (hret _ _ ⟨hN4.fr.defers,hN4.fr.val (i:=8) rfl rfl,N4,?_⟩)
  have e1:Yb0 x al (f+1) s on=(row.take j).flatMap fun z=>Yb0 x al f (s+1) (on.set s z):=by
   rw[List.take_of_length_le (by omega),hrw]
   rfl
  rw[e1]
  exact hmid3.step hN4 hKE hN0
theorem chg_head (hJ:Abides J)(hRKE:∀ b o,R b o→KE b){f s:Nat}{on:W4}{pre:List (List Work)}{N0:Nat→Prop}{W0:World}(hj:J pre N0 W0)(hKE:∀ b,KE b→b<W0.heap.size)(hN0:∀ b,N0 b→b<W0.heap.size)(hcaps:PCaps x m th wr al R KE y pA pY pB pC N0 W0)
  (hleaf:s=al.length→∀(a:Act) (W:World) (N:Nat→Prop) (fv:Nat→Value) (Q:Exit→Act→World→Prop),Mid KE J pre [] N0 W0 N W→Fr PRG (Yac Ybb) Yb4 39 [2,3,4,5,6] fv KE W0.heap.size N a W (gS x m th wr al on s)→fv 3=pY→fv 4=pB →
   (∀ a' W',Done KE J pre (Yb0 x al f s on) N0 W0 a' W'→Q .ret a' W')→(k_99 [1,0,1,0]).wpIn (FR none) 0 PRG Q a W)
  (hrec:s≠al.length→∀(a:Act) (W:World) (N:Nat→Prop) (fv:Nat→Value) (Q:Exit→Act→World→Prop),Mid KE J pre [] N0 W0 N W→Fr PRG (Yac Ybb) Yb4 39 [2,3,4,5,6] fv KE W0.heap.size N a W (gS x m th wr al on s)→fv 5=pC →
   (∀ a' W',Done KE J pre (Yb0 x al f s on) N0 W0 a' W'→Q .ret a' W')→(k_99 [1,1]).wpIn (FR none) 0 PRG Q a W) :
  Calls PRG 99 #[w4V on,.int .i64 s,pA,pY,pB,pC] W0 (Yf4 KE J pre (Yb0 x al f s on) N0 W0):=by
 refine calls_of_wp (fn:=Tryz.f99) (c:=body Tryz.f99) (by kernel_rfl) (by kernel_rfl) ((wpIn_wide (n:=0)).1 ?_)
 have hcode:body Tryz.f99=.seq (k_99 [0]) (.seq (.seq (k_99 [1,0,0]) (.cond (.tmp 14) (k_99 [1,0,1,0]) .skip)) (k_99 [1,1])):=by kernel_rfl
 obtain⟨Ra,h1,h2⟩:=hcaps.all
 have hnt:(Tryz.f99).ntmps=39:=by kernel_rfl
 rw[hnt]
 show Code.wpIn (FR none) 0 _ (body Tryz.f99) _ _ _
 rw[hcode]
 obtain⟨a0,ha0⟩:∃ a0:Act,a0={tmps:=(#[w4V on,.int .i64 s,pA,pY,pB,pC]:Array Value)++Array.replicate (39-(#[w4V on,.int .i64 s,pA,pY,pB,pC]:Array Value).size) undef,defers:=[]}:=⟨_,rfl⟩
 rw[←ha0]
 have hgd:∀ i,i<6→a0.tmps.getD i undef=(#[w4V on,.int .i64 s,pA,pY,pB,pC]:Array Value).getD i undef:=by
  intro i hi
  rw[ha0,Array.getD_eq_getD_getElem?,Array.getD_eq_getD_getElem?,Array.getElem?_append,if_pos (by simpa using hi)]
 have t0:a0.tmps.getD 0 undef=w4V on:=hgd 0 (by decide)
 have t1:a0.tmps.getD 1 undef=.int .i64 s:=hgd 1 (by decide)
 have t2:a0.tmps.getD 2 undef=pA:=hgd 2 (by decide)
 have t3:a0.tmps.getD 3 undef=pY:=hgd 3 (by decide)
 have t4:a0.tmps.getD 4 undef=pB:=hgd 4 (by decide)
 have t5:a0.tmps.getD 5 undef=pC:=hgd 5 (by decide)
 have k1:Keeps R (fun b o=>R b o∨Ra b o) W0 W0:=⟨fun _ _ h=>.inl h,fun _ _ _ _ h=>h,fun _ _ _ _ h=>h⟩
 have k2:Keeps Ra (fun b o=>R b o∨Ra b o) W0 W0:=⟨fun _ _ h=>.inr h,fun _ _ _ _ h=>h,fun _ _ _ _ h=>h⟩
 have hfr:=Fr.start (P:=PRG) (tt:=Yac Ybb) (glob:=Yb4) (n:=39) (fx:=[2,3,4,5]) (KE:=KE) (N:=N0) (W:=W0) (R:=fun b o=>R b o∨Ra b o) (a:=a0) (args:=[setsD on,.int .i64 s,.ref [.sl false (.list .int) al] 0,.undef,.ref (cellsOf (fbkD x m th wr)) 0]) (by rw[ha0]) (by rw[ha0];simp) hN0 hKE
  (fun b o hr=>hr.elim (fun h=>.inl (hRKE b o h)) (h1 b o)) (fun g cs hg=>Rel.keep k1 _ _ (hcaps.glob g cs hg)) (fun i d hi=>by
  match i,hi with
  | 0,hi=>cases hi;refine .inr ?_;rw[t0];exact⟨_,rfl,rfl,rfl,rfl,rfl,trivial⟩
  | 1,hi=>cases hi;refine .inr ?_;rw[t1];rfl
  | 2,hi=>cases hi;refine .inr ?_;rw[t2];exact Rel.keep k2 _ _ h2
  | 3,hi=>cases hi;exact .inl rfl
  | 4,hi=>cases hi;refine .inr ?_;rw[t4];exact Rel.keep k1 _ _ hcaps.b)
 have hmid0:Mid KE J pre [] N0 W0 N0 W0:=⟨fun _ h=>h,by rw[List.append_nil];exact hj,Nat.le_refl _,fun _ _=>rfl,hN0⟩
 refine wpIn_seq (hfr.path Yam Yao hJ hmid0.j (fun ke no w1=>⟨_,g_0 x m th wr al on s ke no w1 _,trivial⟩) (by kernel_rfl) (by kernel_rfl) fun a1 W1 N1 hN1=>?_)
 have hmid1:=hmid0.step hN1 hKE hN0
 have hf1:=hN1.fr.fix [2,3,4,5,6]
 have e3:a1.tmps.getD 3 undef=pY:=by rw[hN1.fr.fixed 3 (by simp)];exact t3
 have e4:a1.tmps.getD 4 undef=pB:=by rw[hN1.fr.fixed 4 (by simp)];exact t4
 have e5:a1.tmps.getD 5 undef=pC:=by rw[hN1.fr.fixed 5 (by simp)];exact t5
 show Code.wpIn _ _ _ _ _ _ _
 refine wpIn_seq (wpIn_seq (hf1.path Yam Yao hJ hmid1.j (fun ke no w1=>⟨_,g_1 x m th wr al on s ke no w1 _,trivial⟩) (by kernel_rfl) (by kernel_rfl) fun a2 W2 N2 hN2=>?_))
 have hmid2:=hmid1.step hN2 hKE hN0
 have h14:a2.tmps.getD 14 undef=.bool ((s:Int)==(al.length:Int)):=hN2.fr.val (i:=14) rfl rfl
 have hf2:=hN2.fr.drop gK (by kernel_rfl) (by kernel_rfl) (L':=gS x m th wr al on s) (by kernel_rfl) (by kernel_rfl)
 have hfin:∀ a' W',Done KE J pre (Yb0 x al f s on) N0 W0 a' W'→bodyPost PRG Tryz.f99 (Yf4 KE J pre (Yb0 x al f s on) N0 W0) .ret a' W':=by
  rintro a' W' ⟨d1,d2,N',d3⟩
  refine⟨d1,.bool true,?_,rfl,N',d3⟩
  have:=Yfg (P:=PRG) (a:=a') (w:=W') (fn:=Tryz.f99) (rs:=[.tmp 8]) (by kernel_rfl) (vs:=[.bool true]) ⟨d2.symm,trivial⟩
  simpa using this
 show Code.wpIn _ _ _ _ _ _ _
 by_cases hp:s=al.length
 ·have h14':a2.tmps.getD 14 undef=.bool true:=by rw[h14];simp[hp]
  exact wpIn_cond_true h14' (hleaf hp a2 W2 N2 _ _ hmid2 hf2 e3 e4 hfin)
 ·have h14':a2.tmps.getD 14 undef=.bool false:=by
   rw[h14]
   congr 1
   rw[beq_eq_false_iff_ne]
   omega
  exact wpIn_cond_false h14' (wpIn_skip (hrec hp a2 W2 N2 _ _ hmid2 hf2 e5 hfin))
theorem chg_ok (hJ:Abides J)(hRKE:∀ b o,R b o→KE b)(hy:YieldP R KE xs y J)(hx:FIn x)(hn:al.length≤4)(hrow:∀ s,(al.getD s []).length≤1000000) :
  ∀(f s:Nat),f+s=al.length→ChgOk x m th wr al R KE xs y J pA pY pB pC f s:=by
 intro f
 induction f with
 | zero =>
  intro s hs on pre N0 W0 hxs hj hKE hN0 hcaps
  exact chg_head hJ hRKE hj hKE hN0 hcaps (fun _ a W N fv Q hmid hfr h3 h4 hret=>chg_leaf hJ hRKE hy hx hKE hN0 hcaps hmid hfr h3 h4 hxs hret) (fun h=>absurd (by omega) h)
 | succ f ih =>
  intro s hs on pre N0 W0 hxs hj hKE hN0 hcaps
  exact chg_head hJ hRKE hj hKE hN0 hcaps (fun h=>by omega) (fun _ a W N fv Q hmid hfr hfv hret=>chg_rec hJ hRKE (ih (s+1) (by omega)) (by omega) hn hrow hKE hN0 hcaps hmid hfr hfv hxs hret)
end
end Go.Di

namespace Go.Di
open Proofs
open Go.RowKit
section
variable {C:Cfg} {w0 w:World} {R0:Foot} {a:Act}
theorem WpL.after {P:Program}{c:Code}{L:List (Key×Val)}{Post Post':Ex→List (Key×Val)→Prop}(h:WpL P C c L Post)(hp:∀ e L' w0 R0 a w,Post e L'→Holds C w0 R0 a w (ofL L')→∃ L'',Post' e L''∧Holds C w0 R0 a w (ofL L'')):WpL P C c L Post' :=
 fun w0 R0 a w Q ro n hro hH hQ=>h w0 R0 a w Q ro n hro hH fun e L' a' w' h1 h2=>by
  obtain⟨L'',h3,h4⟩:=hp e L' w0 R0 a' w' h1 h2
  exact hQ e L'' a' w' h3 h4
theorem Holds.tellRow {L:List (Key×Val)}(h:Holds C w0 R0 a w (ofL L)){i k n:Nat}{e:E}{ys:List e.α}(hb:(ofL L).bx i=some ⟨false,[.own k n]⟩)(ho:(ofL L).ob k=some ⟨e,ys⟩)(hn:n=ys.length):Holds C w0 R0 a w (ofL ((.box i,.bx (some ⟨false,[.sl false e ys]⟩))::L)):=by
 obtain⟨β,σ,R,hI⟩:=h
 obtain⟨q1,⟨arr,el,q2,_,q3,_⟩,q4⟩:=hI.box i _ hb
 obtain⟨v,vs,e1,q5,q6⟩:=Yan (q3 rfl)
 obtain rfl:=Yce q6
 refine⟨β,σ,R,hI.storeBox hb rfl [.sl false e ys] q2 q2 (fun _ _=>rfl) ⟨rfl,rfl,rfl,rfl⟩ ?_⟩
 have e1':arr.toList.take 1=[v]:=e1
 rw[show([D.sl false e ys]:List D).length=1 from rfl,e1']
 exact⟨obj_sl hI ho hn q5,trivial⟩
end
theorem allTo_succ (x:FBook)(th:List (List Int))(wr:List Int)(i:Nat):(List.range (i+1)).map (Ycl x th wr)=(List.range i).map (Ycl x th wr)++[Ycl x th wr i]:=by
 rw[List.range_succ,List.map_append];rfl
theorem all_loop {x:FBook}{th:List (List Int)}{wr:List Int}(hx:FIn x)(hk:KnOk x th wr)(m:Mp)(ke no:Nat→Prop)(w1:World)(fv:Nat→Value) :
  WpL PRG (mkF PRG (Yac Ybb) Yb4 24 ke no w1 [0,1,2,3] fv) (.seq (k_97 [1,1,0,0]) (.block 0 (.loop (k_97 [1,1,0,1,0,0])))) (hS1 x m th wr .nil)
   (fun e L'=>e=.normal∧L'=hS1 x m th wr (.sl false (.list .int) (allF x th wr))):=by
 have hG:Good PRG (mkF PRG (Yac Ybb) Yb4 24 ke no w1 [0,1,2,3] fv):=goodF Yam Yao
 obtain⟨hn1,hn4⟩:=hx.n
 refine WpL.seq (WpL.path hG (h_2 x m th wr ke no w1 fv) trivial ?_)
 show WpL _ _ _ _ _
 refine WpL.after (Post:=fun e L'=>e=.normal∧∃ y r,allF x th wr=y::r∧L'=hL x m th wr x.feet.length (y::r)) ?_ ?_
 ·refine WpL.block (WpL.loop (S:=fun i:{i:Nat // i≤x.feet.length}=>hL x m th wr i.1 ((List.range i.1).map (Ycl x th wr))) (fun i=>x.feet.length-i.1) ?_ ⟨0,Nat.zero_le _⟩)
  rintro⟨i,hi⟩
  dsimp only
  by_cases hlt:i<x.feet.length
  ·have hc:=changes_con hx hk m hlt
   have hgo:WpL PRG (mkF PRG (Yac Ybb) Yb4 24 ke no w1 [0,1,2,3] fv) (k_97 [1,1,0,1,0,0]) (hL x m th wr i ((List.range i).map (Ycl x th wr))) (fun e L'=>e=.normal∧L'=hL x m th wr (i+1) ((List.range i).map (Ycl x th wr)++[Ycl x th wr i])):=by
    have hlen:((List.range i).map (Ycl x th wr)).length=i:=by simp
    cases hl:(List.range i).map (Ycl x th wr) with
    | nil=>exact WpL.path hG (h_on0 x m th wr i _ ke no w1 fv) ⟨decide_eq_true (by omega),hc,by omega,rfl,by simp only[Yae];omega,trivial⟩ ⟨rfl,rfl⟩
    | cons y r =>
     rw[hl]at hlen
     exact WpL.path hG (h_on1 x m th wr i y r _ ke no w1 fv) ⟨decide_eq_true (by omega),hc,rfl,by rw[List.length_append,hlen];simp;omega,rfl,by simp only[Yae];omega,trivial⟩ ⟨rfl,rfl⟩
   refine hgo.mono fun e L' hL=>?_
   obtain⟨rfl,rfl⟩:=hL
   exact⟨⟨i+1,hlt⟩,by dsimp only;rw[allTo_succ],by dsimp only;omega⟩
  ·have hie:i=x.feet.length:=by omega
   subst hie
   cases hl:(List.range x.feet.length).map (Ycl x th wr) with
   | nil =>
    have h:=congrArg List.length hl
    rw[List.length_map,List.length_range]at h
    simp only[List.length_nil]at h
    omega
   | cons y r =>
    refine WpL.path hG (h_end x m th wr _ y r ke no w1 fv) ⟨decide_eq_false (by omega),trivial⟩ ?_
    show(if 0=0 then _ else _)
    rw[if_pos rfl]
    exact⟨rfl,y,r,hl,rfl⟩
 ·rintro e L' w0 R0 a w ⟨rfl,y,r,hal,rfl⟩ hH
  rw[hal]
  refine⟨_,⟨rfl,rfl⟩,?_⟩
  have h1:=hH.tellRow (i:=3) (k:=18) (n:=(y::r).length) (e:=.list .int) (ys:=y::r) rfl rfl rfl
  exact h1.restrict (ks:=hK1) (by kernel_rfl)
theorem all_row {x:FBook}{th:List (List Int)}{wr:List Int}(hx:FIn x)(s:Nat):((allF x th wr).getD s []).length≤1000000:=by
 have key:∀ s k,(Ybi x th wr s k).length≤k:=by
  intro s k
  induction k with
  | zero=>exact Nat.le_refl 0
  | succ k ih =>
   simp only[Ybi]
   split
   ·omega
   ·split
    ·rw[List.length_append];simp;omega
    ·omega
 have hp:2 ^ x.opn.length≤2 ^ 5:=Nat.pow_le_pow_right (by decide) hx.opnl
 by_cases h:s<x.feet.length
 ·have:(allF x th wr).getD s []=Ycl x th wr s:=by simp[allF,List.getD_eq_getElem?_getD,h]
  rw[this]
  have:=key s (2 ^ x.opn.length)
  unfold Ycl
  omega
 ·have:(allF x th wr).getD s []=[]:=by simp[allF,List.getD_eq_getElem?_getD,h]
  rw[this]
  simp
theorem plans_seq {x:FBook}{m:Mp}{th:List (List Int)}{wr:List Int}{KE:Nat→Prop}{p1:Value}{W0:World}{R:Foot}(hx:FIn x)(hk:KnOk x th wr)
  (hKE:∀ b,KE b→b<W0.heap.size) (hR:∀ b o,R b o→KE b) (hp1:Rel R W0 (.ref (cellsOf (fbkD x m th wr)) 0) p1) (hg:∀ g cs,Yb4 g=some cs→Rel R W0 (.ref cs 0) (.pointer (some ⟨g,0,none⟩))) :
  SeqM PRG 97 #[p1] (ToldP R) (plansF x th wr) KE W0:=by
 intro y J hJ hy W hb hj
 have hyk:YieldP R KE (plansF x th wr) y J:=hy
 have hW0:W0.heap.size≤W.heap.size:=hb.size
 refine calls_of_wp (fn:=Tryz.f97) (c:=body Tryz.f97) (by kernel_rfl) (by kernel_rfl) ((wpIn_wide (n:=0)).1 ?_)
 have hnt:Tryz.f97.ntmps=24:=by kernel_rfl
 rw[hnt]
 show Code.wpIn (FR none) 0 _ (body Tryz.f97) _ _ _
 have hcode:body Tryz.f97=.seq (.region 0 (rops (k_97 [0])) false) (.seq (k_97 [1,0]) (.seq (.seq (k_97 [1,1,0,0]) (.block 0 (.loop (k_97 [1,1,0,1,0,0])))) (.seq (k_97 [1,1,1,0]) (.seq (.region 8 (rops (k_97 [1,1,1,1,0])) false) (.region 9 (rops (k_97 [1,1,1,1,1])) true))))):=by kernel_rfl
 rw[hcode]
 refine wpIn_seq (Yf5 (by kernel_rfl) ?_)
 rw[show(rops (k_97 [0])).size=1 by kernel_rfl]
 show wpOps _ _ _ (0::[]) _ _
 obtain⟨o0,h00,h01,h02,h03⟩:=(opAt (ops:=rops (k_97 [0])) (i:=0) (dst:=some 2) (op:=.box 70 (.tmp 0)) (by kernel_rfl)).at_
 obtain⟨a0,ha0⟩:∃ a0:Act,a0={tmps:=(#[.func (.yield y) #[] #[]]++#[p1]:Array Value)++Array.replicate (24-(#[.func (.yield y) #[] #[]]++#[p1]:Array Value).size) undef,defers:=[]}:=⟨_,rfl⟩
 rw[←ha0]
 have hsz0:a0.tmps.size=24:=by rw[ha0];simp
 have g00:a0.tmps.getD 0 undef=.func (.yield y) #[] #[]:=by rw[ha0];simp[Array.getD_eq_getD_getElem?]
 have g01:a0.tmps.getD 1 undef=p1:=by rw[ha0];simp[Array.getD_eq_getD_getElem?]
 refine Ya2 (v:=.pointer (some ⟨W.heap.size,0,none⟩)) (w':=W.alloc (.cells #[.func (.yield y) #[] #[]] 70)) h00 h01 (by
  have hev:a0.eval (.tmp 0)=.func (.yield y) #[] #[]:=g00
  simp[execOp,h03,hev,Instr.box,run_newVar,Value.cells]) ?_
 rw[h02]
 show Code.wpIn _ _ _ _ _ _ _
 obtain⟨W1,hW1⟩:∃ W1,W1=W.alloc (.cells #[.func (.yield y) #[] #[]] 70):=⟨_,rfl⟩
 rw[←hW1]
 have hs1:W1.heap.size=W.heap.size+1:=by rw[hW1];simp
 have hb1:Below W.heap.size W W1:=by rw[hW1];exact Ya9 _ _
 have hy1:W1.heap[W.heap.size]?=some (.cells #[.func (.yield y) #[] #[]] 70 (0,0)):=by rw[hW1];exact heap_alloc_new _ _
 have hj1:J [] (fun b=>b=W.heap.size) W1:=hJ.new _ _ _ _ _ hj hb1 (fun b hb=>.inr ⟨by omega,by omega⟩)
 have hRs:∀ b o,R b o→b<W0.heap.size:=fun b o hr=>hKE b (hR b o hr)
 have hk01:Keeps R R W0 W1:=Keeps.of_below (fun _ _ h=>h) hRs (hb.trans (hb1.mono hW0))
 obtain⟨a1,ha1⟩:∃ a1,a1=a0.put (some 2) (.pointer (some ⟨W.heap.size,0,none⟩)):=⟨_,rfl⟩
 rw[←ha1]
 have hsz1:a1.tmps.size=24:=by rw[ha1];simpa [Act.put] using hsz0
 have hd1:a1.defers=[]:=by rw[ha1,ha0];rfl
 have g11:a1.tmps.getD 1 undef=p1:=by rw[ha1,Yas a0 2 _ 1 (by omega),if_neg (by decide)];exact g01
 have g12:a1.tmps.getD 2 undef=.pointer (some ⟨W.heap.size,0,none⟩):=by rw[ha1,Yas a0 2 _ 2 (by omega),if_pos rfl]
 have hfr:=Fr.start (P:=PRG) (tt:=Yac Ybb) (glob:=Yb4) (n:=24) (fx:=[0,1,2]) (KE:=KE) (N:=fun b=>b=W.heap.size) (W:=W1) (R:=R) (a:=a1) (args:=[.undef,.ref (cellsOf (fbkD x m th wr)) 0]) hd1 (by omega) (fun b hb=>by omega) (fun b hb=>by have:=hKE b hb;omega) (fun b o hr=>.inl (hR b o hr)) (fun g cs hgl=>Rel.keep hk01 _ _ (hg g cs hgl)) (fun i d hi=>by
  match i,hi with
  | 0,hi=>cases hi;exact .inl rfl
  | 1,hi=>cases hi;refine .inr ?_;rw[g11];exact Rel.keep hk01 _ _ hp1)
 have hKE1:∀ b,KE b→b<W1.heap.size:=fun b hb=>by have:=hKE b hb;omega
 have hN1:∀ b,(fun b=>b=W.heap.size) b→b<W1.heap.size:=fun b hb=>by omega
 have hmid0:Mid KE J [] [] (fun b=>b=W.heap.size) W1 (fun b=>b=W.heap.size) W1:=⟨fun _ h=>h,hj1,Nat.le_refl _,fun _ _=>rfl,hN1⟩
 refine wpIn_seq (hfr.path Yam Yao hJ hmid0.j (fun ke no w1=>⟨_,h_1 x m th wr ke no w1 _,trivial⟩) (by kernel_rfl) (by kernel_rfl) fun a2 W2 N2 hN2=>?_)
 have hmid2:=hmid0.step hN2 hKE1 hN1
 have hf2:=hN2.fr.fix [0,1,2,3]
 have e1:a2.tmps.getD 1 undef=p1:=by rw[hN2.fr.fixed 1 (by simp)];exact g11
 have e2:a2.tmps.getD 2 undef=.pointer (some ⟨W.heap.size,0,none⟩):=by rw[hN2.fr.fixed 2 (by simp)];exact g12
 show Code.wpIn _ _ _ _ _ _ _
 refine wpIn_seq (hf2.piece hJ hmid2.j (Post:=fun e L'=>e=.normal∧L'=hS1 x m th wr (.sl false (.list .int) (allF x th wr))) (fun ke no w1=>all_loop hx hk m ke no w1 _) (by rintro e' L'' ⟨rfl,rfl⟩;exact Yeh (by kernel_rfl)) (by rintro e' L'' ⟨rfl,rfl⟩;exact Ydz (by kernel_rfl)) ?_)
 rintro e2' L2 a2b W2b N2b ⟨rfl,rfl⟩ hN2b
 have hmid2b:=hmid2.step hN2b hKE1 hN1
 have e1b:a2b.tmps.getD 1 undef=p1:=(hN2b.fr.fixed 1 (by simp)).trans e1
 have e2b:a2b.tmps.getD 2 undef=.pointer (some ⟨W.heap.size,0,none⟩):=(hN2b.fr.fixed 2 (by simp)).trans e2
 obtain⟨al,hal⟩:∃ al,al=allF x th wr:=⟨_,rfl⟩
 have hf2b:=hN2b.fr
 rw[←hal]at hf2b
 show Code.wpIn _ _ _ _ _ _ _
 refine wpIn_seq (hf2b.path Yam Yao hJ hmid2b.j (fun ke no w1=>⟨_,h_5 x m th wr al ke no w1 _,trivial⟩) (by kernel_rfl) (by kernel_rfl) fun a3 W3 N3 hN3=>?_)
 have hmid3:=hmid2b.step hN3 hKE1 hN1
 have e1':a3.tmps.getD 1 undef=p1:=(hN3.fr.fixed 1 (by simp)).trans e1
 have e2':a3.tmps.getD 2 undef=.pointer (some ⟨W.heap.size,0,none⟩):=(hN3.fr.fixed 2 (by simp)).trans e2
 show Code.wpIn _ _ _ _ _ _ _
 obtain⟨β,σ,R3,hI⟩:=hN3.fr
 have hnt3:24≤a3.tmps.size:=hI.inv.nt
 have hdf3:a3.defers=[]:=hI.inv.defers
 have t3:RelT β σ (ofL (hS1 x m th wr (.sl false (.list .int) al)++[(.tmp 5,.d (.ptr 5 0)),(.box 5,.bx (some ⟨false,[.nilfn]⟩))])) R3 W3 (.ptr 3 0) (a3.tmps.getD 3 undef):=hI.inv.tmps 3
 have t4:RelT β σ (ofL (hS1 x m th wr (.sl false (.list .int) al)++[(.tmp 5,.d (.ptr 5 0)),(.box 5,.bx (some ⟨false,[.nilfn]⟩))])) R3 W3 (.ptr 5 0) (a3.tmps.getD 5 undef):=hI.inv.tmps 5
 obtain⟨_,t3⟩:=t3
 obtain⟨_,t4⟩:=t4
 have hbx3:(ofL (hS1 x m th wr (.sl false (.list .int) al)++[(.tmp 5,.d (.ptr 5 0)),(.box 5,.bx (some ⟨false,[.nilfn]⟩))])).bx 3=some ⟨false,[.sl false (.list .int) al]⟩:=by kernel_rfl
 have hbx4:(ofL (hS1 x m th wr (.sl false (.list .int) al)++[(.tmp 5,.d (.ptr 5 0)),(.box 5,.bx (some ⟨false,[.nilfn]⟩))])).bx 5=some ⟨false,[.nilfn]⟩:=by kernel_rfl
 obtain⟨q31,⟨arr3,el3,q32,_,q33,_⟩,q34⟩:=hI.inv.box 3 _ hbx3
 obtain⟨q41,⟨arr4,el4,q42,_,q43,_⟩,q44⟩:=hI.inv.box 5 _ hbx4
 have hN3b:=hI.box 3 _ hbx3
 have hN4b:=hI.box 5 _ hbx4
 have hne34:β 3≠β 5:=fun e=>by have:=hI.inv.inj 3 5 _ _ hbx3 hbx4 e;omega
 rw[Yej hI.le]at q31 q41
 obtain⟨fv3,m3,e3,q35,q36⟩:=Yan (q33 rfl)
 have h30:arr3[0]?=some fv3:=by
  have h:=congrArg (fun l=>l[0]?) e3
  simp only[List.getElem?_take,List.length_singleton,List.getElem?_cons_zero]at h
  simpa using h
 have hs4:0<arr4.size:=by
  have:=All2.length (q43 rfl)
  rw[List.length_take,Array.length_toList]at this
  simp at this
  omega
 refine wpIn_seq (Yf5 (by kernel_rfl) ?_)
 rw[show(rops (k_97 [1,1,1,1,0])).size=2 by kernel_rfl]
 show wpOps _ _ _ (0::[1]) _ _
 obtain⟨o1,h10,h11,h12,h13⟩:=(opAt (ops:=rops (k_97 [1,1,1,1,0])) (i:=0) (dst:=some 20) (op:=.makeFunc (.func 99) #[] #[.tmp 3,.tmp 2,.tmp 1,.tmp 5]) (by kernel_rfl)).at_
 obtain⟨wv,hwv⟩:∃ wv:Value,wv=.func (.func 99) #[] #[.pointer (some ⟨β 3,0,none⟩),.pointer (some ⟨W.heap.size,0,none⟩),p1,.pointer (some ⟨β 5,0,none⟩)]:=⟨_,rfl⟩
 refine Ya2 (v:=wv) (w':=W3) h10 h11 (by
  have:#[Operand.tmp 3,.tmp 2,.tmp 1,.tmp 5].map a3.eval=#[.pointer (some ⟨β 3,0,none⟩),.pointer (some ⟨W.heap.size,0,none⟩),p1,.pointer (some ⟨β 5,0,none⟩)]:=by
   simp only[List.map_toArray,List.map_cons,List.map_nil]
   show #[a3.tmps.getD 3 undef,a3.tmps.getD 2 undef,a3.tmps.getD 1 undef,a3.tmps.getD 5 undef]=_
   rw[e1',e2',t3,t4]
  rw[hwv]
  simp only[execOp,h13,this]
  simp[Instr.makeFunc]) ?_
 rw[h12]
 obtain⟨o2,h20,h21,h22,h23⟩:=(opAt (ops:=rops (k_97 [1,1,1,1,0])) (i:=1) (dst:=none) (op:=.store 127 (.tmp 5) (.tmp 20)) (by kernel_rfl)).at_
 have hst:=Yg2 (P:=PRG) (C:=mkF PRG (Yac Ybb) Yb4 24 (fun _=>False) (fun _=>False) W3 [] (fun _=>undef)) (w:=W3) (t:=127) (ti:=⟨.other,1,8,[.nilfn],none,false⟩) (Yao 127 _ (by kernel_rfl)) (g:=β 5) (off:=0) (v:=wv) q42 (by rw[hwv];rfl) (by show 0+1≤_;omega) (by rw[hwv];intro u hu;simp[Value.cells]at hu;subst hu;rfl)
 rw[show wv.cells.toList=[wv] by rw[hwv];rfl]at hst
 obtain⟨r1,r2,r3,r4⟩:=Ycv (β 5) [wv] 0 W3
 have r5:=Ybs (β 5) [wv] 0 W3 _ _ _ q42
 have r6:=fun k hk=>Ycm (β 5) [wv] 0 W3 k hk
 obtain⟨V,hV⟩:∃ V,V=W3.setCells (β 5) 0 [wv]:=⟨_,rfl⟩
 rw[←hV]at hst r1 r2 r3 r4 r5 r6
 have hcV:V.heap[β 5]?=some (.cells (Yc4 arr4 0 [wv]) el4 (0,0)):=r5
 have hp4:(Yc4 arr4 0 [wv])[0]?=some wv:=by rw[Yby,if_pos ⟨Nat.le_refl _,by simp,hs4⟩];rfl
 have h7:20<a3.tmps.size:=by omega
 refine wpOps_skip (w':=V) h20 h21 (by
  have hev4:(a3.put (some 20) wv).eval (.tmp 5)=.pointer (some ⟨β 5,0,none⟩):=by
   show(a3.put (some 20) wv).tmps.getD 5 undef=_
   rw[Yas a3 20 wv 5 h7,if_neg (by decide)]
   exact t4
  have hev7:(a3.put (some 20) wv).eval (.tmp 20)=wv:=by
   show(a3.put (some 20) wv).tmps.getD 20 undef=_
   rw[Yas a3 20 wv 20 h7,if_pos rfl]
  simp only[execOp,h23,hev4,hev7]
  simp[hst]) ?_
 rw[h22]
 show Code.wpIn _ _ _ _ _ _ _
 obtain⟨a4,ha4⟩:∃ a4,a4=a3.put (some 20) wv:=⟨_,rfl⟩
 have hput:(a3.put (some 20) wv).put none undef=a4:=by rw[ha4];rfl
 rw[hput]
 have ha4t:a4.tmps.getD 5 undef=.pointer (some ⟨β 5,0,none⟩):=by rw[ha4,Yas a3 20 wv 5 h7,if_neg (by decide)];exact t4
 have hnt4:24≤a4.tmps.size:=by rw[ha4];simpa [Act.put] using hnt3
 have hdf4:a4.defers=[]:=by rw[ha4];exact hdf3
 have hjV:J [] N3 V:=hJ.store _ _ _ _ (β 5) hmid3.j hN4b ⟨⟨r1,r2,r3,r4⟩,⟨_,_,_,_,q42,hcV⟩,r6⟩
 have hsV:V.heap.size=W3.heap.size:=r4
 have hKEV:∀ b,KE b→V.heap[b]?=W1.heap[b]?:=fun b hb=>by
  have:=hKE b hb
  rw[r6 b (by omega)]
  exact hmid3.same b (.inl hb)
 have hR3:∀ b o,R3 b o→b≠β 5:=fun b o hr e=>q44 rfl o (e▸hr)
 have hfin:∀(a':Act) (W':World),a'.defers=[]→(results Tryz.f97 a'.tmps).run PRG W'=.ok (.tuple #[]) W':=by
  intro a' W' _
  have:=Yfg (P:=PRG) (a:=a') (w:=W') (fn:=Tryz.f97) (rs:=[]) (by kernel_rfl) (vs:=[]) trivial
  simpa using this
 have hlast:∀(a5:Act) (W5:World),Below V.heap.size V W5→24≤a5.tmps.size→a5.defers=[]→a5.tmps.getD 21 undef=wv→a5.tmps.getD 22 undef=w4V ⟨0,0,0,0⟩ →
   wpOps PRG (rops (k_97 [1,1,1,1,1])) (noOut (bodyPost PRG Tryz.f97 fun e W'=>(∃ v,e=.returned v)∧∃ N,J (plansF x th wr) N W')) [2] a5 W5:=by
  intro a5 W5 hb5 hnt5 hdf5 g8 g9
  obtain⟨o5,h50,h51,h52,h53⟩:=(opAt (ops:=rops (k_97 [1,1,1,1,1])) (i:=2) (dst:=some 23) (op:=.call {callee:=.value (.tmp 21),args:=#[.tmp 22,.const (.int .i64 0)],argTypes:=#[129,3]}) (by kernel_rfl)).at_
  obtain⟨fn,f1,f2,f3⟩:=chg_fn
  have hj5:J [] N3 W5:=hJ.new _ _ _ _ _ hjV hb5 (fun b hb=>.inl hb)
  have hN5:∀ b,N3 b→b<W5.heap.size:=fun b hb=>by have:=hmid3.own b hb;have:=hb5.size;omega
  have hKE5:∀ b,KE b→b<W5.heap.size:=fun b hb=>by have:=hKE1 b hb;have:=hmid3.size;have:=hb5.size;omega
  have hkk:Keeps R3 (fun b o=>R3 b o∨b=β 3) W3 W5:=by
   have hh:∀ b,(∃ o,R3 b o)→W5.heap[b]?=W3.heap[b]?:=fun b ⟨o,hr⟩=>by
    have:=(hI.inv.dom b o hr).1
    rw[hb5.block b (by omega),r6 b (hR3 b o hr)]
   exact⟨fun b o h=>.inl h,fun b o u hr hc=>by rw[Ycb (hh b ⟨o,hr⟩)];exact hc,fun b es c hr hm=>by rw[hh b ⟨0,hr⟩];exact hm⟩
  have hb3:W5.heap[β 3]?=some (.cells arr3 el3 (0,0)):=by
   have:=(Array.getElem?_eq_some_iff.1 q32).1
   rw[hb5.block _ (by omega),r6 _ hne34]
   exact q32
  have hb4:W5.heap[β 5]?=some (.cells (Yc4 arr4 0 [wv]) el4 (0,0)):=by
   have:=(Array.getElem?_eq_some_iff.1 q42).1
   rw[hb5.block _ (by omega)]
   exact hcV
  have hby:W5.heap[W.heap.size]?=some (.cells #[.func (.yield y) #[] #[]] 70 (0,0)):=by
   have hl:=hmid3.size
   have hne:W.heap.size≠β 5:=by omega
   rw[hb5.block _ (by omega),r6 _ hne,hmid3.same _ (.inr rfl)]
   exact hy1
  have hkR:Keeps R R W0 W5:=by
   have hh:∀ b,(∃ o,R b o)→W5.heap[b]?=W1.heap[b]?:=fun b ⟨o,hr⟩=>by
    have:=hKE1 b (hR b o hr)
    have:=hmid3.size
    rw[hb5.block b (by omega)]
    exact hKEV b (hR b o hr)
   have hk15:Keeps R R W1 W5:=⟨fun _ _ h=>h,fun b o u hr hc=>by rw[Ycb (hh b ⟨o,hr⟩)];exact hc,fun b es c hr hm=>by rw[hh b ⟨0,hr⟩];exact hm⟩
   exact⟨fun _ _ h=>h,fun b o u hr hc=>hk15.2 b o u hr (hk01.2 b o u hr hc),fun b es c hr hm=>hk15.3 b es c hr (hk01.3 b es c hr hm)⟩
  have hcaps:PCaps x m th wr al R KE y (.pointer (some ⟨β 3,0,none⟩)) (.pointer (some ⟨W.heap.size,0,none⟩)) p1 (.pointer (some ⟨β 5,0,none⟩)) N3 W5:=by
   refine⟨Rel.keep hkR _ _ hp1,fun g cs hgl=>Rel.keep hkR _ _ (hg g cs hgl),⟨fun b o=>R3 b o∨b=β 3,fun b o hr=>?_,β 3,0,by simp,fun j d hd=>?_⟩,⟨W.heap.size,rfl,hmid3.le _ rfl,?_⟩,⟨β 5,rfl,hN4b,?_⟩⟩
   ·rcases hr with hr|rfl
    ·exact hI.foot b o hr
    ·exact .inr hN3b
   ·match j,hd with
    | 0,hd =>
     cases hd
     exact⟨fv3,RelC.keep hkk _ _ q35,.inr rfl,by simp[World.cell?,hb3,h30]⟩
   ·simp[World.cell?,hby]
   ·exact(show W5.cell? ⟨β 5,0,none⟩=some wv by simp[World.cell?,hb4,hp4]).trans (by rw[hwv])
  have hlen:al.length=x.feet.length:=by rw[hal];simp[allF]
  have hcl:=chg_ok hJ hR hyk hx (by have:=hx.n;omega) (fun s=>by rw[hal];exact all_row hx s) al.length 0 (by omega) ⟨0,0,0,0⟩ [] N3 W5 ⟨[],by rw[hal,←hal,hlen,hal];simp[plansF,zeroW]⟩ hj5 hKE5 hN5 hcaps
  refine Ydl h50 h51 h53 rfl (f:=99) (caps:=#[.pointer (some ⟨β 3,0,none⟩),.pointer (some ⟨W.heap.size,0,none⟩),p1,.pointer (some ⟨β 5,0,none⟩)]) (g8.trans hwv) (vs:=#[w4V ⟨0,0,0,0⟩,.int .i64 0]) (by simp only[List.map_toArray,List.map_cons,List.map_nil];show #[a5.tmps.getD 22 undef,_]=_;rw[g9];rfl) f1 f2 f3 hcl ?_
  rintro e W6 ⟨rfl,N6,hm6⟩
  refine⟨_,rfl,?_⟩
  rw[h52]
  exact⟨hdf5,.tuple #[],hfin _ _ hdf5,⟨_,rfl⟩,N6,by have hj:=hm6.j;rw[hlen,hal]at hj;exact hj⟩
 have hb3':∀(W5:World),Below V.heap.size V W5→W5.cell? ⟨β 5,0,none⟩=some wv:=fun W5 hb5=>by
  have:=(Array.getElem?_eq_some_iff.1 hcV).1
  simp[World.cell?,hb5.block _ this,hcV,hp4]
 have hgl5:∀(W5:World),Below V.heap.size V W5→∀ g cs,Yb4 g=some cs→Rel R W5 (.ref cs 0) (.pointer (some ⟨g,0,none⟩)):=fun W5 hb5 g cs hgl=>by
  have hk:Keeps R R W1 W5:=by
   have hh:∀ b,(∃ o,R b o)→W5.heap[b]?=W1.heap[b]?:=fun b ⟨o,hr⟩=>by
    have:=hKE1 b (hR b o hr)
    have:=hmid3.size
    rw[hb5.block b (by omega)]
    exact hKEV b (hR b o hr)
   exact⟨fun _ _ h=>h,fun b o u hr hc=>by rw[Ycb (hh b ⟨o,hr⟩)];exact hc,fun b es c hr hm=>by rw[hh b ⟨0,hr⟩];exact hm⟩
  exact Rel.keep hk _ _ (Rel.keep hk01 _ _ (hg g cs hgl))
 obtain⟨o8,h80,h81,h82,h83⟩:=(opAt (ops:=rops (k_97 [1,1,1,1,1])) (i:=0) (dst:=some 21) (op:=.load 127 (.tmp 5)) (by kernel_rfl)).at_
 obtain⟨o9,h90,h91,h92,h93⟩:=(opAt (ops:=rops (k_97 [1,1,1,1,1])) (i:=1) (dst:=some 22) (op:=.call {callee:=.value (.func 101),args:=#[],argTypes:=#[]}) (by kernel_rfl)).at_
 have hrun8:∀(a5:Act) (W5:World),Below V.heap.size V W5→a5.tmps.getD 5 undef=.pointer (some ⟨β 5,0,none⟩)→(execOp a5.eval o8).run PRG W5=.ok (.value wv) W5:=by
  intro a5 W5 hb5 g4
  have hev:a5.eval (.tmp 5)=.pointer (some ⟨β 5,0,none⟩):=g4
  simp only[execOp,h83,hev]
  simp[Ygh (P:=PRG) Yao (t:=127) (ti:=⟨.other,1,8,[.nilfn],none,false⟩) (by kernel_rfl) rfl rfl (hb3' W5 hb5)]
 have hcon9:∀(a5:Act) (W5:World) (l':List Nat) (Q':Exit→Act→World→Prop),Below V.heap.size V W5→(∀ W6,Below V.heap.size V W6→wpOps PRG (rops (k_97 [1,1,1,1,1])) Q' l' (a5.put (some 22) (w4V ⟨0,0,0,0⟩)) W6)→wpOps PRG (rops (k_97 [1,1,1,1,1])) Q' (1::l') a5 W5:=by
  intro a5 W5 l' Q' hb5 hK
  refine wpOps_con Yfb h90 h91 h93 rfl (vs:=[]) (by simp) (R:=R) (fun b o hr=>?_) (hgl5 W5 hb5) trivial fun v W6 R' hb6 _ _ hv=>?_
  ·have:=hKE1 b (hR b o hr)
   have:=hmid3.size
   have:=hb5.size
   omega
  ·rw[h92,wD_rel hv]
   exact hK W6 (hb5.trans (hb6.mono hb5.size))
 have hdrew:Below V.heap.size V V.drew:=Yfs V
 have get8:∀(a5:Act) (v:Value) (d i:Nat),24≤a5.tmps.size→d<24→(a5.put (some d) v).tmps.getD i undef=if d=i then v else a5.tmps.getD i undef:=fun a5 v d i h1 h2=>Yas a5 d v i (by omega)
 have siz8:∀(a5:Act) (v:Value) (d:Nat),(a5.put (some d) v).tmps.size=a5.tmps.size:=fun a5 v d=>by simp[Act.put]
 refine region3 Yam (by kernel_rfl) (by kernel_rfl) (by kernel_rfl) (by kernel_rfl) (by kernel_rfl) (by kernel_rfl) (by kernel_rfl) ?_ ?_
 ·refine Ya2 (v:=wv) (w':=V.drew) h80 h81 (hrun8 a4 _ hdrew ha4t) ?_
  rw[h82]
  refine hcon9 _ _ _ _ hdrew fun W6 hb6=>?_
  refine hlast _ W6 hb6 (by rw[siz8,siz8];exact hnt4) hdf4 ?_ ?_
  ·rw[get8 _ _ 22 21 (by rw[siz8];exact hnt4) (by decide),if_neg (by decide),get8 _ _ 21 21 hnt4 (by decide),if_pos rfl]
  ·rw[get8 _ _ 22 22 (by rw[siz8];exact hnt4) (by decide),if_pos rfl]
 ·refine hcon9 _ _ _ _ hdrew fun W6 hb6=>?_
  refine Ya2 (v:=wv) (w':=W6) h80 h81 (hrun8 _ _ hb6 (by rw[get8 _ _ 22 5 hnt4 (by decide),if_neg (by decide)];exact ha4t)) ?_
  rw[h82]
  refine hlast _ W6 hb6 (by rw[siz8,siz8];exact hnt4) hdf4 ?_ ?_
  ·rw[get8 _ _ 21 21 (by rw[siz8];exact hnt4) (by decide),if_pos rfl]
  ·rw[get8 _ _ 21 22 (by rw[siz8];exact hnt4) (by decide),if_neg (by decide),get8 _ _ 22 22 hnt4 (by decide),if_pos rfl]
end Go.Di

namespace Go.Di
open Proofs
noncomputable abbrev k_69 (p:List Nat):Code:=Code.at p (body Proofs.Tryz.f69)
noncomputable abbrev k_34 (p:List Nat):Code:=Code.at p (body Proofs.Tryz.f34)
def plW (x:FBook)(m:Mp)(th:List (List Int))(wr:List Int):D:=.fn 97 [] [cellsOf (fbkD x m th wr)]
def baA (x:FBook)(m:Mp)(th:List (List Int))(wr:List Int):List (Key×Val):=[(.tmp 1,.d (.ptr 1 0)),(.box 1,.bx (some ⟨false,cellsOf (fbkD x m th wr)⟩))]
def baAK:List Key:=[.tmp 1,.box 1]
def baB (x:FBook)(m:Mp)(th:List (List Int))(wr:List Int):List (Key×Val):=baA x m th wr++[(.tmp 4,.d (.ptr 4 0)),(.box 4,.bx (some ⟨false,[.nil]⟩))]
def baBK:List Key:=baAK++[.tmp 4,.box 4]
def baS (x:FBook)(m:Mp)(th:List (List Int))(wr:List Int)(c:D)(f:Bool):List (Key×Val) :=
 [(.tmp 4,.d (.ptr 4 0)),(.tmp 5,.d (.ptr 5 0)),(.tmp 6,.d (.ptr 6 0)),(.tmp 7,.d (.ptr 7 0)),(.box 4,.bx (some ⟨false,[c]⟩)),(.box 5,.bx (some ⟨false,[.bool f]⟩)),(.box 6,.bx (some ⟨false,[.fn 95 [fbkD x m th wr] []]⟩)),(.box 7,.bx (some ⟨false,[.fn 122 [] [cellsOf (fbkD x m th wr)]]⟩))]
def baK:List Key:=[.tmp 4,.tmp 5,.tmp 6,.tmp 7,.box 4,.box 5,.box 6,.box 7]
def baS1 (x:FBook)(m:Mp)(th:List (List Int))(wr:List Int)(c:D)(f:Bool)(p:List Work):List (Key×Val):=(.tmp 8,.d (.sl false .work p))::baS x m th wr c f
def skA (x:FBook):List (Key×Val):=[(.tmp 1,.d (.ptr 1 0)),(.box 1,.bx (some ⟨false,cellsOf (Yad x)⟩))]
def skB (x:FBook)(m:Mp)(th:List (List Int))(wr:List Int):List (Key×Val):=[(.tmp 4,.d (.ptr 4 0)),(.tmp 5,.d (.int .i64 0)),(.box 4,.bx (some ⟨false,cellsOf (fbkD x m th wr)⟩))]
def skS (x:FBook)(m:Mp)(th:List (List Int))(wr:List Int)(n:Int):List (Key×Val):=[(.tmp 4,.d (.ptr 4 0)),(.tmp 6,.d (.ptr 6 0)),(.box 4,.bx (some ⟨false,cellsOf (fbkD x m th wr)⟩)),(.box 6,.bx (some ⟨false,[.int .i64 n]⟩))]
def skK:List Key:=[.tmp 4,.tmp 6,.box 4,.box 6]
def skS1 (x:FBook)(m:Mp)(th:List (List Int))(wr:List Int)(n:Int)(p:List Work):List (Key×Val):=(.tmp 7,.d (.sl false .work p))::skS x m th wr n
theorem ba_0 (x:FBook)(m:Mp)(th:List (List Int))(wr:List Int) :
  runK (MF 33) [] [] [] (k_69 [0]) (entry 0 [fbkD x m th wr]) baAK =
   some ([],.normal,baA x m th wr):=by kernel_rfl
theorem ba_1 (x:FBook)(m:Mp)(th:List (List Int))(wr:List Int) :
  runK (MF 33) [] [] [] (k_69 [1,0]) (baA x m th wr) baBK =
   some ([],.normal,baB x m th wr):=by kernel_rfl
theorem ba_2 (x:FBook)(m:Mp)(th:List (List Int))(wr:List Int) :
  runK (MF 33) [] [(12,.agg [.fn 122 [] [cellsOf (fbkD x m th wr)]])] [] (k_69 [1,1,0]) (baB x m th wr) (baK++baAK) =
   some ([CF 96 [fbkD x m th wr] (D.agg [D.fn 122 [] [(cellsOf (fbkD x m th wr))]])],.normal,baS x m th wr .nil false++baA x m th wr):=by kernel_rfl
theorem ba_3 (x:FBook)(m:Mp)(th:List (List Int))(wr:List Int) :
  runK (MF 33) [] [(14,plW x m th wr)] [] (k_69 [1,1,1,0,0]) (baS x m th wr .nil false++baA x m th wr) ([.tmp 14]++baK) =
   some ([CF 70 [fbkD x m th wr] (D.fn 97 [] [(cellsOf (fbkD x m th wr))])],.normal,(.tmp 14,.d (plW x m th wr))::baS x m th wr .nil false):=by kernel_rfl
theorem ba_as0 (x:FBook)(m:Mp)(th:List (List Int))(wr:List Int)(p:List Work)(ke no:Nat→Prop)(w1:World)(fv:Nat→Value) :
  runK (mkR PRG (Yac Ybb) Yb4 33 ke no w1 [4,5,6,7] fv) [] [] [] (k_69 [1,1,1,0,1,0,0]) ((.tmp 15,.d (.sl false .work p))::baS x m th wr .nil false) ([.tmp 8]++baK) =
   some ([],.normal,baS1 x m th wr .nil false p):=by kernel_rfl
theorem ba_as1 (x:FBook)(m:Mp)(th:List (List Int))(wr:List Int)(q p:List Work)(ke no:Nat→Prop)(w1:World)(fv:Nat→Value) :
  runK (mkR PRG (Yac Ybb) Yb4 33 ke no w1 [4,5,6,7] fv) [] [] [] (k_69 [1,1,1,0,1,0,0]) ((.tmp 15,.d (.sl false .work p))::baS x m th wr (.sl false .work q) true) ([.tmp 8]++baK) =
   some ([],.normal,baS1 x m th wr (.sl false .work q) true p):=by kernel_rfl
theorem ba_no0 (x:FBook)(m:Mp)(th:List (List Int))(wr:List Int)(p:List Work)(ke no:Nat→Prop)(w1:World)(fv:Nat→Value) :
  runK (mkR PRG (Yac Ybb) Yb4 33 ke no w1 [4,5,6,7] fv) [] [(18,.bool false)] [] (k_69 [1,1,1,0,1,0,1]) (baS1 x m th wr .nil false p) baK =
   some ([CF 95 [fbkD x m th wr,D.sl false E.work p] (D.bool false)],.normal,baS x m th wr .nil false):=by kernel_rfl
theorem ba_no1 (x:FBook)(m:Mp)(th:List (List Int))(wr:List Int)(q p:List Work)(ke no:Nat→Prop)(w1:World)(fv:Nat→Value) :
  runK (mkR PRG (Yac Ybb) Yb4 33 ke no w1 [4,5,6,7] fv) [] [(18,.bool false)] [] (k_69 [1,1,1,0,1,0,1]) (baS1 x m th wr (.sl false .work q) true p) baK =
   some ([CF 95 [fbkD x m th wr,D.sl false E.work p] (D.bool false)],.normal,baS x m th wr (.sl false .work q) true):=by kernel_rfl
theorem ba_first (x:FBook)(m:Mp)(th:List (List Int))(wr:List Int)(p:List Work)(ke no:Nat→Prop)(w1:World)(fv:Nat→Value) :
  runK (mkR PRG (Yac Ybb) Yb4 33 ke no w1 [4,5,6,7] fv) [] [(18,.bool true)] [] (k_69 [1,1,1,0,1,0,1]) (baS1 x m th wr .nil false p) baK =
   some ([CF 95 [fbkD x m th wr,D.sl false E.work p] (D.bool true)],.normal,baS x m th wr (.sl false .work p) true):=by kernel_rfl
theorem ba_worse (x:FBook)(m:Mp)(th:List (List Int))(wr:List Int)(q p:List Work)(ke no:Nat→Prop)(w1:World)(fv:Nat→Value) :
  runK (mkR PRG (Yac Ybb) Yb4 33 ke no w1 [4,5,6,7] fv) [] [(18,.bool true),(27,.bool false)] [] (k_69 [1,1,1,0,1,0,1]) (baS1 x m th wr (.sl false .work q) true p) baK =
   some ([CF 95 [fbkD x m th wr,D.sl false E.work p] (D.bool true),CF 122 [D.sl false E.work p,D.sl false E.work q,D.ref (cellsOf (fbkD x m th wr)) 0] (D.bool false)],.normal,baS x m th wr (.sl false .work q) true):=by kernel_rfl
theorem ba_better (x:FBook)(m:Mp)(th:List (List Int))(wr:List Int)(q p:List Work)(ke no:Nat→Prop)(w1:World)(fv:Nat→Value) :
  runK (mkR PRG (Yac Ybb) Yb4 33 ke no w1 [4,5,6,7] fv) [] [(18,.bool true),(27,.bool true)] [] (k_69 [1,1,1,0,1,0,1]) (baS1 x m th wr (.sl false .work q) true p) baK =
   some ([CF 95 [fbkD x m th wr,D.sl false E.work p] (D.bool true),CF 122 [D.sl false E.work p,D.sl false E.work q,D.ref (cellsOf (fbkD x m th wr)) 0] (D.bool true)],.normal,baS x m th wr (.sl false .work p) true):=by kernel_rfl
theorem ba_end0 (x:FBook)(m:Mp)(th:List (List Int))(wr:List Int)(ke:Nat→Prop)(w1:World)(ds:List Deferred) :
  runK (mkE PRG (Yac Ybb) Yb4 33 ke w1 ds) [] [] [] (k_69 [1,1,1,1]) (baS x m th wr .nil false) [.tmp 2,.tmp 3] =
   some ([],.ret,[(.tmp 2,.d (.sl true .work [])),(.tmp 3,.d (.bool false))]):=by kernel_rfl
theorem ba_end1 (x:FBook)(m:Mp)(th:List (List Int))(wr:List Int)(p:List Work)(ke:Nat→Prop)(w1:World)(ds:List Deferred) :
  runK (mkE PRG (Yac Ybb) Yb4 33 ke w1 ds) [] [] [] (k_69 [1,1,1,1]) (baS x m th wr (.sl false .work p) true) [.tmp 2,.tmp 3] =
   some ([],.ret,[(.tmp 2,.d (.sl false .work p)),(.tmp 3,.d (.bool true))]):=by kernel_rfl
theorem sk_0 (x:FBook) :
  runK (MF 27) [] [] [] (k_34 [0]) (entry 0 [Yad x]) baAK =
   some ([],.normal,skA x):=by kernel_rfl
theorem sk_1 (x:FBook)(m:Mp)(th:List (List Int))(wr:List Int) :
  runK (MF 27) [] [(10,.tup [fbkD x m th wr,.I 0])] [] (k_34 [1,0]) (skA x) [.tmp 4,.tmp 5,.box 4] =
   some ([CF 44 [Yad x,D.fn 68 [] []] (D.tup [fbkD x m th wr,D.I 0])],.normal,skB x m th wr):=by kernel_rfl
theorem sk_2 (x:FBook)(m:Mp)(th:List (List Int))(wr:List Int) :
  runK (MF 27) [] [] [] (k_34 [1,1,0]) (skB x m th wr) [.tmp 4,.box 4] =
   some ([],.normal,[(.tmp 4,.d (.ptr 4 0)),(.box 4,.bx (some ⟨false,cellsOf (fbkD x m th wr)⟩))]):=by kernel_rfl
theorem sk_3 (x:FBook)(m:Mp)(th:List (List Int))(wr:List Int) :
  runK (MF 27) [] [] [] (k_34 [1,1,1,0]) [(.tmp 4,.d (.ptr 4 0)),(.box 4,.bx (some ⟨false,cellsOf (fbkD x m th wr)⟩))] skK =
   some ([],.normal,skS x m th wr 201):=by kernel_rfl
theorem sk_4 (x:FBook)(m:Mp)(th:List (List Int))(wr:List Int) :
  runK (MF 27) [] [(17,plW x m th wr)] [] (k_34 [1,1,1,1,0,0]) (skS x m th wr 201) ([.tmp 17]++skK) =
   some ([CF 70 [fbkD x m th wr] (D.fn 97 [] [(cellsOf (fbkD x m th wr))])],.normal,(.tmp 17,.d (plW x m th wr))::skS x m th wr 201):=by kernel_rfl
theorem sk_as (x:FBook)(m:Mp)(th:List (List Int))(wr:List Int)(n:Int)(p:List Work)(ke no:Nat→Prop)(w1:World)(fv:Nat→Value) :
  runK (mkR PRG (Yac Ybb) Yb4 27 ke no w1 [4,6] fv) [] [] [] (k_34 [1,1,1,1,0,1,0,0]) ((.tmp 18,.d (.sl false .work p))::skS x m th wr n) ([.tmp 7]++skK) =
   some ([],.normal,skS1 x m th wr n p):=by kernel_rfl
theorem sk_bd (x:FBook)(m:Mp)(th:List (List Int))(wr:List Int)(n:Int)(p:List Work)(v:Int)(ke no:Nat→Prop)(w1:World)(fv:Nat→Value) :
  runK (mkR PRG (Yac Ybb) Yb4 27 ke no w1 [4,6] fv) [] [(22,.I v)] [] (k_34 [1,1,1,1,0,1,0,1]) (skS1 x m th wr n p) skK =
   some ([0+1≤1,CF 67 [fbkD x m th wr,D.sl false E.work p] (D.I v)],.normal,skS x m th wr (mn n v)):=by kernel_rfl
theorem sk_no (x:FBook)(m:Mp)(th:List (List Int))(wr:List Int)(n:Int)(ke:Nat→Prop)(w1:World)(ds:List Deferred) :
  runK (mkE PRG (Yac Ybb) Yb4 27 ke w1 ds) [(25,true)] [] [] (k_34 [1,1,1,1,1]) (skS x m th wr n) [.tmp 2,.tmp 3] =
   some ([0+1≤1,decide (n>(200:Int))=true],.ret,[(.tmp 2,.d (.I 0)),(.tmp 3,.d (.I 4))]):=by kernel_rfl
theorem sk_yes (x:FBook)(m:Mp)(th:List (List Int))(wr:List Int)(n:Int)(ke:Nat→Prop)(w1:World)(ds:List Deferred) :
  runK (mkE PRG (Yac Ybb) Yb4 27 ke w1 ds) [(25,false)] [] [] (k_34 [1,1,1,1,1]) (skS x m th wr n) [.tmp 2,.tmp 3] =
   some ([0+1≤1,decide (n>(200:Int))=false,0+1≤1],.ret,[(.tmp 2,.d (.I n)),(.tmp 3,.d (.I 0))]):=by kernel_rfl
theorem ba_fn:FnOk PRG (MF 33) 69 (body Tryz.f69) [.tmp 2,.tmp 3]:=by refine⟨Tryz.f69,?_,?_,?_,?_,?_⟩<;>kernel_rfl
theorem sk_fn:FnOk PRG (MF 27) 34 (body Tryz.f34) [.tmp 2,.tmp 3]:=by refine⟨Tryz.f34,?_,?_,?_,?_,?_⟩<;>kernel_rfl
end Go.Di

