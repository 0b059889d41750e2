/- Part 31: contracts are proved. No condition. -/
import Derived.Test.YtfkmodcjddfeiaaGreatDoorDi30
import Derived.BigFrame
import Derived.Laws.MakeOwn
import Derived.Laws.CopyRow
import Derived.Laws.Entries
import Derived.Laws.IdiomCopy
set_option linter.unusedVariables false
set_option linter.unusedSimpArgs false
namespace Go.Di
open Proofs
noncomputable abbrev Yex (p:List Nat):Code:=Code.at p (body Proofs.Tryz.f129)
open Go.RowKit Go.Proofs
theorem Zt7 {l:LI}(hl:l.length<=1000)(n:Int):CF 129 [.z .int l,.I n] (.z .int (l++[n])):=by
 refine⟨⟨Tryz.f129,by kernel_rfl,by kernel_rfl,by kernel_rfl⟩,fun w R vs hd hg ha=>?_⟩;obtain⟨v,vs,rfl,hv,ha⟩:=Yaq ha;obtain⟨v2,vs,rfl,hv2,ha⟩:=Yaq ha;obtain rfl:=Ych ha;have hv2':v2=.int .i64 n:=hv2;subst hv2';obtain⟨A,c,hve,h1,h2,_,h4⟩:=hv;have hve':v=.slice A (List.length (α:=Int) l) c:=hve;have hu23:PRG.underlying 23=some (.slice 3):=by kernel_rfl
 have hu3:PRG.underlying 3=some (.int .i64):=by kernel_rfl
 have hib:(PRG.info? 3).map (fun i=>(i.zero,i.size,i.bytes))=some (some (.int .i64 0),1,8):=by kernel_rfl
 obtain⟨ti,hi,hz,hsz,hby⟩:∃ i,PRG.info? 3=some i/\i.zero=some (.int .i64 0)/\i.size=1/\i.bytes=8:=by
  cases hq:PRG.info? 3 with
  | none=>rw[hq]at hib;cases hib
  | some i =>
   rw[hq]at hib;simp only[Option.map_some,Option.some.injEq,Prod.mk.injEq]at hib;exact⟨i,rfl,hib.1,hib.2.1,hib.2.2⟩
 obtain⟨cur,hcur⟩:∃ cur,cur=madeCells #[Value.int .i64 0] ((l.length+1)*1):=⟨_,rfl⟩;have hcs:cur.size=l.length+1:=by rw[hcur,size_madeCells];omega
 obtain⟨w1,hw1⟩:∃ w1,w1=w.alloc (.cells cur 3):=⟨_,rfl⟩
 have hmk:(Instr.makeSlice 23 (.int .i64 ((l.length+1:Nat):Int)) (.int .i64 ((l.length+1:Nat):Int))).run PRG w=.ok (.slice (some ⟨w.heap.size,0,none⟩) (l.length+1) (l.length+1)) w1:=by
  have h:=run_make (P:=PRG) w 23 3 ti (.int .i64 0) hu23 hi hz .i64 .i64 ((l.length+1:Nat):Int) ((l.length+1:Nat):Int) (by omega) (Int.le_refl _) (by rw[hby];omega) (by omega);rw[h,hw1,hcur,hsz,Int.toNat_natCast];rfl
 have hg1:w1.heap[w.heap.size]?=some (.cells cur 3 (0,0)):=by rw[hw1];exact heap_alloc_new _ _
 have hb1:Below w.heap.size w w1:=by rw[hw1];exact Ybc _ _
 obtain⟨vs,hvs⟩:∃ vs,vs=l.map (Value.int .i64):=⟨_,rfl⟩;have hvl:vs.length=l.length:=by rw[hvs,List.length_map]
 obtain⟨w2,hw2⟩:∃ w2,w2=w1.setCells w.heap.size 0 vs:=⟨_,rfl⟩
 have hcp:∀ ty,(Builtin.copy_ #[23,23] ty #[.slice (some ⟨w.heap.size,0,none⟩) (l.length+1) (l.length+1),v]).run PRG w1=.ok (goInt l.length) w2:=by
  intro ty
  by_cases h0:0<l.length
  ·obtain⟨b,o,rfl,h5⟩:=h4 h0;have h:=run_copy_cells (P:=PRG) w1 23 23 ty 3 w.heap.size 0 (l.length+1) (l.length+1) ⟨b,o,none⟩ l.length c vs hu23 (by rw[hi];simp[hsz]) (by rw[hvl];exact(Nat.min_eq_left (by omega)).symm) (fun j u hj=>?_) (fun j hj=>?_) (fun j hj=>?_) (fun u hu=>?_)
   ·rw[hve',h,hw2,hvl]
   ·have hjl:j<l.length:=by rw[<-hvl];exact(List.getElem?_eq_some_iff.1 hj).1
    obtain⟨us,q1,q2,q3⟩:=h5 j _ (List.getElem?_eq_getElem hjl);have q2':us=[.int .i64 l[j]]:=q2;subst q2';obtain⟨g1,g2⟩:=q3 0 _ rfl
    have e:u=.int .i64 l[j]:=by
     rw[hvs,List.getElem?_map,List.getElem?_eq_getElem hjl]at hj;exact(Option.some.inj hj).symm
    have g2':w.cell? ⟨b,o+j,none⟩=some (.int .i64 l[j]):=by
     have:o+j*E.int.sz+0=o+j:=by show o+j*1+0=_;omega
     rw[<-this];exact g2
    rw[e,show((⟨b,o,none⟩:Addr).add j)=⟨b,o+j,none⟩ by simp[Addr.add],hb1.cell (hd _ _ g1)];exact g2'
   ·rw[Ye1 hg1,Array.getElem?_eq_getElem (by omega)];rfl
   ·simp[World.frozen?,hg1]
   ·rw[hvs]at hu;obtain⟨z,_,rfl⟩:=List.mem_map.1 hu;rfl
  ·have hl0:l.length=0:=by omega
   have hv0:vs=[]:=List.length_eq_zero_iff.1 (by omega);have h:=run_copy_none (P:=PRG) w1 23 23 ty 3 (some ⟨w.heap.size,0,none⟩) A (l.length+1) (l.length+1) l.length c hu23 (by rw[hi];simp[hsz]) ((Nat.min_eq_left (by omega)).trans hl0);rw[hve',h,hw2,hv0,hl0];rfl
 have hg2:w2.heap[w.heap.size]?=some (.cells (Yc2 cur 0 vs) 3 (0,0)):=by rw[hw2];exact Ybo _ _ _ _ _ _ _ hg1
 have hix:(Instr.indexAt 23 (.slice (some ⟨w.heap.size,0,none⟩) (l.length+1) (l.length+1)) (.int .i64 (l.length:Int))).run PRG w2=.ok (.pointer (some ⟨w.heap.size,l.length,none⟩)) w2:=by
  have he:PRG.elem 23=3:=by kernel_rfl
  have h:=run_indexAt_slice (P:=PRG) w2 23 ⟨w.heap.size,0,none⟩ (l.length+1) (l.length+1) .i64 (l.length:Int) (by rw[he];exact hu23);rw[h,if_pos ⟨by omega,by omega⟩,he];have hs3:=Tryz.sizeOf3 w2;simp[hs3,Addr.add];intro h0;rw[h0];rfl
 obtain⟨w3,hw3⟩:∃ w3,w3=w2.setCells w.heap.size l.length [.int .i64 n]:=⟨_,rfl⟩;have hps:∀(us:List Value) (arr:Array Value) (o:Nat),(Yc2 arr o us).size=arr.size:=Ybs
 have hst:(Instr.storeAt 3 (.pointer (some ⟨w.heap.size,l.length,none⟩)) (.int .i64 n)).run PRG w2=.ok () w3:=by
  have h:=Yf6 (P:=PRG) (C:=MH 19) (w:=w2) (t:=3) (ti:=⟨.int .i64,1,8,[.int .i64 0],some .int,false⟩) (Yw8 3 _ (by kernel_rfl)) (g:=w.heap.size) (off:=l.length) (v:=.int .i64 n) hg2 rfl (by rw[hps,hcs];show l.length+1<=_;omega) (by intro u hu;simp[Value.cells]at hu;subst hu;rfl);rw[h,hw3];rfl
 have hg3:w3.heap[w.heap.size]?=some (.cells (Yc2 (Yc2 cur 0 vs) l.length [.int .i64 n]) 3 (0,0)):=by rw[hw3];exact Ybo _ _ _ _ _ _ _ hg2
 have hb3:Below w.heap.size w w3:=by
  obtain⟨r1,r2,r3,r4⟩:=Yce w.heap.size vs 0 w1;obtain⟨u1,u2,u3,u4⟩:=Yce w.heap.size [.int .i64 n] l.length w2;rw[<-hw2]at r1 r2 r3 r4;rw[<-hw3]at u1 u2 u3 u4;refine hb1.trans ⟨u1.trans r1,u2.trans r2,u3.trans r3,by omega,fun k hk=>?_⟩;rw[hw3,Ybz _ _ _ _ _ (by omega),hw2,Ybz _ _ _ _ _ (by omega)]
 have hown:OwnR w.heap.size w3 (.slice (some ⟨w.heap.size,0,none⟩) (l.length+1) (l.length+1)) (l++[n]):=by
  refine .inr ⟨w.heap.size,l.length+1,_,3,by rw[List.length_append,List.length_singleton],Nat.le_refl _,hg3,by rw[List.length_append,List.length_singleton];exact Nat.le_refl _,by simp only[maxLen];omega,by rw[hps,hps,hcs];exact Nat.le_refl _,fun j hj=>?_⟩;rw[List.length_append,List.length_singleton]at hj;rw[Ybt,hps,hcs]
  by_cases hjl:j<l.length
  ·rw[if_neg (by omega),Ybt,hcs,if_pos ⟨by omega,by omega,by omega⟩,hvs,Nat.sub_zero,List.getElem?_map,List.getElem?_eq_getElem hjl];rw[List.getD_eq_getElem?_getD,List.getElem?_append_left hjl,List.getElem?_eq_getElem hjl];rfl
  ·obtain rfl:j=l.length:=by omega
   rw[if_pos ⟨by omega,by simp,by omega⟩,Nat.sub_self,List.getD_eq_getElem?_getD,List.getElem?_append_right (Nat.le_refl _),Nat.sub_self];rfl
 refine calls_of_wp (f:=129) (fn:=Tryz.f129) (by kernel_rfl) (c:=body Tryz.f129) (by kernel_rfl) ?_;refine(wpIn_wide (n:=0)).1 (wpIn_mono (Q:=fun e a' w'=>e=.ret/\a'.defers=[]/\a'.tmps.getD 4 undef=.slice (some ⟨w.heap.size,0,none⟩) (l.length+1) (l.length+1)/\w'=w3) ?_ ?_)
 rotate_left
 ·rintro e a' w' ⟨rfl,g1,g2,rfl⟩
  obtain⟨R',k1,k2,k3⟩:=hown.rel hb3.size R (fun b o h=>Nat.lt_of_lt_of_le (hd b o h) hb3.size);have hr:=Yeu (P:=PRG) (a:=a') (w:=w') (fn:=Tryz.f129) (rs:=[.tmp 4]) (by kernel_rfl) (vs:=[a'.tmps.getD 4 undef]) ⟨rfl,trivial⟩;rw[g2]at hr;exact⟨g1,_,hr,_,rfl,hb3,R',k1,k2,k3⟩
 have hcode:body Tryz.f129=.seq (.region 0 (rops (Yex [0])) false) (.seq (.region 1 (rops (Yex [1,0])) false) (.seq (.region 2 (rops (Yex [1,1,0])) false) (.seq (.region 3 (rops (Yex [1,1,1,0])) false) (.seq (.region 4 (rops (Yex [1,1,1,1,0])) false) .ret)))):=by kernel_rfl
 rw[hcode];obtain⟨a0,ha0⟩:∃ a0:Act,a0={tmps:=#[v,Value.int .i64 n]++Array.replicate (Tryz.f129.ntmps-#[v,Value.int .i64 n].size) undef,defers:=[]}:=⟨_,rfl⟩;rw[<-ha0];have hn19:Tryz.f129.ntmps=19:=by kernel_rfl
 have z0:a0.tmps.size=19:=by rw[ha0,hn19];simp
 have d0:a0.defers=[]:=by rw[ha0]
 have t0_0:a0.tmps.getD 0 undef=v:=by rw[ha0,hn19];simp
 have t0_1:a0.tmps.getD 1 undef=(.int .i64 n):=by rw[ha0,hn19];simp
 refine wpIn_seq (Ydw (by kernel_rfl) ?_);rw[show(rops (Yex [0])).size=1 by kernel_rfl];show wpOps _ _ _ (0::[]) _ _;obtain⟨o1,p1,q1,r1,s1⟩:=(opAt (ops:=(rops (Yex [0]))) (i:=0) (dst:=some 4) (op:=.assign (.const (.slice none 0 0))) (by kernel_rfl)).at_
 refine Yau (v:=(.slice none 0 0)) (w':=w) p1 q1 (by
  simp[execOp,s1,Act.eval]) ?_
 rw[r1];obtain⟨a1,ha1⟩:∃ b,b=a0.put (some 4) (.slice none 0 0):=⟨_,rfl⟩;rw[<-ha1];have z1:a1.tmps.size=19:=by rw[ha1,Ya4];exact z0
 have d1:a1.defers=[]:=by rw[ha1];exact d0
 have t1_0:a1.tmps.getD 0 undef=v:=by rw[ha1];exact Yag (by omega) (by decide) t0_0
 have t1_1:a1.tmps.getD 1 undef=(.int .i64 n):=by rw[ha1];exact Yag (by omega) (by decide) t0_1
 have t1_4:a1.tmps.getD 4 undef=(.slice none 0 0):=by rw[ha1];exact Ycg (by omega)
 show Code.wpIn _ _ _ _ _ _ _;refine wpIn_seq (Ydw (by kernel_rfl) ?_);rw[show(rops (Yex [1,0])).size=5 by kernel_rfl];show wpOps _ _ _ (0::[1,2,3,4]) _ _;obtain⟨o2,p2,q2,r2,s2⟩:=(opAt (ops:=(rops (Yex [1,0]))) (i:=0) (dst:=some 6) (op:=.move (.tmp 0)) (by kernel_rfl)).at_
 refine Yau (v:=v) (w':=w) p2 q2 (by
  have e:a1.eval (.tmp 0)=v:=t1_0;simp[execOp,s2,e]) ?_
 rw[r2];obtain⟨a2,ha2⟩:∃ b,b=a1.put (some 6) v:=⟨_,rfl⟩;rw[<-ha2];have z2:a2.tmps.size=19:=by rw[ha2,Ya4];exact z1
 have d2:a2.defers=[]:=by rw[ha2];exact d1
 have t2_0:a2.tmps.getD 0 undef=v:=by rw[ha2];exact Yag (by omega) (by decide) t1_0
 have t2_1:a2.tmps.getD 1 undef=(.int .i64 n):=by rw[ha2];exact Yag (by omega) (by decide) t1_1
 have t2_4:a2.tmps.getD 4 undef=(.slice none 0 0):=by rw[ha2];exact Yag (by omega) (by decide) t1_4
 have t2_6:a2.tmps.getD 6 undef=v:=by rw[ha2];exact Ycg (by omega)
 obtain⟨o3,p3,q3,r3,s3⟩:=(opAt (ops:=(rops (Yex [1,0]))) (i:=1) (dst:=some 7) (op:=.call {callee:=.builtin .len,args:=#[.tmp 6],argTypes:=#[23]}) (by kernel_rfl)).at_
 refine Yau (v:=(.int .i64 (l.length:Int))) (w':=w) p3 q3 (by
  have e:a2.eval (.tmp 6)=.slice A (List.length (α:=Int) l) c:=t2_6.trans hve';simp[execOp,s3,e,resolve,invoke,builtin,Builtin.len_,run_underlying hu23,goInt]) ?_
 rw[r3];obtain⟨a3,ha3⟩:∃ b,b=a2.put (some 7) (.int .i64 (l.length:Int)):=⟨_,rfl⟩;rw[<-ha3];have z3:a3.tmps.size=19:=by rw[ha3,Ya4];exact z2
 have d3:a3.defers=[]:=by rw[ha3];exact d2
 have t3_0:a3.tmps.getD 0 undef=v:=by rw[ha3];exact Yag (by omega) (by decide) t2_0
 have t3_1:a3.tmps.getD 1 undef=(.int .i64 n):=by rw[ha3];exact Yag (by omega) (by decide) t2_1
 have t3_4:a3.tmps.getD 4 undef=(.slice none 0 0):=by rw[ha3];exact Yag (by omega) (by decide) t2_4
 have t3_6:a3.tmps.getD 6 undef=v:=by rw[ha3];exact Yag (by omega) (by decide) t2_6
 have t3_7:a3.tmps.getD 7 undef=(.int .i64 (l.length:Int)):=by rw[ha3];exact Ycg (by omega)
 obtain⟨o4,p4,q4,r4,s4⟩:=(opAt (ops:=(rops (Yex [1,0]))) (i:=2) (dst:=some 8) (op:=.binOp .add 3 (.tmp 7) (.const (.int .i64 1)) 3) (by kernel_rfl)).at_
 refine Yau (v:=(.int .i64 ((l.length+1:Nat):Int))) (w':=w) p4 q4 (by
  have e:a3.eval (.tmp 7)=.int .i64 (l.length:Int):=t3_7;have e2:a3.eval (.const (.int .i64 1))=.int .i64 1:=rfl;have g:(eqGuard .add 3 (.tmp 7) (.const (.int .i64 1)) (.int .i64 (l.length:Int)) (.int .i64 1)).run PRG w=.ok () w:=by simp[eqGuard]
  have g2:(binOp .add 3 (.int .i64 (l.length:Int)) (.int .i64 1)).run PRG w=.ok (.int .i64 ((l.length+1:Nat):Int)) w:=by
   have hw:IntKind.wrap .i64 ((l.length:Int)+1)=(l.length:Int)+1:=by rw[IntKind.wrap_i64];omega
   simp[binOp,Op.intArith,hw]
  simp only[execOp,s4,e,e2];simp[g,g2]) ?_
 rw[r4];obtain⟨a4,ha4⟩:∃ b,b=a3.put (some 8) (.int .i64 ((l.length+1:Nat):Int)):=⟨_,rfl⟩;rw[<-ha4];have z4:a4.tmps.size=19:=by rw[ha4,Ya4];exact z3
 have d4:a4.defers=[]:=by rw[ha4];exact d3
 have t4_0:a4.tmps.getD 0 undef=v:=by rw[ha4];exact Yag (by omega) (by decide) t3_0
 have t4_1:a4.tmps.getD 1 undef=(.int .i64 n):=by rw[ha4];exact Yag (by omega) (by decide) t3_1
 have t4_4:a4.tmps.getD 4 undef=(.slice none 0 0):=by rw[ha4];exact Yag (by omega) (by decide) t3_4
 have t4_6:a4.tmps.getD 6 undef=v:=by rw[ha4];exact Yag (by omega) (by decide) t3_6
 have t4_7:a4.tmps.getD 7 undef=(.int .i64 (l.length:Int)):=by rw[ha4];exact Yag (by omega) (by decide) t3_7
 have t4_8:a4.tmps.getD 8 undef=(.int .i64 ((l.length+1:Nat):Int)):=by rw[ha4];exact Ycg (by omega)
 obtain⟨o5,p5,q5,r5,s5⟩:=(opAt (ops:=(rops (Yex [1,0]))) (i:=3) (dst:=some 9) (op:=.makeSlice 23 (.tmp 8) (.tmp 8)) (by kernel_rfl)).at_
 refine Yau (v:=(.slice (some ⟨w.heap.size,0,none⟩) (l.length+1) (l.length+1))) (w':=w1) p5 q5 (by
  have e:a4.eval (.tmp 8)=.int .i64 ((l.length+1:Nat):Int):=t4_8;simp only[execOp,s5,e];rw[Sem.run_bind,hmk];rfl) ?_
 rw[r5];obtain⟨a5,ha5⟩:∃ b,b=a4.put (some 9) (.slice (some ⟨w.heap.size,0,none⟩) (l.length+1) (l.length+1)):=⟨_,rfl⟩;rw[<-ha5];have z5:a5.tmps.size=19:=by rw[ha5,Ya4];exact z4
 have d5:a5.defers=[]:=by rw[ha5];exact d4
 have t5_0:a5.tmps.getD 0 undef=v:=by rw[ha5];exact Yag (by omega) (by decide) t4_0
 have t5_1:a5.tmps.getD 1 undef=(.int .i64 n):=by rw[ha5];exact Yag (by omega) (by decide) t4_1
 have t5_4:a5.tmps.getD 4 undef=(.slice none 0 0):=by rw[ha5];exact Yag (by omega) (by decide) t4_4
 have t5_6:a5.tmps.getD 6 undef=v:=by rw[ha5];exact Yag (by omega) (by decide) t4_6
 have t5_7:a5.tmps.getD 7 undef=(.int .i64 (l.length:Int)):=by rw[ha5];exact Yag (by omega) (by decide) t4_7
 have t5_8:a5.tmps.getD 8 undef=(.int .i64 ((l.length+1:Nat):Int)):=by rw[ha5];exact Yag (by omega) (by decide) t4_8
 have t5_9:a5.tmps.getD 9 undef=(.slice (some ⟨w.heap.size,0,none⟩) (l.length+1) (l.length+1)):=by rw[ha5];exact Ycg (by omega)
 obtain⟨o6,p6,q6,r6,s6⟩:=(opAt (ops:=(rops (Yex [1,0]))) (i:=4) (dst:=some 5) (op:=.assign (.tmp 9)) (by kernel_rfl)).at_
 refine Yau (v:=(.slice (some ⟨w.heap.size,0,none⟩) (l.length+1) (l.length+1))) (w':=w1) p6 q6 (by
  have e:a5.eval (.tmp 9)=(.slice (some ⟨w.heap.size,0,none⟩) (l.length+1) (l.length+1)):=t5_9;simp[execOp,s6,e]) ?_
 rw[r6];obtain⟨a6,ha6⟩:∃ b,b=a5.put (some 5) (.slice (some ⟨w.heap.size,0,none⟩) (l.length+1) (l.length+1)):=⟨_,rfl⟩;rw[<-ha6];have z6:a6.tmps.size=19:=by rw[ha6,Ya4];exact z5
 have d6:a6.defers=[]:=by rw[ha6];exact d5
 have t6_0:a6.tmps.getD 0 undef=v:=by rw[ha6];exact Yag (by omega) (by decide) t5_0
 have t6_1:a6.tmps.getD 1 undef=(.int .i64 n):=by rw[ha6];exact Yag (by omega) (by decide) t5_1
 have t6_4:a6.tmps.getD 4 undef=(.slice none 0 0):=by rw[ha6];exact Yag (by omega) (by decide) t5_4
 have t6_6:a6.tmps.getD 6 undef=v:=by rw[ha6];exact Yag (by omega) (by decide) t5_6
 have t6_7:a6.tmps.getD 7 undef=(.int .i64 (l.length:Int)):=by rw[ha6];exact Yag (by omega) (by decide) t5_7
 have t6_8:a6.tmps.getD 8 undef=(.int .i64 ((l.length+1:Nat):Int)):=by rw[ha6];exact Yag (by omega) (by decide) t5_8
 have t6_9:a6.tmps.getD 9 undef=(.slice (some ⟨w.heap.size,0,none⟩) (l.length+1) (l.length+1)):=by rw[ha6];exact Yag (by omega) (by decide) t5_9
 have t6_5:a6.tmps.getD 5 undef=(.slice (some ⟨w.heap.size,0,none⟩) (l.length+1) (l.length+1)):=by rw[ha6];exact Ycg (by omega)
 show Code.wpIn _ _ _ _ _ _ _;refine wpIn_seq (Ydw (by kernel_rfl) ?_);rw[show(rops (Yex [1,1,0])).size=3 by kernel_rfl];show wpOps _ _ _ (0::[1,2]) _ _;obtain⟨o7,p7,q7,r7,s7⟩:=(opAt (ops:=(rops (Yex [1,1,0]))) (i:=0) (dst:=some 10) (op:=.move (.tmp 5)) (by kernel_rfl)).at_
 refine Yau (v:=(.slice (some ⟨w.heap.size,0,none⟩) (l.length+1) (l.length+1))) (w':=w1) p7 q7 (by
  have e:a6.eval (.tmp 5)=(.slice (some ⟨w.heap.size,0,none⟩) (l.length+1) (l.length+1)):=t6_5;simp[execOp,s7,e]) ?_
 rw[r7];obtain⟨a7,ha7⟩:∃ b,b=a6.put (some 10) (.slice (some ⟨w.heap.size,0,none⟩) (l.length+1) (l.length+1)):=⟨_,rfl⟩;rw[<-ha7];have z7:a7.tmps.size=19:=by rw[ha7,Ya4];exact z6
 have d7:a7.defers=[]:=by rw[ha7];exact d6
 have t7_0:a7.tmps.getD 0 undef=v:=by rw[ha7];exact Yag (by omega) (by decide) t6_0
 have t7_1:a7.tmps.getD 1 undef=(.int .i64 n):=by rw[ha7];exact Yag (by omega) (by decide) t6_1
 have t7_4:a7.tmps.getD 4 undef=(.slice none 0 0):=by rw[ha7];exact Yag (by omega) (by decide) t6_4
 have t7_6:a7.tmps.getD 6 undef=v:=by rw[ha7];exact Yag (by omega) (by decide) t6_6
 have t7_7:a7.tmps.getD 7 undef=(.int .i64 (l.length:Int)):=by rw[ha7];exact Yag (by omega) (by decide) t6_7
 have t7_8:a7.tmps.getD 8 undef=(.int .i64 ((l.length+1:Nat):Int)):=by rw[ha7];exact Yag (by omega) (by decide) t6_8
 have t7_9:a7.tmps.getD 9 undef=(.slice (some ⟨w.heap.size,0,none⟩) (l.length+1) (l.length+1)):=by rw[ha7];exact Yag (by omega) (by decide) t6_9
 have t7_5:a7.tmps.getD 5 undef=(.slice (some ⟨w.heap.size,0,none⟩) (l.length+1) (l.length+1)):=by rw[ha7];exact Yag (by omega) (by decide) t6_5
 have t7_10:a7.tmps.getD 10 undef=(.slice (some ⟨w.heap.size,0,none⟩) (l.length+1) (l.length+1)):=by rw[ha7];exact Ycg (by omega)
 obtain⟨o8,p8,q8,r8,s8⟩:=(opAt (ops:=(rops (Yex [1,1,0]))) (i:=1) (dst:=some 11) (op:=.move (.tmp 0)) (by kernel_rfl)).at_
 refine Yau (v:=v) (w':=w1) p8 q8 (by
  have e:a7.eval (.tmp 0)=v:=t7_0;simp[execOp,s8,e]) ?_
 rw[r8];obtain⟨a8,ha8⟩:∃ b,b=a7.put (some 11) v:=⟨_,rfl⟩;rw[<-ha8];have z8:a8.tmps.size=19:=by rw[ha8,Ya4];exact z7
 have d8:a8.defers=[]:=by rw[ha8];exact d7
 have t8_0:a8.tmps.getD 0 undef=v:=by rw[ha8];exact Yag (by omega) (by decide) t7_0
 have t8_1:a8.tmps.getD 1 undef=(.int .i64 n):=by rw[ha8];exact Yag (by omega) (by decide) t7_1
 have t8_4:a8.tmps.getD 4 undef=(.slice none 0 0):=by rw[ha8];exact Yag (by omega) (by decide) t7_4
 have t8_6:a8.tmps.getD 6 undef=v:=by rw[ha8];exact Yag (by omega) (by decide) t7_6
 have t8_7:a8.tmps.getD 7 undef=(.int .i64 (l.length:Int)):=by rw[ha8];exact Yag (by omega) (by decide) t7_7
 have t8_8:a8.tmps.getD 8 undef=(.int .i64 ((l.length+1:Nat):Int)):=by rw[ha8];exact Yag (by omega) (by decide) t7_8
 have t8_9:a8.tmps.getD 9 undef=(.slice (some ⟨w.heap.size,0,none⟩) (l.length+1) (l.length+1)):=by rw[ha8];exact Yag (by omega) (by decide) t7_9
 have t8_5:a8.tmps.getD 5 undef=(.slice (some ⟨w.heap.size,0,none⟩) (l.length+1) (l.length+1)):=by rw[ha8];exact Yag (by omega) (by decide) t7_5
 have t8_10:a8.tmps.getD 10 undef=(.slice (some ⟨w.heap.size,0,none⟩) (l.length+1) (l.length+1)):=by rw[ha8];exact Yag (by omega) (by decide) t7_10
 have t8_11:a8.tmps.getD 11 undef=v:=by rw[ha8];exact Ycg (by omega)
 obtain⟨o9,p9,q9,r9,s9⟩:=(opAt (ops:=(rops (Yex [1,1,0]))) (i:=2) (dst:=some 12) (op:=.call {callee:=.builtin .copy,args:=#[.tmp 10,.tmp 11],argTypes:=#[23,23]}) (by kernel_rfl)).at_
 refine Yau (v:=(goInt l.length)) (w':=w2) p9 q9 (by
  have e:a8.eval (.tmp 10)=(.slice (some ⟨w.heap.size,0,none⟩) (l.length+1) (l.length+1)):=t8_10;have e2:a8.eval (.tmp 11)=v:=t8_11;simp[execOp,s9,e,e2,resolve,invoke,builtin,hcp]) ?_
 rw[r9];obtain⟨a9,ha9⟩:∃ b,b=a8.put (some 12) (goInt l.length):=⟨_,rfl⟩;rw[<-ha9];have z9:a9.tmps.size=19:=by rw[ha9,Ya4];exact z8
 have d9:a9.defers=[]:=by rw[ha9];exact d8
 have t9_0:a9.tmps.getD 0 undef=v:=by rw[ha9];exact Yag (by omega) (by decide) t8_0
 have t9_1:a9.tmps.getD 1 undef=(.int .i64 n):=by rw[ha9];exact Yag (by omega) (by decide) t8_1
 have t9_4:a9.tmps.getD 4 undef=(.slice none 0 0):=by rw[ha9];exact Yag (by omega) (by decide) t8_4
 have t9_6:a9.tmps.getD 6 undef=v:=by rw[ha9];exact Yag (by omega) (by decide) t8_6
 have t9_7:a9.tmps.getD 7 undef=(.int .i64 (l.length:Int)):=by rw[ha9];exact Yag (by omega) (by decide) t8_7
 have t9_8:a9.tmps.getD 8 undef=(.int .i64 ((l.length+1:Nat):Int)):=by rw[ha9];exact Yag (by omega) (by decide) t8_8
 have t9_9:a9.tmps.getD 9 undef=(.slice (some ⟨w.heap.size,0,none⟩) (l.length+1) (l.length+1)):=by rw[ha9];exact Yag (by omega) (by decide) t8_9
 have t9_5:a9.tmps.getD 5 undef=(.slice (some ⟨w.heap.size,0,none⟩) (l.length+1) (l.length+1)):=by rw[ha9];exact Yag (by omega) (by decide) t8_5
 have t9_10:a9.tmps.getD 10 undef=(.slice (some ⟨w.heap.size,0,none⟩) (l.length+1) (l.length+1)):=by rw[ha9];exact Yag (by omega) (by decide) t8_10
 have t9_11:a9.tmps.getD 11 undef=v:=by rw[ha9];exact Yag (by omega) (by decide) t8_11
 have t9_12:a9.tmps.getD 12 undef=(goInt l.length):=by rw[ha9];exact Ycg (by omega)
 show Code.wpIn _ _ _ _ _ _ _;refine wpIn_seq (Ydw (by kernel_rfl) ?_);rw[show(rops (Yex [1,1,1,0])).size=6 by kernel_rfl];show wpOps _ _ _ (0::[1,2,3,4,5]) _ _;obtain⟨o10,p10,q10,r10,s10⟩:=(opAt (ops:=(rops (Yex [1,1,1,0]))) (i:=0) (dst:=some 13) (op:=.move (.tmp 5)) (by kernel_rfl)).at_
 refine Yau (v:=(.slice (some ⟨w.heap.size,0,none⟩) (l.length+1) (l.length+1))) (w':=w2) p10 q10 (by
  have e:a9.eval (.tmp 5)=(.slice (some ⟨w.heap.size,0,none⟩) (l.length+1) (l.length+1)):=t9_5;simp[execOp,s10,e]) ?_
 rw[r10];obtain⟨a10,ha10⟩:∃ b,b=a9.put (some 13) (.slice (some ⟨w.heap.size,0,none⟩) (l.length+1) (l.length+1)):=⟨_,rfl⟩;rw[<-ha10];have z10:a10.tmps.size=19:=by rw[ha10,Ya4];exact z9
 have d10:a10.defers=[]:=by rw[ha10];exact d9
 have t10_0:a10.tmps.getD 0 undef=v:=by rw[ha10];exact Yag (by omega) (by decide) t9_0
 have t10_1:a10.tmps.getD 1 undef=(.int .i64 n):=by rw[ha10];exact Yag (by omega) (by decide) t9_1
 have t10_4:a10.tmps.getD 4 undef=(.slice none 0 0):=by rw[ha10];exact Yag (by omega) (by decide) t9_4
 have t10_6:a10.tmps.getD 6 undef=v:=by rw[ha10];exact Yag (by omega) (by decide) t9_6
 have t10_7:a10.tmps.getD 7 undef=(.int .i64 (l.length:Int)):=by rw[ha10];exact Yag (by omega) (by decide) t9_7
 have t10_8:a10.tmps.getD 8 undef=(.int .i64 ((l.length+1:Nat):Int)):=by rw[ha10];exact Yag (by omega) (by decide) t9_8
 have t10_9:a10.tmps.getD 9 undef=(.slice (some ⟨w.heap.size,0,none⟩) (l.length+1) (l.length+1)):=by rw[ha10];exact Yag (by omega) (by decide) t9_9
 have t10_5:a10.tmps.getD 5 undef=(.slice (some ⟨w.heap.size,0,none⟩) (l.length+1) (l.length+1)):=by rw[ha10];exact Yag (by omega) (by decide) t9_5
 have t10_10:a10.tmps.getD 10 undef=(.slice (some ⟨w.heap.size,0,none⟩) (l.length+1) (l.length+1)):=by rw[ha10];exact Yag (by omega) (by decide) t9_10
 have t10_11:a10.tmps.getD 11 undef=v:=by rw[ha10];exact Yag (by omega) (by decide) t9_11
 have t10_12:a10.tmps.getD 12 undef=(goInt l.length):=by rw[ha10];exact Yag (by omega) (by decide) t9_12
 have t10_13:a10.tmps.getD 13 undef=(.slice (some ⟨w.heap.size,0,none⟩) (l.length+1) (l.length+1)):=by rw[ha10];exact Ycg (by omega)
 obtain⟨o11,p11,q11,r11,s11⟩:=(opAt (ops:=(rops (Yex [1,1,1,0]))) (i:=1) (dst:=some 14) (op:=.move (.tmp 0)) (by kernel_rfl)).at_
 refine Yau (v:=v) (w':=w2) p11 q11 (by
  have e:a10.eval (.tmp 0)=v:=t10_0;simp[execOp,s11,e]) ?_
 rw[r11];obtain⟨a11,ha11⟩:∃ b,b=a10.put (some 14) v:=⟨_,rfl⟩;rw[<-ha11];have z11:a11.tmps.size=19:=by rw[ha11,Ya4];exact z10
 have d11:a11.defers=[]:=by rw[ha11];exact d10
 have t11_0:a11.tmps.getD 0 undef=v:=by rw[ha11];exact Yag (by omega) (by decide) t10_0
 have t11_1:a11.tmps.getD 1 undef=(.int .i64 n):=by rw[ha11];exact Yag (by omega) (by decide) t10_1
 have t11_4:a11.tmps.getD 4 undef=(.slice none 0 0):=by rw[ha11];exact Yag (by omega) (by decide) t10_4
 have t11_6:a11.tmps.getD 6 undef=v:=by rw[ha11];exact Yag (by omega) (by decide) t10_6
 have t11_7:a11.tmps.getD 7 undef=(.int .i64 (l.length:Int)):=by rw[ha11];exact Yag (by omega) (by decide) t10_7
 have t11_8:a11.tmps.getD 8 undef=(.int .i64 ((l.length+1:Nat):Int)):=by rw[ha11];exact Yag (by omega) (by decide) t10_8
 have t11_9:a11.tmps.getD 9 undef=(.slice (some ⟨w.heap.size,0,none⟩) (l.length+1) (l.length+1)):=by rw[ha11];exact Yag (by omega) (by decide) t10_9
 have t11_5:a11.tmps.getD 5 undef=(.slice (some ⟨w.heap.size,0,none⟩) (l.length+1) (l.length+1)):=by rw[ha11];exact Yag (by omega) (by decide) t10_5
 have t11_10:a11.tmps.getD 10 undef=(.slice (some ⟨w.heap.size,0,none⟩) (l.length+1) (l.length+1)):=by rw[ha11];exact Yag (by omega) (by decide) t10_10
 have t11_11:a11.tmps.getD 11 undef=v:=by rw[ha11];exact Yag (by omega) (by decide) t10_11
 have t11_12:a11.tmps.getD 12 undef=(goInt l.length):=by rw[ha11];exact Yag (by omega) (by decide) t10_12
 have t11_13:a11.tmps.getD 13 undef=(.slice (some ⟨w.heap.size,0,none⟩) (l.length+1) (l.length+1)):=by rw[ha11];exact Yag (by omega) (by decide) t10_13
 have t11_14:a11.tmps.getD 14 undef=v:=by rw[ha11];exact Ycg (by omega)
 obtain⟨o12,p12,q12,r12,s12⟩:=(opAt (ops:=(rops (Yex [1,1,1,0]))) (i:=2) (dst:=some 15) (op:=.call {callee:=.builtin .len,args:=#[.tmp 14],argTypes:=#[23]}) (by kernel_rfl)).at_
 refine Yau (v:=(.int .i64 (l.length:Int))) (w':=w2) p12 q12 (by
  have e:a11.eval (.tmp 14)=.slice A (List.length (α:=Int) l) c:=t11_14.trans hve';simp[execOp,s12,e,resolve,invoke,builtin,Builtin.len_,run_underlying hu23,goInt]) ?_
 rw[r12];obtain⟨a12,ha12⟩:∃ b,b=a11.put (some 15) (.int .i64 (l.length:Int)):=⟨_,rfl⟩;rw[<-ha12];have z12:a12.tmps.size=19:=by rw[ha12,Ya4];exact z11
 have d12:a12.defers=[]:=by rw[ha12];exact d11
 have t12_0:a12.tmps.getD 0 undef=v:=by rw[ha12];exact Yag (by omega) (by decide) t11_0
 have t12_1:a12.tmps.getD 1 undef=(.int .i64 n):=by rw[ha12];exact Yag (by omega) (by decide) t11_1
 have t12_4:a12.tmps.getD 4 undef=(.slice none 0 0):=by rw[ha12];exact Yag (by omega) (by decide) t11_4
 have t12_6:a12.tmps.getD 6 undef=v:=by rw[ha12];exact Yag (by omega) (by decide) t11_6
 have t12_7:a12.tmps.getD 7 undef=(.int .i64 (l.length:Int)):=by rw[ha12];exact Yag (by omega) (by decide) t11_7
 have t12_8:a12.tmps.getD 8 undef=(.int .i64 ((l.length+1:Nat):Int)):=by rw[ha12];exact Yag (by omega) (by decide) t11_8
 have t12_9:a12.tmps.getD 9 undef=(.slice (some ⟨w.heap.size,0,none⟩) (l.length+1) (l.length+1)):=by rw[ha12];exact Yag (by omega) (by decide) t11_9
 have t12_5:a12.tmps.getD 5 undef=(.slice (some ⟨w.heap.size,0,none⟩) (l.length+1) (l.length+1)):=by rw[ha12];exact Yag (by omega) (by decide) t11_5
 have t12_10:a12.tmps.getD 10 undef=(.slice (some ⟨w.heap.size,0,none⟩) (l.length+1) (l.length+1)):=by rw[ha12];exact Yag (by omega) (by decide) t11_10
 have t12_11:a12.tmps.getD 11 undef=v:=by rw[ha12];exact Yag (by omega) (by decide) t11_11
 have t12_12:a12.tmps.getD 12 undef=(goInt l.length):=by rw[ha12];exact Yag (by omega) (by decide) t11_12
 have t12_13:a12.tmps.getD 13 undef=(.slice (some ⟨w.heap.size,0,none⟩) (l.length+1) (l.length+1)):=by rw[ha12];exact Yag (by omega) (by decide) t11_13
 have t12_14:a12.tmps.getD 14 undef=v:=by rw[ha12];exact Yag (by omega) (by decide) t11_14
 have t12_15:a12.tmps.getD 15 undef=(.int .i64 (l.length:Int)):=by rw[ha12];exact Ycg (by omega)
 obtain⟨o13,p13,q13,r13,s13⟩:=(opAt (ops:=(rops (Yex [1,1,1,0]))) (i:=3) (dst:=some 16) (op:=.move (.tmp 1)) (by kernel_rfl)).at_
 refine Yau (v:=(.int .i64 n)) (w':=w2) p13 q13 (by
  have e:a12.eval (.tmp 1)=(.int .i64 n):=t12_1;simp[execOp,s13,e]) ?_
 rw[r13];obtain⟨a13,ha13⟩:∃ b,b=a12.put (some 16) (.int .i64 n):=⟨_,rfl⟩;rw[<-ha13];have z13:a13.tmps.size=19:=by rw[ha13,Ya4];exact z12
 have d13:a13.defers=[]:=by rw[ha13];exact d12
 have t13_0:a13.tmps.getD 0 undef=v:=by rw[ha13];exact Yag (by omega) (by decide) t12_0
 have t13_1:a13.tmps.getD 1 undef=(.int .i64 n):=by rw[ha13];exact Yag (by omega) (by decide) t12_1
 have t13_4:a13.tmps.getD 4 undef=(.slice none 0 0):=by rw[ha13];exact Yag (by omega) (by decide) t12_4
 have t13_6:a13.tmps.getD 6 undef=v:=by rw[ha13];exact Yag (by omega) (by decide) t12_6
 have t13_7:a13.tmps.getD 7 undef=(.int .i64 (l.length:Int)):=by rw[ha13];exact Yag (by omega) (by decide) t12_7
 have t13_8:a13.tmps.getD 8 undef=(.int .i64 ((l.length+1:Nat):Int)):=by rw[ha13];exact Yag (by omega) (by decide) t12_8
 have t13_9:a13.tmps.getD 9 undef=(.slice (some ⟨w.heap.size,0,none⟩) (l.length+1) (l.length+1)):=by rw[ha13];exact Yag (by omega) (by decide) t12_9
 have t13_5:a13.tmps.getD 5 undef=(.slice (some ⟨w.heap.size,0,none⟩) (l.length+1) (l.length+1)):=by rw[ha13];exact Yag (by omega) (by decide) t12_5
 have t13_10:a13.tmps.getD 10 undef=(.slice (some ⟨w.heap.size,0,none⟩) (l.length+1) (l.length+1)):=by rw[ha13];exact Yag (by omega) (by decide) t12_10
 have t13_11:a13.tmps.getD 11 undef=v:=by rw[ha13];exact Yag (by omega) (by decide) t12_11
 have t13_12:a13.tmps.getD 12 undef=(goInt l.length):=by rw[ha13];exact Yag (by omega) (by decide) t12_12
 have t13_13:a13.tmps.getD 13 undef=(.slice (some ⟨w.heap.size,0,none⟩) (l.length+1) (l.length+1)):=by rw[ha13];exact Yag (by omega) (by decide) t12_13
 have t13_14:a13.tmps.getD 14 undef=v:=by rw[ha13];exact Yag (by omega) (by decide) t12_14
 have t13_15:a13.tmps.getD 15 undef=(.int .i64 (l.length:Int)):=by rw[ha13];exact Yag (by omega) (by decide) t12_15
 have t13_16:a13.tmps.getD 16 undef=(.int .i64 n):=by rw[ha13];exact Ycg (by omega)
 obtain⟨o14,p14,q14,r14,s14⟩:=(opAt (ops:=(rops (Yex [1,1,1,0]))) (i:=4) (dst:=some 17) (op:=.indexAddr 23 (.tmp 13) (.tmp 15)) (by kernel_rfl)).at_
 refine Yau (v:=(.pointer (some ⟨w.heap.size,l.length,none⟩))) (w':=w2) p14 q14 (by
  have e:a13.eval (.tmp 13)=(.slice (some ⟨w.heap.size,0,none⟩) (l.length+1) (l.length+1)):=t13_13;have e2:a13.eval (.tmp 15)=.int .i64 (l.length:Int):=t13_15;simp[execOp,s14,e,e2,hix]) ?_
 rw[r14];obtain⟨a14,ha14⟩:∃ b,b=a13.put (some 17) (.pointer (some ⟨w.heap.size,l.length,none⟩)):=⟨_,rfl⟩;rw[<-ha14];have z14:a14.tmps.size=19:=by rw[ha14,Ya4];exact z13
 have d14:a14.defers=[]:=by rw[ha14];exact d13
 have t14_0:a14.tmps.getD 0 undef=v:=by rw[ha14];exact Yag (by omega) (by decide) t13_0
 have t14_1:a14.tmps.getD 1 undef=(.int .i64 n):=by rw[ha14];exact Yag (by omega) (by decide) t13_1
 have t14_4:a14.tmps.getD 4 undef=(.slice none 0 0):=by rw[ha14];exact Yag (by omega) (by decide) t13_4
 have t14_6:a14.tmps.getD 6 undef=v:=by rw[ha14];exact Yag (by omega) (by decide) t13_6
 have t14_7:a14.tmps.getD 7 undef=(.int .i64 (l.length:Int)):=by rw[ha14];exact Yag (by omega) (by decide) t13_7
 have t14_8:a14.tmps.getD 8 undef=(.int .i64 ((l.length+1:Nat):Int)):=by rw[ha14];exact Yag (by omega) (by decide) t13_8
 have t14_9:a14.tmps.getD 9 undef=(.slice (some ⟨w.heap.size,0,none⟩) (l.length+1) (l.length+1)):=by rw[ha14];exact Yag (by omega) (by decide) t13_9
 have t14_5:a14.tmps.getD 5 undef=(.slice (some ⟨w.heap.size,0,none⟩) (l.length+1) (l.length+1)):=by rw[ha14];exact Yag (by omega) (by decide) t13_5
 have t14_10:a14.tmps.getD 10 undef=(.slice (some ⟨w.heap.size,0,none⟩) (l.length+1) (l.length+1)):=by rw[ha14];exact Yag (by omega) (by decide) t13_10
 have t14_11:a14.tmps.getD 11 undef=v:=by rw[ha14];exact Yag (by omega) (by decide) t13_11
 have t14_12:a14.tmps.getD 12 undef=(goInt l.length):=by rw[ha14];exact Yag (by omega) (by decide) t13_12
 have t14_13:a14.tmps.getD 13 undef=(.slice (some ⟨w.heap.size,0,none⟩) (l.length+1) (l.length+1)):=by rw[ha14];exact Yag (by omega) (by decide) t13_13
 have t14_14:a14.tmps.getD 14 undef=v:=by rw[ha14];exact Yag (by omega) (by decide) t13_14
 have t14_15:a14.tmps.getD 15 undef=(.int .i64 (l.length:Int)):=by rw[ha14];exact Yag (by omega) (by decide) t13_15
 have t14_16:a14.tmps.getD 16 undef=(.int .i64 n):=by rw[ha14];exact Yag (by omega) (by decide) t13_16
 have t14_17:a14.tmps.getD 17 undef=(.pointer (some ⟨w.heap.size,l.length,none⟩)):=by rw[ha14];exact Ycg (by omega)
 obtain⟨o15,p15,q15,r15,s15⟩:=(opAt (ops:=(rops (Yex [1,1,1,0]))) (i:=5) (dst:=none) (op:=.store 3 (.tmp 17) (.tmp 16)) (by kernel_rfl)).at_
 refine Ym7 (w':=w3) p15 q15 (by
  have e:a14.eval (.tmp 17)=.pointer (some ⟨w.heap.size,l.length,none⟩):=t14_17;have e2:a14.eval (.tmp 16)=.int .i64 n:=t14_16;simp[execOp,s15,e,e2,hst]) ?_
 rw[r15];obtain⟨a15,ha15⟩:∃ b,b=a14.put none undef:=⟨_,rfl⟩;rw[<-ha15];have z15:a15.tmps.size=19:=by rw[ha15];exact z14
 have d15:a15.defers=[]:=by rw[ha15];exact d14
 have t15_0:a15.tmps.getD 0 undef=v:=by rw[ha15];exact t14_0
 have t15_1:a15.tmps.getD 1 undef=(.int .i64 n):=by rw[ha15];exact t14_1
 have t15_4:a15.tmps.getD 4 undef=(.slice none 0 0):=by rw[ha15];exact t14_4
 have t15_6:a15.tmps.getD 6 undef=v:=by rw[ha15];exact t14_6
 have t15_7:a15.tmps.getD 7 undef=(.int .i64 (l.length:Int)):=by rw[ha15];exact t14_7
 have t15_8:a15.tmps.getD 8 undef=(.int .i64 ((l.length+1:Nat):Int)):=by rw[ha15];exact t14_8
 have t15_9:a15.tmps.getD 9 undef=(.slice (some ⟨w.heap.size,0,none⟩) (l.length+1) (l.length+1)):=by rw[ha15];exact t14_9
 have t15_5:a15.tmps.getD 5 undef=(.slice (some ⟨w.heap.size,0,none⟩) (l.length+1) (l.length+1)):=by rw[ha15];exact t14_5
 have t15_10:a15.tmps.getD 10 undef=(.slice (some ⟨w.heap.size,0,none⟩) (l.length+1) (l.length+1)):=by rw[ha15];exact t14_10
 have t15_11:a15.tmps.getD 11 undef=v:=by rw[ha15];exact t14_11
 have t15_12:a15.tmps.getD 12 undef=(goInt l.length):=by rw[ha15];exact t14_12
 have t15_13:a15.tmps.getD 13 undef=(.slice (some ⟨w.heap.size,0,none⟩) (l.length+1) (l.length+1)):=by rw[ha15];exact t14_13
 have t15_14:a15.tmps.getD 14 undef=v:=by rw[ha15];exact t14_14
 have t15_15:a15.tmps.getD 15 undef=(.int .i64 (l.length:Int)):=by rw[ha15];exact t14_15
 have t15_16:a15.tmps.getD 16 undef=(.int .i64 n):=by rw[ha15];exact t14_16
 have t15_17:a15.tmps.getD 17 undef=(.pointer (some ⟨w.heap.size,l.length,none⟩)):=by rw[ha15];exact t14_17
 show Code.wpIn _ _ _ _ _ _ _;refine wpIn_seq (Ydw (by kernel_rfl) ?_);rw[show(rops (Yex [1,1,1,1,0])).size=2 by kernel_rfl];show wpOps _ _ _ (0::[1]) _ _;obtain⟨o16,p16,q16,r16,s16⟩:=(opAt (ops:=(rops (Yex [1,1,1,1,0]))) (i:=0) (dst:=some 18) (op:=.move (.tmp 5)) (by kernel_rfl)).at_
 refine Yau (v:=(.slice (some ⟨w.heap.size,0,none⟩) (l.length+1) (l.length+1))) (w':=w3) p16 q16 (by
  have e:a15.eval (.tmp 5)=(.slice (some ⟨w.heap.size,0,none⟩) (l.length+1) (l.length+1)):=t15_5;simp[execOp,s16,e]) ?_
 rw[r16];obtain⟨a16,ha16⟩:∃ b,b=a15.put (some 18) (.slice (some ⟨w.heap.size,0,none⟩) (l.length+1) (l.length+1)):=⟨_,rfl⟩;rw[<-ha16];have z16:a16.tmps.size=19:=by rw[ha16,Ya4];exact z15
 have d16:a16.defers=[]:=by rw[ha16];exact d15
 have t16_0:a16.tmps.getD 0 undef=v:=by rw[ha16];exact Yag (by omega) (by decide) t15_0
 have t16_1:a16.tmps.getD 1 undef=(.int .i64 n):=by rw[ha16];exact Yag (by omega) (by decide) t15_1
 have t16_4:a16.tmps.getD 4 undef=(.slice none 0 0):=by rw[ha16];exact Yag (by omega) (by decide) t15_4
 have t16_6:a16.tmps.getD 6 undef=v:=by rw[ha16];exact Yag (by omega) (by decide) t15_6
 have t16_7:a16.tmps.getD 7 undef=(.int .i64 (l.length:Int)):=by rw[ha16];exact Yag (by omega) (by decide) t15_7
 have t16_8:a16.tmps.getD 8 undef=(.int .i64 ((l.length+1:Nat):Int)):=by rw[ha16];exact Yag (by omega) (by decide) t15_8
 have t16_9:a16.tmps.getD 9 undef=(.slice (some ⟨w.heap.size,0,none⟩) (l.length+1) (l.length+1)):=by rw[ha16];exact Yag (by omega) (by decide) t15_9
 have t16_5:a16.tmps.getD 5 undef=(.slice (some ⟨w.heap.size,0,none⟩) (l.length+1) (l.length+1)):=by rw[ha16];exact Yag (by omega) (by decide) t15_5
 have t16_10:a16.tmps.getD 10 undef=(.slice (some ⟨w.heap.size,0,none⟩) (l.length+1) (l.length+1)):=by rw[ha16];exact Yag (by omega) (by decide) t15_10
 have t16_11:a16.tmps.getD 11 undef=v:=by rw[ha16];exact Yag (by omega) (by decide) t15_11
 have t16_12:a16.tmps.getD 12 undef=(goInt l.length):=by rw[ha16];exact Yag (by omega) (by decide) t15_12
 have t16_13:a16.tmps.getD 13 undef=(.slice (some ⟨w.heap.size,0,none⟩) (l.length+1) (l.length+1)):=by rw[ha16];exact Yag (by omega) (by decide) t15_13
 have t16_14:a16.tmps.getD 14 undef=v:=by rw[ha16];exact Yag (by omega) (by decide) t15_14
 have t16_15:a16.tmps.getD 15 undef=(.int .i64 (l.length:Int)):=by rw[ha16];exact Yag (by omega) (by decide) t15_15
 have t16_16:a16.tmps.getD 16 undef=(.int .i64 n):=by rw[ha16];exact Yag (by omega) (by decide) t15_16
 have t16_17:a16.tmps.getD 17 undef=(.pointer (some ⟨w.heap.size,l.length,none⟩)):=by rw[ha16];exact Yag (by omega) (by decide) t15_17
 have t16_18:a16.tmps.getD 18 undef=(.slice (some ⟨w.heap.size,0,none⟩) (l.length+1) (l.length+1)):=by rw[ha16];exact Ycg (by omega)
 obtain⟨o17,p17,q17,r17,s17⟩:=(opAt (ops:=(rops (Yex [1,1,1,1,0]))) (i:=1) (dst:=some 4) (op:=.assign (.tmp 18)) (by kernel_rfl)).at_
 refine Yau (v:=(.slice (some ⟨w.heap.size,0,none⟩) (l.length+1) (l.length+1))) (w':=w3) p17 q17 (by
  have e:a16.eval (.tmp 18)=(.slice (some ⟨w.heap.size,0,none⟩) (l.length+1) (l.length+1)):=t16_18;simp[execOp,s17,e]) ?_
 rw[r17];obtain⟨a17,ha17⟩:∃ b,b=a16.put (some 4) (.slice (some ⟨w.heap.size,0,none⟩) (l.length+1) (l.length+1)):=⟨_,rfl⟩;rw[<-ha17];have z17:a17.tmps.size=19:=by rw[ha17,Ya4];exact z16
 have d17:a17.defers=[]:=by rw[ha17];exact d16
 have t17_0:a17.tmps.getD 0 undef=v:=by rw[ha17];exact Yag (by omega) (by decide) t16_0
 have t17_1:a17.tmps.getD 1 undef=(.int .i64 n):=by rw[ha17];exact Yag (by omega) (by decide) t16_1
 have t17_6:a17.tmps.getD 6 undef=v:=by rw[ha17];exact Yag (by omega) (by decide) t16_6
 have t17_7:a17.tmps.getD 7 undef=(.int .i64 (l.length:Int)):=by rw[ha17];exact Yag (by omega) (by decide) t16_7
 have t17_8:a17.tmps.getD 8 undef=(.int .i64 ((l.length+1:Nat):Int)):=by rw[ha17];exact Yag (by omega) (by decide) t16_8
 have t17_9:a17.tmps.getD 9 undef=(.slice (some ⟨w.heap.size,0,none⟩) (l.length+1) (l.length+1)):=by rw[ha17];exact Yag (by omega) (by decide) t16_9
 have t17_5:a17.tmps.getD 5 undef=(.slice (some ⟨w.heap.size,0,none⟩) (l.length+1) (l.length+1)):=by rw[ha17];exact Yag (by omega) (by decide) t16_5
 have t17_10:a17.tmps.getD 10 undef=(.slice (some ⟨w.heap.size,0,none⟩) (l.length+1) (l.length+1)):=by rw[ha17];exact Yag (by omega) (by decide) t16_10
 have t17_11:a17.tmps.getD 11 undef=v:=by rw[ha17];exact Yag (by omega) (by decide) t16_11
 have t17_12:a17.tmps.getD 12 undef=(goInt l.length):=by rw[ha17];exact Yag (by omega) (by decide) t16_12
 have t17_13:a17.tmps.getD 13 undef=(.slice (some ⟨w.heap.size,0,none⟩) (l.length+1) (l.length+1)):=by rw[ha17];exact Yag (by omega) (by decide) t16_13
 have t17_14:a17.tmps.getD 14 undef=v:=by rw[ha17];exact Yag (by omega) (by decide) t16_14
 have t17_15:a17.tmps.getD 15 undef=(.int .i64 (l.length:Int)):=by rw[ha17];exact Yag (by omega) (by decide) t16_15
 have t17_16:a17.tmps.getD 16 undef=(.int .i64 n):=by rw[ha17];exact Yag (by omega) (by decide) t16_16
 have t17_17:a17.tmps.getD 17 undef=(.pointer (some ⟨w.heap.size,l.length,none⟩)):=by rw[ha17];exact Yag (by omega) (by decide) t16_17
 have t17_18:a17.tmps.getD 18 undef=(.slice (some ⟨w.heap.size,0,none⟩) (l.length+1) (l.length+1)):=by rw[ha17];exact Yag (by omega) (by decide) t16_18
 have t17_4:a17.tmps.getD 4 undef=(.slice (some ⟨w.heap.size,0,none⟩) (l.length+1) (l.length+1)):=by rw[ha17];exact Ycg (by omega)
 show Code.wpIn _ _ _ _ _ _ _;exact wpIn_ret ⟨rfl,d17,t17_4,rfl⟩
theorem Yn7 {α β:Type}(g:α->List β)(B:Nat):∀ l:List α,(∀ a∈l,(g a).length<=B)->(l.flatMap g).length<=l.length*B
 | [],_=>by simp
 | a::l,h=>by
  have h1:=h a (by simp);have h2:=Yn7 g B l fun b hb=>h b (by simp[hb]);rw[List.flatMap_cons,List.length_append,List.length_cons,Nat.succ_mul];omega
theorem Ynv {x:FBook}{al:LL}(hal:∀ s,(al.getD s []).length<=32):∀(f s:Nat) (on:W4),(Ybe x al f s on).length<=32 ^ f
 | 0,s,on=>by simp[Ybe]
 | f+1,s,on=>by
  simp only[Ybe];refine Nat.le_trans (Yn7 _ (32 ^ f) _ fun a _=>Ynv hal f (s+1) _) ?_;rw[Nat.pow_succ,Nat.mul_comm (32 ^ f)];exact Nat.mul_le_mul_right _ (hal s)
theorem Zo1 (sm:LI)(z:Int)(h:sm.length<4):w4Of (sm++[z])=(w4Of sm).set sm.length z:=by
 match sm,h with
 | [],_=>rfl
 | [a],_=>rfl
 | [a,b],_=>rfl
 | [a,b,c],_=>rfl
def rchS (x:FBook)(al:LL)(sm l:LI):Nat->List (List Work)->KV
 | 0,_=>Yoo x al sm l 0
 | i+1,ys=>Yon x al sm l (i+1) ys
theorem Xhp {f:Nat}(h:f<=4):32 ^ f<=1048576:=Nat.le_trans (Nat.pow_le_pow_right (by decide) h) (by decide)
theorem Zgn {x:FBook}(hx:FIn x){al:LL}(hn:al.length=x.feet.length)(hal:∀ s,(al.getD s []).length<=32):∀(f:Nat) (sm:LI),sm.length+f=al.length ->
  CF 108 [Yab x,.z (.list .int) al,.z .int sm] (.z (.list .work) (Ybe x al f sm.length (w4Of sm)))
 | 0,sm,h=>by
  have hq:((sm.length:Int)==(al.length:Int))=true:=beq_iff_eq.2 (by omega);exact Contract.weaken (Yaa (GH 42) Xhg (Zyf x al sm _) ⟨hq,Xdn hx (by omega),trivial⟩)
 | f+1,sm,h=>by
  have hn4:=hx.n;have hq:((sm.length:Int)==(al.length:Int))=false:=beq_eq_false_iff_ne.2 (by omega);obtain⟨l,hl⟩:∃ l,l=al.getD sm.length []:=⟨_,rfl⟩;have hl32:l.length<=32:=by rw[hl];exact hal _
  obtain⟨g,hg⟩:∃ g:Int->List (List Work),g=fun set=>Ybe x al f (sm.length+1) ((w4Of sm).set sm.length set):=⟨_,rfl⟩;have hgl:∀ z,(g z).length<=1048576:=fun z=>by rw[hg];exact Nat.le_trans (Ynv hal f _ _) (Xhp (by omega))
  have hcall:∀ z,CF 129 [.z .int sm,.I z] (.z .int (sm++[z]))/\CF 108 [Yab x,.z (.list .int) al,.z .int (sm++[z])] (.z (.list .work) (g z)):=fun z=>⟨Zt7 (by omega) z,by
   have h1:=Zgn hx hn hal f (sm++[z]) (by rw[List.length_append,List.length_singleton];omega);rw[List.length_append,List.length_singleton,Zo1 sm z (by omega)]at h1;rw[hg];exact h1⟩
  have hlen:∀ i,((l.take i).flatMap g).length<=33554432:=fun i=>by
   refine Nat.le_trans (Yn7 g 1048576 _ fun a _=>hgl a) ?_
   have:(l.take i).length<=32:=by rw[List.length_take];omega
   omega
  have hloop:LF 42 (Yy8 [1,1,1,1,0,1]) (rchS x al sm l 0 ((l.take 0).flatMap g)) .normal (rchS x al sm l l.length (l.flatMap g)):=by
   refine LH.each (id:=0) (c:=Yy8 [1,1,1,1,0,1,0,0]) (by kernel_rfl) l.length (fun i=>rchS x al sm l i ((l.take i).flatMap g)) (fun i hi=>?_) ?_
   ·obtain⟨c1,c2⟩:=hcall (l.getD i 0);have hlt:decide ((i:Int)<(l.length:Int))=true:=Yat hi;have hi64:Yae ((i:Int)+1):=Yap (by omega) (by omega)
    have he:(l.take (i+1)).flatMap g=(l.take i).flatMap g++g (l.getD i 0):=by
     rw[Yg2 l i 0 hi,List.flatMap_append];simp
    have hL:=hlen (i+1);rw[he]at hL;simp only[he]
    cases i with
    | zero =>
     have hz:([]++g (l.getD 0 0)).length*(24+1)<=140737488355328:=by have:=hgl (l.getD 0 0);rw[List.nil_append];omega
     exact⟨_,_,_,_,_,_,Zyy x al sm l 0 _ (g (l.getD 0 0)),⟨hlt,⟨by omega,by omega⟩,by omega,c1,c2,hz,hi64,trivial⟩,rfl⟩
    | succ i =>
     have hz:((l.take (i+1)).flatMap g++g (l.getD (i+1) 0)).length*(24+1)<=140737488355328:=by omega
     exact⟨_,_,_,_,_,_,Zyv x al sm l (i+1) _ _ (g (l.getD (i+1) 0)),⟨hlt,⟨by omega,by omega⟩,by omega,c1,c2,rfl,hz,hi64,trivial⟩,rfl⟩
   ·have hf:decide (((l.length:Nat):Int)<(l.length:Int))=false:=Yay;show ∃ dec orc lorc ks ps e1 L1,_;rw[List.take_length];generalize hN:l.length=N at hf ⊢
    cases N with
    | zero=>exact⟨_,_,_,_,_,_,_,Zru x al sm l 0,⟨by rw[hN];exact hf,trivial⟩,.inl ⟨rfl,rfl⟩,rfl⟩
    | succ k=>exact⟨_,_,_,_,_,_,_,Zrs x al sm l (k+1) _,⟨by rw[hN];exact hf,trivial⟩,.inl ⟨rfl,rfl⟩,rfl⟩
  have hgo:Ybe x al (f+1) sm.length (w4Of sm)=l.flatMap g:=by rw[hl,hg];rfl
  rw[hgo];subst hl
  cases hN:(al.getD sm.length []).length with
  | zero =>
   have h0:al.getD sm.length []=[]:=List.length_eq_zero_iff.1 hN;rw[hN]at hloop;have hf0:(al.getD sm.length []).flatMap g=[]:=by rw[h0];rfl
   rw[hf0];exact Contract.weaken (Yaa (GH 42) Xck (Zyx x al sm (al.getD sm.length []) 0) ⟨hq,⟨by omega,by omega⟩,hloop,trivial⟩)
  | succ k =>
   rw[hN]at hloop;exact Yaa (GH 42) Xck (Zyw x al sm (al.getD sm.length []) (k+1) _) ⟨hq,⟨by omega,by omega⟩,hloop,rfl,trivial⟩
def rpS (x:FBook)(th:LL)(wr:LI):Nat->LL->KV
 | 0,_=>Yux x th wr 0
 | i+1,ys=>Yh9 x th wr (i+1) ys
theorem Zqt {x:FBook}(hP:PIn x)(hc:canF x.chain=true)(hk:KnOk x (Yas x) (Yar x)):CF 77 [Yab x] (.z (.list .work) (Yc5 x (Yas x) (Yar x))):=by
 have hx:=hP.inn;have hn:=hx.n;have hp:=Yyj hx.opnl
 have hloop:LF 25 (k_77 [1,1,1,0,1]) (rpS x (Yas x) (Yar x) 0 ((List.range 0).map (Ybk x (Yas x) (Yar x)))) .normal (rpS x (Yas x) (Yar x) x.feet.length (allF x (Yas x) (Yar x))):=by
  refine LH.each (id:=0) (c:=k_77 [1,1,1,0,1,0,0]) (by kernel_rfl) x.feet.length (fun i=>rpS x (Yas x) (Yar x) i ((List.range i).map (Ybk x (Yas x) (Yar x)))) (fun i hi=>?_) ?_
  ·have hlt:decide ((i:Int)<(x.feet.length:Int))=true:=Yat hi;have hi64:Yae ((i:Int)+1):=Yap (by omega) (by omega);have hs:=Xde hP hk hi;have he:(List.range (i+1)).map (Ybk x (Yas x) (Yar x))=(List.range i).map (Ybk x (Yas x) (Yar x))++[Ybk x (Yas x) (Yar x) i]:=Yev _ i;have hlen:((List.range i).map (Ybk x (Yas x) (Yar x))).length=i:=by rw[List.length_map,List.length_range]
   simp only[he]
   cases i with
   | zero=>exact⟨_,_,_,_,_,_,Zqv x _ _ 0 _,⟨hlt,hs,by omega,hi64,trivial⟩,rfl⟩
   | succ i=>exact⟨_,_,_,_,_,_,Zqu x _ _ (i+1) _ _,⟨hlt,hs,rfl,by rw[List.length_append,List.length_singleton,hlen];omega,hi64,trivial⟩,rfl⟩
  ·have hf:decide (((x.feet.length:Nat):Int)<(x.feet.length:Int))=false:=Yay;show ∃ dec orc lorc ks ps e1 L1,_;obtain⟨k,hkk⟩:∃ k,x.feet.length=k+1:=⟨x.feet.length-1,by omega⟩;unfold allF;generalize hN:x.feet.length=N at hf hkk ⊢;subst hkk;exact⟨_,_,_,_,_,_,_,Zjk x _ _ (k+1) _,⟨by rw[hN];exact hf,trivial⟩,.inl ⟨rfl,rfl⟩,rfl⟩
 have hal:∀ s,((allF x (Yas x) (Yar x)).getD s []).length<=32:=by
  intro s
  by_cases hs:s<x.feet.length
  ·rw[Zh7 hs];exact Nat.le_trans (Yfv x _ _ s _) hp
  ·have hz:(allF x (Yas x) (Yar x)).getD s []=[]:=by
    rw[List.getD_eq_getElem?_getD,List.getElem?_eq_none (by unfold allF;rw[List.length_map,List.length_range];omega)];rfl
   rw[hz];exact Nat.zero_le _
 have hch:=Zgn hx (al:=allF x (Yas x) (Yar x)) (by unfold allF;rw[List.length_map,List.length_range]) hal x.feet.length [] (by unfold allF;rw[List.length_map,List.length_range];simp);obtain⟨k,hkk⟩:∃ k,x.feet.length=k+1:=⟨x.feet.length-1,by omega⟩
 have hl2:LF 25 (k_77 [1,1,1,0,1]) (Yux x (Yas x) (Yar x) 0) .normal (Yh9 x (Yas x) (Yar x) (k+1) (allF x (Yas x) (Yar x))):=by
  have h:=hloop;rw[hkk]at h;exact h
 exact Yaa (GH 25) Xdl (Zxz x _ _ (k+1) _ _) ⟨Xdu hP.chain hP.feet hc,hl2,rfl,hch,trivial⟩
end Go.Di
