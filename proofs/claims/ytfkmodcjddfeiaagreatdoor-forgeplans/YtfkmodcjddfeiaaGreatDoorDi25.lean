/- Part 25: contracts are proved. No condition. -/
import Derived.Test.YtfkmodcjddfeiaaGreatDoorDi24
import Derived.Shelf.Slices.SearchI
import Derived.Shelf.Slices.Clone
import Derived.Shelf.Spec.SlicesInsertGrow
set_option linter.unusedVariables false
set_option linter.unusedSimpArgs false
namespace Go.Proofs
def Tryz.laysBS_ren:Go.Shelf.Ren:=⟨fun|25=>71|31=>102|32=>103|37=>125|n=>n,fun|22=>23|3=>3|4=>4|40=>132|0=>0|n=>n,fun|n=>n⟩
theorem Tryz.laysBS:Go.Proofs.Lays2.n25 Tryz.prog Tryz.laysBS_ren where
 mixed:=by kernel_rfl
 f25:=Tryz.func71.trans (congrArg some (by kernel_rfl))
 f31:=Tryz.func102.trans (congrArg some (by kernel_rfl))
 f32:=Tryz.func103.trans (congrArg some (by kernel_rfl))
 f37:=Tryz.func125.trans (congrArg some (by kernel_rfl))
 t0:=Tryz.underlying0
 a0:=Tryz.isAgg0
 z0:=Tryz.sizeOf0
 v0:=Tryz.zeroValue0
 t3:=Tryz.underlying3
 a3:=Tryz.isAgg3
 z3:=Tryz.sizeOf3
 v3:=Tryz.zeroValue3
 t4:=Tryz.underlying4
 a4:=Tryz.isAgg4
 z4:=Tryz.sizeOf4
 v4:=Tryz.zeroValue4
 t22:=Tryz.underlying23
 a22:=Tryz.isAgg23
 z22:=Tryz.sizeOf23
 v22:=Tryz.zeroValue23
 t40:=Tryz.underlying132
 a40:=Tryz.isAgg132
 z40:=Tryz.sizeOf132
 v40:=Tryz.zeroValue132
def Tryz.laysIns_ren:Go.Shelf.Ren:=⟨fun|21=>72|27=>104|28=>105|35=>126|39=>140|n=>n,fun|22=>23|3=>3|4=>4|0=>0|n=>n,fun|n=>n⟩
theorem Tryz.laysIns:Go.Proofs.Lays2.n21 Tryz.prog Tryz.laysIns_ren where
 mixed:=by kernel_rfl
 f21:=Tryz.func72.trans (congrArg some (by kernel_rfl))
 f27:=Tryz.func104.trans (congrArg some (by kernel_rfl))
 f28:=Tryz.func105.trans (congrArg some (by kernel_rfl))
 f35:=Tryz.func126.trans (congrArg some (by kernel_rfl))
 f39:=Tryz.func140.trans (congrArg some (by kernel_rfl))
 t0:=Tryz.underlying0
 a0:=Tryz.isAgg0
 z0:=Tryz.sizeOf0
 v0:=Tryz.zeroValue0
 t3:=Tryz.underlying3
 a3:=Tryz.isAgg3
 z3:=Tryz.sizeOf3
 v3:=Tryz.zeroValue3
 t4:=Tryz.underlying4
 a4:=Tryz.isAgg4
 z4:=Tryz.sizeOf4
 v4:=Tryz.zeroValue4
 t22:=Tryz.underlying23
 a22:=Tryz.isAgg23
 z22:=Tryz.sizeOf23
 v22:=Tryz.zeroValue23
 i3:=by kernel_rfl
def Tryz.laysCl_ren:Go.Shelf.Ren:=⟨fun|15=>73|n=>n,fun|22=>23|3=>3|4=>4|n=>n,fun|n=>n⟩
theorem Tryz.laysCl:Go.Proofs.Lays2.n15 Tryz.prog Tryz.laysCl_ren where
 mixed:=by kernel_rfl
 f15:=Tryz.func73.trans (congrArg some (by kernel_rfl))
 t3:=Tryz.underlying3
 a3:=Tryz.isAgg3
 z3:=Tryz.sizeOf3
 v3:=Tryz.zeroValue3
 t4:=Tryz.underlying4
 a4:=Tryz.isAgg4
 z4:=Tryz.sizeOf4
 v4:=Tryz.zeroValue4
 t22:=Tryz.underlying23
 a22:=Tryz.isAgg23
 z22:=Tryz.sizeOf23
 v22:=Tryz.zeroValue23
 i3:=by kernel_rfl
end Go.Proofs
namespace Go.Di
open Proofs
open Go.RowKit Go.Proofs
theorem Xgl {l:LI}{i:Nat}{x:Int}(h:l[i]?=some x):i<l.length/\l.getD i 0=x:=by
 obtain⟨hi,hx⟩:=List.getElem?_eq_some_iff.1 h;exact⟨hi,by rw[List.getD_eq_getElem?_getD,h];rfl⟩
def OwnR (base:Nat)(w:World)(v:Value)(l:LI):Prop :=
 (v=.slice none 0 0/\l=[])\/∃ g cap cur el,v=.slice (some ⟨g,0,none⟩) l.length cap/\base<=g/\w.heap[g]?=some (.cells cur el (0,0))/\l.length<=cap/\cap<=maxLen/\cap<=cur.size/\∀ j,j<l.length->cur[j]?=some (.int .i64 (l.getD j 0))
theorem OwnR.keep {base:Nat}{w w':World}{v:Value}{l:LI}(h:OwnR base w v l)(hb:Below w.heap.size w w'):OwnR base w' v l:=by
 rcases h with h|⟨g,cap,cur,el,h1,h2,h3,h4⟩
 ·exact .inl h
 ·exact .inr ⟨g,cap,cur,el,h1,h2,by rw[hb.block g (Array.getElem?_eq_some_iff.1 h3).1];exact h3,h4⟩
theorem OwnR.of {base:Nat}{w:World}{v:Value}{l:LI}(h:w.ownsRow base 3 1 v l.length (l.map (Value.int .i64))):OwnR base w v l:=by
 obtain⟨h1,h2⟩:=h;rcases h2 with ⟨h2,h3⟩|⟨g,cap,cur,h2,h3,h4,h5,h6,h7,h8⟩
 ·exact .inl ⟨h2,List.length_eq_zero_iff.1 h3⟩
 ·refine .inr ⟨g,cap,cur,3,h2,h3,h4,h5,h6,by omega,fun j hj=>?_⟩;have h:=congrArg (fun l=>l[j]?) h8;simp only[Nat.mul_one,List.getElem?_take,if_pos hj,Array.getElem?_toList,List.getElem?_map,List.getElem?_eq_getElem hj,Option.map_some]at h;rw[h,List.getD_eq_getElem?_getD,List.getElem?_eq_getElem hj];rfl
theorem OwnR.rel {base:Nat}{w:World}{v:Value}{l:LI}(h:OwnR base w v l)(hb:base<=w.heap.size)(R:Foot)(hR:∀ b o,R b o->b<w.heap.size) :
  ∃ R':Foot,(∀ b o,R b o->R' b o)/\(∀ b o,R' b o->b<w.heap.size/\(R b o\/base<=b))/\Rel R' w (.z .int l) v:=by
 rcases h with ⟨rfl,rfl⟩|⟨g,cap,cur,el,rfl,h2,h3,h4,h5,h6,h7⟩
 ·exact⟨R,fun _ _ h=>h,fun b o h=>⟨hR b o h,.inl h⟩,Yoi _ _ _ _ _⟩
 ·have hg:=(Array.getElem?_eq_some_iff.1 h3).1;refine⟨fun b o=>R b o\/b=g,fun _ _ h=>.inl h,fun b o h=>h.elim (fun h=>⟨hR b o h,.inl h⟩) fun h=>⟨by omega,.inr (by omega)⟩,some ⟨g,0,none⟩,cap,rfl,h4,h5,(fun h=>absurd h (by decide)),fun _=>⟨g,0,rfl,fun i x hx=>⟨[.int .i64 x],rfl,rfl,fun j u hu=>?_⟩⟩⟩
  match j,hu with
  | 0,hu =>
   cases hu
   obtain⟨hi,e1⟩:=Xgl (l:=l) (i:=i) (x:=x) hx;refine⟨.inr rfl,?_⟩;rw[Ye1 h3];have h8:=h7 i hi;rw[e1]at h8;rw[show 0+i*E.int.sz+0=i from by show 0+i*1+0=i;omega];exact h8
theorem Zfg {R:Foot}{w:World}{l:LI}{v:Value}(hl:l.length<=1000)(hv:Rel R w (.z .int l) v):Calls PRG 73 #[v] w fun e w'=>∃ v',e=.returned v'/\OwnR w.heap.size w' v' l/\Below w.heap.size w w':=by
 obtain⟨A,c,rfl,h1,h2,_,h4⟩:=hv
 by_cases h0:0<l.length
 ·obtain⟨b,o,rfl,h5⟩:=h4 h0;refine(Any.slices_Clone_int Tryz.laysCl b o l.length c l w (Nat.le_refl _) (by omega) fun j hj=>?_).mono ?_
  ·obtain⟨vs,q1,q2,q3⟩:=h5 j _ (List.getElem?_eq_getElem hj);have q2':vs=[.int .i64 l[j]]:=q2;subst q2'
   have:w.cell? ⟨b,o+j*1+0,none⟩=some (.int .i64 l[j]):=(q3 0 _ rfl).2
   rw[Nat.add_zero,Nat.mul_one]at this;rw[this,List.getD_eq_getElem?_getD,List.getElem?_eq_getElem hj];rfl
  ·rintro e w' ⟨v',rfl,q1,_,q2⟩
   rw[List.take_length]at q1;exact⟨v',rfl,OwnR.of q1,q2⟩
 ·obtain rfl:l=[]:=List.length_eq_zero_iff.1 (by omega)
  cases A with
  | none =>
   refine(Any.slices_Clone_int_nil Tryz.laysCl 0 c w).mono ?_
   rintro e w' ⟨rfl,rfl⟩
   exact⟨_,rfl,.inl ⟨rfl,rfl⟩,Below.refl _ _⟩
  | some a =>
   refine(Any.slices_Clone_int_zero Tryz.laysCl a c w).mono ?_
   rintro e w' ⟨v',rfl,q1,_,q2⟩
   exact⟨v',rfl,OwnR.of q1,q2⟩
def insL (l:LI)(j:Nat)(d:Int):LI:=l.take j++d::l.drop j
theorem Yq6 {l:LI}{j:Nat}(d:Int)(hj:j<=l.length):(insL l j d).length=l.length+1:=by unfold insL;rw[List.length_append,List.length_cons,List.length_take,List.length_drop];omega
theorem Ymj {l:LI}{j:Nat}(d:Int)(hj:j<=l.length)(k:Nat):(insL l j d).getD k 0=if k<j then l.getD k 0 else if k=j then d else l.getD (k-1) 0:=by
 unfold insL;rw[List.getD_eq_getElem?_getD,List.getElem?_append,List.length_take,Nat.min_eq_left hj]
 by_cases h1:k<j
 ·rw[if_pos h1,if_pos h1,List.getElem?_take,if_pos h1,List.getD_eq_getElem?_getD]
 ·rw[if_neg h1,if_neg h1]
  by_cases h2:k=j
  ·rw[if_pos h2,h2,Nat.sub_self];rfl
  ·rw[if_neg h2,show k-j=(k-j-1)+1 by omega,List.getElem?_cons_succ,List.getElem?_drop,List.getD_eq_getElem?_getD,show j+(k-j-1)=k-1 by omega]
theorem below_drew {B:Nat}{w:World}:Below B w w.drew:=⟨rfl,rfl,rfl,Nat.le_refl _,fun _ _=>rfl⟩
theorem Ydp {B g o:Nat}{vs:List Value}{w:World}(h:B<=g):Below B w (w.setCells g o vs):=by
 obtain⟨r1,r2,r3,r4⟩:=Yce g vs o w;exact⟨r1,r2,r3,by rw[r4];exact Nat.le_refl _,fun k hk=>Ybz g vs o w k (by omega)⟩
theorem Zty {l:LI}{j:Nat}{v:Value}(h:(l.map (Value.int .i64))[j]?=some v):j<l.length/\v=.int .i64 (l.getD j 0):=by
 obtain⟨hj,he⟩:=List.getElem?_eq_some_iff.1 h;rw[List.length_map]at hj;refine⟨hj,?_⟩;rw[<-he,List.getElem_map,List.getD_eq_getElem?_getD,List.getElem?_eq_getElem hj];rfl
theorem Yvz {l:LI}{j:Nat}(h:j<l.length):(l.map (Value.int .i64))[j]?=some (.int .i64 (l.getD j 0)):=by
 rw[List.getElem?_map,List.getElem?_eq_getElem h,List.getD_eq_getElem?_getD,List.getElem?_eq_getElem h];rfl
theorem Yzh {base:Nat}{w:World}{l:LI}{v:Value}{j:Nat}{d:Int}{vb c2 el2:Nat}(hl:l.length<=1000)(hj:j<=l.length)(hv:OwnR base w v l)(hb:base<=w.heap.size)(hvb:w.heap[vb]?=some (.cells #[.int .i64 d] el2 (0,0)))(hne:∀ g n c,v=.slice (some ⟨g,0,none⟩) n c->vb≠g) :
  Calls PRG 72 #[v,.int .i64 j,.slice (some ⟨vb,0,none⟩) 1 c2] w fun e w'=>∃ v',e=.returned v'/\OwnR base w' v' (insL l j d)/\Below base w w':=by
 have hlen:=Yq6 d hj
 have hcell:∀(k:Nat) (u:Value),([Value.int .i64 d]:List Value)[k]?=some u->w.cell? ⟨vb,0+k,none⟩=some u:=by
  intro k u hu
  match k,hu with
  | 0,hu=>cases hu;rw[Ye1 hvb];rfl
 have hone:∀ u∈([Value.int .i64 d]:List Value),u.oneCell'=true:=by
  intro u hu;rw[List.mem_singleton]at hu;subst hu;rfl
 have hones:∀ u∈l.map (Value.int .i64),u.oneCell'=true:=by
  intro u hu;obtain⟨x,_,rfl⟩:=List.mem_map.1 hu;rfl
 rcases hv with ⟨rfl,rfl⟩|⟨g,cap,cur,el,rfl,h2,h3,h4,h5,h6,h7⟩
 ·obtain rfl:j=0:=by simpa using hj
  refine(Any2.slices_Insert_int_end_grow Tryz.laysIns none 0 0 vb 0 1 c2 [] [.int .i64 d] w (by omega) (by omega) (by omega) (by omega) rfl rfl (fun _=>rfl) (fun a h=>by cases h) hcell hone).mono ?_
  rintro e w' ⟨rfl,rfl⟩
  refine⟨_,rfl,.inr ⟨w.heap.size,_,_,_,rfl,hb,heap_alloc_new _ _,?_,?_,?_,?_⟩,below_drew.trans (Ybc _ _ |>.mono hb)⟩
  ·exact grownCap_ge _ _ _ _
  ·exact grownCap_le_maxLen _ _ _ _ (by decide)
  ·have:=grownCap_ge w (0+1) 0 (Tryz.laysIns_ren.t 3)
   simp only[Array.size_append,size_zeroCells,List.size_toArray,List.length_append,List.length_singleton,List.length_nil];have h1:(Value.int .i64 0).cells.size=1:=rfl;rw[h1];omega
  ·intro k hk;rw[hlen]at hk;obtain rfl:k=0:=by simpa using hk
   rw[Array.getElem?_append];rfl
 ·have hg:=(Array.getElem?_eq_some_iff.1 h3).1
  have hcs:∀ k u,(l.map (Value.int .i64))[k]?=some u->w.cell? ⟨g,0+k,none⟩=some u:=by
   intro k u hu;obtain⟨q1,rfl⟩:=Zty hu;rw[Ye1 h3,Nat.zero_add];exact h7 k q1
  have hvg:=hne g _ _ rfl
  have hsome:∀ k,k<cap->(w.cell? ⟨g,0+k,none⟩).isSome=true:=by
   intro k hk;rw[Ye1 h3,Nat.zero_add,Array.getElem?_eq_getElem (by omega)];rfl
  have hfr:∀ k,w.frozen? ⟨g,k,none⟩=false:=by
   intro k;simp[World.frozen?,h3]
  by_cases hjl:j<l.length
  ·by_cases hroom:l.length+1<=cap
   ·have hcalls:=Any2.slices_Insert_int_shift Tryz.laysIns g 0 l.length cap j vb 0 1 c2 (l.map (Value.int .i64)) [.int .i64 d] w hjl (by omega) hroom (by simpa [maxLen] using h5) hvg (by simp) rfl hcs (fun k hk=>hsome k (by omega)) (fun k hk=>hfr _) hcell hones hone el2 el 1 cur.size (by simp[World.shape?,hvb]) (by simp[World.shape?,h3]) (by omega) (by simp[World.frozen?,hvb]) (by simp[World.frozen?,hvb])
    refine hcalls.mono ?_
    rintro e w' ⟨rfl,rfl⟩
    have c1:=Ybo g ((l.map (Value.int .i64)).drop j) (0+(j+1)) w.drew cur el (0,0) h3;have c2':=Ybo g [.int .i64 d] (0+j) _ _ _ _ c1;refine⟨_,rfl,.inr ⟨g,cap,_,_,by rw[hlen],h2,c2',by omega,h5,by rw[Ybs,Ybs];exact h6,?_⟩,(below_drew.trans (Ydp h2)).trans (Ydp h2)⟩;intro k hk;rw[hlen]at hk;rw[Ymj d hj,Ybt,Ybs,Ybt];simp only[List.length_singleton,List.length_drop,List.length_map]
    by_cases hk1:k<j
    ·rw[if_neg (by omega),if_neg (by omega),if_pos hk1];exact h7 k (by omega)
    ·by_cases hk2:k=j
     ·rw[if_pos ⟨by omega,by omega,by omega⟩,if_neg hk1,if_pos hk2,show k-(0+j)=0 by omega];rfl
     ·rw[if_neg (by omega),if_pos ⟨by omega,by omega,by omega⟩,if_neg hk1,if_neg hk2,List.getElem?_drop,show j+(k-(0+(j+1)))=k-1 by omega];exact Yvz (by omega)
   ·have hcalls:=Any2.slices_Insert_int_grow Tryz.laysIns g 0 l.length cap j vb 0 1 c2 (l.map (Value.int .i64)) [.int .i64 d] w hjl (by omega) h4 (by omega) (by omega) (by simp) rfl hcs hcell hones hone;refine hcalls.mono ?_
    rintro e w' ⟨rfl,rfl⟩
    obtain⟨arr,harr⟩:∃ arr:Array Value,arr=((l.map (Value.int .i64)).take j).toArray++Builtin.zeroCells (Value.int .i64 0).cells (l.length+1-j)++Builtin.zeroCells (Value.int .i64 0).cells (grownCap w (l.length+1) cap (Tryz.laysIns_ren.t 3)-(l.length+1)):=⟨_,rfl⟩;have hgc:=grownCap_ge w (l.length+1) cap (Tryz.laysIns_ren.t 3)
    have hasz:grownCap w (l.length+1) cap (Tryz.laysIns_ren.t 3)<=arr.size:=by
     rw[harr];simp only[Array.size_append,size_zeroCells,List.size_toArray,List.length_take,List.length_map]
     have:(Value.int .i64 0).cells.size=1:=rfl
     rw[this];omega
    rw[<-harr];have c0:(w.alloc (.cells arr (Tryz.laysIns_ren.t 3))).drew.heap[w.heap.size]?=some (.cells arr (Tryz.laysIns_ren.t 3) (0,0)):=heap_alloc_new _ _;have c1:=Ybo w.heap.size [.int .i64 d] j _ arr _ (0,0) c0;have c2':=Ybo w.heap.size ((l.map (Value.int .i64)).drop j) (j+1) (((w.alloc (.cells arr (Tryz.laysIns_ren.t 3))).drew.setCells w.heap.size j [.int .i64 d]).drew) _ _ _ c1;refine⟨_,rfl,.inr ⟨w.heap.size,_,_,_,by rw[hlen],hb,c2',by omega,grownCap_le_maxLen _ _ _ _ (by unfold maxLen;omega),by rw[Ybs,Ybs];exact hasz,?_⟩,((((Ybc _ _).mono hb).trans below_drew).trans (Ydp hb)).trans (below_drew.trans (Ydp hb))⟩
    intro k hk;rw[hlen]at hk;rw[Ymj d hj,Ybt,Ybs,Ybt];simp only[List.length_singleton,List.length_drop,List.length_map]
    by_cases hk1:k<j
    ·rw[if_neg (by omega),if_neg (by omega),if_pos hk1,harr,Array.getElem?_append,Array.getElem?_append];simp only[Array.size_append,size_zeroCells,List.size_toArray,List.length_take,List.length_map,Nat.min_eq_left hj];rw[if_pos (by omega),if_pos hk1];simp only[List.getElem?_toArray,List.getElem?_take,if_pos hk1];exact Yvz (by omega)
    ·by_cases hk2:k=j
     ·rw[if_neg (by omega),if_pos ⟨by omega,by omega,by omega⟩,if_neg hk1,if_pos hk2,show k-j=0 by omega];rfl
     ·rw[if_pos ⟨by omega,by omega,by omega⟩,if_neg hk1,if_neg hk2,List.getElem?_drop,show j+(k-(j+1))=k-1 by omega];exact Yvz (by omega)
  ·obtain rfl:j=l.length:=by omega
   by_cases hroom:l.length+1<=cap
   ·have hcalls:=Any2.slices_Insert_int_end_room Tryz.laysIns g 0 l.length cap vb 0 1 c2 [.int .i64 d] w (by omega) hroom (by simpa [maxLen] using h5) rfl (fun k hk=>by have:=hsome (l.length+k) (by omega);rw[Nat.add_assoc];exact this) (fun k hk=>hfr _) hcell hone;refine hcalls.mono ?_
    rintro e w' ⟨rfl,rfl⟩
    have c1:=Ybo g [.int .i64 d] (0+l.length) w cur el (0,0) h3;refine⟨_,rfl,.inr ⟨g,cap,_,_,by rw[hlen],h2,c1,by omega,h5,by rw[Ybs];exact h6,?_⟩,Ydp h2⟩;intro k hk;rw[hlen]at hk;rw[Ymj d hj,Ybt];simp only[List.length_singleton]
    by_cases hk1:k<l.length
    ·rw[if_neg (by omega),if_pos hk1];exact h7 k hk1
    ·rw[if_pos ⟨by omega,by omega,by omega⟩,if_neg hk1,if_pos (by omega),show k-(0+l.length)=0 by omega];rfl
   ·have hadd:∀ a,(some ⟨g,0,none⟩:Option Addr)=some a->∀ k u,(l.map (Value.int .i64))[k]?=some u->w.cell? (a.add k)=some u:=by
     intro a ha k u hu
     cases ha
     have h:=hcs k u hu;unfold Addr.add
     by_cases hk:k=0
     ·subst hk;exact h
     ·rw[if_neg hk];exact h
    have hcalls:=Any2.slices_Insert_int_end_grow Tryz.laysIns (some ⟨g,0,none⟩) l.length cap vb 0 1 c2 (l.map (Value.int .i64)) [.int .i64 d] w (by omega) h4 (by omega) (by omega) (by simp) rfl (fun h=>by cases h) hadd hcell hone;refine hcalls.mono ?_
    rintro e w' ⟨rfl,rfl⟩
    have hgc:=grownCap_ge w (l.length+1) cap (Tryz.laysIns_ren.t 3);refine⟨_,rfl,.inr ⟨w.heap.size,_,_,_,by rw[hlen],hb,heap_alloc_new _ _,by omega,grownCap_le_maxLen _ _ _ _ (by unfold maxLen;omega),?_,?_⟩,below_drew.trans ((Ybc _ _).mono hb)⟩
    ·simp only[Array.size_append,size_zeroCells,List.size_toArray,List.length_append,List.length_map,List.length_singleton]
     have:(Value.int .i64 0).cells.size=1:=rfl
     rw[this];omega
    ·intro k hk;rw[hlen]at hk;rw[Ymj d hj,Array.getElem?_append];simp only[List.size_toArray,List.length_append,List.length_map,List.length_singleton];rw[if_pos hk,List.getElem?_toArray,List.getElem?_append];simp only[List.length_map]
     by_cases hk1:k<l.length
     ·rw[if_pos hk1,if_pos hk1];exact Yvz hk1
     ·rw[if_neg hk1,if_neg hk1,if_pos (by omega),show k-l.length=0 by omega];rfl
def FBook.withOpn (x:FBook)(l:LI):FBook:={x with opn:=l}
noncomputable abbrev k_71 (p:List Nat):Code:=Code.at p (body Proofs.Tryz.f71)
noncomputable abbrev k_35 (p:List Nat):Code:=Code.at p (body Proofs.Tryz.f35)
theorem Ypp:FnOk PRG (MF 29) 33 (body Tryz.f33) [.tmp 2,.tmp 3]:=by refine⟨Tryz.f33,?_,?_,?_,?_,?_⟩<;>kernel_rfl
theorem Yz4:FnOk PRG (MF 27) 34 (body Tryz.f34) [.tmp 2,.tmp 3]:=by refine⟨Tryz.f34,?_,?_,?_,?_,?_⟩<;>kernel_rfl
theorem Xb0:FnOk PRG (MF 54) 71 (body Tryz.f71) [.tmp 4,.tmp 5]:=by refine⟨Tryz.f71,?_,?_,?_,?_,?_⟩<;>kernel_rfl
theorem Ykb:FnOk PRG (MF 82) 35 (body Tryz.f35) [.tmp 2,.tmp 3]:=by refine⟨Tryz.f35,?_,?_,?_,?_,?_⟩<;>kernel_rfl
theorem Zgj:FnOk PRG (MF 82) 35 (body Tryz.f35) [.tmp 2,.tmp 3]:=by refine⟨Tryz.f35,?_,?_,?_,?_,?_⟩<;>kernel_rfl
def Ygz (d:Int)  : KV :=
 [(.tmp 0,.d (D.z E.int [])),
  (.tmp 1,.d (D.I d)),
  (.tmp 6,.d (D.I ((Nat.cast:Nat->Int) 0))),
  (.tmp 7,.d (D.I 0)),
  (.tmp 8,.d (D.I ((Nat.cast:Nat->Int) 0)))]
def Zh2:List Key:=[.tmp 0,.tmp 1,.tmp 6,.tmp 7,.tmp 8]
def Yti:List Key:=[.tmp 1,.tmp 4,.tmp 7,.tmp 8,.tmp 9,.tmp 10,.tmp 11,.tmp 13,.tmp 35,.tmp 36,.box 1,.box 4,.box 13]
def Ykc (x:FBook)(m:Mp)(th:LL)(wr:LI)(k v:Int)(i j:Nat)(u:LI)  : KV :=
 [(.tmp 1,.d (D.ptr 1 0)),
  (.tmp 4,.d (D.ptr 4 0)),
  (.tmp 7,.d (D.bool false)),
  (.tmp 8,.d (.I k)),
  (.tmp 9,.d (.I v)),
  (.tmp 10,.d (.I i)),
  (.tmp 13,.d (D.ptr 13 0)),
  (.tmp 35,.d (D.I (Book.days (FBook.chain x)+(1:Int)))),
  (.tmp 36,.d (.I i)),
  (.box 1,.bz (cellsOf (Yab x))),
  (.box 4,.bz (cellsOf (fbkD x m th wr))),
  (.box 13,.bx (some ⟨false,cellsOf (fbkD (x.withOpn u) m th wr)⟩))]
def Ycz (x:FBook)(m:Mp)(th:LL)(wr:LI)(k v:Int)(i:Nat):KV :=
 [(.tmp 1,.d (D.ptr 1 0)),
  (.tmp 4,.d (D.ptr 4 0)),
  (.tmp 7,.d (D.bool false)),
  (.tmp 8,.d (.I k)),
  (.tmp 9,.d (.I v)),
  (.tmp 35,.d (D.I (Book.days (FBook.chain x)+(1:Int)))),
  (.tmp 36,.d (.I i)),
  (.box 1,.bz (cellsOf (Yab x))),
  (.box 4,.bz (cellsOf (fbkD x m th wr)))]
def Yic:List Key:=[.tmp 1,.tmp 4,.tmp 7,.tmp 8,.tmp 9,.tmp 35,.tmp 36,.box 1,.box 4]
def Ynk:List Key:=[.tmp 1,.tmp 4,.tmp 7,.tmp 8,.tmp 9,.tmp 10,.tmp 11,.tmp 13,.tmp 35,.tmp 36,.box 1,.box 4,.box 13]
def Yfx (x:FBook)(m:Mp)(th:LL)(wr:LI)(k v:Int)(i j:Nat)(u:LI)  : KV :=
 [(.tmp 1,.d (D.ptr 1 0)),
  (.tmp 4,.d (D.ptr 4 0)),
  (.tmp 7,.d (D.bool true)),
  (.tmp 8,.d (.I k)),
  (.tmp 9,.d (.I v)),
  (.tmp 10,.d (.I i)),
  (.tmp 13,.d (D.ptr 13 0)),
  (.tmp 35,.d (D.I (Book.days (FBook.chain x)+(1:Int)))),
  (.tmp 36,.d (.I i)),
  (.box 1,.bz (cellsOf (Yab x))),
  (.box 4,.bz (cellsOf (fbkD x m th wr))),
  (.box 13,.bx (some ⟨false,cellsOf (fbkD (x.withOpn u) m th wr)⟩))]
def Ybv (x:FBook)(m:Mp)(th:LL)(wr:LI)(k v:Int)(i:Nat):KV :=
 [(.tmp 1,.d (D.ptr 1 0)),
  (.tmp 4,.d (D.ptr 4 0)),
  (.tmp 7,.d (D.bool true)),
  (.tmp 8,.d (.I k)),
  (.tmp 9,.d (.I v)),
  (.tmp 35,.d (D.I (Book.days (FBook.chain x)+(1:Int)))),
  (.tmp 36,.d (.I i)),
  (.box 1,.bz (cellsOf (Yab x))),
  (.box 4,.bz (cellsOf (fbkD x m th wr)))]
def Ygu:List Key:=[.tmp 1,.tmp 4,.tmp 7,.tmp 8,.tmp 9,.tmp 35,.tmp 36,.box 1,.box 4]
theorem Zfs (d:Int) :runK (MF 54) [(15,false)] [] [] (k_71 [1,1,1,0,0,0]) (Ygz d ) Zh2 =some ([decide ((0:Int)<(Nat.cast:Nat->Int) 0)=false],Ex.exit 0,Ygz d):=by kernel_rfl
theorem Yxy (x:FBook)(m:Mp)(th:LL)(wr:LI)(k v:Int)(i:Nat)(j:Nat) :runK (MF 82) [(37,true)] [(43,.tup [.I j,.bool true])] [] (k_35 [1,1,1,1,1,0,1,0,0]) (Ycz x m th wr k v i) Yic =some ([decide ((i:Int)<x.chain.days+(1:Int))=true,CF 71 [D.z E.int x.opn,D.I (i:Int)] (D.tup [D.I (j:Int),D.bool true]),Yae ((i:Int)+(1:Int))],Ex.normal,Ycz x m th wr k v (i+1)):=by kernel_rfl
theorem Zj3 (x:FBook)(m:Mp)(th:LL)(wr:LI)(k v:Int)(i:Nat)(j:Nat)(u:LI)(q:List Work) :runK (MF 82) [(37,true)] [(43,.tup [.I j,.bool false]),(59,.tup [.z .work q,.bool false])] [(1012,(Yti,(.normal,Ykc x m th wr k v i j u)))] (k_35 [1,1,1,1,1,0,1,0,0]) (Ycz x m th wr k v i) Yic =let Z0:=FBook.withOpn x u;let Z1:=FBook.chain Z0;some ([decide ((i:Int)<x.chain.days+(1:Int))=true,CF 71 [D.z E.int x.opn,D.I (i:Int)] (D.tup [D.I (j:Int),D.bool false]),LF 82 (k_35 [1,1,1,1,1,0,1,0,0,1,1,0,0,1,1,1,1,0]) [(.tmp 1,.d (D.ptr 1 0)),(.tmp 4,.d (D.ptr 4 0)),(.tmp 7,.d (D.bool false)),(.tmp 8,.d (D.I k)),(.tmp 9,.d (D.I v)),(.tmp 10,.d (D.I (i:Int))),(.tmp 11,.d (D.I (j:Int))),(.tmp 13,.d (D.ptr 13 0)),(.tmp 35,.d (D.I (x.chain.days+(1:Int)))),(.tmp 36,.d (D.I (i:Int))),(.box 1,.bz (cellsOf (Yab x))),(.box 4,.bz (cellsOf (fbkD x m th wr))),(.box 13,.bz (cellsOf (fbkD x m th wr)))] Ex.normal (Ykc x m th wr k v i j u),CF 69 [D.agg [D.z E.sec (Book.secs Z1),D.z E.int (Book.turns Z1),D.z E.sv (Book.svs Z1),D.I (Book.rule Z1),D.I (Book.days Z1),D.z E.int (FBook.feet Z0),D.I (FBook.new Z0),D.z E.int (FBook.opn Z0),D.I (FBook.stock Z0),D.I (FBook.make Z0),D.map m,D.z (E.list E.int) th,D.z E.int wr]] (D.tup [D.z E.work q,D.bool false]),Yae ((i:Int)+(1:Int))],Ex.normal,Ycz x m th wr k v (i+1)):=by kernel_rfl
theorem Zb4 (x:FBook)(m:Mp)(th:LL)(wr:LI)(k v:Int)(i:Nat) :runK (MF 82) [(37,false)] [] [] (k_35 [1,1,1,1,1,0,1,0,0]) (Ycz x m th wr k v i) Yic =some ([decide ((i:Int)<x.chain.days+(1:Int))=false],Ex.exit 0,Ycz x m th wr k v i):=by kernel_rfl
theorem Yu4 (x:FBook)(m:Mp)(th:LL)(wr:LI)(k v:Int)(i:Nat)(j:Nat)(u:LI)(q:List Work)(y:Int) :runK (MF 82) [(37,true)] [(43,.tup [.I j,.bool false]),(59,.tup [.z .work q,.bool true]),(77,.I y)] [(1012,(Yti,(.normal,Ykc x m th wr k v i j u)))] (k_35 [1,1,1,1,1,0,1,0,0]) (Ycz x m th wr k v i) Ygu =let Z0:=FBook.withOpn x u;let Z1:=FBook.chain Z0;some ([decide ((i:Int)<x.chain.days+(1:Int))=true,CF 71 [D.z E.int x.opn,D.I (i:Int)] (D.tup [D.I (j:Int),D.bool false]),LF 82 (k_35 [1,1,1,1,1,0,1,0,0,1,1,0,0,1,1,1,1,0]) [(.tmp 1,.d (D.ptr 1 0)),(.tmp 4,.d (D.ptr 4 0)),(.tmp 7,.d (D.bool false)),(.tmp 8,.d (D.I k)),(.tmp 9,.d (D.I v)),(.tmp 10,.d (D.I (i:Int))),(.tmp 11,.d (D.I (j:Int))),(.tmp 13,.d (D.ptr 13 0)),(.tmp 35,.d (D.I (x.chain.days+(1:Int)))),(.tmp 36,.d (D.I (i:Int))),(.box 1,.bz (cellsOf (Yab x))),(.box 4,.bz (cellsOf (fbkD x m th wr))),(.box 13,.bz (cellsOf (fbkD x m th wr)))] Ex.normal (Ykc x m th wr k v i j u),CF 69 [D.agg [D.z E.sec (Book.secs Z1),D.z E.int (Book.turns Z1),D.z E.sv (Book.svs Z1),D.I (Book.rule Z1),D.I (Book.days Z1),D.z E.int (FBook.feet Z0),D.I (FBook.new Z0),D.z E.int (FBook.opn Z0),D.I (FBook.stock Z0),D.I (FBook.make Z0),D.map m,D.z (E.list E.int) th,D.z E.int wr]] (D.tup [D.z E.work q,D.bool true]),CF 65 [fbkD x m th wr,D.z E.work q] (D.I y),Yae ((i:Int)+(1:Int))],Ex.normal,Ybv x m th wr (i:Int) y (i+1)):=by kernel_rfl
theorem Yxx (x:FBook)(m:Mp)(th:LL)(wr:LI)(k v:Int)(i:Nat)(j:Nat) :runK (MF 82) [(37,true)] [(43,.tup [.I j,.bool true])] [] (k_35 [1,1,1,1,1,0,1,0,0]) (Ybv x m th wr k v i) Ygu =some ([decide ((i:Int)<x.chain.days+(1:Int))=true,CF 71 [D.z E.int x.opn,D.I (i:Int)] (D.tup [D.I (j:Int),D.bool true]),Yae ((i:Int)+(1:Int))],Ex.normal,Ybv x m th wr k v (i+1)):=by kernel_rfl
theorem Zj0 (x:FBook)(m:Mp)(th:LL)(wr:LI)(k v:Int)(i:Nat)(j:Nat)(u:LI)(q:List Work) :runK (MF 82) [(37,true)] [(43,.tup [.I j,.bool false]),(59,.tup [.z .work q,.bool false])] [(1012,(Ynk,(.normal,Yfx x m th wr k v i j u)))] (k_35 [1,1,1,1,1,0,1,0,0]) (Ybv x m th wr k v i) Ygu =let Z0:=FBook.withOpn x u;let Z1:=FBook.chain Z0;some ([decide ((i:Int)<x.chain.days+(1:Int))=true,CF 71 [D.z E.int x.opn,D.I (i:Int)] (D.tup [D.I (j:Int),D.bool false]),LF 82 (k_35 [1,1,1,1,1,0,1,0,0,1,1,0,0,1,1,1,1,0]) [(.tmp 1,.d (D.ptr 1 0)),(.tmp 4,.d (D.ptr 4 0)),(.tmp 7,.d (D.bool true)),(.tmp 8,.d (D.I k)),(.tmp 9,.d (D.I v)),(.tmp 10,.d (D.I (i:Int))),(.tmp 11,.d (D.I (j:Int))),(.tmp 13,.d (D.ptr 13 0)),(.tmp 35,.d (D.I (x.chain.days+(1:Int)))),(.tmp 36,.d (D.I (i:Int))),(.box 1,.bz (cellsOf (Yab x))),(.box 4,.bz (cellsOf (fbkD x m th wr))),(.box 13,.bz (cellsOf (fbkD x m th wr)))] Ex.normal (Yfx x m th wr k v i j u),CF 69 [D.agg [D.z E.sec (Book.secs Z1),D.z E.int (Book.turns Z1),D.z E.sv (Book.svs Z1),D.I (Book.rule Z1),D.I (Book.days Z1),D.z E.int (FBook.feet Z0),D.I (FBook.new Z0),D.z E.int (FBook.opn Z0),D.I (FBook.stock Z0),D.I (FBook.make Z0),D.map m,D.z (E.list E.int) th,D.z E.int wr]] (D.tup [D.z E.work q,D.bool false]),Yae ((i:Int)+(1:Int))],Ex.normal,Ybv x m th wr k v (i+1)):=by kernel_rfl
theorem Zbz (x:FBook)(m:Mp)(th:LL)(wr:LI)(k v:Int)(i:Nat) :runK (MF 82) [(37,false)] [] [] (k_35 [1,1,1,1,1,0,1,0,0]) (Ybv x m th wr k v i) Ygu =some ([decide ((i:Int)<x.chain.days+(1:Int))=false],Ex.exit 0,Ybv x m th wr k v i):=by kernel_rfl
theorem Yu3 (x:FBook)(m:Mp)(th:LL)(wr:LI)(k v:Int)(i:Nat)(j:Nat)(u:LI)(q:List Work)(y:Int) :runK (MF 82) [(37,true),(73,false)] [(43,.tup [.I j,.bool false]),(59,.tup [.z .work q,.bool true]),(69,.I y)] [(1012,(Ynk,(.normal,Yfx x m th wr k v i j u)))] (k_35 [1,1,1,1,1,0,1,0,0]) (Ybv x m th wr k v i) Ygu =let Z0:=FBook.withOpn x u;let Z1:=FBook.chain Z0;some ([decide ((i:Int)<x.chain.days+(1:Int))=true,CF 71 [D.z E.int x.opn,D.I (i:Int)] (D.tup [D.I (j:Int),D.bool false]),LF 82 (k_35 [1,1,1,1,1,0,1,0,0,1,1,0,0,1,1,1,1,0]) [(.tmp 1,.d (D.ptr 1 0)),(.tmp 4,.d (D.ptr 4 0)),(.tmp 7,.d (D.bool true)),(.tmp 8,.d (D.I k)),(.tmp 9,.d (D.I v)),(.tmp 10,.d (D.I (i:Int))),(.tmp 11,.d (D.I (j:Int))),(.tmp 13,.d (D.ptr 13 0)),(.tmp 35,.d (D.I (x.chain.days+(1:Int)))),(.tmp 36,.d (D.I (i:Int))),(.box 1,.bz (cellsOf (Yab x))),(.box 4,.bz (cellsOf (fbkD x m th wr))),(.box 13,.bz (cellsOf (fbkD x m th wr)))] Ex.normal (Yfx x m th wr k v i j u),CF 69 [D.agg [D.z E.sec (Book.secs Z1),D.z E.int (Book.turns Z1),D.z E.sv (Book.svs Z1),D.I (Book.rule Z1),D.I (Book.days Z1),D.z E.int (FBook.feet Z0),D.I (FBook.new Z0),D.z E.int (FBook.opn Z0),D.I (FBook.stock Z0),D.I (FBook.make Z0),D.map m,D.z (E.list E.int) th,D.z E.int wr]] (D.tup [D.z E.work q,D.bool true]),CF 65 [fbkD x m th wr,D.z E.work q] (D.I y),decide (y<v)=false,Yae ((i:Int)+(1:Int))],Ex.normal,Ybv x m th wr k v (i+1)):=by kernel_rfl
theorem Yr9 (x:FBook)(m:Mp)(th:LL)(wr:LI)(k v:Int)(i:Nat)(j:Nat)(u:LI)(q:List Work)(y:Int) :runK (MF 82) [(37,true),(73,true)] [(43,.tup [.I j,.bool false]),(59,.tup [.z .work q,.bool true]),(69,.I y),(77,.I y)] [(1012,(Ynk,(.normal,Yfx x m th wr k v i j u)))] (k_35 [1,1,1,1,1,0,1,0,0]) (Ybv x m th wr k v i) Ygu =let Z0:=FBook.withOpn x u;let Z1:=FBook.chain Z0;let Z2:Prop:=CF 65 [fbkD x m th wr,D.z E.work q] (D.I y);some ([decide ((i:Int)<x.chain.days+(1:Int))=true,CF 71 [D.z E.int x.opn,D.I (i:Int)] (D.tup [D.I (j:Int),D.bool false]),LF 82 (k_35 [1,1,1,1,1,0,1,0,0,1,1,0,0,1,1,1,1,0]) [(.tmp 1,.d (D.ptr 1 0)),(.tmp 4,.d (D.ptr 4 0)),(.tmp 7,.d (D.bool true)),(.tmp 8,.d (D.I k)),(.tmp 9,.d (D.I v)),(.tmp 10,.d (D.I (i:Int))),(.tmp 11,.d (D.I (j:Int))),(.tmp 13,.d (D.ptr 13 0)),(.tmp 35,.d (D.I (x.chain.days+(1:Int)))),(.tmp 36,.d (D.I (i:Int))),(.box 1,.bz (cellsOf (Yab x))),(.box 4,.bz (cellsOf (fbkD x m th wr))),(.box 13,.bz (cellsOf (fbkD x m th wr)))] Ex.normal (Yfx x m th wr k v i j u),CF 69 [D.agg [D.z E.sec (Book.secs Z1),D.z E.int (Book.turns Z1),D.z E.sv (Book.svs Z1),D.I (Book.rule Z1),D.I (Book.days Z1),D.z E.int (FBook.feet Z0),D.I (FBook.new Z0),D.z E.int (FBook.opn Z0),D.I (FBook.stock Z0),D.I (FBook.make Z0),D.map m,D.z (E.list E.int) th,D.z E.int wr]] (D.tup [D.z E.work q,D.bool true]),Z2,decide (y<v)=true,Z2,Yae ((i:Int)+(1:Int))],Ex.normal,Ybv x m th wr (i:Int) y (i+1)):=by kernel_rfl
theorem Znb (x:FBook)(e:Int) :Yaj (MF 29) [(14,true)] [(10,.tup [Za1,.I e])] [] (body Tryz.f33) [.tmp 2,.tmp 3] [Yab x] =some ([CF 44 [Yab x,D.fn 68 [] []] (D.tup [D.agg [D.nil,D.nil,D.nil,D.I 0,D.I 0,D.nil,D.I 0,D.nil,D.I 0,D.I 0,D.nilmap,D.nil,D.nil],D.I e]),(e != (0:Int))=true],D.tup [D.sl true E.work [],D.I e]):=by kernel_rfl
theorem Znc (x:FBook)(l:List (K2×Bool))(e:Int) :Yaj (MF 29) [(14,true)] [(10,.tup [fopD x l,.I e])] [] (body Tryz.f33) [.tmp 2,.tmp 3] [Yab x] =some ([CF 44 [Yab x,D.fn 68 [] []] (D.tup [fopD x l,D.I e]),(e != (0:Int))=true],D.tup [D.sl true E.work [],D.I e]):=by kernel_rfl
theorem Zna (x:FBook)(m:Mp)(th:LL)(wr:LI)(p:List Work) :Yaj (MF 29) [] [(10,.tup [fbkD x m th wr,.I 0]),(18,.tup [.z .work p,.bool false])] [] (body Tryz.f33) [.tmp 2,.tmp 3] [Yab x] =some ([CF 44 [Yab x,D.fn 68 [] []] (D.tup [fbkD x m th wr,D.I 0]),CF 69 [fbkD x m th wr] (D.tup [D.z E.work p,D.bool false])],D.tup [D.sl true E.work [],D.I 4]):=by kernel_rfl
theorem Zm9 (x:FBook)(m:Mp)(th:LL)(wr:LI)(p:List Work) :Yaj (MF 29) [] [(10,.tup [fbkD x m th wr,.I 0]),(18,.tup [.z .work p,.bool true])] [] (body Tryz.f33) [.tmp 2,.tmp 3] [Yab x] =some ([CF 44 [Yab x,D.fn 68 [] []] (D.tup [fbkD x m th wr,D.I 0]),CF 69 [fbkD x m th wr] (D.tup [D.z E.work p,D.bool true]),(0:Int)<=(0:Int)/\(0:Int)<=(p.length:Int)/\(p.length:Int)<=(p.length:Int)/\(p.length:Int)=(p.length:Int)],D.tup [D.sl true E.work (List.drop 0 (List.take (Int.toNat ((p.length:Int))) p)),D.I 0]):=by kernel_rfl
theorem Ze2 (x:FBook)(e:Int) :Yaj (MF 27) [(14,true)] [(10,.tup [Za1,.I e])] [] (body Tryz.f34) [.tmp 2,.tmp 3] [Yab x] =some ([CF 44 [Yab x,D.fn 68 [] []] (D.tup [D.agg [D.nil,D.nil,D.nil,D.I 0,D.I 0,D.nil,D.I 0,D.nil,D.I 0,D.I 0,D.nilmap,D.nil,D.nil],D.I e]),(e != (0:Int))=true],D.tup [D.I 0,D.I e]):=by kernel_rfl
theorem Ze3 (x:FBook)(l:List (K2×Bool))(e:Int) :Yaj (MF 27) [(14,true)] [(10,.tup [fopD x l,.I e])] [] (body Tryz.f34) [.tmp 2,.tmp 3] [Yab x] =some ([CF 44 [Yab x,D.fn 68 [] []] (D.tup [fopD x l,D.I e]),(e != (0:Int))=true],D.tup [D.I 0,D.I e]):=by kernel_rfl
theorem Zv1 (d:Int) :Yaj (MF 54) [] [] [(0,(Zh2,(.normal,Ygz d)))] (body Tryz.f71) [.tmp 4,.tmp 5] [.z .int [],.I d] =some ([LF 54 (k_71 [1,1,1,0]) (Ygz d) Ex.normal (Ygz d)],D.tup [D.I 0,D.bool false]):=by kernel_rfl
theorem Zj1 (x:FBook)(e:Int) :Yaj (MF 82) [(22,true)] [(18,.tup [Za1,.I e])] [] (body Tryz.f35) [.tmp 2,.tmp 3] [Yab x] =some ([CF 44 [Yab x,D.fn 68 [] []] (D.tup [D.agg [D.nil,D.nil,D.nil,D.I 0,D.I 0,D.nil,D.I 0,D.nil,D.I 0,D.I 0,D.nilmap,D.nil,D.nil],D.I e]),(e != (0:Int))=true],D.tup [D.I 0,D.I e]):=by kernel_rfl
theorem Zj2 (x:FBook)(l:List (K2×Bool))(e:Int) :Yaj (MF 82) [(22,true)] [(18,.tup [fopD x l,.I e])] [] (body Tryz.f35) [.tmp 2,.tmp 3] [Yab x] =some ([CF 44 [Yab x,D.fn 68 [] []] (D.tup [fopD x l,D.I e]),(e != (0:Int))=true],D.tup [D.I 0,D.I e]):=by kernel_rfl
theorem Zb3 (x:FBook)(m:Mp)(th:LL)(wr:LI)(p:List Work)(v:Int)(k y:Int)(i:Nat) :Yaj (MF 82) [(80,true)] [(18,.tup [fbkD x m th wr,.I 0]),(26,.tup [.z .work p,.bool false]),(31,.I v)] [(0,(Yic,(.normal,Ycz x m th wr k y i)))] (body Tryz.f35) [.tmp 2,.tmp 3] [Yab x] =some ([CF 44 [Yab x,D.fn 68 [] []] (D.tup [fbkD x m th wr,D.I 0]),CF 69 [fbkD x m th wr] (D.tup [D.z E.work p,D.bool false]),CF 65 [fbkD x m th wr,D.z E.work p] (D.I v),Yae (x.chain.days+(1:Int)),LF 82 (k_35 [1,1,1,1,1,0,1]) (Ycz x m th wr (- 1) v 0) Ex.normal (Ycz x m th wr k y i),decide (k<(0:Int))=true],D.tup [D.I 0,D.I 4]):=by kernel_rfl
theorem Zb2 (x:FBook)(m:Mp)(th:LL)(wr:LI)(p:List Work)(v:Int)(k y:Int)(i:Nat) :Yaj (MF 82) [(80,false)] [(18,.tup [fbkD x m th wr,.I 0]),(26,.tup [.z .work p,.bool false]),(31,.I v)] [(0,(Yic,(.normal,Ycz x m th wr k y i)))] (body Tryz.f35) [.tmp 2,.tmp 3] [Yab x] =some ([CF 44 [Yab x,D.fn 68 [] []] (D.tup [fbkD x m th wr,D.I 0]),CF 69 [fbkD x m th wr] (D.tup [D.z E.work p,D.bool false]),CF 65 [fbkD x m th wr,D.z E.work p] (D.I v),Yae (x.chain.days+(1:Int)),LF 82 (k_35 [1,1,1,1,1,0,1]) (Ycz x m th wr (- 1) v 0) Ex.normal (Ycz x m th wr k y i),decide (k<(0:Int))=false],D.tup [D.I k,D.I 0]):=by kernel_rfl
theorem Zb1 (x:FBook)(m:Mp)(th:LL)(wr:LI)(p:List Work)(v:Int)(k y:Int)(i:Nat) :Yaj (MF 82) [(80,true)] [(18,.tup [fbkD x m th wr,.I 0]),(26,.tup [.z .work p,.bool false]),(31,.I v)] [(0,(Yic,(.normal,Ybv x m th wr k y i)))] (body Tryz.f35) [.tmp 2,.tmp 3] [Yab x] =some ([CF 44 [Yab x,D.fn 68 [] []] (D.tup [fbkD x m th wr,D.I 0]),CF 69 [fbkD x m th wr] (D.tup [D.z E.work p,D.bool false]),CF 65 [fbkD x m th wr,D.z E.work p] (D.I v),Yae (x.chain.days+(1:Int)),LF 82 (k_35 [1,1,1,1,1,0,1]) (Ycz x m th wr (- 1) v 0) Ex.normal (Ybv x m th wr k y i),decide (k<(0:Int))=true],D.tup [D.I 0,D.I 4]):=by kernel_rfl
theorem Zb0 (x:FBook)(m:Mp)(th:LL)(wr:LI)(p:List Work)(v:Int)(k y:Int)(i:Nat) :Yaj (MF 82) [(80,false)] [(18,.tup [fbkD x m th wr,.I 0]),(26,.tup [.z .work p,.bool false]),(31,.I v)] [(0,(Yic,(.normal,Ybv x m th wr k y i)))] (body Tryz.f35) [.tmp 2,.tmp 3] [Yab x] =some ([CF 44 [Yab x,D.fn 68 [] []] (D.tup [fbkD x m th wr,D.I 0]),CF 69 [fbkD x m th wr] (D.tup [D.z E.work p,D.bool false]),CF 65 [fbkD x m th wr,D.z E.work p] (D.I v),Yae (x.chain.days+(1:Int)),LF 82 (k_35 [1,1,1,1,1,0,1]) (Ycz x m th wr (- 1) v 0) Ex.normal (Ybv x m th wr k y i),decide (k<(0:Int))=false],D.tup [D.I k,D.I 0]):=by kernel_rfl
theorem Zby (x:FBook)(m:Mp)(th:LL)(wr:LI)(p:List Work)(v:Int)(k y:Int)(i:Nat) :Yaj (MF 82) [(80,true)] [(18,.tup [fbkD x m th wr,.I 0]),(26,.tup [.z .work p,.bool true]),(31,.I v)] [(0,(Ygu,(.normal,Ybv x m th wr k y i)))] (body Tryz.f35) [.tmp 2,.tmp 3] [Yab x] =some ([CF 44 [Yab x,D.fn 68 [] []] (D.tup [fbkD x m th wr,D.I 0]),CF 69 [fbkD x m th wr] (D.tup [D.z E.work p,D.bool true]),CF 65 [fbkD x m th wr,D.z E.work p] (D.I v),Yae (x.chain.days+(1:Int)),LF 82 (k_35 [1,1,1,1,1,0,1]) (Ybv x m th wr (- 1) v 0) Ex.normal (Ybv x m th wr k y i),decide (k<(0:Int))=true],D.tup [D.I 0,D.I 4]):=by kernel_rfl
theorem Zbx (x:FBook)(m:Mp)(th:LL)(wr:LI)(p:List Work)(v:Int)(k y:Int)(i:Nat) :Yaj (MF 82) [(80,false)] [(18,.tup [fbkD x m th wr,.I 0]),(26,.tup [.z .work p,.bool true]),(31,.I v)] [(0,(Ygu,(.normal,Ybv x m th wr k y i)))] (body Tryz.f35) [.tmp 2,.tmp 3] [Yab x] =some ([CF 44 [Yab x,D.fn 68 [] []] (D.tup [fbkD x m th wr,D.I 0]),CF 69 [fbkD x m th wr] (D.tup [D.z E.work p,D.bool true]),CF 65 [fbkD x m th wr,D.z E.work p] (D.I v),Yae (x.chain.days+(1:Int)),LF 82 (k_35 [1,1,1,1,1,0,1]) (Ybv x m th wr (- 1) v 0) Ex.normal (Ybv x m th wr k y i),decide (k<(0:Int))=false],D.tup [D.I k,D.I 0]):=by kernel_rfl
def riL (x:FBook)(m:Mp)(th:LL)(wr:LI)(b:Bool)(k v:Int)(i j:Nat):KV :=
 [(.tmp 1,.d (.ptr 1 0)),(.tmp 4,.d (.ptr 4 0)),(.tmp 7,.d (.bool b)),(.tmp 8,.d (.I k)),(.tmp 9,.d (.I v)),(.tmp 10,.d (.I i)),(.tmp 11,.d (.I j)),(.tmp 13,.d (.ptr 13 0)),(.tmp 35,.d (.I (x.chain.days+1))),(.tmp 36,.d (.I i)),
  (.box 1,.bx (some ⟨false,cellsOf (Yab x)⟩)),(.box 4,.bx (some ⟨false,cellsOf (fbkD x m th wr)⟩)),(.box 13,.bx (some ⟨false,cellsOf (fbkD x m th wr)⟩))]
def riK:List Key:=[.tmp 1,.tmp 4,.tmp 7,.tmp 8,.tmp 9,.tmp 10,.tmp 11,.tmp 13,.tmp 35,.tmp 36,.box 1,.box 4,.box 13]
def riO:List Key:=[.tmp 1,.tmp 4,.tmp 7,.tmp 8,.tmp 9,.tmp 10,.tmp 13,.tmp 35,.tmp 36,.box 1,.box 4,.box 13]
def riS (x:FBook)(m:Mp)(th:LL)(wr:LI)(b:Bool)(k v:Int)(i:Nat)(u:LI):KV :=
 [(.tmp 1,.d (.ptr 1 0)),(.tmp 4,.d (.ptr 4 0)),(.tmp 7,.d (.bool b)),(.tmp 8,.d (.I k)),(.tmp 9,.d (.I v)),(.tmp 10,.d (.I i)),(.tmp 13,.d (.ptr 13 0)),(.tmp 35,.d (.I (x.chain.days+1))),(.tmp 36,.d (.I i)),
  (.box 1,.bx (some ⟨false,cellsOf (Yab x)⟩)),(.box 4,.bx (some ⟨false,cellsOf (fbkD x m th wr)⟩)),(.box 13,.bx (some ⟨false,cellsOf (fbkD (x.withOpn u) m th wr)⟩))]
noncomputable abbrev riOps:Array Oper:=rops (k_35 [1,1,1,1,1,0,1,0,0,1,1,0,0,1,1,1,1,0])
theorem ri_a (x:FBook)(m:Mp)(th:LL)(wr:LI)(b:Bool)(k v:Int)(i j:Nat) :Yi5 (MF 82) [] [] riOps [riOps[0],riOps[1]] (riL x m th wr b k v i j) (riK++[.tmp 49]) =some ([],riL x m th wr b k v i j++[(.tmp 49,.d (.z .int x.opn))]):=by kernel_rfl
theorem ri_b (x:FBook)(m:Mp)(th:LL)(wr:LI)(b:Bool)(k v:Int)(i j:Nat)(u:LI) :Yi5 (MF 82) [] [] riOps [riOps[7],riOps[8],riOps[9]] ((.tmp 54,.d (.z .int u))::(riL x m th wr b k v i j++[(.tmp 49,.d (.z .int x.opn))])) riO =some ([],riS x m th wr b k v i u):=by kernel_rfl
open Go.RowKit Go.Proofs
theorem Xix {l:LI}(hl:l.length<=1000)(hs:l.Pairwise (·<·))(d:Int):CF 71 [.z .int l,.I d] (.tup [.I (l.countP (·<d):Nat),.bool (l.contains d)]):=by
 by_cases h0:0<l.length
 ·refine⟨⟨Tryz.f71,by kernel_rfl,by kernel_rfl,by kernel_rfl⟩,fun w R vs hd hg ha=>?_⟩;obtain⟨v,vs,rfl,hv,ha⟩:=Yaq ha;obtain⟨v2,vs,rfl,hv2,ha⟩:=Yaq ha;obtain rfl:=Ych ha;have hv2':v2=.int .i64 d:=hv2;subst hv2';obtain⟨A,c,rfl,h1,h2,_,h4⟩:=hv;obtain⟨b,o,rfl,h5⟩:=h4 h0;refine(Any.slices_BinarySearch_int Tryz.laysBS b o l.length c l d w (Nat.le_refl _) (by omega) (fun j hj=>?_) ?_).mono ?_
  ·obtain⟨vs,q1,q2,q3⟩:=h5 j _ (List.getElem?_eq_getElem hj);have q2':vs=[.int .i64 l[j]]:=q2;subst q2'
   have:w.cell? ⟨b,o+j*1+0,none⟩=some (.int .i64 l[j]):=(q3 0 _ rfl).2
   rw[Nat.add_zero,Nat.mul_one]at this;rw[this,List.getD_eq_getElem?_getD,List.getElem?_eq_getElem hj];rfl
  ·rw[List.take_length];exact hs.imp fun h=>Int.le_of_lt h
  ·rintro e w' ⟨rfl,q,rfl⟩
   rw[List.take_length];refine⟨_,rfl,⟨rfl,rfl,rfl,Nat.le_refl _,fun _ _=>rfl⟩,R,fun _ _ h=>h,fun b o h=>⟨hd b o h,.inl h⟩,_,rfl,rfl,rfl,trivial⟩
 ·obtain rfl:l=[]:=List.length_eq_zero_iff.1 (by omega)
  have hloop:LF 54 (k_71 [1,1,1,0]) (Ygz d) .normal (Ygz d) :=
   LF.each (id:=0) (c:=k_71 [1,1,1,0,0,0]) (by kernel_rfl) 0 (fun _=>Ygz d) (fun i hi=>by omega) ⟨_,_,_,_,_,_,_,Zfs d,⟨rfl,trivial⟩,.inl ⟨rfl,rfl⟩,rfl⟩
  exact Yaa (GF 54) Xb0 (Zv1 d) ⟨hloop,trivial⟩
theorem Xiw {a:Act}{w:World}{d:Int}{o:Oper}(hop:o.op=.buildSlice 23 1 #[(0,.tmp 52)])(h:a.eval (.tmp 52)=.int .i64 d):(execOp a.eval o).run PRG w=.ok (.value (.slice (some ⟨w.heap.size,0,none⟩) 1 1)) (w.alloc (.cells #[.int .i64 d] 3)):=by
 have hu:∀ w,Sem.run PRG (underlying 23) w=.ok (TypeDesc.slice 3) w:=run_underlying Tryz.underlying23;have hz:=Tryz.zeroValue3 w;have hs:=Tryz.sizeOf3 w;have hc:∀ z:Int,(Value.int .i64 z).cells=#[Value.int .i64 z]:=fun _=>rfl
 have h1:∀(arr:Array Value) (v:Value),arr.size=1->arr.setIfInBounds 0 v=#[v]:=by
  intro arr v ha
  apply Array.ext
  ·simp[ha]
  ·intro k hk1 hk2
   have:k=0:=by simpa using hk2
   subst this;simp
 simp[execOp,hop,h,Instr.buildSlice,hu,hz,hs,newRow,Instr.fill,hc];rw[h1 _ _ (by simp)]
theorem Xim {x:FBook}(hx:x.opn.length<=1000)(m:Mp)(th:LL)(wr:LI)(b:Bool)(k v:Int)(i j:Nat)(hj:j<=x.opn.length) :
  LF 82 (k_35 [1,1,1,1,1,0,1,0,0,1,1,0,0,1,1,1,1,0]) (riL x m th wr b k v i j) .normal (riS x m th wr b k v i (insL x.opn j i)):=by
 refine LoopT.of (tt:=Yac Ybl) ?_;intro w0 R0 a w Q ro n hro hH hQ;have hcode:k_35 [1,1,1,1,1,0,1,0,0,1,1,0,0,1,1,1,1,0]=.region 12 riOps false:=by kernel_rfl
 rw[hcode];refine Ydw (by kernel_rfl) ?_;have hsz:riOps.size=10:=by kernel_rfl
 rw[hsz];show wpOps _ _ _ (List.range' 0 [riOps[0],riOps[1]].length++[2,3,4,5,6,7,8,9]) _ _;refine Yhl (C:=MF 82) Yav (fun _ _ _ h=>h) (ri_a x m th wr b k v i j) trivial (fun q o hq=>?_) hH fun a1 w1 hH1=>?_
 ·match q,hq with
  | 0,hq=>simp only[List.getElem?_cons_zero,Option.some.injEq]at hq;subst hq;exact Array.getElem?_eq_getElem _
  | 1,hq=>simp only[List.getElem?_cons_succ,List.getElem?_cons_zero,Option.some.injEq]at hq;subst hq;exact Array.getElem?_eq_getElem _
 obtain⟨β,σ,R,hI⟩:=hH1;have hnt:82<=a1.tmps.size:=hI.nt;have t49:Rel R w1 (.z .int x.opn) (a1.tmps.getD 49 undef):=hI.tmps 49;have t10:a1.tmps.getD 10 undef=.int .i64 i:=hI.tmps 10;have t11:a1.tmps.getD 11 undef=.int .i64 j:=hI.tmps 11;obtain⟨o2,h20,h21,h22,h23⟩:=(opAt (ops:=riOps) (i:=2) (dst:=some 50) (op:=.call {callee:=.value (.func 73),args:=#[.tmp 49],argTypes:=#[23]}) (by kernel_rfl)).at_;refine Ydx h20 h21 h23 rfl (f:=73) (caps:=#[]) rfl (vs:=#[a1.tmps.getD 49 undef]) (by simp only[List.map_toArray,List.map_cons,List.map_nil];rfl) (fn:=Tryz.f73) (by kernel_rfl) (by kernel_rfl) (by kernel_rfl) (Zfg hx t49) ?_
 rintro e w2 ⟨v1,rfl,hown,hb2⟩
 refine⟨v1,rfl,?_⟩;rw[h22];obtain⟨o3,h30,h31,h32,h33⟩:=(opAt (ops:=riOps) (i:=3) (dst:=some 51) (op:=.move (.tmp 11)) (by kernel_rfl)).at_
 refine Yau (v:=.int .i64 j) (w':=w2) h30 h31 (by
  have hev:(a1.put (some 50) v1).eval (.tmp 11)=.int .i64 j:=Yag (by omega) (by decide) t11;simp[execOp,h33,hev]) ?_
 rw[h32];obtain⟨o4,h40,h41,h42,h43⟩:=(opAt (ops:=riOps) (i:=4) (dst:=some 52) (op:=.move (.tmp 10)) (by kernel_rfl)).at_
 refine Yau (v:=.int .i64 i) (w':=w2) h40 h41 (by
  have hev:((a1.put (some 50) v1).put (some 51) (.int .i64 j)).eval (.tmp 10)=.int .i64 i:=Yag (by rw[Ya4];omega) (by decide) (Yag (by omega) (by decide) t10);simp[execOp,h43,hev]) ?_
 rw[h42];obtain⟨o5,h50,h51,h52,h53⟩:=(opAt (ops:=riOps) (i:=5) (dst:=some 53) (op:=.buildSlice 23 1 #[(0,.tmp 52)]) (by kernel_rfl)).at_;refine Yau h50 h51 (Xiw (d:=i) h53 (Ycg (by rw[Ya4,Ya4];omega))) ?_;rw[h52];obtain⟨w3,hw3⟩:∃ w3,w3=w2.alloc (.cells #[.int .i64 i] 3):=⟨_,rfl⟩;have hb3:Below w2.heap.size w2 w3:=by rw[hw3];exact Ybc _ _
 have hnew:w3.heap[w2.heap.size]?=some (.cells #[.int .i64 i] 3 (0,0)):=by rw[hw3];exact heap_alloc_new _ _
 rw[<-hw3];obtain⟨o6,h60,h61,h62,h63⟩:=(opAt (ops:=riOps) (i:=6) (dst:=some 54) (op:=.call {callee:=.value (.func 72),args:=#[.tmp 50,.tmp 51,.tmp 53],argTypes:=#[23,3,23]}) (by kernel_rfl)).at_;obtain⟨a5,ha5⟩:∃ a5,a5=(((a1.put (some 50) v1).put (some 51) (.int .i64 j)).put (some 52) (.int .i64 i)).put (some 53) (.slice (some ⟨w2.heap.size,0,none⟩) 1 1):=⟨_,rfl⟩;rw[<-ha5];have e50:a5.tmps.getD 50 undef=v1:=by rw[ha5];exact Yag (by rw[Ya4,Ya4,Ya4];omega) (by decide) (Yag (by rw[Ya4,Ya4];omega) (by decide) (Yag (by rw[Ya4];omega) (by decide) (Ycg (by omega))))
 have e51:a5.tmps.getD 51 undef=.int .i64 j:=by rw[ha5];exact Yag (by rw[Ya4,Ya4,Ya4];omega) (by decide) (Yag (by rw[Ya4,Ya4];omega) (by decide) (Ycg (by rw[Ya4];omega)))
 have e53:a5.tmps.getD 53 undef=.slice (some ⟨w2.heap.size,0,none⟩) 1 1:=by rw[ha5];exact Ycg (by rw[Ya4,Ya4,Ya4];omega)
 have hins:=Yzh (base:=w1.heap.size) (w:=w3) (l:=x.opn) (v:=v1) (j:=j) (d:=(i:Int)) (vb:=w2.heap.size) (c2:=1) (el2:=3) hx hj (hown.keep hb3) (Nat.le_trans hb2.size hb3.size) hnew (fun g n c hv=>by
  rcases hown with ⟨h,_⟩|⟨g',cap,cur,el,h1,h2,h3,_⟩
  ·rw[h]at hv;cases hv
  ·rw[h1]at hv
   cases hv
   have:=(Array.getElem?_eq_some_iff.1 h3).1
   omega)
 refine Ydx h60 h61 h63 rfl (f:=72) (caps:=#[]) rfl (vs:=#[v1,.int .i64 j,.slice (some ⟨w2.heap.size,0,none⟩) 1 1]) (by simp only[List.map_toArray,List.map_cons,List.map_nil];show #[a5.tmps.getD 50 undef,a5.tmps.getD 51 undef,a5.tmps.getD 53 undef]=_;rw[e50,e51,e53]) (fn:=Tryz.f72) (by kernel_rfl) (by kernel_rfl) (by kernel_rfl) hins ?_
 rintro e w4 ⟨v4,rfl,hown4,hb4⟩
 refine⟨v4,rfl,?_⟩;rw[h62];have hb14:Below w1.heap.size w1 w4:=(hb2.trans (hb3.mono hb2.size)).trans hb4;obtain⟨R',hR1,hR2,hR3⟩:=hown4.rel (by exact hb14.size) R (fun b o hr=>Nat.lt_of_lt_of_le (hI.dom b o hr).1 hb14.size);have hI2:=hI.later hb14 hR1 hR2
 have hu:∀ d,d∈[50,51,52,53]->(ofL (riL x m th wr b k v i j++[(.tmp 49,.d (.z .int x.opn))])) (.tmp d)=.d .undef:=by
  intro d hd;simp only[List.mem_cons,List.not_mem_nil,or_false]at hd;rcases hd with rfl|rfl|rfl|rfl<;>rfl
 have hI3:=(((hI2.putAny (d:=50) (by decide) (by simp[mk]) (hu 50 (by simp)) v1).putAny (d:=51) (by decide) (by simp[mk]) (hu 51 (by simp)) (.int .i64 j)).putAny (d:=52) (by decide) (by simp[mk]) (hu 52 (by simp)) (.int .i64 i)).putAny (d:=53) (by decide) (by simp[mk]) (hu 53 (by simp)) (.slice (some ⟨w2.heap.size,0,none⟩) 1 1);rw[<-ha5]at hI3;have hI4:=hI3.put 54 (by decide) (by simp[mk]) (x:=.z .int (insL x.opn j i)) (v:=v4) (RelT.ofRel hR3)
 show wpOps _ _ _ (List.range' 7 [riOps[7],riOps[8],riOps[9]].length++[]) _ _;refine Yhl (C:=MF 82) Yav (fun _ _ _ h=>h) (ri_b x m th wr b k v i j (insL x.opn j i)) trivial (fun q o hq=>?_) ⟨β,σ,R',hI4⟩ fun a9 w9 hH9=>?_
 ·match q,hq with
  | 0,hq=>simp only[List.getElem?_cons_zero,Option.some.injEq]at hq;subst hq;exact Array.getElem?_eq_getElem _
  | 1,hq=>simp only[List.getElem?_cons_succ,List.getElem?_cons_zero,Option.some.injEq]at hq;subst hq;exact Array.getElem?_eq_getElem _
  | 2,hq=>simp only[List.getElem?_cons_succ,List.getElem?_cons_zero,Option.some.injEq]at hq;subst hq;exact Array.getElem?_eq_getElem _
 exact hQ .normal _ _ _ ⟨rfl,rfl⟩ hH9
end Go.Di
