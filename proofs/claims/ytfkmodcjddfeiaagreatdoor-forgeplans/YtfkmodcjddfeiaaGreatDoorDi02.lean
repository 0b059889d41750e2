/- Part 2: contracts are proved. No condition. -/
import Derived.Test.YtfkmodcjddfeiaaGreatDoorDi01
import Derived.Laws.NewFold
set_option linter.unusedVariables false
set_option linter.unusedSimpArgs false
namespace Go.Di
open Go.RowKit
theorem Zax {α β:Type}{p:α->β->Prop}:∀ {l:List α} {m:List β},All2 p l m->All2 p l (m.take l.length)
 | [],[],_=>trivial
 | _::_,_::_,⟨h1,h2⟩=>⟨h1,Zax h2⟩
 | [],_::_,h=>h.elim
 | _::_,[],h=>h.elim
def addF (R:Foot)(g lo hi:Nat):Foot:=fun b o=>R b o\/(b=g/\lo<=o/\o<hi)
theorem Ybc (w:World)(o:Obj):Below w.heap.size w (w.alloc o):=(Below.refl _ _).alloc (Nat.le_refl _) o
theorem Ygq (w:World):Below w.heap.size w w.drew:=(Below.refl _ _).drew
section
variable {C:Cfg} {w0 w:World} {R0 R:Foot} {a:Act} {s:St} {β:Nat->Nat} {σ:Sig}
theorem Inv.drew (h:Inv C w0 R0 a w s β σ R):Inv C w0 R0 a w.drew s β σ R :=
 h.later (Ygq w) (fun _ _ hr=>hr) (fun b o hr=>⟨(h.dom b o hr).1,.inl hr⟩)
theorem Inv.newBox0 (h:Inv C w0 R0 a w s β σ R)(d:Nat)(hn:s.bx d=none)(cs:List D)(arr:Array Value)(el:TypeId)(hc:All2 (RelTC σ s R w) cs (arr.toList.take cs.length)) :
  Inv C w0 R0 a (w.alloc (.cells arr el)) (s.set (.box d) (.bx (some ⟨false,cs⟩))) (fun i=>if i=d then w.heap.size else β i) σ R:=by
 have h1:Inv C w0 R0 a (w.alloc (.cells arr el)) s β σ R:=h.later (Ybc _ _) (fun _ _ hr=>hr) (fun b o hr=>⟨by have:=(h.dom b o hr).1;simp;omega,.inl hr⟩);have hk:Keeps R R w (w.alloc (.cells arr el)):=Keeps.of_below (fun _ _ hr=>hr) (fun b o hr=>(h.dom b o hr).1) (Ybc _ _)
 have hg:Grows β (fun i=>if i=d then w.heap.size else β i) σ σ s (s.set (.box d) (.bx (some ⟨false,cs⟩))) :=
  ⟨fun i b hb=>by
   have hne:i≠d:=fun e=>by rw[e,hn]at hb;cases hb
   refine⟨⟨b,?_⟩,by simp[hne]⟩;rw[Yba,if_neg (fun e=>hne e.symm)];exact hb,fun k o ho=>⟨o,ho,Nat.le_refl _,fun _=>rfl⟩,fun i m hm=>⟨⟨m,hm⟩,rfl⟩⟩
 have hlt0:=h.below.size;refine⟨h1.below,h1.defers,h1.fix,h1.nt,h1.sub,h1.dom,h1.glob,fun i=>RelT.grow hg _ _ (h1.tmps i),fun i b hb=>?_,fun i j bi bj hi hj e=>?_,fun k o ho=>?_,?_,h1.mps.same (fun _=>rfl) (fun _=>rfl)⟩
 ·rw[Yba]at hb
  by_cases e:d=i
  ·rw[if_pos e]at hb
   cases hb
   subst e;refine⟨by simp;omega,⟨arr,el,by rw[if_pos rfl];exact heap_alloc_new w _,fun hf=>(by cases hf),fun _=>(hc.imp (RelTC.world hk)).imp (RelTC.grow hg),fun hf=>(by cases hf)⟩,fun _ o hr=>?_⟩
   have:=(h.dom _ o hr).1
   simp at this
  ·rw[if_neg e]at hb;have e':i≠d:=fun x=>e x.symm;obtain⟨p1,⟨ar,e2,p2,p3,p4,p5⟩,p6⟩:=h1.box i b hb;refine⟨by simp only[e',if_false];exact p1,⟨ar,e2,by simp only[e',if_false];exact p2,p3,fun hf=>(p4 hf).imp (RelTC.grow hg),by simp only[e',if_false];exact p5⟩,by simp only[e',if_false];exact p6⟩
 ·rw[Yba]at hi hj
  by_cases e1:d=i
  ·by_cases e2:d=j
   ·exact e1.symm.trans e2
   ·rw[if_neg e2]at hj
    have:=h.box_lt hj
    simp only[e1.symm,if_true,show ¬j=d from fun x=>e2 x.symm,if_false]at e;omega
  ·by_cases e2:d=j
   ·rw[if_neg e1]at hi
    have:=h.box_lt hi
    simp only[e2.symm,if_true,show ¬i=d from fun x=>e1 x.symm,if_false]at e;omega
   ·rw[if_neg e1]at hi;rw[if_neg e2]at hj;simp only[show ¬i=d from fun x=>e1 x.symm,show ¬j=d from fun x=>e2 x.symm,if_false]at e;exact h.inj i j bi bj hi hj e
 ·obtain⟨p1,p2⟩:=h1.obj k o ho;refine⟨p1,fun hlt=>?_⟩;obtain⟨g,off,q1,q2,q3,q4,q5,q6⟩:=p2 hlt;refine⟨g,off,q1,q2,q3,fun i b hb=>?_,q5,q6⟩;rw[Yba]at hb
  by_cases e:d=i
  ·obtain⟨g',off',r1,r2,⟨ar,e2,r3,r4⟩,_⟩:=(h.obj k o ho).spare hlt;have hgl:=(Array.getElem?_eq_some_iff.1 r3).1;rw[q1]at r1
   cases r1
   simp only[e.symm,if_true];omega
  ·rw[if_neg e]at hb;simp only[show ¬i=d from fun x=>e x.symm,if_false];exact q4 i b hb
 ·have hbx:∀(i:Nat) (x:Box) (b:Nat),b<w.heap.size->(s.set (.box d) (.bx (some ⟨false,cs⟩))).bx i=some x->(∀ x',s.bx i=some x'->β i≠b)->(if i=d then w.heap.size else β i)≠b:=by
   intro i x b hlt hi hne;rw[Yba]at hi
   by_cases e:d=i
   ·simp only[e.symm,if_true];omega
   ·rw[if_neg e]at hi;simp only[show ¬i=d from fun x=>e x.symm,if_false];exact hne x hi
  refine⟨h1.far.sz,fun b hb=>?_,fun b hb=>?_⟩
  ·obtain⟨p1,p2,p3,p4⟩:=h1.far.ke b hb;obtain⟨p1',p2',p3',p4'⟩:=h.far.ke b hb;refine⟨p1,p2,fun i x hi hf=>?_,p4⟩;rw[Yba]at hi
   by_cases e:d=i
   ·simp only[e.symm,if_true];omega
   ·rw[if_neg e]at hi;simp only[show ¬i=d from fun x=>e x.symm,if_false];exact p3' i x hi hf
  ·obtain⟨p1,p2,p3,p4,p5⟩:=h1.far.no b hb;obtain⟨p1',p2',p3',p4',p5'⟩:=h.far.no b hb;exact⟨p1,p2,p3,fun i x hi=>hbx i x b p2' hi fun x' hx'=>p4' i x' hx',p5⟩
theorem Inv.newBox (h:Inv C w0 R0 a w s β σ R)(d:Nat)(hd:d<C.nt)(hfx:d∉C.fixed)(hn:s.bx d=none)(cs:List D)(arr:Array Value)(el:TypeId)(hc:All2 (RelTC σ s R w) cs arr.toList) :
  Inv C w0 R0 (a.put (some d) (.pointer (some ⟨w.heap.size,0,none⟩))) (w.alloc (.cells arr el)) ((s.set (.box d) (.bx (some ⟨false,cs⟩))).set (.tmp d) (.d (.ptr d 0))) (fun i=>if i=d then w.heap.size else β i) σ R:=by
 exact(h.newBox0 d hn cs arr el (Zax hc)).put d hd hfx ⟨⟨⟨false,cs⟩,by rw[Yba,if_pos rfl]⟩,by simp⟩
theorem Yq3 {w':World}{g:Nat}{arr arr':Array Value}{el:TypeId}(h1:w.heap[g]?=some (.cells arr el (0,0)))(h2:w'.heap[g]?=some (.cells arr' el (0,0)))
  (ho:∀ k,k≠g->w'.heap[k]?=w.heap[k]?) (hc:∀ o,R g o->arr'[o]?=arr[o]?):Keeps R R w w':=by
 refine⟨fun _ _ h=>h,fun b o u hr hu=>?_,fun b es c hr hm=>?_⟩
 ·by_cases e:b=g
  ·subst e;simp only[World.cell?,h1]at hu;simp only[World.cell?,h2];simp only[Option.isSome_none,Bool.false_eq_true,if_false]at hu ⊢;rw[hc o hr];exact hu
  ·simp only[World.cell?]at hu ⊢;rw[ho b e];exact hu
 ·by_cases e:b=g
  ·subst e;rw[h1]at hm;cases hm
  ·rw[ho b e];exact hm
theorem Inv.storeBox (h:Inv C w0 R0 a w s β σ R){i:Nat}{b:Box}(hb:s.bx i=some b)(hf:b.frozen=false){w':World}{arr arr':Array Value}{el:TypeId}(cs:List D)
  (h1:w.heap[β i]?=some (.cells arr el (0,0))) (h2:w'.heap[β i]?=some (.cells arr' el (0,0))) (ho:∀ k,k≠β i->w'.heap[k]?=w.heap[k]?)
  (hw:w'.os=w.os/\w'.tape=w.tape/\w'.output=w.output/\w'.heap.size=w.heap.size) (hc:All2 (RelTC σ s R w) cs (arr'.toList.take cs.length)) :
  Inv C w0 R0 a w' (s.set (.box i) (.bx (some ⟨false,cs⟩))) β σ R:=by
 have hfree:=(h.box i b hb).free hf;have hnew:=(h.box i b hb).new;have hk:Keeps R R w w':=Yq3 h1 h2 ho (fun o hr=>absurd hr (hfree o))
 have hg:Grows β β σ σ s (s.set (.box i) (.bx (some ⟨false,cs⟩))) :=
  ⟨fun j b' hb'=>⟨by
   rw[Yba]
   by_cases e:i=j
   ·exact⟨_,by rw[if_pos e]⟩
   ·exact⟨b',by rw[if_neg e];exact hb'⟩,rfl⟩,fun k o ho=>⟨o,ho,Nat.le_refl _,fun _=>rfl⟩,fun i m hm=>⟨⟨m,hm⟩,rfl⟩⟩
 refine⟨h.below.trans ⟨hw.1,hw.2.1,hw.2.2.1,by rw[hw.2.2.2];exact Nat.le_refl _,fun k hk'=>ho k (by omega)⟩,h.defers,h.fix,h.nt,h.sub,fun b o hr=>by rw[hw.2.2.2];exact h.dom b o hr,fun g cs hg'=>Rel.keep hk _ _ (h.glob g cs hg'),
  fun j=>RelT.grow hg _ _ (RelT.world hk _ _ (h.tmps j)),fun j b' hb'=>?_,fun j j' bj bj' hj hj' e=>?_,fun k o ho'=>?_,?_,h.mps.step (fun _ _ h=>h) (fun _ _ _=>rfl) (fun g ⟨es,c,hg'⟩ _=>ho g (fun e=>by rw[e,h1]at hg';cases hg')) (fun _ _ h=>h) (fun _ _ _ h=>h)⟩
 ·rw[Yba]at hb'
  by_cases e:i=j
  ·subst e;rw[if_pos rfl]at hb'
   cases hb'
   exact⟨hnew,⟨arr',el,h2,fun x=>(by cases x),fun _=>(hc.imp (RelTC.world hk)).imp (RelTC.grow hg),fun x=>(by cases x)⟩,fun _=>hfree⟩
  ·rw[if_neg e]at hb';have hne:β j≠β i:=fun x=>e (h.inj j i b' b hb' hb x).symm;obtain⟨p1,⟨ar,e2,p2,p3,p4,p5⟩,p6⟩:=h.box j b' hb';exact⟨p1,⟨ar,e2,by rw[ho _ hne];exact p2,fun x=>(p3 x).imp (RelC.keep hk),fun x=>((p4 x).imp (RelTC.world hk)).imp (RelTC.grow hg),p5⟩,p6⟩
 ·rw[Yba]at hj hj'
  have hj2:∃ x,s.bx j=some x:=by
   by_cases e:i=j
   ·exact⟨b,e▸hb⟩
   ·rw[if_neg e]at hj;exact⟨_,hj⟩
  have hj3:∃ x,s.bx j'=some x:=by
   by_cases e:i=j'
   ·exact⟨b,e▸hb⟩
   ·rw[if_neg e]at hj';exact⟨_,hj'⟩
  obtain⟨x,hx⟩:=hj2;obtain⟨y,hy⟩:=hj3;exact h.inj j j' x y hx hy e
 ·obtain⟨p1,p2⟩:=h.obj k o ho';refine⟨SlR.keep hk (fun x vs hx=>RelE.keep hk _ x vs hx) p1,fun hlt=>?_⟩;obtain⟨g,off,q1,q2,⟨ar,e2,q3,q3'⟩,q4,q5,q6⟩:=p2 hlt;have hne:g≠β i:=fun x=>q4 i b hb x.symm;refine⟨g,off,q1,q2,⟨ar,e2,by rw[ho _ hne];exact q3,q3'⟩,fun j bj hj=>?_,q5,q6⟩;rw[Yba]at hj
  by_cases e:i=j
  ·exact fun x=>q4 i b hb (e▸x)
  ·rw[if_neg e]at hj;exact q4 j bj hj
 ·refine⟨by rw[hw.2.2.2];exact h.far.sz,fun b' hb'=>?_,fun b' hb'=>?_⟩
  ·obtain⟨p1,p2,p3,p4⟩:=h.far.ke b' hb';refine⟨by rw[hw.2.2.2];exact p1,by rw[ho b' (fun e=>p3 i b hb hf e.symm)];exact p2,fun j x hj hfx=>?_,p4⟩;rw[Yba]at hj
   by_cases e:i=j
   ·subst e;exact p3 i b hb hf
   ·rw[if_neg e]at hj;exact p3 j x hj hfx
  ·obtain⟨p1,p2,p3,p4,p5⟩:=h.far.no b' hb';refine⟨p1,by rw[hw.2.2.2];exact p2,p3,fun j x hj=>?_,p5⟩;rw[Yba]at hj
   by_cases e:i=j
   ·subst e;exact p4 i b hb
   ·rw[if_neg e]at hj;exact p4 j x hj
theorem Inv.freeze (h:Inv C w0 R0 a w s β σ R){i:Nat}{b:Box}(hb:s.bx i=some b)(cs:List D)
  (hc:∀ arr el,w.heap[β i]?=some (.cells arr el (0,0))->All2 (RelC R w) cs (arr.toList.take cs.length)) :
  ∃ n,(∃ arr el,w.heap[β i]?=some (.cells arr el (0,0))/\arr.size=n)/\Inv C w0 R0 a w (s.set (.box i) (.bx (some ⟨true,cs⟩))) β σ (addF R (β i) 0 n):=by
 obtain⟨p1,⟨arr,el,p2,p3,p4,p5⟩,p6⟩:=h.box i b hb;have hlt:=h.box_lt hb;refine⟨arr.size,⟨arr,el,p2,rfl⟩,?_⟩;have hk:Keeps R (addF R (β i) 0 arr.size) w w:=⟨fun _ _ hr=>.inl hr,fun _ _ _ _ h=>h,fun _ _ _ _ h=>h⟩
 have hg:Grows β β σ σ s (s.set (.box i) (.bx (some ⟨true,cs⟩))) :=
  ⟨fun j b' hb'=>⟨by
   rw[Yba]
   by_cases e:i=j
   ·exact⟨_,by rw[if_pos e]⟩
   ·exact⟨b',by rw[if_neg e];exact hb'⟩,rfl⟩,fun k o ho=>⟨o,ho,Nat.le_refl _,fun _=>rfl⟩,fun i m hm=>⟨⟨m,hm⟩,rfl⟩⟩
 have hsome:∀ j bj,(s.set (.box i) (.bx (some ⟨true,cs⟩))).bx j=some bj->∃ x,s.bx j=some x:=by
  intro j bj hj;rw[Yba]at hj
  by_cases e:i=j
  ·exact⟨b,e▸hb⟩
  ·rw[if_neg e]at hj;exact⟨_,hj⟩
 refine⟨h.below,h.defers,h.fix,h.nt,fun b o hr=>.inl (h.sub b o hr),fun b' o hr=>?_,fun g cs hg'=>Rel.keep hk _ _ (h.glob g cs hg'),fun j=>RelT.grow hg _ _ (RelT.world hk _ _ (h.tmps j)),fun j b' hb'=>?_,fun j j' bj bj' hj hj' e=>?_,fun k o ho'=>?_,?_,h.mps.step (fun _ _ h=>h) (fun _ _ _=>rfl) (fun _ _ _=>rfl) (fun g ⟨es,c,hg'⟩ hR o hr=>hr.elim (hR o) fun hr=>by rw[hr.1,p2]at hg';cases hg') (fun _ _ _ h=>h)⟩
 ·rcases hr with hr|⟨rfl,_,_⟩
  ·exact h.dom b' o hr
  ·exact⟨hlt,.inr p1⟩
 ·by_cases e:i=j
  ·subst e;rw[Yba,if_pos rfl]at hb'
   cases hb'
   exact⟨p1,⟨arr,el,p2,fun _=>(hc arr el p2).imp (RelC.keep hk),fun x=>(by cases x),fun _ j hj=>.inr ⟨rfl,Nat.zero_le _,hj⟩⟩,fun x=>by cases x⟩
  ·rw[Yba,if_neg e]at hb';have hne:β j≠β i:=fun x=>e (h.inj j i b' b hb' hb x).symm;obtain⟨q1,⟨ar,e2,q2,q3,q4,q5⟩,q6⟩:=h.box j b' hb';refine⟨q1,⟨ar,e2,q2,fun x=>(q3 x).imp (RelC.keep hk),fun x=>((q4 x).imp (RelTC.world hk)).imp (RelTC.grow hg),fun x j' hj'=>.inl (q5 x j' hj')⟩,fun x o hr=>?_⟩;rcases hr with hr|⟨hr,_⟩
   ·exact q6 x o hr
   ·exact hne hr
 ·obtain⟨x,hx⟩:=hsome j bj hj;obtain⟨y,hy⟩:=hsome j' bj' hj';exact h.inj j j' x y hx hy e
 ·obtain⟨q1,q2⟩:=h.obj k o ho';refine⟨SlR.keep hk (fun x vs hx=>RelE.keep hk _ x vs hx) q1,fun hl=>?_⟩;obtain⟨g,off,r1,r2,r3,r4,r5,r6⟩:=q2 hl;refine⟨g,off,r1,r2,r3,fun j bj hj=>?_,r5,fun q hq hr=>?_⟩
  ·obtain⟨x,hx⟩:=hsome j bj hj;exact r4 j x hx
  ·rcases hr with hr|⟨hr,_⟩
   ·exact r6 q hq hr
   ·exact r4 i b hb hr.symm
 ·refine⟨h.far.sz,fun b' hb'=>?_,fun b' hb'=>?_⟩
  ·obtain⟨q1,q2,q3,q4⟩:=h.far.ke b' hb';refine⟨q1,q2,fun j x hj hfx=>?_,q4⟩;rw[Yba]at hj
   by_cases e:i=j
   ·rw[if_pos e]at hj;cases hj;cases hfx
   ·rw[if_neg e]at hj;exact q3 j x hj hfx
  ·obtain⟨q1,q2,q3,q4,q5⟩:=h.far.no b' hb';refine⟨q1,q2,fun o hr=>?_,fun j x hj=>?_,q5⟩
   ·rcases hr with hr|⟨hr,_⟩
    ·exact q3 o hr
    ·exact q4 i b hb hr.symm
   ·obtain⟨x',hx'⟩:=hsome j x hj;exact q4 j x' hx'
theorem Inv.newRow (h:Inv C w0 R0 a w s β σ R)(k:Nat)(e:E)(xs:List e.α)(arr:Array Value)(el:TypeId)(c:Nat)(hle:xs.length<=c)(hmax:c<=maxLen)(hsz:c*e.sz<=arr.size)
  (hold:∀ o,s.ob k=some o->o.xs.length<xs.length) (hmk:s.mp k=none)
  (hx:∀(i:Nat) (x:e.α),xs[i]?=some x->∃ vs:List Value,vs.length=e.sz/\RelE R w e x vs/\∀(j:Nat) (u:Value),vs[j]?=some u->arr[i*e.sz+j]?=some u) :
  Inv C w0 R0 a (w.alloc (.cells arr el)) (s.set (.obj k) (.ob (some ⟨e,xs⟩))) β (fun i=>if i=k then(some ⟨w.heap.size,0,none⟩,c) else σ i) (addF R w.heap.size 0 (xs.length*e.sz)):=by
 have h1:Inv C w0 R0 a (w.alloc (.cells arr el)) s β σ (addF R w.heap.size 0 (xs.length*e.sz)) :=
  h.later (Ybc _ _) (fun _ _ hr=>.inl hr) (fun b o hr=>by
   rcases hr with hr|⟨rfl,_,_⟩
   ·exact⟨by have:=(h.dom b o hr).1;simp;omega,.inl hr⟩
   ·exact⟨by simp,.inr (Nat.le_refl _)⟩)
 have hk:Keeps R (addF R w.heap.size 0 (xs.length*e.sz)) w (w.alloc (.cells arr el)):=Keeps.of_below (fun _ _ hr=>.inl hr) (fun b o hr=>(h.dom b o hr).1) (Ybc _ _);have hlt0:=h.below.size
 have hg:Grows β β σ (fun i=>if i=k then(some ⟨w.heap.size,0,none⟩,c) else σ i) s (s.set (.obj k) (.ob (some ⟨e,xs⟩))) :=
  ⟨fun i b hb=>⟨⟨b,hb⟩,rfl⟩,fun k' o ho=>by
   rw[Ya6]
   by_cases e1:k=k'
   ·subst e1
    have:=hold o ho
    exact⟨_,by rw[if_pos rfl],by simp only;omega,fun hn=>by simp only at hn;omega⟩
   ·exact⟨o,by rw[if_neg e1];exact ho,Nat.le_refl _,fun _=>by simp[show ¬k'=k from fun x=>e1 x.symm]⟩,
   fun i m hm=>⟨⟨m,hm⟩,if_neg (fun x=>by rw[x,hmk]at hm;cases hm)⟩⟩
 have hcell:∀ i (u:Value),arr[i]?=some u->(w.alloc (.cells arr el)).cell? ⟨w.heap.size,i,none⟩=some u:=fun i u hu=>by rw[World.cell?_alloc_new];exact hu
 refine⟨h1.below,h1.defers,h1.fix,h1.nt,h1.sub,h1.dom,h1.glob,fun i=>RelT.grow hg _ _ (h1.tmps i),fun i b hb=>?_,h1.inj,fun k' o ho=>?_,?_,h1.mps.step (fun _ _ h=>h) (fun i m hm=>if_neg (fun x=>by rw[x]at hm;exact absurd hm (by rw[hmk];simp))) (fun _ _ _=>rfl) (fun _ _ h=>h) (fun i m hm hn=>by
  rw[Ya6,if_neg (fun x=>by rw[<-x,hmk]at hm;cases hm)];exact hn)⟩
 ·obtain⟨p1,⟨ar,e2,p2,p3,p4,p5⟩,p6⟩:=h1.box i b hb;exact⟨p1,⟨ar,e2,p2,p3,fun hf=>(p4 hf).imp (RelTC.grow hg),p5⟩,p6⟩
 ·rw[Ya6]at ho
  by_cases e1:k=k'
  ·subst e1;rw[if_pos rfl]at ho
   cases ho
   refine⟨?_,fun hl=>?_⟩
   ·simp only[if_true];refine⟨_,c,rfl,hle,hmax,fun x=>by simp at x,fun _=>⟨w.heap.size,0,rfl,fun i x hi=>?_⟩⟩;obtain⟨vs,q1,q2,q3⟩:=hx i x hi;have hi':i<xs.length:=(List.getElem?_eq_some_iff.1 hi).1;refine⟨vs,q1,RelE.keep hk _ _ _ q2,fun j u hu=>?_⟩;have hj:j<e.sz:=by rw[<-q1];exact(List.getElem?_eq_some_iff.1 hu).1
    have hb:i*e.sz+j<xs.length*e.sz:=by
     have:(i+1)*e.sz<=xs.length*e.sz:=Nat.mul_le_mul_right _ hi'
     rw[Nat.add_mul]at this;omega
    rw[Nat.zero_add];exact⟨.inr ⟨rfl,Nat.zero_le _,hb⟩,hcell _ _ (q3 j u hu)⟩
   ·simp only[if_true]at hl ⊢;refine⟨w.heap.size,0,rfl,hlt0,⟨arr,el,heap_alloc_new w _,by simp only[Nat.zero_add];exact hsz⟩,fun i b hb=>?_,fun k'' o'' ho'' hne hl' a' ha'=>?_,fun q hq hr=>?_⟩
    ·have:=h.box_lt hb
     omega
    ·rw[Ya6,if_neg (fun x=>hne x.symm)]at ho'';simp only[if_neg hne]at hl' ha';obtain⟨g,off,r1,r2,⟨ar,e2,r3,_⟩,_⟩:=(h.obj k'' o'' ho'').spare hl'
     have:=(Array.getElem?_eq_some_iff.1 r3).1
     rw[r1]at ha'
     cases ha'
     simp only;omega
    ·rcases hr with hr|⟨_,_,hr⟩
     ·have:=(h.dom _ _ hr).1
      omega
     ·omega
  ·rw[if_neg e1]at ho;have e1':¬k'=k:=fun x=>e1 x.symm;obtain⟨p1,p2⟩:=h1.obj k' o ho;refine⟨by simp only[if_neg e1'];exact p1,fun hl=>?_⟩;simp only[if_neg e1']at hl ⊢;obtain⟨g,off,r1,r2,r3,r4,r5,r6⟩:=p2 hl;refine⟨g,off,r1,r2,r3,r4,fun k'' o'' ho'' hne hl' a' ha'=>?_,r6⟩;rw[Ya6]at ho''
   by_cases e2:k=k''
   ·subst e2;simp only[if_true]at ha'
    cases ha'
    obtain⟨g',off',q1,_,⟨ar,e3,q3,_⟩,_⟩:=(h.obj k' o ho).spare hl
    have:=(Array.getElem?_eq_some_iff.1 q3).1
    rw[r1]at q1
    cases q1
    simp only;omega
   ·rw[if_neg e2]at ho'';have e2':¬k''=k:=fun x=>e2 x.symm;simp only[if_neg e2']at hl' ha';exact r5 k'' o'' ho'' hne hl' a' ha'
 ·have hrow:∀(b:Nat),b<w.heap.size->(∀ k o,s.ob k=some o->o.xs.length<(σ k).2->∀ ad,(σ k).1=some ad->ad.block≠b)->∀ k' o',(s.set (.obj k) (.ob (some ⟨e,xs⟩))).ob k'=some o' ->
    o'.xs.length<(if k'=k then(some (⟨w.heap.size,0,none⟩:Addr),c) else σ k').2->∀ ad,(if k'=k then(some (⟨w.heap.size,0,none⟩:Addr),c) else σ k').1=some ad->ad.block≠b:=by
   intro b hlt hr k' o' ho' hl ad had;rw[Ya6]at ho'
   by_cases e1:k=k'
   ·subst e1;simp only[if_true]at had
    cases had
    simp only;omega
   ·rw[if_neg e1]at ho';have e1':¬k'=k:=fun x=>e1 x.symm;simp only[if_neg e1']at hl had;exact hr k' o' ho' hl ad had
  refine⟨h1.far.sz,fun b hb=>?_,fun b hb=>?_⟩
  ·obtain⟨p1,p2,p3,p4⟩:=h1.far.ke b hb;exact⟨p1,p2,p3,hrow b (h.far.ke b hb).1 (h.far.ke b hb).2.2.2⟩
  ·obtain⟨p1,p2,p3,p4,p5⟩:=h1.far.no b hb;exact⟨p1,p2,p3,p4,hrow b (h.far.no b hb).2.1 (h.far.no b hb).2.2.2.2⟩
theorem Inv.growRow (h:Inv C w0 R0 a w s β σ R)(k:Nat)(o:Ob)(ho:s.ob k=some o)(ys:List o.e.α){w':World}(g off:Nat)(arr arr':Array Value)(el:TypeId)
  (hA:(σ k).1=some ⟨g,off,none⟩) (hlt:o.xs.length<(σ k).2) (hroom:(o.xs++ys).length<=(σ k).2) (hys:ys≠[])
  (h1:w.heap[g]?=some (.cells arr el (0,0))) (h2:w'.heap[g]?=some (.cells arr' el (0,0))) (hsize:arr'.size=arr.size) (hoth:∀ k,k≠g->w'.heap[k]?=w.heap[k]?)
  (hw:w'.os=w.os/\w'.tape=w.tape/\w'.output=w.output/\w'.heap.size=w.heap.size)
  (hlow:∀ q,q<off+o.xs.length*o.e.sz->arr'[q]?=arr[q]?)
  (hx:∀(i:Nat) (x:o.e.α),ys[i]?=some x->∃ vs:List Value,vs.length=o.e.sz/\RelE R w o.e x vs/\∀(j:Nat) (u:Value),vs[j]?=some u->arr'[off+(o.xs.length+i)*o.e.sz+j]?=some u) :
  Inv C w0 R0 a w' (s.set (.obj k) (.ob (some ⟨o.e,o.xs++ys⟩))) β σ (addF R g (off+o.xs.length*o.e.sz) (off+(o.xs++ys).length*o.e.sz)):=by
 obtain⟨p1,p2⟩:=h.obj k o ho;obtain⟨g',off',q1,q2,⟨ar,e2,q3,q4⟩,q5,q6,q7⟩:=p2 hlt;rw[hA]at q1
 cases q1
 have hglt:g<w.heap.size:=(Array.getElem?_eq_some_iff.1 h1).1;have hpos:0<ys.length:=List.length_pos_iff.2 hys
 have hkR:Keeps R R w w':=Yq3 h1 h2 hoth (fun q hr=>by
  refine hlow q ?_;rcases Nat.lt_or_ge q (off+o.xs.length*o.e.sz) with hq|hq
  ·exact hq
  ·exact absurd hr (q7 q hq))
 have hk:Keeps R (addF R g (off+o.xs.length*o.e.sz) (off+(o.xs++ys).length*o.e.sz)) w w':=⟨fun _ _ hr=>.inl hr,hkR.cell,hkR.map⟩
 have hg:Grows β β σ σ s (s.set (.obj k) (.ob (some ⟨o.e,o.xs++ys⟩))) :=
  ⟨fun i b hb=>⟨⟨b,hb⟩,rfl⟩,fun k' o' ho'=>by
   rw[Ya6]
   by_cases e1:k=k'
   ·subst e1;rw[ho]at ho'
    cases ho'
    exact⟨_,by rw[if_pos rfl],by simp,fun _=>rfl⟩
   ·exact⟨o',by rw[if_neg e1];exact ho',Nat.le_refl _,fun _=>rfl⟩,fun i m hm=>⟨⟨m,hm⟩,rfl⟩⟩
 have hnf:∀(b o':Nat),addF R g (off+o.xs.length*o.e.sz) (off+(o.xs++ys).length*o.e.sz) b o'->b≠g->R b o':=by
  intro b o' hr hb;rcases hr with hr|⟨hr,_⟩
  ·exact hr
  ·exact absurd hr hb
 refine⟨h.below.trans ⟨hw.1,hw.2.1,hw.2.2.1,by rw[hw.2.2.2];exact Nat.le_refl _,fun i hi=>hoth i (by omega)⟩,h.defers,h.fix,h.nt,fun b o' hr=>.inl (h.sub b o' hr),fun b o' hr=>?_,fun g cs hg'=>Rel.keep hk _ _ (h.glob g cs hg'),
  fun i=>RelT.grow hg _ _ (RelT.world hk _ _ (h.tmps i)),fun i b hb=>?_,h.inj,fun k' o' ho'=>?_,?_,h.mps.step (fun _ _ h=>h) (fun _ _ _=>rfl) (fun g' ⟨es,c,hg'⟩ _=>hoth g' (fun e=>by rw[e,h1]at hg';cases hg')) (fun g' ⟨es,c,hg'⟩ hR o' hr=>hr.elim (hR o') fun hr=>by rw[hr.1,h1]at hg';cases hg') (fun i m hm hn=>by
  rw[Ya6,if_neg (fun x=>by rw[<-x,ho]at hn;cases hn)];exact hn)⟩
 ·rw[hw.2.2.2];rcases hr with hr|⟨rfl,_,_⟩
  ·exact h.dom b o' hr
  ·exact⟨hglt,.inr q2⟩
 ·have hne:β i≠g:=q5 i b hb;obtain⟨r1,⟨ar',e3,r2,r3,r4,r5⟩,r6⟩:=h.box i b hb;exact⟨r1,⟨ar',e3,by rw[hoth _ hne];exact r2,fun hf=>(r3 hf).imp (RelC.keep hk),fun hf=>((r4 hf).imp (RelTC.world hk)).imp (RelTC.grow hg),fun hf j hj=>.inl (r5 hf j hj)⟩,fun hf o' hr=>r6 hf o' (hnf _ _ hr hne)⟩
 ·rw[Ya6]at ho'
  by_cases e1:k=k'
  ·subst e1;rw[if_pos rfl]at ho'
   cases ho'
   refine⟨?_,fun hl=>?_⟩
   ·obtain⟨A,c,hv,s1,s2,s3,s4⟩:=SlR.keep hk (fun x vs hx=>RelE.keep hk o.e x vs hx) p1;injection hv with hv1 hv2 hv3;subst hv1 hv3;refine⟨_,_,rfl,hroom,s2,fun x=>by simp at x,fun _=>⟨g,off,hA,fun i x hi=>?_⟩⟩;rcases Nat.lt_or_ge i o.xs.length with hil|hil
    ·rw[List.getElem?_append_left hil]at hi;obtain⟨b',off'',hb',hc⟩:=s4 (by omega);rw[hA]at hb'
     cases hb'
     exact hc i x hi
    ·rw[List.getElem?_append_right hil]at hi;obtain⟨vs,t1,t2,t3⟩:=hx _ x hi;have hiy:i-o.xs.length<ys.length:=(List.getElem?_eq_some_iff.1 hi).1;refine⟨vs,t1,RelE.keep hk _ _ _ t2,fun j u hu=>?_⟩;have hj:j<o.e.sz:=by rw[<-t1];exact(List.getElem?_eq_some_iff.1 hu).1
     have e3:o.xs.length+(i-o.xs.length)=i:=by omega
     have t4:=t3 j u hu;rw[e3]at t4;have m1:(i+1)*o.e.sz<=(o.xs++ys).length*o.e.sz:=Nat.mul_le_mul_right _ (by simp;omega);have m2:o.xs.length*o.e.sz<=i*o.e.sz:=Nat.mul_le_mul_right _ hil;rw[Nat.add_mul]at m1;refine⟨.inr ⟨rfl,by dsimp only;omega,by dsimp only;omega⟩,?_⟩;simp only[World.cell?,h2,Option.isSome_none,Bool.false_eq_true,if_false];exact t4
   ·refine⟨g,off,hA,q2,⟨arr',el,h2,by rw[h1]at q3;cases q3;rw[hsize];exact q4⟩,q5,fun k'' o'' ho'' hne hl' a' ha'=>?_,fun q hq hr=>?_⟩
    ·rw[Ya6,if_neg (fun x=>hne x.symm)]at ho'';exact q6 k'' o'' ho'' hne hl' a' ha'
    ·dsimp only at hq
     rcases hr with hr|⟨_,_,hr⟩
     ·refine q7 q ?_ hr
      have:o.xs.length*o.e.sz<=(o.xs++ys).length*o.e.sz:=Nat.mul_le_mul_right _ (by simp)
      omega
     ·omega
  ·rw[if_neg e1]at ho';obtain⟨r1,r2⟩:=h.obj k' o' ho';refine⟨SlR.keep hk (fun x vs hx=>RelE.keep hk _ x vs hx) r1,fun hl=>?_⟩;obtain⟨g2,off2,t1,t2,⟨ar',e3,t3,t3'⟩,t4,t5,t6⟩:=r2 hl
   have hne:g2≠g:=fun x=>by
    have:=q6 k' o' ho' (fun x=>e1 x.symm) hl _ t1
    exact this x
   refine⟨g2,off2,t1,t2,⟨ar',e3,by rw[hoth _ hne];exact t3,t3'⟩,t4,fun k'' o'' ho'' hne' hl' a' ha'=>?_,fun q hq hr=>t6 q hq (hnf _ _ hr hne)⟩;rw[Ya6]at ho''
   by_cases e2:k=k''
   ·subst e2;rw[hA]at ha'
    cases ha'
    exact fun x=>hne x.symm
   ·rw[if_neg e2]at ho'';exact t5 k'' o'' ho'' hne' hl' a' ha'
 ·have hrow:∀(b:Nat),(∀ k o,s.ob k=some o->o.xs.length<(σ k).2->∀ ad,(σ k).1=some ad->ad.block≠b)->∀ k' o',(s.set (.obj k) (.ob (some ⟨o.e,o.xs++ys⟩))).ob k'=some o' ->
    o'.xs.length<(σ k').2->∀ ad,(σ k').1=some ad->ad.block≠b:=by
   intro b hr k' o' ho' hl ad had;rw[Ya6]at ho'
   by_cases e1:k=k'
   ·subst e1;exact hr k o ho hlt ad had
   ·rw[if_neg e1]at ho';exact hr k' o' ho' hl ad had
  refine⟨by rw[hw.2.2.2];exact h.far.sz,fun b hb=>?_,fun b hb=>?_⟩
  ·obtain⟨p1,p2,p3,p4⟩:=h.far.ke b hb;have hgb:g≠b:=p4 k o ho hlt _ hA;exact⟨by rw[hw.2.2.2];exact p1,by rw[hoth b (fun e=>hgb e.symm)];exact p2,p3,hrow b p4⟩
  ·obtain⟨p1,p2,p3,p4,p5⟩:=h.far.no b hb;have hgb:g≠b:=p5 k o ho hlt _ hA;refine⟨p1,by rw[hw.2.2.2];exact p2,fun o' hr=>?_,p4,hrow b p5⟩;rcases hr with hr|⟨hr,_⟩
   ·exact p3 o' hr
   ·exact hgb hr.symm
end
end Go.Di
namespace Go.Di
open Go.RowKit
structure TIok (P:Program) (tt:TypeId->Option TI) (t:TypeId) (ti:TI):Prop where
 eqok:ti.eq=true->P.eqGuardType P.depth t=false/\∀(w:World) (xs ys:List Int),xs.length=ti.sz->ys.length=ti.sz->(Op.equal t (.agg (xs.map (Value.int .i64)).toArray) (.agg (ys.map (Value.int .i64)).toArray)).run P w=.ok (eqI xs ys) w
 info:∃ i z,P.info? t=some i/\i.size=ti.sz/\i.bytes=ti.bytes/\i.zero=some z/\ti.zero.length=ti.sz/\∀(R:Foot) (w:World),All2 (RelC0 R w) ti.zero z.cells.toList
 und:match ti.k with
  | .int k=>P.underlying t=some (.int k)
  | .bool=>P.underlying t=some .bool
  | .struct fs => ∃ fields : Array Field,P.underlying t = some (.struct fields) /\ (∀ (i : Nat) (f : Field),fields[i]? = some f -> fs[i]? = some (f.offset,f.type) /\ ∃ tf,tt f.type = some tf) /\ fields.size = fs.length /\ (∀ f ∈ fields.toList,f.name ≠ "_") /\ P.stoodInHeld t = false
  | .array n el=>P.underlying t=some (.array n el)/\∃ te,tt el=some te
  | .slice el=>P.underlying t=some (.slice el)/\∃ te,tt el=some te
  | .map kt et _=>P.underlying t=some (.map kt et)
  | .other=>∃ d,P.underlying t=some d/\(∀ fs,d≠.struct fs)/\(∀ n e,d≠.array n e)
 zer:∀ i z,P.info? t=some i->i.zero=some z->ti.agg=false->z.cells=#[z]
def Ybu (P:Program)(tt:TypeId->Option TI):Prop:=∀ t ti,tt t=some ti->TIok P tt t ti
structure Contract (P:Program) (glob:Nat->Option (List D)) (f:FuncId) (args:List D) (r:D):Prop where
 form : ∃ fn,P.funcs[f]? = some fn /\ (fn.name == "runtime.NumGoroutine") = false /\ fn.body.isNone = false
 calls:∀(w:World) (R:Foot) (vs:List Value),(∀ b o,R b o->b<w.heap.size)->(∀ g cs,glob g=some cs->Rel R w (.ref cs 0) (.pointer (some ⟨g,0,none⟩)))->All2 (Rel R w) args vs ->
  Calls P f vs.toArray w fun e w'=>∃ v,e=.returned v/\Below w.heap.size w w'/\∃ R':Foot,(∀ b o,R b o->R' b o)/\(∀ b o,R' b o->b<w'.heap.size/\(R b o\/w.heap.size<=b))/\Rel R' w' r v
section
variable {P:Program} {C:Cfg} {w0 w:World} {R0 R:Foot} {a:Act} {s:St} {β:Nat->Nat} {σ:Sig}
theorem RelC.of0:∀ {d:D} {v:Value},RelC0 R w d v->RelC R w d v
 | .int _ _,_,h=>h|.bool _,_,h=>h|.nil,_,h=>h|.nilmap,_,h=>h|.nilfn,_,h=>h|.sl _ _ _,_,h=>h|.map _,_,h=>h
 | .undef,_,h=>h.elim|.fn _ _ _,_,h=>h.elim|.own _ _,_,h=>h.elim|.ptr _ _,_,h=>h.elim|.ref _ _,_,h=>h.elim|.agg _,_,h=>h.elim|.tup _,_,h=>h.elim|.mref _,_,h=>h.elim|.row _ _,_,h=>h.elim|.self _ _ _,_,h=>h.elim
theorem RelTC.of0:∀ {d:D} {v:Value},RelC0 R w d v->RelTC σ s R w d v
 | .int _ _,_,h=>h|.bool _,_,h=>h|.nil,_,h=>h|.nilmap,_,h=>h|.nilfn,_,h=>h|.sl _ _ _,_,h=>h|.map _,_,h=>h
 | .undef,_,h=>h.elim|.fn _ _ _,_,h=>h.elim|.own _ _,_,h=>h.elim|.ptr _ _,_,h=>h.elim|.ref _ _,_,h=>h.elim|.agg _,_,h=>h.elim|.tup _,_,h=>h.elim|.mref _,_,h=>h.elim|.row _ _,_,h=>h.elim|.self _ _ _,_,h=>h.elim
theorem RelTC.ofC:∀ {d:D} {v:Value},RelC R w d v->RelTC σ s R w d v
 | .int _ _,_,h=>h|.bool _,_,h=>h|.nil,_,h=>h|.nilmap,_,h=>h|.nilfn,_,h=>h|.sl _ _ _,_,h=>h|.map _,_,h=>h
 | .undef,_,h=>h.elim|.fn _ _ _,_,h=>h|.own _ _,_,h=>h.elim|.ptr _ _,_,h=>h.elim|.ref _ _,_,h=>h.elim|.agg _,_,h=>h.elim|.tup _,_,h=>h.elim|.mref _,_,h=>h.elim|.row _ _,_,h=>h.elim|.self _ _ _,_,h=>h
theorem RelT.ofTC:∀ {d:D} {v:Value},RelTC σ s R w d v->RelT β σ s R w d v
 | .int _ _,_,h=>h|.bool _,_,h=>h|.nil,_,h=>h|.nilmap,_,h=>h|.nilfn,_,h=>h|.sl _ _ _,_,h=>h|.map _,_,h=>h
 | .undef,_,h=>h.elim|.fn _ _ _,_,h=>h|.own _ _,_,h=>h|.ptr _ _,_,h=>h.elim|.ref _ _,_,h=>h.elim|.agg _,_,h=>h.elim|.tup _,_,h=>h.elim|.mref _,_,h=>h|.row _ _,_,h=>h.elim|.self _ _ _,_,h=>h
theorem RelT.ofRel:∀ {d:D} {v:Value},Rel R w d v->RelT β σ s R w d v
 | .int _ _,_,h=>h|.bool _,_,h=>h|.nil,_,h=>h|.nilmap,_,h=>h|.nilfn,_,h=>h|.sl _ _ _,_,h=>h|.map _,_,h=>h
 | .undef,_,h=>h.elim|.fn _ _ _,_,h=>h|.own _ _,_,h=>h.elim|.ptr _ _,_,h=>h.elim|.ref _ _,_,h=>h|.mref _,_,h=>h.elim|.row _ _,_,h=>h.elim|.self _ _ _,_,h=>h
 | .agg _,_,⟨vs,hv,h⟩=>⟨vs,hv,h.imp fun _ _=>RelTC.ofC⟩|.tup _,_,h=>h
theorem RelT.ofA:∀ {d:D} {v:Value},RelA R w d v->RelT β σ s R w d v
 | .int _ _,_,h=>h|.bool _,_,h=>h|.nil,_,h=>h|.nilmap,_,h=>h|.nilfn,_,h=>h|.sl _ _ _,_,h=>h|.map _,_,h=>h
 | .undef,_,h=>h.elim|.fn _ _ _,_,h=>h|.own _ _,_,h=>h.elim|.ptr _ _,_,h=>h.elim|.ref _ _,_,h=>h.elim|.mref _,_,h=>h.elim|.row _ _,_,h=>h.elim|.self _ _ _,_,h=>h
 | .agg _,_,⟨vs,hv,h⟩=>⟨vs,hv,h.imp fun _ _=>RelTC.ofC⟩|.tup _,_,h=>h.elim
theorem Zng {v:Value}{d:D}(h:Zvh v=some d):RelT β σ s R w d v:=by
 unfold Zvh at h
 split at h<;>cases h<;>rfl
theorem Ybx (hI:Inv C w0 R0 a w s β σ R){x:Operand}{k:D->M}{wr:List (Key×Val)}(h:(opd C x k).Ok s wr):∃ d,(k d).Ok s wr/\RelT β σ s R w d (a.eval x):=by
 cases x with
 | tmp t =>
  simp only[opd,M.Ok]at h
  cases hv:s (.tmp t) with
  | d d =>
   rw[hv]at h;refine⟨d,h,?_⟩
   have:=hI.tmps t
   simp only[St.tmp,hv]at this;exact this
  | bx b=>rw[hv]at h;exact h.elim
  | ob o=>rw[hv]at h;exact h.elim
  | mp o=>rw[hv]at h;exact h.elim
  | rw o=>rw[hv]at h;exact h.elim
 | const v =>
  simp only[opd]at h
  split at h
  ·rename_i d hd;exact⟨d,h,Zng hd⟩
  ·exact h.elim
 | global g =>
  simp only[opd]at h
  split at h
  ·rename_i cs hg;exact⟨.ref cs 0,h,hI.glob g cs hg⟩
  ·exact h.elim
 | func f=>exact⟨.fn f [] [],h,⟨#[],#[],rfl,trivial,trivial⟩⟩
theorem Yig (hI:Inv C w0 R0 a w s β σ R):∀ {l:List Operand} {k:List D->M} {wr:List (Key×Val)},(opds C l k).Ok s wr->∃ ds,(k ds).Ok s wr/\All2 (RelT β σ s R w) ds (l.map a.eval)
 | [],k,wr,h=>⟨[],h,trivial⟩
 | x::l,k,wr,h=>by
  obtain⟨d,h1,h2⟩:=Ybx hI h;obtain⟨ds,h3,h4⟩:=Yig hI h1;exact⟨d::ds,h3,h2,h4⟩
theorem Zwt {tt:TypeId->Option TI}{t:TypeId}:∀ {d:D} {v:Value},RelTC σ s R w d v->RelTC σ s R w (Ydy tt t d) v
 | .nil,v,h=>by
  have h':v=.slice none 0 0:=h
  cases he:elt tt t with
  | none=>simp only[Ydy,he];exact h
  | some p =>
   obtain⟨e,b⟩:=p;simp only[Ydy,he];subst h';exact Yoi _ _ _ _ _
 | .int _ _,_,h=>h|.bool _,_,h=>h|.nilmap,_,h=>h|.nilfn,_,h=>h|.sl _ _ _,_,h=>h|.map _,_,h=>h
 | .undef,_,h=>h|.fn _ _ _,_,h=>h|.own _ _,_,h=>h|.ptr _ _,_,h=>h|.ref _ _,_,h=>h|.agg _,_,h=>h|.tup _,_,h=>h|.mref _,_,h=>h|.row _ _,_,h=>h|.self _ _ _,_,h=>h
theorem Ydg {tt:TypeId->Option TI}{t:TypeId}:∀ {d:D} {v:Value},RelT β σ s R w d v->RelT β σ s R w (Ydy tt t d) v
 | .nil,v,h=>by
  have h':v=.slice none 0 0:=h
  cases he:elt tt t with
  | none=>simp only[Ydy,he];exact h
  | some p =>
   obtain⟨e,b⟩:=p;simp only[Ydy,he];subst h';exact Yoi _ _ _ _ _
 | .int _ _,_,h=>h|.bool _,_,h=>h|.nilmap,_,h=>h|.nilfn,_,h=>h|.sl _ _ _,_,h=>h|.map _,_,h=>h
 | .undef,_,h=>h|.fn _ _ _,_,h=>h|.own _ _,_,h=>h|.ptr _ _,_,h=>h|.ref _ _,_,h=>h|.agg _,_,h=>h|.tup _,_,h=>h|.mref _,_,h=>h|.row _ _,_,h=>h|.self _ _ _,_,h=>h
theorem Zs1 {k:Nat}{o:Ob}(h:s (.obj k)=.ob (some o)):s.ob k=some o:=by simp[St.ob,h]
theorem Xdd {k:Nat}{zs:List Int}(h:s (.box k)=.rw zs):s.bx k=some ⟨false,intC zs⟩:=by simp[St.bx,h]
theorem Zn7 {k:Nat}{o:Option Box}(h:s (.box k)=.bx o):s.bx k=o:=by simp[St.bx,h]
theorem Yyr (hI:Inv C w0 R0 a w s β σ R){k:Nat}{o:Ob}(ho:s.ob k=some o){n:Nat}{v:Value}(hn:n=o.xs.length)(hv:RelTC σ s R w (.own k n) v):SlR (RelE R w o.e) o.e.sz R w false o.xs v:=by
 obtain⟨o',h1,_,h2⟩:=hv;rw[ho]at h1
 cases h1
 rw[h2 hn,hn];exact(hI.obj k o ho).sl
theorem Ytk (hI:Inv C w0 R0 a w s β σ R){k:D->M}{wr:List (Key×Val)}:∀ {d:D} {v:Value},(Ynn d k).Ok s wr->RelTC σ s R w d v->∃ d',(k d').Ok s wr/\RelC R w d' v
 | .own i n,v,h,hr=>by
  simp only[Ynn,M.Ok]at h
  split at h
  ·rename_i o ho;exact⟨_,h.2,Yyr hI (Zs1 ho) h.1 hr⟩
  ·exact h.elim
 | .int _ _,_,h,hr=>⟨_,h,hr⟩|.bool _,_,h,hr=>⟨_,h,hr⟩|.nil,_,h,hr=>⟨_,h,hr⟩|.nilmap,_,h,hr=>⟨_,h,hr⟩|.nilfn,_,h,hr=>⟨_,h,hr⟩
 | .sl _ _ _,_,h,hr=>⟨_,h,hr⟩|.map _,_,h,hr=>⟨_,h,hr⟩|.fn _ _ _,_,h,hr=>⟨_,h,hr⟩|.self _ _ _,_,h,hr=>⟨_,h,hr⟩
 | .undef,_,h,_=>h.elim|.ptr _ _,_,h,_=>h.elim|.ref _ _,_,h,_=>h.elim|.agg _,_,h,_=>h.elim|.tup _,_,h,_=>h.elim|.mref _,_,h,_=>h.elim|.row _ _,_,h,_=>h.elim
theorem Yid (hI:Inv C w0 R0 a w s β σ R):∀ {cs:List D} {k:List D->M} {wr:List (Key×Val)} {vs:List Value},(Yie cs k).Ok s wr->All2 (RelTC σ s R w) cs vs->∃ cs',(k cs').Ok s wr/\All2 (RelC R w) cs' vs
 | [],k,wr,[],h,_=>⟨[],h,trivial⟩
 | d::cs,k,wr,v::vs,h,⟨h1,h2⟩=>by
  obtain⟨d',h3,h4⟩:=Ytk hI h h1;obtain⟨cs',h5,h6⟩:=Yid hI h3 h2;exact⟨d'::cs',h5,h4,h6⟩
 | [],_,_,_::_,_,h=>h.elim
 | _::_,_,_,[],_,h=>h.elim
theorem Zyd:∀ {d:D} {v:Value},RelC R w d v->Rel R w d v
 | .int _ _,_,h=>h|.bool _,_,h=>h|.nil,_,h=>h|.nilmap,_,h=>h|.nilfn,_,h=>h|.sl _ _ _,_,h=>h|.map _,_,h=>h|.fn _ _ _,_,h=>h|.self _ _ _,_,h=>h
 | .undef,_,h=>h.elim|.own _ _,_,h=>h.elim|.ptr _ _,_,h=>h.elim|.ref _ _,_,h=>h.elim|.agg _,_,h=>h.elim|.tup _,_,h=>h.elim|.mref _,_,h=>h.elim|.row _ _,_,h=>h.elim
theorem Yqr (hI:Inv C w0 R0 a w s β σ R){k:D->M}{wr:List (Key×Val)}:∀ {d:D} {v:Value},(Zgk d k).Ok s wr->RelT β σ s R w d v->∃ d',(k d').Ok s wr/\Rel R w d' v
 | .agg cs,v,h,⟨vs,hv,hr⟩=>by
  obtain⟨cs',h1,h2⟩:=Yid hI h hr;exact⟨_,h1,vs,hv,h2⟩
 | .ref cs o,v,h,hr=>⟨_,h,hr⟩
 | .own i n,v,h,hr=>by
  obtain⟨d',h1,h2⟩:=Ytk hI (d:=.own i n) h hr;exact⟨d',h1,Zyd h2⟩
 | .int _ _,_,h,hr=>⟨_,h,hr⟩|.bool _,_,h,hr=>⟨_,h,hr⟩|.nil,_,h,hr=>⟨_,h,hr⟩|.nilmap,_,h,hr=>⟨_,h,hr⟩|.nilfn,_,h,hr=>⟨_,h,hr⟩
 | .sl _ _ _,_,h,hr=>⟨_,h,hr⟩|.map _,_,h,hr=>⟨_,h,hr⟩|.fn _ _ _,_,h,hr=>⟨_,h,hr⟩|.self _ _ _,_,h,hr=>⟨_,h,hr⟩
 | .undef,_,h,_=>h.elim|.ptr _ _,_,h,_=>h.elim|.tup _,_,h,_=>h.elim|.mref _,_,h,_=>h.elim|.row _ _,_,h,_=>h.elim
theorem Ykd (hI:Inv C w0 R0 a w s β σ R):∀ {ds:List D} {k:List D->M} {wr:List (Key×Val)} {vs:List Value},(Yqq ds k).Ok s wr->All2 (RelT β σ s R w) ds vs->∃ ds',(k ds').Ok s wr/\All2 (Rel R w) ds' vs
 | [],k,wr,[],h,_=>⟨[],h,trivial⟩
 | d::cs,k,wr,v::vs,h,⟨h1,h2⟩=>by
  obtain⟨d',h3,h4⟩:=Yqr hI h h1;obtain⟨cs',h5,h6⟩:=Ykd hI h3 h2;exact⟨d'::cs',h5,h4,h6⟩
 | [],_,_,_::_,_,h=>h.elim
 | _::_,_,_,[],_,h=>h.elim
theorem Ykp (hI:Inv C w0 R0 a w s β σ R){k:(e:E)->List e.α->M}{wr:List (Key×Val)}:∀ {d:D} {v:Value},(Zad d k).Ok s wr->RelT β σ s R w d v->∃(e:E) (xs:List e.α),(k e xs).Ok s wr/\SlR (RelE R w e) e.sz R w false xs v
 | .own i n,v,h,hr=>by
  simp only[Zad,M.Ok]at h
  split at h
  ·rename_i o ho;exact⟨_,_,h.2,Yyr hI (Zs1 ho) h.1 hr⟩
  ·exact h.elim
 | .sl f e xs,v,h,hr=>⟨e,xs,h,Yi3 hr⟩
 | .int _ _,_,h,_=>h.elim|.bool _,_,h,_=>h.elim|.nil,_,h,_=>h.elim|.nilmap,_,h,_=>h.elim|.nilfn,_,h,_=>h.elim|.map _,_,h,_=>h.elim|.fn _ _ _,_,h,_=>h.elim|.self _ _ _,_,h,_=>h.elim
 | .undef,_,h,_=>h.elim|.ptr _ _,_,h,_=>h.elim|.ref _ _,_,h,_=>h.elim|.agg _,_,h,_=>h.elim|.tup _,_,h,_=>h.elim|.mref _,_,h,_=>h.elim|.row _ _,_,h,_=>h.elim
theorem Ybn (hI:Inv C w0 R0 a w s β σ R){s':St}{dst:Option Tmp}{d:D}{wr:List (Key×Val)}(h:(setTmp C dst d).Ok s' wr){v:Value}(hv:RelT β σ s R w d v):Inv C w0 R0 (a.put dst v) w (s.apply wr) β σ R:=by
 cases dst with
 | none =>
  simp only[setTmp,M.Ok]at h;subst h;exact hI
 | some t =>
  simp only[setTmp]at h
  split at h
  ·rename_i ht;obtain⟨wr',rfl,rfl⟩:=h;exact hI.put t (Zsw ht) (Zsx ht) hv
  ·exact h.elim
theorem Yfa:∀ {d:D} {v:Value},RelC0 R w d v->v.oneCell'=true
 | .int _ _,_,h=>by rw[show _=_ from h];rfl
 | .bool _,_,h=>by rw[show _=_ from h];rfl
 | .nil,_,h=>by rw[show _=_ from h];rfl
 | .nilmap,_,h=>by rw[show _=_ from h];rfl
 | .nilfn,_,h=>by rw[show _=_ from h];rfl
 | .sl _ _ _,_,⟨A,c,hv,_⟩=>by rw[hv];rfl
 | .map _,_,⟨r,es,cl,hv,_⟩=>by rw[hv];rfl
 | .undef,_,h=>h.elim|.fn _ _ _,_,h=>h.elim|.own _ _,_,h=>h.elim|.ptr _ _,_,h=>h.elim|.ref _ _,_,h=>h.elim|.agg _,_,h=>h.elim|.tup _,_,h=>h.elim|.mref _,_,h=>h.elim|.row _ _,_,h=>h.elim|.self _ _ _,_,h=>h.elim
theorem Ye4:∀ {d:D} {v:Value},RelC R w d v->v.oneCell'=true
 | .fn _ _ _,_,⟨fs,cs,hv,_⟩=>by rw[hv];rfl
 | .self _ _ _,_,⟨⟨fs,cs,hv⟩,_⟩=>by rw[hv];rfl
 | .int k n,v,h=>Yfa (R:=R) (w:=w) (d:=.int k n) h|.bool b,v,h=>Yfa (R:=R) (w:=w) (d:=.bool b) h|.nil,v,h=>Yfa (R:=R) (w:=w) (d:=.nil) h
 | .nilmap,v,h=>Yfa (R:=R) (w:=w) (d:=.nilmap) h|.nilfn,v,h=>Yfa (R:=R) (w:=w) (d:=.nilfn) h
 | .sl f e xs,v,h=>Yfa (R:=R) (w:=w) (d:=.sl f e xs) h|.map m,v,h=>Yfa (R:=R) (w:=w) (d:=.map m) h
 | .undef,_,h=>h.elim|.own _ _,_,h=>h.elim|.ptr _ _,_,h=>h.elim|.ref _ _,_,h=>h.elim|.agg _,_,h=>h.elim|.tup _,_,h=>h.elim|.mref _,_,h=>h.elim|.row _ _,_,h=>h.elim
theorem Zaq {v:Value}(h:v.oneCell'=true):v.cells=#[v]:=by
 cases v<;>first|rfl|(simp[Value.oneCell']at h)
theorem Zvo (hI:Inv C w0 R0 a w s β σ R){m:M}{wr:List (Key×Val)}:∀ {cs:List D} {vs:List Value},(chk cs m).Ok s wr->All2 (RelTC σ s R w) cs vs->m.Ok s wr/\∀ u∈vs,u.oneCell'=true
 | [],[],h,_=>⟨h,fun u hu=>by cases hu⟩
 | [],_::_,_,h=>h.elim
 | _::_,[],_,h=>h.elim
 | d::cs,v::vs,h,⟨h1,h2⟩=>by
  have key:(chk cs m).Ok s wr/\v.oneCell'=true:=by
   cases d with
   | own i n =>
    simp only[chk,M.Ok]at h
    split at h
    ·rename_i o ho;obtain⟨A,c,hv,_⟩:=Yyr hI (Zs1 ho) h.1 h1;exact⟨h.2,by rw[hv];rfl⟩
    ·exact h.elim
   | int k n=>exact⟨h,Ye4 (R:=R) (w:=w) (d:=.int k n) h1⟩
   | bool b=>exact⟨h,Ye4 (R:=R) (w:=w) (d:=.bool b) h1⟩
   | nil=>exact⟨h,Ye4 (R:=R) (w:=w) (d:=.nil) h1⟩
   | nilmap=>exact⟨h,Ye4 (R:=R) (w:=w) (d:=.nilmap) h1⟩
   | nilfn=>exact⟨h,Ye4 (R:=R) (w:=w) (d:=.nilfn) h1⟩
   | sl f e xs=>exact⟨h,Ye4 (R:=R) (w:=w) (d:=.sl f e xs) h1⟩
   | map mm=>exact⟨h,Ye4 (R:=R) (w:=w) (d:=.map mm) h1⟩
   | mref i =>
    obtain⟨_,ad,_,hv⟩:=h1;exact⟨h,by rw[hv];rfl⟩
   | fn f x y=>exact⟨h,Ye4 (R:=R) (w:=w) (d:=.fn f x y) h1⟩
   | self f x y=>exact⟨h,Ye4 (R:=R) (w:=w) (d:=.self f x y) h1⟩
   | undef=>exact h.elim
   | ptr i n=>exact h.elim
   | ref x y=>exact h.elim
   | agg x=>exact h.elim
   | tup x=>exact h.elim
   | row x y=>exact h.elim
  obtain⟨p,q⟩:=Zvo hI key.1 h2
  exact⟨p,fun u hu=>by
   rcases List.mem_cons.1 hu with rfl|hu
   ·exact key.2
   ·exact q u hu⟩
theorem Ywo (hI:Inv C w0 R0 a w s β σ R){d:D}{v:Value}{m:M}{wr:List (Key×Val)}(hc:(chk (cellsOf d) m).Ok s wr)(hr:RelT β σ s R w d v) :
  m.Ok s wr/\All2 (RelTC σ s R w) (cellsOf d) v.cells.toList/\∀ u∈v.cells.toList,u.oneCell'=true:=by
 have one:∀(x:D),cellsOf d=[x]->RelTC σ s R w x v->m.Ok s wr/\All2 (RelTC σ s R w) (cellsOf d) v.cells.toList/\∀ u∈v.cells.toList,u.oneCell'=true:=by
  intro x hx hxr;rw[hx]at hc;obtain⟨h1,h2⟩:=Zvo hI (vs:=[v]) hc ⟨hxr,trivial⟩;have h3:=h2 v (by simp);rw[Zaq h3,hx];exact⟨h1,⟨hxr,trivial⟩,h2⟩
 cases d with
 | agg cs =>
  obtain⟨vs,rfl,h⟩:=hr;obtain⟨h1,h2⟩:=Zvo hI hc h;exact⟨h1,h,h2⟩
 | own i n=>exact one _ rfl hr
 | int k n=>exact one _ rfl hr
 | bool b=>exact one _ rfl hr
 | nil=>exact one _ rfl hr
 | nilmap=>exact one _ rfl hr
 | nilfn=>exact one _ rfl hr
 | sl f e xs=>exact one _ rfl hr
 | map mm=>exact one _ rfl hr
 | mref i=>exact one _ rfl hr
 | fn f x y=>exact one _ rfl hr
 | self f x y=>exact one _ rfl hr
 | undef=>exact hc.elim
 | ptr i n=>exact hc.elim
 | ref x y=>exact hc.elim
 | tup x=>exact hc.elim
 | row x y=>exact hc.elim
theorem Ycd {o:Oper}{v:Value}{w':World}{K:Act->World->Prop}{Q:Exit->Act->World->Prop}(h:(execOp a.eval o).run P w=.ok (.value v) w')(hK:K (a.put o.dst v) w'):o.wp P a w K Q:=by
 unfold Oper.wp;rw[h];exact hK
theorem Yul {o:Oper}{w':World}{K:Act->World->Prop}{Q:Exit->Act->World->Prop}(h:(execOp a.eval o).run P w=.ok .skip w')(hK:K (a.put o.dst undef) w'):o.wp P a w K Q:=by
 unfold Oper.wp;rw[h];exact hK
theorem Yzf {t:TypeId}{ti:TI}(hT:TIok P C.tt t ti):(isAgg t).run P w=.ok ti.agg w:=by
 have hu:=hT.und;unfold TI.agg
 cases hk:ti.k with
 | int k=>rw[hk]at hu;simp[isAgg,run_underlying hu]
 | bool=>rw[hk]at hu;simp[isAgg,run_underlying hu]
 | struct fs=>rw[hk]at hu;obtain⟨fields,h1,_⟩:=hu;simp[isAgg,run_underlying h1]
 | array n el=>rw[hk]at hu;simp[isAgg,run_underlying hu.1]
 | slice el=>rw[hk]at hu;simp[isAgg,run_underlying hu.1]
 | map kt et sp=>rw[hk]at hu;simp[isAgg,run_underlying hu]
 | other =>
  rw[hk]at hu;obtain⟨d,h1,h2,h3⟩:=hu;simp[isAgg,run_underlying h1]
  done
theorem Ycj {t:TypeId}{ti:TI}(hT:TIok P C.tt t ti):(sizeOf t).run P w=.ok ti.sz w:=by
 obtain⟨i,z,h1,h2,_⟩:=hT.info;simp[sizeOf,typeInfo,h1,h2]
theorem Ydq (b o n:Nat):(⟨b,o,none⟩:Addr).add n=⟨b,o+n,none⟩:=by unfold Addr.add;split<;>simp_all
theorem Zdr {t:TypeId}{ti:TI}(hT:TIok P C.tt t ti){b o:Nat}(vs:List Value)(hl:vs.length=ti.sz)(hc:∀ j u,vs[j]?=some u->w.cell? ⟨b,o+j,none⟩=some u) :
  (loadVar t ⟨b,o,none⟩).run P w=.ok (if ti.agg=true then .agg vs.toArray else(vs.headD undef)) w\/(ti.agg=false/\ti.sz≠1):=by
 have h1:=Yzf (P:=P) (C:=C) (w:=w) hT;have h2:=Ycj (P:=P) (C:=C) (w:=w) hT
 cases ha:ti.agg with
 | true =>
  left
  have h3:=run_loadCells_list (P:=P) w ⟨b,o,none⟩ vs (fun j u hu=>by rw[Ydq];exact hc j u hu);rw[hl]at h3;simp[loadVar,h1,ha,h2,h3]
 | false =>
  by_cases hs:ti.sz=1
  ·left
   obtain⟨u,rfl⟩:∃ u,vs=[u]:=by
    match vs,hl with
    | [u],_=>exact⟨u,rfl⟩
    | [],hl=>simp at hl;omega
    | _::_::_,hl=>simp at hl;omega
   have h4:=hc 0 u rfl;simp only[Nat.add_zero]at h4;simp[loadVar,h1,ha,load,Sem.run,h4]
  ·exact .inr ⟨rfl,hs⟩
end
end Go.Di
namespace Go.Di
open Go.RowKit
section
variable {P:Program} {C:Cfg} {w0 w:World} {R0 R:Foot} {a:Act} {s:St} {β:Nat->Nat} {σ:Sig} {o:Oper} {wr:List (Key×Val)} {K:Act->World->Prop} {Q:Exit->Act->World->Prop}
theorem Ybi (hI:Inv C w0 R0 a w s β σ R)(hK:∀ a' w',Holds C w0 R0 a' w' (s.apply wr)->K a' w'){d:D}{v:Value}(h:(setTmp C o.dst d).Ok s wr)(hv:RelT β σ s R w d v)
  (hr:(execOp a.eval o).run P w=.ok (.value v) w):o.wp P a w K Q:=Ycd hr (hK _ _ ⟨β,σ,R,Ybn hI h hv⟩)
theorem Zs4 (hI:Inv C w0 R0 a w s β σ R)(hK:∀ a' w',Holds C w0 R0 a' w' (s.apply wr)->K a' w'){x:Operand}(hop:o.op=.move x\/o.op=.assign x)
  (h:(opd C x fun d=>setTmp C o.dst (Ydy C.tt o.type d)).Ok s wr):o.wp P a w K Q:=by
 obtain⟨d,h1,h2⟩:=Ybx hI h;exact Ybi hI hK h1 (Ydg h2) (by rcases hop with hop|hop<;>simp[execOp,hop])
theorem Xeq (hI:Inv C w0 R0 a w s β σ R)(hK:∀ a' w',Holds C w0 R0 a' w' (s.apply wr)->K a' w'){c x y:Operand}(hop:o.op=.pick c x y){dec:List (Nat×Bool)}{orc:List (Nat×D)}
  (h:(sem C dec orc o).Ok s wr):o.wp P a w K Q:=by
 unfold sem at h;rw[hop]at h
 cases c with
 | tmp c =>
  simp only at h
  split at h
  ·rename_i t ht;simp only[M.Ok]at h
   split at h
   ·rename_i u hu;obtain⟨rfl,h⟩:=h;obtain⟨d,h1,h2⟩:=Ybx hI h;have hc:=hI.tmps c;simp only[St.tmp,hu]at hc;have hc':a.tmps.getD c undef=.bool u:=hc;refine Ybi hI hK h1 h2 ?_;have he:a.eval (.tmp c)=.bool u:=hc'
    cases u<;>simp[execOp,hop,he,asBool]
   ·exact h.elim
  ·simp only[M.Ok]at h
   split at h
   ·rename_i hu;obtain⟨d,h1,h2⟩:=Ybx hI h;have hc:=hI.tmps c;simp only[St.tmp,hu]at hc;have he:a.eval (.tmp c)=.bool true:=hc;exact Ybi hI hK h1 h2 (by simp[execOp,hop,he,asBool])
   ·rename_i hu;obtain⟨d,h1,h2⟩:=Ybx hI h;have hc:=hI.tmps c;simp only[St.tmp,hu]at hc;have he:a.eval (.tmp c)=.bool false:=hc;exact Ybi hI hK h1 h2 (by simp[execOp,hop,he,asBool])
   ·exact h.elim
 | const v=>exact h.elim
 | global g=>exact h.elim
 | func f=>exact h.elim
theorem Yka (t:TypeId)(v:Value):(newVar t v).run P w=.ok ⟨w.heap.size,0,none⟩ (w.alloc (.cells v.cells t)):=by simp[newVar,newRow]
theorem Yys (hI:Inv C w0 R0 a w s β σ R)(hK:∀ a' w',Holds C w0 R0 a' w' (s.apply wr)->K a' w'){cs:List D}{arr:Array Value}{el:TypeId}(h:(newBox C o.dst cs).Ok s wr)
  (hc:All2 (RelTC σ s R w) cs arr.toList) (hr:(execOp a.eval o).run P w=.ok (.value (.pointer (some ⟨w.heap.size,0,none⟩))) (w.alloc (.cells arr el))):o.wp P a w K Q:=by
 unfold newBox at h
 split at h
 ·rename_i t ht
  split at h
  ·rename_i hlt;simp only[M.Ok]at h
   split at h
   ·rename_i hb;obtain⟨_,rfl,_,rfl,rfl⟩:=h;refine Ycd hr (hK _ _ ⟨fun i=>if i=t then w.heap.size else β i,σ,R,?_⟩);rw[ht];exact hI.newBox t (Zsw hlt) (Zsx hlt) (Zn7 hb) cs arr el hc
   ·exact h.elim
  ·exact h.elim
 ·exact h.elim
theorem Xb8 (hT:Ybu P C.tt)(hI:Inv C w0 R0 a w s β σ R)(hK:∀ a' w',Holds C w0 R0 a' w' (s.apply wr)->K a' w'){t:TypeId}(hop:o.op=.alloc t){dec:List (Nat×Bool)}{orc:List (Nat×D)}
  (h:(sem C dec orc o).Ok s wr):o.wp P a w K Q:=by
 unfold sem at h;rw[hop]at h;simp only at h
 split at h
 ·rename_i ti ht;obtain⟨i,z,h1,h2,h3,h4,_,h5⟩:=(hT t ti ht).info;exact Yys (el:=t) hI hK h ((h5 R w).imp fun _ _=>RelTC.of0) (by simp[execOp,hop,Instr.alloc,zeroValue,typeInfo,h1,h4,Yka])
 ·exact h.elim
theorem Xiy (hI:Inv C w0 R0 a w s β σ R)(hK:∀ a' w',Holds C w0 R0 a' w' (s.apply wr)->K a' w'){t:TypeId}{x:Operand}(hop:o.op=.box t x){dec:List (Nat×Bool)}{orc:List (Nat×D)}
  (h:(sem C dec orc o).Ok s wr):o.wp P a w K Q:=by
 unfold sem at h;rw[hop]at h;obtain⟨d,h1,h2⟩:=Ybx hI h;obtain⟨h3,h4,_⟩:=Ywo hI h1 (Ydg h2);exact Yys (el:=t) hI hK h3 h4 (by simp[execOp,hop,Instr.box,Yka])
theorem Ywv:∀(cs:List D) (zs:List Int) (vs:List Value),allI cs=some zs->All2 (RelTC σ s R w) cs vs->vs=zs.map (Value.int .i64)
 | [],zs,vs,h,hr=>by
  cases h
  exact Ych hr
 | d::l,zs,vs,h,hr=>by
  obtain⟨v,vs',rfl,h1,h2⟩:=Yaq hr;simp only[allI]at h
  split at h
  ·rename_i x xs hx hxs
   cases h
   rw[Ywv l xs vs' hxs h2];unfold asI at hx
   split at hx
   ·cases hx
    have:v=.int .i64 x:=h1
    rw[this];rfl
   ·cases hx
  ·cases h
theorem Yvp {α:Type}(l:List α)(off n:Nat)(h:off+n<=l.length):((l.drop off).take n).length=n:=by simp;omega
theorem Yf0 {ti:TI}{cs:List D}{off:Nat}{k:D->M}(h:(Yii ti cs off k).Ok s wr){vs:List Value}(hc:All2 (RelTC σ s R w) cs vs) :
  off+ti.sz<=vs.length/\(ti.agg=false->ti.sz=1)/\∃ d,(k d).Ok s wr/\RelT β σ s R w d (if ti.agg=true then .agg ((vs.drop off).take ti.sz).toArray else(vs.getD off undef)):=by
 unfold Yii at h
 split at h
 ·rename_i zs hz;obtain⟨h1,h⟩:=h;have hv:=Ywv cs zs vs hz hc;subst hv
  split at h
  ·rename_i ha;refine⟨by simpa using h1,fun x=>(by rw[ha]at x;cases x),_,h,?_⟩;rw[if_pos ha];refine⟨_,rfl,?_⟩;refine All2.of_get (by simp;omega) fun i x y hx hy=>?_
   have hi:i<ti.sz:=by
    have:=(List.getElem?_eq_some_iff.1 hx).1
    simpa using this
   simp only[List.getElem?_map,List.getElem?_range hi,Option.map_some,Option.some.injEq]at hx;subst hx;simp only[List.getElem?_take,List.getElem?_drop,hi,if_true,List.getElem?_map]at hy;have hlt:off+i<zs.length:=by omega
   rw[List.getElem?_eq_getElem hlt]at hy;simp only[Option.map_some,Option.some.injEq]at hy;show y=_;rw[<-hy,List.getD_eq_getElem?_getD,List.getElem?_eq_getElem hlt];rfl
  ·rename_i ha
   split at h
   ·rename_i hs;have hs:=Nat.eq_of_beq_eq_true hs;refine⟨by simpa using h1,fun _=>hs,_,h,?_⟩;rw[if_neg (by rw[ha];simp)];have hlt:off<zs.length:=by omega
    show _=_;simp[List.getD_eq_getElem?_getD,hlt]
   ·exact h.elim
 ·split at h
  ·rename_i hle;have hle:off+ti.sz<=cs.length:=Nat.le_of_ble_eq_true hle;have hl:=All2.length hc
   split at h
   ·rename_i ha;refine⟨by omega,fun x=>(by rw[ha]at x;cases x),_,h,?_⟩;rw[if_pos ha];exact⟨_,rfl,(hc.drop off).take ti.sz⟩
   ·rename_i ha
    split at h
    ·rename_i d hs hd;have hs:=Nat.eq_of_beq_eq_true hs;refine⟨by omega,fun _=>hs,_,h,?_⟩;rw[if_neg (by rw[ha];simp)];obtain⟨v,hv,hr⟩:=All2.get hc off d hd;rw[List.getD_eq_getElem?_getD,hv];exact RelT.ofTC hr
    ·exact h.elim
  ·exact h.elim
theorem Yfz {t:TypeId}{ti:TI}(hT:TIok P C.tt t ti){b o' off:Nat}(vs:List Value)(hc:∀ j u,vs[j]?=some u->w.cell? ⟨b,o'+j,none⟩=some u)(hle:off+ti.sz<=vs.length)(hsz:ti.agg=false->ti.sz=1) :
  (Instr.loadAt t (.pointer (some ⟨b,o'+off,none⟩))).run P w=.ok (if ti.agg=true then .agg ((vs.drop off).take ti.sz).toArray else(vs.getD off undef)) w:=by
 have h1:=Zdr (P:=P) (C:=C) (w:=w) hT (b:=b) (o:=o'+off) ((vs.drop off).take ti.sz) (Yvp vs off ti.sz hle) (fun j u hu=>by
  rw[List.getElem?_take,List.getElem?_drop]at hu
  split at hu
  ·have:=hc (off+j) u hu
   rw[show o'+off+j=o'+(off+j) by omega];exact this
  ·cases hu)
 rcases h1 with h1|⟨h1,h2⟩
 ·simp only[Instr.loadAt,Instr.sureAddr,pure_bind];rw[h1];split
  ·rfl
  ·rename_i ha;have hs:=hsz (by simpa using ha);rw[hs]
   congr 1
   cases hd:vs.drop off with
   | nil=>simp[List.getD_eq_getElem?_getD];have:=congrArg List.length hd;simp at this;omega
   | cons u l =>
    have:vs[off]?=some u:=by rw[<-List.head?_drop,hd];rfl
    simp[List.getD_eq_getElem?_getD,this]
 ·exact absurd (hsz h1) h2
theorem Ye1 {g:Nat}{arr:Array Value}{el:TypeId}(h:w.heap[g]?=some (.cells arr el (0,0)))(j:Nat):w.cell? ⟨g,j,none⟩=arr[j]?:=by
 simp[World.cell?,h]
theorem BoxOk.all {i:Nat}{b:Box}(h:BoxOk β σ s R w0 w i b):∃ arr el,w.heap[β i]?=some (.cells arr el (0,0))/\All2 (RelTC σ s R w) b.cells (arr.toList.take b.cells.length):=by
 obtain⟨_,⟨arr,el,h2,h3,h4,h5⟩,_⟩:=h;refine⟨arr,el,h2,?_⟩
 cases hf:b.frozen with
 | true=>exact(h3 hf).imp fun _ _=>RelTC.ofC
 | false=>exact h4 hf
theorem Yxz {cs:List D}{b o':Nat}(h:RefAt (RelC R w) R w cs b o'):∃ vs:List Value,All2 (RelC R w) cs vs/\∀ j u,vs[j]?=some u->R b (o'+j)/\w.cell? ⟨b,o'+j,none⟩=some u:=by
 induction cs generalizing o' with
 | nil=>exact⟨[],trivial,fun j u hu=>by simp at hu⟩
 | cons d l ih =>
  obtain⟨u,h1,h2,h3⟩:=h 0 d rfl
  obtain⟨vs,h4,h5⟩:=ih (o':=o'+1) (fun j x hx=>by
   obtain⟨u,p1,p2,p3⟩:=h (j+1) x (by simpa using hx);exact⟨u,p1,by rw[show o'+1+j=o'+(j+1) by omega];exact p2,by rw[show o'+1+j=o'+(j+1) by omega];exact p3⟩)
  refine⟨u::vs,⟨h1,h4⟩,fun j x hx=>?_⟩
  cases j with
  | zero =>
   simp only[List.getElem?_cons_zero,Option.some.injEq]at hx;subst hx;exact⟨h2,h3⟩
  | succ j =>
   simp only[List.getElem?_cons_succ]at hx
   have:=h5 j x hx
   rw[show o'+(j+1)=o'+1+j by omega];exact this
theorem Xfg (hT:Ybu P C.tt)(hI:Inv C w0 R0 a w s β σ R)(hK:∀ a' w',Holds C w0 R0 a' w' (s.apply wr)->K a' w'){t:TypeId}{x:Operand}(hop:o.op=.load t x){dec:List (Nat×Bool)}{orc:List (Nat×D)}
  (h:(sem C dec orc o).Ok s wr):o.wp P a w K Q:=by
 unfold sem at h;rw[hop]at h;simp only at h
 split at h
 ·rename_i ti ht;obtain⟨d,h1,h2⟩:=Ybx hI h
  split at h1
  ·rename_i b off;simp only[M.Ok]at h1
   split at h1
   ·rename_i bx hbx;obtain⟨⟨b',hb'⟩,hv⟩:=h2;have hbx:=Zn7 hbx;obtain⟨arr,el,p1,p2⟩:=(hI.box b bx hbx).all;obtain⟨q1,q2,d,q3,q4⟩:=Yf0 (β:=β) h1 p2;refine Ybi hI hK q3 q4 ?_
    have:=Yfz (P:=P) (C:=C) (w:=w) (hT t ti ht) (b:=β b) (o':=0) (off:=off) (arr.toList.take bx.cells.length) (fun j u hu=>by
     rw[Nat.zero_add,Ye1 p1];rw[List.getElem?_take]at hu
     split at hu
     ·simpa using hu
     ·cases hu) q1 q2
    rw[Nat.zero_add]at this;simp[execOp,hop,hv,this]
   ·rename_i zs hbx;obtain⟨⟨b',hb'⟩,hv⟩:=h2;have hbx:=Xdd hbx;obtain⟨arr,el,p1,p2⟩:=(hI.box b _ hbx).all;rw[<-Zds]at h1;obtain⟨q1,q2,d,q3,q4⟩:=Yf0 (β:=β) h1 p2;refine Ybi hI hK q3 q4 ?_
    have:=Yfz (P:=P) (C:=C) (w:=w) (hT t ti ht) (b:=β b) (o':=0) (off:=off) (arr.toList.take (intC zs).length) (fun j u hu=>by
     rw[Nat.zero_add,Ye1 p1];rw[List.getElem?_take]at hu
     split at hu
     ·simpa using hu
     ·cases hu) q1 q2
    rw[Nat.zero_add]at this;simp[execOp,hop,hv,this]
   ·exact h1.elim
  ·rename_i cs off;obtain⟨b,o',hv,hr⟩:=h2;obtain⟨vs,p1,p2⟩:=Yxz hr;obtain⟨q1,q2,d,q3,q4⟩:=Yf0 (β:=β) h1 (p1.imp fun _ _=>RelTC.ofC (σ:=σ) (s:=s));refine Ybi hI hK q3 q4 ?_
   have:=Yfz (P:=P) (C:=C) (w:=w) (hT t ti ht) (b:=b) (o':=o') (off:=off) vs (fun j u hu=>(p2 j u hu).2) q1 q2
   simp[execOp,hop,hv,this]
  ·exact h1.elim
 ·exact h.elim
end
end Go.Di
