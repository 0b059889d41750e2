/- Part 4: contracts are proved. No condition. -/
import Derived.Test.YtfkmodcjddfeiaaGreatDoorDi03
import Derived.Deep.AppendSrc
import Derived.Deep.Upon
import Derived.MapKept
set_option linter.unusedVariables false
set_option linter.unusedSimpArgs false
namespace Go.Di
open Go.RowKit
theorem Yk2:∀ {k k':Key},k.eqb k'=true->k=k'
 | .tmp _,.tmp _,h=>by rw[Nat.eq_of_beq_eq_true h]
 | .box _,.box _,h=>by rw[Nat.eq_of_beq_eq_true h]
 | .obj _,.obj _,h=>by rw[Nat.eq_of_beq_eq_true h]
 | .mp _,.mp _,h=>by rw[Nat.eq_of_beq_eq_true h]
 | .tmp _,.mp _,h=>by cases h
 | .box _,.mp _,h=>by cases h
 | .obj _,.mp _,h=>by cases h
 | .mp _,.tmp _,h=>by cases h
 | .mp _,.box _,h=>by cases h
 | .mp _,.obj _,h=>by cases h
 | .tmp _,.box _,h=>by cases h
 | .tmp _,.obj _,h=>by cases h
 | .box _,.tmp _,h=>by cases h
 | .box _,.obj _,h=>by cases h
 | .obj _,.tmp _,h=>by cases h
 | .obj _,.box _,h=>by cases h
theorem Zga {s:St}{k:Key}{v:Val}(h:s k=v):s.set k v=s:=by
 funext k';unfold St.set;split
 ·rename_i he;rw[<-Yk2 he,h]
 ·rfl
section
variable {P:Program} {C:Cfg} {w0 w:World} {R0 R:Foot} {a:Act} {s:St} {β:Nat->Nat} {σ:Sig} {o:Oper} {wr:List (Key×Val)} {K:Act->World->Prop} {Q:Exit->Act->World->Prop}
theorem Ynx {k:Nat}{o:Option Ob}(h:s (.obj k)=.ob o):s.ob k=o:=by simp[St.ob,h]
theorem Ytt {k:Nat}{o:Option Mp}(h:s (.mp k)=.mp o):s.mp k=o:=by simp[St.mp,h]
theorem Inv.adopt (h:Inv C w0 R0 a w s β σ R)(k:Nat)(hn:s.ob k=none)(hmk:s.mp k=none)(e:E)(xs:List e.α)(A:Option Addr)(hx:SlR (RelE R w e) e.sz R w false xs (.slice A xs.length xs.length)) :
  Inv C w0 R0 a w (s.set (.obj k) (.ob (some ⟨e,xs⟩))) β (fun i=>if i=k then(A,xs.length) else σ i) R:=by
 have hg:Grows β β σ (fun i=>if i=k then(A,xs.length) else σ i) s (s.set (.obj k) (.ob (some ⟨e,xs⟩))) :=
  ⟨fun i b hb=>⟨⟨b,hb⟩,rfl⟩,fun k' o ho=>by
   have hne:k≠k':=fun x=>by rw[x,ho]at hn;cases hn
   exact⟨o,by rw[Ya6,if_neg hne];exact ho,Nat.le_refl _,fun _=>by simp[show ¬k'=k from fun x=>hne x.symm]⟩,
   fun i m hm=>⟨⟨m,hm⟩,if_neg (fun x=>by rw[x,hmk]at hm;cases hm)⟩⟩
 refine⟨h.below,h.defers,h.fix,h.nt,h.sub,h.dom,h.glob,fun i=>RelT.grow hg _ _ (h.tmps i),fun i b hb=>?_,h.inj,fun k' o ho=>?_,?_,h.mps.step (fun _ _ h=>h) (fun i m hm=>if_neg (fun x=>by rw[x]at hm;exact absurd hm (by rw[hmk];simp))) (fun _ _ _=>rfl) (fun _ _ h=>h) (fun i m hm hn=>by
  rw[Ya6,if_neg (fun x=>by rw[<-x,hmk]at hm;cases hm)];exact hn)⟩
 ·obtain⟨p1,⟨ar,e2,p2,p3,p4,p5⟩,p6⟩:=h.box i b hb;exact⟨p1,⟨ar,e2,p2,p3,fun hf=>(p4 hf).imp (RelTC.grow hg),p5⟩,p6⟩
 ·rw[Ya6]at ho
  by_cases e1:k=k'
  ·subst e1;rw[if_pos rfl]at ho
   cases ho
   exact⟨by simp only[if_true];exact hx,fun hl=>by simp only[if_true]at hl;omega⟩
  ·rw[if_neg e1]at ho;have e1':¬k'=k:=fun x=>e1 x.symm;obtain⟨p1,p2⟩:=h.obj k' o ho;refine⟨by simp only[if_neg e1'];exact p1,fun hl=>?_⟩;simp only[if_neg e1']at hl ⊢;obtain⟨g,off,r1,r2,r3,r4,r5,r6⟩:=p2 hl;refine⟨g,off,r1,r2,r3,r4,fun k'' o'' ho'' hne hl' a' ha'=>?_,r6⟩;rw[Ya6]at ho''
   by_cases e2:k=k''
   ·subst e2;simp only[if_true]at hl';rw[if_pos rfl]at ho''
    cases ho''
    exact absurd hl' (Nat.lt_irrefl _)
   ·rw[if_neg e2]at ho'';have e2':¬k''=k:=fun x=>e2 x.symm;simp only[if_neg e2']at hl' ha';exact r5 k'' o'' ho'' hne hl' a' ha'
 ·have hrow:∀(b:Nat),(∀ k o,s.ob k=some o->o.xs.length<(σ k).2->∀ ad,(σ k).1=some ad->ad.block≠b)->∀ k' o',(s.set (.obj k) (.ob (some ⟨e,xs⟩))).ob k'=some o' ->
    o'.xs.length<(if k'=k then(A,xs.length) else σ k').2->∀ ad,(if k'=k then(A,xs.length) else σ k').1=some ad->ad.block≠b:=by
   intro b hr k' o' ho' hl ad had;rw[Ya6]at ho'
   by_cases e1:k=k'
   ·subst e1;rw[if_pos rfl]at ho'
    cases ho'
    simp only[if_true]at hl;exact absurd hl (Nat.lt_irrefl _)
   ·rw[if_neg e1]at ho';have e1':¬k'=k:=fun x=>e1 x.symm;simp only[if_neg e1']at hl had;exact hr k' o' ho' hl ad had
  refine⟨h.far.sz,fun b hb=>?_,fun b hb=>?_⟩
  ·obtain⟨p1,p2,p3,p4⟩:=h.far.ke b hb;exact⟨p1,p2,p3,hrow b p4⟩
  ·obtain⟨p1,p2,p3,p4,p5⟩:=h.far.no b hb;exact⟨p1,p2,p3,p4,hrow b p5⟩
theorem Yt5 {e:E}{b:Nat}:∀(xs:List e.α) (o:Nat),(∀(i:Nat) (x:e.α),xs[i]?=some x->∃ us:List Value,us.length=e.sz/\RelE R w e x us/\∀ j u,us[j]?=some u->R b (o+i*e.sz+j)/\w.cell? ⟨b,o+i*e.sz+j,none⟩=some u) ->
  ∃ vs:List Value,vs.length=xs.length*e.sz/\(∀ j u,vs[j]?=some u->w.cell? ⟨b,o+j,none⟩=some u)/\(∀ u∈vs,u.oneCell'=true) /\
   ∀(i:Nat) (x:e.α),xs[i]?=some x->∃ us:List Value,us.length=e.sz/\RelE R w e x us/\∀ j u,us[j]?=some u->vs[i*e.sz+j]?=some u
 | [],o,_=>⟨[],by simp,fun j u h=>by simp at h,fun u h=>by simp at h,fun i x h=>by simp at h⟩
 | x::xs,o,h=>by
  obtain⟨us,h1,h2,h3⟩:=h 0 x rfl
  obtain⟨vs,h4,h5,h6,h7⟩:=Yt5 xs (o+e.sz) (fun i y hy=>by
   obtain⟨us,p1,p2,p3⟩:=h (i+1) y (by simpa using hy);refine⟨us,p1,p2,fun j u hu=>?_⟩
   have:=p3 j u hu
   rw[show o+e.sz+i*e.sz+j=o+(i+1)*e.sz+j by rw[Nat.add_mul];omega];exact this)
  refine⟨us++vs,by simp[h1,h4,Nat.add_mul];omega,fun j u hu=>?_,fun u hu=>?_,fun i y hy=>?_⟩
  ·rcases Nat.lt_or_ge j us.length with hj|hj
   ·rw[List.getElem?_append_left hj]at hu
    have:=(h3 j u hu).2
    simpa using this
   ·rw[List.getElem?_append_right hj]at hu
    have:=h5 _ u hu
    rw[show o+j=o+e.sz+(j-us.length) by omega];exact this
  ·rcases List.mem_append.1 hu with hu|hu
   ·obtain⟨j,hj⟩:=List.getElem?_of_mem hu;obtain⟨d,_,hr⟩:=All2.get' (Zfc e x us h2) j u hj;exact Yfa hr
   ·exact h6 u hu
  ·cases i with
   | zero =>
    simp only[List.getElem?_cons_zero,Option.some.injEq]at hy;subst hy
    exact⟨us,h1,h2,fun j u hu=>by
     have hj:=(List.getElem?_eq_some_iff.1 hu).1;rw[Nat.zero_mul,Nat.zero_add,List.getElem?_append_left hj];exact hu⟩
   | succ i =>
    simp only[List.getElem?_cons_succ]at hy;obtain⟨us',q1,q2,q3⟩:=h7 i y hy;refine⟨us',q1,q2,fun j u hu=>?_⟩;rw[List.getElem?_append_right (by rw[Nat.add_mul];omega)]
    have:=q3 j u hu
    rw[show(i+1)*e.sz+j-us.length=i*e.sz+j by rw[Nat.add_mul];omega];exact this
theorem Zf9 {e:E}{xs:List e.α}{A:Option Addr}{c:Nat}(h:SlR (RelE R w e) e.sz R w false xs (.slice A xs.length c)) :
  ∃ vs:List Value,vs.length=xs.length*e.sz/\(xs≠[]->∃ b o',A=some ⟨b,o',none⟩/\∀ j u,vs[j]?=some u->w.cell? ⟨b,o'+j,none⟩=some u)/\(∀ u∈vs,u.oneCell'=true) /\
   ∀(i:Nat) (x:e.α),xs[i]?=some x->∃ us:List Value,us.length=e.sz/\RelE R w e x us/\∀ j u,us[j]?=some u->vs[i*e.sz+j]?=some u:=by
 obtain⟨A',c',hv,g1,g2,_,g4⟩:=h;injection hv with hv1 hv2 hv3;subst hv1 hv3
 cases xs with
 | nil=>exact⟨[],by simp,fun h=>absurd rfl h,fun u h=>by simp at h,fun i x h=>by simp at h⟩
 | cons x xs =>
  obtain⟨b,o',ha,hc⟩:=g4 (by simp);obtain⟨vs,h1,h2,h3,h4⟩:=Yt5 (x::xs) o' hc;exact⟨vs,h1,fun _=>⟨b,o',ha,h2⟩,h3,h4⟩
theorem Yxk {el t:TypeId}(ht:P.underlying t=some (.slice el)){e:E}{ys:List e.α}{A:Option Addr}{c:Nat}(hs:SlR (RelE R w e) e.sz R w false ys (.slice A ys.length c)) :
  ∃ news:List Value,Src P e.sz t (.slice A ys.length c) ys.length news w/\news.length=ys.length*e.sz/\(∀ u∈news,u.oneCell'=true) /\
   ∀(i:Nat) (x:e.α),ys[i]?=some x->∃ us:List Value,us.length=e.sz/\RelE R w e x us/\∀ j u,us[j]?=some u->news[i*e.sz+j]?=some u:=by
 obtain⟨news,h1,h2,h3,h4⟩:=Zf9 hs;refine⟨news,?_,h1,h3,h4⟩
 cases A with
 | none =>
  have hy:ys=[]:=by
   cases ys with
   | nil=>rfl
   | cons y ys =>
    obtain⟨b,o',ha,_⟩:=h2 (by simp)
    cases ha
  subst hy
  have:news=[]:=List.eq_nil_of_length_eq_zero (by simpa using h1)
  subst this;exact Src.ofNil w ht c
 | some A =>
  by_cases hy:ys=[]
  ·subst hy
   have:news=[]:=List.eq_nil_of_length_eq_zero (by simpa using h1)
   subst this;exact Src.ofSlice w ht A 0 c [] (by simp) (fun j u h=>by simp at h) (fun u h=>by simp at h)
  ·obtain⟨b,o',ha,hc⟩:=h2 hy
   cases ha
   exact Src.ofSlice w ht _ ys.length c news h1 (fun j u hu=>by rw[Ydq];exact hc j u hu) h3
theorem Zo6 {n b:Nat}(h:n*(b+1)<=140737488355328):n*b<=140737488355328/\n<=140737488355328:=by
 rw[Nat.mul_add,Nat.mul_one]at h;omega
theorem Yt1 (hT:Ybu P C.tt)(hI:Inv C w0 R0 a w s β σ R){t ty el:TypeId}{te:TI}{e:E}(ht:P.underlying t=some (.slice el))(hte:TIok P C.tt el te)(hsz:te.sz=e.sz)(k:Nat){xs ys:List e.α}{A B:Option Addr}{c c':Nat}
  (hx:SlR (RelE R w e) e.sz R w false xs (.slice A xs.length c)) {Ry:Foot} (hy:SlR (RelE Ry w e) e.sz Ry w false ys (.slice B ys.length c')) (hRy:∀ x vs,RelE Ry w e x vs->RelE R w e x vs) (hne:ys≠[]) (hg:c<xs.length+ys.length)
  (hold:∀ o,s.ob k=some o->o.xs.length<(xs++ys).length) (hmk:s.mp k=none) (hb:(xs++ys).length*te.bytes<=140737488355328/\(xs++ys).length<=140737488355328) :
  ∃ w' c'',(Builtin.append_ #[t,t] ty #[.slice A xs.length c,.slice B ys.length c']).run P w=.ok (.slice (some ⟨w.heap.size,0,none⟩) (xs++ys).length c'') w' /\
   ∃ R',Inv C w0 R0 a w' (s.set (.obj k) (.ob (some ⟨e,xs++ys⟩))) β (fun i=>if i=k then(some ⟨w.heap.size,0,none⟩,c'') else σ i) R':=by
 obtain⟨i,z,j1,j2,j3,j4,j5,j6⟩:=hte.info;obtain⟨news,n1,n2,n3,n4⟩:=Yxk (P:=P) ht hy;obtain⟨olds,o1,o2,o3,o4⟩:=Zf9 hx;have hie:i.size=e.sz:=by rw[j2,hsz]
 have hlen:(xs++ys).length=xs.length+ys.length:=by simp
 rw[hlen]at hb;have hyp:0<ys.length:=List.length_pos_iff.2 hne
 have hold':(Builtin.firstCells i.size xs.length (.slice A xs.length c)).run P w.drew=.ok olds.toArray w.drew:=by
  by_cases hx0:xs=[]
  ·subst hx0
   have:olds=[]:=List.eq_nil_of_length_eq_zero (by simpa using o1)
   subst this
   cases A with
   | none=>exact run_firstCells_none w.drew i.size 0 0 c
   | some A=>exact run_firstCells_some w.drew i.size 0 A 0 c [] (by simp) (fun j u h=>by simp at h)
  ·obtain⟨b,o',ha,hc⟩:=o2 hx0;subst ha;exact run_firstCells_some w.drew i.size xs.length _ xs.length c olds (by rw[hie];exact o1) (fun j u hu=>by rw[Ydq];simpa using hc j u hu)
 have hrun:=run_append_grow_src (P:=P) w t t ty el i z ht j1 j4 A xs.length c olds hold' (.slice B ys.length c') ys.length news (by rw[hie];exact n1) hg (by omega)
  (growslice_fits (need:=xs.length+ys.length) hg (by rw[j3];omega))
 have hge:=grownCap_ge w (xs.length+ys.length) c el;have hmax:=grownCap_le_maxLen w (xs.length+ys.length) c el (by unfold maxLen;omega)
 have hzs:z.cells.size=e.sz:=by
  have:=All2.length (j6 R w)
  simp at this;omega
 refine⟨_,grownCap w (xs.length+ys.length) c el,by rw[hlen];exact hrun,addF R w.heap.size 0 ((xs++ys).length*e.sz),?_⟩;have hk0:Keeps R R w w.drew:=Keeps.of_below (fun _ _ hr=>hr) (fun b o hr=>(hI.dom b o hr).1) (Ygq w)
 have:=hI.drew.newRow k e (xs++ys) ((olds++news).toArray++Builtin.zeroCells z.cells (grownCap w (xs.length+ys.length) c el-(xs.length+ys.length))) el (grownCap w (xs.length+ys.length) c el) (by rw[hlen];exact hge) hmax
  (by
   simp only[Array.size_append,List.size_toArray,List.length_append,size_zeroCells,hzs,o1,n2];rw[<-Nat.add_mul,<-Nat.add_mul];exact Nat.mul_le_mul_right _ (by omega)) hold hmk (fun i x hi=>by
   rcases Nat.lt_or_ge i xs.length with hil|hil
   ·rw[List.getElem?_append_left hil]at hi;obtain⟨us,q1,q2,q3⟩:=o4 i x hi;refine⟨us,q1,RelE.keep hk0 _ _ _ q2,fun j u hu=>?_⟩;have h1:=q3 j u hu;have h2:=(List.getElem?_eq_some_iff.1 h1).1;rw[Array.getElem?_append_left (by simp;omega)];rw[List.getElem?_toArray,List.getElem?_append_left h2];exact h1
   ·rw[List.getElem?_append_right hil]at hi;obtain⟨us,q1,q2,q3⟩:=n4 _ x hi;refine⟨us,q1,RelE.keep hk0 _ _ _ (hRy _ _ q2),fun j u hu=>?_⟩;have h1:=q3 j u hu;have h2:=(List.getElem?_eq_some_iff.1 h1).1
    have e1:i*e.sz+j=olds.length+((i-xs.length)*e.sz+j):=by
     rw[o1,<-Nat.add_assoc,<-Nat.add_mul]
     congr 2
     omega
    rw[e1,Array.getElem?_append_left (by simp;omega)];rw[List.getElem?_toArray,List.getElem?_append_right (by omega),Nat.add_sub_cancel_left];exact h1)
 exact this
theorem Yq8 (hT:Ybu P C.tt)(hI:Inv C w0 R0 a w s β σ R){t ty el:TypeId}{te:TI}{e:E}(ht:P.underlying t=some (.slice el))(hte:TIok P C.tt el te)(hsz:te.sz=e.sz)(k:Nat){xs ys:List e.α}{A B:Option Addr}{c c':Nat}
  (hx:SlR (RelE R w e) e.sz R w false xs (.slice A xs.length c)) (hy:SlR (RelE R w e) e.sz R w false ys (.slice B ys.length c')) (hne:ys≠[]) (hg:c<xs.length+ys.length)
  (hold:∀ o,s.ob k=some o->o.xs.length<(xs++ys).length) (hmk:s.mp k=none) (hb:(xs++ys).length*te.bytes<=140737488355328/\(xs++ys).length<=140737488355328) :
  ∃ w' c'',(Builtin.append_ #[t,t] ty #[.slice A xs.length c,.slice B ys.length c']).run P w=.ok (.slice (some ⟨w.heap.size,0,none⟩) (xs++ys).length c'') w' /\
   ∃ R',Inv C w0 R0 a w' (s.set (.obj k) (.ob (some ⟨e,xs++ys⟩))) β (fun i=>if i=k then(some ⟨w.heap.size,0,none⟩,c'') else σ i) R' :=
 Yt1 hT hI ht hte hsz k hx hy (fun _ _ h=>h) hne hg hold hmk hb
theorem Xat (hT:Ybu P C.tt)(hI:Inv C w0 R0 a w s β σ R){t ty el:TypeId}{te:TI}(ht:P.underlying t=some (.slice el))(hte:TIok P C.tt el te)(hsz:te.sz=1)(d:Nat)(hn:s.bx d=none){ys:List Int}{A B:Option Addr}{c':Nat}
  (hy:SlR (RelE R w .int) 1 R w false ys (.slice B ys.length c')) (hne:ys≠[]) (hb:ys.length*(te.bytes+1)<=140737488355328) :
  ∃ w' c'',(Builtin.append_ #[t,t] ty #[.slice A 0 0,.slice B ys.length c']).run P w=.ok (.slice (some ⟨w.heap.size,0,none⟩) ys.length c'') w'/\ys.length<=c''/\c''<=maxLen /\
   Inv C w0 R0 a w' (s.set (.box d) (.bx (some ⟨false,ys.map fun(z:Int)=>D.int .i64 z⟩))) (fun i=>if i=d then w.heap.size else β i) σ R:=by
 obtain⟨i,z,j1,j2,j3,j4,j5,j6⟩:=hte.info;obtain⟨news,n1,n2,n3,n4⟩:=Yxk (P:=P) (e:=.int) ht hy;have hie:i.size=1:=by rw[j2,hsz]
 have hyp:0<ys.length:=List.length_pos_iff.2 hne;rw[Nat.mul_add,Nat.mul_one]at hb
 have hold':(Builtin.firstCells i.size 0 (.slice A 0 0)).run P w.drew=.ok ([]:List Value).toArray w.drew:=by
  cases A with
  | none=>exact run_firstCells_none w.drew i.size 0 0 0
  | some A=>exact run_firstCells_some w.drew i.size 0 A 0 0 [] (by simp) (fun j u h=>by simp at h)
 have hg:0<0+ys.length:=by omega
 have hrun:=run_append_grow_src (P:=P) w t t ty el i z ht j1 j4 A 0 0 [] hold' (.slice B ys.length c') ys.length news (by rw[hie];exact n1) hg (by omega)
  (growslice_fits (need:=0+ys.length) hg (by rw[j3,Nat.zero_add];omega))
 rw[Nat.zero_add]at hrun hg;have hge:=grownCap_ge w ys.length 0 el;have hmax:=grownCap_le_maxLen w ys.length 0 el (by unfold maxLen;omega)
 have hnews:news=ys.map (Value.int .i64):=by
  have h2:news.length=ys.length:=by rw[n2];exact Nat.mul_one _
  refine List.ext_getElem (by rw[List.length_map];exact h2) fun q q1 q2=>?_;rw[List.length_map]at q2;obtain⟨us,u1,u2,u3⟩:=n4 q ys[q] (List.getElem?_eq_getElem q2);have u2:us=[.int .i64 ys[q]]:=u2;subst u2
  have:=u3 0 _ rfl
  simp only[E.sz,Nat.mul_one,Nat.add_zero]at this;rw[List.getElem?_eq_getElem q1]at this;rw[Option.some.inj this,List.getElem_map]
 refine⟨_,_,hrun,hge,hmax,?_⟩
 have hI':=hI.drew.newBox0 d hn (ys.map fun(z:Int)=>D.int .i64 z) (([]++news).toArray++Builtin.zeroCells z.cells (grownCap w ys.length 0 el-ys.length)) el (by
  rw[Array.toList_append,List.nil_append,List.length_map];have hl:news.length=ys.length:=by rw[hnews,List.length_map]
  rw[show(news.toArray).toList=news from rfl,<-hl,List.take_left,hnews]
  clear hnews n1 n2 n3 n4 hrun hy hb hge hmax hl hI hg hne hyp
  induction ys with
  | nil=>exact trivial
  | cons y ys ih=>exact⟨rfl,ih⟩)
 exact hI'
theorem Zq4 (hI:Inv C w0 R0 a w s β σ R){t ty el:TypeId}{te:TI}{k:Nat}{o:Ob}(hk:s.ob k=some o)(ht:P.underlying t=some (.slice el))(hte:TIok P C.tt el te)(hsz:te.sz=o.e.sz){ys:List o.e.α}{B:Option Addr}{c':Nat}
  (hy:SlR (RelE R w o.e) o.e.sz R w false ys (.slice B ys.length c')) (hne:ys≠[]) (hg:o.xs.length+ys.length<=(σ k).2) :
  ∃ w',(Builtin.append_ #[t,t] ty #[.slice (σ k).1 o.xs.length (σ k).2,.slice B ys.length c']).run P w=.ok (.slice (σ k).1 (o.xs++ys).length (σ k).2) w' /\
   ∃ R',Inv C w0 R0 a w' (s.set (.obj k) (.ob (some ⟨o.e,o.xs++ys⟩))) β σ R':=by
 have hyp:0<ys.length:=List.length_pos_iff.2 hne;obtain⟨g,off,h3,h4,⟨arr,el',h5,h6⟩,h7,h8,h9⟩:=(hI.obj k o hk).spare (by omega);obtain⟨i,z,j1,j2,j3,j4,j5,j6⟩:=hte.info;obtain⟨news,n1,n2,n3,n4⟩:=Yxk (P:=P) ht hy;have hie:i.size=o.e.sz:=by rw[j2,hsz]
 have hfit:off+o.xs.length*o.e.sz+news.length<=arr.size:=by
  have:=Nat.mul_le_mul_right o.e.sz hg
  rw[Nat.add_mul]at this;omega
 have hrun:=run_append_room_src (P:=P) w t t ty el i ht j1 g off o.xs.length (σ k).2 (.slice B ys.length c') ys.length news (by rw[hie];exact n1) hg
  (fun j hj=>by rw[hie,Ye1 h5,Array.getElem?_eq_getElem (by omega)];rfl) (fun j hj=>by simp[World.frozen?,h5])
 rw[hie]at hrun;have hlen:(o.xs++ys).length=o.xs.length+ys.length:=by simp
 refine⟨w.setCells g (off+o.xs.length*o.e.sz) news,by rw[h3,hlen];exact hrun,addF R g (off+o.xs.length*o.e.sz) (off+(o.xs++ys).length*o.e.sz),?_⟩
 refine hI.growRow k o hk ys g off arr (Yc2 arr (off+o.xs.length*o.e.sz) news) el' h3 (by omega) (by omega) hne h5 (Ybo _ _ _ _ _ _ _ h5) (Ybs _ _ _) (fun q hq=>Ybz _ _ _ _ _ hq) (Yce _ _ _ _)
  (fun q hq=>by rw[Ybt,if_neg (by omega)]) (fun i x hi=>?_)
 obtain⟨us,q1,q2,q3⟩:=n4 i x hi;refine⟨us,q1,q2,fun j u hu=>?_⟩;have h1:=q3 j u hu;have h2:=(List.getElem?_eq_some_iff.1 h1).1;rw[Nat.add_mul,show off+(o.xs.length*o.e.sz+i*o.e.sz)+j=off+o.xs.length*o.e.sz+(i*o.e.sz+j) by omega,Ybt,if_pos ⟨by omega,by omega,by omega⟩,Nat.add_sub_cancel_left];exact h1
theorem Zwb (hT:Ybu P C.tt)(hI:Inv C w0 R0 a w s β σ R)(hK:∀ a' w',Holds C w0 R0 a' w' (s.apply wr)->K a' w'){t:TypeId}{dx dy:D}{vx vy:Value}(hx:RelT β σ s R w dx vx)(hy:RelT β σ s R w dy vy)
  (hop:∀ w,(execOp a.eval o).run P w=((Builtin.append_ #[t,t] o.type #[vx,vy]).run P w).andThen fun v w'=>.ok (.value v) w') (h:(appD C o.dst t dx dy).Ok s wr):o.wp P a w K Q:=by
 unfold appD at h
 split at h
 ·rename_i e0 bytes d he hd;obtain⟨e,ys,h1,h2⟩:=Ykp hI h hy
  clear h
  obtain⟨el,te,u1,u2,u3,u4,u5⟩:=Yow hT he;obtain⟨i,z,j1,j2,j3,j4,j5,j6⟩:=u2.info
  split at h1
  ·rename_i hee _;obtain⟨rfl⟩:=hee;obtain⟨B,c',hvy,y1,y2,y3,y4⟩:=h2;have h2:SlR (RelE R w e) e.sz R w false ys (.slice B ys.length c'):=⟨B,c',rfl,y1,y2,y3,y4⟩
   have nothing:∀(A:Option Addr) (n c:Nat),ys=[]->n<=c->(Builtin.append_ #[t,t] o.type #[.slice A n c,vy]).run P w=.ok (.slice A n c) w:=by
    intro A n c hys hle;subst hys;obtain⟨news,n1,n2,n3,n4⟩:=Yxk (P:=P) u1 h2
    have:news=[]:=List.eq_nil_of_length_eq_zero (by simpa using n2)
    subst this;rw[hvy];exact run_append_nothing w t t o.type el i u1 j1 A n c hle _ (by rw[j2,u4];exact n1)
   split at h1
   ·rename_i e' xs
    split at h1
    ·rename_i hee _;obtain⟨rfl⟩:=hee;simp only[M.Ok]at h1
     split at h1
     ·rename_i hob;simp only[M.Ok]at h1
      split at h1
      rotate_left
      ·exact h1.elim
      rename_i hmk;have hmk:=Ytt hmk;obtain⟨hb,wr',rfl,h3⟩:=h1;obtain⟨A,c,hvx,g1,g2,g3,g4⟩:=hx;have g3:=g3 rfl;subst g3;have hx':SlR (RelE R w e') e'.sz R w false xs (.slice A xs.length xs.length):=⟨A,_,rfl,g1,g2,fun x=>(by cases x),g4⟩
      by_cases hys:ys=[]
      ·have hr:=nothing A xs.length xs.length hys (Nat.le_refl _);subst hys;have hI':=hI.adopt d (Ynx hob) hmk e' xs A hx';have hxs:xs++[]=xs:=List.append_nil xs;rw[hxs]at h3;refine Ycd (w':=w) (v:=.slice A xs.length xs.length) (by rw[hop,hvx,hr];rfl) (hK _ _ ⟨β,fun i=>if i=d then(A,xs.length) else σ i,R,?_⟩);rw[hxs];refine Ybn hI' h3 ?_;exact⟨⟨e',xs⟩,by rw[Ya6,if_pos rfl],Nat.le_refl _,fun _=>by simp⟩
      ·obtain⟨w',c'',r1,R',r2⟩:=Yq8 (P:=P) (ty:=o.type) hT hI u1 u2 u4 d hx' h2 hys (by have:=List.length_pos_iff.2 hys;omega) (fun o' ho'=>by rw[Ynx hob]at ho';cases ho') hmk (by rw[u5];exact Zo6 hb);refine Ycd (by rw[hop,hvx,hvy,r1];rfl) (hK _ _ ⟨β,fun i=>if i=d then(some ⟨w.heap.size,0,none⟩,c'') else σ i,R',Ybn r2 h3 ?_⟩);exact⟨⟨e',xs++ys⟩,by rw[Ya6,if_pos rfl],Nat.le_refl _,fun _=>by simp⟩
     ·exact h1.elim
    ·exact h1.elim
   ·rename_i k n;simp only[M.Ok]at h1
    split at h1
    ·rename_i o' hob;have hob:=Zs1 hob
     split at h1
     ·rename_i hee _;obtain⟨oe,oxs⟩:=o';obtain⟨hee⟩:=hee
      dsimp only at hee
      subst hee;obtain⟨hn,hb,wr',rfl,h3⟩:=h1
      dsimp only at hn
      obtain⟨o'',q1,q2,q3⟩:=hx;rw[hob]at q1
      cases q1
      have hvx:=q3 hn;have hx':=(hI.obj k _ hob).sl
      dsimp only at hx'
      obtain⟨A',c,hvx',g1,g2,g3,g4⟩:=hx';injection hvx' with e1 e2 e3;have hx':SlR (RelE R w oe) oe.sz R w false oxs (.slice (σ k).1 oxs.length (σ k).2):=(hI.obj k _ hob).sl
      by_cases hys:ys=[]
      ·have hr:=nothing (σ k).1 oxs.length (σ k).2 hys (by omega);subst hys;have hxs:oxs++[]=oxs:=List.append_nil oxs
       have hset:s.set (.obj k) (.ob (some ⟨oe,oxs++[]⟩))=s:=Zga (by
        rw[hxs]
        have:s (.obj k)=.ob (some ⟨oe,oxs⟩):=by assumption
        exact this)
       refine Ycd (w':=w) (v:=.slice (σ k).1 oxs.length (σ k).2) (by rw[hop,hvx,hn,hr];rfl) (hK _ _ ⟨β,σ,R,?_⟩)
       have:s.apply ((Key.obj k,Val.ob (some ⟨oe,oxs++[]⟩))::wr')=s.apply wr':=by rw[Yf4,hset]
       rw[this];refine Ybn hI h3 ?_;exact⟨⟨oe,oxs⟩,hob,by simp,fun _=>by simp⟩
      ·by_cases hroom:oxs.length+ys.length<=(σ k).2
       ·obtain⟨w',r1,R',r2⟩:=Zq4 (P:=P) (ty:=o.type) hI hob u1 u2 u4 h2 hys hroom;refine Ycd (by rw[hop,hvx,hn,hvy,r1];rfl) (hK _ _ ⟨β,σ,R',Ybn r2 h3 ?_⟩);exact⟨⟨oe,oxs++ys⟩,by rw[Ya6,if_pos rfl],Nat.le_refl _,fun _=>rfl⟩
       ·obtain⟨w',c'',r1,R',r2⟩:=Yq8 (P:=P) (ty:=o.type) hT hI u1 u2 u4 k hx' h2 hys (by omega) (fun o' ho'=>by rw[hob]at ho';cases ho';simp;exact List.length_pos_iff.2 hys) (by
         cases hq:s.mp k with
         | none=>rfl
         | some m=>have:=hI.mps.sep k m hq;rw[hob]at this;cases this) (by rw[u5];exact Zo6 hb)
        refine Ycd (by rw[hop,hvx,hn,hvy,r1];rfl) (hK _ _ ⟨β,fun i=>if i=k then(some ⟨w.heap.size,0,none⟩,c'') else σ i,R',Ybn r2 h3 ?_⟩);exact⟨⟨oe,oxs++ys⟩,by rw[Ya6,if_pos rfl],Nat.le_refl _,fun _=>by simp⟩
     ·exact h1.elim
    ·exact h1.elim
   ·exact h1.elim
  ·exact h1.elim
 ·exact h.elim
theorem Xgp (hT:Ybu P C.tt)(hI:Inv C w0 R0 a w s β σ R)(hK:∀ a' w',Holds C w0 R0 a' w' (s.apply wr)->K a' w'){t:TypeId}{dx dy:D}{vx vy:Value}(hx:RelT β σ s R w dx vx)(hy:RelT β σ s R w dy vy)
  (hop:∀ w,(execOp a.eval o).run P w=((Builtin.append_ #[t,t] o.type #[vx,vy]).run P w).andThen fun v w'=>.ok (.value v) w') (h:(appB C o.dst t dx dy).Ok s wr):o.wp P a w K Q:=by
 unfold appB at h
 split at h
 ·rename_i e0 bytes d he hd;obtain⟨e,ys,h1,h2⟩:=Ykp hI h hy
  clear h
  obtain⟨el,te,u1,u2,u3,u4,u5⟩:=Yow hT he;obtain⟨i,z,j1,j2,j3,j4,j5,j6⟩:=u2.info
  split at h1
  ·rename_i hee _;obtain⟨rfl⟩:=hee;obtain⟨B,c',hvy,y1,y2,y3,y4⟩:=h2;have h2:SlR (RelE R w e) e.sz R w false ys (.slice B ys.length c'):=⟨B,c',rfl,y1,y2,y3,y4⟩
   split at h1
   ·rename_i e'
    split at h1
    ·rename_i hee _;obtain⟨rfl⟩:=hee;simp only[M.Ok]at h1
     split at h1
     ·rename_i hob;simp only[M.Ok]at h1
      split at h1
      rotate_left
      ·exact h1.elim
      rename_i hmk;have hmk:=Ytt hmk;obtain⟨hb,wr',rfl,h3⟩:=h1;obtain⟨A,c,hvx,g1,g2,g3,g4⟩:=hx;have g3:=g3 rfl;subst g3;have hx':SlR (RelE R w e') e'.sz R w false [] (.slice A ([]:List e'.α).length ([]:List e'.α).length):=⟨A,_,rfl,g1,g2,fun x=>(by cases x),g4⟩
      by_cases hys:ys=[]
      ·subst hys;obtain⟨news,n1,n2,n3,n4⟩:=Yxk (P:=P) u1 h2
       have:news=[]:=List.eq_nil_of_length_eq_zero (by simpa using n2)
       subst this
       have hr:(Builtin.append_ #[t,t] o.type #[.slice A ([]:List e'.α).length ([]:List e'.α).length,vy]).run P w=.ok (.slice A 0 0) w:=by
        rw[hvy];exact run_append_nothing w t t o.type el i u1 j1 A 0 0 (Nat.le_refl _) _ (by rw[j2,u4];exact n1)
       have hI':=hI.adopt d (Ynx hob) hmk e' [] A hx';refine Ycd (w':=w) (v:=.slice A 0 0) (by rw[hop,hvx,hr];rfl) (hK _ _ ⟨β,fun i=>if i=d then(A,0) else σ i,R,?_⟩);refine Ybn hI' h3 ?_;exact⟨⟨e',[]⟩,by rw[Ya6,if_pos rfl],Nat.le_refl _,fun _=>by simp⟩
      ·obtain⟨w',c'',r1,R',r2⟩:=Yq8 (P:=P) (ty:=o.type) hT hI u1 u2 u4 d hx' h2 hys (by have:=List.length_pos_iff.2 hys;simp;omega) (fun o' ho'=>by rw[Ynx hob]at ho';cases ho') hmk (by rw[u5];exact hb);refine Ycd (by rw[hop,hvx,hvy,r1];rfl) (hK _ _ ⟨β,fun i=>if i=d then(some ⟨w.heap.size,0,none⟩,c'') else σ i,R',Ybn r2 h3 ?_⟩);exact⟨⟨e',ys⟩,by rw[Ya6,if_pos rfl];rfl,Nat.le_refl _,fun _=>by simp⟩
     ·exact h1.elim
    ·exact h1.elim
   ·exact h1.elim
  ·exact h1.elim
 ·exact h.elim
theorem Xgo (hT:Ybu P C.tt)(hI:Inv C w0 R0 a w s β σ R)(hK:∀ a' w',Holds C w0 R0 a' w' (s.apply wr)->K a' w'){orc:List (Nat×D)}{t:TypeId}{dx dy:D}{vx vy:Value}(hx:RelT β σ s R w dx vx)(hy:RelT β σ s R w dy vy)
  (hop:∀ w,(execOp a.eval o).run P w=((Builtin.append_ #[t,t] o.type #[vx,vy]).run P w).andThen fun v w'=>.ok (.value v) w') (h:(appX C o.dst orc t dx dy).Ok s wr):o.wp P a w K Q:=by
 have hnil:Yvx dx=true->∃ A,vx=.slice A 0 0:=fun h=>by
  unfold Yvx at h
  split at h
  ·obtain⟨A,c,hv,_,_,g3,_⟩:=hx
   have:=g3 rfl
   subst this;exact⟨A,hv⟩
  ·cases h
 unfold appX at h
 split at h
 ·rename_i i n
  split at h
  ·rename_i bytes d hnx he hd;simp only[M.Ok]at h
   split at h
   ·rename_i zs hbx;have hbx:=Xdd hbx;have hz:=Yr4 zs
    ·simp only[M.Ok]at h
     split at h
     ·rename_i hob;simp only[M.Ok]at h
      split at h
      ·rename_i hmk;obtain⟨⟨hn,hpos,hb⟩,wr',rfl,h3⟩:=h;obtain⟨_,c',hc1,hc2,hvy⟩:=hy;obtain⟨A,hvx⟩:=hnil hnx;obtain⟨el,te,u1,u2,u3,u4,u5⟩:=Yow hT he;obtain⟨arr,el',p1,p2⟩:=(hI.box i _ hbx).all;have hvs:=Ywv _ _ _ hz p2;have hlz:zs.length=n:=hn.symm
       have hcell:∀(q:Nat) (x:Int),zs[q]?=some x->arr[q]?=some (.int .i64 x):=fun q x hq=>by
        have h1:(arr.toList.take (intC zs).length)[q]?=some (.int .i64 x):=by rw[hvs,List.getElem?_map,hq];rfl
        rw[List.getElem?_take]at h1
        split at h1
        ·simpa using h1
        ·cases h1
       have hsl:SlR (RelE (fun b _=>b=β i) w .int) 1 (fun b _=>b=β i) w false zs (.slice (some ⟨β i,0,none⟩) zs.length c'):=by
        refine⟨_,c',rfl,Nat.le_trans (Nat.le_of_eq hlz) hc1,hc2,fun x=>(by cases x),fun _=>⟨β i,0,rfl,fun q x hq=>⟨[.int .i64 x],rfl,rfl,fun j u hu=>⟨rfl,?_⟩⟩⟩⟩
        cases j with
        | zero =>
         cases hu
         rw[Ye1 p1]
         have:=hcell q x hq
         simpa using this
        | succ j=>simp at hu
       have hx0:SlR (RelE R w .int) E.int.sz R w false ([]:List E.int.α) (.slice A ([]:List E.int.α).length 0):=⟨A,0,rfl,Nat.zero_le _,Nat.zero_le _,fun x=>(by cases x),fun x=>absurd x (by simp)⟩;have hne:zs≠[]:=fun e=>by rw[e]at hlz;simp at hlz;omega
       obtain⟨w',c'',r1,R',r2⟩:=Yt1 (P:=P) (ty:=o.type) (e:=.int) hT hI u1 u2 u4 d hx0 hsl (fun _ _ h=>h) hne (by show 0<0+zs.length;omega) (fun o' ho'=>by rw[Ynx hob]at ho';cases ho') (Ytt hmk) (Zo6 (show zs.length*(te.bytes+1)<=_ by rw[hlz,u5];exact hb));have r1':(Builtin.append_ #[t,t] o.type #[.slice A 0 0,.slice (some ⟨β i,0,none⟩) n c']).run P w=.ok (.slice (some ⟨w.heap.size,0,none⟩) zs.length c'') w':=by subst hlz;exact r1
       refine Ycd (by rw[hop,hvx,hvy,r1'];rfl) (hK _ _ ⟨β,fun i=>if i=d then(some ⟨w.heap.size,0,none⟩,c'') else σ i,R',Ybn r2 h3 ?_⟩);exact⟨⟨.int,zs⟩,by rw[Ya6,if_pos rfl];rfl,Nat.le_refl _,fun _=>by simp only[if_true]⟩
      ·exact h.elim
     ·exact h.elim
   ·exact h.elim
  ·exact h.elim
 ·split at h
  ·split at h
   ·exact Zwb hT hI hK (Ydg hx) (Ydg hy) hop h
   ·exact Xgp hT hI hK (Ydg hx) (Ydg hy) hop h
  ·split at h
   ·rename_i bytes d hnx he hd;obtain⟨e,ys,h1,h2⟩:=Ykp hI h hy
    split at h1
    ·rename_i hee _;obtain⟨rfl⟩:=hee;simp only[M.Ok]at h1
     split at h1
     ·rename_i hbx;obtain⟨⟨hpos,hb⟩,wr',rfl,h3⟩:=h1;obtain⟨A,hvx⟩:=hnil hnx;obtain⟨el,te,u1,u2,u3,u4,u5⟩:=Yow hT he;obtain⟨B,c',hvy,y1,y2,y3,y4⟩:=h2;have h2:SlR (RelE R w .int) 1 R w false ys (.slice B ys.length c'):=⟨B,c',rfl,y1,y2,y3,y4⟩;have hne:ys≠[]:=fun e=>by subst e;exact absurd hpos (by simp)
      obtain⟨w',c'',r1,r2,r3,r4⟩:=Xat (P:=P) (ty:=o.type) (A:=A) hT hI u1 u2 u4 d (Zn7 hbx) h2 hne (by rw[u5];exact hb);have r1':(Builtin.append_ #[t,t] o.type #[.slice A 0 0,.slice B ys.length c']).run P w=.ok (.slice (some ⟨w.heap.size,0,none⟩) ys.length c'') w':=r1;refine Ycd (by rw[hop,hvx,hvy,r1'];rfl) (hK _ _ ⟨fun i=>if i=d then w.heap.size else β i,σ,R,Ybn (Inv.rw_box (zs:=ys) r4) h3 ?_⟩);exact⟨⟨(⟨false,intC ys⟩:Box),(Zas s d d ys).trans (if_pos rfl)⟩,c'',r2,r3,by simp⟩
     ·exact h1.elim
    ·exact h1.elim
   ·exact h.elim
end
end Go.Di
namespace Go.Di
open Go.RowKit
def kV (k:K2):Value:=.agg #[.int .i64 k.1,.int .i64 k.2]
def idxK {α:Type}:List (K2×α)->K2->Nat->Option (Nat×α)
 | [],_,_=>none
 | (k',v)::l,k,i=>if k=k' then some (i,v) else idxK l k (i+1)
theorem Zhg {α:Type}:∀(l:List (K2×α)) (k:K2) (i:Nat),Ybq l k=(idxK l k i).map (·.2)
 | [],_,_=>rfl
 | (k',v)::l,k,i=>by
  simp only[Ybq,idxK];split
  ·rfl
  ·exact Zhg l k (i+1)
theorem Zhf {α:Type}:∀(l:List (K2×α)) (k:K2) (v:α) (i:Nat),idxK l k i=none->updK l k v=l++[(k,v)]
 | [],_,_,_,_=>rfl
 | (k',u)::l,k,v,i,h=>by
  simp only[idxK]at h
  split at h
  ·cases h
  ·rename_i hk;simp only[updK,if_neg hk,List.cons_append];rw[Zhf l k v (i+1) h]
theorem Zhe {α:Type}:∀(l:List (K2×α)) (k:K2) (v:α) (i j:Nat) (u:α),idxK l k i=some (j,u)->i<=j/\l[j-i]?=some (k,u)/\updK l k v=l.set (j-i) (k,v)
 | [],_,_,_,_,_,h=>by cases h
 | (k',u')::l,k,v,i,j,u,h=>by
  simp only[idxK]at h
  split at h
  ·rename_i hk;subst hk;simp only[Option.some.injEq,Prod.mk.injEq]at h;obtain⟨rfl,rfl⟩:=h;simp[updK]
  ·rename_i hk;obtain⟨h1,h2,h3⟩:=Zhe l k v (i+1) j u h
   have:j-i=(j-(i+1))+1:=by omega
   refine⟨by omega,by rw[this];simpa using h2,?_⟩;simp only[updK,if_neg hk];rw[this,h3,List.set_cons_succ]
section
variable {P:Program} {C:Cfg} {w0 w:World} {R0 R:Foot} {a:Act} {s:St} {β:Nat->Nat} {σ:Sig} {o:Oper} {wr:List (Key×Val)} {K:Act->World->Prop} {Q:Exit->Act->World->Prop}
theorem Zt0 (hT:Ybu P C.tt){t:TypeId}(h:intT C t=true):∃ ti k,C.tt t=some ti/\P.underlying t=some (.int k)/\ti.agg=false/\ti.sz=1:=by
 unfold intT at h
 split at h
 ·rename_i ti hti;simp only[Bool.and_eq_true]at h;obtain⟨h1,h2⟩:=h
  cases hk:ti.k<;>rw[hk]at h1<;>try cases h1
  rename_i k;have hu:=(hT t ti hti).und;rw[hk]at hu;exact⟨ti,k,hti,hu,by simp[TI.agg,hk],Nat.eq_of_beq_eq_true h2⟩
 ·cases h
structure KeyOk (P:Program) (kt:TypeId):Prop where
 chk:∀(w:World) (e:Bool) (k:K2),(Instr.checkKey e 10000 kt (kV k)).run P w=.ok () w
 und:∃ fs,P.underlying kt=some (.struct fs)
 eq:∀(w:World) (k k':K2),(Op.equal kt (kV k) (kV k')).run P w=.ok (decide (k=k')) w
theorem Ztj (hT:Ybu P C.tt){kt:TypeId}(h:keyT C kt=true):KeyOk P kt:=by
 unfold keyT at h
 split at h
 ·rename_i tk htk;simp only[Bool.and_eq_true]at h;obtain⟨⟨h1,h2⟩,h3⟩:=h;have hsz:=Nat.eq_of_beq_eq_true h2;have hti:=hT kt tk htk
  split at h3
  ·rename_i x y hk;simp only[Bool.and_eq_true]at h3;obtain⟨tx,kx,x1,x2,x3,x4⟩:=Zt0 hT h3.1;obtain⟨ty,ky,y1,y2,y3,y4⟩:=Zt0 hT h3.2;have hu:=hti.und;rw[hk]at hu;obtain⟨fields,u1,u2,u3,u4,u5⟩:=hu;have hf2:fields.size=2:=u3
   obtain⟨f0,f1,rfl⟩:∃ f0 f1,fields=#[f0,f1]:=by
    obtain⟨l⟩:=fields
    match l,hf2 with
    | [f0,f1],_=>exact⟨f0,f1,rfl⟩
   have e0:=(u2 0 f0 rfl).1;have e1:=(u2 1 f1 rfl).1;simp only[List.getElem?_cons_zero,Option.some.injEq,Prod.mk.injEq]at e0;simp only[List.getElem?_cons_succ,List.getElem?_cons_zero,Option.some.injEq,Prod.mk.injEq]at e1;have n0:=u4 f0 (by simp);have n1:=u4 f1 (by simp);refine⟨fun w e k=>?_,⟨_,u1⟩,fun w k k'=>?_⟩
   ·have p0:=Yma (P:=P) (C:=C) (w:=w) (hT x tx x1) (off:=0) #[Value.int .i64 k.1,.int .i64 k.2] (by simp[x4]) (fun _=>x4);have p1:=Yma (P:=P) (C:=C) (w:=w) (hT y ty y1) (off:=1) #[Value.int .i64 k.1,.int .i64 k.2] (by simp[y4]) (fun _=>y4);simp[x3]at p0;simp[y3]at p1
    show(Instr.checkKey e (9998+1+1) kt (kV k)).run P w=_
    unfold Instr.checkKey;simp only[Sem.run_bind,run_underlying u1,Result.andThen_ok,kV]
    have c0:∀ v,(Instr.checkKey e 9999 x (.int .i64 v)).run P w=.ok () w:=by
     intro v
     show(Instr.checkKey e (9998+1) x (.int .i64 v)).run P w=_
     unfold Instr.checkKey;simp[run_underlying x2]
    have c1:∀ v,(Instr.checkKey e 9999 y (.int .i64 v)).run P w=.ok () w:=by
     intro v
     show(Instr.checkKey e (9998+1) y (.int .i64 v)).run P w=_
     unfold Instr.checkKey;simp[run_underlying y2]
    have a1:=e0.1.symm;have a2:=e0.2.symm;have a3:=e1.1.symm;have a4:=e1.2.symm;simp[n0,n1,a1,a2,a3,a4,p0,p1,c0,c1]
   ·have:=(hti.eqok h1).2 w [k.1,k.2] [k'.1,k'.2] (by simp[hsz]) (by simp[hsz])
    simp only[List.map_cons,List.map_nil]at this;rw[kV,kV,this]
    congr 1
    simp only[eqI,Bool.and_true];obtain⟨k1,k2⟩:=k;obtain⟨k1',k2'⟩:=k';simp only[Prod.mk.injEq]
    by_cases e1:k1=k1'<;>by_cases e2:k2=k2'<;>simp[e1,e2]
  ·cases h3
 ·cases h
abbrev Ents {α:Type}(V:α->Value)(es:List MapEntry)(l:List (K2×α)):Prop:=es.map (fun x=>(x.key,x.val))=l.map (fun p=>(kV p.1,V p.2))
theorem Zho {α:Type}{V:α->Value}{kt:TypeId}(hk:KeyOk P kt)(k:K2):∀(es:List MapEntry) (l:List (K2×α)) (i:Nat),Ents V es l->(Instr.findAsking kt (kV k) es i).run P w=.ok ((idxK l k i).map fun p=>(p.1,V p.2)) w
 | [],[],i,_=>by simp[Instr.findAsking,idxK]
 | x::es,(k',v)::l,i,h=>by
  simp only[Ents,List.map_cons,List.cons.injEq,Prod.mk.injEq]at h;obtain⟨⟨h1,h2⟩,h3⟩:=h;unfold Instr.findAsking;simp only[Sem.run_bind,h1,hk.eq,Result.andThen_ok,idxK]
  by_cases e:k=k'
  ·simp[e,h2]
  ·simp only[e,decide_false,Bool.false_eq_true,if_false];exact Zho hk k es l (i+1) h3
 | [],_::_,_,h=>by cases h
 | _::_,[],_,h=>by cases h
theorem Yrj {α:Type}{V:α->Value}{kt:TypeId}(hk:KeyOk P kt)(k:K2)(es:List MapEntry)(l:List (K2×α))(h:Ents V es l):(Instr.findKey kt (kV k) es).run P w=.ok ((idxK l k 0).map fun p=>(p.1,V p.2)) w:=by
 obtain⟨fs,hu⟩:=hk.und;unfold Instr.findKey;simp only[Sem.run_bind,run_underlying hu,Result.andThen_ok]
 cases es with
 | nil =>
  cases l with
  | nil=>simp[Instr.findNow,idxK]
  | cons p l=>cases h
 | cons x es=>simpa [Instr.findNow,Instr.sameNow] using Zho hk k (x::es) l 0 h
theorem Zxs (k:K2):Instr.sameBits 10000 (kV k) (kV k)=true:=by
 show Instr.sameBits (9998+1+1) (kV k) (kV k)=true;simp[Instr.sameBits,kV]
def Born (es:Array MapEntry)(clock:Nat):Prop:=(∀(i:Nat) (x:MapEntry),es[i]?=some x->x.born<clock)/\∀(i j:Nat) (x y:MapEntry),es[i]?=some x->es[j]?=some y->i<j->x.born<y.born
theorem Zif {α:Type}{V:α->Value}{t kt et:TypeId}(ht:P.underlying t=some (.map kt et))(hk:KeyOk P kt){r clock:Nat}{es:Array MapEntry}{l:List (K2×α)}(hb:w.heap[r]?=some (.map es clock))(hborn:Born es clock)(he:Ents V es.toList l)(k:K2)(v:α) :
  ∃ es' clock',(Instr.mapUpdate t (.map (some r)) (kV k) (V v)).run P w=.ok () {w with heap:=w.heap.setIfInBounds r (.map es' clock')}/\Born es' clock'/\Ents V es'.toList (updK l k v):=by
 have hf:=Yrj (w:=w) hk k es.toList l he;have hc:=hk.chk w false k;have hlen:es.toList.length=l.length:=by have:=congrArg List.length he;simpa using this
 cases hi:idxK l k 0 with
 | none =>
  rw[hi]at hf;refine⟨es.push {key:=kV k,val:=V v,born:=clock},clock+1,?_,⟨fun i x hx=>?_,fun i j x y hx hy hij=>?_⟩,?_⟩
  ·unfold Instr.mapUpdate;simp[run_underlying ht,MapKept.run_getObj_map hb,hc,hf,MapKept.run_setObj_map _ hb]
  ·rw[Array.getElem?_push]at hx
   split at hx
   ·cases hx;exact Nat.lt_succ_self _
   ·exact Nat.lt_succ_of_lt (hborn.1 i x hx)
  ·rw[Array.getElem?_push]at hx hy
   have hjs:j<=es.size:=by
    split at hy
    ·omega
    ·have:=(Array.getElem?_eq_some_iff.1 hy).1;omega
   rw[if_neg (by omega)]at hx
   split at hy
   ·cases hy;exact hborn.1 i x hx
   ·exact hborn.2 i j x y hx hy hij
  ·rw[Zhf l k v 0 hi];simp only[Ents,Array.toList_push,List.map_append,he,List.map_cons,List.map_nil]
 | some p =>
  obtain⟨j,u⟩:=p;rw[hi]at hf;obtain⟨_,h2,h3⟩:=Zhe l k v 0 j u hi;simp only[Nat.sub_zero]at h2 h3;have hjl:j<l.length:=(List.getElem?_eq_some_iff.1 h2).1;have hje:j<es.size:=by rw[<-Array.length_toList];omega
  have hkey:es[j].key=kV k:=by
   have h4:=congrArg (fun m=>m[j]?) he;simp only[List.getElem?_map,h2,Option.map_some]at h4;rw[List.getElem?_eq_getElem (by rw[Array.length_toList];exact hje)]at h4;simp only[Option.map_some,Option.some.injEq,Prod.mk.injEq]at h4;simpa using h4.1
  refine⟨es.modify j fun e=>{e with key:=kV k,val:=V v},clock,?_,⟨fun i x hx=>?_,fun i j' x y hx hy hij=>?_⟩,?_⟩
  ·unfold Instr.mapUpdate
   have hs:(Instr.keyThatStays (((es[j]?).map (·.key)).getD (kV k)) (kV k)).run P w=.ok (kV k) w:=by
    rw[Array.getElem?_eq_getElem hje];simp only[Option.map_some,Option.getD_some,hkey];simp[Instr.keyThatStays,Zxs]
   simp only[Option.map_some]at hf;simp[run_underlying ht,MapKept.run_getObj_map hb,hc,hf,hs,MapKept.run_setObj_map _ hb]
  ·rw[Array.getElem?_modify]at hx
   split at hx
   ·obtain⟨y,hy,rfl⟩:=Option.map_eq_some_iff.1 hx;exact hborn.1 _ y hy
   ·exact hborn.1 i x hx
  ·have hget:∀(i:Nat) (x:MapEntry),(es.modify j fun e=>{e with key:=kV k,val:=V v})[i]?=some x->∃ y,es[i]?=some y/\x.born=y.born:=by
    intro i x hx;rw[Array.getElem?_modify]at hx
    split at hx
    ·obtain⟨y,hy,rfl⟩:=Option.map_eq_some_iff.1 hx;exact⟨y,hy,rfl⟩
    ·exact⟨x,hx,rfl⟩
   obtain⟨x',hx',ex⟩:=hget i x hx;obtain⟨y',hy',ey⟩:=hget j' y hy;rw[ex,ey];exact hborn.2 i j' x' y' hx' hy' hij
  ·rw[h3];refine List.ext_getElem? fun i=>?_;have h4:=congrArg (fun m=>m[i]?) he;simp only[List.getElem?_map,Array.getElem?_toList]at h4 ⊢;rw[Array.getElem?_modify,List.getElem?_set]
   by_cases e:j=i
   ·subst e;rw[if_pos rfl,if_pos rfl,if_pos hjl,Array.getElem?_eq_getElem hje];rfl
   ·rw[if_neg e,if_neg e];exact h4
theorem Ytv {α:Type}{V:α->Value}{t kt et:TypeId}(ht:P.underlying t=some (.map kt et))(hk:KeyOk P kt){z:Value}(hz:(zeroValue et).run P w=.ok z w){r clock:Nat}{es:Array MapEntry}{l:List (K2×α)}(hb:w.heap[r]?=some (.map es clock))(he:Ents V es.toList l)(k:K2)(ok:Bool) :
  (Instr.lookup t (.map (some r)) (kV k) ok).run P w=.ok (if ok=true then .tuple #[((Ybq l k).map V).getD z,.bool (Ybq l k).isSome] else((Ybq l k).map V).getD z) w:=by
 have hf:=Yrj (w:=w) hk k es.toList l he;have hc:=fun e=>hk.chk w e k;rw[Zhg l k 0];unfold Instr.lookup
 cases hi:idxK l k 0 with
 | none =>
  rw[hi]at hf
  cases ok<;>simp[run_underlying ht,MapKept.run_getObj_map hb,hc,hf,hz]
 | some p =>
  rw[hi]at hf;simp only[Option.map_some]at hf
  cases ok<;>simp[run_underlying ht,MapKept.run_getObj_map hb,hc,hf]
theorem Yz3 (hp:C.plain):Far C w0 w s β σ R:=⟨by rw[hp.2.2];exact Nat.zero_le _,fun b hb=>absurd hb (hp.1 b),fun b hb=>absurd hb (hp.2.1 b)⟩
theorem Inv.newMap (h:Inv C w0 R0 a w s β σ R)(hp:C.plain)(d:Nat)(hd:d<C.nt)(hfx:d∉C.fixed)(hm:s.mp d=none)(ho:s.ob d=none)(m:Mp)(h0:MapAt (w.alloc (.map #[] 0)) m w.heap.size) :
  Inv C w0 R0 (a.put (some d) (.map (some w.heap.size))) (w.alloc (.map #[] 0)) ((s.set (.mp d) (.mp (some m))).set (.tmp d) (.d (.mref d))) β (fun i=>if i=d then(some ⟨w.heap.size,0,none⟩,0) else σ i) R:=by
 have h1:Inv C w0 R0 a (w.alloc (.map #[] 0)) s β σ R:=h.later (Ybc _ _) (fun _ _ hr=>hr) (fun b o hr=>⟨by have:=(h.dom b o hr).1;simp;omega,.inl hr⟩);have hlt0:=h.below.size;have hne:∀ k o,s.ob k=some o->k≠d:=fun k o hk e=>by rw[e,ho]at hk;cases hk
 have hnm:∀ k o,s.mp k=some o->k≠d:=fun k o hk e=>by rw[e,hm]at hk;cases hk
 have hg:Grows β β σ (fun i=>if i=d then(some ⟨w.heap.size,0,none⟩,0) else σ i) s (s.set (.mp d) (.mp (some m))) :=
  ⟨fun i b hb=>⟨⟨b,hb⟩,rfl⟩,fun k o hk=>⟨o,hk,Nat.le_refl _,fun _=>if_neg (hne k o hk)⟩,fun k o hk=>⟨⟨o,by rw[Yfb,if_neg (fun e=>hnm k o hk e.symm)];exact hk⟩,if_neg (hnm k o hk)⟩⟩
 have h2:Inv C w0 R0 a (w.alloc (.map #[] 0)) (s.set (.mp d) (.mp (some m))) β (fun i=>if i=d then(some ⟨w.heap.size,0,none⟩,0) else σ i) R:=by
  refine⟨h1.below,h1.defers,h1.fix,h1.nt,h1.sub,h1.dom,h1.glob,fun i=>RelT.grow hg _ _ (h1.tmps i),fun i b hb=>?_,h1.inj,fun k o hk=>?_,Yz3 hp,⟨fun i x hx=>?_,fun i x hx=>?_,fun i j x y hx hy e=>?_⟩⟩
  ·obtain⟨p1,⟨ar,e2,p2,p3,p4,p5⟩,p6⟩:=h1.box i b hb;exact⟨p1,⟨ar,e2,p2,p3,fun hf=>(p4 hf).imp (RelTC.grow hg),p5⟩,p6⟩
  ·have hk':s.ob k=some o:=hk;obtain⟨p1,p2⟩:=h1.obj k o hk';have e1:=hne k o hk';refine⟨by simp only[if_neg e1];exact p1,fun hl=>?_⟩;simp only[if_neg e1]at hl ⊢;obtain⟨g,off,r1,r2,r3,r4,r5,r6⟩:=p2 hl;refine⟨g,off,r1,r2,r3,r4,fun k'' o'' ho'' hne' hl' a' ha'=>?_,r6⟩;have ho3:s.ob k''=some o'':=ho'';simp only[if_neg (hne k'' o'' ho3)]at hl' ha';exact r5 k'' o'' ho3 hne' hl' a' ha'
  ·rw[Yfb]at hx
   by_cases e:d=i
   ·subst e;rw[if_pos rfl]at hx
    cases hx
    exact⟨w.heap.size,by simp,hlt0,fun o hr=>by have:=(h.dom _ o hr).1;omega,h0⟩
   ·rw[if_neg e]at hx;obtain⟨g,q1,q2,q3,q4⟩:=h1.mps.ok i x hx;exact⟨g,by rw[if_neg (fun x=>e x.symm)];exact q1,q2,q3,q4⟩
  ·rw[Yfb]at hx
   by_cases e:d=i
   ·subst e;exact ho
   ·rw[if_neg e]at hx;exact h1.mps.sep i x hx
  ·rw[Yfb]at hx hy
   have hlt:∀ k z,s.mp k=some z->(σ k).1≠some ⟨w.heap.size,0,none⟩:=fun k z hz e=>by
    obtain⟨g,q1,_,_,q4⟩:=h.mps.ok k z hz;obtain⟨es,c,hb⟩:=q4.obj
    have:=(Array.getElem?_eq_some_iff.1 hb).1
    rw[q1]at e
    cases e
    omega
   by_cases e1:d=i
   ·by_cases e2:d=j
    ·exact e1.symm.trans e2
    ·rw[if_neg e2]at hy;rw[if_pos e1.symm,if_neg (fun x=>e2 x.symm)]at e;exact absurd e.symm (hlt j y hy)
   ·by_cases e2:d=j
    ·rw[if_neg e1]at hx;rw[if_neg (fun x=>e1 x.symm),if_pos e2.symm]at e;exact absurd e (hlt i x hx)
    ·rw[if_neg e1]at hx;rw[if_neg e2]at hy;rw[if_neg (fun x=>e1 x.symm),if_neg (fun x=>e2 x.symm)]at e;exact h1.mps.inj i j x y hx hy e
 refine h2.put d hd hfx ⟨⟨m,by simp⟩,⟨w.heap.size,0,none⟩,by simp,rfl⟩
theorem Inv.updMap (h:Inv C w0 R0 a w s β σ R)(hp:C.plain)(i:Nat){m m':Mp}(hi:s.mp i=some m){g:Nat}(hs:(σ i).1=some ⟨g,0,none⟩)(o:Obj)(h0:MapAt {w with heap:=w.heap.setIfInBounds g o} m' g) :
  Inv C w0 R0 a {w with heap:=w.heap.setIfInBounds g o} (s.set (.mp i) (.mp (some m'))) β σ R:=by
 obtain⟨g',q1,q2,q3,q4⟩:=h.mps.ok i m hi;rw[hs]at q1
 cases q1
 obtain⟨es,c,hb⟩:=q4.obj;have hoth:∀ k,k≠g->({w with heap:=w.heap.setIfInBounds g o}:World).heap[k]?=w.heap[k]?:=fun k hk=>by simp[Array.getElem?_setIfInBounds_ne (Ne.symm hk)]
 have hsz:({w with heap:=w.heap.setIfInBounds g o}:World).heap.size=w.heap.size:=by simp
 obtain⟨W,hW⟩:∃ W:World,W={w with heap:=w.heap.setIfInBounds g o}:=⟨_,rfl⟩;have hr:W.os=w.os/\W.tape=w.tape/\W.output=w.output:=by rw[hW];exact⟨rfl,rfl,rfl⟩
 rw[<-hW]at hoth hsz h0 ⊢
 have hk:Keeps R R w W:=by
  refine⟨fun _ _ h=>h,fun b o' u hr' hc=>?_,fun b es c hr' hm=>?_⟩
  ·have hne:b≠g:=fun e=>q3 o' (e▸hr');simp only[World.cell?]at hc ⊢;rw[hoth b hne];exact hc
  ·rw[hoth b (fun e=>q3 0 (e▸hr'))];exact hm
 have hg:Grows β β σ σ s (s.set (.mp i) (.mp (some m'))):=⟨fun j b hj=>⟨⟨b,hj⟩,rfl⟩,fun k o hk=>⟨o,hk,Nat.le_refl _,fun _=>rfl⟩,fun k z hz=>by
  refine⟨?_,rfl⟩;rw[Yfb]
  by_cases e:i=k
  ·exact⟨_,if_pos e⟩
  ·exact⟨z,by rw[if_neg e];exact hz⟩⟩
 refine⟨h.below.trans ⟨hr.1,hr.2.1,hr.2.2,by rw[hsz];exact Nat.le_refl _,fun k hk'=>hoth k (by omega)⟩,h.defers,h.fix,h.nt,h.sub,fun b o hr'=>by rw[hsz];exact h.dom b o hr',fun g cs hg'=>Rel.keep hk _ _ (h.glob g cs hg'),
  fun j=>RelT.grow hg _ _ (RelT.world hk _ _ (h.tmps j)),fun j b hj=>?_,h.inj,fun k o' ho'=>?_,Yz3 hp,⟨fun j x hx=>?_,fun j x hx=>?_,fun j j' x y hx hy e=>?_⟩⟩
 ·obtain⟨p1,⟨ar,e2,p2,p3,p4,p5⟩,p6⟩:=h.box j b hj;have hne:β j≠g:=fun e=>by rw[e,hb]at p2;cases p2
  exact⟨p1,⟨ar,e2,by rw[hoth _ hne];exact p2,fun x=>(p3 x).imp (RelC.keep hk),fun x=>((p4 x).imp (RelTC.world hk)).imp (RelTC.grow hg),p5⟩,p6⟩
 ·obtain⟨p1,p2⟩:=h.obj k o' ho';refine⟨SlR.keep hk (fun x vs hx=>RelE.keep hk _ x vs hx) p1,fun hl=>?_⟩;obtain⟨g1,off,r1,r2,⟨ar,e2,r3,r3'⟩,r4,r5,r6⟩:=p2 hl;have hne:g1≠g:=fun e=>by rw[e,hb]at r3;cases r3
  exact⟨g1,off,r1,r2,⟨ar,e2,by rw[hoth _ hne];exact r3,r3'⟩,r4,r5,r6⟩
 ·rw[Yfb]at hx
  by_cases e:i=j
  ·subst e;rw[if_pos rfl]at hx
   cases hx
   exact⟨g,hs,q2,q3,h0⟩
  ·rw[if_neg e]at hx;obtain⟨g1,r1,r2,r3,r4⟩:=h.mps.ok j x hx;have hne:g1≠g:=fun e'=>e (h.mps.inj i j m x hi hx (by rw[hs,r1,e']));exact⟨g1,r1,r2,r3,r4.keep (hoth _ hne)⟩
 ·rw[Yfb]at hx
  by_cases e:i=j
  ·subst e;exact h.mps.sep i m hi
  ·rw[if_neg e]at hx;exact h.mps.sep j x hx
 ·rw[Yfb]at hx hy
  have hx':∃ z,s.mp j=some z:=by
   by_cases e:i=j
   ·exact⟨m,e▸hi⟩
   ·rw[if_neg e]at hx;exact⟨x,hx⟩
  have hy':∃ z,s.mp j'=some z:=by
   by_cases e:i=j'
   ·exact⟨m,e▸hi⟩
   ·rw[if_neg e]at hy;exact⟨y,hy⟩
  obtain⟨x',hx'⟩:=hx';obtain⟨y',hy'⟩:=hy';exact h.mps.inj j j' x' y' hx' hy' e
theorem Ypi (hT:Ybu P C.tt){t kt et:TypeId}{sp:Bool}(h:Zs7 C t=some (kt,et,sp)):P.underlying t=some (.map kt et)/\KeyOk P kt/\∀ w,(zeroValue et).run P w=.ok (match sp with|true=>.agg #[.int .i64 0,.int .i64 0]|false=>.bool false) w:=by
 unfold Zs7 at h
 split at h
 ·rename_i ti hti;have hu:=(hT t ti hti).und
  split at h
  ·rename_i kt' et' sp' hk;rw[hk]at hu
   split at h
   ·rename_i te hkey hte;obtain⟨i,z,j1,j2,j3,j4,j5,j6⟩:=(hT _ te hte).info;have hz:∀ w,(zeroValue et').run P w=.ok z w:=fun w=>by simp[zeroValue,typeInfo,j1,j4]
    split at h
    ·split at h
     ·rename_i hz0 _ hag
      cases h
      refine⟨hu,Ztj hT hkey,fun w=>?_⟩;rw[hz w];have h6:=j6 (fun _ _=>False) w;rw[hz0]at h6;obtain⟨v0,l,e,h0,h6⟩:=Yaq h6;obtain⟨v1,l1,rfl,h1,h6⟩:=Yaq h6;obtain rfl:=Ych h6;have hv0:v0=.int .i64 0:=h0;have hv1:v1=.int .i64 0:=h1;subst hv0 hv1;have hc:z.cells=#[.int .i64 0,.int .i64 0]:=by rw[<-Array.toArray_toList (xs:=z.cells),e]
      cases z<;>simp only[Value.cells]at hc<;>first|(subst hc;rfl)|(simp at hc)
     ·cases h
    ·split at h
     ·rename_i hz0 _ hag
      cases h
      refine⟨hu,Ztj hT hkey,fun w=>?_⟩;rw[hz w];have h6:=j6 (fun _ _=>False) w;rw[hz0]at h6;obtain⟨v0,l,e,h0,h6⟩:=Yaq h6;obtain rfl:=Ych h6;have hv0:v0=.bool false:=h0;subst hv0;have hc:=(hT _ te hte).zer i z j1 j4 (by assumption);rw[hc]at e;simp at e;rw[e]
     ·cases h
   ·cases h
  ·cases h
 ·cases h
def spV (s:Span):Value:=.agg #[.int .i64 s.lo,.int .i64 s.hi]
theorem Yvs {d:D}{k:K2}{v:Value}(h:key2 d=some k)(hr:RelT β σ s R w d v):v=kV k:=by
 unfold key2 at h
 split at h
 ·cases h
  obtain⟨vs,rfl,hr⟩:=hr;obtain⟨v0,l,e,h0,hr⟩:=Yaq hr;obtain⟨v1,l1,rfl,h1,hr⟩:=Yaq hr;obtain rfl:=Ych hr;have h0:v0=.int .i64 _:=h0;have h1:v1=.int .i64 _:=h1;rw[<-Array.toArray_toList (xs:=vs),e,h0,h1];rfl
 ·cases h
theorem Zxm {d:D}{k:Span}{v:Value}(h:Xc8 d=some k)(hr:RelT β σ s R w d v):v=spV k:=by
 unfold Xc8 at h
 split at h
 ·cases h
  obtain⟨vs,rfl,hr⟩:=hr;obtain⟨v0,l,e,h0,hr⟩:=Yaq hr;obtain⟨v1,l1,rfl,h1,hr⟩:=Yaq hr;obtain rfl:=Ych hr;have h0:v0=.int .i64 _:=h0;have h1:v1=.int .i64 _:=h1;rw[<-Array.toArray_toList (xs:=vs),e,h0,h1];rfl
 ·cases h
theorem Zlj (hT:Ybu P C.tt)(hI:Inv C w0 R0 a w s β σ R)(hK:∀ a' w',Holds C w0 R0 a' w' (s.apply wr)->K a' w'){t:TypeId}(hop:o.op=.makeMap t none){dec:List (Nat×Bool)}{orc:List (Nat×D)}
  (h:(sem C dec orc o).Ok s wr):o.wp P a w K Q:=by
 unfold sem at h;rw[hop]at h;simp only at h
 split at h
 ·rename_i kt et sp d hty hd
  split at h
  ·rename_i hok;simp only[M.Ok]at h
   split at h
   ·rename_i hm;simp only[M.Ok]at h
    split at h
    ·rename_i hob;obtain⟨hp,wr1,rfl,wr2,rfl,hw⟩:=h;have hw:wr2=[]:=hw;subst hw
     have h0:MapAt (w.alloc (.map #[] 0)) (Zve sp) w.heap.size:=by
      refine⟨#[],0,heap_alloc_new _ _,fun i x hx=>by simp at hx,fun i j x y hx=>by simp at hx,?_⟩
      cases sp<;>rfl
     refine Ycd (w':=w.alloc (.map #[] 0)) (v:=.map (some w.heap.size)) ?_ ?_
     ·simp[execOp,hop,Instr.makeMap]
     ·rw[hd];exact hK _ _ ⟨_,_,_,hI.newMap hp d (Zsw hok) (Zsx hok) (Ytt hm) (Ynx hob) _ h0⟩
    ·exact h.elim
   ·exact h.elim
  ·exact h.elim
 ·exact h.elim
theorem Xcb (hT:Ybu P C.tt)(hI:Inv C w0 R0 a w s β σ R)(hK:∀ a' w',Holds C w0 R0 a' w' (s.apply wr)->K a' w'){t:TypeId}{dm dk dx:D}{vm vk vx:Value}(h1:RelT β σ s R w dm vm)(h2:RelT β σ s R w dk vk)(h3:RelT β σ s R w dx vx)
  (hop:(execOp a.eval o).run P w=((Instr.mapUpdate t vm vk vx).run P w).andThen fun _ w'=>.ok .skip w') (h:(updD C o.dst t dm dk dx).Ok s wr):o.wp P a w K Q:=by
 have go:∀ {α:Type} {V:α->Value} {i:Nat} {m m':Mp} {k:K2} {v:α} {l:List (K2×α)} {kt et:TypeId} {wr':List (Key×Val)},s.mp i=some m->(∃ ad,(σ i).1=some ad/\vm=.map (some ad.block))->P.underlying t=some (.map kt et)->KeyOk P kt->vk=kV k->vx=V v ->
   (∀ w r,MapAt w m r->∃ es clock,w.heap[r]?=some (.map es clock)/\Born es clock/\Ents V es.toList l)->(∀ w r es clock,w.heap[r]?=some (.map es clock)->Born es clock->Ents V es.toList (updK l k v)->MapAt w m' r)->C.plain->wr=(.mp i,.mp (some m'))::wr'->(setTmp C o.dst .undef).Ok s wr'->o.wp P a w K Q:=by
  intro α V i m m' k v l kt et wr' hm hvm hu hko hvk hvx hin hout hp hwr hst;obtain⟨ad,hsi,hvm⟩:=hvm;obtain⟨g,q1,q2,q3,q4⟩:=hI.mps.ok i m hm;rw[q1]at hsi
  cases hsi
  obtain⟨es,clock,e1,e2,e3⟩:=hin w g q4;obtain⟨es',clock',r1,r2,r3⟩:=Zif (P:=P) (w:=w) hu hko e1 e2 e3 k v;have hlt:g<w.heap.size:=(Array.getElem?_eq_some_iff.1 e1).1;have h0:MapAt {w with heap:=w.heap.setIfInBounds g (.map es' clock')} m' g:=hout _ g es' clock' (by simp[hlt]) r2 r3;refine Yul (w':={w with heap:=w.heap.setIfInBounds g (.map es' clock')}) (by rw[hop,hvm,hvk,hvx,r1];rfl) ?_;have hI':=hI.updMap hp i hm q1 (.map es' clock') h0
  rw[hwr]at hK;exact hK _ _ ⟨β,σ,R,Ybn hI' hst (d:=.undef) (v:=undef) trivial⟩
 unfold updD at h
 split at h
 ·rename_i i;simp only[M.Ok]at h
  split at h
  ·rename_i m hm;have hm:=Ytt hm;have hvm:=h1.2
   split at h
   ·rename_i kt et k hty hkk;obtain⟨hu,hko,hz⟩:=Ypi hT hty
    split at h
    ·rename_i l sp hsp hm;obtain⟨hp,wr',hwr,hst⟩:=h;exact go (V:=spV) (v:=sp) (l:=l) hm hvm hu hko (Yvs hkk h2) (Zxm hsp h3) (fun w r ⟨es,clock,x1,x2,x3,x4⟩=>⟨es,clock,x1,⟨x2,x3⟩,x4⟩) (fun w r es clock x1 x2 x3=>⟨es,clock,x1,x2.1,x2.2,x3⟩) hp hwr hst
    ·exact h.elim
   ·rename_i kt et k hty hkk;obtain⟨hu,hko,hz⟩:=Ypi hT hty
    split at h
    ·rename_i l bb hm;obtain⟨hp,wr',hwr,hst⟩:=h;exact go (V:=Value.bool) (v:=bb) (l:=l) hm hvm hu hko (Yvs hkk h2) h3 (fun w r ⟨es,clock,x1,x2,x3,x4⟩=>⟨es,clock,x1,⟨x2,x3⟩,x4⟩) (fun w r es clock x1 x2 x3=>⟨es,clock,x1,x2.1,x2.2,x3⟩) hp hwr hst
    ·exact h.elim
   ·exact h.elim
  ·exact h.elim
 ·exact h.elim
theorem Xfe (hT:Ybu P C.tt)(hI:Inv C w0 R0 a w s β σ R)(hK:∀ a' w',Holds C w0 R0 a' w' (s.apply wr)->K a' w'){t:TypeId}{dm dk:D}{vm vk:Value}{ok:Bool}(h1:RelT β σ s R w dm vm)(h2:RelT β σ s R w dk vk)
  (hop:(execOp a.eval o).run P w=((Instr.lookup t vm vk ok).run P w).andThen fun v w'=>.ok (.value v) w') (h:(Xff C o.dst t dm dk ok).Ok s wr):o.wp P a w K Q:=by
 have hmap:∀ {k:Mp->M} {wr:List (Key×Val)},(Xe7 dm k).Ok s wr->∃ m r,(k m).Ok s wr/\vm=.map (some r)/\MapAt w m r:=by
  intro k wr h;unfold Xe7 at h
  clear hop
  split at h
  ·rename_i i _;simp only[M.Ok]at h
   split at h
   ·rename_i m hm;obtain⟨_,ad,hs,hv⟩:=h1;obtain⟨g,q1,q2,q3,q4⟩:=hI.mps.ok i m (Ytt hm);rw[q1]at hs
    cases hs
    exact⟨m,g,h,hv,q4⟩
   ·exact h.elim
  ·rename_i m _;obtain⟨r,es,clock,hv,_,hb,x1,x2,x3⟩:=h1;exact⟨m,r,h,hv,es,clock,hb,x1,x2,x3⟩
  ·exact h.elim
 unfold Xff at h;obtain⟨m,r,h,hvm,hat⟩:=hmap h
 split at h
 ·rename_i kt et k hty hkk;obtain⟨hu,hko,hz⟩:=Ypi hT hty
  split at h
  ·rename_i l _;obtain⟨es,clock,x1,x2,x3,x4⟩:=hat;have hrun:=Ytv (P:=P) (w:=w) (V:=spV) hu hko (hz w) x1 x4 k true;refine Ycd (w':=w) (by rw[hop,hvm,Yvs hkk h2,hrun];rfl) (hK _ _ ⟨β,σ,R,Ybn hI h ?_⟩);refine⟨_,rfl,?_,rfl,trivial⟩
   cases hl:Ybq l k with
   | none=>exact⟨_,rfl,rfl,rfl,trivial⟩
   | some v=>exact⟨_,rfl,rfl,rfl,trivial⟩
  ·exact h.elim
 ·rename_i kt et k hty hkk;obtain⟨hu,hko,hz⟩:=Ypi hT hty
  split at h
  ·rename_i l _;obtain⟨es,clock,x1,x2,x3,x4⟩:=hat;have hrun:=Ytv (P:=P) (w:=w) (V:=Value.bool) hu hko (hz w) x1 x4 k false;refine Ycd (w':=w) (by rw[hop,hvm,Yvs hkk h2,hrun];rfl) (hK _ _ ⟨β,σ,R,Ybn hI h ?_⟩)
   cases hl:Ybq l k with
   | none=>rfl
   | some v=>rfl
  ·exact h.elim
 ·exact h.elim
end
end Go.Di
