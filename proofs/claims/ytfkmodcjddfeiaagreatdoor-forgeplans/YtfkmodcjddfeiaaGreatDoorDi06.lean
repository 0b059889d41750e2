/- Part 6: contracts are proved. No condition. -/
import Derived.Test.YtfkmodcjddfeiaaGreatDoorDi05
import Derived.Scope
import Derived.Sort.LoopGhostIn
import Derived.Laws.StructEq
import Derived.KernelRfl
import Derived.Test.YtfkmodcjddfeiaaGreatDoorProg
set_option linter.unusedVariables false
set_option linter.unusedSimpArgs false
namespace Go.Di
open Go.RowKit
def Ex.out:Ex->Exit
 | .normal=>.normal
 | .exit id=>.exit id
 | .ret=>.ret
section
variable {P:Program} {C:Cfg} {w0 w:World} {R0 R:Foot} {a:Act} {s:St} {β:Nat->Nat} {σ:Sig} {Q:Exit->Act->World->Prop}
theorem Yq7 (s:St)(k:Key):∀(ks:List Key),(ofL (Ycy s ks)) k=match hasK k ks with|true=>s k|false=>dflt k
 | []=>rfl
 | k'::l=>by
  simp only[Ycy,ofL,hasK];unfold St.set
  cases hq:k'.eqb k with
  | true =>
   have:=Yk2 hq
   subst this;rw[hq];simp
  | false =>
   have:k.eqb k'=false:=by
    cases hq':k.eqb k' with
    | false=>rfl
    | true=>have:=Yk2 hq';subst this;rw[hq]at hq';cases hq'
   simp only[this,Bool.false_or];exact Yq7 s k l
theorem Yod {ks:List Key}:∀ {L:List (Key×Val)},Ye0 ks L=true->∀ {k:Key} {v:Val},(k,v)∈L->∀ k'∈idsV v,hasK k' ks=true
 | [],_,_,_,h=>by cases h
 | (k0,v0)::l,hc,k,v,hm=>by
  simp only[Ye0,Bool.and_eq_true,List.all_eq_true]at hc;rcases List.mem_cons.1 hm with h|h
  ·cases h;exact hc.1
  ·exact Yod hc.2 h
theorem Yvi {s:St}{k:Key}:∀ {ks:List Key},hasK k ks=true->(k,s k)∈Ycy s ks
 | [],h=>by cases h
 | k'::l,h=>by
  simp only[hasK,Bool.or_eq_true]at h;simp only[Ycy,List.mem_cons];rcases h with h|h
  ·have:=Yk2 h;subst this;exact .inl rfl
  ·exact .inr (Yvi h)
theorem Inv.restrict (h:Inv C w0 R0 a w s β σ R){ks:List Key}(hc:Ye0 ks (Ycy s ks)=true):Inv C w0 R0 a w (ofL (Ycy s ks)) β σ R:=by
 have hget:=Yq7 s
 have hbx:∀ i b,(ofL (Ycy s ks)).bx i=some b->s.bx i=some b/\hasK (.box i) ks=true:=by
  intro i b hb;unfold St.bx at hb;rw[hget]at hb
  cases hq:hasK (.box i) ks with
  | true=>rw[hq]at hb;exact⟨hb,rfl⟩
  | false=>rw[hq]at hb;cases hb
 have hob:∀ i o,(ofL (Ycy s ks)).ob i=some o->s.ob i=some o:=by
  intro i o hb;unfold St.ob at hb;rw[hget]at hb
  cases hq:hasK (.obj i) ks with
  | true=>rw[hq]at hb;exact hb
  | false=>rw[hq]at hb;cases hb
 have hmp:∀ i o,(ofL (Ycy s ks)).mp i=some o->s.mp i=some o:=by
  intro i o hb;unfold St.mp at hb;rw[hget]at hb
  cases hq:hasK (.mp i) ks with
  | true=>rw[hq]at hb;exact hb
  | false=>rw[hq]at hb;cases hb
 have hmp':∀ i,hasK (.mp i) ks=true->(ofL (Ycy s ks)).mp i=s.mp i:=by
  intro i hi;unfold St.mp;rw[hget,hi]
 have hbx':∀ i,hasK (.box i) ks=true->(ofL (Ycy s ks)).bx i=s.bx i:=by
  intro i hi;unfold St.bx;rw[hget,hi]
 have hob':∀ i,hasK (.obj i) ks=true->(ofL (Ycy s ks)).ob i=s.ob i:=by
  intro i hi;unfold St.ob;rw[hget,hi]
 have hTC:∀(d:D) (v:Value),(∀ i n,d=.own i n->hasK (.obj i) ks=true)->(∀ i,d=.mref i->hasK (.mp i) ks=true)->RelTC σ s R w d v->RelTC σ (ofL (Ycy s ks)) R w d v:=by
  intro d v hd hd' hr
  cases d with
  | own i n =>
   obtain⟨o,ho,h1,h2⟩:=hr;exact⟨o,by rw[hob' i (hd i n rfl)];exact ho,h1,h2⟩
  | mref i =>
   obtain⟨⟨m,hm⟩,h2⟩:=hr;exact⟨⟨m,by rw[hmp' i (hd' i rfl)];exact hm⟩,h2⟩
  | _=>exact hr
 refine⟨h.below,h.defers,h.fix,h.nt,h.sub,h.dom,h.glob,fun i=>?_,fun i b hb=>?_,fun i j bi bj hi hj=>h.inj i j bi bj (hbx i bi hi).1 (hbx j bj hj).1,fun k o ho=>?_,?_,h.mps.step hmp (fun _ _ _=>rfl) (fun _ _ _=>rfl) (fun _ _ h=>h) (fun i m hm hn=>?_)⟩
 ·cases hq:hasK (.tmp i) ks with
  | false =>
   have:(ofL (Ycy s ks)).tmp i=.undef:=by
    unfold St.tmp;rw[hget,hq];rfl
   rw[this];exact trivial
  | true =>
   have ht:(ofL (Ycy s ks)).tmp i=s.tmp i:=by
    unfold St.tmp;rw[hget,hq]
   rw[ht];have hm:=Yod hc (Yvi (s:=s) hq);have hv:=h.tmps i;unfold St.tmp at hv ⊢
   cases hs:s (.tmp i) with
   | bx b=>exact trivial
   | ob o=>exact trivial
   | mp o=>exact trivial
   | rw o=>exact trivial
   | d d =>
    rw[hs]at hm hv;simp only at hv ⊢
    cases d with
    | ptr j off =>
     obtain⟨⟨b,hb⟩,hp⟩:=hv;exact⟨⟨b,by rw[hbx' j (hm (.box j) (by simp[idsV,idsD]))];exact hb⟩,hp⟩
    | row j n =>
     obtain⟨⟨b,hb⟩,hp⟩:=hv;exact⟨⟨b,by rw[hbx' j (hm (.box j) (by simp[idsV,idsD]))];exact hb⟩,hp⟩
    | own j n=>exact hTC (.own j n) _ (fun i' n' e=>by cases e;exact hm (.obj j) (by simp[idsV,idsD])) (fun i' e=>by cases e) hv
    | mref j=>exact hTC (.mref j) _ (fun i' n' e=>by cases e) (fun i' e=>by cases e;exact hm (.mp j) (by simp[idsV,idsD])) hv
    | agg cs =>
     obtain⟨vs,hvs,hr⟩:=hv;refine⟨vs,hvs,All2.of_get (All2.length hr) fun q x y hx hy=>?_⟩;obtain⟨y',hy',hr'⟩:=All2.get hr q x hx;rw[hy]at hy'
     cases hy'
     refine hTC x y (fun i' n' e=>?_) (fun i' e=>?_) hr'
     ·subst e;refine hm (.obj i') ?_;simp only[idsV,idsD,List.mem_flatMap];exact⟨_,List.mem_of_getElem? hx,by simp⟩
     ·subst e;refine hm (.mp i') ?_;simp only[idsV,idsD,List.mem_flatMap];exact⟨_,List.mem_of_getElem? hx,by simp⟩
    | _=>exact hv
 ·obtain⟨hb1,hb2⟩:=hbx i b hb;obtain⟨p1,⟨arr,el,p2,p3,p4,p5⟩,p6⟩:=h.box i b hb1;refine⟨p1,⟨arr,el,p2,p3,fun hf=>?_,p5⟩,p6⟩;have hr:=p4 hf;have hm:=Yod hc (Yvi (s:=s) hb2)
  have hsb:s (.box i)=.bx (some b)\/∀ x∈b.cells,∃ z,x=.int .i64 z:=by
   unfold St.bx at hb1
   split at hb1
   ·rename_i b' hb';exact .inl (by rw[hb',hb1])
   ·cases hb1
    refine .inr fun x hx=>?_;obtain⟨z,_,rfl⟩:=List.mem_map.1 hx;exact⟨z,rfl⟩
   ·cases hb1
  rcases hsb with hsb|hsb
  rotate_left
  ·refine All2.of_get (All2.length hr) fun q x y hx hy=>?_;obtain⟨y',hy',hr'⟩:=All2.get hr q x hx;rw[hy]at hy'
   cases hy'
   obtain⟨z,rfl⟩:=hsb x (List.mem_of_getElem? hx);exact hTC _ y (fun i' n' e=>by cases e) (fun i' e=>by cases e) hr'
  rw[hsb]at hm;refine All2.of_get (All2.length hr) fun q x y hx hy=>?_;obtain⟨y',hy',hr'⟩:=All2.get hr q x hx;rw[hy]at hy'
  cases hy'
  refine hTC x y (fun i' n' e=>?_) (fun i' e=>?_) hr'
  ·subst e;refine hm (.obj i') ?_;simp only[idsV,List.mem_flatMap];exact⟨_,List.mem_of_getElem? hx,by simp[idsD]⟩
  ·subst e;refine hm (.mp i') ?_;simp only[idsV,List.mem_flatMap];exact⟨_,List.mem_of_getElem? hx,by simp[idsD]⟩
 ·obtain⟨p1,p2⟩:=h.obj k o (hob k o ho);refine⟨p1,fun hl=>?_⟩;obtain⟨g,off,q1,q2,q3,q4,q5,q6⟩:=p2 hl;exact⟨g,off,q1,q2,q3,fun i b hb=>q4 i b (hbx i b hb).1,fun k' o' ho'=>q5 k' o' (hob k' o' ho'),q6⟩
 ·refine⟨h.far.sz,fun b hb=>?_,fun b hb=>?_⟩
  ·obtain⟨p1,p2,p3,p4⟩:=h.far.ke b hb;exact⟨p1,p2,fun i x hi=>p3 i x (hbx i x hi).1,fun k o ho=>p4 k o (hob k o ho)⟩
  ·obtain⟨p1,p2,p3,p4,p5⟩:=h.far.no b hb;exact⟨p1,p2,p3,fun i x hi=>p4 i x (hbx i x hi).1,fun k o ho=>p5 k o (hob k o ho)⟩
 ·cases hq:(ofL (Ycy s ks)).ob i with
  | none=>rfl
  | some o=>have:=hob i o hq;rw[hn]at this;cases this
theorem Holds.restrict {ks:List Key}(h:Holds C w0 R0 a w s)(hc:Ye0 ks (Ycy s ks)=true):Holds C w0 R0 a w (ofL (Ycy s ks)):=by
 obtain⟨β,σ,R,hI⟩:=h;exact⟨β,σ,R,hI.restrict hc⟩
def WpL (P:Program)(C:Cfg)(c:Code)(L:List (Key×Val))(Post:Ex->List (Key×Val)->Prop):Prop :=
 ∀(w0:World) (R0:Foot) (a:Act) (w:World) (Q:Exit->Act->World->Prop) (ro:Option Nat) (n:Nat),(C.inr=false->ro=none)->Holds C w0 R0 a w (ofL L)->(∀ e L' a' w',Post e L'->Holds C w0 R0 a' w' (ofL L')->Q e.out a' w')->c.wpIn (FR ro) n P Q a w
structure Good (P:Program) (C:Cfg):Prop where
 mixed:P.follows .mixedOrders=true
 tab:Ybu P C.tt
 con:∀ f args r,C.con f args r->Contract P C.glob f args r
 lk:∀ c L e L',C.lk c L e L'->WpL P C c L (fun e' L''=>e'=e/\L''=L')
theorem WpL.mono {c:Code}{L:List (Key×Val)}{Post Post':Ex->List (Key×Val)->Prop}(h:WpL P C c L Post)(hp:∀ e L,Post e L->Post' e L):WpL P C c L Post' :=
 fun w0 R0 a w Q ro n hro hH hQ=>h w0 R0 a w Q ro n hro hH fun e L' a' w' hpost hH'=>hQ e L' a' w' (hp e L' hpost) hH'
theorem Yf7 (hG:Good P C){ro:Option Nat}{n:Nat}(hro:C.inr=false->ro=none){dec:List (Nat×Bool)}{orc:List (Nat×D)}{lorc:Lorc}:∀(c:Code) (s:St) (ps:List Prop) (e:Ex) (s':St) (a:Act) (w:World) (Q:Exit->Act->World->Prop),run C dec orc lorc c s=some (ps,e,s')->(∀ p∈ps,p) ->
  Holds C w0 R0 a w s->(∀ a' w',Holds C w0 R0 a' w' s'->Q e.out a' w')->c.wpIn (FR ro) n P Q a w
 | .skip,s,ps,e,s',a,w,Q,h,_,hH,hQ=>by
  cases h
  exact wpIn_skip (hQ _ _ hH)
 | .label l,s,ps,e,s',a,w,Q,h,_,hH,hQ=>by
  cases h
  exact wpIn_label (hQ _ _ hH)
 | .region id ops draw,s,ps,e,s',a,w,Q,h,hp,hH,hQ=>by
  simp only[run]at h
  split at h
  ·rename_i ks e1 L' hl
   split at h
   ·rename_i hc
    cases h
    refine hG.lk (.region id ops draw) (Ycy s ks) e L' (hp _ (by simp)) w0 R0 a w Q ro n hro (hH.restrict hc) fun e' L'' a' w' hpost hH'=>?_;obtain⟨rfl,rfl⟩:=hpost;exact hQ a' w' hH'
   ·cases h
  ·split at h
   ·rename_i ps' s1 hr
    cases h
    exact Zrj hG.mixed hG.tab hG.con hr hp hH hQ
   ·cases h
 | .seq x y,s,ps,e,s',a,w,Q,h,hp,hH,hQ=>by
  simp only[run]at h
  split at h
  ·rename_i ps1 s1 h1
   split at h
   ·rename_i qs e' s2 h2
    cases h
    refine wpIn_seq (Yf7 hG hro x s ps1 .normal s1 a w _ h1 (fun p hpp=>hp p (by simp[hpp])) hH fun a' w' hH'=>?_);exact Yf7 hG hro y s1 qs e s' a' w' Q h2 (fun p hpp=>hp p (by simp[hpp])) hH' hQ
   ·cases h
  ·rename_i ps1 id s1 h1
   cases h
   exact wpIn_seq (Yf7 hG hro x s ps (.exit id) s' a w _ h1 hp hH hQ)
  ·rename_i ps1 s1 h1
   cases h
   exact wpIn_seq (Yf7 hG hro x s ps .ret s' a w _ h1 hp hH hQ)
  ·cases h
 | .cond (.tmp c) x y,s,ps,e,s',a,w,Q,h,hp,hH,hQ=>by
  simp only[run]at h
  have hval:∀ t,s (.tmp c)=.d (.bool t)->a.eval (.tmp c)=.bool t:=by
   intro t ht;obtain⟨β,σ,R,hI⟩:=hH
   have:=hI.tmps c
   simp only[St.tmp,ht]at this;exact this
  split at h
  ·rename_i t hd hs
   split at h
   ·rename_i ps1 e1 s1 h1
    cases h
    have ht:t=true:=hp _ (by simp);subst ht;exact wpIn_cond_true (hval _ hs) (Yf7 hG hro x s ps1 e s' a w Q h1 (fun p hpp=>hp p (by simp[hpp])) hH hQ)
   ·cases h
  ·rename_i t hd hs
   split at h
   ·rename_i ps1 e1 s1 h1
    cases h
    have ht:t=false:=hp _ (by simp);subst ht;exact wpIn_cond_false (hval _ hs) (Yf7 hG hro y s ps1 e s' a w Q h1 (fun p hpp=>hp p (by simp[hpp])) hH hQ)
   ·cases h
  ·rename_i hd hs;exact wpIn_cond_true (hval _ hs) (Yf7 hG hro x s ps e s' a w Q h hp hH hQ)
  ·rename_i hd hs;exact wpIn_cond_false (hval _ hs) (Yf7 hG hro y s ps e s' a w Q h hp hH hQ)
  ·cases h
 | .block id c,s,ps,e,s',a,w,Q,h,hp,hH,hQ=>by
  simp only[run]at h
  split at h
  ·rename_i ks e1 L' hl
   split at h
   ·rename_i hc
    cases h
    refine hG.lk (.block id c) (Ycy s ks) e L' (hp _ (by simp)) w0 R0 a w Q ro n hro (hH.restrict hc) fun e' L'' a' w' hpost hH'=>?_;obtain⟨rfl,rfl⟩:=hpost;exact hQ a' w' hH'
   ·cases h
  ·split at h
   ·rename_i ps1 s1 h1
    cases h
    exact wpIn_block (Yf7 hG hro c s ps .normal s' a w _ h1 hp hH hQ)
   ·rename_i ps1 id' s1 h1
    split at h
    ·rename_i hid
     cases h
     have hid:=Nat.eq_of_beq_eq_true hid;subst hid;refine wpIn_block (Yf7 hG hro c s ps (.exit id') s' a w _ h1 hp hH fun a' w' hH'=>?_)
     have:=hQ a' w' hH'
     simpa [Ex.out,Exit.inBlock] using this
    ·rename_i hid
     cases h
     refine wpIn_block (Yf7 hG hro c s ps (.exit id') s' a w _ h1 hp hH fun a' w' hH'=>?_)
     have:=hQ a' w' hH'
     have hne:¬id'=id:=fun x=>by rw[Yo6 x]at hid;cases hid
     simpa [Ex.out,Exit.inBlock,hne] using this
   ·rename_i ps1 s1 h1
    cases h
    exact wpIn_block (Yf7 hG hro c s ps .ret s' a w _ h1 hp hH hQ)
   ·cases h
 | .scope c,s,ps,e,s',a,w,Q,h,hp,hH,hQ=>by
  simp only[run]at h
  split at h
  ·rename_i hin;have hn:=hro hin;subst hn;refine wpIn_wide.2 (wp_scope_straight ?_);refine(wpIn_wide (n:=n)).1 (Yf7 hG hro c s ps e s' a w _ h hp hH fun a' w' hH'=>?_)
   have:=hQ a' w' hH'
   cases e<;>exact this
  ·cases h
 | .exit id,s,ps,e,s',a,w,Q,h,_,hH,hQ=>by
  cases h
  exact wpIn_exit (hQ _ _ hH)
 | .ret,s,ps,e,s',a,w,Q,h,_,hH,hQ=>by
  cases h
  exact wpIn_ret (hQ _ _ hH)
theorem WpL.runK (hG:Good P C){dec:List (Nat×Bool)}{orc:List (Nat×D)}{lorc:Lorc}{c:Code}{L L':List (Key×Val)}{ks:List Key}{ps:List Prop}{e:Ex}{Post:Ex->List (Key×Val)->Prop}
  (h:runK C dec orc lorc c L ks=some (ps,e,L')) (hp:∀ p∈ps,p) (hpost:Post e L'):WpL P C c L Post:=by
 intro w0 R0 a w Q ro n hro hH hQ;unfold Di.runK at h
 split at h
 ·rename_i ps1 e1 s1 h1
  split at h
  ·rename_i hc
   cases h
   exact Yf7 hG hro c (ofL L) ps e s1 a w Q h1 hp hH fun a' w' hH'=>hQ e _ a' w' hpost (hH'.restrict hc)
  ·cases h
 ·cases h
theorem WpL.loop {α:Type}(S:α->List (Key×Val))(μ:α->Nat){c:Code}{Post:Ex->List (Key×Val)->Prop}(h:∀ x,WpL P C c (S x) fun e L'=>match e with|.normal=>∃ y,L'=S y/\μ y<μ x|e=>Post e L')(x:α):WpL P C (.loop c) (S x) Post:=by
 intro w0 R0 a w Q ro n hro hH hQ;refine wpIn_loop_ghost (fun k a w=>∃ x,Holds C w0 R0 a w (ofL (S x))/\μ x=k) (μ x) ⟨x,hH,rfl⟩ fun k a w hk=>?_;obtain⟨x,hI,rfl⟩:=hk;refine h x w0 R0 a w _ ro n hro hI fun e L' a' w' hpost hH'=>?_
 cases e with
 | normal =>
  obtain⟨y,rfl,hlt⟩:=hpost;exact⟨μ y,hlt,y,hH',rfl⟩
 | exit id=>exact hQ _ _ _ _ hpost hH'
 | ret=>exact hQ _ _ _ _ hpost hH'
theorem WpL.block {id:Nat}{c:Code}{L:List (Key×Val)}{Post:Ex->List (Key×Val)->Prop}(h:WpL P C c L fun e L'=>match e with|.exit id'=>if id'=id then Post .normal L' else Post (.exit id') L'|e=>Post e L'):WpL P C (.block id c) L Post:=by
 intro w0 R0 a w Q ro n hro hH hQ;refine wpIn_block (h w0 R0 a w _ ro n hro hH fun e L' a' w' hpost hH'=>?_)
 cases e with
 | normal=>exact hQ _ _ _ _ hpost hH'
 | ret=>exact hQ _ _ _ _ hpost hH'
 | exit id' =>
  simp only at hpost
  by_cases he:id'=id
  ·rw[if_pos he]at hpost
   have:=hQ _ _ _ _ hpost hH'
   simpa [Ex.out,Exit.inBlock,he] using this
  ·rw[if_neg he]at hpost
   have:=hQ _ _ _ _ hpost hH'
   simpa [Ex.out,Exit.inBlock,he] using this
theorem WpL.seq {x y:Code}{L:List (Key×Val)}{Post:Ex->List (Key×Val)->Prop}(h:WpL P C x L fun e L'=>match e with|.normal=>WpL P C y L' Post|e=>Post e L'):WpL P C (.seq x y) L Post:=by
 intro w0 R0 a w Q ro n hro hH hQ;refine wpIn_seq (h w0 R0 a w _ ro n hro hH fun e L' a' w' hpost hH'=>?_)
 cases e with
 | normal=>exact hpost w0 R0 a' w' Q ro n hro hH' hQ
 | ret=>exact hQ _ _ _ _ hpost hH'
 | exit id'=>exact hQ _ _ _ _ hpost hH'
theorem WpL.wp {c:Code}{L:List (Key×Val)}{Post:Ex->List (Key×Val)->Prop}(h:WpL P C c L Post){w0 w:World}{R0:Foot}{a:Act}{Q:Exit->Act->World->Prop}(hH:Holds C w0 R0 a w (ofL L))(hQ:∀ e L' a' w',Post e L'->Holds C w0 R0 a' w' (ofL L')->Q e.out a' w'):c.wp P Q a w :=
 (wpIn_wide (n:=0)).1 (h w0 R0 a w Q none 0 (fun _=>rfl) hH hQ)
end
end Go.Di
namespace Go.Di
open Go.RowKit
section
variable {P:Program} {C:Cfg} {w0 w:World} {R0 R:Foot} {a:Act} {s:St} {β:Nat->Nat} {σ:Sig} {Q:Exit->Act->World->Prop} {wr:List (Key×Val)}
theorem Zf3:∀ {d:D} {v:Value},told d=true->Rel R w d v->RelA R w d v
 | .int _ _,_,_,h=>h|.bool _,_,_,h=>h|.nil,_,_,h=>h|.nilmap,_,_,h=>h|.nilfn,_,_,h=>h|.sl _ _ _,_,_,h=>h|.map _,_,_,h=>h
 | .undef,_,_,h=>h|.fn _ _ _,_,_,h=>h|.own _ _,_,_,h=>h|.ptr _ _,_,_,h=>h|.agg _,_,_,h=>h|.mref _,_,_,h=>h|.row _ _,_,_,h=>h|.self _ _ _,_,_,h=>h
 | .ref _ _,_,h,_=>by cases h
 | .tup _,_,h,_=>by cases h
def Zrh (P:Program)(a:Act)(w:World):ResultVar->Value->Prop
 | .tmp t,v=>v=a.tmps.getD t undef
 | .cell c t,v=>∃ ad,a.tmps.getD c undef=.pointer (some ad)/\(loadVar t ad).run P w=.ok v w
theorem Ynm (hT:Ybu P C.tt)(hI:Inv C w0 R0 a w s β σ R):∀ {rs:List ResultVar} {k:List D->M},(Yg9 C rs k).Ok s wr->∃ ds vs,(k ds).Ok s wr/\All2 (RelA R w) ds vs/\All2 (Zrh P a w) rs vs
 | [],k,h=>⟨[],[],h,trivial,trivial⟩
 | .tmp t::l,k,h=>by
  simp only[Yg9,M.Ok]at h
  split at h
  ·rename_i d hd;have hv:=hI.tmps t;simp only[St.tmp,hd]at hv;obtain⟨d',h1,h2⟩:=Yqr hI h hv
   split at h1
   ·rename_i ht;obtain⟨ds,vs,h3,h4,h5⟩:=Ynm hT hI h1;exact⟨d'::ds,_::vs,h3,⟨Zf3 ht h2,h4⟩,rfl,h5⟩
   ·exact h1.elim
  ·exact h.elim
 | .cell c t::l,k,h=>by
  simp only[Yg9,M.Ok]at h
  split at h
  ·rename_i ti hti;simp only[M.Ok]at h
   split at h
   ·rename_i b off hd;simp only[M.Ok]at h
    split at h
    ·rename_i bx hbx;have hv:=hI.tmps c;simp only[St.tmp,hd]at hv;obtain⟨⟨b',hb'⟩,hv⟩:=hv;have hbx:=Zn7 hbx;obtain⟨arr,el,p1,p2⟩:=(hI.box b bx hbx).all;obtain⟨q1,q2,d,q3,q4⟩:=Yf0 (β:=β) h p2;obtain⟨d',h1,h2⟩:=Yqr hI q3 q4
     split at h1
     ·rename_i ht;obtain⟨ds,vs,h3,h4,h5⟩:=Ynm hT hI h1;refine⟨d'::ds,_::vs,h3,⟨Zf3 ht h2,h4⟩,⟨_,hv,?_⟩,h5⟩
      have:=Yfz (P:=P) (C:=C) (w:=w) (hT t ti hti) (b:=β b) (o':=0) (off:=off) (arr.toList.take bx.cells.length) (fun j u hu=>by
       rw[Nat.zero_add,Ye1 p1];rw[List.getElem?_take]at hu
       split at hu
       ·simpa using hu
       ·cases hu) q1 q2
      rw[Nat.zero_add]at this;simpa [Instr.loadAt,Instr.sureAddr] using this
     ·exact h1.elim
    ·exact h.elim
   ·exact h.elim
  ·exact h.elim
theorem Zg4 {α:Type}(f:α->Sem Value):∀(l:List α) (vs:List Value),All2 (fun x v=>(f x).run P w=.ok v w) l vs->(l.mapM f).run P w=.ok vs w
 | [],[],_=>rfl
 | x::l,v::vs,⟨h1,h2⟩=>by
  rw[List.mapM_cons];simp only[Sem.run_bind,h1,Result.andThen_ok,Zg4 f l vs h2,Sem.run_pure]
 | [],_::_,h=>h.elim
 | _::_,[],h=>h.elim
theorem Yeu {fn:Func}{rs:List ResultVar}(hrs:fn.results.toList=rs){vs:List Value}(h:All2 (Zrh P a w) rs vs):(results fn a.tmps).run P w=.ok (if h:vs.length=1 then vs[0] else .tuple vs.toArray) w:=by
 unfold results;rw[Array.mapM_eq_mapM_toList,hrs];simp only[Sem.run_bind,Sem.run_map,map_eq_pure_bind]
 rw[Zg4 _ rs vs (h.imp fun r v hr=>by
  cases r with
  | tmp t =>
   simp only[Zrh]at hr;subst hr;rfl
  | cell c t =>
   obtain⟨ad,e1,e2⟩:=hr;simp only[e1,asAddr,pure_bind];exact e2)]
 simp only[Result.andThen_ok,Sem.run_pure,List.size_toArray,List.getElem_toArray]
theorem Zus (hT:Ybu P C.tt){rs:List ResultVar}{ps:List Prop}{r:D}(h:fin C rs s=some (ps,r))(hp:∀ p∈ps,p)(hI:Inv C w0 R0 a w s β σ R){fn:Func}(hrs:fn.results.toList=rs) :
  ∃ v,(results fn a.tmps).run P w=.ok v w/\Rel R w r v:=by
 unfold fin at h
 split at h
 ·rename_i ps' rd k r' he
  cases h
  have hok:=M.exec_ok _ _ _ he hp;obtain⟨ds,vs,h1,h2,h3⟩:=Ynm hT hI hok;obtain⟨wr',e1,e2⟩:=h1;simp only[List.cons.injEq,Prod.mk.injEq]at e1
  have er:r=one ds:=by
   have:=e1.1.2
   cases this
   rfl
  refine⟨_,Yeu hrs h3,?_⟩;subst er;have hl:=All2.length h2
  match ds,vs,hl,h2 with
  | [d],[v],_,h2 =>
   simp only[List.length_singleton,dite_true,List.getElem_cons_zero,one]
   have:=h2.1
   cases d<;>first|exact this|exact this.elim
  | [],[],_,_=>exact⟨#[],rfl,trivial⟩
  | d::d'::ds,v::v'::vs,_,h2 =>
   rw[dif_neg (by simp)];exact⟨_,rfl,h2⟩
  | [],_::_,hl,_=>simp at hl
  | [_],[],hl,_=>simp at hl
  | [_],_::_::_,hl,_=>simp at hl
  | _::_::_,[],hl,_=>simp at hl
  | _::_::_,[_],hl,_=>simp at hl
 ·cases h
theorem Ymv:∀(l:List D) (i k:Nat),(ofL (entry i l)) (.tmp k)=.d (if i<=k/\k<i+l.length then l.getD (k-i) .undef else .undef)
 | [],i,k=>by
  simp only[entry,ofL,dflt,List.length_nil,Nat.add_zero];rw[if_neg (by omega)]
 | d::l,i,k=>by
  simp only[entry,ofL];rw[Yla]
  by_cases h:i=k
  ·subst h;rw[if_pos rfl,if_pos ⟨Nat.le_refl _,by simp⟩];simp
  ·rw[if_neg h,Ymv l (i+1) k]
   congr 1
   by_cases h2:i+1<=k/\k<i+1+l.length
   ·rw[if_pos h2,if_pos ⟨by omega,by simp;omega⟩]
    have:k-i=(k-(i+1))+1:=by omega
    rw[this];simp
   ·rw[if_neg h2,if_neg (by simp;omega)]
theorem Ye6 (l:List D)(i k:Nat):(ofL (entry i l)) (.box k)=.bx none:=by
 induction l generalizing i with
 | nil=>rfl
 | cons d l ih=>simp only[entry,ofL];exact ih (i+1)
theorem Ymu (l:List D)(i k:Nat):(ofL (entry i l)).mp k=none:=by
 induction l generalizing i with
 | nil=>rfl
 | cons d l ih=>simp only[entry,ofL,Zlh];exact ih (i+1)
theorem Yiq (l:List D)(i k:Nat):(ofL (entry i l)) (.obj k)=.ob none:=by
 induction l generalizing i with
 | nil=>rfl
 | cons d l ih=>simp only[entry,ofL];exact ih (i+1)
theorem Yrq (hke:∀ b,¬C.ke b)(hno:∀ b,¬C.no b)(hfx:C.fixed=[])(hw1:C.w1.heap.size=0){args:List D}{vs:List Value}(hs:∀ b o,R b o->b<w.heap.size)(hg:∀ g cs,C.glob g=some cs->Rel R w (.ref cs 0) (.pointer (some ⟨g,0,none⟩)))(ha:All2 (Rel R w) args vs) :
  Inv C w R {tmps:=vs.toArray++Array.replicate (C.nt-vs.toArray.size) undef,defers:=C.dfs} w (ofL (entry 0 args)) (fun _=>0) (fun _=>(none,0)) R:=by
 refine⟨Below.refl _ _,rfl,fun i hi=>(by rw[hfx]at hi;cases hi),by simp;omega,fun _ _ h=>h,fun b o h=>⟨hs b o h,.inl h⟩,hg,fun i=>?_,fun i b hb=>?_,fun i j bi bj hi hj=>?_,fun k o ho=>?_,⟨by omega,fun b hb=>absurd hb (hke b),fun b hb=>absurd hb (hno b)⟩,.none (Ymu args 0)⟩
 ·have:(ofL (entry 0 args)).tmp i=args.getD i .undef:=by
   unfold St.tmp;rw[Ymv];simp only[Nat.zero_le,true_and,Nat.zero_add,Nat.sub_zero]
   by_cases h:i<args.length
   ·rw[if_pos h]
   ·rw[if_neg h,List.getD_eq_getElem?_getD,List.getElem?_eq_none (by omega)];rfl
  rw[this];have hl:=All2.length ha
  by_cases h:i<args.length
  ·obtain⟨v,hv,hr⟩:=All2.get ha i args[i] (List.getElem?_eq_getElem h);have e1:args.getD i .undef=args[i]:=by rw[List.getD_eq_getElem?_getD,List.getElem?_eq_getElem h];rfl
   have e2:(vs.toArray++Array.replicate (C.nt-vs.toArray.size) undef).getD i undef=v:=by
    rw[Array.getD_eq_getD_getElem?,Array.getElem?_append_left (by simp;omega),List.getElem?_toArray,hv];rfl
   rw[e1,e2];exact RelT.ofRel hr
  ·have e1:args.getD i .undef=.undef:=by rw[List.getD_eq_getElem?_getD,List.getElem?_eq_none (by omega)];rfl
   rw[e1];exact trivial
 ·unfold St.bx at hb;rw[Ye6]at hb
  cases hb
 ·unfold St.bx at hi;rw[Ye6]at hi
  cases hi
 ·unfold St.ob at ho;rw[Yiq]at ho
  cases ho
structure FnOk (P:Program) (C:Cfg) (f:FuncId) (c:Code) (rs:List ResultVar):Prop where
 ok : ∃ fn,P.funcs[f]? = some fn /\ (fn.name == "runtime.NumGoroutine") = false /\ fn.body = some c /\ fn.ntmps = C.nt /\ fn.results.toList = rs
theorem Yk3 (hT:Ybu P C.tt)(hd:C.dfs=[])(hke:∀ b,¬C.ke b)(hno:∀ b,¬C.no b)(hfx:C.fixed=[])(hw1:C.w1.heap.size=0){f:FuncId}{c:Code}{rs:List ResultVar}(hf:FnOk P C f c rs){args:List D}{r:D}
  (h:WpL P C c (entry 0 args) fun e L'=>(∀ id,e≠.exit id)/\∃ ps,fin C rs (ofL L')=some (ps,r)/\∀ p∈ps,p):Contract P C.glob f args r:=by
 obtain⟨fn,h1,h2,h3,h4,h5⟩:=hf.ok;refine⟨⟨fn,h1,h2,by rw[h3];rfl⟩,fun w R vs hs hg ha=>?_⟩;refine calls_of_wp h1 h3 ?_;have hI:=Yrq (C:=C) hke hno hfx hw1 hs hg ha;rw[hd]at hI;rw[h4];refine h.wp ⟨_,_,_,hI⟩ fun e L' a' w' hpost hH'=>?_;obtain⟨hne,ps,hfin,hps⟩:=hpost;obtain⟨β,σ,R',hI'⟩:=hH';obtain⟨v,hv,hr⟩:=Zus hT hfin hps hI' h5
 have hend:a'.defers=[]/\∃ v,(results fn a'.tmps).run P w'=.ok v w'/\(∃ v',Ending.returned v=.returned v'/\Below w.heap.size w w'/\∃ R':Foot,(∀ b o,R b o->R' b o)/\(∀ b o,R' b o->b<w'.heap.size/\(R b o\/w.heap.size<=b))/\Rel R' w' r v') :=
  ⟨hI'.defers.trans hd,v,hv,v,rfl,hI'.below,R',hI'.sub,hI'.dom,hr⟩
 cases e with
 | normal=>exact hend
 | ret=>exact hend
 | exit id=>exact absurd rfl (hne id)
theorem Yo5 (hG:Good P C)(hd:C.dfs=[])(hke:∀ b,¬C.ke b)(hno:∀ b,¬C.no b)(hfx:C.fixed=[])(hw1:C.w1.heap.size=0){f:FuncId}{c:Code}{rs:List ResultVar}(hf:FnOk P C f c rs){dec:List (Nat×Bool)}{orc:List (Nat×D)}{lorc:Lorc}{args:List D}{ps:List Prop}{r:D}
  (h:Yaj C dec orc lorc c rs args=some (ps,r)) (hp:∀ p∈ps,p):Contract P C.glob f args r:=by
 unfold Yaj at h;obtain⟨fn,h1,h2,h3,h4,h5⟩:=hf.ok;refine⟨⟨fn,h1,h2,by rw[h3];rfl⟩,fun w R vs hs hg ha=>?_⟩;refine calls_of_wp h1 h3 ?_;have hI:=Yrq (C:=C) hke hno hfx hw1 hs hg ha;rw[hd]at hI;rw[h4]
 split at h
 ·cases h
 ·rename_i ps1 e s1 hne hrun
  split at h
  ·rename_i qs r' hfin
   cases h
   refine(wpIn_wide (n:=0)).1 (Yf7 hG (ro:=none) (fun _=>rfl) c _ ps1 e s1 _ w _ hrun (fun p hpp=>hp p (by simp[hpp])) ⟨_,_,_,hI⟩ fun a' w' hH'=>?_);obtain⟨β,σ,R',hI'⟩:=hH';obtain⟨v,hv,hr⟩:=Zus hG.tab hfin (fun p hpp=>hp p (by simp[hpp])) hI' h5
   have hend:a'.defers=[]/\∃ v,(results fn a'.tmps).run P w'=.ok v w'/\(∃ v',Ending.returned v=.returned v'/\Below w.heap.size w w'/\∃ R':Foot,(∀ b o,R b o->R' b o)/\(∀ b o,R' b o->b<w'.heap.size/\(R b o\/w.heap.size<=b))/\Rel R' w' r v') :=
    ⟨hI'.defers.trans hd,v,hv,v,rfl,hI'.below,R',hI'.sub,hI'.dom,hr⟩
   cases e with
   | normal=>exact hend
   | ret=>exact hend
   | exit id=>exact(hne _ rfl).elim
  ·cases h
 ·cases h
end
end Go.Di
namespace Go.Di
open Go.RowKit
def chk1:D->Value->Bool
 | .int k n,.int k' n'=>decide (k=k')&&decide (n=n')
 | .bool b,.bool b'=>decide (b=b')
 | .nil,.slice none 0 0=>true
 | .nilmap,.map none=>true
 | .nilfn,.nilFunc=>true
 | _,_=>false
def chkZ:List D->List Value->Bool
 | [],[]=>true
 | d::l,v::m=>chk1 d v&&chkZ l m
 | _,_=>false
def chkF (tt:TypeId->Option TI):List (Nat×TypeId)->List Field->Bool
 | [],[]=>true
 | (o,t) :: l,f :: m => Nat.beq o f.offset && Nat.beq t f.type && (match tt t with | some _ => true | none => false) && f.name != "_" && chkF tt l m
 | _,_=>false
def chkD (P:Program)(tt:TypeId->Option TI)(t:TypeId):TK->TypeDesc->Bool
 | .int k,.int k'=>decide (k=k')
 | .bool,.bool=>true
 | .struct fs,.struct fields=>chkF tt fs fields.toList&&!(P.stoodInHeld t)
 | .array n el,.array n' el'=>Nat.beq n n'&&Nat.beq el el'&&(match tt el with|some _=>true|none=>false)
 | .slice el,.slice el'=>Nat.beq el el'&&(match tt el with|some _=>true|none=>false)
 | .map kt et _,.map kt' et'=>Nat.beq kt kt'&&Nat.beq et et'
 | .other,d=>match d with
  | .struct _=>false
  | .array _ _=>false
  | _=>true
 | _,_=>false
def oneV:Value->Bool
 | .agg _=>false
 | _=>true
theorem Xeu {v:Value}(h:oneV v=true):v.cells=#[v]:=by cases v<;>first|rfl|cases h
def Xbp (P:Program)(tt:TypeId->Option TI)(t:TypeId)(ti:TI):Bool :=
 match P.info? t,P.underlying t with
 | some i,some d=>Nat.beq i.size ti.sz&&Nat.beq i.bytes ti.bytes&&Nat.beq ti.zero.length ti.sz&&(match i.zero with|some z=>chkZ ti.zero z.cells.toList&&(ti.agg||oneV z)|none=>false)&&chkD P tt t ti.k d
 | _,_=>false
def Zhz (P:Program)(tt:TypeId->Option TI):List (Nat×TI)->Bool
 | []=>true
 | (t,ti)::l=>Xbp P tt t ti&&Zhz P tt l
theorem Xf8 {R:Foot}{w:World}{d:D}{v:Value}(h:chk1 d v=true):RelC0 R w d v:=by
 unfold chk1 at h
 split at h
 ·simp only[Bool.and_eq_true,decide_eq_true_eq]at h;obtain⟨rfl,rfl⟩:=h;rfl
 ·simp only[decide_eq_true_eq]at h;subst h;rfl
 ·rfl
 ·rfl
 ·rfl
 ·cases h
theorem Zvp (R:Foot)(w:World):∀(l:List D) (m:List Value),chkZ l m=true->All2 (RelC0 R w) l m
 | [],[],_=>trivial
 | d::l,v::m,h=>by
  simp only[chkZ,Bool.and_eq_true]at h;exact⟨Xf8 h.1,Zvp R w l m h.2⟩
 | [],_::_,h=>by cases h
 | _::_,[],h=>by cases h
theorem Zvq {tt : TypeId -> Option TI} : ∀ (l : List (Nat × TypeId)) (m : List Field),chkF tt l m = true -> l.length = m.length /\ (∀ (i : Nat) (f : Field),m[i]? = some f -> l[i]? = some (f.offset,f.type) /\ ∃ tf,tt f.type = some tf) /\ ∀ f ∈ m,f.name ≠ "_"
 | [],[],_=>⟨rfl,fun i f h=>by simp at h,fun f h=>by cases h⟩
 | (o,t)::l,f::m,h=>by
  simp only[chkF,Bool.and_eq_true,bne_iff_ne]at h;obtain⟨⟨⟨⟨h1,h2⟩,h3⟩,h4⟩,h5⟩:=h;have h1:=Nat.eq_of_beq_eq_true h1;have h2:=Nat.eq_of_beq_eq_true h2;subst h1 h2;obtain⟨k1,k2,k3⟩:=Zvq l m h5;refine⟨by simp[k1],fun i f' hf'=>?_,fun f' hf'=>?_⟩
  ·cases i with
   | zero =>
    simp only[List.getElem?_cons_zero,Option.some.injEq]at hf';subst hf';refine⟨rfl,?_⟩
    split at h3
    ·rename_i tf htf;exact⟨tf,htf⟩
    ·cases h3
   | succ i =>
    simp only[List.getElem?_cons_succ]at hf' ⊢;exact k2 i f' hf'
  ·rcases List.mem_cons.1 hf' with rfl|hf'
   ·exact h4
   ·exact k3 f' hf'
 | [],_::_,h=>by cases h
 | _::_,[],h=>by cases h
theorem Xbo {P:Program}{tt:TypeId->Option TI}{t:TypeId}{ti:TI}(h:Xbp P tt t ti=true)(he:ti.eq=true->P.eqGuardType P.depth t=false/\∀(w:World) (xs ys:List Int),xs.length=ti.sz->ys.length=ti.sz->(Op.equal t (.agg (xs.map (Value.int .i64)).toArray) (.agg (ys.map (Value.int .i64)).toArray)).run P w=.ok (eqI xs ys) w):TIok P tt t ti:=by
 unfold Xbp at h
 split at h
 ·rename_i i d hi hd;simp only[Bool.and_eq_true]at h;obtain⟨⟨⟨⟨h1,h2⟩,h3⟩,h4⟩,h5⟩:=h;refine⟨he,?_,?_,?_⟩
  ·split at h4
   ·rename_i z hz;simp only[Bool.and_eq_true]at h4;exact⟨i,z,hi,Nat.eq_of_beq_eq_true h1,Nat.eq_of_beq_eq_true h2,hz,Nat.eq_of_beq_eq_true h3,fun R w=>Zvp R w _ _ h4.1⟩
   ·cases h4
  ·cases hk:ti.k with
   | int k =>
    rw[hk]at h5
    cases d<;>simp only[chkD,Bool.false_eq_true]at h5
    simp only[decide_eq_true_eq]at h5;subst h5;exact hd
   | bool =>
    rw[hk]at h5
    cases d<;>simp only[chkD,Bool.false_eq_true]at h5
    exact hd
   | struct fs =>
    rw[hk]at h5
    cases d<;>simp only[chkD,Bool.false_eq_true]at h5
    rename_i fields;simp only[Bool.and_eq_true,Bool.not_eq_true']at h5;obtain⟨k1,k2,k3⟩:=Zvq _ _ h5.1;exact⟨fields,hd,fun i f hf=>k2 i f (by simpa using hf),by simp at k1;omega,k3,h5.2⟩
   | array n el =>
    rw[hk]at h5
    cases d<;>simp only[chkD,Bool.false_eq_true]at h5
    simp only[Bool.and_eq_true]at h5;obtain⟨⟨e1,e2⟩,e3⟩:=h5;have e1:=Nat.eq_of_beq_eq_true e1;have e2:=Nat.eq_of_beq_eq_true e2;subst e1 e2;refine⟨hd,?_⟩
    split at e3
    ·rename_i te hte;exact⟨te,hte⟩
    ·cases e3
   | slice el =>
    rw[hk]at h5
    cases d<;>simp only[chkD,Bool.false_eq_true]at h5
    simp only[Bool.and_eq_true]at h5;obtain⟨e2,e3⟩:=h5;have e2:=Nat.eq_of_beq_eq_true e2;subst e2;refine⟨hd,?_⟩
    split at e3
    ·rename_i te hte;exact⟨te,hte⟩
    ·cases e3
   | map kt et sp =>
    rw[hk]at h5
    cases d<;>simp only[chkD,Bool.false_eq_true]at h5
    simp only[Bool.and_eq_true]at h5;have e1:=Nat.eq_of_beq_eq_true h5.1;have e2:=Nat.eq_of_beq_eq_true h5.2;subst e1 e2;exact hd
   | other =>
    rw[hk]at h5;refine⟨d,hd,fun fs e=>?_,fun n e e'=>?_⟩
    ·subst e;simp[chkD]at h5
    ·subst e';simp[chkD]at h5
  ·intro i' z hi' hz ha;rw[hi]at hi'
   cases hi'
   rw[hz]at h4;simp only[ha,Bool.false_or,Bool.and_eq_true]at h4;exact Xeu h4.2
 ·cases h
def valI (agg:Bool)(xs:List Int):Value:=match agg with
 | true=>.agg (xs.map (Value.int .i64)).toArray
 | false=>.int .i64 (xs.headD 0)
def EqT (P:Program)(k:Nat)(t:TypeId)(ti:TI):Prop:=∀(d:Nat) (w:World) (xs ys:List Int),xs.length=ti.sz->ys.length=ti.sz->(Op.equalIn (d+k) t (valI ti.agg xs) (valI ti.agg ys)).run P w=.ok (eqI xs ys) w
def Zai (tt:TypeId->Option TI):Nat->List (Nat×TypeId)->Option Nat
 | n,[]=>some n
 | n,(o,t)::l=>match Nat.beq o n,tt t with
  | true,some ti=>Zai tt (n+ti.sz) l
  | _,_=>none
def eqChk (tt:TypeId->Option TI):Nat->TypeId->Bool
 | 0,_=>false
 | k+1,t=>match tt t with
  | some ti=>match ti.k with
   | .int k'=>decide (k'=.i64)&&Nat.beq ti.sz 1
   | .struct fs=>(match Zai tt 0 fs with|some n=>Nat.beq n ti.sz|none=>false)&&fs.all fun p=>eqChk tt k p.2
   | .array n el=>(match tt el with|some te=>Nat.beq (n*te.sz) ti.sz|none=>false)&&eqChk tt k el
   | _=>false
  | none=>false
theorem Yoa:∀(a b c d:List Int),a.length=c.length->eqI (a++b) (c++d)=(eqI a c&&eqI b d)
 | [],b,[],d,_=>by simp[eqI]
 | x::a,b,y::c,d,h=>by
  simp only[List.cons_append,eqI];rw[Yoa a b c d (by simpa using h),Bool.and_assoc]
 | [],_,_::_,_,h=>by simp at h
 | _::_,_,[],_,h=>by simp at h
theorem Yl9 {P:Program}{C:Cfg}{w:World}{t:TypeId}{ti:TI}(hT:TIok P C.tt t ti){off:Nat}(xs:List Int)(hle:off+ti.sz<=xs.length)(hsz:ti.agg=false->ti.sz=1) :
  (part t (xs.map (Value.int .i64)).toArray off).run P w=.ok (valI ti.agg ((xs.drop off).take ti.sz)) w:=by
 rw[Yma (C:=C) hT _ (by simpa using hle) hsz]
 cases ha:ti.agg with
 | true=>simp[valI,List.map_take,List.map_drop]
 | false =>
  have:=hsz ha
  simp only[Bool.false_eq_true,if_false,valI];have hlt:off<xs.length:=by omega
  rw[this]
  have e1:(xs.drop off).take 1=[xs[off]]:=by
   rw[List.drop_eq_getElem_cons hlt];rfl
  rw[e1];simp[List.getD_eq_getElem?_getD,hlt]
theorem Ywj {P:Program}{C:Cfg}(hT:Ybu P C.tt):∀(k:Nat) (t:TypeId) (ti:TI),C.tt t=some ti->eqChk C.tt k t=true->EqT P k t ti/\(ti.agg=false->ti.sz=1)
 | 0,_,_,_,h=>by cases h
 | k+1,t,ti,ht,h=>by
  simp only[eqChk,ht]at h;have hti:=hT t ti ht;have hu:=hti.und
  split at h
  ·rename_i k' hk;simp only[Bool.and_eq_true,decide_eq_true_eq]at h;obtain⟨rfl,h1⟩:=h;have h1:=Nat.eq_of_beq_eq_true h1;rw[hk]at hu;have ha:ti.agg=false:=by unfold TI.agg;rw[hk]
   refine⟨fun d w xs ys hx hy=>?_,fun _=>h1⟩
   obtain⟨x,rfl⟩:∃ x,xs=[x]:=by
    match xs,hx.trans h1 with
    | [x],_=>exact⟨x,rfl⟩
   obtain⟨y,rfl⟩:∃ y,ys=[y]:=by
    match ys,hy.trans h1 with
    | [y],_=>exact⟨y,rfl⟩
   rw[ha];simp only[valI,List.headD_cons,eqI,Bool.and_true];exact run_equalIn_int w (d+k) t .i64 .i64 x y hu
  ·rename_i fs hk;simp only[Bool.and_eq_true,List.all_eq_true]at h;obtain⟨h1,h2⟩:=h;rw[hk]at hu;obtain⟨fields,u1,u2,u3,u4,u5⟩:=hu;have ha:ti.agg=true:=by unfold TI.agg;rw[hk]
   refine⟨fun d w xs ys hx hy=>?_,fun hf=>by rw[ha]at hf;cases hf⟩;rw[ha];simp only[valI];have hfo:P.fieldsOf t=fields:=by simp[Program.fieldsOf,u1]
   have hrun:=run_equalIn_struct (P:=P) w (d+k) t (xs.map (Value.int .i64)).toArray (ys.map (Value.int .i64)).toArray (by rw[hfo];exact u1) u5;rw[show d+(k+1)=(d+k)+1 by omega,hrun,hfo]
   split at h1
   ·rename_i n hn;have h1:=Nat.eq_of_beq_eq_true h1;subst h1
    have key : ∀ (l : List Field) (fl : List (Nat × TypeId)) (o : Nat),l.length = fl.length -> (∀ (i : Nat) (f : Field),l[i]? = some f -> fl[i]? = some (f.offset,f.type) /\ ∃ tf,C.tt f.type = some tf) -> (∀ f ∈ l,f.name ≠ "_") -> (∀ p ∈ fl,eqChk C.tt k p.2 = true) ->
      Zai C.tt o fl=some ti.sz->o<=ti.sz/\(Op.eqFields (d+k) (xs.map (Value.int .i64)).toArray (ys.map (Value.int .i64)).toArray l).run P w=.ok (eqI (xs.drop o) (ys.drop o)) w:=by
     intro l
     induction l with
     | nil =>
      intro fl o hl _ _ _ hc
      cases fl with
      | nil =>
       simp only[Zai,Option.some.injEq]at hc;subst hc;refine⟨Nat.le_refl _,?_⟩;rw[List.drop_of_length_le (by omega),List.drop_of_length_le (by omega)];rfl
      | cons p fl=>simp at hl
     | cons f l ih =>
      intro fl o hl hget hname hchk hc
      cases fl with
      | nil=>simp at hl
      | cons p fl =>
       obtain⟨o',t'⟩:=p;have h0:=(hget 0 f rfl).1;simp only[List.getElem?_cons_zero,Option.some.injEq,Prod.mk.injEq]at h0;obtain⟨rfl,rfl⟩:=h0;obtain⟨tf,htf⟩:=(hget 0 f rfl).2;simp only[Zai,htf]at hc
       split at hc
       ·rename_i hb hs;have hb:=Nat.eq_of_beq_eq_true hb
        cases hs
        obtain⟨e1,e2⟩:=ih fl (o+tf.sz) (by simpa using hl) (fun i f' hf'=>by simpa using hget (i+1) f' (by simpa using hf')) (fun f' hf'=>hname f' (by simp[hf'])) (fun p hp=>hchk p (by simp[hp])) hc;obtain⟨q1,q2⟩:=Ywj hT k f.type tf htf (hchk (f.offset,f.type) (by simp));refine⟨by omega,?_⟩;have p1:=Yl9 (C:=C) (w:=w) (hT _ _ htf) (off:=f.offset) xs (by omega) q2;have p2:=Yl9 (C:=C) (w:=w) (hT _ _ htf) (off:=f.offset) ys (by omega) q2
        have p3:=q1 d w ((xs.drop f.offset).take tf.sz) ((ys.drop f.offset).take tf.sz) (by simp;omega) (by simp;omega);have hn:=hname f (by simp);rw[hb]at p1 p2 p3
        have es:eqI (xs.drop o) (ys.drop o)=(eqI ((xs.drop o).take tf.sz) ((ys.drop o).take tf.sz)&&eqI (xs.drop (o+tf.sz)) (ys.drop (o+tf.sz))):=by
         rw[<-Yoa _ _ _ _ (by simp;omega)]
         congr 1
         ·rw[<-List.drop_drop,List.take_append_drop]
         ·rw[<-List.drop_drop,List.take_append_drop]
        simp only[Op.eqFields,hn,ne_eq,not_false_eq_true,if_true,Sem.run_bind,hb,p1,p2,p3,Result.andThen_ok];rw[es]
        cases eqI ((xs.drop o).take tf.sz) ((ys.drop o).take tf.sz) with
        | true=>simp only[Bool.not_true,Bool.false_eq_true,if_false,Bool.true_and];exact e2
        | false=>simp
       ·cases hc
    have:=(key fields.toList fs 0 (by simp;exact u3) (fun i f hf=>u2 i f (by simpa using hf)) u4 h2 hn).2
    simpa using this
   ·cases h1
  ·rename_i n el hk;simp only[Bool.and_eq_true]at h;obtain⟨h1,h2⟩:=h;rw[hk]at hu;obtain⟨u1,te,u2⟩:=hu;rw[u2]at h1;have h1:=Nat.eq_of_beq_eq_true h1;have ha:ti.agg=true:=by unfold TI.agg;rw[hk]
   refine⟨fun d w xs ys hx hy=>?_,fun hf=>by rw[ha]at hf;cases hf⟩;rw[ha];simp only[valI];obtain⟨q1,q2⟩:=Ywj hT k el te u2 h2;have hs:=Ycj (P:=P) (C:=C) (w:=w) (hT _ _ u2)
   have key:∀(m i:Nat),(i+m)*te.sz=ti.sz ->
     (forIn (m:=Sem) (List.range' i m) ((none,()):Option Bool×Unit) (fun i (_:Option Bool×Unit)=>do
      let a <-part el (xs.map (Value.int .i64)).toArray (i*te.sz)
      let b <-part el (ys.map (Value.int .i64)).toArray (i*te.sz)
      let r <-Op.equalIn (d+k) el a b
      if (!r)=true then pure (ForInStep.done ((some false,()):Option Bool×Unit)) else pure (ForInStep.yield (none,())))).run P w =
     .ok (match eqI (xs.drop (i*te.sz)) (ys.drop (i*te.sz)) with|true=>(none,())|false=>(some false,())) w:=by
    intro m
    induction m with
    | zero =>
     intro i hi;rw[Nat.add_zero]at hi;rw[List.drop_of_length_le (by omega),List.drop_of_length_le (by omega)];rfl
    | succ m ih =>
     intro i hi
     have hle:i*te.sz+te.sz<=ti.sz:=by
      rw[<-hi,show i+(m+1)=i+1+m by omega,Nat.add_mul (i+1),Nat.add_mul];omega
     have ih':=ih (i+1) (by rw[show i+1+m=i+(m+1) by omega];exact hi);have p1:=Yl9 (C:=C) (w:=w) (hT _ _ u2) (off:=i*te.sz) xs (by omega) q2;have p2:=Yl9 (C:=C) (w:=w) (hT _ _ u2) (off:=i*te.sz) ys (by omega) q2;have p3:=q1 d w ((xs.drop (i*te.sz)).take te.sz) ((ys.drop (i*te.sz)).take te.sz) (by simp;omega) (by simp;omega);have e1:(i+1)*te.sz=i*te.sz+te.sz:=by rw[Nat.add_mul];omega
     have es:eqI (xs.drop (i*te.sz)) (ys.drop (i*te.sz))=(eqI ((xs.drop (i*te.sz)).take te.sz) ((ys.drop (i*te.sz)).take te.sz)&&eqI (xs.drop ((i+1)*te.sz)) (ys.drop ((i+1)*te.sz))):=by
      rw[<-Yoa _ _ _ _ (by simp;omega),e1]
      congr 1
      ·rw[<-List.drop_drop,List.take_append_drop]
      ·rw[<-List.drop_drop,List.take_append_drop]
     rw[List.range'_succ,List.forIn_cons];simp only[Sem.run_bind,p1,p2,p3,Result.andThen_ok];rw[es]
     cases eqI ((xs.drop (i*te.sz)).take te.sz) ((ys.drop (i*te.sz)).take te.sz) with
     | true =>
      simp only[Bool.not_true,Bool.false_eq_true,if_false,Bool.true_and,Sem.run_pure,Result.andThen_ok];exact ih'
     | false=>simp
   have:=key n 0 (by simpa using h1)
   simp only[Nat.zero_mul,List.drop_zero]at this;rw[show d+(k+1)=(d+k)+1 by omega];simp only[Op.equalIn,Sem.run_bind,run_underlying u1,Result.andThen_ok,hs];rw[Std.Legacy.Range.forIn_eq_forIn_range'];simp only[Std.Legacy.Range.size,Nat.sub_zero,Nat.add_one_sub_one,Nat.div_one];rw[this]
   cases eqI xs ys<;>rfl
  ·cases h
def noEq (ti:TI):TI:=⟨ti.k,ti.sz,ti.bytes,ti.zero,ti.e,false⟩
def Xit (P:Program)(l:List (Nat×TI))(tt:TypeId->Option TI):Bool:=l.all fun p=>!p.2.eq||(p.2.agg&&eqChk tt 9 p.1&&!(P.eqGuardType P.depth p.1))
def Xcs (P:Program)(l:List (Nat×TI)):Bool:=Zhz P (Yac (l.map fun p=>(p.1,noEq p.2))) (l.map fun p=>(p.1,noEq p.2))&&Xit P l (Yac (l.map fun p=>(p.1,noEq p.2)))
theorem Yq2 {α:Type}:∀ {l:List (Nat×α)} {n:Nat} {a:α},Yac l n=some a->(n,a)∈l
 | (k,v)::l,n,a,h=>by
  simp only[Yac]at h
  split at h
  ·rename_i hk
   cases h
   rw[Nat.eq_of_beq_eq_true hk];simp
  ·exact List.mem_cons_of_mem _ (Yq2 h)
theorem Ymb {α γ:Type}(f:α->γ):∀(l:List (Nat×α)) (n:Nat),Yac (l.map fun p=>(p.1,f p.2)) n=(Yac l n).map f
 | [],_=>rfl
 | (k,v)::l,n=>by
  simp only[List.map_cons,Yac]
  split<;>first|rfl|exact Ymb f l n
theorem Yud {P:Program}{tt:TypeId->Option TI}:∀ {l:List (Nat×TI)},Zhz P tt l=true->∀ {p:Nat×TI},p∈l->Xbp P tt p.1 p.2=true
 | [],_,_,h=>by cases h
 | (t,ti)::l,h,p,hm=>by
  simp only[Zhz,Bool.and_eq_true]at h;rcases List.mem_cons.1 hm with rfl|hm
  ·exact h.1
  ·exact Yud h.2 hm
theorem Zxj {P:Program}{l:List (Nat×TI)}(h:Xcs P l=true):Ybu P (Yac l):=by
 simp only[Xcs,Bool.and_eq_true]at h;obtain⟨h1,h2⟩:=h
 have hT0:Ybu P (Yac (l.map fun p=>(p.1,noEq p.2))):=by
  intro t ti ht;refine Xbo (Yud h1 (Yq2 ht)) (fun he=>?_);rw[Ymb,Option.map_eq_some_iff]at ht;obtain⟨ti',_,rfl⟩:=ht
  cases he
 intro t ti ht;have ht0:Yac (l.map fun p=>(p.1,noEq p.2)) t=some (noEq ti):=by rw[Ymb,ht];rfl
 have hti:=hT0 t _ ht0
 have hsome:∀ t' tf,(Yac (l.map fun p=>(p.1,noEq p.2))) t'=some tf->∃ tf',Yac l t'=some tf':=by
  intro t' tf h;rw[Ymb,Option.map_eq_some_iff]at h;obtain⟨x,hx,_⟩:=h;exact⟨x,hx⟩
 refine⟨fun he=>?_,hti.info,?_,hti.zer⟩
 ·simp only[Xit,List.all_eq_true]at h2
  have:=h2 _ (Yq2 ht)
  simp only[he,Bool.not_true,Bool.false_or,Bool.and_eq_true,Bool.not_eq_true']at this;obtain⟨⟨ha,hq⟩,hg⟩:=this;refine⟨hg,fun w xs ys hx hy=>?_⟩;have hq':=(Ywj (C:={tt:=Yac (l.map fun p=>(p.1,noEq p.2)),glob:=fun _=>none,con:=fun _ _ _=>False,nt:=0,lk:=fun _ _ _ _=>False}) hT0 9 t (noEq ti) ht0 hq).1 9991 w xs ys hx hy;have ha':(noEq ti).agg=true:=ha;rw[ha']at hq';exact hq'
 ·have hu:=hti.und
  cases hk:ti.k with
  | int k=>rw[show(noEq ti).k=ti.k from rfl,hk]at hu;exact hu
  | bool=>rw[show(noEq ti).k=ti.k from rfl,hk]at hu;exact hu
  | struct fs =>
   rw[show(noEq ti).k=ti.k from rfl,hk]at hu;obtain⟨fields,u1,u2,u3⟩:=hu;exact⟨fields,u1,fun i f hf=>⟨(u2 i f hf).1,by obtain⟨tf,htf⟩:=(u2 i f hf).2;exact hsome _ _ htf⟩,u3⟩
  | array n el =>
   rw[show(noEq ti).k=ti.k from rfl,hk]at hu;obtain⟨u1,te,u2⟩:=hu;exact⟨u1,hsome _ _ u2⟩
  | slice el =>
   rw[show(noEq ti).k=ti.k from rfl,hk]at hu;obtain⟨u1,te,u2⟩:=hu;exact⟨u1,hsome _ _ u2⟩
  | map kt et sp=>rw[show(noEq ti).k=ti.k from rfl,hk]at hu;exact hu
  | other=>rw[show(noEq ti).k=ti.k from rfl,hk]at hu;exact hu
end Go.Di
namespace Go.Di
open Go.RowKit
section
variable {P:Program}
theorem Inv.same {C C':Cfg}{w0 w:World}{R0 R:Foot}{a:Act}{s:St}{β:Nat->Nat}{σ:Sig}(hn:C'.nt=C.nt)(hg:C'.glob=C.glob)(hd:C'.dfs=C.dfs)(hke:C'.ke=C.ke)(hno:C'.no=C.no)(hw1:C'.w1=C.w1)(hf1:C'.fixed=C.fixed)(hf2:C'.fv=C.fv)(h:Inv C w0 R0 a w s β σ R):Inv C' w0 R0 a w s β σ R :=
 ⟨h.below,by rw[hd];exact h.defers,by rw[hf1,hf2];exact h.fix,by rw[hn];exact h.nt,h.sub,h.dom,fun g cs hc=>h.glob g cs (by rw[<-hg];exact hc),h.tmps,h.box,h.inj,h.obj,⟨by rw[hw1];exact h.far.sz,fun b hb=>by rw[hw1];exact h.far.ke b (by rw[<-hke];exact hb),fun b hb=>h.far.no b (by rw[<-hno];exact hb)⟩,h.mps⟩
theorem Holds.same {C C':Cfg}{w0 w:World}{R0:Foot}{a:Act}{s:St}(hn:C'.nt=C.nt)(hg:C'.glob=C.glob)(hd:C'.dfs=C.dfs)(hke:C'.ke=C.ke)(hno:C'.no=C.no)(hw1:C'.w1=C.w1)(hf1:C'.fixed=C.fixed)(hf2:C'.fv=C.fv)(h:Holds C w0 R0 a w s):Holds C' w0 R0 a w s:=by
 obtain⟨β,σ,R,h⟩:=h;exact⟨β,σ,R,h.same hn hg hd hke hno hw1 hf1 hf2⟩
theorem WpL.same {C C':Cfg}{c:Code}{L:List (Key×Val)}{Post:Ex->List (Key×Val)->Prop}(hn:C'.nt=C.nt)(hg:C'.glob=C.glob)(hd:C'.dfs=C.dfs)(hke:C'.ke=C.ke)(hno:C'.no=C.no)(hw1:C'.w1=C.w1)(hf1:C'.fixed=C.fixed)(hf2:C'.fv=C.fv)(hi:C'.inr=false->C.inr=false->True)(hr:C.inr=false->C'.inr=false)(h:WpL P C c L Post):WpL P C' c L Post :=
 fun w0 R0 a w Q ro n hro hH hQ=>h w0 R0 a w Q ro n (fun x=>hro (hr x)) (hH.same hn.symm hg.symm hd.symm hke.symm hno.symm hw1.symm hf1.symm hf2.symm) fun e L' a' w' hp hH'=>hQ e L' a' w' hp (hH'.same hn hg hd hke hno hw1 hf1 hf2)
def mk0 (glob:Nat->Option (List D))(n:Nat):Cfg:={tt:=fun _=>none,glob:=glob,con:=fun _ _ _=>False,nt:=n,lk:=fun _ _ _ _=>False}
structure LoopT (P:Program) (glob:Nat->Option (List D)) (n:Nat) (c:Code) (L:List (Key×Val)) (e:Ex) (L':List (Key×Val)):Prop where
 wp:WpL P (mk0 glob n) c L (fun e' L''=>e'=e/\L''=L')
def mk (P:Program)(tt:TypeId->Option TI)(glob:Nat->Option (List D))(n:Nat):Cfg:={tt:=tt,glob:=glob,con:=fun f args r=>Contract P glob f args r,nt:=n,lk:=fun c L e L'=>LoopT P glob n c L e L'}
theorem good {tt:TypeId->Option TI}{glob:Nat->Option (List D)}{n:Nat}(hm:P.follows .mixedOrders=true)(hT:Ybu P tt):Good P (mk P tt glob n) :=
 ⟨hm,hT,fun _ _ _ h=>h,fun _ _ _ _ h=>WpL.same (C:=mk0 glob n) rfl rfl rfl rfl rfl rfl rfl rfl (fun _ _=>trivial) (fun _=>rfl) h.wp⟩
theorem LoopT.of {tt:TypeId->Option TI}{glob:Nat->Option (List D)}{n:Nat}{c:Code}{L L':List (Key×Val)}{e:Ex}(h:WpL P (Di.mk P tt glob n) c L (fun e' L''=>e'=e/\L''=L')):LoopT P glob n c L e L' :=
 ⟨WpL.same (C:=Di.mk P tt glob n) (C':=mk0 glob n) rfl rfl rfl rfl rfl rfl rfl rfl (fun _ _=>trivial) (fun _=>rfl) h⟩
def allP:List Prop->Prop
 | []=>True
 | p::l=>p/\allP l
theorem allP_mem:∀ {l:List Prop},allP l->∀ p∈l,p
 | _::_,h,_,hp=>by
  rcases List.mem_cons.1 hp with rfl|hp
  ·exact h.1
  ·exact allP_mem h.2 _ hp
theorem WpL.path {C:Cfg}(hG:Good P C){dec:List (Nat×Bool)}{orc:List (Nat×D)}{lorc:Lorc}{c:Code}{L L':List (Key×Val)}{ks:List Key}{ps:List Prop}{e:Ex}{Post:Ex->List (Key×Val)->Prop}
  (h:Di.runK C dec orc lorc c L ks=some (ps,e,L')) (hp:allP ps) (hpost:Post e L'):WpL P C c L Post:=WpL.runK hG h (allP_mem hp) hpost
theorem Yaa {tt:TypeId->Option TI}{glob:Nat->Option (List D)}{n:Nat}(hG:Good P (mk P tt glob n)){f:FuncId}{c:Code}{rs:List ResultVar}(hf:FnOk P (mk P tt glob n) f c rs){dec:List (Nat×Bool)}{orc:List (Nat×D)}{lorc:Lorc}{args:List D}{ps:List Prop}{r:D}
  (h:Yaj (mk P tt glob n) dec orc lorc c rs args=some (ps,r)) (hp:allP ps):Contract P glob f args r:=Yo5 hG rfl (fun _ h=>h) (fun _ h=>h) rfl rfl hf h (allP_mem hp)
theorem LoopT.rounds {tt:TypeId->Option TI}{glob:Nat->Option (List D)}{n:Nat}{id:Nat}{c:Code}{α:Type}(S:α->List (Key×Val))(μ:α->Nat){e:Ex}{L':List (Key×Val)}
  (h:∀ x,WpL P (Di.mk P tt glob n) c (S x) fun e1 L1=>match e1 with
   | .normal=>∃ y,L1=S y/\μ y<μ x
   | .exit id'=>if id'=id then e=.normal/\L1=L' else e=.exit id'/\L1=L'
   | .ret=>e=.ret/\L1=L') (x:α):LoopT P glob n (.block id (.loop c)) (S x) e L':=by
 refine LoopT.of (tt:=tt) (WpL.block ?_);refine WpL.loop S μ (fun x=>(h x).mono fun e1 L1 he=>?_) x
 cases e1 with
 | normal=>exact he
 | ret =>
  obtain⟨rfl,rfl⟩:=he;exact⟨rfl,rfl⟩
 | exit id' =>
  simp only at he ⊢
  by_cases hid:id'=id
  ·rw[if_pos hid]at he ⊢;obtain⟨rfl,rfl⟩:=he;exact⟨rfl,rfl⟩
  ·rw[if_neg hid]at he ⊢;obtain⟨rfl,rfl⟩:=he;exact⟨rfl,rfl⟩
theorem LoopT.count {tt:TypeId->Option TI}{glob:Nat->Option (List D)}{n:Nat}{id:Nat}{b c:Code}(hb:b=.block id (.loop c))(N:Nat)(S:Nat->List (Key×Val)){e:Ex}{L':List (Key×Val)}
  (hon:∀ i,i<N->WpL P (Di.mk P tt glob n) c (S i) fun e1 L1=>e1=.normal/\L1=S (i+1))
  (hend:WpL P (Di.mk P tt glob n) c (S N) fun e1 L1=>(e1=.exit id/\e=.normal\/e1=.ret/\e=.ret)/\L1=L'):LoopT P glob n b (S 0) e L':=by
 subst hb;refine LoopT.rounds (tt:=tt) (S:=fun i:{i:Nat // i<=N}=>S i.1) (fun i=>N-i.1) ?_ ⟨0,Nat.zero_le _⟩;intro⟨i,hi⟩
 by_cases hlt:i<N
 ·refine(hon i hlt).mono fun e1 L1 h=>?_;obtain⟨rfl,rfl⟩:=h;exact⟨⟨i+1,hlt⟩,rfl,by dsimp only;omega⟩
 ·have he:i=N:=by omega
  subst he;refine hend.mono fun e1 L1 h=>?_;obtain⟨h|h,rfl⟩:=h
  ·obtain⟨rfl,rfl⟩:=h;simp
  ·obtain⟨rfl,rfl⟩:=h;exact⟨rfl,rfl⟩
end
end Go.Di
namespace Go.Di
open Proofs
abbrev D.I (n:Int):D:=.int .i64 n
abbrev LI:=List Int
abbrev LL:=List (List Int)
abbrev KV:=List (Key×Val)
abbrev D.z (e:E)(xs:List e.α):D:=.sl false e xs
abbrev Val.bz (l:List D):Val:=.bx (some (Box.mk false l))
noncomputable abbrev PR:Program:=Proofs.Tryz.prog
def types:List (Nat×TI) :=
 [(3,⟨.int .i64,1,8,[.int .i64 0],some .int,false⟩),
  (4,⟨.bool,1,1,[.bool false],none,false⟩),
  (43,⟨.int .i64,1,8,[.int .i64 0],some .int,false⟩),
  (113,⟨.struct [(0,3),(1,3)],2,16,[.int .i64 0,.int .i64 0],some .span,true⟩),
  (118,⟨.struct [(0,113),(2,113)],4,32,[.int .i64 0,.int .i64 0,.int .i64 0,.int .i64 0],some .sec,true⟩),
  (91,⟨.struct [(0,3),(1,3),(2,3),(3,3)],4,32,[.int .i64 0,.int .i64 0,.int .i64 0,.int .i64 0],some .sv,true⟩),
  (26,⟨.struct [(0,22),(1,23),(2,24),(3,3),(4,3)],5,88,[.nil,.nil,.nil,.int .i64 0,.int .i64 0],some .book,false⟩),
  (22,⟨.slice 118,1,24,[.nil],some (.list .sec),false⟩),
  (23,⟨.slice 3,1,24,[.nil],some (.list .int),false⟩),
  (24,⟨.slice 91,1,24,[.nil],some (.list .sv),false⟩),
  (141,⟨.struct [(0,26),(5,138),(6,139)],7,120,[.nil,.nil,.nil,.int .i64 0,.int .i64 0,.nilmap,.nil],none,false⟩),
  (139,⟨.slice 164,1,24,[.nil],some (.list .trc),false⟩),
  (164,⟨.struct [(0,161),(4,162)],12,96,[.int .i64 0,.int .i64 0,.int .i64 0,.int .i64 0,.int .i64 0,.int .i64 0,.int .i64 0,.int .i64 0,.int .i64 0,.int .i64 0,.int .i64 0,.int .i64 0],some .trc,true⟩),
  (161,⟨.array 4 3,4,32,[.int .i64 0,.int .i64 0,.int .i64 0,.int .i64 0],none,true⟩),
  (162,⟨.array 4 113,8,64,[.int .i64 0,.int .i64 0,.int .i64 0,.int .i64 0,.int .i64 0,.int .i64 0,.int .i64 0,.int .i64 0],none,true⟩),
  (138,⟨.map 157 113 true,1,8,[.nilmap],none,false⟩),
  (157,⟨.struct [(0,3),(1,3)],2,16,[.int .i64 0,.int .i64 0],none,true⟩),
  (175,⟨.other,1,8,[.nilfn],none,false⟩),
  (176,⟨.other,1,8,[.nilfn],none,false⟩),
  (177,⟨.other,1,8,[.nilfn],none,false⟩),
  (178,⟨.other,1,8,[.nilfn],none,false⟩),
  (180,⟨.struct [(0,178)],1,8,[.nilfn],none,false⟩),
  (65,⟨.slice 23,1,24,[.nil],some (.list (.list .int)),false⟩),
  (129,⟨.array 4 3,4,32,[.int .i64 0,.int .i64 0,.int .i64 0,.int .i64 0],none,true⟩),
  (54,⟨.struct [(0,3),(1,3)],2,16,[.int .i64 0,.int .i64 0],some .work,true⟩),
  (30,⟨.array 2 3,2,16,[.int .i64 0,.int .i64 0],none,true⟩),
  (128,⟨.array 4 3,4,32,[.int .i64 0,.int .i64 0,.int .i64 0,.int .i64 0],none,true⟩),
  (150,⟨.struct [(0,30),(2,30)],4,32,[.int .i64 0,.int .i64 0,.int .i64 0,.int .i64 0],some .tr1,true⟩),
  (146,⟨.slice 150,1,24,[.nil],some (.list .tr1),false⟩)]
theorem Ya1:Ybu PR (Yac types):=Zxj (by kernel_rfl)
def bkD (b:Book)(m:Mp)(ts:List TrC):D:=.agg [.z .sec b.secs,.z .int b.turns,.z .sv b.svs,.int .i64 b.rule,.int .i64 b.days,.map m,.z .trc ts]
def glob:Nat->Option (List D)
 | 2=>some [.int .i64 (-1),.int .i64 (-1)]
 | _=>none
def body (f:Func):Code:=match f.body with
 | some c=>c
 | none=>.skip
end Go.Di
namespace Go.Di
open Proofs
noncomputable abbrev Zlr (p:List Nat):Code:=Code.at p (body Proofs.Tryz.f156)
noncomputable abbrev MP:=mk PR (Yac types) glob
theorem Zzj:FnOk PR (MP 29) 156 (body Tryz.f156) [.tmp 8]:=by refine⟨Tryz.f156,?_,?_,?_,?_,?_⟩<;>kernel_rfl
def Ykh (b:Book)(m:Mp)(ts:List TrC)(turns:LI)(s day:Int)(i:Nat)(s1:Int):KV :=
 [(.tmp 1,.d (.I s1)),
  (.tmp 2,.d (D.I day)),
  (.tmp 4,.d (D.ptr 4 0)),
  (.tmp 8,.d (D.I 0)),
  (.tmp 11,.d (D.z E.int turns)),
  (.tmp 12,.d (D.I (((List.length turns:Nat):Int)))),
  (.tmp 13,.d (.I i)),
  (.box 4,.bz [D.z E.sec (Book.secs b),D.z E.int (Book.turns b),D.z E.sv (Book.svs b),D.I (Book.rule b),D.I (Book.days b),D.map m,D.z E.trc ts])]
def Yph:List Key:=[.tmp 1,.tmp 2,.tmp 4,.tmp 8,.tmp 11,.tmp 12,.tmp 13,.box 4]
theorem Yym (b:Book)(m:Mp)(ts:List TrC)(turns:LI)(s day:Int)(i:Nat)(s1:Int) :runK (MP 29) [(14,true),(19,true)] [] [] (Zlr [1,0,1,0,0]) (Ykh b m ts turns s day i s1) Yph =some ([decide ((i:Int)<((turns.length:Nat):Int))=true,0<=(i:Int)/\(i:Int)<((turns.length:Nat):Int),0+1<=1,decide (List.getD turns (Int.toNat ((i:Int))) (E.z E.int)<=day)=true,Yae (((b.secs.length:Nat):Int)-1),Yae (((b.secs.length:Nat):Int)-1-s1),Yae ((i:Int)+1)],Ex.normal,[(.tmp 1,.d (D.I (((b.secs.length:Nat):Int)-1-s1))),(.tmp 2,.d (D.I day)),(.tmp 4,.d (D.ptr 4 0)),(.tmp 8,.d (D.I 0)),(.tmp 11,.d (D.z E.int turns)),(.tmp 12,.d (D.I (((turns.length:Nat):Int)))),(.tmp 13,.d (D.I ((i:Int)+1))),(.box 4,.bz [D.z E.sec b.secs,D.z E.int b.turns,D.z E.sv b.svs,D.I b.rule,D.I b.days,D.map m,D.z E.trc ts])]):=by kernel_rfl
theorem Yyn (b:Book)(m:Mp)(ts:List TrC)(turns:LI)(s day:Int)(i:Nat)(s1:Int) :runK (MP 29) [(14,true),(19,false)] [] [] (Zlr [1,0,1,0,0]) (Ykh b m ts turns s day i s1) Yph =some ([decide ((i:Int)<((turns.length:Nat):Int))=true,0<=(i:Int)/\(i:Int)<((turns.length:Nat):Int),0+1<=1,decide (List.getD turns (Int.toNat ((i:Int))) (E.z E.int)<=day)=false,Yae ((i:Int)+1)],Ex.normal,[(.tmp 1,.d (D.I s1)),(.tmp 2,.d (D.I day)),(.tmp 4,.d (D.ptr 4 0)),(.tmp 8,.d (D.I 0)),(.tmp 11,.d (D.z E.int turns)),(.tmp 12,.d (D.I (((turns.length:Nat):Int)))),(.tmp 13,.d (D.I ((i:Int)+1))),(.box 4,.bz [D.z E.sec b.secs,D.z E.int b.turns,D.z E.sv b.svs,D.I b.rule,D.I b.days,D.map m,D.z E.trc ts])]):=by kernel_rfl
theorem Zdm (b:Book)(m:Mp)(ts:List TrC)(turns:LI)(s day:Int)(i:Nat)(s1:Int) :runK (MP 29) [(14,false)] [] [] (Zlr [1,0,1,0,0]) (Ykh b m ts turns s day i s1) Yph =some ([decide ((i:Int)<((turns.length:Nat):Int))=false],Ex.exit 0,[(.tmp 1,.d (D.I s1)),(.tmp 2,.d (D.I day)),(.tmp 4,.d (D.ptr 4 0)),(.tmp 8,.d (D.I 0)),(.tmp 11,.d (D.z E.int turns)),(.tmp 12,.d (D.I (((turns.length:Nat):Int)))),(.tmp 13,.d (D.I ((i:Int)))),(.box 4,.bz [D.z E.sec b.secs,D.z E.int b.turns,D.z E.sv b.svs,D.I b.rule,D.I b.days,D.map m,D.z E.trc ts])]):=by kernel_rfl
theorem Zss (b:Book)(m:Mp)(ts:List TrC)(turns:LI)(s day:Int)(i:Nat)(s1:Int) :Yaj (MP 29) [] [] [(0,(Yph,(.normal,Ykh b m ts turns s day i s1)))] (body Tryz.f156) [.tmp 8] [bkD b m ts,.I s,.I day,.z .int turns] =some ([Cfg.lk (MP 29) (Zlr [1,0,1]) [(.tmp 1,.d (D.I s)),(.tmp 2,.d (D.I day)),(.tmp 4,.d (D.ptr 4 0)),(.tmp 8,.d (D.I 0)),(.tmp 11,.d (D.z E.int turns)),(.tmp 12,.d (D.I (((turns.length:Nat):Int)))),(.tmp 13,.d (D.I 0)),(.box 4,.bz [D.z E.sec b.secs,D.z E.int b.turns,D.z E.sv b.svs,D.I b.rule,D.I b.days,D.map m,D.z E.trc ts])] Ex.normal (Ykh b m ts turns s day i s1)],D.I s1):=by kernel_rfl
end Go.Di
