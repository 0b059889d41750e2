/- Part 5: contracts are proved. No condition. -/
import Derived.Test.YtfkmodcjddfeiaaGreatDoorDi04
import Derived.CallsIn
set_option linter.unusedVariables false
set_option linter.unusedSimpArgs false
namespace Go.Di
open Go.RowKit
section
variable {P:Program} {C:Cfg} {w0 w:World} {R0 R:Foot} {a:Act} {s:St} {β:Nat->Nat} {σ:Sig} {o:Oper} {wr:List (Key×Val)} {K:Act->World->Prop} {Q:Exit->Act->World->Prop}
theorem Zb5 {s':St}(hs:∀ k,s (.obj k)=s' (.obj k))(hI:Inv C w0 R0 a w s' β σ R){k:D->M}:∀ {d:D} {v:Value},(Ynn d k).Ok s wr->RelTC σ s' R w d v->∃ d',(k d').Ok s wr/\RelC R w d' v
 | .own i n,v,h,hr=>by
  simp only[Ynn,M.Ok]at h
  split at h
  ·rename_i o ho;exact⟨_,h.2,Yyr hI (Zs1 (by rw[<-hs];exact ho)) h.1 hr⟩
  ·exact h.elim
 | .int _ _,_,h,hr=>⟨_,h,hr⟩|.bool _,_,h,hr=>⟨_,h,hr⟩|.nil,_,h,hr=>⟨_,h,hr⟩|.nilmap,_,h,hr=>⟨_,h,hr⟩|.nilfn,_,h,hr=>⟨_,h,hr⟩
 | .sl _ _ _,_,h,hr=>⟨_,h,hr⟩|.map _,_,h,hr=>⟨_,h,hr⟩|.fn _ _ _,_,h,hr=>⟨_,h,hr⟩|.self _ _ _,_,h,hr=>⟨_,h,hr⟩
 | .undef,_,h,_=>h.elim|.ptr _ _,_,h,_=>h.elim|.ref _ _,_,h,_=>h.elim|.agg _,_,h,_=>h.elim|.tup _,_,h,_=>h.elim|.mref _,_,h,_=>h.elim|.row _ _,_,h,_=>h.elim
theorem Yol {s':St}(hs:∀ k,s (.obj k)=s' (.obj k))(hI:Inv C w0 R0 a w s' β σ R):∀ {cs:List D} {k:List D->M} {vs:List Value},(Yie cs k).Ok s wr->All2 (RelTC σ s' R w) cs vs->∃ cs',(k cs').Ok s wr/\All2 (RelC R w) cs' vs
 | [],k,[],h,_=>⟨[],h,trivial⟩
 | d::cs,k,v::vs,h,⟨h1,h2⟩=>by
  obtain⟨d',h3,h4⟩:=Zb5 hs hI h h1;obtain⟨cs',h5,h6⟩:=Yol hs hI h3 h2;exact⟨d'::cs',h5,h4,h6⟩
 | [],_,_::_,_,h=>h.elim
 | _::_,_,[],_,h=>h.elim
theorem Zbg (s:St)(i k:Nat)(v:Val):(s.set (.box i) v) (.obj k)=s (.obj k):=rfl
theorem Yrb:∀ {l:List D} {seen:List Nat} {acc:List (List D)} {k:List (List D)->M} {wr:List (Key×Val)} {cur:St} {R:Foot} {vs avs:List Value},(Yjv seen l acc k).Ok s wr ->
  (∀ k,s (.obj k)=cur (.obj k))->(∀ i,seen.all (fun j=>!(Nat.beq j i))=true->s (.box i)=cur (.box i))->Inv C w0 R0 a w cur β σ R->All2 (RelT β σ cur R w) l vs->All2 (RelCap R w) acc.reverse avs ->
  ∃ wr' cur' R' caps,(k caps).Ok s wr'/\cur.apply wr=cur'.apply wr'/\Inv C w0 R0 a w cur' β σ R'/\Keeps R R' w w/\All2 (RelCap R' w) caps (avs++vs)
 | [],seen,acc,k,wr,cur,R,[],avs,h,_,_,hI,_,ha=>⟨wr,cur,R,acc.reverse,h,rfl,hI,Keeps.refl _ _,by simpa using ha⟩
 | [],_,_,_,_,_,_,_::_,_,_,_,_,_,h,_=>h.elim
 | _::_,_,_,_,_,_,_,[],_,_,_,_,_,h,_=>h.elim
 | d::l,seen,acc,k,wr,cur,R,v::vs,avs,h,hs,hb,hI,⟨h1,h2⟩,ha=>by
  unfold Yjv at h
  split at h
  ·rename_i i
   split at h
   ·rename_i hseen;simp only[M.Ok]at h
    split at h
    ·rename_i b hbx;obtain⟨⟨b',hb'⟩,hv⟩:=h1;have hcur:cur.bx i=some b:=Zn7 (by rw[<-hb i hseen];exact hbx);obtain⟨arr,el,p1,p2⟩:=(hI.box i b hcur).all;obtain⟨cs,h3,h4⟩:=Yol hs hI h p2
     have hlen:cs.length=b.cells.length:=by
      have a1:=All2.length h4;have a2:=All2.length p2;omega
     split at h3
     ·rename_i h0;obtain⟨wr1,rfl,h5⟩:=h3
      obtain⟨n,⟨arr',el',q1,q2⟩,hI'⟩:=hI.freeze hcur cs (fun arr' el' hq=>by
       rw[p1]at hq
       cases hq
       rw[hlen];exact h4)
      rw[p1]at q1
      cases q1
      have hk:Keeps R (addF R (β i) 0 n) w w:=⟨fun _ _ hr=>.inl hr,fun _ _ _ _ h=>h,fun _ _ _ _ h=>h⟩
      have hg:Grows β β σ σ cur (cur.set (.box i) (.bx (some ⟨true,cs⟩))) :=
       ⟨fun j b' hb'=>⟨by
        rw[Yba]
        by_cases e:i=j
        ·exact⟨_,by rw[if_pos e]⟩
        ·exact⟨b',by rw[if_neg e];exact hb'⟩,rfl⟩,fun k o ho=>⟨o,ho,Nat.le_refl _,fun _=>rfl⟩,fun i m hm=>⟨⟨m,hm⟩,rfl⟩⟩
      obtain⟨wr',cur',R',caps,r1,r2,r3,r4,r5⟩:=Yrb (seen:=i::seen) (avs:=avs++[v]) h5 (cur:=cur.set (.box i) (.bx (some ⟨true,cs⟩))) (fun k=>by rw[Zbg];exact hs k) (fun j hj=>by
       simp only[List.all_cons,Bool.and_eq_true,Bool.not_eq_true']at hj;rw[Yh8,if_neg (fun e=>by rw[Yo6 e]at hj;exact absurd hj.1 (by simp))];exact hb j (by simpa using hj.2)) hI' (h2.imp fun d v hr=>RelT.grow hg _ _ (RelT.world hk _ _ hr)) (by
       rw[List.reverse_cons];refine All2.append (ha.imp fun cs v h=>RelCap.keep hk cs v h) ⟨⟨β i,0,hv,fun j d hd=>?_⟩,trivial⟩;obtain⟨u,hu,hr⟩:=All2.get (Yww h0 h4) j d hd
       have hu:arr.toList[j]?=some u:=by
        rw[List.getElem?_take]at hu
        split at hu
        ·exact hu
        ·cases hu
       refine⟨u,RelC0.keep hk _ _ hr,.inr ⟨rfl,Nat.zero_le _,?_⟩,?_⟩
       ·rw[Nat.zero_add,<-q2];simpa using (List.getElem?_eq_some_iff.1 hu).1
       ·rw[Nat.zero_add,Ye1 p1];simpa using hu)
      exact⟨wr',cur',R',caps,r1,r2,r3,⟨fun b o hr=>r4.foot _ _ (hk.foot _ _ hr),fun _ _ _ _ h=>h,fun _ _ _ _ h=>h⟩,by simpa using r5⟩
     ·exact h3.elim
    ·exact h.elim
   ·exact h.elim
  ·rename_i cs
   split at h
   ·rename_i h0;obtain⟨b,o',hv,hr⟩:=h1
    obtain⟨wr',cur',R',caps,r1,r2,r3,r4,r5⟩:=Yrb (seen:=seen) (avs:=avs++[v]) h hs hb hI h2 (by
     rw[List.reverse_cons]
     exact All2.append ha ⟨⟨b,o',hv,fun j d hd=>by
      obtain⟨u,q1,q2,q3⟩:=hr j d hd
      have hm:is0 d=true:=by
       have:=List.all_eq_true.1 h0 d (List.mem_of_getElem? hd)
       exact this
      exact⟨u,Zgl hm q1,q2,q3⟩⟩,trivial⟩)
    exact⟨wr',cur',R',caps,r1,r2,r3,r4,by simpa using r5⟩
   ·exact h.elim
  ·exact h.elim
theorem Zye:∀ {d:D} {v:Value},is0A d=true->Rel R w d v->RelA0 R w d v
 | .agg cs,v,h,⟨vs,hv,hr⟩=>⟨vs,hv,Yww h hr⟩
 | .int _ _,_,_,h=>h|.bool _,_,_,h=>h|.nil,_,_,h=>h|.nilmap,_,_,h=>h|.nilfn,_,_,h=>h|.sl _ _ _,_,_,h=>h|.map _,_,_,h=>h
 | .undef,_,h,_=>by cases h
 | .fn _ _ _,_,h,_=>by cases h|.self _ _ _,_,h,_=>by cases h
 | .own _ _,_,h,_=>by cases h
 | .ptr _ _,_,h,_=>by cases h|.mref _,_,h,_=>by cases h|.row _ _,_,h,_=>by cases h
 | .ref _ _,_,h,_=>by cases h
 | .tup _,_,h,_=>by cases h
theorem Zh8:∀ {cs:List D} {vs:List Value},cs.all is0A=true->All2 (Rel R w) cs vs->All2 (RelA0 R w) cs vs
 | [],[],_,_=>trivial
 | d::cs,v::vs,h,⟨h1,h2⟩=>by
  simp only[List.all_cons,Bool.and_eq_true]at h;exact⟨Zye h.1 h1,Zh8 h.2 h2⟩
 | [],_::_,_,h=>h.elim
 | _::_,[],_,h=>h.elim
theorem Zdq (hI:Inv C w0 R0 a w s β σ R)(hK:∀ a' w',Holds C w0 R0 a' w' (s.apply wr)->K a' w'){f:FuncId}{first caps:Array Operand}(hop:o.op=.makeFunc (.func f) first caps){dec:List (Nat×Bool)}{orc:List (Nat×D)}
  (h:(sem C dec orc o).Ok s wr):o.wp P a w K Q:=by
 unfold sem at h;rw[hop]at h;obtain⟨ds,h1,h2⟩:=Yig hI h
 clear h
 obtain⟨fs,h3,h4⟩:=Ykd hI h1 h2
 clear h1
 split at h3
 ·rename_i h0;obtain⟨cs,h5,h6⟩:=Yig hI h3
  clear h3
  obtain⟨wr',cur',R',caps',r1,r2,r3,r4,r5⟩:=Yrb (avs:=[]) h5 (fun _=>rfl) (fun _ _=>rfl) hI h6 trivial;refine Ycd (w':=w) (v:=.func (.func f) (first.map a.eval) (caps.map a.eval)) (by simp[execOp,hop,Instr.makeFunc]) (hK _ _ ⟨β,σ,R',?_⟩);rw[r2];refine Ybn r3 r1 ?_;refine⟨first.map a.eval,caps.map a.eval,rfl,?_,?_⟩
  ·rw[Array.toList_map];exact(Zh8 h0 h4).imp fun d v h=>RelA0.keep r4 d v h
  ·rw[Array.toList_map];exact r5
 ·exact h3.elim
theorem Yvm (k:Value->Value->Sem Value)(f:Int->Int->Int)(hk:∀ x y,k (.int .i64 x) (.int .i64 y)=pure (.int .i64 (f x y))):∀(zs:List Int) (z:Int),((zs.map (Value.int .i64)).foldlM k (.int .i64 z)).run P w=.ok (.int .i64 (zs.foldl f z)) w
 | [],z=>rfl
 | y::zs,z=>by
  simp only[List.map_cons,List.foldlM_cons,hk,pure_bind,List.foldl_cons];exact Yvm k f hk zs _
theorem Yvy:∀ {ds:List D} {zs:List Int} {vs:List Value},allI ds=some zs->All2 (RelT β σ s R w) ds vs->vs=zs.map (Value.int .i64)
 | [],zs,vs,h,hr=>by
  cases h
  exact Ych hr
 | d::l,zs,vs,h,hr=>by
  obtain⟨v,vs',rfl,h1,h2⟩:=Yaq hr;simp only[allI]at h
  split at h
  ·rename_i x xs hx hxs
   cases h
   rw[Yvy hxs h2];unfold asI at hx
   split at hx
   ·cases hx
    have:v=.int .i64 x:=h1
    rw[this];rfl
   ·cases hx
  ·cases h
theorem Yna {tt:TypeId->Option TI}:∀ {ts:List TypeId} {ds:List D} {vs:List Value},ts.length=ds.length->All2 (RelT β σ s R w) ds vs->All2 (RelT β σ s R w) ((ts.zip ds).map fun p=>Ydy tt p.1 p.2) vs
 | [],[],[],_,_=>trivial
 | t::ts,d::ds,v::vs,h,⟨h1,h2⟩=>⟨Ydg h1,Yna (by simpa using h) h2⟩
 | [],_::_,_,h,_=>by simp at h
 | _::_,[],_,h,_=>by simp at h
 | [],[],_::_,_,h=>h.elim
 | _::_,_::_,[],_,h=>h.elim
theorem Zri:∀ {d:D} {v:Value},RelA0 R w d v->Rel R w d v
 | .agg cs,v,⟨vs,hv,hr⟩=>⟨vs,hv,hr.imp fun _ _=>RelC.of0⟩
 | .int _ _,_,h=>h|.bool _,_,h=>h|.nil,_,h=>h|.nilmap,_,h=>h|.nilfn,_,h=>h|.sl _ _ _,_,h=>h|.map _,_,h=>h
 | .undef,_,h=>h.elim|.fn _ _ _,_,h=>h.elim|.own _ _,_,h=>h.elim|.ptr _ _,_,h=>h.elim|.ref _ _,_,h=>h.elim|.tup _,_,h=>h.elim|.mref _,_,h=>h.elim|.row _ _,_,h=>h.elim|.self _ _ _,_,h=>h.elim
theorem Zoz:∀ {d:D} {v:Value},RelC R w d v->RelC R w (Zwo d) v
 | .sl _ _ _,_,h=>Yi3 h
 | .int _ _,_,h=>h|.bool _,_,h=>h|.nil,_,h=>h|.nilmap,_,h=>h|.nilfn,_,h=>h|.map _,_,h=>h|.fn _ _ _,_,h=>h|.self _ _ _,_,h=>h
 | .undef,_,h=>h|.own _ _,_,h=>h|.ptr _ _,_,h=>h|.ref _ _,_,h=>h|.agg _,_,h=>h|.tup _,_,h=>h|.mref _,_,h=>h|.row _ _,_,h=>h
theorem Ys4:∀ {cs:List D} {vs:List Value},All2 (RelC R w) cs vs->All2 (RelC R w) (cs.map Zwo) vs
 | [],[],_=>trivial
 | _::_,_::_,⟨h1,h2⟩=>⟨Zoz h1,Ys4 h2⟩
 | [],_::_,h=>h.elim
 | _::_,[],h=>h.elim
theorem Zfz:∀ {d:D} {v:Value},Rel R w d v->Rel R w (weak d) v
 | .sl _ _ _,_,h=>Yi3 h
 | .agg cs,_,⟨vs,hv,h⟩=>⟨vs,hv,Ys4 h⟩
 | .int _ _,_,h=>h|.bool _,_,h=>h|.nil,_,h=>h|.nilmap,_,h=>h|.nilfn,_,h=>h|.map _,_,h=>h|.fn _ _ _,_,h=>h|.self _ _ _,_,h=>h
 | .undef,_,h=>h|.own _ _,_,h=>h|.ptr _ _,_,h=>h|.ref _ _,_,h=>h|.tup _,_,h=>h|.mref _,_,h=>h|.row _ _,_,h=>h
theorem Yp3:∀ {ds:List D} {vs:List Value},All2 (Rel R w) ds vs->All2 (Rel R w) (ds.map weak) vs
 | [],[],_=>trivial
 | _::_,_::_,⟨h1,h2⟩=>⟨Zfz h1,Yp3 h2⟩
 | [],_::_,h=>h.elim
 | _::_,[],h=>h.elim
theorem Zht (hC:∀ f args r,C.con f args r->Contract P C.glob f args r)(hI:Inv C w0 R0 a w s β σ R)(hK:∀ a' w',Holds C w0 R0 a' w' (s.apply wr)->K a' w'){f:FuncId}{args:List D}{vs:Array Value}{orc:List (Nat×D)}
  (hargs:All2 (Rel R w) args vs.toList) (hop:(execOp a.eval o).run P w=(callFunc f vs).run P w) (h:(Xby C o.dst orc f args).Ok s wr):o.wp P a w K Q:=by
 unfold Xby at h
 split at h
 ·rename_i t ht
  split at h
  ·rename_i r hr;obtain⟨hc,h1⟩:=h;obtain⟨⟨fn,c1,c2,c3⟩,c4⟩:=hC f args r hc;have hcalls:=c4 w R vs.toList (fun b o' hr=>(hI.dom b o' hr).1) hI.glob hargs
   have hrun:(callFunc f vs).run P w=.ok (.enter f vs) w:=by
    obtain⟨c,hbody⟩:∃ c,fn.body=some c:=by
     cases hb:fn.body with
     | none=>rw[hb]at c3;cases c3
     | some c=>exact⟨c,rfl⟩
    have c2' : fn.name ≠ "runtime.NumGoroutine" := by simpa using c2
    simp[callFunc,c1,c2',hbody]
   unfold Oper.wp;rw[hop,hrun,Oper.upon_enter];refine hcalls.mono fun e w' he=>?_;obtain⟨v,rfl,hb,R',hR,hd,hv⟩:=he;have hI':=hI.later hb hR hd;exact hK _ _ ⟨β,σ,R',Ybn hI' h1 (RelT.ofRel hv)⟩
  ·exact h.elim
 ·exact h.elim
theorem Xgb (hT:Ybu P C.tt)(hC:∀ f args r,C.con f args r->Contract P C.glob f args r)(hI:Inv C w0 R0 a w s β σ R)(hK:∀ a' w',Holds C w0 R0 a' w' (s.apply wr)->K a' w'){c:Call}(hop:o.op=.call c){dec:List (Nat×Bool)}{orc:List (Nat×D)}
  (h:(sem C dec orc o).Ok s wr):o.wp P a w K Q:=by
 unfold sem at h;rw[hop]at h;simp only at h
 split at h
 ·rename_i hcal
  split at h
  ·rename_i x t hx ht
   split at h
   ·rename_i ti hti;have hu:=(hT t ti hti).und
    have hargs:c.args.map a.eval=#[a.eval x]:=by
     apply Array.ext'
     simp[hx]
    have hats:c.argTypes=#[t]:=by
     apply Array.ext'
     simp[ht]
    split at h
    ·rename_i el hk;rw[hk]at hu;obtain⟨d,h1,h2⟩:=Ybx hI h
     split at h1
     ·rename_i b n;obtain⟨_,cc,_,_,hv⟩:=h2;refine Ybi hI hK h1 (v:=.int .i64 n) rfl ?_;simp[execOp,hop,resolve,hcal,invoke,builtin,hargs,hats,Builtin.len_,run_underlying hu.1,hv,goInt]
     obtain⟨e,xs,h3,h4⟩:=Ykp hI h1 (Ydg h2);obtain⟨A,cc,hv,_⟩:=h4;refine Ybi hI hK h3 (v:=.int .i64 xs.length) rfl ?_;simp[execOp,hop,resolve,hcal,invoke,builtin,hargs,hats,Builtin.len_,run_underlying hu.1,hv,goInt]
    ·rename_i n el hk;rw[hk]at hu;obtain⟨d,h1,h2⟩:=Ybx hI h;refine Ybi hI hK h1 (v:=.int .i64 n) rfl ?_;simp[execOp,hop,resolve,hcal,invoke,builtin,hargs,hats,Builtin.len_,run_underlying hu.1,goInt]
    ·exact h.elim
   ·exact h.elim
  ·exact h.elim
 ·rename_i hcal;obtain⟨ds,h1,h2⟩:=Yig hI h
  split at h1
  ·rename_i z zs hz;have hv:=Yvy hz h2;refine Ybi hI hK h1 (v:=.int .i64 (zs.foldl mx z)) rfl ?_;have hm:=Yvm (P:=P) (w:=w) Builtin.max2 mx (fun x y=>rfl) zs z;have hl:(c.args.map a.eval).toList=.int .i64 z::zs.map (Value.int .i64):=by rw[Array.toList_map];exact hv
   have:(Builtin.max_ c.argTypes o.type (c.args.map a.eval)).run P w=.ok (.int .i64 (zs.foldl mx z)) w:=by
    unfold Builtin.max_;rw[hl];exact hm
   simp[execOp,hop,resolve,hcal,invoke,builtin,this]
  ·exact h1.elim
 ·rename_i hcal;obtain⟨ds,h1,h2⟩:=Yig hI h
  split at h1
  ·rename_i z zs hz;have hv:=Yvy hz h2;refine Ybi hI hK h1 (v:=.int .i64 (zs.foldl mn z)) rfl ?_;have hm:=Yvm (P:=P) (w:=w) Builtin.min2 mn (fun x y=>rfl) zs z;have hl:(c.args.map a.eval).toList=.int .i64 z::zs.map (Value.int .i64):=by rw[Array.toList_map];exact hv
   have:(Builtin.min_ c.argTypes o.type (c.args.map a.eval)).run P w=.ok (.int .i64 (zs.foldl mn z)) w:=by
    unfold Builtin.min_;rw[hl];exact hm
   simp[execOp,hop,resolve,hcal,invoke,builtin,this]
  ·exact h1.elim
 ·rename_i hcal
  split at h
  ·rename_i x y t u hx ht
   split at h
   ·rename_i htu;have htu:=Nat.eq_of_beq_eq_true htu;subst htu;obtain⟨dx,h1,h2⟩:=Ybx hI h
    clear h
    obtain⟨dy,h,h3⟩:=Ybx hI h1
    clear h1
    have hargs:c.args.map a.eval=#[a.eval x,a.eval y]:=by
     apply Array.ext'
     simp[hx]
    have hats:c.argTypes=#[t,t]:=by
     apply Array.ext'
     simp[ht]
    refine Xgo hT hI hK h2 h3 (fun w=>?_) h;simp[execOp,hop,resolve,hcal,invoke,builtin,hargs,hats]
   ·exact h.elim
  ·exact h.elim
 ·rename_i fo hcal;obtain⟨g,h1,h2⟩:=Ybx hI h
  clear h
  split at h1
  ·rename_i f first caps
   split at h1
   ·rename_i hsz;have hsz:=Nat.eq_of_beq_eq_true hsz;obtain⟨ds,h3,h4⟩:=Yig hI h1
    clear h1
    have hlen:=All2.length h4;obtain⟨args,h5,h6⟩:=Ykd hI h3 (Yna (tt:=C.tt) (by simp at hlen hsz ⊢;omega) h4);obtain⟨fs,cs,hv,p1,p2⟩:=h2;refine Zht hC hI hK (vs:=fs++c.args.map a.eval++cs) ?_ ?_ h5
    ·simp only[Array.toList_append,Array.toList_map];refine All2.append (All2.append (p1.imp fun _ _=>Zri) (Yp3 h6)) ?_;refine All2.map_left _ (p2.imp fun cs v ⟨b,o',hv,hr⟩=>⟨b,o',hv,?_⟩);intro j d hd;obtain⟨u,q1,q2,q3⟩:=hr j d hd;exact⟨u,RelC.of0 q1,q2,q3⟩
    ·simp[execOp,hop,resolve,hcal,hv,Deferred.ofValue,invoke]
   ·exact h1.elim
  ·rename_i f n cells
   split at h1
   ·rename_i hsz;have hsz:=Nat.eq_of_beq_eq_true hsz;obtain⟨ds,h3,h4⟩:=Yig hI h1
    clear h1
    have hlen:=All2.length h4;obtain⟨args,h5,h6⟩:=Ykd hI h3 (Yna (tt:=C.tt) (by simp at hlen hsz ⊢;omega) h4);obtain⟨_,p,b,o',u,hv,p2,p3,p4,p5,p6⟩:=h2;refine Zht hC hI hK (vs:=c.args.map a.eval++#[p,.pointer (some ⟨b,o',none⟩)]) ?_ ?_ h5
    ·simp only[Array.toList_append,Array.toList_map];refine All2.append (Yp3 h6) ⟨?_,?_,trivial⟩
     ·obtain⟨b',o'',hv',hr⟩:=p2;refine⟨b',o'',hv',?_⟩;intro j d hd;obtain⟨u,q1,q2,q3⟩:=hr j d hd;exact⟨u,RelC.of0 q1,q2,q3⟩
     ·refine⟨b,o',rfl,?_⟩;intro j d hd
      cases j with
      | zero =>
       cases hd
       exact⟨u,⟨p5,p6⟩,p3,p4⟩
      | succ j=>simp at hd
    ·simp[execOp,hop,resolve,hcal,hv,Deferred.ofValue,invoke]
   ·exact h1.elim
  ·exact h1.elim
 ·exact h.elim
theorem Xcf (hT:Ybu P C.tt)(hC:∀ f args r,C.con f args r->Contract P C.glob f args r)(hI:Inv C w0 R0 a w s β σ R)(hK:∀ a' w',Holds C w0 R0 a' w' (s.apply wr)->K a' w'){dec:List (Nat×Bool)}{orc:List (Nat×D)}
  (h:(sem C dec orc o).Ok s wr):o.wp P a w K Q:=by
 cases hop:o.op with
 | move x=>exact Zs4 hI hK (.inl hop) (by unfold sem at h;rw[hop]at h;exact h)
 | assign x=>exact Zs4 hI hK (.inr hop) (by unfold sem at h;rw[hop]at h;exact h)
 | pick c x y=>exact Xeq hI hK hop h
 | alloc t=>exact Xb8 hT hI hK hop h
 | box t x=>exact Xiy hI hK hop h
 | build t parts=>exact Xbz hT hI hK hop h
 | buildSlice t n parts=>exact Ywp hT hI hK hop h
 | load t x=>exact Xfg hT hI hK hop h
 | store t x y=>exact Zxk hT hI hK hop h
 | binOp op t x y t'=>exact Xiz hT hI hK hop h
 | unOp op t x=>exact Xi6 hI hK hop h
 | makeFunc f first caps =>
  cases f with
  | func f=>exact Zdq hI hK hop h
  | _=>exact absurd h (by unfold sem;rw[hop];exact id)
 | slice t x lo hi mx=>exact Zxn hT hI hK hop h
 | fieldAddr t x f=>exact Yzw hT hI hK hop h
 | field t x f=>exact Xba hT hI hK hop h
 | indexAddr t x y=>exact Yzi hT hI hK hop h
 | index t x y=>exact Xao hT hI hK hop h
 | extract x ix=>exact Zne hI hK hop h
 | makeMap t r =>
  cases r with
  | none=>exact Zlj hT hI hK hop h
  | some r=>exact absurd h (by unfold sem;rw[hop];exact id)
 | insert t m k x =>
  unfold sem at h;rw[hop]at h;obtain⟨dm,h1,r1⟩:=Ybx hI h;obtain⟨dk,h2,r2⟩:=Ybx hI h1;obtain⟨dx,h3,r3⟩:=Ybx hI h2;exact Xcb hT hI hK r1 r2 r3 (by simp[execOp,hop]) h3
 | mapUpdate t m k x =>
  unfold sem at h;rw[hop]at h;obtain⟨dm,h1,r1⟩:=Ybx hI h;obtain⟨dk,h2,r2⟩:=Ybx hI h1;obtain⟨dx,h3,r3⟩:=Ybx hI h2;exact Xcb hT hI hK r1 r2 r3 (by simp[execOp,hop]) h3
 | lookup t m k ok =>
  unfold sem at h;rw[hop]at h;obtain⟨dm,h1,r1⟩:=Ybx hI h;obtain⟨dk,h2,r2⟩:=Ybx hI h1;exact Xfe hT hI hK r1 r2 (by simp[execOp,hop]) h2
 | call c=>exact Xgb hT hC hI hK hop h
 | _=>exact absurd h (by unfold sem;rw[hop];exact id)
end
end Go.Di
namespace Go.Di
open Go.RowKit
section
variable {P:Program} {C:Cfg} {w0 w:World} {R0 R:Foot} {a:Act} {s:St} {β:Nat->Nat} {σ:Sig} {o:Oper} {wr:List (Key×Val)} {K:Act->World->Prop} {Q:Exit->Act->World->Prop}
theorem Yur (hT:Ybu P C.tt)(hC:∀ f args r,C.con f args r->Contract P C.glob f args r){ops:Array Oper}{i:Nat}(ho:ops[i]?=some o){dec:List (Nat×Bool)}{orc:List (Nat×D)}(hH:Holds C w0 R0 a w s)
  (hK:∀ a' w',Holds C w0 R0 a' w' (s.apply wr)->K a' w') (h:(semG C dec orc ops o).Ok s wr):wpOp P ops Q i K a w:=by
 obtain⟨β,σ,R,hI⟩:=hH;unfold wpOp;rw[ho];simp only;unfold semG at h
 split at h
 ·rename_i hg
  have:Region.wanted o (yielded ops a.tmps)=true:=by simp[Region.wanted,hg]
  rw[this];simp only[if_true];exact .inl (Xcf hT hC hI hK h)
 ·rename_i j b hg
  split at h
  ·rename_i t ht
   have key:∀ c,s (.tmp t)=.d (.bool c)->(match Bool.xor c b with|false=>sem C dec orc o|true=>setTmp C o.dst (.tup [])).Ok s wr ->
     (if Region.wanted o (yielded ops a.tmps)=true then o.wp P a w K Q\/(o.asks P a w/\LetsOut Q) else K (a.put o.dst undef) w):=by
    intro c hc h;have hv:=hI.tmps t;simp only[St.tmp,hc]at hv;have hv:a.tmps.getD t undef=.bool c:=hv
    have hy:yielded ops a.tmps j=some c:=by
     simp only[Option.bind_eq_some_iff]at ht;obtain⟨o',ho',hd⟩:=ht
     have hget:a.tmps[t]?=some (.bool c):=by
      rw[Array.getD_eq_getD_getElem?]at hv
      cases hq:a.tmps[t]? with
      | none=>rw[hq]at hv;cases hv
      | some x=>rw[hq]at hv;exact congrArg some hv
     simp[yielded,ho',hd,hget]
    have hw:Region.wanted o (yielded ops a.tmps)=(c==b):=by
     simp[Region.wanted,hg,hy]
    rw[hw]
    cases hcb:(c==b) with
    | true =>
     have:Bool.xor c b=false:=by
      have:=eq_of_beq hcb
      subst this;simp
     rw[this]at h;simp only[if_true];exact .inl (Xcf hT hC hI hK h)
    | false =>
     have:Bool.xor c b=true:=by
      cases c<;>cases b<;>first|rfl|(simp at hcb)
     rw[this]at h;simp only[Bool.false_eq_true,if_false];exact hK _ _ ⟨β,σ,R,Ybn hI h (d:=.tup []) (v:=undef) ⟨#[],rfl,trivial⟩⟩
   simp only[M.Ok]at h
   split at h
   ·rename_i c hc
    split at h
    ·rename_i u hu;simp only[M.Ok]at h;obtain⟨rfl,h⟩:=h;exact key c hc h
    ·exact key c hc h
   ·rename_i hc;have hv:=hI.tmps t;simp only[St.tmp,hc]at hv;obtain⟨vs,hv,h0⟩:=hv;have hv0:=Ych h0;have hvs:vs=#[]:=by rw[<-Array.toArray_toList (xs:=vs),hv0]
    subst hvs
    have hw:Region.wanted o (yielded ops a.tmps)=false:=by
     simp only[Option.bind_eq_some_iff]at ht;obtain⟨o',ho',hd⟩:=ht
     have hy:yielded ops a.tmps j=none:=by
      have hget:a.tmps[t]?=none\/a.tmps[t]?=some (.tuple #[]):=by
       rw[Array.getD_eq_getD_getElem?]at hv
       cases hq:a.tmps[t]? with
       | none=>exact .inl rfl
       | some x=>rw[hq]at hv;exact .inr (congrArg some hv)
      rcases hget with hget|hget<;>simp[yielded,ho',hd,hget]
     simp[Region.wanted,hg,hy]
    rw[hw];simp only[Bool.false_eq_true,if_false];exact hK _ _ ⟨β,σ,R,Ybn hI h (d:=.tup []) (v:=undef) ⟨#[],rfl,trivial⟩⟩
   ·exact h.elim
  ·exact h.elim
theorem Zzg {es:List Eff}{e:Eff}{p:Prop}(he:e∈es)(hp:p∈e.ps):p∈psOf es:=by
 induction es with
 | nil=>cases he
 | cons x l ih =>
  simp only[psOf,List.mem_append];rcases List.mem_cons.1 he with rfl|he
  ·exact .inl hp
  ·exact .inr (ih he)
theorem Yxq (hT:Ybu P C.tt)(hC:∀ f args r,C.con f args r->Contract P C.glob f args r){ops:Array Oper}{dec:List (Nat×Bool)}{orc:List (Nat×D)} :
  ∀(l:List Oper) (k:Nat) (s:St) (a:Act) (w:World) (es:List Eff) (s':St),(∀ j,l[j]?=ops[k+j]?)->runL C dec orc ops l s=some (es,s')->(∀ p∈psOf es,p)->Holds C w0 R0 a w s->(∀ a' w',Holds C w0 R0 a' w' s'->Q .normal a' w') ->
   wpOps P ops Q (List.range' k l.length) a w
 | [],k,s,a,w,es,s',_,h,_,hH,hQ=>by
  cases h
  exact hQ _ _ hH
 | o::l,k,s,a,w,es,s',hl,h,hp,hH,hQ=>by
  simp only[runL]at h
  split at h
  ·rename_i e he
   split at h
   ·rename_i es' s1 hes
    cases h
    have ho:ops[k]?=some o:=by have:=hl 0;simpa using this.symm
    rw[List.length_cons,List.range'_succ,wpOps_cons]
    refine Yur hT hC ho hH (fun a' w' hH'=>Yxq hT hC l (k+1) _ a' w' es' _ (fun j=>by
     have:=hl (j+1)
     rw[show k+1+j=k+(j+1) by omega];simpa using this) hes (fun p hpp=>hp p (by simp[psOf,hpp])) hH' hQ) (M.exec_ok _ _ _ he fun p hpp=>hp p (by simp[psOf,hpp]))
   ·cases h
  ·cases h
theorem Zb7 (hT:Ybu P C.tt)(hC:∀ f args r,C.con f args r->Contract P C.glob f args r){ops:Array Oper}{dec:List (Nat×Bool)}{orc:List (Nat×D)}{s':St}{es:List Eff}
  (h:runL C dec orc ops ops.toList s=some (es,s')) (hp:∀ p∈psOf es,p) (hH:Holds C w0 R0 a w s) (hQ:∀ a' w',Holds C w0 R0 a' w' s'->Q .normal a' w'):wpOps P ops Q (List.range ops.size) a w:=by
 rw[List.range_eq_range']
 have:=Yxq (Q:=Q) hT hC ops.toList 0 s a w es _ (fun j=>by simp) h hp hH hQ
 simpa using this
def FR (ro:Option Nat):Fence:={Fence.wide with round:=ro}
theorem opIn {o:Oper}{ro:Option Nat}{n:Nat}(hd:∀ c,o.op≠.defer c)(h:o.wp P a w K Q):o.wpIn (FR ro) n P a w K Q:=by
 refine⟨fun _ _=>trivial,?_⟩;rw[show(FR ro).round=ro from rfl,Oper.semAt_eq ro a.eval o hd];unfold Oper.wp at h;generalize (execOp a.eval o).run P w=r at h;have hdep:(FR ro).depth.isSome=true->1<=n:=fun x=>by simp[FR,Fence.wide]at x
 cases r with
 | ok nx w' =>
  cases nx with
  | value v=>exact h
  | skip=>exact h
  | enter f args=>exact⟨hdep,callsIn_wide.2 h⟩
  | row r args =>
   refine⟨hdep,fun c cs _=>?_⟩;obtain⟨v,w'',hr,hs⟩:=h c cs;exact⟨v,w'',hr,stepsIn_wide.2 hs⟩
  | defer d=>exact h
  | _=>exact h.elim
 | halt x w'=>cases x<;>first|exact h|exact h.elim
theorem opsIn {ops:Array Oper}{ro:Option Nat}{n:Nat}(hd:Yih ops.toList=true)(hq:¬LetsOut Q):∀(l:List Nat) (a:Act) (w:World),wpOps P ops Q l a w->wpOpsIn (FR ro) n P ops Q l a w
 | [],a,w,h=>h
 | i::l,a,w,h=>by
  unfold wpOps at h;unfold wpOpsIn
  cases ho:ops[i]? with
  | none =>
   rw[ho]at h;exact opsIn hd hq l a w h
  | some o =>
   rw[ho]at h;simp only at h ⊢
   by_cases hw:Region.wanted o (yielded ops a.tmps)=true
   ·rw[if_pos hw]at h ⊢;rcases h with h|h
    ·refine opIn (fun c hc=>?_) (Oper.wp_mono (fun a w hk=>opsIn hd hq l a w hk) h)
     have hm:o∈ops.toList:=by
      have:=Array.mem_of_getElem? ho
      simpa using this
     have:=List.all_eq_true.1 hd o hm
     rw[hc]at this
     cases this
    ·exact absurd h.2 hq
   ·rw[if_neg hw]at h ⊢;exact⟨fun _ _=>trivial,opsIn hd hq l _ w h⟩
def Yiy (Q:Exit->Act->World->Prop):Exit->Act->World->Prop
 | .outgrown,_,_=>False
 | e,a,w=>Q e a w
theorem Ygg (Q:Exit->Act->World->Prop):¬LetsOut (Yiy Q):=fun⟨_,_,h⟩=>h
theorem Yhq {Q:Exit->Act->World->Prop}{e:Exit}{a:Act}{w:World}(h:Yiy Q e a w):Q e a w:=by cases e<;>first|exact h|exact h.elim
theorem Ypv:∀(wr:List (Key×Val)) (s s':St) (k:Key),s k=s' k->(s.apply wr) k=(s'.apply wr) k
 | [],_,_,_,h=>h
 | (k',v)::l,s,s',k,h=>by
  rw[Yf4,Yf4];refine Ypv l _ _ k ?_;unfold St.set
  split<;>first|rfl|exact h
theorem Yh1:∀(wr:List (Key×Val)) (s:St) (k:Key),memK k wr=false->(s.apply wr) k=s k
 | [],_,_,_=>rfl
 | (k',v)::l,s,k,h=>by
  simp only[memK,Bool.or_eq_false_iff]at h;rw[Yf4,Yh1 l _ k h.2];unfold St.set
  have:k'.eqb k=false:=by
   cases hq:k'.eqb k with
   | false=>rfl
   | true =>
    have:=Yk2 hq
    subst this;have h1:=h.1;rw[hq]at h1
    cases h1
  rw[this]
theorem Zh5:∀(wr:List (Key×Val)) (s s':St) (k:Key),memK k wr=true->(s.apply wr) k=(s'.apply wr) k
 | [],_,_,_,h=>by cases h
 | (k',v)::l,s,s',k,h=>by
  rw[Yf4,Yf4]
  by_cases hl:memK k l=true
  ·exact Zh5 l _ _ k hl
  ·simp only[memK,Bool.or_eq_true]at h
   have h1:k.eqb k'=true:=by
    rcases h with h|h
    ·exact h
    ·exact absurd h hl
   have:=Yk2 h1
   subst this;refine Ypv l _ _ k ?_;unfold St.set;rw[h1]
theorem Yny {a b:List (Key×Val)}(h:Yo0 a b=false)(k:Key):memK k a=true->memK k b=false:=by
 induction a with
 | nil=>intro h;cases h
 | cons x l ih =>
  obtain⟨k',v⟩:=x;simp only[Yo0,Bool.or_eq_false_iff]at h;intro hk;simp only[memK,Bool.or_eq_true]at hk;rcases hk with hk|hk
  ·have:=Yk2 hk
   subst this;exact h.1
  ·exact ih h.2 hk
theorem Zoc {a b:List (Key×Val)}(h:Yo0 a b=false)(s:St):(s.apply a).apply b=(s.apply b).apply a:=by
 funext k
 by_cases ha:memK k a=true
 ·have hb:=Yny h k ha;rw[Yh1 b _ k hb];exact Zh5 a _ _ k ha
 ·have ha:memK k a=false:=by simpa using ha
  rw[Yh1 a (s.apply b) k ha];exact Ypv b _ _ k (Yh1 a s k ha)
def stOf (p:Nat->Bool):Nat->List Eff->St->St
 | _,[],s=>s
 | i,e::l,s=>stOf p (i+1) l (match p i with|true=>s.apply e.wr|false=>s)
theorem Zbe {p q:Nat->Bool}{k:Key}:∀(es:List Eff) (i:Nat) (s s':St),(∀ j e,es[j]?=some e->p (i+j)≠q (i+j)->memK k e.wr=false)->s k=s' k->stOf p i es s k=stOf q i es s' k
 | [],_,_,_,_,h=>h
 | e::l,i,s,s',hd,h=>by
  simp only[stOf];refine Zbe l (i+1) _ _ (fun j e' he hne=>hd (j+1) e' (by simpa using he) (by rw[show i+(j+1)=i+1+j by omega];exact hne)) ?_;have h0:=hd 0 e rfl;simp only[Nat.add_zero]at h0
  cases hp:p i<;>cases hq:q i<;>simp only[hp,hq]at h0 ⊢
  ·exact h
  ·rw[Yh1 _ _ _ (h0 (by simp))];exact h
  ·rw[Yh1 _ _ _ (h0 (by simp))];exact h
  ·exact Ypv _ _ _ _ h
theorem Ytd {p q:Nat->Bool}(es:List Eff)(i:Nat)(s:St)(h:∀ j,j<es.length->p (i+j)=q (i+j)):stOf p i es s=stOf q i es s:=by
 funext k;refine Zbe es i s s (fun j e he hne=>?_) rfl;exact absurd (h j (List.getElem?_eq_some_iff.1 he).1) hne
theorem Yxj {p:Nat->Bool}{wr:List (Key×Val)}:∀(es:List Eff) (i:Nat) (s:St),(∀ j e,es[j]?=some e->p (i+j)=true->Yo0 wr e.wr=false)->stOf p i es (s.apply wr)=(stOf p i es s).apply wr
 | [],_,_,_=>rfl
 | e::l,i,s,h=>by
  simp only[stOf];have ih:=fun s=>Yxj l (i+1) s (fun j e' he hp=>h (j+1) e' (by simpa using he) (by rw[show i+(j+1)=i+1+j by omega];exact hp))
  cases hp:p i with
  | false=>exact ih s
  | true =>
   simp only;rw[Zoc (h 0 e rfl (by simpa using hp))];exact ih _
theorem Zp1 {p q:Nat->Bool}{n:Nat}{en:Eff}:∀(es:List Eff) (i:Nat) (s:St),es[n]?=some en->p (i+n)=false->q (i+n)=true->(∀ j,j≠i+n->p j=q j)->(∀ j e,n<j->es[j]?=some e->p (i+j)=true->Yo0 en.wr e.wr=false) ->
  stOf q i es s=(stOf p i es s).apply en.wr:=by
 induction n with
 | zero =>
  intro es i s he hp hq hpq hd
  cases es with
  | nil=>simp at he
  | cons e l =>
   simp only[List.getElem?_cons_zero,Option.some.injEq]at he;subst he;simp only[stOf,Nat.add_zero]at hp hq hpq ⊢;rw[hp,hq];simp only;rw[Ytd (p:=q) (q:=p) l (i+1) _ (fun j hj=>(hpq _ (by omega)).symm)];exact Yxj l (i+1) s (fun j e' he' hp'=>hd (j+1) e' (by omega) (by simpa using he') (by rw[show i+(j+1)=i+1+j by omega];exact hp'))
 | succ n ih =>
  intro es i s he hp hq hpq hd
  cases es with
  | nil=>simp at he
  | cons e l =>
   simp only[List.getElem?_cons_succ]at he;simp only[stOf];rw[hpq i (by omega)];refine ih l (i+1) _ he (by rw[show i+1+n=i+(n+1) by omega];exact hp) (by rw[show i+1+n=i+(n+1) by omega];exact hq) (fun j hj=>hpq j (by omega)) (fun j e' hj he' hp'=>hd (j+1) e' (by omega) (by simpa using he') (by rw[show i+(j+1)=i+1+j by omega];exact hp'))
theorem Yko:∀(m:M) (s s':St) (e:Eff),m.exec s=some e->(∀ k,memK k e.rd=true->s k=s' k)->m.exec s'=some e
 | .done,_,_,_,h,_=>h
 | .get k f,s,s',e,h,hr=>by
  simp only[M.exec]at h
  split at h
  ·rename_i e' he
   cases h
   have hk:s k=s' k:=hr k (by simp only[memK,Bool.or_eq_true];left;cases k<;>exact Nat.beq_refl _);simp only[M.exec];rw[<-hk,Yko (f (s k)) s s' e' he (fun k' hk'=>hr k' (by simp only[memK,Bool.or_eq_true];exact .inr hk'))]
  ·cases h
 | .put k v m,s,s',e,h,hr=>by
  simp only[M.exec]at h
  split at h
  ·rename_i e' he
   cases h
   simp only[M.exec];rw[Yko m s s' e' he hr]
  ·cases h
 | .ask p m,s,s',e,h,hr=>by
  simp only[M.exec]at h
  split at h
  ·rename_i e' he
   cases h
   simp only[M.exec];rw[Yko m s s' e' he hr]
  ·cases h
 | .fail,_,_,_,h,_=>by cases h
theorem Yxr {ops:Array Oper}{dec:List (Nat×Bool)}{orc:List (Nat×D)}:∀(l:List Oper) (i:Nat) (s s':St) (es:List Eff),runL C dec orc ops l s=some (es,s') ->
  es.length=l.length/\s'=stOf (fun _=>true) i es s/\∀ j o e,l[j]?=some o->es[j]?=some e->(semG C dec orc ops o).exec (stOf (fun m=>Nat.blt m (i+j)) i es s)=some e
 | [],i,s,s',es,h=>by
  cases h
  exact⟨rfl,rfl,fun j o e h=>by simp at h⟩
 | o::l,i,s,s',es,h=>by
  simp only[runL]at h
  split at h
  ·rename_i e he
   split at h
   ·rename_i es' s1 hes
    cases h
    obtain⟨h1,h2,h3⟩:=Yxr l (i+1) _ _ _ hes;refine⟨by simp[h1],by simp only[stOf];exact h2,fun j o' e' ho' he'=>?_⟩
    cases j with
    | zero =>
     simp only[List.getElem?_cons_zero,Option.some.injEq]at ho' he';subst ho' he'
     have:stOf (fun m=>Nat.blt m (i+0)) i (e::es') s=s:=by
      have:∀(es:List Eff) (k:Nat) (s:St),i<=k->stOf (fun m=>Nat.blt m (i+0)) k es s=s:=by
       intro es
       induction es with
       | nil=>intros;rfl
       | cons e es ih =>
        intro k s hk;simp only[stOf]
        have:Nat.blt k (i+0)=false:=by
         cases hq:Nat.blt k (i+0) with
         | false=>rfl
         | true=>have:=Nat.le_of_ble_eq_true hq;omega
        rw[this];exact ih (k+1) s (by omega)
      exact this _ i s (Nat.le_refl _)
     rw[this];exact he
    | succ j =>
     simp only[List.getElem?_cons_succ]at ho' he'
     have:=h3 j o' e' ho' he'
     simp only[stOf];have hb:Nat.blt i (i+(j+1))=true:=Nat.ble_eq_true_of_le (by omega);rw[hb];simp only;rw[show i+(j+1)=i+1+j by omega];exact this
   ·cases h
  ·cases h
end
end Go.Di
namespace Go.Di
open Go.RowKit
section
variable {P:Program} {C:Cfg} {w0 w:World} {R0 R:Foot} {a:Act} {s:St} {Q:Exit->Act->World->Prop}
theorem Yzo (acc:List Nat)(j:Nat):∀(l:List Edge) (s0:Nat),(l.foldl (fun s e=>match Region.binds .any e with|true=>s||| (2 ^ e.on||| acc.getD e.on 0)|false=>s) s0).testBit j=true ->
  s0.testBit j=true\/∃ e∈l,Region.binds .any e=true/\(e.on=j\/(acc.getD e.on 0).testBit j=true)
 | [],s0,h=>.inl h
 | e::l,s0,h=>by
  simp only[List.foldl_cons]at h;rcases Yzo acc j l _ h with h1|⟨e',he',h2⟩
  ·cases hb:Region.binds .any e with
   | true =>
    rw[hb]at h1;simp only[Nat.testBit_or,Bool.or_eq_true]at h1;rcases h1 with h1|h1|h1
    ·exact .inl h1
    ·refine .inr ⟨e,by simp,hb,.inl ?_⟩;rw[Nat.testBit_two_pow]at h1;simpa using h1
    ·exact .inr ⟨e,by simp,hb,.inr h1⟩
   | false =>
    rw[hb]at h1;exact .inl h1
  ·exact .inr ⟨e',by simp[he'],h2⟩
theorem Zwc:∀(l:List Oper) (acc:List Nat),∃ bs,ancs l acc=acc++bs/\bs.length=l.length/\∀ k o,l[k]?=some o->∀ j,((ancs l acc).getD (acc.length+k) 0).testBit j=true ->
  ∃ e∈o.after.toList,Region.binds .any e=true/\(e.on=j\/(((ancs l acc).take (acc.length+k)).getD e.on 0).testBit j=true)
 | [],acc=>⟨[],by simp[ancs],rfl,fun k o h=>by simp at h⟩
 | o::l,acc=>by
  simp only[ancs];generalize hb:o.after.toList.foldl (fun s e=>match Region.binds .any e with|true=>s||| (2 ^ e.on||| acc.getD e.on 0)|false=>s) 0=b;obtain⟨bs,h1,h2,h3⟩:=Zwc l (acc++[b]);refine⟨b::bs,by rw[h1];simp,by simp[h2],fun k o' ho' j hj=>?_⟩
  cases k with
  | zero =>
   simp only[List.getElem?_cons_zero,Option.some.injEq]at ho';subst ho';simp only[Nat.add_zero]at hj ⊢;have hg:(ancs l (acc++[b])).getD acc.length 0=b:=by rw[h1];simp[List.getD_eq_getElem?_getD]
   rw[hg,<-hb]at hj;rcases Yzo acc j _ _ hj with h4|⟨e,he,h4,h5⟩
   ·simp at h4
   ·refine⟨e,he,h4,?_⟩;rcases h5 with h5|h5
    ·exact .inl h5
    ·right
     have:(ancs l (acc++[b])).take acc.length=acc:=by rw[h1];simp
     rw[this];exact h5
  | succ k =>
   simp only[List.getElem?_cons_succ]at ho'
   have:=h3 k o' ho' j
   simp only[List.length_append,List.length_singleton]at this;rw[show acc.length+(k+1)=acc.length+1+k by omega]at hj ⊢;exact this hj
theorem Ywk:∀(l:List Oper) (n:Nat),Yrr l n=true->∀ k o,l[k]?=some o->∀ e∈o.after.toList,Region.binds .any e=true->e.on<n+k
 | [],_,_,k,o,h,_,_,_=>by simp at h
 | o::l,n,h,k,o',ho',e,he,hb=>by
  simp only[Yrr,Bool.and_eq_true,List.all_eq_true,Bool.or_eq_true,Bool.not_eq_true']at h
  cases k with
  | zero =>
   simp only[List.getElem?_cons_zero,Option.some.injEq]at ho';subst ho';rcases h.1 e he with h1|h1
   ·rw[hb]at h1;cases h1
   ·exact Nat.le_of_ble_eq_true h1
  | succ k =>
   simp only[List.getElem?_cons_succ]at ho'
   have:=Ywk l (n+1) h.2 k o' ho' e he hb
   omega
theorem Zst {anc:Nat}{e:Eff}:∀(l:List Eff) (i:Nat),Zgv anc e i l=true->∀ j x,l[j]?=some x->anc.testBit (i+j)=true\/x.apart e=true
 | [],_,_,j,x,h=>by simp at h
 | y::l,i,h,j,x,hx=>by
  simp only[Zgv,Bool.and_eq_true,Bool.or_eq_true]at h
  cases j with
  | zero =>
   simp only[List.getElem?_cons_zero,Option.some.injEq]at hx;subst hx;exact h.1
  | succ j =>
   simp only[List.getElem?_cons_succ]at hx
   have:=Zst l (i+1) h.2 j x hx
   rw[show i+(j+1)=i+1+j by omega];exact this
theorem Zvi {as:List Nat}:∀(l before:List Eff),Zhy as before l=true->∀ j x y k,(before++l)[j]?=some x->l[k]?=some y->j<before.length+k->(as.getD (before.length+k) 0).testBit j=true\/x.apart y=true
 | [],_,_,j,x,y,k,_,h,_=>by simp at h
 | e::l,before,h,j,x,y,k,hx,hy,hjk=>by
  simp only[Zhy,Bool.and_eq_true]at h
  cases k with
  | zero =>
   simp only[List.getElem?_cons_zero,Option.some.injEq]at hy;subst hy;rw[List.getElem?_append_left (by omega)]at hx
   have:=Zst before 0 h.1 j x hx
   simpa using this
  | succ k =>
   simp only[List.getElem?_cons_succ]at hy
   have:=Zvi l (before++[e]) h.2 j x y k (by simpa using hx) hy (by simp;omega)
   simp only[List.length_append,List.length_singleton]at this;rw[show before.length+(k+1)=before.length+1+k by omega];exact this
theorem Yr3 {x y:Eff}(h:x.apart y=true):Yo0 x.wr y.rd=false/\Yo0 x.wr y.wr=false/\Yo0 y.wr x.rd=false:=by
 simp only[Eff.apart,Bool.and_eq_true,Bool.not_eq_true']at h;exact⟨h.1.1,h.1.2,h.2⟩
variable {ops:Array Oper} {dec:List (Nat×Bool)} {orc:List (Nat×D)}
def Xi4 (ops:Array Oper)(p:Nat->Bool):Prop:=∀ i o,ops[i]?=some o->p i=true->∀ e∈o.after.toList,Region.binds .any e=true->p e.on=true
theorem Yxl {p:Nat->Bool}(hp:Xi4 ops p):∀(i:Nat) (o:Oper),ops[i]?=some o->(∀ e∈o.after.toList,Region.binds .any e=true->p e.on=true)->Yrr ops.toList 0=true->∀ j,((ancs ops.toList []).getD i 0).testBit j=true->p j=true:=by
 intro i
 induction i using Nat.strongRecOn with
 | ind i ih =>
  intro o ho hall hedge j hj;obtain⟨bs,h1,h2,h3⟩:=Zwc ops.toList [];have h4:=h3 i o (by simpa using ho) j (by simpa using hj);obtain⟨e,he,hb,h5⟩:=h4;have hlt:=Ywk ops.toList 0 hedge i o (by simpa using ho) e he hb;simp only[Nat.zero_add]at hlt;rcases h5 with h5|h5
  ·rw[<-h5];exact hall e he hb
  ·simp only[List.length_nil,Nat.zero_add]at h5;rw[List.getD_eq_getElem?_getD,List.getElem?_take,if_pos hlt,<-List.getD_eq_getElem?_getD]at h5
   have hi:e.on<ops.size:=by
    have:=(Array.getElem?_eq_some_iff.1 ho).1
    omega
   exact ih e.on hlt ops[e.on] (Array.getElem?_eq_getElem hi) (fun e' he' hb'=>hp e.on _ (Array.getElem?_eq_getElem hi) (hall e he hb) e' he' hb') hedge j h5
theorem Xbm (hT:Ybu P C.tt)(hC:∀ f args r,C.con f args r->Contract P C.glob f args r){es:List Eff}{s':St}(hrun:runL C dec orc ops ops.toList s=some (es,s'))(hok:Zhu ops.toList es=true)(hp:∀ p∈psOf es,p)
  (hQ:∀ a' w',Holds C w0 R0 a' w' s'->Q .normal a' w'):∀(fuel:Nat) (listed:Array Bool) (a:Act) (w:World),listed.size=ops.size->listed.toList.countP (fun b=>!b)=fuel->Xi4 ops (fun i=>listed.getD i false) ->
   Holds C w0 R0 a w (stOf (fun i=>listed.getD i false) 0 es s)->wpAny P .any ops Q fuel listed a w:=by
 simp only[Zhu,Bool.and_eq_true]at hok;obtain⟨hedge,hcomm⟩:=hok;obtain⟨hlen,hs',heach⟩:=Yxr _ 0 _ _ _ hrun;simp only[Nat.zero_add]at heach;have hcomm':=Zvi es [] hcomm;simp only[List.nil_append,List.length_nil,Nat.zero_add]at hcomm'
 have hready:∀ listed:Array Bool,listed.size=ops.size->Region.ready .any ops listed=[]->∀ i,i<ops.size->listed.getD i false=true:=by
  intro listed hsz hr i
  induction i using Nat.strongRecOn with
  | ind i ih =>
   intro hi
   cases hq:listed.getD i false with
   | true=>rfl
   | false =>
    exfalso
    have:i∈Region.ready .any ops listed:=by
     unfold Region.ready;rw[List.mem_filter];refine⟨by simpa using hi,?_⟩
     have h1:listed.getD i true=false:=by
      rw[Array.getD_eq_getD_getElem?]at hq ⊢;rw[Array.getElem?_eq_getElem (by omega)]at hq ⊢;exact hq
     rw[h1,Array.getElem?_eq_getElem hi];simp only[Bool.not_false,Option.map_some,Option.getD_some,Bool.true_and];rw[Array.all_eq_true_iff_forall_mem];intro e he
     cases hb:Region.binds .any e with
     | false=>simp
     | true =>
      simp only[Bool.not_true,Bool.false_or];have hlt:=Ywk ops.toList 0 hedge i ops[i] (by simp[hi]) e (by simpa using he) hb;exact ih e.on (by omega) (by omega)
    rw[hr]at this
    cases this
 have hdone:∀(listed:Array Bool) (a:Act) (w:World),listed.size=ops.size->Holds C w0 R0 a w (stOf (fun i=>listed.getD i false) 0 es s)->Region.ready .any ops listed=[]->Q .normal a w:=by
  intro listed a w hsz hH hr;refine hQ a w ?_;rw[hs']
  rw[Ytd (p:=fun _=>true) (q:=fun i=>listed.getD i false) es 0 s (fun j hj=>by
   rw[Nat.zero_add];exact(hready listed hsz hr j (by rw[hlen]at hj;simpa using hj)).symm)]
  exact hH
 intro fuel
 induction fuel with
 | zero =>
  intro listed a w hsz hcnt hshut hH
  have hr:Region.ready .any ops listed=[]:=by
   unfold Region.ready;rw[List.filter_eq_nil_iff];intro i hi;simp only[List.mem_range]at hi
   have:listed.getD i true=true:=by
    rw[Array.getD_eq_getD_getElem?,Array.getElem?_eq_getElem (by omega)];rw[List.countP_eq_zero]at hcnt
    have:=hcnt listed[i] (by simp)
    simpa using this
   rw[this];simp
  exact⟨hr,hdone listed a w hsz hH hr⟩
 | succ fuel ih =>
  intro listed a w hsz hcnt hshut hH;refine⟨hdone listed a w hsz hH,fun i hi=>?_⟩;unfold Region.ready at hi;rw[List.mem_filter]at hi;obtain⟨hi,hcond⟩:=hi;simp only[List.mem_range]at hi;rw[Array.getElem?_eq_getElem hi]at hcond;simp only[Option.map_some,Option.getD_some,Bool.and_eq_true,Bool.not_eq_true']at hcond;obtain⟨hun,hall⟩:=hcond;have hli:i<listed.size:=by omega
  have hun':listed[i]=false:=by
   rw[Array.getD_eq_getD_getElem?,Array.getElem?_eq_getElem hli]at hun;exact hun
  have hpi:(fun i=>listed.getD i false) i=false:=by
   simp only;rw[Array.getD_eq_getD_getElem?,Array.getElem?_eq_getElem hli];exact hun'
  have hpre:∀ e∈(ops[i]).after.toList,Region.binds .any e=true->listed.getD e.on false=true:=by
   intro e he hb
   have:=Array.all_eq_true_iff_forall_mem.1 hall e (by simpa using he)
   rw[hb]at this;simpa using this
  have hei:i<es.length:=by rw[hlen];simpa using hi
  have hanc:=Yxl hshut i ops[i] (Array.getElem?_eq_getElem hi) hpre hedge
  have hq1:∀ q,(listed.setIfInBounds i true).getD q false=if q=i then true else listed.getD q false:=by
   intro q;simp only[Array.getD_eq_getD_getElem?,Array.getElem?_setIfInBounds]
   by_cases e:i=q
   ·subst e;simp[hli]
   ·rw[if_neg e,if_neg (fun x=>e x.symm)]
  have hapart1:∀ j e,j<i->es[j]?=some e->listed.getD j false=false->e.apart es[i]=true:=by
   intro j e hj he hnl;rcases hcomm' j e es[i] i he (List.getElem?_eq_getElem hei) hj with h1|h1
   ·have h2:=hanc j h1;rw[hnl]at h2
    cases h2
   ·exact h1
  have hapart2:∀ j e,i<j->es[j]?=some e->listed.getD j false=true->es[i].apart e=true:=by
   intro j e hj he hl;rcases hcomm' i es[i] e j (List.getElem?_eq_getElem hei) he hj with h1|h1
   ·have hjo:j<ops.size:=by
     have:=(List.getElem?_eq_some_iff.1 he).1
     rw[hlen]at this;simpa using this
    have h2:=Yxl hshut j ops[j] (Array.getElem?_eq_getElem hjo) (fun e he hb=>hshut j _ (Array.getElem?_eq_getElem hjo) hl e he hb) hedge i h1;simp only at h2 hpi;rw[hpi]at h2
    cases h2
   ·exact h1
  have hex:=heach i ops[i] es[i] (by simp[hi]) (List.getElem?_eq_getElem hei)
  have hex':(semG C dec orc ops ops[i]).exec (stOf (fun i=>listed.getD i false) 0 es s)=some es[i]:=by
   refine Yko _ _ _ _ hex (fun k hk=>?_);refine Zbe es 0 s s (fun j e he hne=>?_) rfl;rw[Nat.zero_add]at hne;rcases Nat.lt_trichotomy j i with hj|hj|hj
   ·have h1:Nat.blt j i=true:=Nat.ble_eq_true_of_le hj;rw[h1]at hne
    have:=Yr3 (hapart1 j e hj he (by
     cases hq:listed.getD j false with
     | false=>rfl
     | true=>exact absurd hq.symm hne))
    cases hq:memK k e.wr with
    | false=>rfl
    | true=>have:=Yny this.1 k hq;rw[hk]at this;cases this
   ·subst hj
    have h1:Nat.blt j j=false:=by
     cases hq:Nat.blt j j with
     | false=>rfl
     | true=>have:=Nat.le_of_ble_eq_true hq;omega
    rw[h1]at hne;exact absurd hpi.symm hne
   ·have h1:Nat.blt j i=false:=by
     cases hq:Nat.blt j i with
     | false=>rfl
     | true=>have:=Nat.le_of_ble_eq_true hq;omega
    rw[h1]at hne
    have:=Yr3 (hapart2 j e hj he (by
     cases hq:listed.getD j false with
     | false=>exact absurd hq.symm hne
     | true=>rfl))
    cases hq:memK k e.wr with
    | false=>rfl
    | true=>have:=Yny this.2.2 k hq;rw[hk]at this;cases this
  refine Yur hT hC (Array.getElem?_eq_getElem hi) hH (fun a' w' hH'=>?_) (M.exec_ok _ _ _ hex' fun p hpp=>hp p (Zzg (List.getElem_mem hei) hpp));refine ih (listed.setIfInBounds i true) a' w' (by simpa using hsz) ?_ ?_ ?_
  ·rw[Array.toList_setIfInBounds,List.countP_set (by simpa using hli),hcnt];simp[hun']
  ·intro j o hj hjl e he hb;simp only[hq1]at hjl ⊢
   by_cases hje:j=i
   ·subst hje;rw[Array.getElem?_eq_getElem hi]at hj
    cases hj
    have:=hpre e he hb
    split<;>first|rfl|exact this
   ·rw[if_neg hje]at hjl
    have:=hshut j o hj hjl e he hb
    split<;>first|rfl|exact this
  ·have:=Zp1 (p:=fun i=>listed.getD i false) (q:=fun q=>(listed.setIfInBounds i true).getD q false) (n:=i) (en:=es[i]) es 0 s (List.getElem?_eq_getElem hei) (by rw[Nat.zero_add];exact hpi) (by rw[Nat.zero_add,hq1,if_pos rfl])
    (fun j hj=>by rw[hq1,if_neg (by omega)]) (fun j e hj he hl=>by
     rw[Nat.zero_add]at hl;exact(Yr3 (hapart2 j e hj he hl)).2.1)
   rw[this];exact hH'
theorem Zb8 (hm:P.follows .mixedOrders=true)(hT:Ybu P C.tt)(hC:∀ f args r,C.con f args r->Contract P C.glob f args r){s':St}{es:List Eff}
  (hes:runL C dec orc ops ops.toList s=some (es,s')) (hok:Zhu ops.toList es=true) (hp:∀ p∈psOf es,p) (hH:Holds C w0 R0 a w s) (hQ:∀ a' w',Holds C w0 R0 a' w' s'->Q .normal a' w') :
  ∀ t,wpOps P ops Q (Region.schedule (P.follows .mixedOrders) ops t) a {w with drawn:=w.drawn+1}:=by
 intro t;simp only[Region.schedule,hm,Bool.true_or,if_true];refine wpAny_sound ops.size t _ a _ ?_;obtain⟨β,σ,R,hI⟩:=hH;refine Xbm hT hC hes hok hp hQ ops.size _ a w.drew (by simp) ?_ ?_ ?_
 ·rw[Array.toList_replicate,List.countP_replicate];simp
 ·intro i o _ hi
  have hf:(Array.replicate ops.size false).getD i false=false:=by
   rw[Array.getD_eq_getD_getElem?,Array.getElem?_replicate]
   split<;>rfl
  simp only at hi;rw[hf]at hi
  cases hi
 ·have:stOf (fun i=>(Array.replicate ops.size false).getD i false) 0 es s=s:=by
   have h0:∀ i,(Array.replicate ops.size false).getD i false=false:=by
    intro i;rw[Array.getD_eq_getD_getElem?,Array.getElem?_replicate]
    split<;>rfl
   have:∀(es:List Eff) (k:Nat),stOf (fun i=>(Array.replicate ops.size false).getD i false) k es s=s:=by
    intro es
    induction es with
    | nil=>intros;rfl
    | cons e es ih =>
     intro k;simp only[stOf];rw[h0 k];exact ih (k+1)
   exact this es 0
  rw[this];exact⟨β,σ,R,hI.drew⟩
theorem Zrj (hm:P.follows .mixedOrders=true)(hT:Ybu P C.tt)(hC:∀ f args r,C.con f args r->Contract P C.glob f args r){draw:Bool}{s':St}{ps:List Prop}{id:Nat}{ro:Option Nat}{n:Nat}
  (h:runR C dec orc ops draw s=some (ps,s')) (hp:∀ p∈ps,p) (hH:Holds C w0 R0 a w s) (hQ:∀ a' w',Holds C w0 R0 a' w' s'->Q .normal a' w'):(Code.region id ops draw).wpIn (FR ro) n P Q a w:=by
 unfold runR at h
 split at h
 ·rename_i es s1 hnd hes;refine wpIn_mono (Q:=Yiy Q) ?_ fun e a w=>Yhq
  cases draw with
  | false =>
   cases h
   exact wpIn_region (opsIn hnd (Ygg Q) _ _ _ (Zb7 (Q:=Yiy Q) hT hC hes hp hH hQ))
  | true =>
   simp only at h
   split at h
   ·rename_i hok
    cases h
    exact wpIn_region_draw fun t=>opsIn hnd (Ygg Q) _ _ _ (Zb8 (Q:=Yiy Q) hm hT hC hes hok hp hH hQ t)
   ·cases h
 ·cases h
end
end Go.Di
