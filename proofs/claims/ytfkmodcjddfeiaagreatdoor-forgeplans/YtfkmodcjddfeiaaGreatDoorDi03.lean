/- Part 3: contracts are proved. No condition. -/
import Derived.Test.YtfkmodcjddfeiaaGreatDoorDi02
import Derived.Laws.Small
set_option linter.unusedVariables false
set_option linter.unusedSimpArgs false
namespace Go.Di
open Go.RowKit
def Yc2 (arr:Array Value)(o:Nat):List Value->Array Value
 | []=>arr
 | v::r=>Yc2 (arr.setIfInBounds o v) (o+1) r
theorem Ybs:∀(vs:List Value) (arr:Array Value) (o:Nat),(Yc2 arr o vs).size=arr.size
 | [],_,_=>rfl
 | v::r,arr,o=>by rw[Yc2,Ybs r];simp
theorem Ybt:∀(vs:List Value) (arr:Array Value) (o:Nat) (q:Nat),(Yc2 arr o vs)[q]?=if o<=q/\q<o+vs.length/\q<arr.size then vs[q-o]? else arr[q]?
 | [],arr,o,q=>by
  simp only[Yc2,List.length_nil,Nat.add_zero];rw[if_neg (by omega)]
 | v::r,arr,o,q=>by
  rw[Yc2,Ybt r];simp only[Array.size_setIfInBounds,Array.getElem?_setIfInBounds,List.length_cons]
  by_cases h1:o+1<=q/\q<o+1+r.length/\q<arr.size
  ·rw[if_pos h1,if_pos (by omega)]
   have:q-o=(q-(o+1))+1:=by omega
   rw[this,List.getElem?_cons_succ]
  ·rw[if_neg h1]
   by_cases h2:o=q
   ·subst h2
    by_cases h3:o<arr.size
    ·rw[if_pos rfl,if_pos h3,if_pos (by omega)];simp
    ·rw[if_pos rfl,if_neg h3,if_neg (by omega)];simp[h3]
   ·rw[if_neg h2,if_neg (by omega)]
theorem Ybo (g:Nat):∀(vs:List Value) (o:Nat) (w:World) (arr:Array Value) (el:TypeId) (f:Nat×Nat),w.heap[g]?=some (.cells arr el f)->(w.setCells g o vs).heap[g]?=some (.cells (Yc2 arr o vs) el f)
 | [],_,_,_,_,_,h=>h
 | v::r,o,w,arr,el,f,h=>by
  rw[World.setCells];exact Ybo g r (o+1) _ _ el f (by simp[World.setCell,Array.getElem?_modify,h])
theorem Ybz (g:Nat):∀(vs:List Value) (o:Nat) (w:World) (k:Nat),k≠g->(w.setCells g o vs).heap[k]?=w.heap[k]?
 | [],_,_,_,_=>rfl
 | v::r,o,w,k,h=>by
  rw[World.setCells,Ybz g r _ _ k h,Below.heap_setCell _ _ _ _ h]
theorem Yce (g:Nat):∀(vs:List Value) (o:Nat) (w:World),(w.setCells g o vs).os=w.os/\(w.setCells g o vs).tape=w.tape/\(w.setCells g o vs).output=w.output/\(w.setCells g o vs).heap.size=w.heap.size
 | [],_,_=>⟨rfl,rfl,rfl,rfl⟩
 | v::r,o,w=>by
  obtain⟨h1,h2,h3,h4⟩:=Yce g r (o+1) (w.setCell ⟨g,o,none⟩ v);exact⟨h1,h2,h3,h4.trans (by simp[World.setCell])⟩
theorem Yl0 (cs:List D)(off:Nat)(new:List D)(h:off+new.length<=cs.length):(Yiw cs off new).length=cs.length:=by
 simp[Yiw];omega
theorem Yno (cs:List D)(off:Nat)(new:List D)(h:off+new.length<=cs.length)(q:Nat):(Yiw cs off new)[q]?=if off<=q/\q<off+new.length then new[q-off]? else cs[q]?:=by
 unfold Yiw
 by_cases h1:q<off
 ·rw[if_neg (by omega),List.getElem?_append_left (by simp;omega),List.getElem?_take,if_pos h1]
 ·rw[List.getElem?_append_right (by simp;omega)];have hl:(cs.take off).length=off:=by simp;omega
  rw[hl]
  by_cases h2:q<off+new.length
  ·rw[if_pos (by omega),List.getElem?_append_left (by omega)]
  ·rw[if_neg (by omega),List.getElem?_append_right (by omega),List.getElem?_drop]
   congr 1
   omega
theorem Zay {p:D->Value->Prop}{cs:List D}{arr:Array Value}{off:Nat}{new:List D}{vs:List Value}(h:All2 p cs arr.toList)(hn:All2 p new vs)(hle:off+new.length<=cs.length) :
  All2 p (Yiw cs off new) (Yc2 arr off vs).toList:=by
 have hl:=All2.length h;have hv:=All2.length hn;refine All2.of_get (by rw[Yl0 _ _ _ hle,hl];simp[Ybs]) fun i a b ha hb=>?_;rw[Yno _ _ _ hle]at ha;rw[Array.getElem?_toList,Ybt]at hb;simp only[Array.length_toList]at hl
 by_cases hc:off<=i/\i<off+new.length
 ·rw[if_pos hc]at ha;rw[if_pos (by omega)]at hb;obtain⟨y,hy,hp⟩:=All2.get hn _ a ha;rw[hb]at hy
  cases hy
  exact hp
 ·rw[if_neg hc]at ha;rw[if_neg (by omega)]at hb;obtain⟨y,hy,hp⟩:=All2.get h _ a ha;rw[Array.getElem?_toList,hb]at hy
  cases hy
  exact hp
theorem Yk7 {p:D->Value->Prop}{cs:List D}{arr:Array Value}{off:Nat}{new:List D}{vs:List Value}(h:All2 p cs (arr.toList.take cs.length))(hn:All2 p new vs)(hle:off+new.length<=cs.length) :
  All2 p (Yiw cs off new) ((Yc2 arr off vs).toList.take (Yiw cs off new).length):=by
 have hl:=All2.length h;have hv:=All2.length hn;have hal:arr.toList.length=arr.size:=Array.length_toList;rw[List.length_take]at hl;have hrl:=Yl0 cs off new hle;have hal2:(Yc2 arr off vs).toList.length=arr.size:=by rw[Array.length_toList,Ybs]
 refine All2.of_get (by rw[hrl,List.length_take];omega) fun i a b ha hb=>?_
 have hi:i<cs.length:=by
  have:=(List.getElem?_eq_some_iff.1 ha).1
  omega
 rw[Yno _ _ _ hle]at ha;rw[List.getElem?_take,if_pos (by omega),Array.getElem?_toList,Ybt]at hb
 by_cases hc:off<=i/\i<off+new.length
 ·rw[if_pos hc]at ha;rw[if_pos (by omega)]at hb;obtain⟨y,hy,hp⟩:=All2.get hn _ a ha;rw[hb]at hy
  cases hy
  exact hp
 ·rw[if_neg hc]at ha;rw[if_neg (by omega)]at hb;obtain⟨y,hy,hp⟩:=All2.get h _ a ha;rw[List.getElem?_take,if_pos hi,Array.getElem?_toList,hb]at hy
  cases hy
  exact hp
theorem Yzn (off:Nat):∀(l:List Value) (k:Nat) (arr:Array Value),(l.zipIdx k).foldl (fun cs (p:Value×Nat)=>cs.setIfInBounds (off+p.2) p.1) arr=Yc2 arr (off+k) l
 | [],_,_=>rfl
 | v::r,k,arr=>by
  simp only[List.zipIdx_cons,List.foldl_cons,Yc2];rw[Yzn off r (k+1)];rw[Nat.add_assoc]
theorem Ywb (off:Nat)(v:Value)(cells:Array Value):v.cells.zipIdx.foldl (fun cs (c,j)=>cs.setIfInBounds (off+j) c) cells=Yc2 cells off v.cells.toList:=by
 rw[<-Array.foldl_toList]
 have:=Yzn off v.cells.toList 0 cells
 simp only[Nat.add_zero]at this;rw[<-this]
 congr 1
 simp
section
variable {P:Program} {C:Cfg} {w0 w:World} {R0 R:Foot} {a:Act} {s:St} {β:Nat->Nat} {σ:Sig} {o:Oper} {wr:List (Key×Val)} {K:Act->World->Prop} {Q:Exit->Act->World->Prop}
theorem Yf6 {t:TypeId}{ti:TI}(hT:TIok P C.tt t ti){g off:Nat}{v:Value}{arr:Array Value}{el:TypeId}(h:w.heap[g]?=some (.cells arr el (0,0)))(hsz:v.cells.size=ti.sz)(hle:off+ti.sz<=arr.size)
  (h1:∀ u∈v.cells.toList,u.oneCell'=true):(Instr.storeAt t (.pointer (some ⟨g,off,none⟩)) v).run P w=.ok () (w.setCells g off v.cells.toList):=by
 have hs:=Ycj (P:=P) (C:=C) (w:=w) hT
 have hc:=run_storeCells_cells (P:=P) g off v.cells.toList 0 w (fun j hj=>by
  simp only[Array.length_toList]at hj;rw[Ye1 h,Nat.add_zero,Array.getElem?_eq_getElem (by omega)];rfl) (fun j hj=>by simp[World.frozen?,h]) h1
 simp only[Nat.add_zero]at hc;simp[Instr.storeAt,Instr.sureAddr,storeVar,hs,hsz,hc]
theorem Zxk (hT:Ybu P C.tt)(hI:Inv C w0 R0 a w s β σ R)(hK:∀ a' w',Holds C w0 R0 a' w' (s.apply wr)->K a' w'){t:TypeId}{x y:Operand}(hop:o.op=.store t x y){dec:List (Nat×Bool)}{orc:List (Nat×D)}
  (h:(sem C dec orc o).Ok s wr):o.wp P a w K Q:=by
 unfold sem at h;rw[hop]at h;simp only at h
 split at h
 ·rename_i ti ht;obtain⟨d,h1,h2⟩:=Ybx hI h;obtain⟨dy,h1',h3⟩:=Ybx hI h1
  clear h1
  have h1:=h1'
  clear h1'
  split at h1
  ·rename_i b off;simp only[M.Ok]at h1
   split at h1
   ·rename_i bx hbx
    split at h1
    ·rename_i hf hl hle;obtain⟨⟨b',hb'⟩,hv⟩:=h2;have hbx:=Zn7 hbx;obtain⟨arr,el,p1,p2⟩:=(hI.box b bx hbx).all;obtain⟨h4,h5,h6⟩:=Ywo hI h1 (Ydg h3);obtain⟨wr',rfl,h7⟩:=h4;have hl:=Nat.eq_of_beq_eq_true hl;have hle:=Nat.le_of_ble_eq_true hle;have hl5:=All2.length h5;have hlp:=All2.length p2;simp only[List.length_take,Array.length_toList]at hl5 hlp;obtain⟨q1,q2,q3,q4⟩:=Yce (β b) (a.eval y).cells.toList off w
     have hI':=hI.storeBox (w':=w.setCells (β b) off (a.eval y).cells.toList) hbx hf (Yiw bx.cells off (cellsOf (Ydy C.tt t dy))) p1 (Ybo _ _ _ _ _ _ _ p1) (fun k hk=>Ybz _ _ _ _ _ hk)
      ⟨q1,q2,q3,q4⟩ (Yk7 p2 h5 (by omega))
     refine Yul (w':=w.setCells (β b) off (a.eval y).cells.toList) ?_ (hK _ _ ⟨β,σ,R,Ybn hI' h7 (d:=.undef) (v:=undef) trivial⟩)
     have:=Yf6 (P:=P) (C:=C) (w:=w) (hT t ti ht) (g:=β b) (off:=off) (v:=a.eval y) p1 (by omega) (by omega) h6
     simp[execOp,hop,hv,this]
    ·exact h1.elim
   ·rename_i zs hbx
    split at h1
    ·rename_i v hs1;obtain⟨hlt,wr',rfl,h7⟩:=h1;obtain⟨⟨b',hb'⟩,hv⟩:=h2;have hbx:=Xdd hbx;obtain⟨arr,el,p1,p2⟩:=(hI.box b _ hbx).all;have p2:All2 (RelTC σ s R w) (intC zs) (arr.toList.take (intC zs).length):=p2;have hs1:=Nat.eq_of_beq_eq_true hs1;have ev:a.eval y=.int .i64 v:=h3;have hlz:(intC zs).length=zs.length:=by simp[intC]
     have hlp:=All2.length p2;have hal:arr.toList.length=arr.size:=Array.length_toList;rw[List.length_take]at hlp
     have hrep:Yiw (intC zs) off [.int .i64 v]=intC (zs.set off v):=by
      refine List.ext_getElem? fun q=>?_;rw[Yno _ _ _ (by simp[hlz];omega)];simp only[intC,List.getElem?_map,List.getElem?_set,List.length_singleton]
      by_cases e:off=q
      ·subst e;rw[if_pos ⟨Nat.le_refl _,by omega⟩,if_pos rfl,if_pos hlt];simp
      ·rw[if_neg (by omega),if_neg e]
     obtain⟨q1,q2,q3,q4⟩:=Yce (β b) (a.eval y).cells.toList off w;have hc1:(a.eval y).cells.toList=[.int .i64 v]:=by rw[ev];rfl
     have hI':=hI.storeBox (w':=w.setCells (β b) off (a.eval y).cells.toList) hbx rfl (intC (zs.set off v)) p1 (Ybo _ _ _ _ _ _ _ p1) (fun k hk=>Ybz _ _ _ _ _ hk)
      ⟨q1,q2,q3,q4⟩ (by
       rw[<-hrep,hc1];exact Yk7 p2 (show All2 _ [D.int .i64 v] [Value.int .i64 v] from ⟨rfl,trivial⟩) (by simp[hlz];omega))
     refine Yul (w':=w.setCells (β b) off (a.eval y).cells.toList) ?_ (hK _ _ ⟨β,σ,R,Ybn hI'.rw_box h7 (d:=.undef) (v:=undef) trivial⟩)
     have:=Yf6 (P:=P) (C:=C) (w:=w) (hT t ti ht) (g:=β b) (off:=off) (v:=a.eval y) p1 (by rw[ev,hs1];rfl) (by omega) (by rw[hc1];intro u hu;simp at hu;subst hu;rfl)
     simp[execOp,hop,hv,this]
    ·exact h1.elim
   ·exact h1.elim
  ·exact h1.elim
 ·exact h.elim
theorem Zg3 {α γ:Type}(f:α->Sem γ)(g:α->γ):∀(l:List α),(∀ x∈l,(f x).run P w=.ok (g x) w)->(l.mapM f).run P w=.ok (l.map g) w
 | [],_=>rfl
 | x::l,h=>by
  rw[List.mapM_cons];simp only[Sem.run_bind,h x (by simp),Result.andThen_ok,Zg3 f g l (fun y hy=>h y (by simp[hy])),Sem.run_pure,List.map_cons]
theorem Ysa {α γ:Type}(f:α->Sem γ)(g:α->γ)(l:Array α)(h:∀ x∈l.toList,(f x).run P w=.ok (g x) w):(l.mapM f).run P w=.ok (l.map g) w:=by
 rw[Array.mapM_eq_mapM_toList];simp only[Sem.run_map,Sem.run_bind,Zg3 f g l.toList h,Result.andThen_ok,map_eq_pure_bind,Sem.run_pure]
 congr 1
 apply Array.ext'
 simp
def Zwg (σ:Sig)(s:St)(R:Foot)(w:World)(p:Nat×D)(q:Nat×Value):Prop:=p.1=q.1/\∀ tt t,All2 (RelTC σ s R w) (cellsOf (Ydy tt t p.2)) q.2.cells.toList
theorem Zhp {tt:TypeId->Option TI}{fs:List (Nat×TypeId)}{place:Nat->Option (Nat×Nat)}(hp:∀ i off ft ti,fs[i]?=some (off,ft)->tt ft=some ti->place i=some (off,ti.sz)) :
  ∀(l:List (Nat×D)) (pv:List (Nat×Value)) (cs cs':List D) (arr:Array Value),All2 (Zwg σ s R w) l pv->All2 (RelTC σ s R w) cs arr.toList->Xa8 tt fs cs l=some cs'->∃ arr',Instr.fill place arr pv=some arr'/\All2 (RelTC σ s R w) cs' arr'.toList
 | [],[],cs,cs',arr,_,h,hf=>by
  cases hf
  exact⟨arr,rfl,h⟩
 | [],_::_,_,_,_,h,_,_=>h.elim
 | _::_,[],_,_,_,h,_,_=>h.elim
 | (i,d)::l,(j,v)::pv,cs,cs',arr,⟨⟨hij,hd⟩,hr⟩,h,hf=>by
  dsimp only at hij hd
  subst hij;simp only[Xa8]at hf
  split at hf
  ·rename_i off ft hfs
   split at hf
   ·rename_i ti hti
    split at hf
    ·rename_i h1 h2;have h1:=Nat.eq_of_beq_eq_true h1;have h2:=Nat.le_of_ble_eq_true h2;have hdd:=hd tt ft;have hl1:=All2.length hdd;have hl2:=All2.length h;simp only[Array.length_toList]at hl1 hl2;obtain⟨arr',p1,p2⟩:=Zhp hp l pv _ cs' (Yc2 arr off v.cells.toList) hr (Zay h hdd h2) hf;refine⟨arr',?_,p2⟩;rw[Instr.fill,hp i off ft ti hfs hti];simp only;rw[if_neg (by simp;omega),Ywb];exact p1
    ·cases hf
   ·cases hf
  ·cases hf
theorem Zhq {tt:TypeId->Option TI}{el:TypeId}{sz:Nat}{place:Nat->Option (Nat×Nat)}(hp:∀ i,place i=some (i*sz,sz)) :
  ∀(l:List (Nat×D)) (pv:List (Nat×Value)) (cs cs':List D) (arr:Array Value),All2 (Zwg σ s R w) l pv->All2 (RelTC σ s R w) cs arr.toList->Xa9 el tt sz cs l=some cs'->∃ arr',Instr.fill place arr pv=some arr'/\All2 (RelTC σ s R w) cs' arr'.toList
 | [],[],cs,cs',arr,_,h,hf=>by
  cases hf
  exact⟨arr,rfl,h⟩
 | [],_::_,_,_,_,h,_,_=>h.elim
 | _::_,[],_,_,_,h,_,_=>h.elim
 | (i,d)::l,(j,v)::pv,cs,cs',arr,⟨⟨hij,hd⟩,hr⟩,h,hf=>by
  dsimp only at hij hd
  subst hij;simp only[Xa9]at hf
  split at hf
  ·rename_i h1 h2;have h1:=Nat.eq_of_beq_eq_true h1;have h2:=Nat.le_of_ble_eq_true h2;have hdd:=hd tt el;have hl1:=All2.length hdd;have hl2:=All2.length h;simp only[Array.length_toList]at hl1 hl2;obtain⟨arr',p1,p2⟩:=Zhq hp l pv _ cs' (Yc2 arr (i*sz) v.cells.toList) hr (Zay h hdd h2) hf;refine⟨arr',?_,p2⟩;rw[Instr.fill,hp i];simp only;rw[if_neg (by simp;omega),Ywb];exact p1
  ·cases hf
theorem Zgt (hI:Inv C w0 R0 a w s β σ R){m:M}:∀ {ds:List D} {vs:List Value},(chk (ds.flatMap cellsOf) m).Ok s wr->All2 (RelT β σ s R w) ds vs->m.Ok s wr/\∀(is:List Nat),is.length=ds.length->All2 (Zwg σ s R w) (is.zip ds) (is.zip vs)
 | [],[],h,_=>⟨h,fun is _=>by cases is<;>simp[All2]⟩
 | [],_::_,_,h=>h.elim
 | _::_,[],_,h=>h.elim
 | d::ds,v::vs,h,⟨h1,h2⟩=>by
  have happ:∀(cs cs':List D) (m:M),(chk (cs++cs') m).Ok s wr->(chk cs (chk cs' m)).Ok s wr:=by
   intro cs
   induction cs with
   | nil=>exact fun cs' m h=>h
   | cons c cs ih =>
    intro cs' m h;simp only[List.cons_append,chk]at h ⊢
    cases c with
    | own i n =>
     simp only[M.Ok]at h ⊢
     split at h
     ·exact⟨h.1,ih _ _ h.2⟩
     ·exact h.elim
    | _=>first|exact ih _ _ h|exact h.elim
  rw[List.flatMap_cons]at h;obtain⟨p1,p2,p3⟩:=Ywo hI (happ _ _ _ h) h1;obtain⟨q1,q2⟩:=Zgt hI p1 h2;refine⟨q1,fun is his=>?_⟩
  match is,his with
  | i::is,his =>
   refine⟨⟨rfl,fun tt t=>?_⟩,q2 is (by simpa using his)⟩
   dsimp only
   cases d with
   | nil =>
    have hv:v=.slice none 0 0:=h1
    have:cellsOf (Ydy tt t .nil)=[Ydy tt t .nil]:=by
     unfold Ydy
     cases elt tt t with
     | none=>rfl
     | some p=>rfl
    rw[this,hv];exact⟨Zwt (d:=.nil) rfl,trivial⟩
   | _=>exact p2
theorem Za0 {α γ δ:Type}(f:α->γ)(g:α->δ):∀(l:List α),(l.map f).zip (l.map g)=l.map fun x=>(f x,g x)
 | []=>rfl
 | x::l=>by simp[Za0 f g l]
theorem Xbz (hT:Ybu P C.tt)(hI:Inv C w0 R0 a w s β σ R)(hK:∀ a' w',Holds C w0 R0 a' w' (s.apply wr)->K a' w'){t:TypeId}{parts:Array (Nat×Operand)}(hop:o.op=.build t parts){dec:List (Nat×Bool)}{orc:List (Nat×D)}
  (h:(sem C dec orc o).Ok s wr):o.wp P a w K Q:=by
 unfold sem at h;rw[hop]at h;obtain⟨ds,h1,h2⟩:=Yig hI h
 clear h
 obtain⟨h3,h4⟩:=Zgt hI h1 h2;have hlen:=All2.length h2;have hparts:=h4 (parts.toList.map (·.1)) (by simp at hlen ⊢;omega)
 have hpv:(parts.toList.map (·.1)).zip (List.map a.eval (parts.toList.map (·.2)))=(parts.map fun(i,x)=>(i,a.eval x)).toList:=by
  rw[Array.toList_map];rw[List.map_map];exact Za0 _ _ _
 rw[hpv]at hparts
 split at h3
 ·rename_i ti ht;have hti:=hT t ti ht;obtain⟨i,z,j1,j2,j3,j4,_,j5⟩:=hti.info;have hz:(zeroValue t).run P w=.ok z w:=by simp[zeroValue,typeInfo,j1,j4]
  have hzc:All2 (RelTC σ s R w) ti.zero z.cells.toList:=(j5 R w).imp fun _ _=>RelTC.of0
  split at h3
  ·rename_i fs hk;have hu:=hti.und;rw[hk]at hu;obtain⟨fields,u1,u2,u3,u4,u5⟩:=hu
   split at h3
   ·rename_i cs hcs
    have hm:=Ysa (P:=P) (w:=w) (fun(f:Field)=>do pure (f.offset,<-sizeOf f.type)) (fun f=>(f.offset,((C.tt f.type).map (·.sz)).getD 0)) fields (fun f hf=>by
     obtain⟨n,hn⟩:=List.getElem?_of_mem hf;obtain⟨tf,htf⟩:=(u2 n f (by simpa using hn)).2;simp[Ycj (P:=P) (C:=C) (w:=w) (hT _ _ htf),htf])
    obtain⟨arr',f1,f2⟩:=Zhp (σ:=σ) (s:=s) (R:=R) (w:=w) (tt:=C.tt) (fs:=fs) (place:=((fields.map fun f=>(f.offset,((C.tt f.type).map (·.sz)).getD 0))[·]?)) (fun i off ft tf hi htf=>by
     have hi':i<fields.size:=by rw[u3];exact(List.getElem?_eq_some_iff.1 hi).1
     have:=(u2 i fields[i] (Array.getElem?_eq_getElem hi')).1
     rw[hi]at this
     cases this
     simp[hi',htf]) _ _ _ _ _ hparts hzc hcs
    refine Ybi hI hK h3 (v:=.agg arr') ⟨_,rfl,f2⟩ ?_;have f1':=f1;rw[Array.toList_map]at f1'
    change Instr.fill _ z.cells (List.map (fun x=>(x.fst,a.eval x.snd)) parts.toList)=some arr' at f1'
    generalize Array.map (fun(f:Field)=>(f.offset,((C.tt f.type).map (·.sz)).getD 0)) fields=pl at hm f1';simp only[bind_pure_comp]at hm;simp[execOp,hop,Instr.build,hz,run_underlying u1,hm,f1']
   ·exact h3.elim
  ·rename_i n el hk;have hu:=hti.und;rw[hk]at hu;obtain⟨u1,te,u2⟩:=hu;rw[u2]at h3;simp only at h3
   split at h3
   ·rename_i cs hcs;obtain⟨arr',f1,f2⟩:=Zhq (σ:=σ) (s:=s) (R:=R) (w:=w) (tt:=C.tt) (el:=el) (sz:=te.sz) (place:=fun i=>some (i*te.sz,te.sz)) (fun i=>rfl) _ _ _ _ _ hparts hzc hcs;refine Ybi hI hK h3 (v:=.agg arr') ⟨_,rfl,f2⟩ ?_;have f1':=f1;rw[Array.toList_map]at f1'
    change Instr.fill _ z.cells (List.map (fun x=>(x.fst,a.eval x.snd)) parts.toList)=some arr' at f1'
    simp[execOp,hop,Instr.build,hz,run_underlying u1,Ycj (P:=P) (C:=C) (w:=w) (hT _ _ u2),f1']
   ·exact h3.elim
  ·exact h3.elim
 ·exact h3.elim
end
end Go.Di
namespace Go.Di
open Go.RowKit
theorem Ym6 {z:Int}(h:Yae z):IntKind.i64.wrap z=z:=by
 obtain⟨h1,h2⟩:=h;have hb:IntKind.i64.bits=64:=rfl;have hs:IntKind.i64.signed=true:=rfl;simp only[IntKind.wrap,hb,hs,Bool.true_and,decide_eq_true_eq];have e1:(2:Int) ^ 64=18446744073709551616:=by decide
 have e2:(2:Int) ^ (64-1)=9223372036854775808:=by decide
 rw[e1,e2]
 split<;>omega
section
variable {P:Program} {C:Cfg} {w0 w:World} {R0 R:Foot} {a:Act} {s:St} {β:Nat->Nat} {σ:Sig} {o:Oper} {wr:List (Key×Val)} {K:Act->World->Prop} {Q:Exit->Act->World->Prop}
theorem Xgf {op:BinOp}{ty:TypeId}{x y:Int}{k:D->M}(h:(binI op x y k).Ok s wr):∃ d v,(k d).Ok s wr/\RelT β σ s R w d v/\(binOp op ty (.int .i64 x) (.int .i64 y)).run P w=.ok v w:=by
 cases op with
 | add=>exact⟨_,_,h.2,rfl,by simp[binOp,Op.intArith,Ym6 h.1]⟩
 | sub=>exact⟨_,_,h.2,rfl,by simp[binOp,Op.intArith,Ym6 h.1]⟩
 | mul=>exact⟨_,_,h.2,rfl,by simp[binOp,Op.intArith,Ym6 h.1]⟩
 | quo=>exact⟨_,_,h.2,rfl,by simp[binOp,Op.intDiv,h.1.1,Ym6 h.1.2]⟩
 | rem=>exact⟨_,_,h.2,rfl,by simp[binOp,Op.intDiv,show ¬y=0 from h.1]⟩
 | shl =>
  have h1:¬y<0:=by have:=h.1.1;omega
  have h2:=Ym6 h.1.2
  exact⟨_,_,h.2,rfl,by
   simp only[binOp,Op.shift,h1,if_false]
   have:IntKind.i64.bits=64:=rfl
   rw[this,h2];rfl⟩
 | shr =>
  have h1:¬y<0:=by have:=h.1;omega
  exact⟨_,_,h.2,rfl,by
   simp only[binOp,Op.shift,h1,if_false]
   have:IntKind.i64.bits=64:=rfl
   rw[this];rfl⟩
 | eql=>exact⟨_,_,h,rfl,by simp[binOp,Op.intCmp]⟩
 | neq=>exact⟨_,_,h,rfl,by simp[binOp,Op.intCmp]⟩
 | lss=>exact⟨_,_,h,rfl,by simp[binOp,Op.intCmp]⟩
 | leq=>exact⟨_,_,h,rfl,by simp[binOp,Op.intCmp]⟩
 | gtr=>exact⟨_,_,h,rfl,by simp[binOp,Op.intCmp]⟩
 | geq=>exact⟨_,_,h,rfl,by simp[binOp,Op.intCmp]⟩
 | and=>exact⟨_,_,h,rfl,by simp[binOp,Op.intBits];rfl⟩
 | or=>exact⟨_,_,h,rfl,by simp[binOp,Op.intBits];rfl⟩
 | xor=>exact h.elim
 | andNot=>exact h.elim
theorem Zh9 {cs:List D}{zs:List Int}(hz:allI cs=some zs){v:Value}(h:RelT β σ s R w (.agg cs) v):v=.agg (zs.map (Value.int .i64)).toArray:=by
 obtain⟨vs,rfl,h⟩:=h;rw[<-Ywv cs zs _ hz h]
theorem Yuc {t:TypeId}(h:P.underlying t=some .bool)(x y:Bool):(Op.equal t (.bool x) (.bool y)).run P w=.ok (x==y) w:=by
 exact run_equalIn_bool w 9999 t x y h
theorem Xcr {n:Nat}{ty:TypeId}(h:eqT C ty n=true):∃ ti,C.tt ty=some ti/\ti.eq=true/\n=ti.sz:=by
 unfold eqT at h
 split at h
 ·rename_i ti ht;simp only[Bool.and_eq_true]at h;exact⟨ti,ht,h.1,Nat.eq_of_beq_eq_true h.2⟩
 ·cases h
theorem Xiz (hT:Ybu P C.tt)(hI:Inv C w0 R0 a w s β σ R)(hK:∀ a' w',Holds C w0 R0 a' w' (s.apply wr)->K a' w'){op:BinOp}{t t':TypeId}{x y:Operand}(hop:o.op=.binOp op t x y t'){dec:List (Nat×Bool)}{orc:List (Nat×D)}
  (h:(sem C dec orc o).Ok s wr):o.wp P a w K Q:=by
 unfold sem at h;rw[hop]at h;obtain⟨dx,h1,h2⟩:=Ybx hI h
 clear h
 obtain⟨dy,h,h3⟩:=Ybx hI h1
 clear h1
 unfold binW at h
 split at h
 rotate_left
 ·rename_i z hz
  have hadd:op=.add:=by
   unfold Zfx at hz
   cases op<;>first|rfl|cases hz
  subst hadd
  split at h
  ·rename_i p q;obtain⟨rfl,h⟩:=h;have e1:a.eval x=.int .i64 p:=h2;have e2:a.eval y=.int .i64 q:=h3;refine Ybi hI hK h (v:=.int .i64 (IntKind.i64.wrap (p+q))) rfl ?_;have g:(eqGuard .add t x y (.int .i64 p) (.int .i64 q)).run P w=.ok () w:=by simp[eqGuard]
   have j3:(binOp .add t (.int .i64 p) (.int .i64 q)).run P w=.ok (.int .i64 (IntKind.i64.wrap (p+q))) w:=by simp[binOp,Op.intArith]
   simp[execOp,hop,e1,e2,g,j3]
  ·exact h.elim
 unfold binD at h
 split at h
 ·rename_i p
  split at h
  ·rename_i q;have e1:a.eval x=.int .i64 p:=h2;have e2:a.eval y=.int .i64 q:=h3;obtain⟨d,v,j1,j2,j3⟩:=Xgf (P:=P) (R:=R) (w:=w) (β:=β) (σ:=σ) (ty:=t) h;refine Ybi hI hK j1 j2 ?_
   have g:(eqGuard op t x y (.int .i64 p) (.int .i64 q)).run P w=.ok () w:=by
    cases op<;>simp[eqGuard]
   simp[execOp,hop,e1,e2,g,j3]
  ·exact h.elim
 ·rename_i p
  split at h
  ·rename_i q hb;have e1:a.eval x=.bool p:=h2;have e2:a.eval y=.bool q:=h3
   have hu:P.underlying t=some .bool:=by
    unfold Ztx at hb
    split at hb
    ·rename_i ti ht
     split at hb
     ·rename_i hk
      have:=(hT t ti ht).und
      rw[hk]at this;exact this
     ·cases hb
    ·cases hb
   split at h
   ·exact Ybi hI hK h (v:=.bool (p==q)) rfl (by simp[execOp,hop,e1,e2,eqGuard,binOp,Yuc hu])
   ·exact Ybi hI hK h (v:=.bool (!(p==q))) rfl (by simp[execOp,hop,e1,e2,eqGuard,binOp,Yuc hu])
   ·exact h.elim
  ·exact h.elim
 ·rename_i p
  split at h
  ·rename_i q
   split at h
   ·rename_i xs ys hx hy
    split at h
    ·rename_i t1 t2;obtain⟨ti,k1,k2,k3⟩:=Xcr t1;obtain⟨ti',l1,l2,l3⟩:=Xcr t2;rw[k1]at l1
     cases l1
     have e1:=Zh9 hx h2;have e2:=Zh9 hy h3;obtain⟨g1,g2⟩:=(hT t ti k1).eqok k2;have g3:=g2 w xs ys k3 l3
     split at h
     ·exact Ybi hI hK h (v:=.bool (eqI xs ys)) rfl (by simp only[execOp,hop,e1,e2];simp[eqGuard,binOp,g1,g3])
     ·exact Ybi hI hK h (v:=.bool (!(eqI xs ys))) rfl (by simp only[execOp,hop,e1,e2];simp[eqGuard,binOp,g1,g3])
     ·exact h.elim
    ·exact h.elim
   ·exact h.elim
  ·exact h.elim
 ·exact h.elim
theorem Xi6 (hI:Inv C w0 R0 a w s β σ R)(hK:∀ a' w',Holds C w0 R0 a' w' (s.apply wr)->K a' w'){op:UnOp}{t:TypeId}{x:Operand}(hop:o.op=.unOp op t x){dec:List (Nat×Bool)}{orc:List (Nat×D)}
  (h:(sem C dec orc o).Ok s wr):o.wp P a w K Q:=by
 unfold sem at h;rw[hop]at h
 cases op with
 | not =>
  obtain⟨d,h1,h2⟩:=Ybx hI h
  split at h1
  ·rename_i b;have e:a.eval x=.bool b:=h2;exact Ybi hI hK h1 (v:=.bool (!b)) rfl (by simp[execOp,hop,e,Op.unary])
  ·exact h1.elim
 | neg =>
  obtain⟨d,h1,h2⟩:=Ybx hI h
  split at h1
  ·rename_i z;have e:a.eval x=.int .i64 z:=h2;have hw:=Ym6 h1.1;exact Ybi hI hK h1.2 (v:=.int .i64 (0-z)) rfl (by simp only[execOp,hop,e,Op.unary,Op.intArith];rw[hw];simp)
  ·exact h1.elim
 | xor=>exact h.elim
 | plus=>exact h.elim
theorem Yma {t:TypeId}{ti:TI}(hT:TIok P C.tt t ti){off:Nat}(vs:Array Value)(hle:off+ti.sz<=vs.toList.length)(hsz:ti.agg=false->ti.sz=1) :
  (part t vs off).run P w=.ok (if ti.agg=true then .agg ((vs.toList.drop off).take ti.sz).toArray else(vs.toList.getD off undef)) w:=by
 have h1:=Yzf (P:=P) (C:=C) (w:=w) hT;have h2:=Ycj (P:=P) (C:=C) (w:=w) hT
 cases ha:ti.agg with
 | true =>
  simp[part,h1,ha,h2]
  apply Array.ext'
  simp
 | false =>
  have:=hsz ha
  have hlt:off<vs.size:=by simp at hle;omega
  simp[part,h1,ha,hlt,List.getD_eq_getElem?_getD]
theorem Xba (hT:Ybu P C.tt)(hI:Inv C w0 R0 a w s β σ R)(hK:∀ a' w',Holds C w0 R0 a' w' (s.apply wr)->K a' w'){t:TypeId}{x:Operand}{f:Nat}(hop:o.op=.field t x f){dec:List (Nat×Bool)}{orc:List (Nat×D)}
  (h:(sem C dec orc o).Ok s wr):o.wp P a w K Q:=by
 unfold sem at h;rw[hop]at h;simp only at h
 split at h
 ·rename_i ti ht
  split at h
  ·rename_i fs hk
   split at h
   ·rename_i off ft hf
    split at h
    ·rename_i tf htf;obtain⟨d,h1,h2⟩:=Ybx hI h
     split at h1
     ·rename_i cs;obtain⟨vs,e,hr⟩:=h2;have hu:=(hT t ti ht).und;rw[hk]at hu;obtain⟨fields,u1,u2,u3,u4⟩:=hu;obtain⟨p1,p2,d,p3,p4⟩:=Yf0 (β:=β) h1 hr;refine Ybi hI hK p3 p4 ?_;have hi:f<fields.size:=by rw[u3];exact(List.getElem?_eq_some_iff.1 hf).1
      have hfe:=(u2 f fields[f] (Array.getElem?_eq_getElem hi)).1;rw[hf]at hfe
      cases hfe
      have:=Yma (P:=P) (C:=C) (w:=w) (hT _ _ htf) vs p1 p2
      simp[execOp,hop,e,Instr.field,run_underlying u1,hi,asAgg,this]
     ·exact h1.elim
    ·exact h.elim
   ·exact h.elim
  ·exact h.elim
 ·exact h.elim
theorem Yzw (hT:Ybu P C.tt)(hI:Inv C w0 R0 a w s β σ R)(hK:∀ a' w',Holds C w0 R0 a' w' (s.apply wr)->K a' w'){t:TypeId}{x:Operand}{f:Nat}(hop:o.op=.fieldAddr t x f){dec:List (Nat×Bool)}{orc:List (Nat×D)}
  (h:(sem C dec orc o).Ok s wr):o.wp P a w K Q:=by
 unfold sem at h;rw[hop]at h;simp only at h
 split at h
 ·rename_i ti ht
  split at h
  ·rename_i fs hk
   split at h
   ·rename_i off ft hf
    split at h
    ·rename_i tf htf
     split at h
     ·rename_i hz;obtain⟨d,h1,h2⟩:=Ybx hI h;have hz':¬tf.sz=0:=fun e=>by rw[Yo6 e]at hz;cases hz
      have hu:=(hT t ti ht).und;rw[hk]at hu;obtain⟨fields,u1,u2,u3,u4⟩:=hu;have hi:f<fields.size:=by rw[u3];exact(List.getElem?_eq_some_iff.1 hf).1
      have hfe:=(u2 f fields[f] (Array.getElem?_eq_getElem hi)).1;rw[hf]at hfe
      cases hfe
      have hs:=Ycj (P:=P) (C:=C) (w:=w) (hT _ _ htf)
      split at h1
      ·rename_i b o';obtain⟨hb,e⟩:=h2;exact Ybi hI hK h1 (v:=.pointer (some ⟨β b,o'+fields[f].offset,none⟩)) ⟨hb,rfl⟩ (by simp[execOp,hop,e,Instr.fieldAt,run_underlying u1,hi,Instr.sureAddr,fieldPlace,hs,hz',Ydq])
      ·rename_i cs o';obtain⟨b,o'',e,hr⟩:=h2;exact Ybi hI hK h1 (v:=.pointer (some ⟨b,o''+(o'+fields[f].offset),none⟩)) ⟨b,o'',rfl,hr⟩ (by simp[execOp,hop,e,Instr.fieldAt,run_underlying u1,hi,Instr.sureAddr,fieldPlace,hs,hz',Ydq,Nat.add_assoc])
      ·exact h1.elim
     ·exact h.elim
    ·exact h.elim
   ·exact h.elim
  ·exact h.elim
 ·exact h.elim
theorem Yow {t:TypeId}{e:E}{bytes:Nat}(hT:Ybu P C.tt)(h:elt C.tt t=some (e,bytes)):∃ el te,P.underlying t=some (.slice el)/\TIok P C.tt el te/\te.e=some e/\te.sz=e.sz/\te.bytes=bytes:=by
 unfold elt at h
 split at h
 ·rename_i ti ht
  split at h
  ·rename_i el hk
   split at h
   ·rename_i te hte
    split at h
    ·rename_i e' he
     split at h
     ·rename_i hs
      cases h
      have hu:=(hT t ti ht).und;rw[hk]at hu;exact⟨el,te,hu.1,hT _ _ hte,he,(Nat.eq_of_beq_eq_true hs).symm,rfl⟩
     ·cases h
    ·cases h
   ·cases h
  ·cases h
 ·cases h
theorem Zxo {e:E}{xs:List e.α}{v:Value}{full:Bool}(h:SlR (RelE R w e) e.sz R w full xs v){i:Nat}(hi:i<xs.length) :
  ∃ b o c,v=.slice (some ⟨b,o,none⟩) xs.length c/\∀ x,xs[i]?=some x->RefAt (RelC R w) R w (e.enc x) b (o+i*e.sz):=by
 obtain⟨A,c,hv,h1,h2,_,h4⟩:=h;obtain⟨b,o,ha,hc⟩:=h4 (by omega);subst ha;refine⟨b,o,c,hv,fun x hx j d hd=>?_⟩;obtain⟨vs,k1,k2,k3⟩:=hc i x hx;obtain⟨u,hu,hr⟩:=All2.get (Zfc e x vs k2) j d hd;exact⟨u,RelC.of0 hr,k3 j u hu⟩
theorem Yzi (hT:Ybu P C.tt)(hI:Inv C w0 R0 a w s β σ R)(hK:∀ a' w',Holds C w0 R0 a' w' (s.apply wr)->K a' w'){t:TypeId}{x y:Operand}(hop:o.op=.indexAddr t x y){dec:List (Nat×Bool)}{orc:List (Nat×D)}
  (h:(sem C dec orc o).Ok s wr):o.wp P a w K Q:=by
 unfold sem at h;rw[hop]at h;simp only at h
 split at h
 ·rename_i ti ht
  split at h
  ·rename_i n el hk
   split at h
   ·rename_i te hte;obtain⟨d,h1,h2⟩:=Ybx hI h
    clear h
    obtain⟨i,h,h3⟩:=Ybx hI h1
    clear h1
    have hu:=(hT t ti ht).und;rw[hk]at hu;have hs:=Ycj (P:=P) (C:=C) (w:=w) (hT _ _ hte)
    split at h
    ·rename_i b off z;obtain⟨hz,h⟩:=h;obtain⟨hb,e⟩:=h2;have e2:a.eval y=.int .i64 z:=h3;exact Ybi hI hK h (v:=.pointer (some ⟨β b,off+z.toNat*te.sz,none⟩)) ⟨hb,rfl⟩ (by simp[execOp,hop,e,e2,Instr.indexAt,asIntOf,run_underlying hu.1,Instr.sureAddr,hz,hs,Ydq])
    ·rename_i cs off z;obtain⟨hz,h⟩:=h;obtain⟨b,o',e,hr⟩:=h2;have e2:a.eval y=.int .i64 z:=h3;exact Ybi hI hK h (v:=.pointer (some ⟨b,o'+(off+z.toNat*te.sz),none⟩)) ⟨b,o',rfl,hr⟩ (by simp[execOp,hop,e,e2,Instr.indexAt,asIntOf,run_underlying hu.1,Instr.sureAddr,hz,hs,Ydq,Nat.add_assoc])
    ·exact h.elim
   ·exact h.elim
  ·rename_i el hk
   split at h
   ·rename_i e0 bytes he;obtain⟨d,h1,h2⟩:=Ybx hI h
    clear h
    obtain⟨i,h,h3⟩:=Ybx hI h1
    clear h1
    split at h
    ·rename_i z
     split at h
     ·rename_i b n;obtain⟨hz,h⟩:=h;obtain⟨hb,c,hc1,hc2,e⟩:=h2;have e2:a.eval y=.int .i64 z:=h3;obtain⟨el',te,u1,u2,u3,u4,u5⟩:=Yow hT he;have hs:=Ycj (P:=P) (C:=C) (w:=w) u2;exact Ybi hI hK h (v:=.pointer (some ⟨β b,z.toNat*e0.sz,none⟩)) ⟨hb,rfl⟩ (by simp[execOp,hop,e,e2,Instr.indexAt,asIntOf,run_underlying u1,hz,hs,u4,Ydq])
     obtain⟨e,xs,h4,h5⟩:=Ykp hI h (Ydg h2)
     split at h4
     ·rename_i hee _;obtain⟨rfl⟩:=hee;obtain⟨hz,h6⟩:=h4;have hzl:z.toNat<xs.length:=by omega
      obtain⟨b,o',c,k1,k2⟩:=Zxo h5 hzl;have k3:=k2 xs[z.toNat] (List.getElem?_eq_getElem hzl);have e2:a.eval y=.int .i64 z:=h3;have hg:xs.getD z.toNat e.z=xs[z.toNat]:=by rw[List.getD_eq_getElem?_getD,List.getElem?_eq_getElem hzl];rfl
      rw[hg]at h6;obtain⟨el',te,u1,u2,u3,u4,u5⟩:=Yow hT he;have hs:=Ycj (P:=P) (C:=C) (w:=w) u2;refine Ybi hI hK h6 (v:=.pointer (some ⟨b,o'+z.toNat*e.sz+0,none⟩)) ⟨b,o'+z.toNat*e.sz,rfl,k3⟩ ?_;simp[execOp,hop,k1,e2,Instr.indexAt,asIntOf,run_underlying u1,hz,hs,u4,Ydq]
     ·exact h4.elim
    ·exact h.elim
   ·exact h.elim
  ·exact h.elim
 ·exact h.elim
theorem Xao (hT:Ybu P C.tt)(hI:Inv C w0 R0 a w s β σ R)(hK:∀ a' w',Holds C w0 R0 a' w' (s.apply wr)->K a' w'){t:TypeId}{x y:Operand}(hop:o.op=.index t x y){dec:List (Nat×Bool)}{orc:List (Nat×D)}
  (h:(sem C dec orc o).Ok s wr):o.wp P a w K Q:=by
 unfold sem at h;rw[hop]at h;simp only at h
 split at h
 ·rename_i ti ht
  split at h
  ·rename_i n el hk
   split at h
   ·rename_i te hte;obtain⟨d,h1,h2⟩:=Ybx hI h
    clear h
    obtain⟨i,h,h3⟩:=Ybx hI h1
    clear h1
    have hu:=(hT t ti ht).und;rw[hk]at hu;have hs:=Ycj (P:=P) (C:=C) (w:=w) (hT _ _ hte)
    split at h
    ·rename_i cs z;obtain⟨hz,h⟩:=h;obtain⟨vs,e,hr⟩:=h2;have e2:a.eval y=.int .i64 z:=h3;obtain⟨p1,p2,d,p3,p4⟩:=Yf0 (β:=β) h hr
     have:=Yma (P:=P) (C:=C) (w:=w) (hT _ _ hte) vs p1 p2
     exact Ybi hI hK p3 p4 (by simp[execOp,hop,e,e2,Instr.index,asIntOf,run_underlying hu.1,hz,hs,this])
    ·exact h.elim
   ·exact h.elim
  ·exact h.elim
 ·exact h.elim
theorem Zne (hI:Inv C w0 R0 a w s β σ R)(hK:∀ a' w',Holds C w0 R0 a' w' (s.apply wr)->K a' w'){x:Operand}{ix:Nat}(hop:o.op=.extract x ix){dec:List (Nat×Bool)}{orc:List (Nat×D)}
  (h:(sem C dec orc o).Ok s wr):o.wp P a w K Q:=by
 unfold sem at h;rw[hop]at h;obtain⟨d,h1,h2⟩:=Ybx hI h
 split at h1
 ·rename_i vs
  split at h1
  ·rename_i d hd;obtain⟨us,e,hr⟩:=h2;obtain⟨u,hu,hr'⟩:=All2.get hr ix d hd
   exact Ybi hI hK h1 (v:=u) (RelT.ofA hr') (by
    have:us[ix]?=some u:=by simpa using hu
    simp[execOp,hop,e,Instr.extract,this])
  ·exact h1.elim
 ·exact h1.elim
end
end Go.Di
namespace Go.Di
open Go.RowKit
section
variable {P:Program} {C:Cfg} {w0 w:World} {R0 R:Foot} {a:Act} {s:St} {β:Nat->Nat} {σ:Sig} {o:Oper} {wr:List (Key×Val)} {K:Act->World->Prop} {Q:Exit->Act->World->Prop}
def Xcx (β:Nat->Nat)(σ:Sig)(s:St)(R:Foot)(w:World)(a:Act):Option D->Option Operand->Prop
 | none,none=>True
 | some d,some x=>RelT β σ s R w d (a.eval x)
 | _,_=>False
theorem Yqz (hI:Inv C w0 R0 a w s β σ R){x:Option Operand}{k:Option D->M}(h:(Zgw C x k).Ok s wr) :
  ∃ d,(k d).Ok s wr/\Xcx β σ s R w a d x:=by
 cases x with
 | none=>exact⟨none,h,trivial⟩
 | some x =>
  obtain⟨d,h1,h2⟩:=Ybx hI h;exact⟨some d,h1,h2⟩
theorem Ywq {n z:Int}{d:Option D}{x:Option Operand}(hr:Xcx β σ s R w a d x)(h:Xb1 n d=some z):(x=none/\d=none/\z=n)\/∃ y d',x=some y/\d=some d'/\a.eval y=.int .i64 z:=by
 cases d with
 | none =>
  cases x with
  | none=>cases h;exact .inl ⟨rfl,rfl,rfl⟩
  | some x=>exact hr.elim
 | some d =>
  cases x with
  | none=>exact hr.elim
  | some x =>
   unfold Xb1 at h
   split at h
   ·rename_i hq;cases hq
   ·rename_i hq
    cases hq
    cases h
    exact .inr ⟨x,_,rfl,rfl,hr⟩
   ·cases h
theorem Yr2 {k:IntKind}{i:Int}{y:Nat}{code:BoundsCode}(h:0<=i/\i<=y):(Instr.sliceBound (.int k i) y code).run P w=.ok i.toNat w:=by
 simp[Instr.sliceBound,asIntOf,h]
theorem Zp2 {e:E}{xs:List e.α}{A:Option Addr}{c:Nat}(h:SlR (RelE R w e) e.sz R w false xs (.slice A xs.length c)){l hh m:Nat}(h1:l<=hh)(h2:hh<=xs.length)(h3:hh<=m)(h4:m<=c){full:Bool}(hf:full=true->m=hh) :
  SlR (RelE R w e) e.sz R w full ((xs.take hh).drop l) (.slice (if m=l then A else A.map (·.add (l*e.sz))) (hh-l) (m-l)):=by
 obtain⟨A',c',hv,g1,g2,_,g4⟩:=h;injection hv with hv1 hv2 hv3;subst hv1 hv3;have hlen:((xs.take hh).drop l).length=hh-l:=by simp;omega
 refine⟨_,m-l,by rw[hlen],by omega,by omega,fun x=>by rw[hlen,hf x],fun hp=>?_⟩;rw[hlen]at hp;obtain⟨b,o,ha,hc⟩:=g4 (by omega);subst ha;refine⟨b,o+l*e.sz,by rw[if_neg (by omega)];simp[Ydq],fun i x hx=>?_⟩;have hi:i<hh-l:=by rw[<-hlen];exact(List.getElem?_eq_some_iff.1 hx).1
 rw[List.getElem?_drop,List.getElem?_take,if_pos (by omega)]at hx;obtain⟨vs,k1,k2,k3⟩:=hc (l+i) x hx;refine⟨vs,k1,k2,fun j u hu=>?_⟩
 have:=k3 j u hu
 rw[show o+l*e.sz+i*e.sz+j=o+(l+i)*e.sz+j by rw[Nat.add_mul];omega];exact this
theorem Zxn (hT:Ybu P C.tt)(hI:Inv C w0 R0 a w s β σ R)(hK:∀ a' w',Holds C w0 R0 a' w' (s.apply wr)->K a' w'){t:TypeId}{x:Operand}{lo hi mx:Option Operand}(hop:o.op=.slice t x lo hi mx){dec:List (Nat×Bool)}{orc:List (Nat×D)}
  (h:(sem C dec orc o).Ok s wr):o.wp P a w K Q:=by
 unfold sem at h;rw[hop]at h;simp only at h
 split at h
 ·rename_i e0 bytes he;obtain⟨d,h1,h2⟩:=Ybx hI h
  clear h
  obtain⟨dl,h,hl⟩:=Yqz hI h1
  clear h1
  obtain⟨dh,h1,hh⟩:=Yqz hI h
  clear h
  obtain⟨dm,h,hm⟩:=Yqz hI h1
  clear h1
  unfold Xcd at h;obtain⟨e,xs,h3,h4⟩:=Ykp hI h (Ydg h2)
  clear h
  split at h3
  ·exact h3.elim
  ·rename_i hee _;obtain⟨rfl⟩:=hee;obtain⟨el,te,u1,u2,u3,u4,u5⟩:=Yow hT he;have hs:=Ycj (P:=P) (C:=C) (w:=w) u2;obtain⟨A,c,hv,g1,g2,g3,g4⟩:=h4;have h4:SlR (RelE R w e) e.sz R w false xs (.slice A xs.length c):=⟨A,c,rfl,g1,g2,g3,g4⟩
   split at h3
   ·rename_i l hh' hlo hhi
    have bl:(lo=none/\l=0)\/∃ y,lo=some y/\a.eval y=.int .i64 l:=by
     rcases Ywq hl hlo with ⟨h1,_,h2⟩|⟨y,_,h1,_,hy⟩
     ·exact .inl ⟨h1,h2⟩
     ·exact .inr ⟨y,h1,hy⟩
    split at h3
    ·obtain⟨⟨b1,b2,b3⟩,h3⟩:=h3
     have hmx:mx=none:=by
      cases mx with
      | none=>rfl
      | some x=>exact hm.elim
     subst hmx;have hcut:=Zp2 h4 (l:=l.toNat) (hh:=hh'.toNat) (m:=c) (by omega) (by omega) (by omega) (Nat.le_refl _) (full:=false) (fun x=>by cases x);refine Ybi hI hK h3 (v:=.slice (if c=l.toNat then A else A.map (·.add (l.toNat*e.sz))) (hh'.toNat-l.toNat) (c-l.toNat)) hcut ?_
     have hbd:(Instr.sliceBounds true xs.length c (lo.map a.eval) (hi.map a.eval) none).run P w=.ok (l.toNat,hh'.toNat,c) w:=by
      have e2:=Yr2 (P:=P) (w:=w) (k:=.i64) (i:=l) (y:=hh'.toNat) (code:=.sliceB) (by omega);rcases Ywq hh hhi with ⟨rfl,_,rfl⟩|⟨y,_,rfl,_,hy⟩
      ·simp only[Int.toNat_natCast]at e2;rcases bl with ⟨rfl,rfl⟩|⟨y,rfl,hy⟩
       ·simp[Instr.sliceBounds]
       ·simp[Instr.sliceBounds,hy,e2]
      ·have e1:=Yr2 (P:=P) (w:=w) (k:=.i64) (i:=hh') (y:=c) (code:=.sliceAcap) (by omega);rcases bl with ⟨rfl,rfl⟩|⟨y,rfl,hy'⟩
       ·simp[Instr.sliceBounds,hy,e1]
       ·simp[Instr.sliceBounds,hy,hy',e1,e2]
     simp[execOp,hop,hv,Instr.sliceAt,run_underlying u1,Instr.slice,hbd,hs,u4]
    ·rename_i m
     have hmx:∃ y,mx=some y/\a.eval y=.int .i64 m:=by
      cases mx with
      | none=>exact hm.elim
      | some y=>exact⟨y,rfl,hm⟩
     obtain⟨y,rfl,hy⟩:=hmx
     split at h3
     ·obtain⟨⟨b1,b2,b3,b4⟩,h3⟩:=h3;subst b4;have hcut:=Zp2 h4 (l:=l.toNat) (hh:=m.toNat) (m:=m.toNat) (by omega) (by omega) (by omega) (by omega) (full:=true) (fun x=>rfl);refine Ybi hI hK h3 (v:=.slice (if m.toNat=l.toNat then A else A.map (·.add (l.toNat*e.sz))) (m.toNat-l.toNat) (m.toNat-l.toNat)) hcut ?_
      have hbd:(Instr.sliceBounds true xs.length c (lo.map a.eval) (hi.map a.eval) (some (.int .i64 m))).run P w=.ok (l.toNat,m.toNat,m.toNat) w:=by
       rcases Ywq hh hhi with ⟨_,h,_⟩|⟨y,_,rfl,_,hy⟩
       ·cases h
       ·have e1:=Yr2 (P:=P) (w:=w) (k:=.i64) (i:=m) (y:=c) (code:=.slice3Acap) (by omega);have e2:=Yr2 (P:=P) (w:=w) (k:=.i64) (i:=m) (y:=m.toNat) (code:=.slice3B) (by omega);have e3:=Yr2 (P:=P) (w:=w) (k:=.i64) (i:=l) (y:=m.toNat) (code:=.slice3C) (by omega);rcases bl with ⟨rfl,rfl⟩|⟨y,rfl,hy'⟩
        ·simp[Instr.sliceBounds,hy,e1,e2]
        ·simp[Instr.sliceBounds,hy,hy',e1,e2,e3]
      simp[execOp,hop,hv,hy,Instr.sliceAt,run_underlying u1,Instr.slice,hbd,hs,u4]
     ·exact h3.elim
    ·exact h3.elim
   ·exact h3.elim
 ·exact h.elim
theorem Zgl:∀ {d:D} {v:Value},is0 d=true->RelC R w d v->RelC0 R w d v
 | .int _ _,_,_,h=>h|.bool _,_,_,h=>h|.nil,_,_,h=>h|.nilmap,_,_,h=>h|.nilfn,_,_,h=>h|.sl _ _ _,_,_,h=>h|.map _,_,_,h=>h
 | .undef,_,h,_=>by cases h
 | .fn _ _ _,_,h,_=>by cases h|.self _ _ _,_,h,_=>by cases h
 | .own _ _,_,h,_=>by cases h
 | .ptr _ _,_,h,_=>by cases h|.mref _,_,h,_=>by cases h|.row _ _,_,h,_=>by cases h
 | .ref _ _,_,h,_=>by cases h
 | .agg _,_,h,_=>by cases h
 | .tup _,_,h,_=>by cases h
theorem Yww:∀ {cs:List D} {vs:List Value},cs.all is0=true->All2 (RelC R w) cs vs->All2 (RelC0 R w) cs vs
 | [],[],_,_=>trivial
 | d::cs,v::vs,h,⟨h1,h2⟩=>by
  simp only[List.all_cons,Bool.and_eq_true]at h;exact⟨Zgl h.1 h1,Yww h.2 h2⟩
 | [],_::_,_,h=>h.elim
 | _::_,[],_,h=>h.elim
theorem Yu5 (hI:Inv C w0 R0 a w s β σ R){d:D}{v:Value}{k:List D->M}(h:(Yie (cellsOf d) k).Ok s wr)(hr:RelT β σ s R w d v):∃ cs,(k cs).Ok s wr/\All2 (RelC R w) cs v.cells.toList:=by
 have one:∀(x:D),cellsOf d=[x]->RelTC σ s R w x v->∃ cs,(k cs).Ok s wr/\All2 (RelC R w) cs v.cells.toList:=by
  intro x hx hxr;rw[hx]at h;obtain⟨cs,h1,h2⟩:=Yid hI (vs:=[v]) h ⟨hxr,trivial⟩
  obtain⟨d',l,e,h3,h4⟩:∃ d' l,cs=d'::l/\RelC R w d' v/\All2 (RelC R w) l []:=by
   cases cs with
   | nil=>exact h2.elim
   | cons d' l=>exact⟨d',l,rfl,h2.1,h2.2⟩
  have:v.cells=#[v]:=Zaq (Ye4 h3)
  exact⟨cs,h1,by rw[this];exact h2⟩
 cases d with
 | agg cs =>
  obtain⟨vs,rfl,hr⟩:=hr;exact Yid hI h hr
 | own i n=>exact one _ rfl hr
 | int k n=>exact one _ rfl hr
 | bool b=>exact one _ rfl hr
 | nil=>exact one _ rfl hr
 | nilmap=>exact one _ rfl hr
 | nilfn=>exact one _ rfl hr
 | sl f e xs=>exact one _ rfl hr
 | map mm=>exact one _ rfl hr
 | fn f x y=>exact one _ rfl hr
 | self f x y=>exact one _ rfl hr
 | undef=>exact h.elim
 | ptr i n=>exact h.elim
 | mref i=>exact h.elim
 | row i n=>exact h.elim
 | ref x y=>exact h.elim
 | tup x=>exact h.elim
theorem Ytj (hI:Inv C w0 R0 a w s β σ R):∀ {ds:List D} {vs:List Value} {k:List (List D)->M},(sem.resRows (ds.map cellsOf) k).Ok s wr->All2 (RelT β σ s R w) ds vs->∃ css,(k css).Ok s wr/\All2 (fun cs (v:Value)=>All2 (RelC0 R w) cs v.cells.toList) css vs
 | [],[],k,h,_=>⟨[],h,trivial⟩
 | d::ds,v::vs,k,h,⟨h1,h2⟩=>by
  simp only[List.map_cons,sem.resRows]at h;obtain⟨cs,h3,h4⟩:=Yu5 hI h h1
  split at h3
  ·rename_i h0;obtain⟨css,h5,h6⟩:=Ytj hI h3 h2;exact⟨cs::css,h5,Yww h0 h4,h6⟩
  ·exact h3.elim
 | [],_::_,_,_,h=>h.elim
 | _::_,[],_,_,h=>h.elim
theorem Zaf {e:E}:∀ {css:List (List D)} {vs:List Value} {xs:List e.α},Zhx e css=some xs->All2 (fun cs (v:Value)=>All2 (RelC0 R w) cs v.cells.toList) css vs->All2 (fun x (v:Value)=>RelE R w e x v.cells.toList/\v.cells.size=e.sz) xs vs
 | [],[],xs,h,_=>by cases h;trivial
 | cs::css,v::vs,xs,h,⟨h1,h2⟩=>by
  simp only[Zhx]at h
  split at h
  ·rename_i x xs' hx hxs
   cases h
   have hr:=Xf6 e cs x _ hx h1;have hl:=All2.length (Zfc e x _ hr);rw[Znf]at hl;exact⟨⟨hr,by simpa using hl.symm⟩,Zaf hxs h2⟩
  ·cases h
 | [],_::_,_,_,h=>h.elim
 | _::_,[],_,_,h=>h.elim
theorem Zut {sz:Nat}{place:Nat->Option (Nat×Nat)}(hp:∀ i,place i=some (i*sz,sz)):∀(vs:List Value) (k:Nat) (arr:Array Value),(∀ v∈vs,v.cells.size=sz)->(k+vs.length)*sz<=arr.size ->
  ∃ arr',Instr.fill place arr ((List.range' k vs.length).zip vs)=some arr'/\arr'.size=arr.size/\(∀ q,q<k*sz->arr'[q]?=arr[q]?)/\∀ i v,vs[i]?=some v->∀ j u,v.cells.toList[j]?=some u->arr'[(k+i)*sz+j]?=some u
 | [],k,arr,_,_=>⟨arr,rfl,rfl,fun _ _=>rfl,fun i v h=>by simp at h⟩
 | v::vs,k,arr,hv,hle=>by
  have hv0:=hv v (by simp);have hks:(k+1+vs.length)*sz=(k+(v::vs).length)*sz:=by simp only[List.length_cons];congr 1;omega
  have hkk:(k+1)*sz<=(k+1+vs.length)*sz:=Nat.mul_le_mul_right _ (by omega);obtain⟨arr',h1,h2,h3,h4⟩:=Zut hp vs (k+1) (Yc2 arr (k*sz) v.cells.toList) (fun u hu=>hv u (by simp[hu])) (by rw[Ybs,hks];exact hle);have hk1:(k+1)*sz=k*sz+sz:=by rw[Nat.add_mul];omega
  refine⟨arr',?_,by rw[h2,Ybs],fun q hq=>?_,fun i u hu j x hx=>?_⟩
  ·simp only[List.length_cons,List.range'_succ,List.zip_cons_cons];rw[Instr.fill,hp k];simp only;rw[if_neg (by simp;omega),Ywb];exact h1
  ·rw[h3 q (by omega),Ybt,if_neg (by omega)]
  ·cases i with
   | zero =>
    simp only[List.getElem?_cons_zero,Option.some.injEq]at hu;subst hu;have hj:j<sz:=by rw[<-hv0];simpa using (List.getElem?_eq_some_iff.1 hx).1
    rw[Nat.add_zero,h3 _ (by omega),Ybt,if_pos ⟨by omega,by simp;omega,by omega⟩];rw[Nat.add_sub_cancel_left];exact hx
   | succ i =>
    simp only[List.getElem?_cons_succ]at hu
    have:=h4 i u hu j x hx
    rw[show k+(i+1)=k+1+i by omega];exact this
theorem Yw7:∀(l:List Nat) (k:Nat),sem.upFrom k l=true->l=List.range' k l.length
 | [],_,_=>rfl
 | a::l,k,h=>by
  simp only[sem.upFrom,Bool.and_eq_true]at h;have h1:=Nat.eq_of_beq_eq_true h.1;have h2:=Yw7 l (k+1) h.2;simp only[List.length_cons,List.range'_succ,List.cons.injEq];exact⟨h1,h2⟩
theorem Xf5 {l:List Nat}{n:Nat}(h:sem.eqNs l n=true):l=List.range' 0 n/\l.length=n:=by
 cases l with
 | nil =>
  have:=Nat.eq_of_beq_eq_true h
  subst this;exact⟨rfl,rfl⟩
 | cons a l =>
  simp only[sem.eqNs,Bool.and_eq_true]at h;have h1:=Nat.eq_of_beq_eq_true h.1;have h2:=Yw7 _ _ h.2;rw[h1]at h2;exact⟨h2,h1⟩
theorem Xi8 (e:E):e.sz<=12:=by cases e<;>simp[E.sz]
theorem Ywp (hT:Ybu P C.tt)(hI:Inv C w0 R0 a w s β σ R)(hK:∀ a' w',Holds C w0 R0 a' w' (s.apply wr)->K a' w'){t:TypeId}{n:Nat}{parts:Array (Nat×Operand)}(hop:o.op=.buildSlice t n parts){dec:List (Nat×Bool)}{orc:List (Nat×D)}
  (h:(sem C dec orc o).Ok s wr):o.wp P a w K Q:=by
 unfold sem at h;rw[hop]at h;simp only at h
 split at h
 ·rename_i e bytes he hn;simp only[Bool.and_eq_true]at hn;obtain⟨hn1,hn2⟩:=hn;have hn2:=Nat.le_of_ble_eq_true hn2;obtain⟨hidx,hlen⟩:=Xf5 hn1;obtain⟨ds,h1,h2⟩:=Yig hI h
  clear h
  obtain⟨css,h3,h4⟩:=Ytj hI h1 h2
  clear h1
  split at h3
  ·rename_i xs hxs;have h5:=Zaf hxs h4;obtain⟨el,te,u1,u2,u3,u4,u5⟩:=Yow hT he;have hs:=Ycj (P:=P) (C:=C) (w:=w) u2;obtain⟨i,z,j1,j2,j3,j4,j6,j5⟩:=u2.info;have hz:(zeroValue el).run P w=.ok z w:=by simp[zeroValue,typeInfo,j1,j4]
   have hxl:xs.length=n:=by
    have:=All2.length h5
    rw[this];simp at hlen ⊢;omega
   have hvl:(List.map a.eval (parts.toList.map (·.2))).length=n:=by simp at hlen ⊢;omega
   generalize hvs:List.map a.eval (parts.toList.map (·.2))=vs at h5 hvl
   have hpv:(parts.map fun(i,x)=>(i,a.eval x)).toList=(List.range' 0 vs.length).zip vs:=by
    rw[hvl,<-hidx,<-hvs,List.map_map];rw[Array.toList_map];exact(Za0 _ _ _).symm
   have hpv':List.map (fun x=>(x.fst,a.eval x.snd)) parts.toList=(List.range' 0 vs.length).zip vs:=by
    rw[<-hpv,Array.toList_map]
   have hsz12:n*te.sz<=16777216:=by
    have:=Nat.mul_le_mul_left n (Xi8 e)
    rw[u4];omega
   have key:∀(zc:Array Value),∃ arr',Instr.fill (fun i=>some (i*te.sz,te.sz)) ((Array.range (n*te.sz)).map (zc[· % zc.size]!)) ((List.range' 0 vs.length).zip vs)=some arr'/\arr'.size=n*te.sz /\
     ∀ i v,vs[i]?=some v->∀ j u,v.cells.toList[j]?=some u->arr'[i*te.sz+j]?=some u:=by
    intro zc
    obtain⟨arr',f1,f2,f3,f4⟩:=Zut (sz:=te.sz) (place:=fun i=>some (i*te.sz,te.sz)) (fun i=>rfl) vs 0 ((Array.range (n*te.sz)).map (zc[· % zc.size]!)) (fun v hv=>by
     obtain⟨i,hi⟩:=List.getElem?_of_mem hv;obtain⟨x,hx,hr⟩:=All2.get' h5 i v hi;rw[hr.2,u4]) (by simp[hvl])
    exact⟨arr',f1,by rw[f2];simp,fun i v hv j u hu=>by have:=f4 i v hv j u hu;rw[Nat.zero_add]at this;exact this⟩
   have hrun:∃ arr',((execOp a.eval o).run P w=.ok (.value (.slice (some ⟨w.heap.size,0,none⟩) n n)) (w.alloc (.cells arr' el)))/\arr'.size=n*te.sz/\∀ i v,vs[i]?=some v->∀ j u,v.cells.toList[j]?=some u->arr'[i*te.sz+j]?=some u:=by
    by_cases h0:n*te.sz=0
    ·obtain⟨arr',f1,f2,f3⟩:=key #[];refine⟨arr',?_,f2,f3⟩;rw[<-hpv']at f1;simp only[execOp,hop,Instr.buildSlice,Sem.run_bind,run_underlying u1,Result.andThen_ok,hs,h0,if_true];have e0:∀ f:Nat->Value,Array.map f (Array.range 0)=#[]:=fun f=>by simp
     simp only[h0,e0]at f1;simp[e0,f1,newRow]
    ·obtain⟨arr',f1,f2,f3⟩:=key z.cells;refine⟨arr',?_,f2,f3⟩;rw[<-hpv']at f1;have hn24:¬16777216<n*te.sz:=by omega
     simp[execOp,hop,Instr.buildSlice,run_underlying u1,hs,h0,hn24,hz,f1,newRow]
   obtain⟨arr',hr,hsize,hget⟩:=hrun
   have hI':Inv C w0 R0 a (w.alloc (.cells arr' el)) s β σ (addF R w.heap.size 0 (n*te.sz)) :=
    hI.later (Ybc _ _) (fun _ _ hr=>.inl hr) (fun b o' hr=>by
     rcases hr with hr|⟨rfl,_,_⟩
     ·exact⟨by have:=(hI.dom b o' hr).1;simp;omega,.inl hr⟩
     ·exact⟨by simp,.inr (Nat.le_refl _)⟩)
   have hk:Keeps R (addF R w.heap.size 0 (n*te.sz)) w (w.alloc (.cells arr' el)):=Keeps.of_below (fun _ _ hr=>.inl hr) (fun b o' hr=>(hI.dom b o' hr).1) (Ybc _ _);refine Ycd hr (hK _ _ ⟨β,σ,_,Ybn hI' h3 (d:=.sl true e xs) ?_⟩);have hmaxl:n<=maxLen:=by unfold maxLen;omega
   refine⟨some ⟨w.heap.size,0,none⟩,n,by rw[hxl],by omega,hmaxl,fun _=>by omega,fun hp=>⟨w.heap.size,0,rfl,fun i x hx=>?_⟩⟩;obtain⟨v,hv,hr1,hr2⟩:=All2.get h5 i x hx;refine⟨v.cells.toList,by simpa using hr2,RelE.keep hk _ _ _ hr1,fun j u hu=>?_⟩;have hg:=hget i v hv j u hu;have hj:j<e.sz:=by rw[<-hr2];simpa using (List.getElem?_eq_some_iff.1 hu).1
   have hi:i<n:=by rw[<-hxl];exact(List.getElem?_eq_some_iff.1 hx).1
   have hb:(i+1)*e.sz<=n*e.sz:=Nat.mul_le_mul_right _ hi;rw[Nat.add_mul]at hb;rw[Nat.zero_add];rw[u4]at hg;refine⟨.inr ⟨rfl,Nat.zero_le _,by rw[u4];omega⟩,?_⟩;rw[World.cell?_alloc_new];exact hg
  ·exact h3.elim
 ·exact h.elim
end
end Go.Di
