/- Part 30: contracts are proved. No condition. -/
import Derived.Test.YtfkmodcjddfeiaaGreatDoorDi29
set_option linter.unusedVariables false
set_option linter.unusedSimpArgs false
namespace Go.Di
open Proofs
theorem Ziq:((List.range 32).all fun k=>(List.range 32).all fun l=>(andF (k:Int) (l:Int)==(l:Int))==((List.range 5).all fun j=>!bitF (l:Int) j||bitF (k:Int) j))=true:=by kernel_rfl
theorem Yj8 {k l:Nat}(hk:k<32)(hl:l<32):andF (k:Int) (l:Int)=(l:Int)↔∀ j,j<5->bitF (l:Int) j=true->bitF (k:Int) j=true:=by
 have h:=List.all_eq_true.1 (List.all_eq_true.1 Ziq k (List.mem_range.2 hk)) l (List.mem_range.2 hl);rw[beq_iff_eq]at h;rw[<-beq_iff_eq,h,List.all_eq_true]
 constructor
 ·intro hh j hj hb
  have:=hh j (List.mem_range.2 hj)
  rw[hb]at this;simpa using this
 ·intro hh j hj
  cases hb:bitF (l:Int) j with
  | false=>simp
  | true=>rw[hh j (List.mem_range.1 hj) hb];rfl
section
variable {x:FBook} {th:LL} {wr:LI} {s:Nat}
theorem Yd8:∀ {K:Nat} {l:Int},l∈Ya0 x th wr s K->∃ k:Nat,k<K/\l=(k:Int)/\Ydd x th wr s k=true
 | 0,l,h=>by cases h
 | K+1,l,h=>by
  simp only[Ya0]at h
  split at h
  ·obtain⟨k,h1,h2⟩:=Yd8 h;exact⟨k,by omega,h2⟩
  ·split at h
   ·rename_i _ hk;rcases List.mem_append.1 h with h|h
    ·obtain⟨k,h1,h2⟩:=Yd8 h;exact⟨k,by omega,h2⟩
    ·rw[List.mem_singleton]at h;exact⟨K,by omega,h,hk⟩
   ·obtain⟨k,h1,h2⟩:=Yd8 h;exact⟨k,by omega,h2⟩
theorem Ym4:∀ {K k:Nat},k<K->K<=32->Ydd x th wr s k=true->∃ l:Nat,(l:Int)∈Ya0 x th wr s K/\l<32/\andF (k:Int) (l:Int)=(l:Int)
 | 0,k,h,_,_=>by omega
 | K+1,k,h,hK,hk=>by
  have hsub:∀ z,z∈Ya0 x th wr s K->z∈Ya0 x th wr s (K+1):=by
   intro z hz;simp only[Ya0];split
   ·exact hz
   ·split
    ·exact List.mem_append.2 (.inl hz)
    ·exact hz
  by_cases hkK:k=K
  ·subst hkK
   by_cases ha:((Ya0 x th wr s k).any fun l=>andF k l==l)=true
   ·obtain⟨l,h1,h2⟩:=List.any_eq_true.1 ha;obtain⟨j,h3,rfl,_⟩:=Yd8 h1;exact⟨j,hsub _ h1,by omega,by simpa using h2⟩
   ·refine⟨k,?_,by omega,(Yj8 (by omega) (by omega)).2 fun j _ h=>h⟩;simp only[Ya0];rw[if_neg ha,if_pos hk];exact List.mem_append.2 (.inr (by simp))
  ·obtain⟨l,h1,h2⟩:=Ym4 (K:=K) (k:=k) (by omega) (by omega) hk;exact⟨l,hsub _ h1,h2⟩
end
def Yoj (c:Nat->Int):Nat->Nat->W4->W4
 | 0,_,on=>on
 | f+1,s,on=>Yoj c f (s+1) (on.set s (c s))
theorem Ytq {x:FBook}{al:LL}:∀(f s:Nat) (on:W4) (p:List Work),p∈Ybe x al f s on->∃ c:Nat->Int,p=Yax x (Yoj c f s on)/\∀ j,s<=j->j<s+f->c j∈al.getD j []
 | 0,s,on,p,h=>⟨fun _=>0,by simpa [Ybe,Yoj] using h,fun j h1 h2=>by omega⟩
 | f+1,s,on,p,h=>by
  simp only[Ybe,List.mem_flatMap]at h;obtain⟨z,hz,h⟩:=h;obtain⟨c,h1,h2⟩:=Ytq f (s+1) _ p h
  have hcong:∀(f s':Nat) (on:W4),s<s'->Yoj c f s' on=Yoj (fun j=>if j=s then z else c j) f s' on:=by
   intro f
   induction f with
   | zero=>exact fun _ _ _=>rfl
   | succ f ih =>
    intro s' on hs';simp only[Yoj];rw[if_neg (by omega)];exact ih (s'+1) _ (by omega)
  refine⟨fun j=>if j=s then z else c j,?_,fun j h3 h4=>?_⟩
  ·rw[h1];simp only[Yoj,if_true];rw[hcong f (s+1) _ (by omega)]
  ·dsimp only
   by_cases hj:j=s
   ·rw[if_pos hj,hj];exact hz
   ·rw[if_neg hj];exact h2 j (by omega) (by omega)
theorem Zt8 {on:W4}{s j:Nat}(hs:s<4)(hj:j<4)(z:Int):(on.set s z).get j=if j=s then z else on.get j:=by
 have h1:s=0\/s=1\/s=2\/s=3:=by omega
 have h2:j=0\/j=1\/j=2\/j=3:=by omega
 rcases h1 with rfl|rfl|rfl|rfl<;>rcases h2 with rfl|rfl|rfl|rfl<;>rfl
theorem Zh7 {x:FBook}{th:LL}{wr:LI}{s:Nat}(hs:s<x.feet.length):(allF x th wr).getD s []=Ybk x th wr s:=by
 simp[allF,List.getD_eq_getElem?_getD,hs]
section
variable {x:FBook} (hx:FIn x) (ho:x.opn.Pairwise (·<·)) (th:LL) (wr:LI)
include hx ho
end
end Go.Di
namespace Go.Di
open Proofs
end Go.Di
namespace Go.Di
open Proofs
end Go.Di
namespace Go.Di
open Proofs
def FBook.withStock (x:FBook)(c:Int):FBook:={x with stock:=c}
section
variable (x:FBook) (c:Int)
theorem Zdp (p:List Work):Ycc (x.withStock c) p=Ycc x p:=by
 have h:∀ k,Yew (x.withStock c) p k=Yew x p k:=by
  intro k
  induction k with
  | zero=>rfl
  | succ k ih=>simp only[Yew,ih];rfl
 exact h _
end
theorem Zxl {x:FBook}(hx:FIn x){c:Int}(hc:0<=c/\c<=1000):FIn (x.withStock c):=⟨hx.n,hx.days,hx.turns,hx.feet,hx.new,hx.opnl,hx.opn,hc,hx.make⟩
theorem Ytc (x:FBook)(c:Int):∀(l:List (List Work)) (n:Int),l.foldl (fun n p=>mn n (Ycc x p)) n<=c↔n<=c\/∃ p∈l,Ycc x p<=c
 | [],n=>by simp
 | p::l,n=>by
  rw[List.foldl_cons,Ytc x c l]
  have:mn n (Ycc x p)<=c↔n<=c\/Ycc x p<=c:=by unfold mn;split<;>omega
  rw[this]
  constructor
  ·rintro((h|h)|⟨q,hq,h⟩)
   ·exact .inl h
   ·exact .inr ⟨p,by simp,h⟩
   ·exact .inr ⟨q,by simp[hq],h⟩
  ·rintro(h|⟨q,hq,h⟩)
   ·exact .inl (.inl h)
   ·rcases List.mem_cons.1 hq with rfl|hq
    ·exact .inl (.inr h)
    ·exact .inr ⟨q,hq,h⟩
end Go.Di
namespace Go.Di
open Proofs
end Go.Di
namespace Go.Di
open Proofs
end Go.Di
namespace Go.Di
open Proofs
theorem Zso {α:Type}{r:α->α->Prop}(ha:∀ a b,r a b->¬r b a):∀ {l m:List α},l.Pairwise r->m.Pairwise r->(∀ x,x∈l↔x∈m)->l=m
 | [],[],_,_,_=>rfl
 | [],b::m,_,_,h=>absurd ((h b).2 (by simp)) (by simp)
 | a::l,[],_,_,h=>absurd ((h a).1 (by simp)) (by simp)
 | a::l,b::m,hl,hm,h=>by
  obtain⟨h1,h2⟩:=List.pairwise_cons.1 hl;obtain⟨h3,h4⟩:=List.pairwise_cons.1 hm;have hirr:∀ a,¬r a a:=fun a h=>ha a a h h
  have hab:a=b:=by
   rcases List.mem_cons.1 ((h a).1 (by simp)) with e|e
   ·exact e
   ·rcases List.mem_cons.1 ((h b).2 (by simp)) with e2|e2
    ·exact e2.symm
    ·exact absurd (h1 b e2) (ha b a (h3 a e))
  subst hab
  congr 1
  refine Zso ha h2 h4 fun x=>⟨fun hx=>?_,fun hx=>?_⟩
  ·rcases List.mem_cons.1 ((h x).1 (by simp[hx])) with e|e
   ·subst e;exact absurd (h1 _ hx) (hirr _)
   ·exact e
  ·rcases List.mem_cons.1 ((h x).2 (by simp[hx])) with e|e
   ·subst e;exact absurd (h3 _ hx) (hirr _)
   ·exact e
theorem Zfd {x:FBook}(hV:FValid x){d:Int}(_:0<=d/\d<=x.chain.days)(hno:d∉x.opn):∀ i,i<x.opn.length->(x.opn.getD i 0<d↔i<x.opn.countP (·<d)):=by
 have key:∀(l:LI),l.Pairwise (·<·)->∀ i,i<l.length->(l.getD i 0<d↔i<l.countP (·<d)):=by
  intro l
  induction l with
  | nil=>intro _ i hi;simp at hi
  | cons a l ih =>
   intro hp i hi;obtain⟨h1,h2⟩:=List.pairwise_cons.1 hp;rw[List.countP_cons]
   by_cases ha:a<d
   ·rw[if_pos (by simpa using ha)]
    cases i with
    | zero=>simp[ha]
    | succ i=>rw[List.getD_cons_succ,ih h2 i (by simpa using hi)];omega
   ·rw[if_neg (by simpa using ha)]
    have hz:l.countP (·<d)=0:=by
     rw[List.countP_eq_zero];intro z hz
     have:=h1 z hz
     simp;omega
    rw[hz]
    cases i with
    | zero=>simp;omega
    | succ i =>
     rw[List.getD_cons_succ]
     have:=h1 _ (Ybw 0 (show i<l.length by simpa using hi))
     omega
 exact key x.opn hV.opn.2
theorem Zyb {x:FBook}(_:FValid x){d:Int}(_:0<=d/\d<=x.chain.days)(_:d∉x.opn)(e:Int):e∈(x.rest d).opn↔e=d\/e∈x.opn:=by
 show e∈insL x.opn (x.opn.countP (·<d)) d↔_;unfold insL;rw[List.mem_append,List.mem_cons]
 constructor
 ·rintro(h|h|h)
  ·exact .inr (List.mem_of_mem_take h)
  ·exact .inl h
  ·exact .inr (List.mem_of_mem_drop h)
 ·rintro(h|h)
  ·exact .inr (.inl h)
  ·rw[<-List.take_append_drop (x.opn.countP (·<d)) x.opn,List.mem_append]at h;rcases h with h|h
   ·exact .inl h
   ·exact .inr (.inr h)
theorem Yqp {x:FBook}(hV:FValid x){d:Int}(hd:0<=d/\d<=x.chain.days)(hno:d∉x.opn):(x.rest d).opn.Pairwise (·<·):=by
 show(insL x.opn (x.opn.countP (·<d)) d).Pairwise (·<·)
 have hs:=hV.opn.2;have hc:x.opn.countP (·<d)<=x.opn.length:=List.countP_le_length;have hsp:=Zfd hV hd hno;unfold insL;rw[List.pairwise_append,List.pairwise_cons]
 have htake:∀ a∈x.opn.take (x.opn.countP (·<d)),a<d:=by
  intro a ha;obtain⟨i,hi,he⟩:=List.getElem_of_mem ha;rw[List.length_take]at hi;rw[List.getElem_take]at he
  have:=(hsp i (by omega)).2 (by omega)
  rw[List.getD_eq_getElem?_getD,List.getElem?_eq_getElem (by omega)]at this;simp at this;omega
 have hdrop:∀ a∈x.opn.drop (x.opn.countP (·<d)),d<a:=by
  intro a ha;obtain⟨i,hi,he⟩:=List.getElem_of_mem ha;rw[List.length_drop]at hi;rw[List.getElem_drop]at he;have h1:=mt (hsp (x.opn.countP (·<d)+i) (by omega)).1 (by omega);rw[List.getD_eq_getElem?_getD,List.getElem?_eq_getElem (by omega)]at h1;simp at h1;have h2:a≠d:=fun e=>hno (by rw[<-e];exact List.mem_of_mem_drop ha);omega
 refine⟨hs.sublist (List.take_sublist _ _),⟨hdrop,hs.sublist (List.drop_sublist _ _)⟩,fun a ha b hb=>?_⟩;have h1:=htake a ha;rcases List.mem_cons.1 hb with rfl|hb
 ·exact h1
 ·have:=hdrop b hb;omega
section
variable (x:FBook) (l:LI)
end
end Go.Di
namespace Go.Di
open Proofs
theorem Zav (a b:Int):andF a b=andF b a:=by unfold andF;rw[BitVec.and_comm]
theorem Yup:((List.range 32).all fun k=>(List.range 32).all fun j=>!(andF (k:Int) (j:Int)==(j:Int))||decide (j<=k))=true:=by kernel_rfl
theorem Zp0 {k j:Nat}(hk:k<32)(hj:j<32)(h:andF (k:Int) (j:Int)=(j:Int)):j<=k:=by
 have h1:=List.all_eq_true.1 (List.all_eq_true.1 Yup k (List.mem_range.2 hk)) j (List.mem_range.2 hj);rw[h]at h1;simpa using h1
def Ycs (x:FBook)(th:LL)(wr:LI)(s:Nat):Nat->LI
 | 0=>[]
 | k+1=>if Ydd x th wr s k=true then Ycs x th wr s k++[(k:Int)] else Ycs x th wr s k
def Yyu (l:LI)(i:Nat):Bool:=(List.range l.length).all fun j=>decide (j=i)||!(andF (l.getD j 0) (l.getD i 0)==l.getD j 0)
def Yd5 (l:LI):Nat->LI
 | 0=>[]
 | i+1=>if Yyu l i=true then Yd5 l i++[l.getD i 0] else Yd5 l i
section
variable {x:FBook} {th:LL} {wr:LI} {s:Nat}
theorem Yj9:∀ {K:Nat} {z:Int},z∈Ycs x th wr s K↔∃ k:Nat,k<K/\z=(k:Int)/\Ydd x th wr s k=true
 | 0,z=>⟨fun h=>(by cases h),fun⟨k,h,_⟩=>(by omega)⟩
 | K+1,z=>by
  have ih:=Yj9 (K:=K) (z:=z);simp only[Ycs];split
  ·rename_i hk;rw[List.mem_append,ih,List.mem_singleton]
   constructor
   ·rintro(⟨k,h1,h2,h3⟩|rfl)
    ·exact⟨k,by omega,h2,h3⟩
    ·exact⟨K,by omega,rfl,hk⟩
   ·rintro⟨k,h1,h2,h3⟩
    by_cases hkK:k=K
    ·subst hkK;exact .inr h2
    ·exact .inl ⟨k,by omega,h2,h3⟩
  ·rename_i hk;rw[ih]
   constructor
   ·rintro⟨k,h1,h2,h3⟩
    exact⟨k,by omega,h2,h3⟩
   ·rintro⟨k,h1,h2,h3⟩
    refine⟨k,?_,h2,h3⟩
    by_cases hkK:k=K
    ·subst hkK;exact absurd h3 hk
    ·omega
theorem Yqg:∀ K:Nat,(Ycs x th wr s K).Pairwise (·<·)
 | 0=>List.Pairwise.nil
 | K+1=>by
  have ih:=Yqg K;simp only[Ycs];split
  ·refine List.pairwise_append.2 ⟨ih,List.pairwise_singleton _ _,fun a ha b hb=>?_⟩;obtain⟨k,h1,h2,_⟩:=Yj9.1 ha;rw[List.mem_singleton]at hb;omega
  ·exact ih
theorem Yk5:∀ K:Nat,(Ya0 x th wr s K).Pairwise (·<·)
 | 0=>List.Pairwise.nil
 | K+1=>by
  have ih:=Yk5 K;simp only[Ya0];split
  ·exact ih
  ·split
   ·refine List.pairwise_append.2 ⟨ih,List.pairwise_singleton _ _,fun a ha b hb=>?_⟩;obtain⟨k,h1,h2,_⟩:=Yd8 ha;rw[List.mem_singleton]at hb;omega
   ·exact ih
theorem Yr1:∀ {K:Nat} {z:Int},K<=32->(z∈Ya0 x th wr s K↔∃ k:Nat,k<K/\z=(k:Int)/\Ydd x th wr s k=true/\∀ j:Nat,j<k->Ydd x th wr s j=true->andF (k:Int) (j:Int)≠(j:Int))
 | 0,z,_=>⟨fun h=>(by cases h),fun⟨k,h,_⟩=>(by omega)⟩
 | K+1,z,hK=>by
  have ih:=Yr1 (K:=K) (z:=z) (by omega)
  have hany:((Ya0 x th wr s K).any fun l=>andF K l==l)=true↔∃ j:Nat,j<K/\Ydd x th wr s j=true/\andF (K:Int) (j:Int)=(j:Int):=by
   rw[List.any_eq_true]
   constructor
   ·rintro⟨l,h1,h2⟩
    obtain⟨j,h3,rfl,h4⟩:=Yd8 h1;exact⟨j,h3,h4,by simpa using h2⟩
   ·rintro⟨j,h1,h2,h3⟩
    obtain⟨l,h4,h5,h6⟩:=Ym4 (K:=K) (k:=j) h1 (by omega) h2;refine⟨(l:Int),h4,?_⟩;rw[beq_iff_eq];have g1:=(Yj8 (k:=K) (l:=j) (by omega) (by omega)).1 h3;have g2:=(Yj8 (k:=j) (l:=l) (by omega) h5).1 h6;exact(Yj8 (k:=K) (l:=l) (by omega) h5).2 fun i hi hb=>g1 i hi (g2 i hi hb)
  have hold:(∃ k:Nat,k<K/\z=(k:Int)/\Ydd x th wr s k=true/\∀ j:Nat,j<k->Ydd x th wr s j=true->andF (k:Int) (j:Int)≠(j:Int))->∃ k:Nat,k<K+1/\z=(k:Int)/\Ydd x th wr s k=true/\∀ j:Nat,j<k->Ydd x th wr s j=true->andF (k:Int) (j:Int)≠(j:Int):=fun⟨k,h1,h2⟩=>⟨k,by omega,h2⟩;simp only[Ya0];split
  ·rename_i ha;obtain⟨j,j1,j2,j3⟩:=hany.1 ha;rw[ih];refine⟨hold,fun⟨k,h1,h2,h3,h4⟩=>⟨k,?_,h2,h3,h4⟩⟩
   by_cases hkK:k=K
   ·subst hkK;exact absurd j3 (h4 j j1 j2)
   ·omega
  ·rename_i ha;have hno:∀ j:Nat,j<K->Ydd x th wr s j=true->andF (K:Int) (j:Int)≠(j:Int):=fun j h1 h2 h3=>ha (hany.2 ⟨j,h1,h2,h3⟩);split
   ·rename_i hk;rw[List.mem_append,ih,List.mem_singleton]
    constructor
    ·rintro(h|rfl)
     ·exact hold h
     ·exact⟨K,by omega,rfl,hk,hno⟩
    ·rintro⟨k,h1,h2,h3,h4⟩
     by_cases hkK:k=K
     ·subst hkK;exact .inr h2
     ·exact .inl ⟨k,by omega,h2,h3,h4⟩
   ·rename_i hk;rw[ih];refine⟨hold,fun⟨k,h1,h2,h3,h4⟩=>⟨k,?_,h2,h3,h4⟩⟩
    by_cases hkK:k=K
    ·subst hkK;exact absurd h3 hk
    ·omega
theorem Yuq {l:LI}:∀ {n:Nat} {z:Int},z∈Yd5 l n↔∃ i,i<n/\Yyu l i=true/\z=l.getD i 0
 | 0,z=>⟨fun h=>(by cases h),fun⟨k,h,_⟩=>(by omega)⟩
 | n+1,z=>by
  have ih:=Yuq (l:=l) (n:=n) (z:=z);simp only[Yd5];split
  ·rename_i hk;rw[List.mem_append,ih,List.mem_singleton]
   constructor
   ·rintro(⟨k,h1,h2⟩|h)
    ·exact⟨k,by omega,h2⟩
    ·exact⟨n,by omega,hk,h⟩
   ·rintro⟨k,h1,h2,h3⟩
    by_cases hkn:k=n
    ·subst hkn;exact .inr h3
    ·exact .inl ⟨k,by omega,h2,h3⟩
  ·rename_i hk;rw[ih];refine⟨fun⟨k,h1,h2⟩=>⟨k,by omega,h2⟩,fun⟨k,h1,h2,h3⟩=>⟨k,?_,h2,h3⟩⟩
   by_cases hkn:k=n
   ·subst hkn;exact absurd h2 hk
   ·omega
theorem Ypr {l:LI}(h:l.Pairwise (·<·)){i j:Nat}(hij:i<j)(hj:j<l.length):l.getD i 0<l.getD j 0:=by
 rw[List.getD_eq_getElem?_getD,List.getD_eq_getElem?_getD,List.getElem?_eq_getElem hj,List.getElem?_eq_getElem (show i<l.length by omega)];exact List.pairwise_iff_getElem.1 h i j (by omega) hj hij
theorem Yqf {l:LI}(h:l.Pairwise (·<·)):∀ n,n<=l.length->(Yd5 l n).Pairwise (·<·)
 | 0,_=>List.Pairwise.nil
 | n+1,hn=>by
  have ih:=Yqf h n (by omega);simp only[Yd5];split
  ·refine List.pairwise_append.2 ⟨ih,List.pairwise_singleton _ _,fun a ha b hb=>?_⟩;obtain⟨i,h1,_,h2⟩:=Yuq.1 ha;rw[List.mem_singleton]at hb;rw[h2,hb];exact Ypr h h1 (by omega)
  ·exact ih
theorem Xc9 {K:Nat}(hK:K<=32):Yd5 (Ycs x th wr s K) (Ycs x th wr s K).length=Ya0 x th wr s K:=by
 have hc:=Yqg (x:=x) (th:=th) (wr:=wr) (s:=s) K;refine Zso (r:=(·<·)) (fun a b h=>by omega) (Yqf hc _ (Nat.le_refl _)) (Yk5 K) fun z=>?_;rw[Yuq,Yr1 hK]
 have hmin:∀(i k:Nat),i<(Ycs x th wr s K).length->(Ycs x th wr s K).getD i 0=(k:Int)->k<K->(Yyu (Ycs x th wr s K) i=true↔∀ j:Nat,j<k->Ydd x th wr s j=true->andF (k:Int) (j:Int)≠(j:Int)):=by
  intro i k hi hk hkK;unfold Yyu;rw[List.all_eq_true];simp only[List.mem_range,Bool.or_eq_true,decide_eq_true_eq,Bool.not_eq_true',beq_eq_false_iff_ne]
  constructor
  ·intro h j hj hkeep he;obtain⟨jj,h1,h2⟩:=Yfc.1 (Yj9.2 ⟨j,by omega,rfl,hkeep⟩:(j:Int)∈Ycs x th wr s K);rcases h jj h1 with h3|h3
   ·subst h3;omega
   ·rw[h2,hk,Zav]at h3;exact h3 he
  ·intro h jj hjj
   by_cases hji:jj=i
   ·exact .inl hji
   ·right
    obtain⟨j,j1,j2,j3⟩:=Yj9.1 (Ybw 0 hjj);rw[j2,hk,Zav];intro he;rcases Nat.lt_trichotomy j k with hlt|rfl|hgt
    ·exact h j hlt j3 he
    ·rcases Nat.lt_or_gt_of_ne hji with g|g
     ·have:=Ypr hc g hi;omega
     ·have:=Ypr hc g hjj;omega
    ·have:=Zp0 (k:=k) (j:=j) (by omega) (by omega) he
     omega
 constructor
 ·rintro⟨i,hi,h1,rfl⟩
  obtain⟨k,k1,k2,k3⟩:=Yj9.1 (Ybw 0 hi);exact⟨k,k1,k2,k3,(hmin i k hi k2 k1).1 h1⟩
 ·rintro⟨k,k1,rfl,k3,k4⟩
  obtain⟨i,h1,h2⟩:=Yfc.1 (Yj9.2 ⟨k,k1,rfl,k3⟩:(k:Int)∈Ycs x th wr s K);exact⟨i,h1,(hmin i k h1 h2 k1).2 k4,h2.symm⟩
end
end Go.Di
namespace Go.Di
open Proofs
def Yij (x:FBook)(z d:Int):Nat->Int
 | 0=>-1
 | k+1=>if bitF z k=true/\x.opn.getD k 0<=d then x.opn.getD k 0 else Yij x z d k
theorem Yjk {x:FBook}(ho:x.opn.Pairwise (·<·))(z d:Int):∀ i,i<=x.opn.length->(Yij x z d i=-1/\∀ k,k<i->¬(bitF z k=true/\x.opn.getD k 0<=d))\/∃ k,k<i/\bitF z k=true/\x.opn.getD k 0<=d/\Yij x z d i=x.opn.getD k 0/\∀ k',k'<i->bitF z k'=true->x.opn.getD k' 0<=d->x.opn.getD k' 0<=x.opn.getD k 0
 | 0,_=>.inl ⟨rfl,fun k hk=>by omega⟩
 | i+1,hi=>by
  simp only[Yij]
  by_cases h:bitF z i=true/\x.opn.getD i 0<=d
  ·rw[if_pos h];refine .inr ⟨i,by omega,h.1,h.2,rfl,fun k' hk' _ _=>?_⟩
   by_cases hki:k'=i
   ·subst hki;exact Int.le_refl _
   ·exact Int.le_of_lt (Ypr ho (show k'<i by omega) (by omega))
  ·rw[if_neg h];rcases Yjk ho z d i (by omega) with ⟨h1,h2⟩|⟨k,h1,h2,h3,h4,h5⟩
   ·refine .inl ⟨h1,fun k hk=>?_⟩
    by_cases hki:k=i
    ·subst hki;exact h
    ·exact h2 k (by omega)
   ·refine .inr ⟨k,by omega,h2,h3,h4,fun k' hk' g1 g2=>?_⟩
    by_cases hki:k'=i
    ·subst hki;exact absurd ⟨g1,g2⟩ h
    ·exact h5 k' (by omega) g1 g2
structure PIn (x:FBook):Prop where
 inn:FIn x
 ho:x.opn.Pairwise (·<·)
 chain:Valid x.chain
 feet:x.feet.length=x.chain.secs.length
theorem FValid.pin {x:FBook}(h:FValid x):PIn x:=⟨h.inn,h.opn.2,h.chain,h.feet⟩
theorem Zlm {x:FBook}(hV:PIn x){s:Nat}(hs:s<x.feet.length)(z d:Int):Yij x z d x.opn.length=Xbr (Yhs (Yax x (zeroW.set s z)) s d):=by
 have hn:=hV.inn.n;have hp:(Yax x (zeroW.set s z)).Pairwise wlt:=by rw[Zdd];exact Yt2 hV.ho _ _ (Nat.le_refl _)
 have hin:∀ w:Work,w.s=(s:Int)->(w∈Yax x (zeroW.set s z)↔∃ k,k<x.opn.length/\bitF z k=true/\w.d=x.opn.getD k 0):=by
  intro w hw;rw[Yqx]
  constructor
  ·rintro⟨k,j,h1,h2,h3,h4⟩
   rw[h4]at hw;have hj:j=s:=by have:(j:Int)=s:=hw;omega
   subst hj;rw[Zt8 (by omega) (by omega),if_pos rfl]at h3;exact⟨k,h1,h3,by rw[h4]⟩
  ·rintro⟨k,h1,h2,h3⟩
   refine⟨k,s,h1,hs,by rw[Zt8 (by omega) (by omega),if_pos rfl];exact h2,?_⟩
   cases w
   simp only at hw h3;rw[hw,h3]
 unfold Xbr;rcases Ztf hp s d with ⟨h1,⟨w,hw,ws,wd,we⟩,hmax⟩|⟨h1,hno⟩
 ·rw[if_neg (by omega)];obtain⟨k,k1,k2,k3⟩:=(hin w ws).1 hw;rcases Yjk hV.ho z d x.opn.length (Nat.le_refl _) with ⟨g1,g2⟩|⟨k',g1,g2,g3,g4,g5⟩
  ·exact absurd ⟨k2,by omega⟩ (g2 k k1)
  ·have q1:=g5 k k1 k2 (by omega);have q2:=hmax ⟨x.opn.getD k' 0,(s:Int)⟩ ((hin _ rfl).2 ⟨k',g1,g2,rfl⟩) rfl g3;have q2':x.opn.getD k' 0<=(Yhs (Yax x (zeroW.set s z)) s d).2:=q2;omega
 ·rw[h1,if_pos rfl];rcases Yjk hV.ho z d x.opn.length (Nat.le_refl _) with ⟨g1,g2⟩|⟨k',g1,g2,g3,g4,g5⟩
  ·exact g1
  ·exact absurd ⟨rfl,g3⟩ (hno ⟨x.opn.getD k' 0,(s:Int)⟩ ((hin _ rfl).2 ⟨k',g1,g2,rfl⟩))
theorem Zq5 (z:Int)(k:Nat):CF 141 [.I z,.I (k:Int)] (.bool (bitF z k)) :=
 Yaa (GH 10) Xg6 (Xdp z (k:Int)) ⟨by omega,trivial⟩
def rsf0 (x:FBook)(th:LL)(wr:LI)(s i:Nat):LI->KV
 | []=>Yg6 x th wr s i
 | y::r=>Yg5 x th wr s i y r
def rsf2 (x:FBook)(th:LL)(wr:LI)(s i d:Nat)(ok:Bool):LI->KV
 | []=>Ygb x th wr s i d ok
 | y::r=>Yga x th wr s i d ok y r
def rsf4 (x:FBook)(th:LL)(wr:LI)(s i d k:Nat)(la:Int):LI->KV
 | []=>Yfh x th wr s i d k la
 | y::r=>Yf9 x th wr s i d k la y r
section
variable {x:FBook} {th:LL} {wr:LI} {s:Nat}
theorem Xdi (hx:FIn x)(i d:Nat)(out:LI):LF 72 (Ydj [1,1,0,1,0,0,1,0,0,1,0,1,0,0,1,0,0,1,0,1]) (rsf4 x th wr s i d 0 (-1) out) .normal (rsf4 x th wr s i d x.opn.length (Yij x i d x.opn.length) out):=by
 have ho:=hx.opnl;refine LH.each (id:=4) (c:=Ydj [1,1,0,1,0,0,1,0,0,1,0,1,0,0,1,0,0,1,0,1,0,0]) (by kernel_rfl) x.opn.length (fun k=>rsf4 x th wr s i d k (Yij x i d k) out) (fun k hk=>?_) ?_
 ·have hm:=Zq5 (i:Int) k;have hi64:Yae ((k:Int)+1):=Yap (by omega) (by omega);simp only[Yij]
  cases hb:bitF (i:Int) k with
  | false =>
   rw[hb]at hm;simp only[Bool.false_eq_true,false_and,if_false]
   cases out with
   | nil=>exact⟨_,_,_,_,_,_,Zjf x th wr s i d k _,⟨Yat hk,hm,hi64,trivial⟩,rfl⟩
   | cons y r=>exact⟨_,_,_,_,_,_,Zi8 x th wr s i d k _ y r,⟨Yat hk,hm,hi64,trivial⟩,rfl⟩
  | true =>
   rw[hb]at hm
   by_cases hle:x.opn.getD k 0<=(d:Int)
   ·rw[if_pos ⟨rfl,hle⟩]
    cases out with
    | nil=>exact⟨_,_,_,_,_,_,Zjd x th wr s i d k _,⟨Yat hk,hm,⟨by omega,by omega⟩,by omega,decide_eq_true hle,⟨by omega,by omega⟩,by omega,hi64,trivial⟩,rfl⟩
    | cons y r=>exact⟨_,_,_,_,_,_,Zi6 x th wr s i d k _ y r,⟨Yat hk,hm,⟨by omega,by omega⟩,by omega,decide_eq_true hle,⟨by omega,by omega⟩,by omega,hi64,trivial⟩,rfl⟩
   ·rw[if_neg (fun h=>hle h.2)]
    cases out with
    | nil=>exact⟨_,_,_,_,_,_,Zje x th wr s i d k _,⟨Yat hk,hm,⟨by omega,by omega⟩,by omega,decide_eq_false hle,hi64,trivial⟩,rfl⟩
    | cons y r=>exact⟨_,_,_,_,_,_,Zi7 x th wr s i d k _ y r,⟨Yat hk,hm,⟨by omega,by omega⟩,by omega,decide_eq_false hle,hi64,trivial⟩,rfl⟩
 ·cases out with
  | nil=>exact⟨_,_,_,_,_,_,_,Zjg x th wr s i d _ _,⟨Yay,trivial⟩,.inl ⟨rfl,rfl⟩,rfl⟩
  | cons y r=>exact⟨_,_,_,_,_,_,_,Zi9 x th wr s i d _ _ y r,⟨Yay,trivial⟩,.inl ⟨rfl,rfl⟩,rfl⟩
def Yk0 (x:FBook)(th:LL)(wr:LI)(s i:Nat)(k:Nat):Bool:=(List.range k).all fun d=>!(decide (Ydc x th wr (Yax x (zeroW.set s i)) s d<x.chain.rule))
theorem Yq4 (i k:Nat):Yk0 x th wr s i (k+1)=(Yk0 x th wr s i k&&decide (Ydc x th wr (Yax x (zeroW.set s i)) s k>=x.chain.rule)):=by
 unfold Yk0;rw[List.range_succ,List.all_append];simp only[List.all_cons,List.all_nil,Bool.and_true]
 congr 1
 by_cases h:Ydc x th wr (Yax x (zeroW.set s i)) s k<x.chain.rule
 ·rw[decide_eq_true h,decide_eq_false (by omega)];rfl
 ·rw[decide_eq_false h,decide_eq_true (by omega)];rfl
theorem Xdj (hV:PIn x)(hk:KnOk x th wr)(hs:s<x.feet.length)(i:Nat)(out:LI):∃ d,LF 72 (Ydj [1,1,0,1,0,0,1,0,0,1,0,1]) (rsf2 x th wr s i 0 true out) .normal (rsf2 x th wr s i d (Ydd x th wr s i) out):=by
 have hx:=hV.inn;have hdd:=hx.days;obtain⟨n,hn,h1,h2⟩:=Yll (Yk0 x th wr s i) (x.chain.days+1).toNat
 have hmono:∀ m,n<=m->Yk0 x th wr s i n=false->Yk0 x th wr s i m=false:=by
  intro m
  induction m with
  | zero=>intro h hf;rwa [show n=0 by omega]at hf
  | succ m ih =>
   intro h hf
   by_cases he:n=m+1
   ·subst he;exact hf
   ·rw[Yq4,ih (by omega) hf];rfl
 have hend:Yk0 x th wr s i n=Ydd x th wr s i:=by
  show _=Yk0 x th wr s i (x.chain.days+1).toNat;rcases h2 with h2|rfl
  ·rw[h2,hmono _ hn h2]
  ·rfl
 have hle:∀ d:Nat,d<(x.chain.days+1).toNat->CF 52 [Yab x,knD th wr,.I (s:Int),.I (Yij x i d x.opn.length),.I (d:Int)] (.I (Ydc x th wr (Yax x (zeroW.set s i)) s d)):=by
  intro d hd;rw[Zlm hV hs];exact Zjr hx hk (Ynw hx _) s d ⟨by omega,by omega⟩ ⟨by omega,by omega⟩
 refine⟨n,?_⟩;rw[<-hend];refine LH.each (id:=2) (c:=Ydj [1,1,0,1,0,0,1,0,0,1,0,1,0,0]) (by kernel_rfl) n (fun d=>rsf2 x th wr s i d (Yk0 x th wr s i d) out) (fun d hd=>?_) ?_
 ·have hok:=h1 d hd;have hin:=Xdi (th:=th) (wr:=wr) (s:=s) hx i d out;have hc:=hle d (by omega);have hdle:decide ((d:Int)<=x.chain.days)=true:=decide_eq_true (by omega);have hi64:Yae ((d:Int)+1):=Yap (by omega) (by omega);rw[Yq4,hok,Bool.true_and]
  cases out with
  | nil=>exact⟨_,_,_,_,_,_,Zqr x th wr s i d true _ _ _,⟨rfl,rfl,rfl,rfl,rfl,rfl,hdle,hin,hc,hi64,trivial⟩,rfl⟩
  | cons y r=>exact⟨_,_,_,_,_,_,Zqm x th wr s i d true y r _ _ _,⟨rfl,rfl,rfl,rfl,rfl,rfl,hdle,hin,hc,hi64,trivial⟩,rfl⟩
 ·cases hb:Yk0 x th wr s i n with
  | false=>cases out with
   | nil=>exact⟨_,_,_,_,_,_,_,Zbq x th wr s i n false,⟨rfl,rfl,rfl,rfl,rfl,rfl,trivial⟩,.inl ⟨rfl,rfl⟩,rfl⟩
   | cons y r=>exact⟨_,_,_,_,_,_,_,Zbp x th wr s i n false y r,⟨rfl,rfl,rfl,rfl,rfl,rfl,trivial⟩,.inl ⟨rfl,rfl⟩,rfl⟩
  | true =>
   rcases h2 with h2|rfl
   ·rw[hb]at h2;cases h2
   ·have hdle:decide ((((x.chain.days+1).toNat:Nat):Int)<=x.chain.days)=false:=decide_eq_false (by omega)
    cases out with
    | nil=>exact⟨_,_,_,_,_,_,_,Zjh x th wr s i _ true,⟨rfl,rfl,rfl,rfl,rfl,rfl,hdle,trivial⟩,.inl ⟨rfl,rfl⟩,rfl⟩
    | cons y r=>exact⟨_,_,_,_,_,_,_,Zja x th wr s i _ true y r,⟨rfl,rfl,rfl,rfl,rfl,rfl,hdle,trivial⟩,.inl ⟨rfl,rfl⟩,rfl⟩
theorem Yne:∀ k,(Ycs x th wr s k).length<=k
 | 0=>Nat.le_refl _
 | k+1=>by
  have:=Yne k
  simp only[Ycs];split
  ·rw[List.length_append,List.length_singleton];omega
  ·omega
theorem Xdk (hV:PIn x)(hk:KnOk x th wr)(hs:s<x.feet.length):CF 127 [Yab x,knD th wr,.I (s:Int)] (.z .int (Ycs x th wr s (2 ^ x.opn.length))):=by
 have hx:=hV.inn;have ho:=hx.opnl;have hc:=Zgs ho;have hp:=Yyj ho;have hN:0<=(x.opn.length:Int)/\Yae ((1:Int)*(2:Int) ^ Min.min (Int.toNat (x.opn.length:Int)) 64):=⟨by omega,by rw[hc];revert hp;generalize 2 ^ x.opn.length=N;intro hp;exact Yap (by omega) (by omega)⟩
 have hloop:LF 72 (Ydj [1,1,0,1]) (rsf0 x th wr s 0 (Ycs x th wr s 0)) .normal (rsf0 x th wr s (2 ^ x.opn.length) (Ycs x th wr s (2 ^ x.opn.length))):=by
  refine LH.each (id:=0) (c:=Ydj [1,1,0,1,0,0]) (by kernel_rfl) (2 ^ x.opn.length) (fun i=>rsf0 x th wr s i (Ycs x th wr s i)) (fun i hi=>?_) ?_
  ·have hlt:decide ((i:Int)<(1:Int)*(2:Int) ^ Min.min (Int.toNat (x.opn.length:Int)) 64)=true:=by rw[hc];exact Yat hi
   have hi64:Yae ((i:Int)+1):=Yap (by omega) (by omega);have hlen:=Yne (x:=x) (th:=th) (wr:=wr) (s:=s) i;obtain⟨d,hin⟩:=Xdj hV hk hs i (Ycs x th wr s i);have he:Ycs x th wr s (i+1)=if Ydd x th wr s i=true then Ycs x th wr s i++[(i:Int)] else Ycs x th wr s i:=rfl
   simp only[he]
   cases hl:Ycs x th wr s i with
   | nil =>
    rw[hl]at hin
    cases hb:Ydd x th wr s i with
    | true =>
     rw[hb]at hin;exact⟨_,_,_,_,_,_,Zji x th wr s i d,⟨hN,hlt,hin,by omega,hi64,trivial⟩,rfl⟩
    | false =>
     rw[hb]at hin;exact⟨_,_,_,_,_,_,Zqs x th wr s i d,⟨hN,hlt,hin,hi64,trivial⟩,rfl⟩
   | cons y r =>
    rw[hl]at hin hlen
    cases hb:Ydd x th wr s i with
    | true =>
     rw[hb]at hin;exact⟨_,_,_,_,_,_,Zjb x th wr s i y r d,⟨hN,hlt,hin,rfl,by rw[List.length_append,List.length_singleton];omega,hi64,trivial⟩,rfl⟩
    | false =>
     rw[hb]at hin;exact⟨_,_,_,_,_,_,Zqn x th wr s i y r d,⟨hN,hlt,hin,hi64,trivial⟩,rfl⟩
  ·have hlt:decide ((((2 ^ x.opn.length:Nat)):Int)<(1:Int)*(2:Int) ^ Min.min (Int.toNat (x.opn.length:Int)) 64)=false:=by rw[hc];exact Yay
   cases Ycs x th wr s (2 ^ x.opn.length) with
   | nil=>exact⟨_,_,_,_,_,_,_,Zjj x th wr s _,⟨hN,hlt,trivial⟩,.inl ⟨rfl,rfl⟩,rfl⟩
   | cons y r=>exact⟨_,_,_,_,_,_,_,Zjc x th wr s _ y r,⟨hN,hlt,trivial⟩,.inl ⟨rfl,rfl⟩,rfl⟩
 cases hl:Ycs x th wr s (2 ^ x.opn.length) with
 | nil =>
  rw[hl]at hloop;exact Contract.weaken (Yaa (GH 72) Zqq (Zqp x th wr s (2 ^ x.opn.length)) ⟨hloop,trivial⟩)
 | cons y r =>
  rw[hl]at hloop;exact Yaa (GH 72) Zqq (Zqo x th wr s (2 ^ x.opn.length) y r) ⟨hloop,rfl,trivial⟩
end
end Go.Di
namespace Go.Di
open Proofs
def sel0 (p:Int->Bool):Nat->LI
 | 0=>[]
 | i+1=>if p (i:Int)=true then sel0 p i++[(i:Int)] else sel0 p i
theorem Yo8 (p:Int->Bool):∀(n:Nat) (z:Int),z∈sel0 p n↔0<=z/\z<n/\p z=true
 | 0,z=>by simp only[sel0,List.not_mem_nil,false_iff];omega
 | n+1,z=>by
  have ih:=Yo8 p n z;simp only[sel0]
  by_cases h:p (n:Int)=true
  ·rw[if_pos h,List.mem_append,ih,List.mem_singleton]
   constructor
   ·rintro(⟨h1,h2,h3⟩|rfl)
    ·exact⟨h1,by omega,h3⟩
    ·exact⟨by omega,by omega,h⟩
   ·rintro⟨h1,h2,h3⟩
    by_cases e:z=n
    ·exact .inr e
    ·exact .inl ⟨h1,by omega,h3⟩
  ·rw[if_neg h,ih]
   constructor
   ·rintro⟨h1,h2,h3⟩
    exact⟨h1,by omega,h3⟩
   ·rintro⟨h1,h2,h3⟩
    refine⟨h1,?_,h3⟩
    by_cases e:z=n
    ·subst e;exact absurd h3 h
    ·omega
theorem Yxo (p:Int->Bool):∀ n:Nat,(sel0 p n).Pairwise (·<·)
 | 0=>List.Pairwise.nil
 | n+1=>by
  have ih:=Yxo p n;simp only[sel0];split
  ·rw[List.pairwise_append];refine⟨ih,by simp,fun a ha b hb=>?_⟩;simp only[List.mem_singleton]at hb
   have:=(Yo8 p n a).1 ha
   omega
  ·exact ih
theorem Zgb (p:Int->Bool):∀ n:Nat,(sel0 p n).length<=n
 | 0=>by simp[sel0]
 | n+1=>by
  have ih:=Zgb p n;simp only[sel0];split
  ·simp only[List.length_append,List.length_singleton];omega
  ·omega
def Ygr (x:FBook)(day:Int)(d:Int):Bool:=(d==day)||decide (d∈x.opn)
def Yxw (x:FBook)(day:Int):LI:=sel0 (Ygr x day) (x.chain.days+1).toNat
theorem Ztz (a b:Int)(h:a<b):¬b<a:=by omega
theorem Zyc {x:FBook}(hV:FValid x){d:Int}(hd:0<=d/\d<=x.chain.days)(hno:d∉x.opn):x.withOpn (Yxw x d)=x.rest d:=by
 have hdd:=hV.chain.days
 have e:Yxw x d=(x.rest d).opn:=by
  refine Zso Ztz (Yxo _ _) (Yqp hV hd hno) fun z=>?_;unfold Yxw;rw[Yo8,Zyb hV hd hno];unfold Ygr;rw[Bool.or_eq_true,beq_iff_eq,decide_eq_true_eq]
  constructor
  ·exact fun h=>h.2.2
  ·intro h;refine⟨?_,?_,h⟩
   ·rcases h with h|h
    ·omega
    ·exact(hV.opn.1 z h).1
   ·rcases h with h|h
    ·omega
    ·have:=(hV.opn.1 z h).2;omega
 rw[e];rfl
end Go.Di
namespace Go.Di
open Proofs
def rst0 (x:FBook)(th:LL)(wr:LI)(s:Nat)(l:LI)(i:Nat):LI->KV
 | []=>Yg4 x th wr s l i
 | y::r=>Yg3 x th wr s l i y r
def rst2 (x:FBook)(th:LL)(wr:LI)(s:Nat)(l:LI)(i j:Nat)(ok:Bool):LI->KV
 | []=>Yd1 x th wr s l i j ok
 | y::r=>Yet x th wr s l i j ok y r
def Zs5 (l:LI)(i j:Nat):Bool:=(List.range j).all fun j=>decide (j=i)||!(andF (l.getD j 0) (l.getD i 0)==l.getD j 0)
theorem Zli (l:LI)(i j:Nat):Zs5 l i (j+1)=(Zs5 l i j&&(decide (j=i)||!(andF (l.getD j 0) (l.getD i 0)==l.getD j 0))):=by
 unfold Zs5;rw[List.range_succ,List.all_append];simp
section
variable {x:FBook} {th:LL} {wr:LI} {s:Nat}
theorem Xg2 (l:LI)(hl:l.length<=32)(i:Nat)(hi:i<l.length)(out:LI):LF 60 (Yfs [1,1,0,1,0,0,1,0,0,1,0,1]) (rst2 x th wr s l i 0 true out) .normal (rst2 x th wr s l i l.length (Yyu l i) out):=by
 refine LH.each (id:=2) (c:=Yfs [1,1,0,1,0,0,1,0,0,1,0,1,0,0]) (by kernel_rfl) l.length (fun j=>rst2 x th wr s l i j (Zs5 l i j) out) (fun j hj=>?_) ?_
 ·have hlt:decide ((j:Int)<(l.length:Int))=true:=Yat hj;have hi64:Yae ((j:Int)+1):=Yap (by omega) (by omega);rw[Zli]
  cases hok:Zs5 l i j with
  | false =>
   rw[Bool.false_and]
   cases out with
   | nil=>exact⟨_,_,_,_,_,_,Zqg x th wr s l i j false,by repeat(first|exact trivial|refine⟨by first|exact hlt|exact hi64|rfl,?_⟩),rfl⟩
   | cons y r=>exact⟨_,_,_,_,_,_,Zqb x th wr s l i j false y r,by repeat(first|exact trivial|refine⟨by first|exact hlt|exact hi64|rfl,?_⟩),rfl⟩
  | true =>
   rw[Bool.true_and]
   by_cases hji:j=i
   ·have heq:((j:Int)==(i:Int))=true:=by simp[hji]
    rw[decide_eq_true hji,Bool.true_or]
    cases out with
    | nil=>exact⟨_,_,_,_,_,_,Zbn x th wr s l i j true,by repeat(first|exact trivial|refine⟨by first|exact hlt|exact hi64|exact heq|rfl,?_⟩),rfl⟩
    | cons y r=>exact⟨_,_,_,_,_,_,Zbl x th wr s l i j true y r,by repeat(first|exact trivial|refine⟨by first|exact hlt|exact hi64|exact heq|rfl,?_⟩),rfl⟩
   ·have heq:((j:Int)==(i:Int))=false:=beq_eq_false_iff_ne.2 (by omega);rw[decide_eq_false hji,Bool.false_or]
    cases out with
    | nil=>exact⟨_,_,_,_,_,_,Zbo x th wr s l i j true,by repeat(first|exact trivial|refine⟨by first|exact hlt|exact hi64|exact heq|omega|rfl,?_⟩),rfl⟩
    | cons y r=>exact⟨_,_,_,_,_,_,Zbm x th wr s l i j true y r,by repeat(first|exact trivial|refine⟨by first|exact hlt|exact hi64|exact heq|omega|rfl,?_⟩),rfl⟩
 ·show ∃ dec orc lorc ks ps e1 L1,_
  cases out with
  | nil=>exact⟨_,_,_,_,_,_,_,Zi3 x th wr s l i _ _,⟨Yay,trivial⟩,.inl ⟨rfl,rfl⟩,rfl⟩
  | cons y r=>exact⟨_,_,_,_,_,_,_,Zi0 x th wr s l i _ _ y r,⟨Yay,trivial⟩,.inl ⟨rfl,rfl⟩,rfl⟩
theorem Ytf (l:LI):∀ k,(Yd5 l k).length<=k
 | 0=>Nat.le_refl _
 | k+1=>by
  have:=Ytf l k
  simp only[Yd5];split
  ·rw[List.length_append,List.length_singleton];omega
  ·omega
theorem Xde (hV:PIn x)(hk:KnOk x th wr)(hs:s<x.feet.length):CF 107 [Yab x,knD th wr,.I (s:Int)] (.z .int (Ybk x th wr s)):=by
 have hp:=Yyj hV.inn.opnl;have hsf:=Xdk hV hk hs;have hle:=Yne (x:=x) (th:=th) (wr:=wr) (s:=s) (2 ^ x.opn.length);rw[show Ybk x th wr s=Yd5 (Ycs x th wr s (2 ^ x.opn.length)) (Ycs x th wr s (2 ^ x.opn.length)).length from(Xc9 hp).symm];generalize Ycs x th wr s (2 ^ x.opn.length)=l at hsf hle;have hl:l.length<=32:=Nat.le_trans hle hp
 have hloop:LF 60 (Yfs [1,1,0,1]) (rst0 x th wr s l 0 (Yd5 l 0)) .normal (rst0 x th wr s l l.length (Yd5 l l.length)):=by
  refine LH.each (id:=0) (c:=Yfs [1,1,0,1,0,0]) (by kernel_rfl) l.length (fun i=>rst0 x th wr s l i (Yd5 l i)) (fun i hi=>?_) ?_
  ·have hlt:decide ((i:Int)<(l.length:Int))=true:=Yat hi;have hi64:Yae ((i:Int)+1):=Yap (by omega) (by omega);have hin:=Xg2 (x:=x) (th:=th) (wr:=wr) (s:=s) l hl i hi (Yd5 l i);have hlen:=Ytf l i;have he:Yd5 l (i+1)=if Yyu l i=true then Yd5 l i++[l.getD i 0] else Yd5 l i:=rfl
   simp only[he]
   cases ho:Yd5 l i with
   | nil =>
    rw[ho]at hin
    cases hb:Yyu l i with
    | true =>
     rw[hb]at hin;exact⟨_,_,_,_,_,_,Zi4 x th wr s l i _,by repeat(first|exact trivial|refine⟨by first|exact hlt|exact hi64|exact hin|omega|rfl,?_⟩),rfl⟩
    | false =>
     rw[hb]at hin;exact⟨_,_,_,_,_,_,Zqh x th wr s l i _,by repeat(first|exact trivial|refine⟨by first|exact hlt|exact hi64|exact hin|omega|rfl,?_⟩),rfl⟩
   | cons y r =>
    rw[ho]at hin hlen
    cases hb:Yyu l i with
    | true =>
     rw[hb]at hin;have hz:(y::r++[l.getD i 0]).length*(8+1)<=140737488355328:=by simp only[List.length_append,List.length_cons,List.length_nil]at hlen ⊢;omega
     exact⟨_,_,_,_,_,_,Zi1 x th wr s l i y r _,by repeat(first|exact trivial|refine⟨by first|exact hlt|exact hi64|exact hin|exact hz|omega|rfl,?_⟩),rfl⟩
    | false =>
     rw[hb]at hin;exact⟨_,_,_,_,_,_,Zqc x th wr s l i y r _,by repeat(first|exact trivial|refine⟨by first|exact hlt|exact hi64|exact hin|omega|rfl,?_⟩),rfl⟩
  ·show ∃ dec orc lorc ks ps e1 L1,_
   cases Yd5 l l.length with
   | nil=>exact⟨_,_,_,_,_,_,_,Zi5 x th wr s l _,⟨Yay,trivial⟩,.inl ⟨rfl,rfl⟩,rfl⟩
   | cons y r=>exact⟨_,_,_,_,_,_,_,Zi2 x th wr s l _ y r,⟨Yay,trivial⟩,.inl ⟨rfl,rfl⟩,rfl⟩
 cases ho:Yd5 l l.length with
 | nil =>
  rw[ho]at hloop;exact Contract.weaken (Yaa (GH 60) Zqf (Zqe x th wr s l l.length) ⟨hsf,hloop,trivial⟩)
 | cons y r =>
  rw[ho]at hloop;exact Yaa (GH 60) Zqf (Zqd x th wr s l l.length y r) ⟨hsf,hloop,rfl,trivial⟩
end
def w4Of (l:LI):W4:=⟨l.getD 0 0,l.getD 1 0,l.getD 2 0,l.getD 3 0⟩
theorem Zwp (l:LI){s:Nat}(hs:s<4):(w4Of l).get s=l.getD s 0:=by
 match s,hs with
 | 0,_=>rfl
 | 1,_=>rfl
 | 2,_=>rfl
 | 3,_=>rfl
def rpd0 (x:FBook)(l:LI)(i:Nat):List Work->KV
 | []=>Yg8 x l i
 | y::r=>Yi6 x l i y r
def rpd2 (x:FBook)(l:LI)(i s:Nat):List Work->KV
 | []=>Yg7 x l i s
 | y::r=>Yfi x l i s y r
theorem Yl6 (x:FBook)(on:W4)(k:Nat){l:List Work}(hl:l≠[]):∀ s,Yao x on k l s≠[]
 | 0=>hl
 | s+1=>by
  have ih:=Yl6 x on k hl s;simp only[Yao];split
  ·simp
  ·exact ih
theorem Xdn {x:FBook}(hx:FIn x){l:LI}(hl:l.length=x.feet.length):CF 128 [Yab x,.z .int l] (.z .work (Yax x (w4Of l))):=by
 have hn:=hx.n;have ho:=hx.opnl
 have hin:∀ k,k<x.opn.length->∀ out:List Work,out.length<=1000->LF 38 (Yht [1,1,0,1,0,0,1,0,0,1]) (rpd2 x l k 0 out) .normal (rpd2 x l k x.feet.length (Yao x (w4Of l) k out x.feet.length)):=by
  intro k hk out hout;refine LH.each (id:=2) (c:=Yht [1,1,0,1,0,0,1,0,0,1,0,0]) (by kernel_rfl) x.feet.length (fun s=>rpd2 x l k s (Yao x (w4Of l) k out s)) (fun s hs=>?_) ?_
  ·have hlt:decide ((s:Int)<(l.length:Int))=true:=Yat (by omega);have hi64:Yae ((s:Int)+1):=Yap (by omega) (by omega);have hm:=Zq5 (l.getD s 0) k;have hlen:=Ye2 x (w4Of l) k out s;have he:Yao x (w4Of l) k out (s+1)=if bitF ((w4Of l).get s) k=true then Yao x (w4Of l) k out s++[⟨x.opn.getD k 0,s⟩] else Yao x (w4Of l) k out s:=rfl
   rw[Zwp l (by omega)]at he;simp only[he]
   cases hb:bitF (l.getD s 0) k with
   | false =>
    rw[hb]at hm;simp only[Bool.false_eq_true,if_false]
    cases Yao x (w4Of l) k out s with
    | nil=>exact⟨_,_,_,_,_,_,Zq1 x l k s,by repeat(first|exact trivial|refine⟨by first|exact hlt|exact hi64|exact hm|omega,?_⟩),rfl⟩
    | cons y r=>exact⟨_,_,_,_,_,_,Zqw x l k s y r,by repeat(first|exact trivial|refine⟨by first|exact hlt|exact hi64|exact hm|omega,?_⟩),rfl⟩
   | true =>
    rw[hb]at hm;rw[if_pos rfl]
    cases hq:Yao x (w4Of l) k out s with
    | nil=>exact⟨_,_,_,_,_,_,Zjo x l k s,by repeat(first|exact trivial|refine⟨by first|exact hlt|exact hi64|exact hm|omega,?_⟩),rfl⟩
    | cons y r =>
     rw[hq]at hlen;have hz:(y::r++[(⟨x.opn.getD k 0,(s:Int)⟩:Work)]).length*(16+1)<=140737488355328:=by simp only[List.length_append,List.length_cons,List.length_nil]at hlen ⊢;omega
     exact⟨_,_,_,_,_,_,Zjl x l k s y r,by repeat(first|exact trivial|refine⟨by first|exact hlt|exact hi64|exact hm|exact hz|omega|rfl,?_⟩),rfl⟩
  ·have hlf:decide (((x.feet.length:Nat):Int)<(l.length:Int))=false:=decide_eq_false (by omega);show ∃ dec orc lorc ks ps e1 L1,_
   cases Yao x (w4Of l) k out x.feet.length with
   | nil=>exact⟨_,_,_,_,_,_,_,Zjp x l k _,⟨hlf,trivial⟩,.inl ⟨rfl,rfl⟩,rfl⟩
   | cons y r=>exact⟨_,_,_,_,_,_,_,Zjm x l k _ y r,⟨hlf,trivial⟩,.inl ⟨rfl,rfl⟩,rfl⟩
 have hloop:LF 38 (Yht [1,1,0,1]) (rpd0 x l 0 (Ya5 x (w4Of l) 0)) .normal (rpd0 x l x.opn.length (Yax x (w4Of l))):=by
  refine LH.each (id:=0) (c:=Yht [1,1,0,1,0,0]) (by kernel_rfl) x.opn.length (fun k=>rpd0 x l k (Ya5 x (w4Of l) k)) (fun k hk=>?_) ?_
  ·have hlt:decide ((k:Int)<(x.opn.length:Int))=true:=Yat hk;have hi64:Yae ((k:Int)+1):=Yap (by omega) (by omega);have hlen:=Yed x (w4Of l) k;have hk4:k*x.feet.length<=5*4:=Nat.mul_le_mul (by omega) hn.2;have h:=hin k hk (Ya5 x (w4Of l) k) (by omega);have he:Ya5 x (w4Of l) (k+1)=Yao x (w4Of l) k (Ya5 x (w4Of l) k) x.feet.length:=rfl;simp only[he]
   cases h1:Ya5 x (w4Of l) k with
   | nil =>
    rw[h1]at h
    cases h2:Yao x (w4Of l) k [] x.feet.length with
    | nil =>
     rw[h2]at h;exact⟨_,_,_,_,_,_,Zq3 x l k _,⟨hlt,h,hi64,trivial⟩,rfl⟩
    | cons y r =>
     rw[h2]at h;exact⟨_,_,_,_,_,_,Zq2 x l k _ y r,⟨hlt,h,hi64,trivial⟩,rfl⟩
   | cons y r =>
    rw[h1]at h
    cases h2:Yao x (w4Of l) k (y::r) x.feet.length with
    | nil=>exact absurd h2 (Yl6 x _ k (by simp) _)
    | cons y2 r2 =>
     rw[h2]at h;exact⟨_,_,_,_,_,_,Zqx x l k y r _ y2 r2,⟨hlt,h,hi64,trivial⟩,rfl⟩
  ·show ∃ dec orc lorc ks ps e1 L1,_;rw[show Yax x (w4Of l)=Ya5 x (w4Of l) x.opn.length from rfl]
   cases Ya5 x (w4Of l) x.opn.length with
   | nil=>exact⟨_,_,_,_,_,_,_,Zjq x l _,⟨Yay,trivial⟩,.inl ⟨rfl,rfl⟩,rfl⟩
   | cons y r=>exact⟨_,_,_,_,_,_,_,Zjn x l _ y r,⟨Yay,trivial⟩,.inl ⟨rfl,rfl⟩,rfl⟩
 cases hq:Yax x (w4Of l) with
 | nil =>
  rw[hq]at hloop;exact Contract.weaken (Yaa (GH 38) Zq0 (Zqz x l x.opn.length) ⟨hloop,trivial⟩)
 | cons y r =>
  rw[hq]at hloop;exact Yaa (GH 38) Zq0 (Zqy x l x.opn.length y r) ⟨hloop,rfl,trivial⟩
def rwtS (x:FBook)(day:Int)(i:Nat):LI->KV
 | []=>Ylb x day i
 | y::r=>Yes x day i y r
theorem Xdb {x:FBook}(hV:FValid x)(day:Int)(hday:0<=day/\day<=x.chain.days):CF 79 [Yab x,.I day] (Yab (x.withOpn (Yxw x day))):=by
 have hdd:=hV.chain.days;have hx:=hV.inn
 have hloop:LF 33 (k_79 [1,1,1,0,1]) (rwtS x day 0 (sel0 (Ygr x day) 0)) .normal (rwtS x day (x.chain.days+1).toNat (Yxw x day)):=by
  refine LH.each (id:=0) (c:=k_79 [1,1,1,0,1,0,0]) (by kernel_rfl) (x.chain.days+1).toNat (fun i=>rwtS x day i (sel0 (Ygr x day) i)) (fun i hi=>?_) ?_
  ·have hlt:decide ((i:Int)<=x.chain.days)=true:=decide_eq_true (by omega);have hi64:Yae ((i:Int)+1):=Yap (by omega) (by omega);have hat:=(Zv6 x.opn (i:Int) (by have:=hx.opnl;omega)).up;have hge:=Ymk (i:Int) x.opn 0;have hlen:=Zgb (Ygr x day) i;have e:sel0 (Ygr x day) (i+1)=if Ygr x day (i:Int)=true then sel0 (Ygr x day) i++[(i:Int)] else sel0 (Ygr x day) i:=rfl
   simp only[e]
   by_cases h1:(i:Int)=day
   ·have d1:((i:Int)==day)=true:=by simpa using h1
    have hp:Ygr x day (i:Int)=true:=by unfold Ygr;rw[d1];rfl
    rw[if_pos hp]
    cases ho:sel0 (Ygr x day) i with
    | nil=>exact⟨_,_,_,_,_,_,Ziz x day i,(by repeat(first|exact trivial|refine⟨by first|exact hlt|exact d1|exact hi64|rfl|omega|(simp;omega),?_⟩)),rfl⟩
    | cons y r =>
     rw[ho]at hlen;have hz:(y::r++[(i:Int)]).length*(8+1)<=140737488355328:=by simp only[List.length_append,List.length_cons,List.length_nil]at hlen ⊢;omega
     exact⟨_,_,_,_,_,_,Ziw x day i y r,(by repeat(first|exact trivial|refine⟨by first|exact hlt|exact d1|exact hi64|exact hz|rfl|omega,?_⟩)),rfl⟩
   ·have d1:((i:Int)==day)=false:=by simpa using h1
    by_cases h2:(i:Int)∈x.opn
    ·have d2:decide (Yd6 (i:Int) x.opn 0>=0)=true:=decide_eq_true (hge.2 h2);have hp:Ygr x day (i:Int)=true:=by unfold Ygr;rw[decide_eq_true h2];simp
     rw[if_pos hp]
     cases ho:sel0 (Ygr x day) i with
     | nil=>exact⟨_,_,_,_,_,_,Zix x day i (Yd6 (i:Int) x.opn 0),(by repeat(first|exact trivial|refine⟨by first|exact hlt|exact hat|exact d1|exact d2|exact hi64|rfl|omega|(simp;omega),?_⟩)),rfl⟩
     | cons y r =>
      rw[ho]at hlen;have hz:(y::r++[(i:Int)]).length*(8+1)<=140737488355328:=by simp only[List.length_append,List.length_cons,List.length_nil]at hlen ⊢;omega
      exact⟨_,_,_,_,_,_,Ziu x day i y r (Yd6 (i:Int) x.opn 0),(by repeat(first|exact trivial|refine⟨by first|exact hlt|exact hat|exact d1|exact d2|exact hi64|exact hz|rfl|omega,?_⟩)),rfl⟩
    ·have d2:decide (Yd6 (i:Int) x.opn 0>=0)=false:=decide_eq_false fun h=>h2 (hge.1 h);have hp:¬Ygr x day (i:Int)=true:=by unfold Ygr;rw[d1,decide_eq_false h2];simp
     rw[if_neg hp]
     cases ho:sel0 (Ygr x day) i with
     | nil=>exact⟨_,_,_,_,_,_,Zqa x day i (Yd6 (i:Int) x.opn 0),(by repeat(first|exact trivial|refine⟨by first|exact hlt|exact hat|exact d1|exact d2|exact hi64|rfl|omega,?_⟩)),rfl⟩
     | cons y r=>exact⟨_,_,_,_,_,_,Zp9 x day i y r (Yd6 (i:Int) x.opn 0),(by repeat(first|exact trivial|refine⟨by first|exact hlt|exact hat|exact d1|exact d2|exact hi64|rfl|omega,?_⟩)),rfl⟩
  ·have hend:decide ((((x.chain.days+1).toNat:Nat):Int)<=x.chain.days)=false:=decide_eq_false (by omega);show ∃ dec orc lorc ks ps e1 L1,_
   cases ho:sel0 (Ygr x day) (x.chain.days+1).toNat with
   | nil=>exact⟨_,_,_,_,_,_,_,Ziy x day _,⟨hend,trivial⟩,.inl ⟨rfl,rfl⟩,by unfold Yxw;rw[ho];rfl⟩
   | cons y r=>exact⟨_,_,_,_,_,_,_,Ziv x day _ y r,⟨hend,trivial⟩,.inl ⟨rfl,rfl⟩,by unfold Yxw;rw[ho];rfl⟩
 cases hw:Yxw x day with
 | nil =>
  have h:=(Yo8 (Ygr x day) (x.chain.days+1).toNat day).2 ⟨hday.1,by omega,by unfold Ygr;simp⟩;rw[show sel0 (Ygr x day) (x.chain.days+1).toNat=[] from hw]at h
  cases h
 | cons y r =>
  rw[hw]at hloop;refine Yaa (GH 33) Xdc (Zxu x day (x.chain.days+1).toNat y r) ?_
  repeat(first|exact trivial|refine⟨by first|exact hloop|rfl|omega,?_⟩)
end Go.Di
