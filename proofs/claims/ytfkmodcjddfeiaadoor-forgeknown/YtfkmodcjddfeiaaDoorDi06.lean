/- Part 6: an interpreter over plain data for this code, with the proof that it says what the model does, and the contracts of the functions. No condition. -/
import Derived.Test.YtfkmodcjddfeiaaDoorDi05
import Derived.MapKept
set_option linter.unusedVariables false
set_option linter.unusedSimpArgs false
/-
 DI,part V: maps of the call's own: made,written,looked up.
-/
namespace Go.Di
open Go.RowKit

def kV (k : K2) : Value := .agg #[.int .i64 k.1,.int .i64 k.2]
/-- The place of a key,and what lies there. -/
def idxK {α : Type} : List (K2 × α) → K2 → Nat → Option (Nat × α)
 | [],_,_ => none
 | (k',v) :: l,k,i => if k = k' then some (i,v) else idxK l k (i + 1)
theorem idx_look {α : Type} : ∀ (l : List (K2 × α)) (k : K2) (i : Nat),lookK l k = (idxK l k i).map (·.2)
 | [],_,_ => rfl
 | (k',v) :: l,k,i => by
  simp only [lookK,idxK]
  split
  ·rfl
  ·exact idx_look l k (i + 1)
theorem idx_none {α : Type} : ∀ (l : List (K2 × α)) (k : K2) (v : α) (i : Nat),idxK l k i = none → updK l k v = l ++ [(k,v)]
 | [],_,_,_,_ => rfl
 | (k',u) :: l,k,v,i,h => by
  simp only [idxK] at h
  split at h
  ·cases h
  ·rename_i hk
   simp only [updK,if_neg hk,List.cons_append]
   rw [idx_none l k v (i + 1) h]
theorem idx_some {α : Type} : ∀ (l : List (K2 × α)) (k : K2) (v : α) (i j : Nat) (u : α),idxK l k i = some (j,u) → i ≤ j ∧ l[j - i]? = some (k,u) ∧ updK l k v = l.set (j - i) (k,v)
 | [],_,_,_,_,_,h => by cases h
 | (k',u') :: l,k,v,i,j,u,h => by
  simp only [idxK] at h
  split at h
  ·rename_i hk
   subst hk
   simp only [Option.some.injEq,Prod.mk.injEq] at h
   obtain ⟨rfl,rfl⟩ := h
   simp [updK]
  ·rename_i hk
   obtain ⟨h1,h2,h3⟩ := idx_some l k v (i + 1) j u h
   have : j - i = (j - (i + 1)) + 1 := by omega
   refine ⟨by omega,by rw [this]; simpa using h2,?_⟩
   simp only [updK,if_neg hk]
   rw [this,h3,List.set_cons_succ]

section
variable {P : Program} {C : Cfg} {w0 w : World} {R0 R : Foot} {a : Act} {s : St} {β : Nat → Nat} {σ : Sig} {o : Oper} {wr : List (Key × Val)} {K : Act → World → Prop} {Q : Exit → Act → World → Prop}

theorem intT_of (hT : TabOk P C.tt) {t : TypeId} (h : intT C t = true) : ∃ ti k,C.tt t = some ti ∧ P.underlying t = some (.int k) ∧ ti.agg = false ∧ ti.sz = 1 := by
 unfold intT at h
 split at h
 ·rename_i ti hti
  simp only [Bool.and_eq_true] at h
  obtain ⟨h1,h2⟩ := h
  cases hk : ti.k <;> rw [hk] at h1 <;> try cases h1
  rename_i k
  have hu := (hT t ti hti).und
  rw [hk] at hu
  exact ⟨ti,k,hti,hu,by simp [TI.agg,hk],Nat.eq_of_beq_eq_true h2⟩
 ·cases h

structure KeyOk (P : Program) (kt : TypeId) : Prop where
 chk : ∀ (w : World) (e : Bool) (k : K2),(Instr.checkKey e 10000 kt (kV k)).run P w = .ok () w
 und : ∃ fs,P.underlying kt = some (.struct fs)
 eq : ∀ (w : World) (k k' : K2),(Op.equal kt (kV k) (kV k')).run P w = .ok (decide (k = k')) w

theorem keyT_of (hT : TabOk P C.tt) {kt : TypeId} (h : keyT C kt = true) : KeyOk P kt := by
 unfold keyT at h
 split at h
 ·rename_i tk htk
  simp only [Bool.and_eq_true] at h
  obtain ⟨⟨h1,h2⟩,h3⟩ := h
  have hsz := Nat.eq_of_beq_eq_true h2
  have hti := hT kt tk htk
  split at h3
  ·rename_i x y hk
   simp only [Bool.and_eq_true] at h3
   obtain ⟨tx,kx,x1,x2,x3,x4⟩ := intT_of hT h3.1
   obtain ⟨ty,ky,y1,y2,y3,y4⟩ := intT_of hT h3.2
   have hu := hti.und
   rw [hk] at hu
   obtain ⟨fields,u1,u2,u3,u4,u5⟩ := hu
   have hf2 : fields.size = 2 := u3
   obtain ⟨f0,f1,rfl⟩ : ∃ f0 f1,fields = #[f0,f1] := by
    obtain ⟨l⟩ := fields
    match l,hf2 with
    | [f0,f1],_ => exact ⟨f0,f1,rfl⟩
   have e0 := (u2 0 f0 rfl).1
   have e1 := (u2 1 f1 rfl).1
   simp only [List.getElem?_cons_zero,Option.some.injEq,Prod.mk.injEq] at e0
   simp only [List.getElem?_cons_succ,List.getElem?_cons_zero,Option.some.injEq,Prod.mk.injEq] at e1
   have n0 := u4 f0 (by simp)
   have n1 := u4 f1 (by simp)
   refine ⟨fun w e k => ?_,⟨_,u1⟩,fun w k k' => ?_⟩
   ·have p0 := part_run (P := P) (C := C) (w := w) (hT x tx x1) (off := 0) #[Value.int .i64 k.1,.int .i64 k.2] (by simp [x4]) (fun _ => x4)
    have p1 := part_run (P := P) (C := C) (w := w) (hT y ty y1) (off := 1) #[Value.int .i64 k.1,.int .i64 k.2] (by simp [y4]) (fun _ => y4)
    simp [x3] at p0
    simp [y3] at p1
    show (Instr.checkKey e (9998 + 1 + 1) kt (kV k)).run P w = _
    unfold Instr.checkKey
    simp only [Sem.run_bind,run_underlying u1,Result.andThen_ok,kV]
    have c0 : ∀ v,(Instr.checkKey e 9999 x (.int .i64 v)).run P w = .ok () w := by
     intro v
     show (Instr.checkKey e (9998 + 1) x (.int .i64 v)).run P w = _
     unfold Instr.checkKey
     simp [run_underlying x2]
    have c1 : ∀ v,(Instr.checkKey e 9999 y (.int .i64 v)).run P w = .ok () w := by
     intro v
     show (Instr.checkKey e (9998 + 1) y (.int .i64 v)).run P w = _
     unfold Instr.checkKey
     simp [run_underlying y2]
    have a1 := e0.1.symm
    have a2 := e0.2.symm
    have a3 := e1.1.symm
    have a4 := e1.2.symm
    simp [n0,n1,a1,a2,a3,a4,p0,p1,c0,c1]
   ·have := (hti.eqok h1).2 w [k.1,k.2] [k'.1,k'.2] (by simp [hsz]) (by simp [hsz])
    simp only [List.map_cons,List.map_nil] at this
    rw [kV,kV,this]
    congr 1
    simp only [eqI,Bool.and_true]
    obtain ⟨k1,k2⟩ := k
    obtain ⟨k1',k2'⟩ := k'
    simp only [Prod.mk.injEq]
    by_cases e1 : k1 = k1' <;> by_cases e2 : k2 = k2' <;> simp [e1,e2]
  ·cases h3
 ·cases h

/-! ### The model's search,update and look-up -/
abbrev Ents {α : Type} (V : α → Value) (es : List MapEntry) (l : List (K2 × α)) : Prop := es.map (fun x => (x.key,x.val)) = l.map (fun p => (kV p.1,V p.2))

theorem find_run {α : Type} {V : α → Value} {kt : TypeId} (hk : KeyOk P kt) (k : K2) : ∀ (es : List MapEntry) (l : List (K2 × α)) (i : Nat),Ents V es l → (Instr.findAsking kt (kV k) es i).run P w = .ok ((idxK l k i).map fun p => (p.1,V p.2)) w
 | [],[],i,_ => by simp [Instr.findAsking,idxK]
 | x :: es,(k',v) :: l,i,h => by
  simp only [Ents,List.map_cons,List.cons.injEq,Prod.mk.injEq] at h
  obtain ⟨⟨h1,h2⟩,h3⟩ := h
  unfold Instr.findAsking
  simp only [Sem.run_bind,h1,hk.eq,Result.andThen_ok,idxK]
  by_cases e : k = k'
  ·simp [e,h2]
  ·simp only [e,decide_false,Bool.false_eq_true,if_false]
   exact find_run hk k es l (i + 1) h3
 | [],_ :: _,_,h => by cases h
 | _ :: _,[],_,h => by cases h
theorem findKey_run {α : Type} {V : α → Value} {kt : TypeId} (hk : KeyOk P kt) (k : K2) (es : List MapEntry) (l : List (K2 × α)) (h : Ents V es l) : (Instr.findKey kt (kV k) es).run P w = .ok ((idxK l k 0).map fun p => (p.1,V p.2)) w := by
 obtain ⟨fs,hu⟩ := hk.und
 unfold Instr.findKey
 simp only [Sem.run_bind,run_underlying hu,Result.andThen_ok]
 cases es with
 | nil =>
  cases l with
  | nil => simp [Instr.findNow,idxK]
  | cons p l => cases h
 | cons x es => simpa [Instr.findNow,Instr.sameNow] using find_run hk k (x :: es) l 0 h
theorem same_key (k : K2) : Instr.sameBits 10000 (kV k) (kV k) = true := by
 show Instr.sameBits (9998 + 1 + 1) (kV k) (kV k) = true
 simp [Instr.sameBits,kV]

/-- A map's entries: their order of birth. -/
def Born (es : Array MapEntry) (clock : Nat) : Prop := (∀ (i : Nat) (x : MapEntry),es[i]? = some x → x.born < clock) ∧ ∀ (i j : Nat) (x y : MapEntry),es[i]? = some x → es[j]? = some y → i < j → x.born < y.born

theorem update_run {α : Type} {V : α → Value} {t kt et : TypeId} (ht : P.underlying t = some (.map kt et)) (hk : KeyOk P kt) {r clock : Nat} {es : Array MapEntry} {l : List (K2 × α)} (hb : w.heap[r]? = some (.map es clock)) (hborn : Born es clock) (he : Ents V es.toList l) (k : K2) (v : α) :
  ∃ es' clock',(Instr.mapUpdate t (.map (some r)) (kV k) (V v)).run P w = .ok () { w with heap := w.heap.setIfInBounds r (.map es' clock') } ∧ Born es' clock' ∧ Ents V es'.toList (updK l k v) := by
 have hf := findKey_run (w := w) hk k es.toList l he
 have hc := hk.chk w false k
 have hlen : es.toList.length = l.length := by have := congrArg List.length he; simpa using this
 cases hi : idxK l k 0 with
 | none =>
  rw [hi] at hf
  refine ⟨es.push { key := kV k,val := V v,born := clock },clock + 1,?_,⟨fun i x hx => ?_,fun i j x y hx hy hij => ?_⟩,?_⟩
  ·unfold Instr.mapUpdate
   simp [run_underlying ht,MapKept.run_getObj_map hb,hc,hf,MapKept.run_setObj_map _ hb]
  ·rw [Array.getElem?_push] at hx
   split at hx
   ·cases hx; exact Nat.lt_succ_self _
   ·exact Nat.lt_succ_of_lt (hborn.1 i x hx)
  ·rw [Array.getElem?_push] at hx hy
   have hjs : j ≤ es.size := by
    split at hy
    ·omega
    ·have := (Array.getElem?_eq_some_iff.1 hy).1; omega
   rw [if_neg (by omega)] at hx
   split at hy
   ·cases hy; exact hborn.1 i x hx
   ·exact hborn.2 i j x y hx hy hij
  ·rw [idx_none l k v 0 hi]
   simp only [Ents,Array.toList_push,List.map_append,he,List.map_cons,List.map_nil]
 | some p =>
  obtain ⟨j,u⟩ := p
  rw [hi] at hf
  obtain ⟨_,h2,h3⟩ := idx_some l k v 0 j u hi
  simp only [Nat.sub_zero] at h2 h3
  have hjl : j < l.length := (List.getElem?_eq_some_iff.1 h2).1
  have hje : j < es.size := by rw [← Array.length_toList]; omega
  have hkey : es[j].key = kV k := by
   have h4 := congrArg (fun m => m[j]?) he
   simp only [List.getElem?_map,h2,Option.map_some] at h4
   rw [List.getElem?_eq_getElem (by rw [Array.length_toList]; exact hje)] at h4
   simp only [Option.map_some,Option.some.injEq,Prod.mk.injEq] at h4
   simpa using h4.1
  refine ⟨es.modify j fun e => { e with key := kV k,val := V v },clock,?_,⟨fun i x hx => ?_,fun i j' x y hx hy hij => ?_⟩,?_⟩
  ·unfold Instr.mapUpdate
   have hs : (Instr.keyThatStays (((es[j]?).map (·.key)).getD (kV k)) (kV k)).run P w = .ok (kV k) w := by
    rw [Array.getElem?_eq_getElem hje]
    simp only [Option.map_some,Option.getD_some,hkey]
    simp [Instr.keyThatStays,same_key]
   simp only [Option.map_some] at hf
   simp [run_underlying ht,MapKept.run_getObj_map hb,hc,hf,hs,MapKept.run_setObj_map _ hb]
  ·rw [Array.getElem?_modify] at hx
   split at hx
   ·obtain ⟨y,hy,rfl⟩ := Option.map_eq_some_iff.1 hx
    exact hborn.1 _ y hy
   ·exact hborn.1 i x hx
  ·have hget : ∀ (i : Nat) (x : MapEntry),(es.modify j fun e => { e with key := kV k,val := V v })[i]? = some x → ∃ y,es[i]? = some y ∧ x.born = y.born := by
    intro i x hx
    rw [Array.getElem?_modify] at hx
    split at hx
    ·obtain ⟨y,hy,rfl⟩ := Option.map_eq_some_iff.1 hx
     exact ⟨y,hy,rfl⟩
    ·exact ⟨x,hx,rfl⟩
   obtain ⟨x',hx',ex⟩ := hget i x hx
   obtain ⟨y',hy',ey⟩ := hget j' y hy
   rw [ex,ey]
   exact hborn.2 i j' x' y' hx' hy' hij
  ·rw [h3]
   refine List.ext_getElem? fun i => ?_
   have h4 := congrArg (fun m => m[i]?) he
   simp only [List.getElem?_map,Array.getElem?_toList] at h4 ⊢
   rw [Array.getElem?_modify,List.getElem?_set]
   by_cases e : j = i
   ·subst e
    rw [if_pos rfl,if_pos rfl,if_pos hjl,Array.getElem?_eq_getElem hje]
    rfl
   ·rw [if_neg e,if_neg e]
    exact h4

theorem lookup_run {α : Type} {V : α → Value} {t kt et : TypeId} (ht : P.underlying t = some (.map kt et)) (hk : KeyOk P kt) {z : Value} (hz : (zeroValue et).run P w = .ok z w) {r clock : Nat} {es : Array MapEntry} {l : List (K2 × α)} (hb : w.heap[r]? = some (.map es clock)) (he : Ents V es.toList l) (k : K2) (ok : Bool) :
  (Instr.lookup t (.map (some r)) (kV k) ok).run P w = .ok (if ok = true then .tuple #[((lookK l k).map V).getD z,.bool (lookK l k).isSome] else ((lookK l k).map V).getD z) w := by
 have hf := findKey_run (w := w) hk k es.toList l he
 have hc := fun e => hk.chk w e k
 rw [idx_look l k 0]
 unfold Instr.lookup
 cases hi : idxK l k 0 with
 | none =>
  rw [hi] at hf
  cases ok <;> simp [run_underlying ht,MapKept.run_getObj_map hb,hc,hf,hz]
 | some p =>
  rw [hi] at hf
  simp only [Option.map_some] at hf
  cases ok <;> simp [run_underlying ht,MapKept.run_getObj_map hb,hc,hf]

/-! ### States -/
theorem far_plain (hp : C.plain) : Far C w0 w s β σ R := ⟨by rw [hp.2.2]; exact Nat.zero_le _,fun b hb => absurd hb (hp.1 b),fun b hb => absurd hb (hp.2.1 b)⟩

theorem Inv.newMap (h : Inv C w0 R0 a w s β σ R) (hp : C.plain) (d : Nat) (hd : d < C.nt) (hfx : d ∉ C.fixed) (hm : s.mp d = none) (ho : s.ob d = none) (m : Mp) (h0 : MapAt (w.alloc (.map #[] 0)) m w.heap.size) :
  Inv C w0 R0 (a.put (some d) (.map (some w.heap.size))) (w.alloc (.map #[] 0)) ((s.set (.mp d) (.mp (some m))).set (.tmp d) (.d (.mref d))) β (fun i => if i = d then (some ⟨w.heap.size,0,none⟩,0) else σ i) R := by
 have h1 : Inv C w0 R0 a (w.alloc (.map #[] 0)) s β σ R := h.later (below_alloc1 _ _) (fun _ _ hr => hr) (fun b o hr => ⟨by have := (h.dom b o hr).1; simp; omega,.inl hr⟩)
 have hlt0 := h.below.size
 have hne : ∀ k o,s.ob k = some o → k ≠ d := fun k o hk e => by rw [e,ho] at hk; cases hk
 have hnm : ∀ k o,s.mp k = some o → k ≠ d := fun k o hk e => by rw [e,hm] at hk; cases hk
 have hg : Grows β β σ (fun i => if i = d then (some ⟨w.heap.size,0,none⟩,0) else σ i) s (s.set (.mp d) (.mp (some m))) :=
  ⟨fun i b hb => ⟨⟨b,hb⟩,rfl⟩,fun k o hk => ⟨o,hk,Nat.le_refl _,fun _ => if_neg (hne k o hk)⟩,fun k o hk => ⟨⟨o,by rw [mp_set_mp,if_neg (fun e => hnm k o hk e.symm)]; exact hk⟩,if_neg (hnm k o hk)⟩⟩
 have h2 : Inv C w0 R0 a (w.alloc (.map #[] 0)) (s.set (.mp d) (.mp (some m))) β (fun i => if i = d then (some ⟨w.heap.size,0,none⟩,0) else σ i) R := by
  refine ⟨h1.below,h1.defers,h1.fix,h1.nt,h1.sub,h1.dom,h1.glob,fun i => RelT.grow hg _ _ (h1.tmps i),fun i b hb => ?_,h1.inj,fun k o hk => ?_,far_plain hp,⟨fun i x hx => ?_,fun i x hx => ?_,fun i j x y hx hy e => ?_⟩⟩
  ·obtain ⟨p1,⟨ar,e2,p2,p3,p4,p5⟩,p6⟩ := h1.box i b hb
   exact ⟨p1,⟨ar,e2,p2,p3,fun hf => (p4 hf).imp (RelTC.grow hg),p5⟩,p6⟩
  ·have hk' : s.ob k = some o := hk
   obtain ⟨p1,p2⟩ := h1.obj k o hk'
   have e1 := hne k o hk'
   refine ⟨by simp only [if_neg e1]; exact p1,fun hl => ?_⟩
   simp only [if_neg e1] at hl ⊢
   obtain ⟨g,off,r1,r2,r3,r4,r5,r6⟩ := p2 hl
   refine ⟨g,off,r1,r2,r3,r4,fun k'' o'' ho'' hne' hl' a' ha' => ?_,r6⟩
   have ho3 : s.ob k'' = some o'' := ho''
   simp only [if_neg (hne k'' o'' ho3)] at hl' ha'
   exact r5 k'' o'' ho3 hne' hl' a' ha'
  ·rw [mp_set_mp] at hx
   by_cases e : d = i
   ·subst e
    rw [if_pos rfl] at hx
    cases hx
    exact ⟨w.heap.size,by simp,hlt0,fun o hr => by have := (h.dom _ o hr).1; omega,h0⟩
   ·rw [if_neg e] at hx
    obtain ⟨g,q1,q2,q3,q4⟩ := h1.mps.ok i x hx
    exact ⟨g,by rw [if_neg (fun x => e x.symm)]; exact q1,q2,q3,q4⟩
  ·rw [mp_set_mp] at hx
   by_cases e : d = i
   ·subst e; exact ho
   ·rw [if_neg e] at hx; exact h1.mps.sep i x hx
  ·rw [mp_set_mp] at hx hy
   have hlt : ∀ k z,s.mp k = some z → (σ k).1 ≠ some ⟨w.heap.size,0,none⟩ := fun k z hz e => by
    obtain ⟨g,q1,_,_,q4⟩ := h.mps.ok k z hz
    obtain ⟨es,c,hb⟩ := q4.obj
    have := (Array.getElem?_eq_some_iff.1 hb).1
    rw [q1] at e
    cases e
    omega
   by_cases e1 : d = i
   ·by_cases e2 : d = j
    ·exact e1.symm.trans e2
    ·rw [if_neg e2] at hy
     rw [if_pos e1.symm,if_neg (fun x => e2 x.symm)] at e
     exact absurd e.symm (hlt j y hy)
   ·by_cases e2 : d = j
    ·rw [if_neg e1] at hx
     rw [if_neg (fun x => e1 x.symm),if_pos e2.symm] at e
     exact absurd e (hlt i x hx)
    ·rw [if_neg e1] at hx
     rw [if_neg e2] at hy
     rw [if_neg (fun x => e1 x.symm),if_neg (fun x => e2 x.symm)] at e
     exact h1.mps.inj i j x y hx hy e
 refine h2.put d hd hfx ⟨⟨m,by simp⟩,⟨w.heap.size,0,none⟩,by simp,rfl⟩

theorem Inv.updMap (h : Inv C w0 R0 a w s β σ R) (hp : C.plain) (i : Nat) {m m' : Mp} (hi : s.mp i = some m) {g : Nat} (hs : (σ i).1 = some ⟨g,0,none⟩) (o : Obj) (h0 : MapAt { w with heap := w.heap.setIfInBounds g o } m' g) :
  Inv C w0 R0 a { w with heap := w.heap.setIfInBounds g o } (s.set (.mp i) (.mp (some m'))) β σ R := by
 obtain ⟨g',q1,q2,q3,q4⟩ := h.mps.ok i m hi
 rw [hs] at q1
 cases q1
 obtain ⟨es,c,hb⟩ := q4.obj
 have hoth : ∀ k,k ≠ g → ({ w with heap := w.heap.setIfInBounds g o } : World).heap[k]? = w.heap[k]? := fun k hk => by simp [Array.getElem?_setIfInBounds_ne (Ne.symm hk)]
 have hsz : ({ w with heap := w.heap.setIfInBounds g o } : World).heap.size = w.heap.size := by simp
 obtain ⟨W,hW⟩ : ∃ W : World,W = { w with heap := w.heap.setIfInBounds g o } := ⟨_,rfl⟩
 have hr : W.os = w.os ∧ W.tape = w.tape ∧ W.output = w.output := by rw [hW]; exact ⟨rfl,rfl,rfl⟩
 rw [← hW] at hoth hsz h0 ⊢
 have hk : Keeps R R w W := by
  refine ⟨fun _ _ h => h,fun b o' u hr' hc => ?_,fun b es c hr' hm => ?_⟩
  ·have hne : b ≠ g := fun e => q3 o' (e ▸ hr')
   simp only [World.cell?] at hc ⊢
   rw [hoth b hne]; exact hc
  ·rw [hoth b (fun e => q3 0 (e ▸ hr'))]; exact hm
 have hg : Grows β β σ σ s (s.set (.mp i) (.mp (some m'))) := ⟨fun j b hj => ⟨⟨b,hj⟩,rfl⟩,fun k o hk => ⟨o,hk,Nat.le_refl _,fun _ => rfl⟩,fun k z hz => by
  refine ⟨?_,rfl⟩
  rw [mp_set_mp]
  by_cases e : i = k
  ·exact ⟨_,if_pos e⟩
  ·exact ⟨z,by rw [if_neg e]; exact hz⟩⟩
 refine ⟨h.below.trans ⟨hr.1,hr.2.1,hr.2.2,by rw [hsz]; exact Nat.le_refl _,fun k hk' => hoth k (by omega)⟩,h.defers,h.fix,h.nt,h.sub,fun b o hr' => by rw [hsz]; exact h.dom b o hr',fun g cs hg' => Rel.keep hk _ _ (h.glob g cs hg'),
  fun j => RelT.grow hg _ _ (RelT.world hk _ _ (h.tmps j)),fun j b hj => ?_,h.inj,fun k o' ho' => ?_,far_plain hp,⟨fun j x hx => ?_,fun j x hx => ?_,fun j j' x y hx hy e => ?_⟩⟩
 ·obtain ⟨p1,⟨ar,e2,p2,p3,p4,p5⟩,p6⟩ := h.box j b hj
  have hne : β j ≠ g := fun e => by rw [e,hb] at p2; cases p2
  exact ⟨p1,⟨ar,e2,by rw [hoth _ hne]; exact p2,fun x => (p3 x).imp (RelC.keep hk),fun x => ((p4 x).imp (RelTC.world hk)).imp (RelTC.grow hg),p5⟩,p6⟩
 ·obtain ⟨p1,p2⟩ := h.obj k o' ho'
  refine ⟨SlR.keep hk (fun x vs hx => RelE.keep hk _ x vs hx) p1,fun hl => ?_⟩
  obtain ⟨g1,off,r1,r2,⟨ar,e2,r3,r3'⟩,r4,r5,r6⟩ := p2 hl
  have hne : g1 ≠ g := fun e => by rw [e,hb] at r3; cases r3
  exact ⟨g1,off,r1,r2,⟨ar,e2,by rw [hoth _ hne]; exact r3,r3'⟩,r4,r5,r6⟩
 ·rw [mp_set_mp] at hx
  by_cases e : i = j
  ·subst e
   rw [if_pos rfl] at hx
   cases hx
   exact ⟨g,hs,q2,q3,h0⟩
  ·rw [if_neg e] at hx
   obtain ⟨g1,r1,r2,r3,r4⟩ := h.mps.ok j x hx
   have hne : g1 ≠ g := fun e' => e (h.mps.inj i j m x hi hx (by rw [hs,r1,e']))
   exact ⟨g1,r1,r2,r3,r4.keep (hoth _ hne)⟩
 ·rw [mp_set_mp] at hx
  by_cases e : i = j
  ·subst e; exact h.mps.sep i m hi
  ·rw [if_neg e] at hx; exact h.mps.sep j x hx
 ·rw [mp_set_mp] at hx hy
  have hx' : ∃ z,s.mp j = some z := by
   by_cases e : i = j
   ·exact ⟨m,e ▸ hi⟩
   ·rw [if_neg e] at hx; exact ⟨x,hx⟩
  have hy' : ∃ z,s.mp j' = some z := by
   by_cases e : i = j'
   ·exact ⟨m,e ▸ hi⟩
   ·rw [if_neg e] at hy; exact ⟨y,hy⟩
  obtain ⟨x',hx'⟩ := hx'
  obtain ⟨y',hy'⟩ := hy'
  exact h.mps.inj j j' x' y' hx' hy' e

/-! ### The operations -/
theorem mapTy_of (hT : TabOk P C.tt) {t kt et : TypeId} {sp : Bool} (h : mapTy C t = some (kt,et,sp)) : P.underlying t = some (.map kt et) ∧ KeyOk P kt ∧ ∀ w,(zeroValue et).run P w = .ok (match sp with | true => .agg #[.int .i64 0,.int .i64 0] | false => .bool false) w := by
 unfold mapTy at h
 split at h
 ·rename_i ti hti
  have hu := (hT t ti hti).und
  split at h
  ·rename_i kt' et' sp' hk
   rw [hk] at hu
   split at h
   ·rename_i te hkey hte
    obtain ⟨i,z,j1,j2,j3,j4,j5,j6⟩ := (hT _ te hte).info
    have hz : ∀ w,(zeroValue et').run P w = .ok z w := fun w => by simp [zeroValue,typeInfo,j1,j4]
    split at h
    ·split at h
     ·rename_i hz0 _ hag
      cases h
      refine ⟨hu,keyT_of hT hkey,fun w => ?_⟩
      rw [hz w]
      have h6 := j6 (fun _ _ => False) w
      rw [hz0] at h6
      obtain ⟨v0,l,e,h0,h6⟩ := all2_cons h6
      obtain ⟨v1,l1,rfl,h1,h6⟩ := all2_cons h6
      obtain rfl := all2_nil h6
      have hv0 : v0 = .int .i64 0 := h0
      have hv1 : v1 = .int .i64 0 := h1
      subst hv0 hv1
      have hc : z.cells = #[.int .i64 0,.int .i64 0] := by rw [← Array.toArray_toList (xs := z.cells),e]
      cases z <;> simp only [Value.cells] at hc <;> first | (subst hc; rfl) | (simp at hc)
     ·cases h
    ·split at h
     ·rename_i hz0 _ hag
      cases h
      refine ⟨hu,keyT_of hT hkey,fun w => ?_⟩
      rw [hz w]
      have h6 := j6 (fun _ _ => False) w
      rw [hz0] at h6
      obtain ⟨v0,l,e,h0,h6⟩ := all2_cons h6
      obtain rfl := all2_nil h6
      have hv0 : v0 = .bool false := h0
      subst hv0
      have hc := (hT _ te hte).zer i z j1 j4 (by assumption)
      rw [hc] at e
      simp at e
      rw [e]
     ·cases h
   ·cases h
  ·cases h
 ·cases h

def spV (s : Span) : Value := .agg #[.int .i64 s.lo,.int .i64 s.hi]
theorem key2_of {d : D} {k : K2} {v : Value} (h : key2 d = some k) (hr : RelT β σ s R w d v) : v = kV k := by
 unfold key2 at h
 split at h
 ·cases h
  obtain ⟨vs,rfl,hr⟩ := hr
  obtain ⟨v0,l,e,h0,hr⟩ := all2_cons hr
  obtain ⟨v1,l1,rfl,h1,hr⟩ := all2_cons hr
  obtain rfl := all2_nil hr
  have h0 : v0 = .int .i64 _ := h0
  have h1 : v1 = .int .i64 _ := h1
  rw [← Array.toArray_toList (xs := vs),e,h0,h1]
  rfl
 ·cases h
theorem span2_of {d : D} {k : Span} {v : Value} (h : span2 d = some k) (hr : RelT β σ s R w d v) : v = spV k := by
 unfold span2 at h
 split at h
 ·cases h
  obtain ⟨vs,rfl,hr⟩ := hr
  obtain ⟨v0,l,e,h0,hr⟩ := all2_cons hr
  obtain ⟨v1,l1,rfl,h1,hr⟩ := all2_cons hr
  obtain rfl := all2_nil hr
  have h0 : v0 = .int .i64 _ := h0
  have h1 : v1 = .int .i64 _ := h1
  rw [← Array.toArray_toList (xs := vs),e,h0,h1]
  rfl
 ·cases h

theorem makeMap_ok (hT : TabOk P C.tt) (hI : Inv C w0 R0 a w s β σ R) (hK : ∀ a' w',Holds C w0 R0 a' w' (s.apply wr) → K a' w') {t : TypeId} (hop : o.op = .makeMap t none) {dec : List (Nat × Bool)} {orc : List (Nat × D)}
  (h : (sem C dec orc o).Ok s wr) : o.wp P a w K Q := by
 unfold sem at h
 rw [hop] at h
 simp only at h
 split at h
 ·rename_i kt et sp d hty hd
  split at h
  ·rename_i hok
   simp only [M.Ok] at h
   split at h
   ·rename_i hm
    simp only [M.Ok] at h
    split at h
    ·rename_i hob
     obtain ⟨hp,wr1,rfl,wr2,rfl,hw⟩ := h
     have hw : wr2 = [] := hw
     subst hw
     have h0 : MapAt (w.alloc (.map #[] 0)) (emptyMp sp) w.heap.size := by
      refine ⟨#[],0,heap_alloc_new _ _,fun i x hx => by simp at hx,fun i j x y hx => by simp at hx,?_⟩
      cases sp <;> rfl
     refine wp_value (w' := w.alloc (.map #[] 0)) (v := .map (some w.heap.size)) ?_ ?_
     ·simp [execOp,hop,Instr.makeMap]
     ·rw [hd]
      exact hK _ _ ⟨_,_,_,hI.newMap hp d (okT_lt hok) (okT_fx hok) (mp_get hm) (ob_none hob) _ h0⟩
    ·exact h.elim
   ·exact h.elim
  ·exact h.elim
 ·exact h.elim

theorem upd_ok (hT : TabOk P C.tt) (hI : Inv C w0 R0 a w s β σ R) (hK : ∀ a' w',Holds C w0 R0 a' w' (s.apply wr) → K a' w') {t : TypeId} {dm dk dx : D} {vm vk vx : Value} (h1 : RelT β σ s R w dm vm) (h2 : RelT β σ s R w dk vk) (h3 : RelT β σ s R w dx vx)
  (hop : (execOp a.eval o).run P w = ((Instr.mapUpdate t vm vk vx).run P w).andThen fun _ w' => .ok .skip w') (h : (updD C o.dst t dm dk dx).Ok s wr) : o.wp P a w K Q := by
 have go : ∀ {α : Type} {V : α → Value} {i : Nat} {m m' : Mp} {k : K2} {v : α} {l : List (K2 × α)} {kt et : TypeId} {wr' : List (Key × Val)},s.mp i = some m → (∃ ad,(σ i).1 = some ad ∧ vm = .map (some ad.block)) → P.underlying t = some (.map kt et) → KeyOk P kt → vk = kV k → vx = V v →
   (∀ w r,MapAt w m r → ∃ es clock,w.heap[r]? = some (.map es clock) ∧ Born es clock ∧ Ents V es.toList l) → (∀ w r es clock,w.heap[r]? = some (.map es clock) → Born es clock → Ents V es.toList (updK l k v) → MapAt w m' r) → C.plain → wr = (.mp i,.mp (some m')) :: wr' → (setTmp C o.dst .undef).Ok s wr' → o.wp P a w K Q := by
  intro α V i m m' k v l kt et wr' hm hvm hu hko hvk hvx hin hout hp hwr hst
  obtain ⟨ad,hsi,hvm⟩ := hvm
  obtain ⟨g,q1,q2,q3,q4⟩ := hI.mps.ok i m hm
  rw [q1] at hsi
  cases hsi
  obtain ⟨es,clock,e1,e2,e3⟩ := hin w g q4
  obtain ⟨es',clock',r1,r2,r3⟩ := update_run (P := P) (w := w) hu hko e1 e2 e3 k v
  have hlt : g < w.heap.size := (Array.getElem?_eq_some_iff.1 e1).1
  have h0 : MapAt { w with heap := w.heap.setIfInBounds g (.map es' clock') } m' g := hout _ g es' clock' (by simp [hlt]) r2 r3
  refine wp_skipv (w' := { w with heap := w.heap.setIfInBounds g (.map es' clock') }) (by rw [hop,hvm,hvk,hvx,r1]; rfl) ?_
  have hI' := hI.updMap hp i hm q1 (.map es' clock') h0
  rw [hwr] at hK
  exact hK _ _ ⟨β,σ,R,setTmp_ok hI' hst (d := .undef) (v := undef) trivial⟩
 unfold updD at h
 split at h
 ·rename_i i
  simp only [M.Ok] at h
  split at h
  ·rename_i m hm
   have hm := mp_get hm
   have hvm := h1.2
   split at h
   ·rename_i kt et k hty hkk
    obtain ⟨hu,hko,hz⟩ := mapTy_of hT hty
    split at h
    ·rename_i l sp hsp hm
     obtain ⟨hp,wr',hwr,hst⟩ := h
     exact go (V := spV) (v := sp) (l := l) hm hvm hu hko (key2_of hkk h2) (span2_of hsp h3) (fun w r ⟨es,clock,x1,x2,x3,x4⟩ => ⟨es,clock,x1,⟨x2,x3⟩,x4⟩) (fun w r es clock x1 x2 x3 => ⟨es,clock,x1,x2.1,x2.2,x3⟩) hp hwr hst
    ·exact h.elim
   ·rename_i kt et k hty hkk
    obtain ⟨hu,hko,hz⟩ := mapTy_of hT hty
    split at h
    ·rename_i l bb hm
     obtain ⟨hp,wr',hwr,hst⟩ := h
     exact go (V := Value.bool) (v := bb) (l := l) hm hvm hu hko (key2_of hkk h2) h3 (fun w r ⟨es,clock,x1,x2,x3,x4⟩ => ⟨es,clock,x1,⟨x2,x3⟩,x4⟩) (fun w r es clock x1 x2 x3 => ⟨es,clock,x1,x2.1,x2.2,x3⟩) hp hwr hst
    ·exact h.elim
   ·exact h.elim
  ·exact h.elim
 ·exact h.elim

theorem look_ok (hT : TabOk P C.tt) (hI : Inv C w0 R0 a w s β σ R) (hK : ∀ a' w',Holds C w0 R0 a' w' (s.apply wr) → K a' w') {t : TypeId} {dm dk : D} {vm vk : Value} {ok : Bool} (h1 : RelT β σ s R w dm vm) (h2 : RelT β σ s R w dk vk)
  (hop : (execOp a.eval o).run P w = ((Instr.lookup t vm vk ok).run P w).andThen fun v w' => .ok (.value v) w') (h : (lookD C o.dst t dm dk ok).Ok s wr) : o.wp P a w K Q := by
 have hmap : ∀ {k : Mp → M} {wr : List (Key × Val)},(mapOf dm k).Ok s wr → ∃ m r,(k m).Ok s wr ∧ vm = .map (some r) ∧ MapAt w m r := by
  intro k wr h
  unfold mapOf at h
  clear hop
  split at h
  ·rename_i i _
   simp only [M.Ok] at h
   split at h
   ·rename_i m hm
    obtain ⟨_,ad,hs,hv⟩ := h1
    obtain ⟨g,q1,q2,q3,q4⟩ := hI.mps.ok i m (mp_get hm)
    rw [q1] at hs
    cases hs
    exact ⟨m,g,h,hv,q4⟩
   ·exact h.elim
  ·rename_i m _
   obtain ⟨r,es,clock,hv,_,hb,x1,x2,x3⟩ := h1
   exact ⟨m,r,h,hv,es,clock,hb,x1,x2,x3⟩
  ·exact h.elim
 unfold lookD at h
 obtain ⟨m,r,h,hvm,hat⟩ := hmap h
 split at h
 ·rename_i kt et k hty hkk
  obtain ⟨hu,hko,hz⟩ := mapTy_of hT hty
  split at h
  ·rename_i l _
   obtain ⟨es,clock,x1,x2,x3,x4⟩ := hat
   have hrun := lookup_run (P := P) (w := w) (V := spV) hu hko (hz w) x1 x4 k true
   refine wp_value (w' := w) (by rw [hop,hvm,key2_of hkk h2,hrun]; rfl) (hK _ _ ⟨β,σ,R,setTmp_ok hI h ?_⟩)
   refine ⟨_,rfl,?_,rfl,trivial⟩
   cases hl : lookK l k with
   | none => exact ⟨_,rfl,rfl,rfl,trivial⟩
   | some v => exact ⟨_,rfl,rfl,rfl,trivial⟩
  ·exact h.elim
 ·rename_i kt et k hty hkk
  obtain ⟨hu,hko,hz⟩ := mapTy_of hT hty
  split at h
  ·rename_i l _
   obtain ⟨es,clock,x1,x2,x3,x4⟩ := hat
   have hrun := lookup_run (P := P) (w := w) (V := Value.bool) hu hko (hz w) x1 x4 k false
   refine wp_value (w' := w) (by rw [hop,hvm,key2_of hkk h2,hrun]; rfl) (hK _ _ ⟨β,σ,R,setTmp_ok hI h ?_⟩)
   cases hl : lookK l k with
   | none => rfl
   | some v => rfl
  ·exact h.elim
 ·exact h.elim
end
end Go.Di

/-
 DI,part J: soundness of function values and of calls; all operations.
-/
namespace Go.Di
open Go.RowKit

section
variable {P : Program} {C : Cfg} {w0 w : World} {R0 R : Foot} {a : Act} {s : St} {β : Nat → Nat} {σ : Sig} {o : Oper} {wr : List (Key × Val)} {K : Act → World → Prop} {Q : Exit → Act → World → Prop}

theorem resCell_ok2 {s' : St} (hs : ∀ k,s (.obj k) = s' (.obj k)) (hI : Inv C w0 R0 a w s' β σ R) {k : D → M} : ∀ {d : D} {v : Value},(resCell d k).Ok s wr → RelTC β σ s' R w d v → ∃ d',(k d').Ok s wr ∧ RelC R w d' v
 | .own i n,v,h,hr => by
  simp only [resCell,M.Ok] at h
  split at h
  ·rename_i o ho
   exact ⟨_,h.2,obj_sl hI (ob_of (by rw [← hs]; exact ho)) h.1 hr⟩
  ·exact h.elim
 | .int _ _,_,h,hr => ⟨_,h,hr⟩ | .bool _,_,h,hr => ⟨_,h,hr⟩ | .nil,_,h,hr => ⟨_,h,hr⟩ | .nilmap,_,h,hr => ⟨_,h,hr⟩ | .nilfn,_,h,hr => ⟨_,h,hr⟩
 | .sl _ _ _,_,h,hr => ⟨_,h,hr⟩ | .map _,_,h,hr => ⟨_,h,hr⟩ | .fn _ _ _,_,h,hr => ⟨_,h,hr⟩ | .self _ _ _,_,h,hr => ⟨_,h,hr⟩
 | .undef,_,h,_ => h.elim | .ptr _ _,_,h,_ => h.elim | .ref _ _,_,h,_ => h.elim | .agg _,_,h,_ => h.elim | .tup _,_,h,_ => h.elim | .mref _,_,h,_ => h.elim | .row _ _,_,h,_ => h.elim
theorem resCells_ok2 {s' : St} (hs : ∀ k,s (.obj k) = s' (.obj k)) (hI : Inv C w0 R0 a w s' β σ R) : ∀ {cs : List D} {k : List D → M} {vs : List Value},(resCells cs k).Ok s wr → All2 (RelTC β σ s' R w) cs vs → ∃ cs',(k cs').Ok s wr ∧ All2 (RelC R w) cs' vs
 | [],k,[],h,_ => ⟨[],h,trivial⟩
 | d :: cs,k,v :: vs,h,⟨h1,h2⟩ => by
  obtain ⟨d',h3,h4⟩ := resCell_ok2 hs hI h h1
  obtain ⟨cs',h5,h6⟩ := resCells_ok2 hs hI h3 h2
  exact ⟨d' :: cs',h5,h4,h6⟩
 | [],_,_ :: _,_,h => h.elim
 | _ :: _,_,[],_,h => h.elim

theorem set_box_obj (s : St) (i k : Nat) (v : Val) : (s.set (.box i) v) (.obj k) = s (.obj k) := rfl

theorem freeze_ok : ∀ {l : List D} {seen : List Nat} {acc : List (List D)} {k : List (List D) → M} {wr : List (Key × Val)} {cur : St} {R : Foot} {vs avs : List Value},(freezeAll seen l acc k).Ok s wr →
  (∀ k,s (.obj k) = cur (.obj k)) → (∀ i,seen.all (fun j => !(Nat.beq j i)) = true → s (.box i) = cur (.box i)) → Inv C w0 R0 a w cur β σ R → All2 (RelT β σ cur R w) l vs → All2 (RelCap R w) acc.reverse avs →
  ∃ wr' cur' R' caps,(k caps).Ok s wr' ∧ cur.apply wr = cur'.apply wr' ∧ Inv C w0 R0 a w cur' β σ R' ∧ Keeps R R' w w ∧ All2 (RelCap R' w) caps (avs ++ vs)
 | [],seen,acc,k,wr,cur,R,[],avs,h,_,_,hI,_,ha => ⟨wr,cur,R,acc.reverse,h,rfl,hI,Keeps.refl _ _,by simpa using ha⟩
 | [],_,_,_,_,_,_,_ :: _,_,_,_,_,_,h,_ => h.elim
 | _ :: _,_,_,_,_,_,_,[],_,_,_,_,_,h,_ => h.elim
 | d :: l,seen,acc,k,wr,cur,R,v :: vs,avs,h,hs,hb,hI,⟨h1,h2⟩,ha => by
  unfold freezeAll at h
  split at h
  ·rename_i i
   split at h
   ·rename_i hseen
    simp only [M.Ok] at h
    split at h
    ·rename_i b hbx
     obtain ⟨⟨b',hb'⟩,hv⟩ := h1
     have hcur : cur.bx i = some b := bx_of (by rw [← hb i hseen]; exact hbx)
     obtain ⟨arr,el,p1,p2⟩ := (hI.box i b hcur).all
     obtain ⟨cs,h3,h4⟩ := resCells_ok2 hs hI h p2
     have hlen : cs.length = b.cells.length := by
      have a1 := All2.length h4
      have a2 := All2.length p2
      omega
     split at h3
     ·rename_i h0
      obtain ⟨wr1,rfl,h5⟩ := h3
      obtain ⟨n,⟨arr',el',q1,q2⟩,hI'⟩ := hI.freeze hcur cs (fun arr' el' hq => by
       rw [p1] at hq
       cases hq
       rw [hlen]
       exact h4)
      rw [p1] at q1
      cases q1
      have hk : Keeps R (addF R (β i) 0 n) w w := ⟨fun _ _ hr => .inl hr,fun _ _ _ _ h => h,fun _ _ _ _ h => h⟩
      have hg : Grows β β σ σ cur (cur.set (.box i) (.bx (some ⟨true,cs⟩))) :=
       ⟨fun j b' hb' => ⟨by
        rw [bx_set_box]
        by_cases e : i = j
        ·exact ⟨_,by rw [if_pos e]⟩
        ·exact ⟨b',by rw [if_neg e]; exact hb'⟩,rfl⟩,fun k o ho => ⟨o,ho,Nat.le_refl _,fun _ => rfl⟩,fun i m hm => ⟨⟨m,hm⟩,rfl⟩⟩
      obtain ⟨wr',cur',R',caps,r1,r2,r3,r4,r5⟩ := freeze_ok (seen := i :: seen) (avs := avs ++ [v]) h5 (cur := cur.set (.box i) (.bx (some ⟨true,cs⟩))) (fun k => by rw [set_box_obj]; exact hs k) (fun j hj => by
       simp only [List.all_cons,Bool.and_eq_true,Bool.not_eq_true'] at hj
       rw [set_box_box,if_neg (fun e => by rw [beq_t e] at hj; exact absurd hj.1 (by simp))]
       exact hb j (by simpa using hj.2)) hI' (h2.imp fun d v hr => RelT.grow hg _ _ (RelT.world hk _ _ hr)) (by
       rw [List.reverse_cons]
       refine All2.append (ha.imp fun cs v h => RelCap.keep hk cs v h) ⟨⟨β i,0,hv,fun j d hd => ?_⟩,trivial⟩
       obtain ⟨u,hu,hr⟩ := All2.get (all0_of h0 h4) j d hd
       have hu : arr.toList[j]? = some u := by
        rw [List.getElem?_take] at hu
        split at hu
        ·exact hu
        ·cases hu
       refine ⟨u,RelC0.keep hk _ _ hr,.inr ⟨rfl,Nat.zero_le _,?_⟩,?_⟩
       ·rw [Nat.zero_add,← q2]
        simpa using (List.getElem?_eq_some_iff.1 hu).1
       ·rw [Nat.zero_add,cell_of p1]
        simpa using hu)
      exact ⟨wr',cur',R',caps,r1,r2,r3,⟨fun b o hr => r4.foot _ _ (hk.foot _ _ hr),fun _ _ _ _ h => h,fun _ _ _ _ h => h⟩,by simpa using r5⟩
     ·exact h3.elim
    ·exact h.elim
   ·exact h.elim
  ·rename_i cs
   split at h
   ·rename_i h0
    obtain ⟨b,o',hv,hr⟩ := h1
    obtain ⟨wr',cur',R',caps,r1,r2,r3,r4,r5⟩ := freeze_ok (seen := seen) (avs := avs ++ [v]) h hs hb hI h2 (by
     rw [List.reverse_cons]
     exact All2.append ha ⟨⟨b,o',hv,fun j d hd => by
      obtain ⟨u,q1,q2,q3⟩ := hr j d hd
      have hm : is0 d = true := by
       have := List.all_eq_true.1 h0 d (List.mem_of_getElem? hd)
       exact this
      exact ⟨u,relC0_of hm q1,q2,q3⟩⟩,trivial⟩)
    exact ⟨wr',cur',R',caps,r1,r2,r3,r4,by simpa using r5⟩
   ·exact h.elim
  ·exact h.elim

theorem rel0A_of : ∀ {d : D} {v : Value},is0A d = true → Rel R w d v → RelA0 R w d v
 | .agg cs,v,h,⟨vs,hv,hr⟩ => ⟨vs,hv,all0_of h hr⟩
 | .int _ _,_,_,h => h | .bool _,_,_,h => h | .nil,_,_,h => h | .nilmap,_,_,h => h | .nilfn,_,_,h => h | .sl _ _ _,_,_,h => h | .map _,_,_,h => h
 | .undef,_,h,_ => by cases h
 | .fn _ _ _,_,h,_ => by cases h | .self _ _ _,_,h,_ => by cases h
 | .own _ _,_,h,_ => by cases h
 | .ptr _ _,_,h,_ => by cases h | .mref _,_,h,_ => by cases h | .row _ _,_,h,_ => by cases h
 | .ref _ _,_,h,_ => by cases h
 | .tup _,_,h,_ => by cases h
theorem all0A_of : ∀ {cs : List D} {vs : List Value},cs.all is0A = true → All2 (Rel R w) cs vs → All2 (RelA0 R w) cs vs
 | [],[],_,_ => trivial
 | d :: cs,v :: vs,h,⟨h1,h2⟩ => by
  simp only [List.all_cons,Bool.and_eq_true] at h
  exact ⟨rel0A_of h.1 h1,all0A_of h.2 h2⟩
 | [],_ :: _,_,h => h.elim
 | _ :: _,[],_,h => h.elim

theorem makeFunc_ok (hI : Inv C w0 R0 a w s β σ R) (hK : ∀ a' w',Holds C w0 R0 a' w' (s.apply wr) → K a' w') {f : FuncId} {first caps : Array Operand} (hop : o.op = .makeFunc (.func f) first caps) {dec : List (Nat × Bool)} {orc : List (Nat × D)}
  (h : (sem C dec orc o).Ok s wr) : o.wp P a w K Q := by
 unfold sem at h
 rw [hop] at h
 obtain ⟨ds,h1,h2⟩ := opds_ok hI h
 clear h
 obtain ⟨fs,h3,h4⟩ := resArgs_ok hI h1 h2
 clear h1
 split at h3
 ·rename_i h0
  obtain ⟨cs,h5,h6⟩ := opds_ok hI h3
  clear h3
  obtain ⟨wr',cur',R',caps',r1,r2,r3,r4,r5⟩ := freeze_ok (avs := []) h5 (fun _ => rfl) (fun _ _ => rfl) hI h6 trivial
  refine wp_value (w' := w) (v := .func (.func f) (first.map a.eval) (caps.map a.eval)) (by simp [execOp,hop,Instr.makeFunc]) (hK _ _ ⟨β,σ,R',?_⟩)
  rw [r2]
  refine setTmp_ok r3 r1 ?_
  refine ⟨first.map a.eval,caps.map a.eval,rfl,?_,?_⟩
  ·rw [Array.toList_map]
   exact (all0A_of h0 h4).imp fun d v h => RelA0.keep r4 d v h
  ·rw [Array.toList_map]
   exact r5
 ·exact h3.elim

theorem max_fold (k : Value → Value → Sem Value) (f : Int → Int → Int) (hk : ∀ x y,k (.int .i64 x) (.int .i64 y) = pure (.int .i64 (f x y))) : ∀ (zs : List Int) (z : Int),((zs.map (Value.int .i64)).foldlM k (.int .i64 z)).run P w = .ok (.int .i64 (zs.foldl f z)) w
 | [],z => rfl
 | y :: zs,z => by
  simp only [List.map_cons,List.foldlM_cons,hk,pure_bind,List.foldl_cons]
  exact max_fold k f hk zs _

theorem ints_rel : ∀ {ds : List D} {zs : List Int} {vs : List Value},allI ds = some zs → All2 (RelT β σ s R w) ds vs → vs = zs.map (Value.int .i64)
 | [],zs,vs,h,hr => by
  cases h
  exact all2_nil hr
 | d :: l,zs,vs,h,hr => by
  obtain ⟨v,vs',rfl,h1,h2⟩ := all2_cons hr
  simp only [allI] at h
  split at h
  ·rename_i x xs hx hxs
   cases h
   rw [ints_rel hxs h2]
   unfold asI at hx
   split at hx
   ·cases hx
    have : v = .int .i64 x := h1
    rw [this]; rfl
   ·cases hx
  ·cases h

theorem typed_list {tt : TypeId → Option TI} : ∀ {ts : List TypeId} {ds : List D} {vs : List Value},ts.length = ds.length → All2 (RelT β σ s R w) ds vs → All2 (RelT β σ s R w) ((ts.zip ds).map fun p => typed tt p.1 p.2) vs
 | [],[],[],_,_ => trivial
 | t :: ts,d :: ds,v :: vs,h,⟨h1,h2⟩ => ⟨typed_rel h1,typed_list (by simpa using h) h2⟩
 | [],_ :: _,_,h,_ => by simp at h
 | _ :: _,[],_,h,_ => by simp at h
 | [],[],_ :: _,_,h => h.elim
 | _ :: _,_ :: _,[],_,h => h.elim

theorem rel0A_rel : ∀ {d : D} {v : Value},RelA0 R w d v → Rel R w d v
 | .agg cs,v,⟨vs,hv,hr⟩ => ⟨vs,hv,hr.imp fun _ _ => RelC.of0⟩
 | .int _ _,_,h => h | .bool _,_,h => h | .nil,_,h => h | .nilmap,_,h => h | .nilfn,_,h => h | .sl _ _ _,_,h => h | .map _,_,h => h
 | .undef,_,h => h.elim | .fn _ _ _,_,h => h.elim | .own _ _,_,h => h.elim | .ptr _ _,_,h => h.elim | .ref _ _,_,h => h.elim | .tup _,_,h => h.elim | .mref _,_,h => h.elim | .row _ _,_,h => h.elim | .self _ _ _,_,h => h.elim

theorem weakC_rel : ∀ {d : D} {v : Value},RelC R w d v → RelC R w (weakC d) v
 | .sl _ _ _,_,h => sl_weak h
 | .int _ _,_,h => h | .bool _,_,h => h | .nil,_,h => h | .nilmap,_,h => h | .nilfn,_,h => h | .map _,_,h => h | .fn _ _ _,_,h => h | .self _ _ _,_,h => h
 | .undef,_,h => h | .own _ _,_,h => h | .ptr _ _,_,h => h | .ref _ _,_,h => h | .agg _,_,h => h | .tup _,_,h => h | .mref _,_,h => h | .row _ _,_,h => h
theorem weakCs_rel : ∀ {cs : List D} {vs : List Value},All2 (RelC R w) cs vs → All2 (RelC R w) (cs.map weakC) vs
 | [],[],_ => trivial
 | _ :: _,_ :: _,⟨h1,h2⟩ => ⟨weakC_rel h1,weakCs_rel h2⟩
 | [],_ :: _,h => h.elim
 | _ :: _,[],h => h.elim
theorem weak_rel : ∀ {d : D} {v : Value},Rel R w d v → Rel R w (weak d) v
 | .sl _ _ _,_,h => sl_weak h
 | .agg cs,_,⟨vs,hv,h⟩ => ⟨vs,hv,weakCs_rel h⟩
 | .int _ _,_,h => h | .bool _,_,h => h | .nil,_,h => h | .nilmap,_,h => h | .nilfn,_,h => h | .map _,_,h => h | .fn _ _ _,_,h => h | .self _ _ _,_,h => h
 | .undef,_,h => h | .own _ _,_,h => h | .ptr _ _,_,h => h | .ref _ _,_,h => h | .tup _,_,h => h | .mref _,_,h => h | .row _ _,_,h => h
theorem weaks_rel : ∀ {ds : List D} {vs : List Value},All2 (Rel R w) ds vs → All2 (Rel R w) (ds.map weak) vs
 | [],[],_ => trivial
 | _ :: _,_ :: _,⟨h1,h2⟩ => ⟨weak_rel h1,weaks_rel h2⟩
 | [],_ :: _,h => h.elim
 | _ :: _,[],h => h.elim

theorem rowTo_rel {t g : Nat} {β' : Nat → Nat} {s' : St} (hb : ∃ b,s'.bx t = some b) (hβ : β' t = g) : ∀ {cs : List D} {us : List Value},All2 (RelL g R w) cs us → All2 (RelTC β' σ s' R w) (cs.map (rowTo t)) us
 | [],[],_ => trivial
 | d :: cs,u :: us,⟨h1,h2⟩ => by
  refine ⟨?_,rowTo_rel hb hβ h2⟩
  cases d with
  | row i n => exact ⟨hb,by rw [hβ]; exact h1⟩
  | _ => exact RelTC.ofC h1
 | [],_ :: _,h => h.elim
 | _ :: _,[],h => h.elim

theorem enter_ok (hC : ConOk P C) (hI : Inv C w0 R0 a w s β σ R) (hK : ∀ a' w',Holds C w0 R0 a' w' (s.apply wr) → K a' w') {f : FuncId} {args : List D} {vs : Array Value} {orc : List (Nat × D)}
  (hargs : All2 (Rel R w) args vs.toList) (hop : (execOp a.eval o).run P w = (callFunc f vs).run P w) (h : (callD C o.dst orc f args).Ok s wr) : o.wp P a w K Q := by
 have henter : ∀ {fn : Func},P.funcs[f]? = some fn → (fn.name == "runtime.NumGoroutine") = false → fn.body.isNone = false → (callFunc f vs).run P w = .ok (.enter f vs) w := by
  intro fn c1 c2 c3
  obtain ⟨c,hbody⟩ : ∃ c,fn.body = some c := by
   cases hb : fn.body with
   | none => rw [hb] at c3; cases c3
   | some c => exact ⟨c,rfl⟩
  have c2' : fn.name ≠ "runtime.NumGoroutine" := by simpa using c2
  simp [callFunc,c1,c2',hbody]
 unfold callD at h
 split at h
 ·rename_i t ht
  split at h
  ·rename_i cs cells hr
   split at h
   ·rename_i hok
    simp only [M.Ok] at h
    split at h
    ·rename_i hb
     obtain ⟨hc,_,rfl,_,rfl,rfl⟩ := h
     obtain ⟨⟨fn,c1,c2,c3⟩,c4⟩ := hC.conL f args cs cells hc
     have hcalls := c4 w R vs.toList (fun b o' hr => (hI.dom b o' hr).1) hI.glob hargs
     unfold Oper.wp
     rw [hop,henter c1 c2 c3,Oper.upon_enter]
     refine hcalls.mono fun e w' he => ?_
     obtain ⟨v,rfl,hbw,R',g,hR,hd,hgn,hfree,⟨arr,el,hg,hcells⟩,us,rfl,hus⟩ := he
     have hI' := hI.later hbw hR hd
     have hsz0 := hI.below.size
     have hI2 := hI'.addBox t (bx_of hb) cells arr el g hg (hcells.imp fun _ _ => RelTC.ofC) (by omega) hfree
      (fun i b hi => by have := hI.box_lt hi; omega)
      (fun k ob hk hl ad had => by
       obtain ⟨_,hsp⟩ := hI.obj k ob hk
       obtain ⟨g',off,q1,_,⟨arr',el',q2,_⟩,_⟩ := hsp hl
       have := (Array.getElem?_eq_some_iff.1 q2).1
       rw [q1] at had
       cases had
       simp only
       omega)
      (fun b hb' => by have := (hI.far.ke b hb').1; omega) (fun b hb' => by have := (hI.far.no b hb').2.1; omega)
     have hI3 := hI2.put t (okT_lt hok) (okT_fx hok) (x := .agg (cs.map (rowTo t))) (v := .agg us) ⟨us,rfl,rowTo_rel ⟨_,by rw [bx_set_box,if_pos rfl]⟩ (by simp) hus⟩
     refine hK _ _ ⟨(fun i => if i = t then g else β i),σ,R',?_⟩
     rw [ht]
     exact hI3
    ·exact h.elim
   ·exact h.elim
  ·rename_i r _ hr
   obtain ⟨hc,h1⟩ := h
   obtain ⟨⟨fn,c1,c2,c3⟩,c4⟩ := hC.con f args r hc
   have hcalls := c4 w R vs.toList (fun b o' hr => (hI.dom b o' hr).1) hI.glob hargs
   unfold Oper.wp
   rw [hop,henter c1 c2 c3,Oper.upon_enter]
   refine hcalls.mono fun e w' he => ?_
   obtain ⟨v,rfl,hb,R',hR,hd,hv⟩ := he
   have hI' := hI.later hb hR hd
   exact hK _ _ ⟨β,σ,R',setTmp_ok hI' h1 (RelT.ofRel hv)⟩
  ·exact h.elim
 ·exact h.elim

theorem call_ok (hT : TabOk P C.tt) (hC : ConOk P C) (hI : Inv C w0 R0 a w s β σ R) (hK : ∀ a' w',Holds C w0 R0 a' w' (s.apply wr) → K a' w') {c : Call} (hop : o.op = .call c) {dec : List (Nat × Bool)} {orc : List (Nat × D)}
  (h : (sem C dec orc o).Ok s wr) : o.wp P a w K Q := by
 unfold sem at h
 rw [hop] at h
 simp only at h
 split at h
 ·rename_i hcal
  split at h
  ·rename_i x t hx ht
   split at h
   ·rename_i ti hti
    have hu := (hT t ti hti).und
    have hargs : c.args.map a.eval = #[a.eval x] := by
     apply Array.ext'
     simp [hx]
    have hats : c.argTypes = #[t] := by
     apply Array.ext'
     simp [ht]
    split at h
    ·rename_i el hk
     rw [hk] at hu
     obtain ⟨d,h1,h2⟩ := opd_ok hI h
     split at h1
     ·rename_i b n
      obtain ⟨_,cc,_,_,hv⟩ := h2
      refine done_ok hI hK h1 (v := .int .i64 n) rfl ?_
      simp [execOp,hop,resolve,hcal,invoke,builtin,hargs,hats,Builtin.len_,run_underlying hu.1,hv,goInt]
     obtain ⟨e,xs,h3,h4⟩ := elems_ok hI h1 (typed_rel h2)
     obtain ⟨A,cc,hv,_⟩ := h4
     refine done_ok hI hK h3 (v := .int .i64 xs.length) rfl ?_
     simp [execOp,hop,resolve,hcal,invoke,builtin,hargs,hats,Builtin.len_,run_underlying hu.1,hv,goInt]
    ·rename_i n el hk
     rw [hk] at hu
     obtain ⟨d,h1,h2⟩ := opd_ok hI h
     refine done_ok hI hK h1 (v := .int .i64 n) rfl ?_
     simp [execOp,hop,resolve,hcal,invoke,builtin,hargs,hats,Builtin.len_,run_underlying hu.1,goInt]
    ·exact h.elim
   ·exact h.elim
  ·exact h.elim
 ·rename_i hcal
  obtain ⟨ds,h1,h2⟩ := opds_ok hI h
  split at h1
  ·rename_i z zs hz
   have hv := ints_rel hz h2
   refine done_ok hI hK h1 (v := .int .i64 (zs.foldl mx z)) rfl ?_
   have hm := max_fold (P := P) (w := w) Builtin.max2 mx (fun x y => rfl) zs z
   have hl : (c.args.map a.eval).toList = .int .i64 z :: zs.map (Value.int .i64) := by rw [Array.toList_map]; exact hv
   have : (Builtin.max_ c.argTypes o.type (c.args.map a.eval)).run P w = .ok (.int .i64 (zs.foldl mx z)) w := by
    unfold Builtin.max_
    rw [hl]
    exact hm
   simp [execOp,hop,resolve,hcal,invoke,builtin,this]
  ·exact h1.elim
 ·rename_i hcal
  obtain ⟨ds,h1,h2⟩ := opds_ok hI h
  split at h1
  ·rename_i z zs hz
   have hv := ints_rel hz h2
   refine done_ok hI hK h1 (v := .int .i64 (zs.foldl mn z)) rfl ?_
   have hm := max_fold (P := P) (w := w) Builtin.min2 mn (fun x y => rfl) zs z
   have hl : (c.args.map a.eval).toList = .int .i64 z :: zs.map (Value.int .i64) := by rw [Array.toList_map]; exact hv
   have : (Builtin.min_ c.argTypes o.type (c.args.map a.eval)).run P w = .ok (.int .i64 (zs.foldl mn z)) w := by
    unfold Builtin.min_
    rw [hl]
    exact hm
   simp [execOp,hop,resolve,hcal,invoke,builtin,this]
  ·exact h1.elim
 ·rename_i hcal
  split at h
  ·rename_i x y t u hx ht
   split at h
   ·rename_i htu
    have htu := Nat.eq_of_beq_eq_true htu
    subst htu
    obtain ⟨dx,h1,h2⟩ := opd_ok hI h
    clear h
    obtain ⟨dy,h,h3⟩ := opd_ok hI h1
    clear h1
    have hargs : c.args.map a.eval = #[a.eval x,a.eval y] := by
     apply Array.ext'
     simp [hx]
    have hats : c.argTypes = #[t,t] := by
     apply Array.ext'
     simp [ht]
    refine appX_ok hT hI hK h2 h3 (fun w => ?_) h
    simp [execOp,hop,resolve,hcal,invoke,builtin,hargs,hats]
   ·exact h.elim
  ·exact h.elim
 ·rename_i fo hcal
  obtain ⟨g,h1,h2⟩ := opd_ok hI h
  clear h
  split at h1
  ·rename_i f first caps
   split at h1
   ·rename_i hsz
    have hsz := Nat.eq_of_beq_eq_true hsz
    obtain ⟨ds,h3,h4⟩ := opds_ok hI h1
    clear h1
    have hlen := All2.length h4
    obtain ⟨args,h5,h6⟩ := resArgs_ok hI h3 (typed_list (tt := C.tt) (by simp at hlen hsz ⊢; omega) h4)
    obtain ⟨fs,cs,hv,p1,p2⟩ := h2
    refine enter_ok hC hI hK (vs := fs ++ c.args.map a.eval ++ cs) ?_ ?_ h5
    ·simp only [Array.toList_append,Array.toList_map]
     refine All2.append (All2.append (p1.imp fun _ _ => rel0A_rel) (weaks_rel h6)) ?_
     refine All2.map_left _ (p2.imp fun cs v ⟨b,o',hv,hr⟩ => ⟨b,o',hv,?_⟩)
     intro j d hd
     obtain ⟨u,q1,q2,q3⟩ := hr j d hd
     exact ⟨u,RelC.of0 q1,q2,q3⟩
    ·simp [execOp,hop,resolve,hcal,hv,Deferred.ofValue,invoke]
   ·exact h1.elim
  ·rename_i f n cells
   split at h1
   ·rename_i hsz
    have hsz := Nat.eq_of_beq_eq_true hsz
    obtain ⟨ds,h3,h4⟩ := opds_ok hI h1
    clear h1
    have hlen := All2.length h4
    obtain ⟨args,h5,h6⟩ := resArgs_ok hI h3 (typed_list (tt := C.tt) (by simp at hlen hsz ⊢; omega) h4)
    obtain ⟨_,p,b,o',u,hv,p2,p3,p4,p5,p6⟩ := h2
    refine enter_ok hC hI hK (vs := c.args.map a.eval ++ #[p,.pointer (some ⟨b,o',none⟩)]) ?_ ?_ h5
    ·simp only [Array.toList_append,Array.toList_map]
     refine All2.append (weaks_rel h6) ⟨?_,?_,trivial⟩
     ·obtain ⟨b',o'',hv',hr⟩ := p2
      refine ⟨b',o'',hv',?_⟩
      intro j d hd
      obtain ⟨u,q1,q2,q3⟩ := hr j d hd
      exact ⟨u,RelC.of0 q1,q2,q3⟩
     ·refine ⟨b,o',rfl,?_⟩
      intro j d hd
      cases j with
      | zero =>
       cases hd
       exact ⟨u,⟨p5,p6⟩,p3,p4⟩
      | succ j => simp at hd
    ·simp [execOp,hop,resolve,hcal,hv,Deferred.ofValue,invoke]
   ·exact h1.elim
  ·exact h1.elim
 ·exact h.elim

theorem sem_ok (hT : TabOk P C.tt) (hC : ConOk P C) (hI : Inv C w0 R0 a w s β σ R) (hK : ∀ a' w',Holds C w0 R0 a' w' (s.apply wr) → K a' w') {dec : List (Nat × Bool)} {orc : List (Nat × D)}
  (h : (sem C dec orc o).Ok s wr) : o.wp P a w K Q := by
 cases hop : o.op with
 | move x => exact move_ok hI hK (.inl hop) (by unfold sem at h; rw [hop] at h; exact h)
 | assign x => exact move_ok hI hK (.inr hop) (by unfold sem at h; rw [hop] at h; exact h)
 | pick c x y => exact pick_ok hI hK hop h
 | alloc t => exact alloc_ok hT hI hK hop h
 | box t x => exact box_ok hI hK hop h
 | build t parts => exact build_ok hT hI hK hop h
 | buildSlice t n parts => exact buildSlice_ok hT hI hK hop h
 | makeSlice t l c => exact makeSlice_ok hT hI hK hop h
 | load t x => exact load_ok hT hI hK hop h
 | store t x y => exact store_ok hT hI hK hop h
 | binOp op t x y t' => exact bin_ok hT hI hK hop h
 | unOp op t x => exact un_ok hI hK hop h
 | makeFunc f first caps =>
  cases f with
  | func f => exact makeFunc_ok hI hK hop h
  | _ => exact absurd h (by unfold sem; rw [hop]; exact id)
 | slice t x lo hi mx => exact slice_ok hT hI hK hop h
 | fieldAddr t x f => exact fieldAddr_ok hT hI hK hop h
 | field t x f => exact field_ok hT hI hK hop h
 | indexAddr t x y => exact indexAddr_ok hT hI hK hop h
 | index t x y => exact index_ok hT hI hK hop h
 | extract x ix => exact extract_ok hI hK hop h
 | makeMap t r =>
  cases r with
  | none => exact makeMap_ok hT hI hK hop h
  | some r => exact absurd h (by unfold sem; rw [hop]; exact id)
 | insert t m k x =>
  unfold sem at h
  rw [hop] at h
  obtain ⟨dm,h1,r1⟩ := opd_ok hI h
  obtain ⟨dk,h2,r2⟩ := opd_ok hI h1
  obtain ⟨dx,h3,r3⟩ := opd_ok hI h2
  exact upd_ok hT hI hK r1 r2 r3 (by simp [execOp,hop]) h3
 | mapUpdate t m k x =>
  unfold sem at h
  rw [hop] at h
  obtain ⟨dm,h1,r1⟩ := opd_ok hI h
  obtain ⟨dk,h2,r2⟩ := opd_ok hI h1
  obtain ⟨dx,h3,r3⟩ := opd_ok hI h2
  exact upd_ok hT hI hK r1 r2 r3 (by simp [execOp,hop]) h3
 | lookup t m k ok =>
  unfold sem at h
  rw [hop] at h
  obtain ⟨dm,h1,r1⟩ := opd_ok hI h
  obtain ⟨dk,h2,r2⟩ := opd_ok hI h1
  exact look_ok hT hI hK r1 r2 (by simp [execOp,hop]) h2
 | call c => exact call_ok hT hC hI hK hop h
 | _ => exact absurd h (by unfold sem; rw [hop]; exact id)
end
end Go.Di

