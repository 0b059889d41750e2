/- Part 5: an interpreter over plain data for this code, with the proof that it says what the model does, and the contracts of the functions. No condition. -/
import Derived.Test.YtfkmodcjddfeiaaDoorDi04
import Derived.Deep.AppendSrc
import Derived.Deep.Upon
set_option linter.unusedVariables false
set_option linter.unusedSimpArgs false
/-
 DI,part I: soundness of append.
-/
namespace Go.Di
open Go.RowKit

theorem eqb_eq : ∀ {k k' : Key},k.eqb k' = true → k = k'
 | .tmp _,.tmp _,h => by rw [Nat.eq_of_beq_eq_true h]
 | .box _,.box _,h => by rw [Nat.eq_of_beq_eq_true h]
 | .obj _,.obj _,h => by rw [Nat.eq_of_beq_eq_true h]
 | .mp _,.mp _,h => by rw [Nat.eq_of_beq_eq_true h]
 | .tmp _,.mp _,h => by cases h
 | .box _,.mp _,h => by cases h
 | .obj _,.mp _,h => by cases h
 | .mp _,.tmp _,h => by cases h
 | .mp _,.box _,h => by cases h
 | .mp _,.obj _,h => by cases h
 | .tmp _,.box _,h => by cases h
 | .tmp _,.obj _,h => by cases h
 | .box _,.tmp _,h => by cases h
 | .box _,.obj _,h => by cases h
 | .obj _,.tmp _,h => by cases h
 | .obj _,.box _,h => by cases h
theorem set_same {s : St} {k : Key} {v : Val} (h : s k = v) : s.set k v = s := by
 funext k'
 unfold St.set
 split
 ·rename_i he
  rw [← eqb_eq he,h]
 ·rfl

section
variable {P : Program} {C : Cfg} {w0 w : World} {R0 R : Foot} {a : Act} {s : St} {β : Nat → Nat} {σ : Sig} {o : Oper} {wr : List (Key × Val)} {K : Act → World → Prop} {Q : Exit → Act → World → Prop}

theorem ob_none {k : Nat} {o : Option Ob} (h : s (.obj k) = .ob o) : s.ob k = o := by simp [St.ob,h]
theorem mp_get {k : Nat} {o : Option Mp} (h : s (.mp k) = .mp o) : s.mp k = o := by simp [St.mp,h]

theorem Inv.adopt (h : Inv C w0 R0 a w s β σ R) (k : Nat) (hn : s.ob k = none) (hmk : s.mp k = none) (e : E) (xs : List e.α) (A : Option Addr) (hx : SlR (RelE R w e) e.sz R w false xs (.slice A xs.length xs.length)) :
  Inv C w0 R0 a w (s.set (.obj k) (.ob (some ⟨e,xs⟩))) β (fun i => if i = k then (A,xs.length) else σ i) R := by
 have hg : Grows β β σ (fun i => if i = k then (A,xs.length) else σ i) s (s.set (.obj k) (.ob (some ⟨e,xs⟩))) :=
  ⟨fun i b hb => ⟨⟨b,hb⟩,rfl⟩,fun k' o ho => by
   have hne : k ≠ k' := fun x => by rw [x,ho] at hn; cases hn
   exact ⟨o,by rw [ob_set_obj,if_neg hne]; exact ho,Nat.le_refl _,fun _ => by simp [show ¬ k' = k from fun x => hne x.symm]⟩,
   fun i m hm => ⟨⟨m,hm⟩,if_neg (fun x => by rw [x,hmk] at hm; cases hm)⟩⟩
 refine ⟨h.below,h.defers,h.fix,h.nt,h.sub,h.dom,h.glob,fun i => RelT.grow hg _ _ (h.tmps i),fun i b hb => ?_,h.inj,fun k' o ho => ?_,?_,h.mps.step (fun _ _ h => h) (fun i m hm => if_neg (fun x => by rw [x] at hm; exact absurd hm (by rw [hmk]; simp))) (fun _ _ _ => rfl) (fun _ _ h => h) (fun i m hm hn => by
  rw [ob_set_obj,if_neg (fun x => by rw [← x,hmk] at hm; cases hm)]
  exact hn)⟩
 ·obtain ⟨p1,⟨ar,e2,p2,p3,p4,p5⟩,p6⟩ := h.box i b hb
  exact ⟨p1,⟨ar,e2,p2,p3,fun hf => (p4 hf).imp (RelTC.grow hg),p5⟩,p6⟩
 ·rw [ob_set_obj] at ho
  by_cases e1 : k = k'
  ·subst e1
   rw [if_pos rfl] at ho
   cases ho
   exact ⟨by simp only [if_true]; exact hx,fun hl => by simp only [if_true] at hl; omega⟩
  ·rw [if_neg e1] at ho
   have e1' : ¬ k' = k := fun x => e1 x.symm
   obtain ⟨p1,p2⟩ := h.obj k' o ho
   refine ⟨by simp only [if_neg e1']; exact p1,fun hl => ?_⟩
   simp only [if_neg e1'] at hl ⊢
   obtain ⟨g,off,r1,r2,r3,r4,r5,r6⟩ := p2 hl
   refine ⟨g,off,r1,r2,r3,r4,fun k'' o'' ho'' hne hl' a' ha' => ?_,r6⟩
   rw [ob_set_obj] at ho''
   by_cases e2 : k = k''
   ·subst e2
    simp only [if_true] at hl'
    rw [if_pos rfl] at ho''
    cases ho''
    exact absurd hl' (Nat.lt_irrefl _)
   ·rw [if_neg e2] at ho''
    have e2' : ¬ k'' = k := fun x => e2 x.symm
    simp only [if_neg e2'] at hl' ha'
    exact r5 k'' o'' ho'' hne hl' a' ha'
 ·have hrow : ∀ (b : Nat),(∀ k o,s.ob k = some o → o.xs.length < (σ k).2 → ∀ ad,(σ k).1 = some ad → ad.block ≠ b) → ∀ k' o',(s.set (.obj k) (.ob (some ⟨e,xs⟩))).ob k' = some o' →
    o'.xs.length < (if k' = k then (A,xs.length) else σ k').2 → ∀ ad,(if k' = k then (A,xs.length) else σ k').1 = some ad → ad.block ≠ b := by
   intro b hr k' o' ho' hl ad had
   rw [ob_set_obj] at ho'
   by_cases e1 : k = k'
   ·subst e1
    rw [if_pos rfl] at ho'
    cases ho'
    simp only [if_true] at hl
    exact absurd hl (Nat.lt_irrefl _)
   ·rw [if_neg e1] at ho'
    have e1' : ¬ k' = k := fun x => e1 x.symm
    simp only [if_neg e1'] at hl had
    exact hr k' o' ho' hl ad had
  refine ⟨h.far.sz,fun b hb => ?_,fun b hb => ?_⟩
  ·obtain ⟨p1,p2,p3,p4⟩ := h.far.ke b hb
   exact ⟨p1,p2,p3,hrow b p4⟩
  ·obtain ⟨p1,p2,p3,p4,p5⟩ := h.far.no b hb
   exact ⟨p1,p2,p3,p4,hrow b p5⟩

theorem flat_cells {e : E} {b : Nat} : ∀ (xs : List e.α) (o : Nat),(∀ (i : Nat) (x : e.α),xs[i]? = some x → ∃ us : List Value,us.length = e.sz ∧ RelE R w e x us ∧ ∀ j u,us[j]? = some u → R b (o + i * e.sz + j) ∧ w.cell? ⟨b,o + i * e.sz + j,none⟩ = some u) →
  ∃ vs : List Value,vs.length = xs.length * e.sz ∧ (∀ j u,vs[j]? = some u → w.cell? ⟨b,o + j,none⟩ = some u) ∧ (∀ u ∈ vs,u.oneCell' = true) ∧
   ∀ (i : Nat) (x : e.α),xs[i]? = some x → ∃ us : List Value,us.length = e.sz ∧ RelE R w e x us ∧ ∀ j u,us[j]? = some u → vs[i * e.sz + j]? = some u
 | [],o,_ => ⟨[],by simp,fun j u h => by simp at h,fun u h => by simp at h,fun i x h => by simp at h⟩
 | x :: xs,o,h => by
  obtain ⟨us,h1,h2,h3⟩ := h 0 x rfl
  obtain ⟨vs,h4,h5,h6,h7⟩ := flat_cells xs (o + e.sz) (fun i y hy => by
   obtain ⟨us,p1,p2,p3⟩ := h (i + 1) y (by simpa using hy)
   refine ⟨us,p1,p2,fun j u hu => ?_⟩
   have := p3 j u hu
   rw [show o + e.sz + i * e.sz + j = o + (i + 1) * e.sz + j by rw [Nat.add_mul]; omega]
   exact this)
  refine ⟨us ++ vs,by simp [h1,h4,Nat.add_mul]; omega,fun j u hu => ?_,fun u hu => ?_,fun i y hy => ?_⟩
  ·rcases Nat.lt_or_ge j us.length with hj | hj
   ·rw [List.getElem?_append_left hj] at hu
    have := (h3 j u hu).2
    simpa using this
   ·rw [List.getElem?_append_right hj] at hu
    have := h5 _ u hu
    rw [show o + j = o + e.sz + (j - us.length) by omega]
    exact this
  ·rcases List.mem_append.1 hu with hu | hu
   ·obtain ⟨j,hj⟩ := List.getElem?_of_mem hu
    obtain ⟨d,_,hr⟩ := All2.get' (enc_rel e x us h2) j u hj
    exact one_of_C0 hr
   ·exact h6 u hu
  ·cases i with
   | zero =>
    simp only [List.getElem?_cons_zero,Option.some.injEq] at hy
    subst hy
    exact ⟨us,h1,h2,fun j u hu => by
     have hj := (List.getElem?_eq_some_iff.1 hu).1
     rw [Nat.zero_mul,Nat.zero_add,List.getElem?_append_left hj]; exact hu⟩
   | succ i =>
    simp only [List.getElem?_cons_succ] at hy
    obtain ⟨us',q1,q2,q3⟩ := h7 i y hy
    refine ⟨us',q1,q2,fun j u hu => ?_⟩
    rw [List.getElem?_append_right (by rw [Nat.add_mul]; omega)]
    have := q3 j u hu
    rw [show (i + 1) * e.sz + j - us.length = i * e.sz + j by rw [Nat.add_mul]; omega]
    exact this

theorem slR_flat {e : E} {xs : List e.α} {A : Option Addr} {c : Nat} (h : SlR (RelE R w e) e.sz R w false xs (.slice A xs.length c)) :
  ∃ vs : List Value,vs.length = xs.length * e.sz ∧ (xs ≠ [] → ∃ b o',A = some ⟨b,o',none⟩ ∧ ∀ j u,vs[j]? = some u → w.cell? ⟨b,o' + j,none⟩ = some u) ∧ (∀ u ∈ vs,u.oneCell' = true) ∧
   ∀ (i : Nat) (x : e.α),xs[i]? = some x → ∃ us : List Value,us.length = e.sz ∧ RelE R w e x us ∧ ∀ j u,us[j]? = some u → vs[i * e.sz + j]? = some u := by
 obtain ⟨A',c',hv,g1,g2,_,g4⟩ := h
 injection hv with hv1 hv2 hv3
 subst hv1 hv3
 cases xs with
 | nil => exact ⟨[],by simp,fun h => absurd rfl h,fun u h => by simp at h,fun i x h => by simp at h⟩
 | cons x xs =>
  obtain ⟨b,o',ha,hc⟩ := g4 (by simp)
  obtain ⟨vs,h1,h2,h3,h4⟩ := flat_cells (x :: xs) o' hc
  exact ⟨vs,h1,fun _ => ⟨b,o',ha,h2⟩,h3,h4⟩

theorem src_of {el t : TypeId} (ht : P.underlying t = some (.slice el)) {e : E} {ys : List e.α} {A : Option Addr} {c : Nat} (hs : SlR (RelE R w e) e.sz R w false ys (.slice A ys.length c)) :
  ∃ news : List Value,Src P e.sz t (.slice A ys.length c) ys.length news w ∧ news.length = ys.length * e.sz ∧ (∀ u ∈ news,u.oneCell' = true) ∧
   ∀ (i : Nat) (x : e.α),ys[i]? = some x → ∃ us : List Value,us.length = e.sz ∧ RelE R w e x us ∧ ∀ j u,us[j]? = some u → news[i * e.sz + j]? = some u := by
 obtain ⟨news,h1,h2,h3,h4⟩ := slR_flat hs
 refine ⟨news,?_,h1,h3,h4⟩
 cases A with
 | none =>
  have hy : ys = [] := by
   cases ys with
   | nil => rfl
   | cons y ys =>
    obtain ⟨b,o',ha,_⟩ := h2 (by simp)
    cases ha
  subst hy
  have : news = [] := List.eq_nil_of_length_eq_zero (by simpa using h1)
  subst this
  exact Src.ofNil w ht c
 | some A =>
  by_cases hy : ys = []
  ·subst hy
   have : news = [] := List.eq_nil_of_length_eq_zero (by simpa using h1)
   subst this
   exact Src.ofSlice w ht A 0 c [] (by simp) (fun j u h => by simp at h) (fun u h => by simp at h)
  ·obtain ⟨b,o',ha,hc⟩ := h2 hy
   cases ha
   exact Src.ofSlice w ht _ ys.length c news h1 (fun j u hu => by rw [add_plain]; exact hc j u hu) h3

theorem two_of {n b : Nat} (h : n * (b + 1) ≤ 140737488355328) : n * b ≤ 140737488355328 ∧ n ≤ 140737488355328 := by
 rw [Nat.mul_add,Nat.mul_one] at h
 omega
theorem grow_step' (hT : TabOk P C.tt) (hI : Inv C w0 R0 a w s β σ R) {t ty el : TypeId} {te : TI} {e : E} (ht : P.underlying t = some (.slice el)) (hte : TIok P C.tt el te) (hsz : te.sz = e.sz) (k : Nat) {xs ys : List e.α} {A B : Option Addr} {c c' : Nat}
  (hx : SlR (RelE R w e) e.sz R w false xs (.slice A xs.length c)) {Ry : Foot} (hy : SlR (RelE Ry w e) e.sz Ry w false ys (.slice B ys.length c')) (hRy : ∀ x vs,RelE Ry w e x vs → RelE R w e x vs) (hne : ys ≠ []) (hg : c < xs.length + ys.length)
  (hold : ∀ o,s.ob k = some o → o.xs.length < (xs ++ ys).length) (hmk : s.mp k = none) (hb : (xs ++ ys).length * te.bytes ≤ 140737488355328 ∧ (xs ++ ys).length ≤ 140737488355328) :
  ∃ w' c'',(Builtin.append_ #[t,t] ty #[.slice A xs.length c,.slice B ys.length c']).run P w = .ok (.slice (some ⟨w.heap.size,0,none⟩) (xs ++ ys).length c'') w' ∧
   ∃ R',Inv C w0 R0 a w' (s.set (.obj k) (.ob (some ⟨e,xs ++ ys⟩))) β (fun i => if i = k then (some ⟨w.heap.size,0,none⟩,c'') else σ i) R' := by
 obtain ⟨i,z,j1,j2,j3,j4,j5,j6⟩ := hte.info
 obtain ⟨news,n1,n2,n3,n4⟩ := src_of (P := P) ht hy
 obtain ⟨olds,o1,o2,o3,o4⟩ := slR_flat hx
 have hie : i.size = e.sz := by rw [j2,hsz]
 have hlen : (xs ++ ys).length = xs.length + ys.length := by simp
 rw [hlen] at hb
 have hyp : 0 < ys.length := List.length_pos_iff.2 hne
 have hold' : (Builtin.firstCells i.size xs.length (.slice A xs.length c)).run P w.drew = .ok olds.toArray w.drew := by
  by_cases hx0 : xs = []
  ·subst hx0
   have : olds = [] := List.eq_nil_of_length_eq_zero (by simpa using o1)
   subst this
   cases A with
   | none => exact run_firstCells_none w.drew i.size 0 0 c
   | some A => exact run_firstCells_some w.drew i.size 0 A 0 c [] (by simp) (fun j u h => by simp at h)
  ·obtain ⟨b,o',ha,hc⟩ := o2 hx0
   subst ha
   exact run_firstCells_some w.drew i.size xs.length _ xs.length c olds (by rw [hie]; exact o1) (fun j u hu => by rw [add_plain]; simpa using hc j u hu)
 have hrun := run_append_grow_src (P := P) w t t ty el i z ht j1 j4 A xs.length c olds hold' (.slice B ys.length c') ys.length news (by rw [hie]; exact n1) hg (by omega)
  (growslice_fits (need := xs.length + ys.length) hg (by rw [j3]; omega))
 have hge := grownCap_ge w (xs.length + ys.length) c el
 have hmax := grownCap_le_maxLen w (xs.length + ys.length) c el (by unfold maxLen; omega)
 have hzs : z.cells.size = e.sz := by
  have := All2.length (j6 R w)
  simp at this
  omega
 refine ⟨_,grownCap w (xs.length + ys.length) c el,by rw [hlen]; exact hrun,addF R w.heap.size 0 ((xs ++ ys).length * e.sz),?_⟩
 have hk0 : Keeps R R w w.drew := Keeps.of_below (fun _ _ hr => hr) (fun b o hr => (hI.dom b o hr).1) (below_drew1 w)
 have := hI.drew.newRow k e (xs ++ ys) ((olds ++ news).toArray ++ Builtin.zeroCells z.cells (grownCap w (xs.length + ys.length) c el - (xs.length + ys.length))) el (grownCap w (xs.length + ys.length) c el) (by rw [hlen]; exact hge) hmax
  (by
   simp only [Array.size_append,List.size_toArray,List.length_append,size_zeroCells,hzs,o1,n2]
   rw [← Nat.add_mul,← Nat.add_mul]
   exact Nat.mul_le_mul_right _ (by omega)) hold hmk (fun i x hi => by
   rcases Nat.lt_or_ge i xs.length with hil | hil
   ·rw [List.getElem?_append_left hil] at hi
    obtain ⟨us,q1,q2,q3⟩ := o4 i x hi
    refine ⟨us,q1,RelE.keep hk0 _ _ _ q2,fun j u hu => ?_⟩
    have h1 := q3 j u hu
    have h2 := (List.getElem?_eq_some_iff.1 h1).1
    rw [Array.getElem?_append_left (by simp; omega)]
    rw [List.getElem?_toArray,List.getElem?_append_left h2]
    exact h1
   ·rw [List.getElem?_append_right hil] at hi
    obtain ⟨us,q1,q2,q3⟩ := n4 _ x hi
    refine ⟨us,q1,RelE.keep hk0 _ _ _ (hRy _ _ q2),fun j u hu => ?_⟩
    have h1 := q3 j u hu
    have h2 := (List.getElem?_eq_some_iff.1 h1).1
    have e1 : i * e.sz + j = olds.length + ((i - xs.length) * e.sz + j) := by
     rw [o1,← Nat.add_assoc,← Nat.add_mul]
     congr 2
     omega
    rw [e1,Array.getElem?_append_left (by simp; omega)]
    rw [List.getElem?_toArray,List.getElem?_append_right (by omega),Nat.add_sub_cancel_left]
    exact h1)
 exact this

theorem grow_step (hT : TabOk P C.tt) (hI : Inv C w0 R0 a w s β σ R) {t ty el : TypeId} {te : TI} {e : E} (ht : P.underlying t = some (.slice el)) (hte : TIok P C.tt el te) (hsz : te.sz = e.sz) (k : Nat) {xs ys : List e.α} {A B : Option Addr} {c c' : Nat}
  (hx : SlR (RelE R w e) e.sz R w false xs (.slice A xs.length c)) (hy : SlR (RelE R w e) e.sz R w false ys (.slice B ys.length c')) (hne : ys ≠ []) (hg : c < xs.length + ys.length)
  (hold : ∀ o,s.ob k = some o → o.xs.length < (xs ++ ys).length) (hmk : s.mp k = none) (hb : (xs ++ ys).length * te.bytes ≤ 140737488355328 ∧ (xs ++ ys).length ≤ 140737488355328) :
  ∃ w' c'',(Builtin.append_ #[t,t] ty #[.slice A xs.length c,.slice B ys.length c']).run P w = .ok (.slice (some ⟨w.heap.size,0,none⟩) (xs ++ ys).length c'') w' ∧
   ∃ R',Inv C w0 R0 a w' (s.set (.obj k) (.ob (some ⟨e,xs ++ ys⟩))) β (fun i => if i = k then (some ⟨w.heap.size,0,none⟩,c'') else σ i) R' :=
 grow_step' hT hI ht hte hsz k hx hy (fun _ _ h => h) hne hg hold hmk hb

theorem grow_box (hT : TabOk P C.tt) (hI : Inv C w0 R0 a w s β σ R) {t ty el : TypeId} {te : TI} (ht : P.underlying t = some (.slice el)) (hte : TIok P C.tt el te) (hsz : te.sz = 1) (d : Nat) (hn : s.bx d = none) {ys : List Int} {A B : Option Addr} {c' : Nat}
  (hy : SlR (RelE R w .int) 1 R w false ys (.slice B ys.length c')) (hne : ys ≠ []) (hb : ys.length * (te.bytes + 1) ≤ 140737488355328) :
  ∃ w' c'',(Builtin.append_ #[t,t] ty #[.slice A 0 0,.slice B ys.length c']).run P w = .ok (.slice (some ⟨w.heap.size,0,none⟩) ys.length c'') w' ∧ ys.length ≤ c'' ∧ c'' ≤ maxLen ∧
   Inv C w0 R0 a w' (s.set (.box d) (.bx (some ⟨false,ys.map fun (z : Int) => D.int .i64 z⟩))) (fun i => if i = d then w.heap.size else β i) σ R := by
 obtain ⟨i,z,j1,j2,j3,j4,j5,j6⟩ := hte.info
 obtain ⟨news,n1,n2,n3,n4⟩ := src_of (P := P) (e := .int) ht hy
 have hie : i.size = 1 := by rw [j2,hsz]
 have hyp : 0 < ys.length := List.length_pos_iff.2 hne
 rw [Nat.mul_add,Nat.mul_one] at hb
 have hold' : (Builtin.firstCells i.size 0 (.slice A 0 0)).run P w.drew = .ok ([] : List Value).toArray w.drew := by
  cases A with
  | none => exact run_firstCells_none w.drew i.size 0 0 0
  | some A => exact run_firstCells_some w.drew i.size 0 A 0 0 [] (by simp) (fun j u h => by simp at h)
 have hg : 0 < 0 + ys.length := by omega
 have hrun := run_append_grow_src (P := P) w t t ty el i z ht j1 j4 A 0 0 [] hold' (.slice B ys.length c') ys.length news (by rw [hie]; exact n1) hg (by omega)
  (growslice_fits (need := 0 + ys.length) hg (by rw [j3,Nat.zero_add]; omega))
 rw [Nat.zero_add] at hrun hg
 have hge := grownCap_ge w ys.length 0 el
 have hmax := grownCap_le_maxLen w ys.length 0 el (by unfold maxLen; omega)
 have hnews : news = ys.map (Value.int .i64) := by
  have h2 : news.length = ys.length := by rw [n2]; exact Nat.mul_one _
  refine List.ext_getElem (by rw [List.length_map]; exact h2) fun q q1 q2 => ?_
  rw [List.length_map] at q2
  obtain ⟨us,u1,u2,u3⟩ := n4 q ys[q] (List.getElem?_eq_getElem q2)
  have u2 : us = [.int .i64 ys[q]] := u2
  subst u2
  have := u3 0 _ rfl
  simp only [E.sz,Nat.mul_one,Nat.add_zero] at this
  rw [List.getElem?_eq_getElem q1] at this
  rw [Option.some.inj this,List.getElem_map]
 refine ⟨_,_,hrun,hge,hmax,?_⟩
 have hI' := hI.drew.newBox0 d hn (ys.map fun (z : Int) => D.int .i64 z) (([] ++ news).toArray ++ Builtin.zeroCells z.cells (grownCap w ys.length 0 el - ys.length)) el (by
  rw [Array.toList_append,List.nil_append,List.length_map]
  have hl : news.length = ys.length := by rw [hnews,List.length_map]
  rw [show (news.toArray).toList = news from rfl,← hl,List.take_left,hnews]
  clear hnews n1 n2 n3 n4 hrun hy hb hge hmax hl hI hg hne hyp
  induction ys with
  | nil => exact trivial
  | cons y ys ih => exact ⟨rfl,ih⟩)
 exact hI'

theorem room_step (hI : Inv C w0 R0 a w s β σ R) {t ty el : TypeId} {te : TI} {k : Nat} {o : Ob} (hk : s.ob k = some o) (ht : P.underlying t = some (.slice el)) (hte : TIok P C.tt el te) (hsz : te.sz = o.e.sz) {ys : List o.e.α} {B : Option Addr} {c' : Nat}
  (hy : SlR (RelE R w o.e) o.e.sz R w false ys (.slice B ys.length c')) (hne : ys ≠ []) (hg : o.xs.length + ys.length ≤ (σ k).2) :
  ∃ w',(Builtin.append_ #[t,t] ty #[.slice (σ k).1 o.xs.length (σ k).2,.slice B ys.length c']).run P w = .ok (.slice (σ k).1 (o.xs ++ ys).length (σ k).2) w' ∧
   ∃ R',Inv C w0 R0 a w' (s.set (.obj k) (.ob (some ⟨o.e,o.xs ++ ys⟩))) β σ R' := by
 have hyp : 0 < ys.length := List.length_pos_iff.2 hne
 obtain ⟨g,off,h3,h4,⟨arr,el',h5,h6⟩,h7,h8,h9⟩ := (hI.obj k o hk).spare (by omega)
 obtain ⟨i,z,j1,j2,j3,j4,j5,j6⟩ := hte.info
 obtain ⟨news,n1,n2,n3,n4⟩ := src_of (P := P) ht hy
 have hie : i.size = o.e.sz := by rw [j2,hsz]
 have hfit : off + o.xs.length * o.e.sz + news.length ≤ arr.size := by
  have := Nat.mul_le_mul_right o.e.sz hg
  rw [Nat.add_mul] at this
  omega
 have hrun := run_append_room_src (P := P) w t t ty el i ht j1 g off o.xs.length (σ k).2 (.slice B ys.length c') ys.length news (by rw [hie]; exact n1) hg
  (fun j hj => by rw [hie,cell_of h5,Array.getElem?_eq_getElem (by omega)]; rfl) (fun j hj => by simp [World.frozen?,h5])
 rw [hie] at hrun
 have hlen : (o.xs ++ ys).length = o.xs.length + ys.length := by simp
 refine ⟨w.setCells g (off + o.xs.length * o.e.sz) news,by rw [h3,hlen]; exact hrun,addF R g (off + o.xs.length * o.e.sz) (off + (o.xs ++ ys).length * o.e.sz),?_⟩
 refine hI.growRow k o hk ys g off arr (putAll arr (off + o.xs.length * o.e.sz) news) el' h3 (by omega) (by omega) hne h5 (setCells_get _ _ _ _ _ _ _ h5) (putAll_size _ _ _) (fun q hq => setCells_other _ _ _ _ _ hq) (setCells_rest _ _ _ _)
  (fun q hq => by rw [putAll_get,if_neg (by omega)]) (fun i x hi => ?_)
 obtain ⟨us,q1,q2,q3⟩ := n4 i x hi
 refine ⟨us,q1,q2,fun j u hu => ?_⟩
 have h1 := q3 j u hu
 have h2 := (List.getElem?_eq_some_iff.1 h1).1
 rw [Nat.add_mul,show off + (o.xs.length * o.e.sz + i * o.e.sz) + j = off + o.xs.length * o.e.sz + (i * o.e.sz + j) by omega,putAll_get,if_pos ⟨by omega,by omega,by omega⟩,Nat.add_sub_cancel_left]
 exact h1

theorem append_ok (hT : TabOk P C.tt) (hI : Inv C w0 R0 a w s β σ R) (hK : ∀ a' w',Holds C w0 R0 a' w' (s.apply wr) → K a' w') {t : TypeId} {dx dy : D} {vx vy : Value} (hx : RelT β σ s R w dx vx) (hy : RelT β σ s R w dy vy)
  (hop : ∀ w,(execOp a.eval o).run P w = ((Builtin.append_ #[t,t] o.type #[vx,vy]).run P w).andThen fun v w' => .ok (.value v) w') (h : (appD C o.dst t dx dy).Ok s wr) : o.wp P a w K Q := by
 unfold appD at h
 split at h
 ·rename_i e0 bytes d he hd
  obtain ⟨e,ys,h1,h2⟩ := elems_ok hI h hy
  clear h
  obtain ⟨el,te,u1,u2,u3,u4,u5⟩ := elt_of hT he
  obtain ⟨i,z,j1,j2,j3,j4,j5,j6⟩ := u2.info
  split at h1
  ·rename_i hee _
   obtain ⟨rfl⟩ := hee
   obtain ⟨B,c',hvy,y1,y2,y3,y4⟩ := h2
   have h2 : SlR (RelE R w e) e.sz R w false ys (.slice B ys.length c') := ⟨B,c',rfl,y1,y2,y3,y4⟩
   have nothing : ∀ (A : Option Addr) (n c : Nat),ys = [] → n ≤ c → (Builtin.append_ #[t,t] o.type #[.slice A n c,vy]).run P w = .ok (.slice A n c) w := by
    intro A n c hys hle
    subst hys
    obtain ⟨news,n1,n2,n3,n4⟩ := src_of (P := P) u1 h2
    have : news = [] := List.eq_nil_of_length_eq_zero (by simpa using n2)
    subst this
    rw [hvy]
    exact run_append_nothing w t t o.type el i u1 j1 A n c hle _ (by rw [j2,u4]; exact n1)
   split at h1
   ·rename_i e' xs
    split at h1
    ·rename_i hee _
     obtain ⟨rfl⟩ := hee
     simp only [M.Ok] at h1
     split at h1
     ·rename_i hob
      simp only [M.Ok] at h1
      split at h1
      rotate_left
      ·exact h1.elim
      rename_i hmk
      have hmk := mp_get hmk
      obtain ⟨hb,wr',rfl,h3⟩ := h1
      obtain ⟨A,c,hvx,g1,g2,g3,g4⟩ := hx
      have g3 := g3 rfl
      subst g3
      have hx' : SlR (RelE R w e') e'.sz R w false xs (.slice A xs.length xs.length) := ⟨A,_,rfl,g1,g2,fun x => (by cases x),g4⟩
      by_cases hys : ys = []
      ·have hr := nothing A xs.length xs.length hys (Nat.le_refl _)
       subst hys
       have hI' := hI.adopt d (ob_none hob) hmk e' xs A hx'
       have hxs : xs ++ [] = xs := List.append_nil xs
       rw [hxs] at h3
       refine wp_value (w' := w) (v := .slice A xs.length xs.length) (by rw [hop,hvx,hr]; rfl) (hK _ _ ⟨β,fun i => if i = d then (A,xs.length) else σ i,R,?_⟩)
       rw [hxs]
       refine setTmp_ok hI' h3 ?_
       exact ⟨⟨e',xs⟩,by rw [ob_set_obj,if_pos rfl],Nat.le_refl _,fun _ => by simp⟩
      ·obtain ⟨w',c'',r1,R',r2⟩ := grow_step (P := P) (ty := o.type) hT hI u1 u2 u4 d hx' h2 hys (by have := List.length_pos_iff.2 hys; omega) (fun o' ho' => by rw [ob_none hob] at ho'; cases ho') hmk (by rw [u5]; exact two_of hb)
       refine wp_value (by rw [hop,hvx,hvy,r1]; rfl) (hK _ _ ⟨β,fun i => if i = d then (some ⟨w.heap.size,0,none⟩,c'') else σ i,R',setTmp_ok r2 h3 ?_⟩)
       exact ⟨⟨e',xs ++ ys⟩,by rw [ob_set_obj,if_pos rfl],Nat.le_refl _,fun _ => by simp⟩
     ·exact h1.elim
    ·exact h1.elim
   ·rename_i k n
    simp only [M.Ok] at h1
    split at h1
    ·rename_i o' hob
     have hob := ob_of hob
     split at h1
     ·rename_i hee _
      obtain ⟨oe,oxs⟩ := o'
      obtain ⟨hee⟩ := hee
      dsimp only at hee
      subst hee
      obtain ⟨hn,hb,wr',rfl,h3⟩ := h1
      dsimp only at hn
      obtain ⟨o'',q1,q2,q3⟩ := hx
      rw [hob] at q1
      cases q1
      have hvx := q3 hn
      have hx' := (hI.obj k _ hob).sl
      dsimp only at hx'
      obtain ⟨A',c,hvx',g1,g2,g3,g4⟩ := hx'
      injection hvx' with e1 e2 e3
      have hx' : SlR (RelE R w oe) oe.sz R w false oxs (.slice (σ k).1 oxs.length (σ k).2) := (hI.obj k _ hob).sl
      by_cases hys : ys = []
      ·have hr := nothing (σ k).1 oxs.length (σ k).2 hys (by omega)
       subst hys
       have hxs : oxs ++ [] = oxs := List.append_nil oxs
       have hset : s.set (.obj k) (.ob (some ⟨oe,oxs ++ []⟩)) = s := set_same (by
        rw [hxs]
        have : s (.obj k) = .ob (some ⟨oe,oxs⟩) := by assumption
        exact this)
       refine wp_value (w' := w) (v := .slice (σ k).1 oxs.length (σ k).2) (by rw [hop,hvx,hn,hr]; rfl) (hK _ _ ⟨β,σ,R,?_⟩)
       have : s.apply ((Key.obj k,Val.ob (some ⟨oe,oxs ++ []⟩)) :: wr') = s.apply wr' := by rw [apply_cons,hset]
       rw [this]
       refine setTmp_ok hI h3 ?_
       exact ⟨⟨oe,oxs⟩,hob,by simp,fun _ => by simp⟩
      ·by_cases hroom : oxs.length + ys.length ≤ (σ k).2
       ·obtain ⟨w',r1,R',r2⟩ := room_step (P := P) (ty := o.type) hI hob u1 u2 u4 h2 hys hroom
        refine wp_value (by rw [hop,hvx,hn,hvy,r1]; rfl) (hK _ _ ⟨β,σ,R',setTmp_ok r2 h3 ?_⟩)
        exact ⟨⟨oe,oxs ++ ys⟩,by rw [ob_set_obj,if_pos rfl],Nat.le_refl _,fun _ => rfl⟩
       ·obtain ⟨w',c'',r1,R',r2⟩ := grow_step (P := P) (ty := o.type) hT hI u1 u2 u4 k hx' h2 hys (by omega) (fun o' ho' => by rw [hob] at ho'; cases ho'; simp; exact List.length_pos_iff.2 hys) (by
         cases hq : s.mp k with
         | none => rfl
         | some m => have := hI.mps.sep k m hq; rw [hob] at this; cases this) (by rw [u5]; exact two_of hb)
        refine wp_value (by rw [hop,hvx,hn,hvy,r1]; rfl) (hK _ _ ⟨β,fun i => if i = k then (some ⟨w.heap.size,0,none⟩,c'') else σ i,R',setTmp_ok r2 h3 ?_⟩)
        exact ⟨⟨oe,oxs ++ ys⟩,by rw [ob_set_obj,if_pos rfl],Nat.le_refl _,fun _ => by simp⟩
     ·exact h1.elim
    ·exact h1.elim
   ·exact h1.elim
  ·exact h1.elim
 ·exact h.elim
theorem appB_ok (hT : TabOk P C.tt) (hI : Inv C w0 R0 a w s β σ R) (hK : ∀ a' w',Holds C w0 R0 a' w' (s.apply wr) → K a' w') {t : TypeId} {dx dy : D} {vx vy : Value} (hx : RelT β σ s R w dx vx) (hy : RelT β σ s R w dy vy)
  (hop : ∀ w,(execOp a.eval o).run P w = ((Builtin.append_ #[t,t] o.type #[vx,vy]).run P w).andThen fun v w' => .ok (.value v) w') (h : (appB C o.dst t dx dy).Ok s wr) : o.wp P a w K Q := by
 unfold appB at h
 split at h
 ·rename_i e0 bytes d he hd
  obtain ⟨e,ys,h1,h2⟩ := elems_ok hI h hy
  clear h
  obtain ⟨el,te,u1,u2,u3,u4,u5⟩ := elt_of hT he
  obtain ⟨i,z,j1,j2,j3,j4,j5,j6⟩ := u2.info
  split at h1
  ·rename_i hee _
   obtain ⟨rfl⟩ := hee
   obtain ⟨B,c',hvy,y1,y2,y3,y4⟩ := h2
   have h2 : SlR (RelE R w e) e.sz R w false ys (.slice B ys.length c') := ⟨B,c',rfl,y1,y2,y3,y4⟩
   split at h1
   ·rename_i e'
    split at h1
    ·rename_i hee _
     obtain ⟨rfl⟩ := hee
     simp only [M.Ok] at h1
     split at h1
     ·rename_i hob
      simp only [M.Ok] at h1
      split at h1
      rotate_left
      ·exact h1.elim
      rename_i hmk
      have hmk := mp_get hmk
      obtain ⟨hb,wr',rfl,h3⟩ := h1
      obtain ⟨A,c,hvx,g1,g2,g3,g4⟩ := hx
      have g3 := g3 rfl
      subst g3
      have hx' : SlR (RelE R w e') e'.sz R w false [] (.slice A ([] : List e'.α).length ([] : List e'.α).length) := ⟨A,_,rfl,g1,g2,fun x => (by cases x),g4⟩
      by_cases hys : ys = []
      ·subst hys
       obtain ⟨news,n1,n2,n3,n4⟩ := src_of (P := P) u1 h2
       have : news = [] := List.eq_nil_of_length_eq_zero (by simpa using n2)
       subst this
       have hr : (Builtin.append_ #[t,t] o.type #[.slice A ([] : List e'.α).length ([] : List e'.α).length,vy]).run P w = .ok (.slice A 0 0) w := by
        rw [hvy]
        exact run_append_nothing w t t o.type el i u1 j1 A 0 0 (Nat.le_refl _) _ (by rw [j2,u4]; exact n1)
       have hI' := hI.adopt d (ob_none hob) hmk e' [] A hx'
       refine wp_value (w' := w) (v := .slice A 0 0) (by rw [hop,hvx,hr]; rfl) (hK _ _ ⟨β,fun i => if i = d then (A,0) else σ i,R,?_⟩)
       refine setTmp_ok hI' h3 ?_
       exact ⟨⟨e',[]⟩,by rw [ob_set_obj,if_pos rfl],Nat.le_refl _,fun _ => by simp⟩
      ·obtain ⟨w',c'',r1,R',r2⟩ := grow_step (P := P) (ty := o.type) hT hI u1 u2 u4 d hx' h2 hys (by have := List.length_pos_iff.2 hys; simp; omega) (fun o' ho' => by rw [ob_none hob] at ho'; cases ho') hmk (by rw [u5]; exact hb)
       refine wp_value (by rw [hop,hvx,hvy,r1]; rfl) (hK _ _ ⟨β,fun i => if i = d then (some ⟨w.heap.size,0,none⟩,c'') else σ i,R',setTmp_ok r2 h3 ?_⟩)
       exact ⟨⟨e',ys⟩,by rw [ob_set_obj,if_pos rfl]; rfl,Nat.le_refl _,fun _ => by simp⟩
     ·exact h1.elim
    ·exact h1.elim
   ·exact h1.elim
  ·exact h1.elim
 ·exact h.elim
theorem appX_ok (hT : TabOk P C.tt) (hI : Inv C w0 R0 a w s β σ R) (hK : ∀ a' w',Holds C w0 R0 a' w' (s.apply wr) → K a' w') {orc : List (Nat × D)} {t : TypeId} {dx dy : D} {vx vy : Value} (hx : RelT β σ s R w dx vx) (hy : RelT β σ s R w dy vy)
  (hop : ∀ w,(execOp a.eval o).run P w = ((Builtin.append_ #[t,t] o.type #[vx,vy]).run P w).andThen fun v w' => .ok (.value v) w') (h : (appX C o.dst orc t dx dy).Ok s wr) : o.wp P a w K Q := by
 have hnil : isNilSl dx = true → ∃ A,vx = .slice A 0 0 := fun h => by
  unfold isNilSl at h
  split at h
  ·obtain ⟨A,c,hv,_,_,g3,_⟩ := hx
   have := g3 rfl
   subst this
   exact ⟨A,hv⟩
  ·cases h
 unfold appX at h
 split at h
 ·rename_i i n
  split at h
  ·rename_i bytes d hnx he hd
   simp only [M.Ok] at h
   split at h
   ·rename_i zs hbx
    have hbx := rw_of hbx
    have hz := allI_intC zs
    ·simp only [M.Ok] at h
     split at h
     ·rename_i hob
      simp only [M.Ok] at h
      split at h
      ·rename_i hmk
       obtain ⟨⟨hn,hpos,hb⟩,wr',rfl,h3⟩ := h
       obtain ⟨_,c',hc1,hc2,hvy⟩ := hy
       obtain ⟨A,hvx⟩ := hnil hnx
       obtain ⟨el,te,u1,u2,u3,u4,u5⟩ := elt_of hT he
       obtain ⟨arr,el',p1,p2⟩ := (hI.box i _ hbx).all
       have hvs := allI_tc _ _ _ hz p2
       have hlz : zs.length = n := hn.symm
       have hcell : ∀ (q : Nat) (x : Int),zs[q]? = some x → arr[q]? = some (.int .i64 x) := fun q x hq => by
        have h1 : (arr.toList.take (intC zs).length)[q]? = some (.int .i64 x) := by rw [hvs,List.getElem?_map,hq]; rfl
        rw [List.getElem?_take] at h1
        split at h1
        ·simpa using h1
        ·cases h1
       have hsl : SlR (RelE (fun b _ => b = β i) w .int) 1 (fun b _ => b = β i) w false zs (.slice (some ⟨β i,0,none⟩) zs.length c') := by
        refine ⟨_,c',rfl,Nat.le_trans (Nat.le_of_eq hlz) hc1,hc2,fun x => (by cases x),fun _ => ⟨β i,0,rfl,fun q x hq => ⟨[.int .i64 x],rfl,rfl,fun j u hu => ⟨rfl,?_⟩⟩⟩⟩
        cases j with
        | zero =>
         cases hu
         rw [cell_of p1]
         have := hcell q x hq
         simpa using this
        | succ j => simp at hu
       have hx0 : SlR (RelE R w .int) E.int.sz R w false ([] : List E.int.α) (.slice A ([] : List E.int.α).length 0) := ⟨A,0,rfl,Nat.zero_le _,Nat.zero_le _,fun x => (by cases x),fun x => absurd x (by simp)⟩
       have hne : zs ≠ [] := fun e => by rw [e] at hlz; simp at hlz; omega
       obtain ⟨w',c'',r1,R',r2⟩ := grow_step' (P := P) (ty := o.type) (e := .int) hT hI u1 u2 u4 d hx0 hsl (fun _ _ h => h) hne (by show 0 < 0 + zs.length; omega) (fun o' ho' => by rw [ob_none hob] at ho'; cases ho') (mp_get hmk) (two_of (show zs.length * (te.bytes + 1) ≤ _ by rw [hlz,u5]; exact hb))
       have r1' : (Builtin.append_ #[t,t] o.type #[.slice A 0 0,.slice (some ⟨β i,0,none⟩) n c']).run P w = .ok (.slice (some ⟨w.heap.size,0,none⟩) zs.length c'') w' := by subst hlz; exact r1
       refine wp_value (by rw [hop,hvx,hvy,r1']; rfl) (hK _ _ ⟨β,fun i => if i = d then (some ⟨w.heap.size,0,none⟩,c'') else σ i,R',setTmp_ok r2 h3 ?_⟩)
       exact ⟨⟨.int,zs⟩,by rw [ob_set_obj,if_pos rfl]; rfl,Nat.le_refl _,fun _ => by simp only [if_true]⟩
      ·exact h.elim
     ·exact h.elim
   ·exact h.elim
  ·exact h.elim
 ·split at h
  ·split at h
   ·exact append_ok hT hI hK (typed_rel hx) (typed_rel hy) hop h
   ·exact appB_ok hT hI hK (typed_rel hx) (typed_rel hy) hop h
  ·split at h
   ·rename_i bytes d hnx he hd
    obtain ⟨e,ys,h1,h2⟩ := elems_ok hI h hy
    split at h1
    ·rename_i hee _
     obtain ⟨rfl⟩ := hee
     simp only [M.Ok] at h1
     split at h1
     ·rename_i hbx
      obtain ⟨⟨hpos,hb⟩,wr',rfl,h3⟩ := h1
      obtain ⟨A,hvx⟩ := hnil hnx
      obtain ⟨el,te,u1,u2,u3,u4,u5⟩ := elt_of hT he
      obtain ⟨B,c',hvy,y1,y2,y3,y4⟩ := h2
      have h2 : SlR (RelE R w .int) 1 R w false ys (.slice B ys.length c') := ⟨B,c',rfl,y1,y2,y3,y4⟩
      have hne : ys ≠ [] := fun e => by subst e; exact absurd hpos (by simp)
      obtain ⟨w',c'',r1,r2,r3,r4⟩ := grow_box (P := P) (ty := o.type) (A := A) hT hI u1 u2 u4 d (bx_of hbx) h2 hne (by rw [u5]; exact hb)
      have r1' : (Builtin.append_ #[t,t] o.type #[.slice A 0 0,.slice B ys.length c']).run P w = .ok (.slice (some ⟨w.heap.size,0,none⟩) ys.length c'') w' := r1
      refine wp_value (by rw [hop,hvx,hvy,r1']; rfl) (hK _ _ ⟨fun i => if i = d then w.heap.size else β i,σ,R,setTmp_ok (Inv.rw_box (zs := ys) r4) h3 ?_⟩)
      exact ⟨⟨(⟨false,intC ys⟩ : Box),(bx_set_rw s d d ys).trans (if_pos rfl)⟩,c'',r2,r3,by simp⟩
     ·exact h1.elim
    ·exact h1.elim
   ·exact h.elim
end
end Go.Di

