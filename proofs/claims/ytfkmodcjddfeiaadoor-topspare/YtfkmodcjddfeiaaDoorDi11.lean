/- Part 11: an interpreter over plain data for this code, with the proof that it says what the model does, and the contracts of the functions. No condition. -/
import Derived.Test.YtfkmodcjddfeiaaDoorDi10
import Derived.Maps.RangeRun
set_option linter.unusedVariables false
set_option linter.unusedSimpArgs false
/-
 DI,part R: the frame of a range over a function: what its invariant is between two rounds,and one round.
-/
namespace Go.Di
open Go.RowKit

section
variable {P : Program} {C C' : Cfg} {w0 w w' : World} {R0 R : Foot} {a : Act} {s : St} {β : Nat → Nat} {σ : Sig}

theorem Inv.turn (h : Inv C w0 R0 a w s β σ R) (hn : C'.nt = C.nt) (hg : C'.glob = C.glob) (hd : C'.dfs = C.dfs) (hx : ∀ i ∈ C'.fixed,a.tmps.getD i undef = C'.fv i) (hf : Far C' w0 w s β σ R) : Inv C' w0 R0 a w s β σ R :=
 ⟨h.below,by rw [hd]; exact h.defers,hx,by rw [hn]; exact h.nt,h.sub,h.dom,fun g cs hc => h.glob g cs (by rw [← hg]; exact hc),h.tmps,h.box,h.inj,h.obj,hf,h.mps⟩

theorem Inv.elsewhere (h : Inv C w0 R0 a w s β σ R) (hbel : Below w0.heap.size w0 w') (hsz : w'.heap.size = w.heap.size) {X : Nat → Prop} (hsame : ∀ b,¬ X b → w'.heap[b]? = w.heap[b]?)
  (hX : ∀ b,X b → (∀ o u,R b o → w.cell? ⟨b,o,none⟩ = some u → w'.cell? ⟨b,o,none⟩ = some u) ∧ (∀ es c,w.heap[b]? = some (.map es c) → w'.heap[b]? = some (.map es c)) ∧ (∀ i x,s.bx i = some x → β i ≠ b) ∧
   ∀ k o,s.ob k = some o → o.xs.length < (σ k).2 → ∀ ad,(σ k).1 = some ad → ad.block ≠ b) (hf : Far C w0 w' s β σ R) : Inv C w0 R0 a w' s β σ R := by
 have hk : Keeps R R w w' := by
  refine ⟨fun _ _ h => h,fun b o u hr hc => ?_,fun b es c hr hm => ?_⟩
  ·by_cases hx : X b
   ·exact (hX b hx).1 o u hr hc
   ·simp only [World.cell?] at hc ⊢
    rw [hsame b hx]; exact hc
  ·by_cases hx : X b
   ·exact (hX b hx).2.1 es c hm
   ·rw [hsame b hx]; exact hm
 refine ⟨hbel,h.defers,h.fix,h.nt,h.sub,fun b o hr => by rw [hsz]; exact h.dom b o hr,fun g cs hg => Rel.keep hk _ _ (h.glob g cs hg),fun i => RelT.world hk _ _ (h.tmps i),fun i b hb => ?_,h.inj,fun k o ho => ?_,hf,h.mps.step (fun _ _ h => h) (fun _ _ _ => rfl) (fun g ⟨es,c,hg⟩ _ => by
  by_cases hx : X g
  ·rw [(hX g hx).2.1 es c hg,hg]
  ·exact hsame g hx) (fun _ _ h => h) (fun _ _ _ h => h)⟩
 ·have hne : ¬ X (β i) := fun hx => (hX _ hx).2.2.1 i b hb rfl
  obtain ⟨p1,⟨arr,el,p2,p3,p4,p5⟩,p6⟩ := h.box i b hb
  exact ⟨p1,⟨arr,el,by rw [hsame _ hne]; exact p2,fun x => (p3 x).imp (RelC.keep hk),fun x => (p4 x).imp (RelTC.world hk),p5⟩,p6⟩
 ·obtain ⟨p1,p2⟩ := h.obj k o ho
  refine ⟨SlR.keep hk (fun x vs hx => RelE.keep hk _ x vs hx) p1,fun hl => ?_⟩
  obtain ⟨g,off,q1,q2,⟨arr,el,q3,q3'⟩,q4,q5,q6⟩ := p2 hl
  have hne : ¬ X g := fun hx => (hX _ hx).2.2.2 k o ho hl _ q1 rfl
  exact ⟨g,off,q1,q2,⟨arr,el,by rw [hsame _ hne]; exact q3,q3'⟩,q4,q5,q6⟩

/-- The configuration of the invariant between two rounds. -/
def CJ (C : Cfg) (KE N : Nat → Prop) (W : World) : Cfg := { C with ke := KE,no := N,w1 := W }
def JI (C : Cfg) (w0 : World) (R0 : Foot) (a0 : Act) {α : Type} (S : List α → List (Key × Val)) (KE : Nat → Prop) : List α → (Nat → Prop) → World → Prop :=
 fun pre N W => ∃ β σ R,Inv (CJ C KE N W) w0 R0 a0 W (ofL (S pre)) β σ R

theorem spare_lt (h : Inv C w0 R0 a w s β σ R) {k : Nat} {o : Ob} (ho : s.ob k = some o) (hl : o.xs.length < (σ k).2) {ad : Addr} (ha : (σ k).1 = some ad) : ad.block < w.heap.size ∧ ∃ arr el,w.heap[ad.block]? = some (.cells arr el (0,0)) := by
 obtain ⟨g,off,q1,q2,⟨arr,el,q3,q3'⟩,_⟩ := (h.obj k o ho).spare hl
 rw [q1] at ha
 cases ha
 exact ⟨(Array.getElem?_eq_some_iff.1 q3).1,arr,el,q3⟩

theorem ji_abides {α : Type} (S : List α → List (Key × Val)) (KE : Nat → Prop) (a0 : Act) : Abides (JI C w0 R0 a0 S KE) := by
 refine ⟨fun pre N N' W W' h hb hN => ?_,fun pre N W W' g h hg hw => ?_⟩
 ·obtain ⟨β,σ,R,hI⟩ := h
  have hI' := hI.later (w' := W') hb (fun _ _ h => h) (fun b o hr => ⟨Nat.lt_of_lt_of_le (hI.dom b o hr).1 hb.size,.inl hr⟩)
  have h0 := hI.below.size
  refine ⟨β,σ,R,hI'.turn rfl rfl rfl hI'.fix ⟨Nat.le_refl _,fun b hb' => ?_,fun b hb' => ?_⟩⟩
  ·obtain ⟨p1,p2,p3,p4⟩ := hI'.far.ke b hb'
   exact ⟨p1,rfl,p3,p4⟩
  ·rcases hN b hb' with h | ⟨h1,h2⟩
   ·obtain ⟨p1,p2,p3,p4,p5⟩ := hI'.far.no b h
    exact ⟨p1,p2,p3,p4,p5⟩
   ·refine ⟨by omega,h2,fun o hr => ?_,fun i x hi => ?_,fun k o ho hl ad ha => ?_⟩
    ·have := (hI.dom b o hr).1; omega
    ·have := hI.box_lt hi; omega
    ·have := (spare_lt hI ho hl ha).1; omega
 ·obtain ⟨β,σ,R,hI⟩ := h
  obtain ⟨n1,n2,n3,n4,n5⟩ := hI.far.no g hg
  have hbel : Below w0.heap.size w0 W' := hI.below.trans ⟨hw.same.1,hw.same.2.1,hw.same.2.2.1,by rw [hw.same.2.2.2]; exact Nat.le_refl _,fun k hk => hw.other k (by omega)⟩
  have hfar : Far (CJ C KE N W) w0 W' (ofL (S pre)) β σ R ∨ True := .inr trivial
  have := (hI.turn (C' := { CJ C KE N W' with ke := fun _ => False }) rfl rfl rfl hI.fix ⟨by show W'.heap.size ≤ W.heap.size; rw [hw.same.2.2.2]; exact Nat.le_refl _,fun b hb => hb.elim,hI.far.no⟩).elsewhere (w' := W') hbel hw.same.2.2.2 (X := fun b => b = g) (fun b hb => hw.other b hb)
   (fun b hb => by
    subst hb
    obtain ⟨arr,arr',el,el',q1,q2⟩ := hw.block
    exact ⟨fun o u hr => absurd hr (n3 o),fun es c hm => (by rw [q1] at hm; cases hm),n4,n5⟩)
   ⟨Nat.le_refl _,fun b hb => hb.elim,fun b hb => by
    obtain ⟨p1,p2,p3,p4,p5⟩ := hI.far.no b hb
    exact ⟨p1,by rw [hw.same.2.2.2]; exact p2,p3,p4,p5⟩⟩
  refine ⟨β,σ,R,this.turn rfl rfl rfl this.fix ⟨Nat.le_refl _,fun b hb => ?_,this.far.no⟩⟩
  obtain ⟨p1,p2,p3,p4⟩ := hI.far.ke b hb
  exact ⟨by rw [hw.same.2.2.2]; exact p1,rfl,p3,p4⟩

theorem Inv.put_obj (h : Inv C w0 R0 a w s β σ R) {l : Nat} {o : Obj} (o' : Obj) (hl : w.heap[l]? = some o) (hc : o.isCells = false) (hw : o.isWalk = false) (h0 : w0.heap.size ≤ l) (hk : ¬ C.ke l) (hn : ¬ C.no l) : Inv C w0 R0 a (w.putObj l o') s β σ R := by
 have hlt : l < w.heap.size := (Array.getElem?_eq_some_iff.1 hl).1
 have hsz : (w.putObj l o').heap.size = w.heap.size := by simp [World.putObj]
 have hoth : ∀ b,b ≠ l → (w.putObj l o').heap[b]? = w.heap[b]? := fun b hb => World.putObj_heap_other hb
 refine h.elsewhere (h.below.trans ⟨rfl,rfl,rfl,by rw [hsz]; exact Nat.le_refl _,fun k hk' => hoth k (by omega)⟩) hsz (X := fun b => b = l) (fun b hb => hoth b hb) (fun b hb => ?_) ⟨by rw [hsz]; exact h.far.sz,fun b hb => ?_,fun b hb => ?_⟩
 ·subst hb
  refine ⟨fun o'' u hr hcell => ?_,fun es c hm => ?_,fun i x hi e => ?_,fun k o'' ho hsp ad ha e => ?_⟩
  ·simp only [World.cell?,hl] at hcell
   cases o <;> simp_all [Obj.isCells]
  ·rw [hl] at hm
   cases hm
   cases hw
  ·obtain ⟨arr,el,hh,_⟩ := (h.box i x hi).cells
   rw [e,hl] at hh
   cases hh
   cases hc
  ·obtain ⟨_,arr,el,hh⟩ := spare_lt h ho hsp ha
   rw [e,hl] at hh
   cases hh
   cases hc
 ·obtain ⟨p1,p2,p3,p4⟩ := h.far.ke b hb
  exact ⟨by rw [hsz]; exact p1,by rw [hoth b (fun e => hk (e ▸ hb))]; exact p2,p3,p4⟩
 ·obtain ⟨p1,p2,p3,p4,p5⟩ := h.far.no b hb
  exact ⟨p1,by rw [hsz]; exact p2,p3,p4,p5⟩

theorem ji_put {α : Type} (S : List α → List (Key × Val)) (KE : Nat → Prop) (a0 : Act) {B : Nat} (hB : w0.heap.size ≤ B) (hKE : ∀ b,KE b → b < B) : ∀ (pre : List α) (N : Nat → Prop) (W : World) (l : Nat) (o o' : Obj),JI C w0 R0 a0 S KE pre N W → B ≤ l → ¬ N l → W.heap[l]? = some o → o.isCells = false → o.isWalk = false → JI C w0 R0 a0 S KE pre N (W.putObj l o') := by
 rintro pre N W l o o' ⟨β,σ,R,hI⟩ hl hN ho hc hw
 have hk : ¬ KE l := fun h => by have := hKE l h; omega
 have := hI.put_obj o' ho hc hw (by omega) hk hN
 refine ⟨β,σ,R,this.turn rfl rfl rfl this.fix ⟨Nat.le_refl _,fun b hb => ?_,this.far.no⟩⟩
 obtain ⟨p1,p2,p3,p4⟩ := this.far.ke b hb
 exact ⟨p1,rfl,p3,p4⟩

/-- The configuration of a round. -/
def mkR (P : Program) (tt : TypeId → Option TI) (glob : Nat → Option (List D)) (n : Nat) (ke no : Nat → Prop) (w1 : World) (fx : List Nat) (fv : Nat → Value) : Cfg :=
 { tt := tt,glob := glob,con := fun f args r => Contract P glob f args r,nt := n,lk := fun _ _ _ _ => False,inr := true,ke := ke,no := no,w1 := w1,fixed := fx,fv := fv }
theorem goodR {tt : TypeId → Option TI} {glob : Nat → Option (List D)} {n : Nat} {ke no : Nat → Prop} {w1 : World} {fx : List Nat} {fv : Nat → Value} (hm : P.follows .mixedOrders = true) (hT : TabOk P tt) : Good P (mkR P tt glob n ke no w1 fx fv) :=
 ⟨hm,hT,fun _ _ _ h => h,fun _ _ _ _ h => h.elim⟩

theorem three_four {p q r t : Prop} (h : p ∨ q ∨ t) : p ∨ q ∨ r ∨ t := h.elim .inl fun h => h.elim (fun h => .inr (.inl h)) fun h => .inr (.inr (.inr h))

theorem Inv.learn (h : Inv C w0 R0 a w s β σ R) {R' : Foot} (h1 : ∀ b o,R' b o → b < w.heap.size ∧ w0.heap.size ≤ b) (h2 : ∀ b o,R' b o → ¬ C.no b) (h3 : ∀ b o,R' b o → ∀ i x,s.bx i = some x → β i ≠ b)
  (h4 : ∀ b o,R' b o → ∀ k ob,s.ob k = some ob → ob.xs.length < (σ k).2 → ∀ ad,(σ k).1 = some ad → ad.block ≠ b) (h5 : ∀ i,s.mp i = none) : Inv C w0 R0 a w s β σ (fun b o => R b o ∨ R' b o) := by
 have hk : Keeps R (fun b o => R b o ∨ R' b o) w w := ⟨fun _ _ h => .inl h,fun _ _ _ _ h => h,fun _ _ _ _ h => h⟩
 refine ⟨h.below,h.defers,h.fix,h.nt,fun b o hr => .inl (h.sub b o hr),fun b o hr => ?_,fun g cs hg => Rel.keep hk _ _ (h.glob g cs hg),fun i => RelT.world hk _ _ (h.tmps i),fun i b hb => ?_,h.inj,fun k o ho => ?_,⟨h.far.sz,h.far.ke,fun b hb => ?_⟩,.none h5⟩
 ·rcases hr with hr | hr
  ·exact h.dom b o hr
  ·exact ⟨(h1 b o hr).1,.inr (h1 b o hr).2⟩
 ·obtain ⟨p1,⟨arr,el,p2,p3,p4,p5⟩,p6⟩ := h.box i b hb
  refine ⟨p1,⟨arr,el,p2,fun x => (p3 x).imp (RelC.keep hk),fun x => (p4 x).imp (RelTC.world hk),fun x j hj => .inl (p5 x j hj)⟩,fun hf o hr => ?_⟩
  rcases hr with hr | hr
  ·exact p6 hf o hr
  ·exact h3 _ _ hr i b hb rfl
 ·obtain ⟨p1,p2⟩ := h.obj k o ho
  refine ⟨SlR.keep hk (fun x vs hx => RelE.keep hk _ x vs hx) p1,fun hl => ?_⟩
  obtain ⟨g,off,q1,q2,q3,q4,q5,q6⟩ := p2 hl
  refine ⟨g,off,q1,q2,q3,q4,q5,fun q hq hr => ?_⟩
  rcases hr with hr | hr
  ·exact q6 q hq hr
  ·exact h4 _ _ hr k o ho hl _ q1 rfl
 ·obtain ⟨p1,p2,p3,p4,p5⟩ := h.far.no b hb
  refine ⟨p1,p2,fun o hr => ?_,p4,p5⟩
  rcases hr with hr | hr
  ·exact p3 o hr
  ·exact h2 b o hr hb

theorem ji_round {tt : TypeId → Option TI} {glob : Nat → Option (List D)} {n : Nat} {α : Type} {S : List α → List (Key × Val)} {S1 : List α → α → List (Key × Val)} {fx : List Nat} {t : Nat} {dx : α → D} {Told : (Nat → Prop) → α → Array Value → World → Prop} {xs : List α} {KE : Nat → Prop} {a0 : Act}
  {assign body : Code} {B : Nat} (hB0 : w0.heap.size ≤ B) (hKE : ∀ b,KE b → b < B) (hv : ∀ T x vs W,Told T x vs W → ∃ v R',vs = #[v] ∧ (∀ b o,R' b o → R0 b o ∨ T b) ∧ Rel R' W (dx x) v) (ht : t < n) (htx : t ∉ fx) (hSt : ∀ pre i,i ∉ fx → (ofL (S pre)).tmp i = .undef) (hSm : ∀ pre i,(ofL (S pre)).mp i = none)
  (hA : ∀ pre x ke no w1 fv,(∃ post,pre ++ x :: post = xs) → WpL P (mkR P tt glob n ke no w1 fx fv) assign ((.tmp t,.d (dx x)) :: S pre) (fun e L' => e = .normal ∧ L' = S1 pre x))
  (hB : ∀ pre x ke no w1 fv,(∃ post,pre ++ x :: post = xs) → WpL P (mkR P tt glob n ke no w1 fx fv) body (S1 pre x) (fun e L' => e = .normal ∧ L' = S (pre ++ [x]))) :
  ∀ l D' pre x vs N T W,JI (mk0 glob n) w0 R0 a0 S KE pre N W → (∃ post,pre ++ x :: post = xs) → (∀ b,T b → N b) → Told T x vs W → B ≤ D' → D' < l → ¬ N l → ¬ N D' → l < W.heap.size → (∃ o,W.heap[l]? = some o ∧ o.isCells = false ∧ o.isWalk = false) → (∃ o,W.heap[D']? = some o ∧ o.isCells = false ∧ o.isWalk = false) →
   assign.wpIn (FR (some l)) 0 P (Exit.then (fun a1 W1 => W1.heap[l]? = W.heap[l]? ∧ W1.heap[D']? = W.heap[D']? ∧ W.heap.size ≤ W1.heap.size ∧
    ∀ o',o'.isCells = false → o'.isWalk = false → body.wpIn (FR (some l)) 0 P (fun e a' W' => e = .normal ∧ W'.heap[l]? = some o' ∧ W'.heap[D']? = W.heap[D']? ∧ JI (mk0 glob n) w0 R0 a0 S KE (pre ++ [x]) (Less N T) W' ∧ Stays KE (Less N T) W W') a1 (W1.putObj l o')) (fun _ _ _ => False))
    { tmps := ((#[t] : Array Nat).zip vs).foldl (fun t (p,v) => t.setIfInBounds p v) a0.tmps,defers := [] } W := by
 rintro l D' pre x vs N T W ⟨β,σ,R,hI⟩ hx hT htold hD hDl hnl hnd hlt ⟨ol,hol,hoc,how⟩ ⟨od,hod,hdc,hdw⟩
 obtain ⟨vx,R',rfl,hR',hvx⟩ := hv T x vs W htold
 have hdf : a0.defers = [] := hI.defers
 have hact : ({ tmps := ((#[t] : Array Nat).zip #[vx]).foldl (fun t (p,v) => t.setIfInBounds p v) a0.tmps,defers := [] } : Act) = a0.put (some t) vx := by
  rw [← hdf]
  simp [Act.put]
 rw [hact]
 have hna0 : t < a0.tmps.size := Nat.lt_of_lt_of_le ht hI.nt
 have hIt : Inv (CJ (mk0 glob n) KE (Less N T) W) w0 R0 a0 W (ofL (S pre)) β σ R := hI.turn rfl rfl rfl (fun i hi => by cases hi) ⟨Nat.le_refl _,hI.far.ke,fun b hb => hI.far.no b hb.1⟩
 have hIl := hIt.learn (R' := fun b o => R' b o ∧ T b) (fun b o hr => ⟨(hI.far.no b (hT b hr.2)).2.1,(hI.far.no b (hT b hr.2)).1⟩) (fun b o hr hb => hb.2 hr.2) (fun b o hr => (hI.far.no b (hT b hr.2)).2.2.2.1) (fun b o hr => (hI.far.no b (hT b hr.2)).2.2.2.2) (hSm pre)
 have hp := hIl.put t ht (by simp [CJ,mk0]) (x := dx x) (v := vx) (RelT.ofRel (Rel.keep (R := R') ⟨fun b o h => (hR' b o h).elim (fun h0 => .inl (hI.sub b o h0)) fun ht => .inr ⟨h,ht⟩,fun _ _ _ _ h => h,fun _ _ _ _ h => h⟩ _ _ hvx))
 have notcells : ∀ (k : Nat) (o : Obj),W.heap[k]? = some o → o.isCells = false → ∀ arr el f,W.heap[k]? ≠ some (.cells arr el f) := by
  intro k o h1 h2 arr el f h3
  rw [h1] at h3
  cases h3
  cases h2
 have hI1 : Inv (mkR P tt glob n (fun b => KE b ∨ Less N T b ∨ b = l ∨ b = D') (Less N T) W fx (fun i => a0.tmps.getD i undef)) w0 R0 (a0.put (some t) vx) W (ofL ((.tmp t,.d (dx x)) :: S pre)) β σ (fun b o => R b o ∨ (R' b o ∧ T b)) := by
  refine hp.turn rfl rfl rfl (fun i hi => ?_) ⟨Nat.le_refl _,fun b hb => ?_,fun b hb => hp.far.no b hb⟩
  ·rw [getD_put a0 t vx i hna0,if_neg (fun (e : t = i) => htx (by rw [e]; exact hi))]
   rfl
  ·rcases hb with hb | hb | rfl | rfl
   ·obtain ⟨p1,p2,p3,p4⟩ := hp.far.ke b hb
    exact ⟨p1,rfl,p3,p4⟩
   ·obtain ⟨p1,p2,p3,p4,p5⟩ := hp.far.no b hb
    exact ⟨p2,rfl,fun i x hi _ => p4 i x hi,p5⟩
   ·refine ⟨hlt,rfl,fun i x hi _ e => ?_,fun k o ho hl ad ha e => ?_⟩
    ·obtain ⟨arr,el,hh,_⟩ := (hp.box i x hi).cells
     rw [e] at hh
     exact notcells b ol hol hoc _ _ _ hh
    ·obtain ⟨_,arr,el,hh⟩ := spare_lt hp ho hl ha
     rw [e] at hh
     exact notcells b ol hol hoc _ _ _ hh
   ·refine ⟨by omega,rfl,fun i x hi _ e => ?_,fun k o ho hl ad ha e => ?_⟩
    ·obtain ⟨arr,el,hh,_⟩ := (hp.box i x hi).cells
     rw [e] at hh
     exact notcells b od hod hdc _ _ _ hh
    ·obtain ⟨_,arr,el,hh⟩ := spare_lt hp ho hl ha
     rw [e] at hh
     exact notcells b od hod hdc _ _ _ hh
 refine hA pre x _ _ _ _ hx w0 R0 _ W _ (some l) 0 (fun h => by cases h) ⟨_,_,_,hI1⟩ fun e L' a1 W1 hpost hH1 => ?_
 obtain ⟨rfl,rfl⟩ := hpost
 obtain ⟨β1,σ1,R1,hI2⟩ := hH1
 have hkl := hI2.far.ke l (.inr (.inr (.inl rfl)))
 have hkd := hI2.far.ke D' (.inr (.inr (.inr rfl)))
 have hl1 : W1.heap[l]? = W.heap[l]? := hkl.2.1
 have hd1 : W1.heap[D']? = W.heap[D']? := hkd.2.1
 have hsz1 : W.heap.size ≤ W1.heap.size := hI2.far.sz
 refine ⟨hl1,hd1,hsz1,fun o' hoc' how' => ?_⟩
 have hne : l ≠ D' := by omega
 have hkel : ¬ KE l := fun h => by have := hKE l h; omega
 -- the record turns
 have hI3 : Inv (mkR P tt glob n (fun b => KE b ∨ Less N T b ∨ b = D') (Less N T) W fx (fun i => a0.tmps.getD i undef)) w0 R0 a1 W1 (ofL (S1 pre x)) β1 σ1 R1 :=
  hI2.turn rfl rfl rfl hI2.fix ⟨hI2.far.sz,fun b hb => hI2.far.ke b (three_four hb),hI2.far.no⟩
 have hI4 := hI3.put_obj o' (by rw [hl1]; exact hol) hoc how (by omega) (fun h => h.elim hkel fun h => h.elim (fun h => hnl h.1) fun h => hne h) (fun h => hnl h.1)
 have hlt1 : l < W1.heap.size := by omega
 have hpl : (W1.putObj l o').heap[l]? = some o' := World.putObj_heap_same hlt1
 have notcells' : ∀ arr el f,(W1.putObj l o').heap[l]? ≠ some (.cells arr el f) := by
  intro arr el f h3
  rw [hpl] at h3
  cases h3
  cases hoc'
 have hI5 : Inv (mkR P tt glob n (fun b => KE b ∨ Less N T b ∨ b = l ∨ b = D') (Less N T) (W1.putObj l o') fx (fun i => a0.tmps.getD i undef)) w0 R0 a1 (W1.putObj l o') (ofL (S1 pre x)) β1 σ1 R1 := by
  refine hI4.turn rfl rfl rfl hI4.fix ⟨Nat.le_refl _,fun b hb => ?_,hI4.far.no⟩
  rcases hb with hb | hb | rfl | hb
  ·obtain ⟨p1,p2,p3,p4⟩ := hI4.far.ke b (.inl hb)
   exact ⟨p1,rfl,p3,p4⟩
  ·obtain ⟨p1,p2,p3,p4⟩ := hI4.far.ke b (.inr (.inl hb))
   exact ⟨p1,rfl,p3,p4⟩
  ·refine ⟨(Array.getElem?_eq_some_iff.1 hpl).1,rfl,fun i x hi _ e => ?_,fun k o ho hl ad ha e => ?_⟩
   ·obtain ⟨arr,el,hh,_⟩ := (hI4.box i x hi).cells
    rw [e] at hh
    exact notcells' _ _ _ hh
   ·obtain ⟨_,arr,el,hh⟩ := spare_lt hI4 ho hl ha
    rw [e] at hh
    exact notcells' _ _ _ hh
  ·obtain ⟨p1,p2,p3,p4⟩ := hI4.far.ke b (.inr (.inr hb))
   exact ⟨p1,rfl,p3,p4⟩
 refine hB pre x _ _ _ _ hx w0 R0 a1 _ _ (some l) 0 (fun h => by cases h) ⟨_,_,_,hI5⟩ fun e L' a' W' hpost hH2 => ?_
 obtain ⟨rfl,rfl⟩ := hpost
 obtain ⟨β2,σ2,R2,hI6⟩ := hH2
 have hszp : (W1.putObj l o').heap.size = W1.heap.size := by simp [World.putObj]
 have hsz2 := hI6.far.sz
 have hsz3 : W.heap.size ≤ W'.heap.size := Nat.le_trans hsz1 (by rw [← hszp]; exact hsz2)
 have keep2 : ∀ b,(KE b ∨ Less N T b ∨ b = D') → W'.heap[b]? = W.heap[b]? := by
  intro b hb
  have h1 := (hI6.far.ke b (three_four hb)).2.1
  have h2 := (hI2.far.ke b (three_four hb)).2.1
  have hbl : b ≠ l := by
   rintro rfl
   exact hb.elim hkel fun h => h.elim (fun h => hnl h.1) fun h => hne h
  exact h1.trans ((World.putObj_heap_other hbl).trans h2)
 refine ⟨rfl,(hI6.far.ke l (.inr (.inr (.inl rfl)))).2.1.trans hpl,keep2 D' (.inr (.inr rfl)),⟨β2,σ2,R2,?_⟩,⟨hsz3,fun b hb => keep2 b (.inr (.inl hb)),fun b hb => keep2 b (.inl hb)⟩⟩
 -- back to the loop's own frame
 refine ⟨hI6.below,hdf,fun i hi => (by cases hi),hI.nt,hI6.sub,hI6.dom,hI6.glob,fun i => ?_,hI6.box,hI6.inj,hI6.obj,⟨Nat.le_refl _,fun b hb => ?_,hI6.far.no⟩,hI6.mps⟩
 ·by_cases hi : i ∈ fx
  ·have h1 := hI6.fix i hi
   have h2 := hI6.tmps i
   rw [h1] at h2
   exact h2
  ·rw [hSt _ i hi]
   exact trivial
 ·obtain ⟨p1,p2,p3,p4⟩ := hI6.far.ke b (.inl hb)
  exact ⟨p1,rfl,p3,p4⟩
end
end Go.Di

/-
 DI,part S: single operations by hand,and the walk over a map.
-/
namespace Go.Di
open Go.RowKit

section
variable {P : Program} {C C' : Cfg} {w0 w w' : World} {R0 R : Foot} {a : Act} {s : St} {β : Nat → Nat} {σ : Sig} {Q : Exit → Act → World → Prop}

theorem wp_text {ops : Array Oper} {id : Nat} {ro : Option Nat} {n : Nat} (hnd : noDefer ops.toList = true) (h : wpOps P ops (noOut Q) (List.range' 0 ops.size) a w) : (Code.region id ops false).wpIn (FR ro) n P Q a w :=
 wpIn_mono (Q := noOut Q) (wpIn_region (opsIn hnd (noOut_out Q) _ _ _ (by rw [List.range_eq_range']; exact h))) fun e a w => noOut_mono

theorem wpOps_hand {ops : Array Oper} {i : Nat} {l : List Nat} {o : Oper} (ho : ops[i]? = some o) (hg : o.guard = none) {v : Value} (hrun : (execOp a.eval o).run P w = .ok (.value v) w') (hK : wpOps P ops Q l (a.put o.dst v) w') : wpOps P ops Q (i :: l) a w := by
 rw [wpOps_cons]
 unfold wpOp
 rw [ho]
 have : Region.wanted o (yielded ops a.tmps) = true := by simp [Region.wanted,hg]
 simp only [this,if_true]
 exact .inl (wp_value hrun hK)

theorem runL_then (hT : TabOk P C.tt) (hC : ∀ f args r,C.con f args r → Contract P C.glob f args r) {ops : Array Oper} {dec : List (Nat × Bool)} {orc : List (Nat × D)} {rest : List Nat} :
  ∀ (l : List Oper) (k : Nat) (s : St) (a : Act) (w : World) (es : List Eff) (s' : St),(∀ j o,l[j]? = some o → ops[k + j]? = some o) → runL C dec orc ops l s = some (es,s') → (∀ p ∈ psOf es,p) → Holds C w0 R0 a w s → (∀ a' w',Holds C w0 R0 a' w' s' → wpOps P ops Q rest a' w') →
   wpOps P ops Q (List.range' k l.length ++ rest) a w
 | [],k,s,a,w,es,s',_,h,_,hH,hQ => by
  cases h
  exact hQ _ _ hH
 | o :: l,k,s,a,w,es,s',hl,h,hp,hH,hQ => by
  simp only [runL] at h
  split at h
  ·rename_i e he
   split at h
   ·rename_i es' s1 hes
    cases h
    have ho : ops[k]? = some o := hl 0 o rfl
    rw [List.length_cons,List.range'_succ,List.cons_append,wpOps_cons]
    refine semG_ok hT hC ho hH (fun a' w' hH' => runL_then hT hC l (k + 1) _ a' w' es' _ (fun j o' hj => by
     rw [show k + 1 + j = k + (j + 1) by omega]
     exact hl (j + 1) o' hj) hes (fun p hpp => hp p (by simp [psOf,hpp])) hH' hQ) (M.exec_ok _ _ _ he fun p hpp => hp p (by simp [psOf,hpp]))
   ·cases h
  ·cases h

theorem Inv.keepNow (h : Inv C w0 R0 a w s β σ R) (hn : C'.nt = C.nt) (hg : C'.glob = C.glob) (hd : C'.dfs = C.dfs) (hx : ∀ i ∈ C'.fixed,a.tmps.getD i undef = C'.fv i) (hno : C'.no = C.no) (hw1 : C'.w1 = w)
  (hke : ∀ b,C'.ke b → ∃ o,w.heap[b]? = some o ∧ o.isCells = false) : Inv C' w0 R0 a w s β σ R := by
 refine h.turn hn hg hd hx ⟨by rw [hw1]; exact Nat.le_refl _,fun b hb => ?_,fun b hb => h.far.no b (by rw [← hno]; exact hb)⟩
 obtain ⟨o,ho,hoc⟩ := hke b hb
 refine ⟨(Array.getElem?_eq_some_iff.1 ho).1,by rw [hw1],fun i x hi _ e => ?_,fun k o' ho' hl ad ha e => ?_⟩
 ·obtain ⟨arr,el,hh,_⟩ := (h.box i x hi).cells
  rw [e,ho] at hh
  cases hh
  cases hoc
 ·obtain ⟨_,arr,el,hh⟩ := spare_lt h ho' hl ha
  rw [e,ho] at hh
  cases hh
  cases hoc

theorem Inv.put_walk (h : Inv C w0 R0 a w s β σ R) {l : Nat} {o : Obj} (o' : Obj) (hl : w.heap[l]? = some o) (hc : o.isCells = false) (hm : ∀ es c,o ≠ .map es c) (hsz : w'.heap.size = w.heap.size) (hsame : ∀ b,b ≠ l → w'.heap[b]? = w.heap[b]?) (hw : w'.os = w.os ∧ w'.tape = w.tape ∧ w'.output = w.output)
  (h0 : w0.heap.size ≤ l) (hk : ∀ b,¬ C.ke b) (hn : ∀ b,¬ C.no b) : Inv C w0 R0 a w' s β σ R := by
 refine h.elsewhere (h.below.trans ⟨hw.1,hw.2.1,hw.2.2,by rw [hsz]; exact Nat.le_refl _,fun k hk' => hsame k (by omega)⟩) hsz (X := fun b => b = l) (fun b hb => hsame b hb) (fun b hb => ?_) ⟨by rw [hsz]; exact h.far.sz,fun b hb => absurd hb (hk b),fun b hb => absurd hb (hn b)⟩
 subst hb
 refine ⟨fun o'' u hr hcell => ?_,fun es c hm' => ?_,fun i x hi e => ?_,fun k o'' ho hsp ad ha e => ?_⟩
 ·simp only [World.cell?,hl] at hcell
  cases o <;> simp_all [Obj.isCells]
 ·rw [hl] at hm'
  cases hm'
  exact absurd rfl (hm es c)
 ·obtain ⟨arr,el,hh,_⟩ := (h.box i x hi).cells
  rw [e,hl] at hh
  cases hh
  cases hc
 ·obtain ⟨_,arr,el,hh⟩ := spare_lt h ho hsp ha
  rw [e,hl] at hh
  cases hh
  cases hc

/-! ### The walk over a map: what is left -/
theorem left_nil (es : Array MapEntry) : (leftOf es #[]).toList = es.toList := by
 unfold leftOf
 simp
theorem left_push (es : Array MapEntry) (seen : Array Nat) (b : Nat) : (leftOf es (seen.push b)).toList = (leftOf es seen).toList.filter fun e => !(e.born == b) := by
 unfold leftOf
 rw [Array.toList_filter,Array.toList_filter,List.filter_filter]
 congr 1
 funext e
 simp only [Array.contains_push]
 cases h1 : seen.contains e.born <;> cases h2 : (e.born == b) <;> rfl
theorem filter_born {l : List MapEntry} {e : MapEntry} (he : e ∈ l) (hn : (l.map (·.born)).Nodup) : l.Perm (e :: l.filter fun x => !(x.born == e.born)) := by
 induction l with
 | nil => cases he
 | cons x l ih =>
  have hx : x.born ∉ l.map (·.born) ∧ (l.map (·.born)).Nodup := List.nodup_cons.1 hn
  rcases List.mem_cons.1 he with rfl | he
  ·rw [List.filter_cons]
   simp only [beq_self_eq_true,Bool.not_true,Bool.false_eq_true,if_false]
   rw [List.filter_eq_self.2 fun y hy => by
    have : y.born ≠ e.born := fun h => hx.1 (by rw [← h]; exact List.mem_map.2 ⟨y,hy,rfl⟩)
    simpa using this]
  ·have hne : x.born ≠ e.born := fun h => hx.1 (by rw [h]; exact List.mem_map.2 ⟨e,he,rfl⟩)
   rw [List.filter_cons]
   have : (!(x.born == e.born)) = true := by simpa using hne
   simp only [this,if_true]
   exact ((ih he hx.2).cons x).trans (List.Perm.swap e x _)
theorem left_nodup {es : Array MapEntry} (seen : Array Nat) (hn : (es.toList.map (·.born)).Nodup) : ((leftOf es seen).toList.map (·.born)).Nodup := by
 unfold leftOf
 rw [Array.toList_filter]
 exact hn.sublist (List.Sublist.map _ List.filter_sublist)
theorem left_step {es : Array MapEntry} {seen : Array Nat} {e : MapEntry} (hn : (es.toList.map (·.born)).Nodup) (he : e ∈ (leftOf es seen).toList) : (leftOf es seen).toList.Perm (e :: (leftOf es (seen.push e.born)).toList) := by
 rw [left_push]
 exact filter_born he (left_nodup seen hn)
theorem left_mem {es : Array MapEntry} {seen : Array Nat} {e : MapEntry} (he : e ∈ (leftOf es seen).toList) : e ∈ es.toList := by
 unfold leftOf at he
 rw [Array.toList_filter] at he
 exact (List.mem_filter.1 he).1
theorem born_nodup {es : Array MapEntry} (h : ∀ (i j : Nat) (x y : MapEntry),es[i]? = some x → es[j]? = some y → i < j → x.born < y.born) : (es.toList.map (·.born)).Nodup := by
 rw [List.nodup_iff_pairwise_ne,List.pairwise_map,List.pairwise_iff_getElem]
 intro i j hi hj hij
 have := h i j es.toList[i] es.toList[j] (by simp [Array.getElem?_eq_getElem (by simpa using hi)]) (by simp [Array.getElem?_eq_getElem (by simpa using hj)]) hij
 omega
end
end Go.Di

/-
 DI,part T: 'for k,v := range m' over a map of numbers: each entry once,in some order.
-/
namespace Go.Di
open Go.RowKit

section
variable {P : Program} {C C' : Cfg} {w0 w w' : World} {R0 R : Foot} {a : Act} {s : St} {β : Nat → Nat} {σ : Sig} {Q : Exit → Act → World → Prop}

/-- The configuration of a round: blocks that are kept,slots that are not written. -/
def mkM (P : Program) (tt : TypeId → Option TI) (glob : Nat → Option (List D)) (n : Nat) (ke : Nat → Prop) (w1 : World) (fx : List Nat) (fv : Nat → Value) : Cfg :=
 { tt := tt,glob := glob,con := fun f args r => Contract P glob f args r,nt := n,lk := fun _ _ _ _ => False,ke := ke,w1 := w1,fixed := fx,fv := fv }
theorem goodM {tt : TypeId → Option TI} {glob : Nat → Option (List D)} {n : Nat} {ke : Nat → Prop} {w1 : World} {fx : List Nat} {fv : Nat → Value} (hm : P.follows .mixedOrders = true) (hT : TabOk P tt) : Good P (mkM P tt glob n ke w1 fx fv) :=
 ⟨hm,hT,fun _ _ _ h => h,fun _ _ _ _ h => h.elim⟩

/-- A stretch of a region's operations. -/
def runLK (C : Cfg) (dec : List (Nat × Bool)) (orc : List (Nat × D)) (ops : Array Oper) (l : List Oper) (L : List (Key × Val)) (ks : List Key) : Option (List Prop × List (Key × Val)) :=
 match runL C dec orc ops l (ofL L) with
 | some (es,s') => match closedK ks (pickK s' ks) with
  | true => some (psOf es,pickK s' ks)
  | false => none
 | none => none
theorem runLK_then (hT : TabOk P C.tt) (hC : ∀ f args r,C.con f args r → Contract P C.glob f args r) {ops : Array Oper} {dec : List (Nat × Bool)} {orc : List (Nat × D)} {rest : List Nat} {l : List Oper} {k : Nat} {L L' : List (Key × Val)} {ks : List Key} {ps : List Prop}
  (h : runLK C dec orc ops l L ks = some (ps,L')) (hp : allP ps) (hl : ∀ j o,l[j]? = some o → ops[k + j]? = some o) (hH : Holds C w0 R0 a w (ofL L)) (hQ : ∀ a' w',Holds C w0 R0 a' w' (ofL L') → wpOps P ops Q rest a' w') : wpOps P ops Q (List.range' k l.length ++ rest) a w := by
 unfold runLK at h
 split at h
 ·rename_i es s1 hes
  split at h
  ·rename_i hc
   cases h
   exact runL_then hT hC l k _ a w es s1 hl hes (allP_mem hp) hH fun a' w' hH' => hQ a' w' (hH'.restrict hc)
  ·cases h
 ·cases h

abbrev Ent := (Int × Int) × Span
def encE (p : Ent) : Value × Value := (Value.agg #[.int .i64 p.1.1,.int .i64 p.1.2],Value.agg #[.int .i64 p.2.lo,.int .i64 p.2.hi])
def dec2 : Value → Int × Int
 | .agg vs => match vs.toList with
  | [.int _ x,.int _ y] => (x,y)
  | _ => (0,0)
 | _ => (0,0)
def decE (e : MapEntry) : Ent := (dec2 e.key,⟨(dec2 e.val).1,(dec2 e.val).2⟩)
theorem dec_of {e : MapEntry} {p : Ent} (h : (e.key,e.val) = encE p) : decE e = p := by
 obtain ⟨h1,h2⟩ := Prod.mk.inj h
 unfold decE
 rw [h1,h2]
 rfl
theorem dec_list : ∀ {es : List MapEntry} {l : List Ent},es.map (fun x => (x.key,x.val)) = l.map encE → l = es.map decE ∧ ∀ e ∈ es,(e.key,e.val) = encE (decE e)
 | [],[],_ => ⟨rfl,fun e he => by cases he⟩
 | x :: es,p :: l,h => by
  simp only [List.map_cons,List.cons.injEq] at h
  obtain ⟨h1,h2⟩ := dec_list h.2
  have h3 := dec_of h.1
  refine ⟨by rw [List.map_cons,h3,← h1],fun e he => ?_⟩
  rcases List.mem_cons.1 he with rfl | he
  ·rw [h3]; exact h.1
  ·exact h2 e he
 | [],_ :: _,h => by cases h
 | _ :: _,[],h => by cases h
def entD (p : Ent) : D := .tup [.agg [.int .i64 p.1.1,.int .i64 p.1.2],.agg [.int .i64 p.2.lo,.int .i64 p.2.hi]]

theorem set_undef {s : St} {d : Nat} (h : s (.tmp d) = .d .undef) : s.set (.tmp d) (.d .undef) = s := set_same h

theorem Inv.putAny (h : Inv C w0 R0 a w s β σ R) {d : Nat} (hd : d < C.nt) (hfx : d ∉ C.fixed) (hs : s (.tmp d) = .d .undef) (v : Value) : Inv C w0 R0 (a.put (some d) v) w s β σ R := by
 have := h.put d hd hfx (x := .undef) (v := v) trivial
 rwa [set_undef hs] at this

structure OpAt (ops : Array Oper) (i : Nat) (dst : Option Tmp) (op : Op) : Prop where
 at_ : ∃ o,ops[i]? = some o ∧ o.guard = none ∧ o.dst = dst ∧ o.op = op

theorem WpL.rangeMap {tt : TypeId → Option TI} {glob : Nat → Option (List D)} {n : Nat} (hm : P.follows .mixedOrders = true) (hT : TabOk P tt) {α : Type} {S : α → List (Key × Val)} {step : α → Ent → α} {x0 : α} {l : List Ent}
  {id2 id3 id4 bid bid1 : Nat} {ops2 ops3 ops4 : Array Oper} {rest : Code} {L0 L1 : List (Key × Val)} {ks : List Key} {ps : List Prop} {dec : List (Nat × Bool)} {orc : List (Nat × D)} {t tk te : TypeId} {tm tr tn c en : Nat}
  (hnd2 : noDefer ops2.toList = true) (hnd3 : noDefer ops3.toList = true) (hnd4 : noDefer ops4.toList = true)
  {k : Nat} {pre : List Oper} (hk : pre.length = k) (hsz2 : ops2.size = k + 1) (hpre : ∀ j o,pre[j]? = some o → ops2[0 + j]? = some o)
  (h2 : runLK (Di.mk P tt glob n) dec orc ops2 pre L0 ks = some (ps,L1)) (hps : allP ps) (hmap : (ofL L1).tmp tm = .map (.spot l))
  (ht : P.underlying t = some (.map tk te)) (hop2 : OpAt ops2 k (some tr) (.range t (.tmp tm)))
  (hsz3 : ops3.size = 2) (hop3 : OpAt ops3 0 (some tn) (.next (.tmp tr) false)) (hop3' : OpAt ops3 1 (some c) (.extract (.tmp tn) 0)) (hop4 : OpAt ops4 0 (some en) (.entry (.tmp tr)))
  {pre4 : List Oper} (hsz4 : ops4.size = pre4.length + 1) (hpre4 : ∀ j o,pre4[j]? = some o → ops4[1 + j]? = some o)
  (htr : tr < n) (htn : tn < n) (hc : c < n) (hen : en < n) (hd1 : tn ≠ tr) (hd2 : c ≠ tr) (hd3 : en ≠ tr) (hd4 : tn ≠ c)
  {ksS : List Key} (hclo : closedK ksS (pickK (ofL L1) ksS) = true) (hS0 : pickK (ofL L1) ksS = S x0)
  (hSt : ∀ x i,(i = tr ∨ i = tn ∨ i = c ∨ i = en) → (ofL (S x)) (.tmp i) = .d .undef) (hSr : hasK (.tmp tr) (ks) = false)
  {L2 : α → Ent → List (Key × Val)} (hround : ∀ x e ke w1 fv,e ∈ l → ∃ dec orc ks ps,runLK (mkM P tt glob n ke w1 [tr] fv) dec orc ops4 pre4 ((.tmp en,.d (entD e)) :: S x) ks = some (ps,L2 x e) ∧ allP ps ∧
   WpL P (mkM P tt glob n ke w1 [tr] fv) rest (L2 x e) (fun ex L' => (ex = .normal ∨ ex = .exit bid1) ∧ L' = S (step x e))) :
  WpL P (Di.mk P tt glob n) (.seq (.region id2 ops2 false) (.block bid (.loop (.seq (.region id3 ops3 false) (.seq (.cond (.tmp c) .skip (.exit bid)) (.block bid1 (.seq (.region id4 ops4 false) rest))))))) L0
   (fun ex L' => ex = .normal ∧ ∃ vis : List Ent,l.Perm vis ∧ L' = S (vis.foldl step x0)) := by
 intro w0 R0 a w Q ro nn hro hH hQ
 refine wpIn_seq (wp_text hnd2 ?_)
 have hr0 : List.range' 0 ops2.size = List.range' 0 pre.length ++ [k] := by
  rw [hsz2,hk,List.range'_concat]
  simp
 rw [hr0]
 refine runLK_then hT (fun _ _ _ h => h) h2 hps hpre hH fun a1 w1 hH1 => ?_
 obtain ⟨β,σ,R,hI⟩ := hH1
 have hmv := hI.tmps tm
 rw [hmap] at hmv
 obtain ⟨bm,es,clock,hv,hRb,hb,hborn,hinc,hes⟩ := hmv
 obtain ⟨o2,ho2,hg2,hdst2,hop2⟩ := hop2.at_
 have hrun2 : (execOp a1.eval o2).run P w1 = .ok (.value (.pointer (some ⟨w1.heap.size,0,none⟩))) (w1.alloc (.mapIter (some bm) clock #[] clock)) := by
  have hev : a1.eval (.tmp tm) = .map (some bm) := hv
  simp [execOp,hop2,hev,run_range_map w1 t tk te bm es clock ht hb]
 refine wpOps_hand ho2 hg2 hrun2 ?_
 rw [hdst2]
 show Code.wpIn _ _ _ _ _ _ _
 have hbm : bm < w1.heap.size := (Array.getElem?_eq_some_iff.1 hb).1
 have hes' : es.toList.map (fun x => (x.key,x.val)) = l.map encE := hes
 obtain ⟨hl,hent⟩ := dec_list hes'
 have hnod := born_nodup hinc
 -- the state where the loop begins
 have hIa := hI.later (w' := w1.alloc (.mapIter (some bm) clock #[] clock)) (below_alloc1 _ _) (fun _ _ h => h) (fun b o hr => ⟨by have := (hI.dom b o hr).1; simp; omega,.inl hr⟩)
 have hIb := hIa.restrict hclo
 rw [hS0] at hIb
 have hIc := hIb.putAny (d := tr) htr (by simp [Di.mk]) (hSt x0 tr (.inl rfl)) (.pointer (some ⟨w1.heap.size,0,none⟩))
 obtain ⟨r,hr⟩ : ∃ r,r = w1.heap.size := ⟨_,rfl⟩
 have hnta : tr < a1.tmps.size := Nat.lt_of_lt_of_le htr hI.nt
 have hr0' : w0.heap.size ≤ r := by rw [hr]; exact hI.below.size
 have hcfg : ∀ W,∃ C',C' = mkM P tt glob n (fun b => b = r ∨ b = bm) W [tr] (fun _ => .pointer (some ⟨r,0,none⟩)) := fun W => ⟨_,rfl⟩
 have hwr : (w1.alloc (.mapIter (some bm) clock #[] clock)).heap[r]? = some (.mapIter (some bm) clock #[] clock) := by rw [hr]; exact heap_alloc_new _ _
 have hwb : (w1.alloc (.mapIter (some bm) clock #[] clock)).heap[bm]? = some (.map es clock) := by rw [heap_alloc_old _ _ hbm]; exact hb
 rw [← hr] at hIc ⊢
 have hrb : r ≠ bm := by omega
 have hId : Inv (mkM P tt glob n (fun b => b = r ∨ b = bm) (w1.alloc (.mapIter (some bm) clock #[] clock)) [tr] (fun _ => .pointer (some ⟨r,0,none⟩))) w0 R0 (a1.put (some tr) (.pointer (some ⟨r,0,none⟩))) (w1.alloc (.mapIter (some bm) clock #[] clock)) (ofL (S x0)) β σ R := by
  refine hIc.keepNow rfl rfl rfl (fun i hi => ?_) rfl rfl (fun b hb' => ?_)
  ·have : i = tr := by simpa [mkM] using hi
   subst this
   rw [getD_put a1 i _ i hnta,if_pos rfl]
   rfl
  ·rcases hb' with rfl | rfl
   ·exact ⟨_,hwr,rfl⟩
   ·exact ⟨_,hwb,rfl⟩
 refine wpIn_block (wpIn_loop_ghost (fun k a W => ∃ visE seen c0 β σ R,Inv (mkM P tt glob n (fun b => b = r ∨ b = bm) W [tr] (fun _ => .pointer (some ⟨r,0,none⟩))) w0 R0 a W (ofL (S ((visE.map decE).foldl step x0))) β σ R ∧ W.heap[r]? = some (.mapIter (some bm) clock seen c0) ∧ W.heap[bm]? = some (.map es clock) ∧ clock ≤ c0 ∧
  es.toList.Perm (visE ++ (leftOf es seen).toList) ∧ k = (leftOf es seen).size) (leftOf es #[]).size ⟨[],#[],clock,β,σ,R,hId,hwr,hwb,Nat.le_refl _,by rw [left_nil]; exact List.Perm.refl _,rfl⟩ ?_)
 rintro k' a W ⟨visE,seen,c0,β,σ,R,hI,hwr,hwb,hc0,hperm,rfl⟩
 obtain ⟨x,hx⟩ : ∃ x,x = (visE.map decE).foldl step x0 := ⟨_,rfl⟩
 rw [← hx] at hI
 have hnt := hI.nt
 have hfx := hI.fix tr (by simp [mkM])
 have hev : ∀ (a : Act),a.tmps.getD tr undef = .pointer (some ⟨r,0,none⟩) → a.eval (.tmp tr) = .pointer (some ⟨r,0,none⟩) := fun a h => h
 have hfix' : ∀ d,d ≠ tr → ¬ d ∈ (mkM P tt glob n (fun b => b = r ∨ b = bm) W [tr] (fun _ => .pointer (some ⟨r,0,none⟩))).fixed := fun d hd h => hd (by simpa [mkM] using h)
 refine wpIn_seq (wp_text hnd3 ?_)
 rw [hsz3]
 show wpOps P ops3 _ (0 :: [1]) a W
 obtain ⟨o3,ho3,hg3,hdst3,hop3⟩ := hop3.at_
 obtain ⟨o3',ho3',hg3',hdst3',hop3'⟩ := hop3'.at_
 have htnA : tn < a.tmps.size := Nat.lt_of_lt_of_le htn hnt
 rcases run_next_at (P := P) W o3.type r bm clock c0 seen es clock hwr hwb (fun y hy => by
   obtain ⟨i,hi,he⟩ := List.getElem_of_mem hy
   exact hborn i y (by
    rw [← he]
    simp [Array.getElem?_eq_getElem (by simpa using hi : i < es.size)])) hc0 with ⟨h0,hrun⟩ | ⟨e,he,W1,hW1,hrun⟩
 · -- nothing is left
  refine wpOps_hand (v := .tuple #[.bool false]) (w' := W) ho3 hg3 (by simp only [execOp,hop3,hev a hfx]; simp [hrun]) ?_
  refine wpOps_hand (v := .bool false) (w' := W) ho3' hg3' (by
   simp only [execOp,hop3']
   have : (a.put o3.dst (.tuple #[.bool false])).eval (.tmp tn) = .tuple #[.bool false] := by
    show (a.put o3.dst (.tuple #[.bool false])).tmps.getD tn undef = _
    rw [hdst3,getD_put a tn _ tn htnA,if_pos rfl]
   simp [this,Instr.extract]) ?_
  rw [hdst3,hdst3']
  show Code.wpIn _ _ _ _ _ _ _
  have hI1 := hI.putAny (d := tn) htn (hfix' tn hd1) (hSt x tn (.inr (.inl rfl))) (.tuple #[.bool false])
  have hI2 := hI1.putAny (d := c) hc (hfix' c hd2) (hSt x c (.inr (.inr (.inl rfl)))) (.bool false)
  refine wpIn_seq (wpIn_cond_false (by
   show ((a.put (some tn) (.tuple #[.bool false])).put (some c) (.bool false)).tmps.getD c undef = _
   rw [getD_put _ c _ c (Nat.lt_of_lt_of_le hc hI1.nt),if_pos rfl]) (wpIn_exit ?_))
  have hleft : (leftOf es seen).toList = [] := by
   have := Array.eq_empty_of_size_eq_zero h0
   rw [this]
  rw [hleft,List.append_nil] at hperm
  have hH2 : Holds (Di.mk P tt glob n) w0 R0 ((a.put (some tn) (.tuple #[.bool false])).put (some c) (.bool false)) W (ofL (S x)) :=
   ⟨β,σ,R,hI2.turn rfl rfl rfl (fun i hi => by cases hi) ⟨Nat.zero_le _,fun b hb => hb.elim,fun b hb => hb.elim⟩⟩
  have := hQ .normal (S x) _ _ ⟨rfl,visE.map decE,by rw [hl]; exact hperm.map decE,by rw [hx]⟩ hH2
  show Exit.inBlock bid Q (Exit.exit bid) _ _
  simpa [Ex.out,Exit.inBlock] using this
 · -- an entry comes
  have hrlt : r < W.heap.size := (Array.getElem?_eq_some_iff.1 hwr).1
  obtain ⟨W2,hW2⟩ : ∃ W2,W2 = Go.ChangeMaps.setBlock W1 r (.mapIter (some bm) clock (seen.push e.born) clock) := ⟨_,rfl⟩
  rw [← hW2] at hrun
  have hW1h : W1.heap = W.heap := by rcases hW1 with rfl | rfl <;> rfl
  have hW2s : W2.heap.size = W.heap.size := by rw [hW2]; simp [Go.ChangeMaps.setBlock,hW1h]
  have hW2r : W2.heap[r]? = some (.mapIter (some bm) clock (seen.push e.born) clock) := by rw [hW2]; simp [Go.ChangeMaps.setBlock,hW1h,hrlt]
  have hW2o : ∀ b,b ≠ r → W2.heap[b]? = W.heap[b]? := by
   intro b hb'
   rw [hW2]
   simp [Go.ChangeMaps.setBlock,hW1h,Array.getElem?_setIfInBounds_ne (Ne.symm hb')]
  have hW2q : W2.os = W.os ∧ W2.tape = W.tape ∧ W2.output = W.output := by rw [hW2]; rcases hW1 with rfl | rfl <;> exact ⟨rfl,rfl,rfl⟩
  have hW2b : W2.heap[bm]? = some (.map es clock) := by rw [hW2o bm (fun h => hrb h.symm)]; exact hwb
  -- the state behind the step
  have hI1 : Inv (Di.mk P tt glob n) w0 R0 a W (ofL (S x)) β σ R := hI.turn rfl rfl rfl (fun i hi => by cases hi) ⟨Nat.zero_le _,fun b hb => hb.elim,fun b hb => hb.elim⟩
  have hI2 : Inv (Di.mk P tt glob n) w0 R0 a W2 (ofL (S x)) β σ R := hI1.put_walk (.mapIter (some bm) clock (seen.push e.born) clock) hwr rfl (fun _ _ h => by cases h) hW2s hW2o hW2q hr0' (fun _ h => h) (fun _ h => h)
  have hI3 : Inv (mkM P tt glob n (fun b => b = r ∨ b = bm) W2 [tr] (fun _ => .pointer (some ⟨r,0,none⟩))) w0 R0 a W2 (ofL (S x)) β σ R := by
   refine hI2.keepNow rfl rfl rfl (fun i hi => ?_) rfl rfl (fun b hb' => ?_)
   ·have : i = tr := by simpa [mkM] using hi
    subst this
    exact hfx
   ·rcases hb' with rfl | rfl
    ·exact ⟨_,hW2r,rfl⟩
    ·exact ⟨_,hW2b,rfl⟩
  have hfix2 : ∀ d,d ≠ tr → ¬ d ∈ (mkM P tt glob n (fun b => b = r ∨ b = bm) W2 [tr] (fun _ => .pointer (some ⟨r,0,none⟩))).fixed := fun d hd h => hd (by simpa [mkM] using h)
  refine wpOps_hand (v := .tuple #[.bool true,e.key,e.val]) (w' := W2) ho3 hg3 (by simp only [execOp,hop3,hev a hfx]; simp [hrun]) ?_
  refine wpOps_hand (v := .bool true) (w' := W2) ho3' hg3' (by
   simp only [execOp,hop3']
   have : (a.put o3.dst (.tuple #[.bool true,e.key,e.val])).eval (.tmp tn) = .tuple #[.bool true,e.key,e.val] := by
    show (a.put o3.dst (.tuple #[.bool true,e.key,e.val])).tmps.getD tn undef = _
    rw [hdst3,getD_put a tn _ tn htnA,if_pos rfl]
   simp [this,Instr.extract]) ?_
  rw [hdst3,hdst3']
  show Code.wpIn _ _ _ _ _ _ _
  have hI4 := hI3.putAny (d := tn) htn (hfix2 tn hd1) (hSt x tn (.inr (.inl rfl))) (.tuple #[.bool true,e.key,e.val])
  have hI5 := hI4.putAny (d := c) hc (hfix2 c hd2) (hSt x c (.inr (.inr (.inl rfl)))) (.bool true)
  refine wpIn_seq (wpIn_cond_true (by
   show ((a.put (some tn) (.tuple #[.bool true,e.key,e.val])).put (some c) (.bool true)).tmps.getD c undef = _
   rw [getD_put _ c _ c (Nat.lt_of_lt_of_le hc hI4.nt),if_pos rfl]) (wpIn_skip ?_))
  show Code.wpIn _ _ _ _ _ _ _
  obtain ⟨a5,ha5⟩ : ∃ a5,a5 = (a.put (some tn) (.tuple #[.bool true,e.key,e.val])).put (some c) (.bool true) := ⟨_,rfl⟩
  rw [← ha5] at hI5 ⊢
  refine wpIn_block (wpIn_seq (wp_text hnd4 ?_))
  have hr4 : List.range' 0 ops4.size = 0 :: (List.range' 1 pre4.length ++ []) := by
   rw [hsz4,List.range'_succ,List.append_nil]
  rw [hr4]
  obtain ⟨o4,ho4,hg4,hdst4,hop4⟩ := hop4.at_
  have hem : e ∈ es.toList := left_mem he
  refine wpOps_hand (v := .tuple #[e.key,e.val]) (w' := W2) ho4 hg4 (by
   simp only [execOp,hop4,hev a5 (hI5.fix tr (by simp [mkM]))]
   simp [run_entry_at W2 r bm clock seen es clock e hW2r hW2b hem hnod]) ?_
  rw [hdst4]
  have hmem : decE e ∈ l := by rw [hl]; exact List.mem_map.2 ⟨e,hem,rfl⟩
  have hI6 := hI5.put en hen (hfix2 en hd3) (x := entD (decE e)) (v := .tuple #[e.key,e.val]) (by
   obtain ⟨h1,h2⟩ := Prod.mk.inj (hent e hem)
   rw [h1,h2]
   exact ⟨_,rfl,⟨_,rfl,rfl,rfl,trivial⟩,⟨_,rfl,rfl,rfl,trivial⟩,trivial⟩)
  obtain ⟨dec',orc',ks',ps',hr1,hp1,hr2⟩ := hround x (decE e) (fun b => b = r ∨ b = bm) W2 (fun _ => .pointer (some ⟨r,0,none⟩)) hmem
  refine runLK_then hT (fun _ _ _ h => h) hr1 hp1 hpre4 ⟨β,σ,R,hI6⟩ fun a7 W7 hH7 => ?_
  show Code.wpIn _ _ _ _ _ _ _
  refine hr2 w0 R0 a7 W7 _ ro nn hro hH7 fun ex L' a8 W8 hpost hH8 => ?_
  obtain ⟨hex,rfl⟩ := hpost
  obtain ⟨β8,σ8,R8,hI8⟩ := hH8
  have k1 := (hI8.far.ke r (.inl rfl)).2.1
  have k2 := (hI8.far.ke bm (.inr rfl)).2.1
  have k1' : W8.heap[r]? = some (.mapIter (some bm) clock (seen.push e.born) clock) := k1.trans hW2r
  have k2' : W8.heap[bm]? = some (.map es clock) := k2.trans hW2b
  have hfin : ∃ n',n' < (leftOf es seen).size ∧ ∃ visE seen c0 β σ R,Inv (mkM P tt glob n (fun b => b = r ∨ b = bm) W8 [tr] (fun _ => .pointer (some ⟨r,0,none⟩))) w0 R0 a8 W8 (ofL (S ((visE.map decE).foldl step x0))) β σ R ∧ W8.heap[r]? = some (.mapIter (some bm) clock seen c0) ∧ W8.heap[bm]? = some (.map es clock) ∧ clock ≤ c0 ∧
    es.toList.Perm (visE ++ (leftOf es seen).toList) ∧ n' = (leftOf es seen).size := by
   refine ⟨_,left_shrinks es seen e he,visE ++ [e],seen.push e.born,clock,β8,σ8,R8,?_,k1',k2',Nat.le_refl _,?_,rfl⟩
   ·have e1 : ((visE ++ [e]).map decE).foldl step x0 = step x (decE e) := by rw [hx]; simp
    rw [e1]
    refine hI8.keepNow rfl rfl rfl (fun i hi => hI8.fix i hi) rfl rfl (fun b hb' => ?_)
    rcases hb' with rfl | rfl
    ·exact ⟨_,k1',rfl⟩
    ·exact ⟨_,k2',rfl⟩
   ·rw [List.append_assoc]
    exact hperm.trans (List.Perm.append_left visE (left_step hnod he))
  rcases hex with rfl | rfl
  ·exact hfin
  ·simpa [Ex.out,Exit.inBlock,Exit.then] using hfin
end
end Go.Di

namespace Go.Di
open Proofs
def rops (c : Code) : Array Oper := match c with
 | .region _ ops _ => ops
 | _ => #[]
def rgKs : List Key := [.tmp 2,.tmp 3,.tmp 4,.tmp 6,.tmp 7,.tmp 8,.box 3,.box 4,.box 6,.box 8]
def rgK2 : List Key := [.tmp 2,.tmp 3,.tmp 4,.tmp 6,.tmp 7,.tmp 8,.box 3,.box 4,.box 6,.box 8,.tmp 20]
def rgK4 : List Key := [.tmp 2,.tmp 3,.tmp 4,.tmp 6,.tmp 7,.tmp 8,.box 3,.box 4,.box 6,.box 8,.tmp 9,.tmp 10,.box 9,.box 10]
def rgS (b : Book) (l : List Ent) (ts : List TrC) (x0 x1 x2 x3 k : Int) (s : Span) : List (Key × Val) :=
 [(.tmp 2,.d (.int .i64 k)),(.tmp 3,.d (D.ptr 3 0)),(.tmp 4,.d (D.ptr 4 0)),(.tmp 6,.d (D.ptr 6 0)),(.tmp 7,.d (D.bool false)),(.tmp 8,.d (D.ptr 8 0)),
  (.box 3,.bx (some (Box.mk false [.sl false .sec b.secs,.sl false .int b.turns,.sl false .sv b.svs,.int .i64 b.rule,.int .i64 b.days,.map (.spot l),.sl false .trc ts]))),
  (.box 4,.bx (some (Box.mk false [.int .i64 x0,.int .i64 x1,.int .i64 x2,.int .i64 x3]))),
  (.box 6,.bx (some (Box.mk false [.int .i64 (0 : Int),.int .i64 (0 : Int)]))),(.box 8,.bx (some (Box.mk false [.int .i64 s.lo,.int .i64 s.hi])))]
def rgP (b : Book) (l : List Ent) (ts : List TrC) (x0 x1 x2 x3 k : Int) : List (Key × Val) :=
 [(.tmp 2,.d (.int .i64 k)),(.tmp 3,.d (D.ptr 3 0)),(.tmp 4,.d (D.ptr 4 0)),(.tmp 6,.d (D.ptr 6 0)),(.tmp 7,.d (D.bool false)),
  (.box 3,.bx (some (Box.mk false [.sl false .sec b.secs,.sl false .int b.turns,.sl false .sv b.svs,.int .i64 b.rule,.int .i64 b.days,.map (.spot l),.sl false .trc ts]))),
  (.box 4,.bx (some (Box.mk false [.int .i64 x0,.int .i64 x1,.int .i64 x2,.int .i64 x3]))),
  (.box 6,.bx (some (Box.mk false [.int .i64 (0 : Int),.int .i64 (0 : Int)])))]
def rgT (b : Book) (l : List Ent) (ts : List TrC) (x0 x1 x2 x3 k : Int) (s : Span) (e : Ent) : List (Key × Val) :=
 rgS b l ts x0 x1 x2 x3 k s ++ [(.tmp 9,.d (D.ptr 9 0)),(.tmp 10,.d (D.ptr 10 0)),(.box 9,.bx (some (Box.mk false [.int .i64 e.1.1,.int .i64 e.1.2]))),(.box 10,.bx (some (Box.mk false [.int .i64 e.2.lo,.int .i64 e.2.hi])))]
theorem rg_pre (b : Book) (l : List Ent) (ts : List TrC) (x0 x1 x2 x3 k : Int) :
  runK (mk PR (lookN types) glob 66) [] [] [] (Code.at [0] (body Tryd.f193)) (entry 0 [bkD b (.spot l) ts,wD x0 x1 x2 x3,.int .i64 k]) [.tmp 2,.tmp 3,.tmp 4,.tmp 6,.tmp 7,.box 3,.box 4,.box 6] =
   some ([],.normal,rgP b l ts x0 x1 x2 x3 k) := by kernel_rfl
theorem rg_one (b : Book) (l : List Ent) (ts : List TrC) (x0 x1 x2 x3 k : Int) :
  runK (mk PR (lookN types) glob 66) [] [] [] (Code.at [1,0] (body Tryd.f193)) (rgP b l ts x0 x1 x2 x3 k) rgKs =
   some ([(0 : Int) ≤ k ∧ k < ((List.length (Book.secs b) : Nat) : Int),0 + 0 + 2 ≤ 4],.normal,rgS b l ts x0 x1 x2 x3 k (b.secs.getD k.toNat sec0).t) := by kernel_rfl
theorem rg_two (b : Book) (l : List Ent) (ts : List TrC) (x0 x1 x2 x3 k : Int) (s : Span) :
  runLK (mk PR (lookN types) glob 66) [] [] (rops (Code.at [1,1,0,0] (body Tryd.f193))) ((rops (Code.at [1,1,0,0] (body Tryd.f193))).toList.take 2) (rgS b l ts x0 x1 x2 x3 k s) rgK2 =
   some ([],rgS b l ts x0 x1 x2 x3 k s ++ [(.tmp 20,.d (.map (.spot l)))]) := by kernel_rfl
theorem rg_four (b : Book) (l : List Ent) (ts : List TrC) (x0 x1 x2 x3 k : Int) (s : Span) (e : Ent) (ke : Nat → Prop) (w1 : World) (fv : Nat → Value) :
  runLK (mkM PR (lookN types) glob 66 ke w1 [21] fv) [] [] (rops (Code.at ([1,1,0,1,0,0,1,1,0] ++ [0]) (body Tryd.f193))) ((rops (Code.at ([1,1,0,1,0,0,1,1,0] ++ [0]) (body Tryd.f193))).toList.drop 1) ((.tmp 24,.d (entD e)) :: rgS b l ts x0 x1 x2 x3 k s) rgK4 =
   some ([],rgT b l ts x0 x1 x2 x3 k s e) := by kernel_rfl
theorem rg_none (b : Book) (l : List Ent) (ts : List TrC) (x0 x1 x2 x3 k : Int) (s : Span) (e : Ent) (ke : Nat → Prop) (w1 : World) (fv : Nat → Value) :
  runK (mkM PR (lookN types) glob 66 ke w1 [21] fv) [(30,false)] [] [] (Code.at ([1,1,0,1,0,0,1,1,0] ++ [1]) (body Tryd.f193)) (rgT b l ts x0 x1 x2 x3 k s e) rgKs =
   some ([0 + 2 ≤ 2,0 + 2 ≤ 2,(!eqI [Prod.fst (Prod.fst e),Prod.snd (Prod.fst e)] [-(1 : Int),-(1 : Int)]) = false,(!eqI [Prod.fst (Prod.fst e),Prod.snd (Prod.fst e)] [-(1 : Int),-(1 : Int)]) = false,(!eqI [Prod.fst (Prod.fst e),Prod.snd (Prod.fst e)] [-(1 : Int),-(1 : Int)]) = false,(!eqI [Prod.fst (Prod.fst e),Prod.snd (Prod.fst e)] [-(1 : Int),-(1 : Int)]) = false,(!eqI [Prod.fst (Prod.fst e),Prod.snd (Prod.fst e)] [-(1 : Int),-(1 : Int)]) = false],.normal,rgS b l ts x0 x1 x2 x3 k s) := by kernel_rfl
theorem rg_other (b : Book) (l : List Ent) (ts : List TrC) (x0 x1 x2 x3 k : Int) (s : Span) (e : Ent) (ke : Nat → Prop) (w1 : World) (fv : Nat → Value) :
  runK (mkM PR (lookN types) glob 66 ke w1 [21] fv) [(30,true),(35,false)] [] [] (Code.at ([1,1,0,1,0,0,1,1,0] ++ [1]) (body Tryd.f193)) (rgT b l ts x0 x1 x2 x3 k s e) rgKs =
   some ([0 + 2 ≤ 2,0 + 2 ≤ 2,(!eqI [Prod.fst (Prod.fst e),Prod.snd (Prod.fst e)] [-(1 : Int),-(1 : Int)]) = true,(!eqI [Prod.fst (Prod.fst e),Prod.snd (Prod.fst e)] [-(1 : Int),-(1 : Int)]) = true,0 + 0 + 1 ≤ 2,(!eqI [Prod.fst (Prod.fst e),Prod.snd (Prod.fst e)] [-(1 : Int),-(1 : Int)]) = true,(!eqI [Prod.fst (Prod.fst e),Prod.snd (Prod.fst e)] [-(1 : Int),-(1 : Int)]) = true,(!eqI [Prod.fst (Prod.fst e),Prod.snd (Prod.fst e)] [-(1 : Int),-(1 : Int)]) = true,(Prod.fst (Prod.fst e) == k) = false],.normal,rgS b l ts x0 x1 x2 x3 k s) := by kernel_rfl
theorem rg_hit (b : Book) (l : List Ent) (ts : List TrC) (x0 x1 x2 x3 k : Int) (s : Span) (e : Ent) (ke : Nat → Prop) (w1 : World) (fv : Nat → Value) (n : Int) (o : Span) :
  runK (mkM PR (lookN types) glob 66 ke w1 [21] fv) [(30,true),(35,true)] [(44,.int .i64 n),(55,spD o)] [] (Code.at ([1,1,0,1,0,0,1,1,0] ++ [1]) (body Tryd.f193)) (rgT b l ts x0 x1 x2 x3 k s e) rgKs =
   some ([0 + 2 ≤ 2,0 + 2 ≤ 2,(!eqI [Prod.fst (Prod.fst e),Prod.snd (Prod.fst e)] [-(1 : Int),-(1 : Int)]) = true,(!eqI [Prod.fst (Prod.fst e),Prod.snd (Prod.fst e)] [-(1 : Int),-(1 : Int)]) = true,0 + 0 + 1 ≤ 2,(!eqI [Prod.fst (Prod.fst e),Prod.snd (Prod.fst e)] [-(1 : Int),-(1 : Int)]) = true,(!eqI [Prod.fst (Prod.fst e),Prod.snd (Prod.fst e)] [-(1 : Int),-(1 : Int)]) = true,(!eqI [Prod.fst (Prod.fst e),Prod.snd (Prod.fst e)] [-(1 : Int),-(1 : Int)]) = true,(Prod.fst (Prod.fst e) == k) = true,0 + 4 ≤ 4,0 + 1 + 1 ≤ 2,Contract PR glob 169 [bkD b (.spot l) ts,wD x0 x1 x2 x3,.int .i64 k,.int .i64 e.1.2,.sl false .int b.turns] (.int .i64 n),0 + 2 ≤ 2,0 + 0 + 1 ≤ 2,inI64 (Span.lo (Prod.snd e) + n),0 + 1 + 1 ≤ 2,inI64 (Span.hi (Prod.snd e) + n),Contract PR glob 166 [spD s,spD ⟨e.2.lo + n,e.2.hi + n⟩] (spD o)],.normal,rgS b l ts x0 x1 x2 x3 k o) := by kernel_rfl
theorem rg_end (b : Book) (l : List Ent) (ts : List TrC) (x0 x1 x2 x3 k : Int) (s : Span) :
  runK (mk PR (lookN types) glob 66) [] [(57,.agg [.fn 206 [] []]),(60,.int .i64 s.lo),(61,.agg [.fn 205 [] []]),(64,.int .i64 s.hi)] [] (Code.at [1,1,1] (body Tryd.f193)) (rgS b l ts x0 x1 x2 x3 k s) [.tmp 6,.tmp 7,.box 6] =
   some ([0 + 2 ≤ 2,Contract PR glob 196 [] (D.agg [D.fn 206 [] []]),0 + 2 ≤ 2,Contract PR glob 206 [D.agg [D.int .i64 (Span.lo s),D.int .i64 (Span.hi s)]] (D.int .i64 (Span.lo s)),Contract PR glob 195 [] (D.agg [D.fn 205 [] []]),0 + 2 ≤ 2,Contract PR glob 205 [D.agg [D.int .i64 (Span.lo s),D.int .i64 (Span.hi s)]] (D.int .i64 (Span.hi s))],Ex.ret,[(.tmp 6,.d (D.ptr 6 0)),(.tmp 7,.d (D.bool (decide (Span.lo s ≤ Span.hi s)))),(.box 6,.bx (some (Box.mk false [D.int .i64 (Span.lo s),D.int .i64 (Span.hi s)])))]) := by kernel_rfl
theorem right_fn : FnOk PR (mk PR (lookN types) glob 66) 193 (body Tryd.f193) [.cell 6 51,.tmp 7] := by refine ⟨Tryd.f193,?_,?_,?_,?_,?_⟩ <;> kernel_rfl
end Go.Di

namespace Go.Di
open Proofs

/-- What one entry of the map does to the span. -/
def rightStep (b : Book) (x0 x1 x2 x3 k : Int) (s : Span) (e : Ent) : Span :=
 if eqI [e.1.1,e.1.2] [-1,-1] = false ∧ (e.1.1 == k) = true then bothF s ⟨e.2.lo + wornF b.secs.length x0 x1 x2 x3 b.turns k e.1.2.toNat,e.2.hi + wornF b.secs.length x0 x1 x2 x3 b.turns k e.1.2.toNat⟩ else s
def rightF (b : Book) (l : List Ent) (x0 x1 x2 x3 k : Int) : Span := l.foldl (rightStep b x0 x1 x2 x3 k) (b.secs.getD k.toNat sec0).t

theorem mx_comm3 (a b c : Int) : mx (mx a b) c = mx (mx a c) b := by unfold mx; (repeat' split) <;> omega
theorem mn_comm3 (a b c : Int) : mn (mn a b) c = mn (mn a c) b := by unfold mn; (repeat' split) <;> omega
theorem both_comm3 (s t u : Span) : bothF (bothF s t) u = bothF (bothF s u) t := by unfold bothF; simp only [mx_comm3 s.lo t.lo,mn_comm3 s.hi t.hi]
theorem rightStep_comm (b : Book) (x0 x1 x2 x3 k : Int) (s : Span) (e f : Ent) : rightStep b x0 x1 x2 x3 k (rightStep b x0 x1 x2 x3 k s e) f = rightStep b x0 x1 x2 x3 k (rightStep b x0 x1 x2 x3 k s f) e := by
 unfold rightStep
 split <;> split <;> first | rfl | exact both_comm3 _ _ _

theorem opAt {ops : Array Oper} {i : Nat} {dst : Option Tmp} {op : Op} (h : (ops[i]?.map fun o => (o.guard,o.dst,o.op)) = some (none,dst,op)) : OpAt ops i dst op := by
 cases hq : ops[i]? with
 | none => rw [hq] at h; cases h
 | some o =>
  rw [hq] at h
  simp only [Option.map_some,Option.some.injEq,Prod.mk.injEq] at h
  exact ⟨o,hq,h.1,h.2.1,h.2.2⟩

structure EntOk (e : Ent) : Prop where
 d : e.1.2 ≤ 1000
 lo : -1000000 ≤ e.2.lo ∧ e.2.lo ≤ 1000000
 hi : -1000000 ≤ e.2.hi ∧ e.2.hi ≤ 1000000

theorem right_con (b : Book) (l : List Ent) (ts : List TrC) (x0 x1 x2 x3 k : Int) (h0 : 0 ≤ x0 ∧ x0 ≤ 1000) (h1 : 0 ≤ x1 ∧ x1 ≤ 1000) (h2 : 0 ≤ x2 ∧ x2 ≤ 1000) (h3 : 0 ≤ x3 ∧ x3 ≤ 1000)
  (hs : 0 ≤ k ∧ k < b.secs.length) (hn : b.secs.length ≤ 4) (ht : b.turns.length ≤ 1000) (hl : ∀ e ∈ l,EntOk e) :
  Contract PR glob 193 [bkD b (.spot l) ts,wD x0 x1 x2 x3,.int .i64 k] (.tup [spD (rightF b l x0 x1 x2 x3 k),.bool (decide ((rightF b l x0 x1 x2 x3 k).lo ≤ (rightF b l x0 x1 x2 x3 k).hi))]) := by
 have hround : ∀ (s : Span) (e : Ent) (ke : Nat → Prop) (w1 : World) (fv : Nat → Value),e ∈ l → WpL PR (mkM PR (lookN types) glob 66 ke w1 [21] fv) (Code.at ([1,1,0,1,0,0,1,1,0] ++ [1]) (body Tryd.f193)) (rgT b l ts x0 x1 x2 x3 k s e)
   (fun ex L' => (ex = .normal ∨ ex = .exit 1) ∧ L' = rgS b l ts x0 x1 x2 x3 k (rightStep b x0 x1 x2 x3 k s e)) := by
  intro s e ke w1 fv he
  have hG : Good PR (mkM PR (lookN types) glob 66 ke w1 [21] fv) := goodM mixed_ok types_ok
  obtain ⟨e1,e2,e3⟩ := hl e he
  unfold rightStep
  cases hz : eqI [e.1.1,e.1.2] [-1,-1] with
  | true =>
   rw [if_neg (by simp)]
   have hz' : (!eqI [e.1.1,e.1.2] [-1,-1]) = false := by rw [hz]; rfl
   exact WpL.path hG (rg_none b l ts x0 x1 x2 x3 k s e ke w1 fv) ⟨by omega,by omega,hz',hz',hz',hz',hz',trivial⟩ ⟨.inl rfl,rfl⟩
  | false =>
   have hz' : (!eqI [e.1.1,e.1.2] [-1,-1]) = true := by rw [hz]; rfl
   cases hk : (e.1.1 == k) with
   | false =>
    rw [if_neg (by simp)]
    exact WpL.path hG (rg_other b l ts x0 x1 x2 x3 k s e ke w1 fv) ⟨by omega,by omega,hz',hz',by omega,hz',hz',hz',hk,trivial⟩ ⟨.inl rfl,rfl⟩
   | true =>
    rw [if_pos ⟨rfl,rfl⟩]
    have hb := wornF_in (n := b.secs.length) (s := k) (turns := b.turns) h0 h1 h2 h3 e.1.2.toNat
    have hd : (e.1.2.toNat : Int) ≤ 1000 := by omega
    exact WpL.path hG (rg_hit b l ts x0 x1 x2 x3 k s e ke w1 fv (wornF b.secs.length x0 x1 x2 x3 b.turns k e.1.2.toNat) (bothF s ⟨e.2.lo + wornF b.secs.length x0 x1 x2 x3 b.turns k e.1.2.toNat,e.2.hi + wornF b.secs.length x0 x1 x2 x3 b.turns k e.1.2.toNat⟩))
     ⟨by omega,by omega,hz',hz',by omega,hz',hz',hz',hk,by omega,by omega,worn_con b (.spot l) ts x0 x1 x2 x3 k e.1.2 b.turns h0 h1 h2 h3 hs hn ht e1,by omega,by omega,by simp only [inI64]; omega,by omega,by simp only [inI64]; omega,both_con _ _,trivial⟩ ⟨.inl rfl,rfl⟩
 have hloop : WpL PR (mk PR (lookN types) glob 66) (Code.at [1,1,0] (body Tryd.f193)) (rgS b l ts x0 x1 x2 x3 k (b.secs.getD k.toNat sec0).t) (fun ex L' => ex = .normal ∧ ∃ vis : List Ent,l.Perm vis ∧ L' = rgS b l ts x0 x1 x2 x3 k (vis.foldl (rightStep b x0 x1 x2 x3 k) (b.secs.getD k.toNat sec0).t)) := by
  have hcode : Code.at [1,1,0] (body Tryd.f193) = .seq (.region 2 (rops (Code.at [1,1,0,0] (body Tryd.f193))) false) (.block 0 (.loop (.seq (.region 3 (rops (Code.at [1,1,0,1,0,0,0] (body Tryd.f193))) false) (.seq (.cond (.tmp 23) .skip (.exit 0)) (.block 1 (.seq (.region 4 (rops (Code.at ([1,1,0,1,0,0,1,1,0] ++ [0]) (body Tryd.f193))) false) (Code.at ([1,1,0,1,0,0,1,1,0] ++ [1]) (body Tryd.f193)))))))) := by kernel_rfl
  rw [hcode]
  refine WpL.rangeMap (tt := lookN types) (S := rgS b l ts x0 x1 x2 x3 k) (step := rightStep b x0 x1 x2 x3 k) (l := l) (tr := 21) (tn := 22) (c := 23) (en := 24) (tm := 20) (t := 126) (tk := 179) (te := 51) (k := 2) (ksS := rgKs) mixed_ok types_ok
   (by kernel_rfl) (by kernel_rfl) (by kernel_rfl) (pre := (rops (Code.at [1,1,0,0] (body Tryd.f193))).toList.take 2) (by kernel_rfl) (by kernel_rfl) ?_ (rg_two b l ts x0 x1 x2 x3 k _) trivial (by kernel_rfl) (by kernel_rfl)
   (opAt (by kernel_rfl)) (by kernel_rfl) (opAt (by kernel_rfl)) (opAt (by kernel_rfl)) (opAt (by kernel_rfl))
   (pre4 := (rops (Code.at ([1,1,0,1,0,0,1,1,0] ++ [0]) (body Tryd.f193))).toList.drop 1) (by kernel_rfl) ?_ (by omega) (by omega) (by omega) (by omega) (by omega) (by omega) (by omega) (by omega) (by kernel_rfl) (by kernel_rfl) ?_ (by kernel_rfl)
   (L2 := rgT b l ts x0 x1 x2 x3 k) ?_
  ·intro j o hj
   rw [List.getElem?_take] at hj
   split at hj
   ·simpa using hj
   ·cases hj
  ·intro j o hj
   rw [List.getElem?_drop] at hj
   simpa using hj
  ·rintro x i (rfl | rfl | rfl | rfl) <;> kernel_rfl
  ·intro x e ke w1 fv he
   exact ⟨[],[],rgK4,_,rg_four b l ts x0 x1 x2 x3 k x e ke w1 fv,trivial,hround x e ke w1 fv he⟩
 refine contract_of_wp (C := mk PR (lookN types) glob 66) types_ok rfl (fun _ h => h) (fun _ h => h) rfl rfl right_fn ?_
 rw [show body Tryd.f193 = .seq (Code.at [0] (body Tryd.f193)) (.seq (Code.at [1,0] (body Tryd.f193)) (.seq (Code.at [1,1,0] (body Tryd.f193)) (Code.at [1,1,1] (body Tryd.f193)))) from by kernel_rfl]
 refine WpL.seq (WpL.path (G 66) (rg_pre b l ts x0 x1 x2 x3 k) trivial ?_)
 refine WpL.seq (WpL.path (G 66) (rg_one b l ts x0 x1 x2 x3 k) ⟨hs,by omega,trivial⟩ ?_)
 refine WpL.seq (hloop.mono ?_)
 rintro ex L' ⟨rfl,vis,hp,rfl⟩
 have hf : vis.foldl (rightStep b x0 x1 x2 x3 k) (b.secs.getD k.toNat sec0).t = rightF b l x0 x1 x2 x3 k := by
  unfold rightF
  exact (hp.foldl_eq' (fun x _ y _ z => rightStep_comm b x0 x1 x2 x3 k z x y) _).symm
 rw [hf]
 show WpL PR (mk PR (lookN types) glob 66) (Code.at [1,1,1] (body Tryd.f193)) _ _
 refine WpL.path (G 66) (rg_end b l ts x0 x1 x2 x3 k (rightF b l x0 x1 x2 x3 k)) ⟨by omega,low_con,by omega,lowF_con _,high_con,by omega,highF_con _,trivial⟩ ?_
 refine ⟨fun id h => (by cases h),[0 + 2 ≤ 2],by kernel_rfl,?_⟩
 intro p hp
 have : p = (0 + 2 ≤ 2) := by simpa using hp
 subst this
 omega
end Go.Di

