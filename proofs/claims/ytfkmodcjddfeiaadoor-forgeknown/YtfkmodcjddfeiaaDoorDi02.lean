/- Part 2: an interpreter over plain data for this code, with the proof that it says what the model does, and the contracts of the functions. No condition. -/
import Derived.Test.YtfkmodcjddfeiaaDoorDi01
import Derived.Laws.Append
import Derived.Laws.AppendOwn
import Derived.Laws.IdiomCopy
set_option linter.unusedVariables false
set_option linter.unusedSimpArgs false
/-
 DI,part C: what it means that the model's frame and world are as a state of the interpreter says,and how that is kept.
-/
namespace Go.Di
open Go.RowKit

/-! ### An operation's meaning as a statement -/
def M.Ok : M → St → List (Key × Val) → Prop
 | .done,_,wr => wr = []
 | .get k f,s,wr => (f (s k)).Ok s wr
 | .put k v m,s,wr => ∃ wr',wr = (k,v) :: wr' ∧ m.Ok s wr'
 | .ask p m,s,wr => p ∧ m.Ok s wr
 | .fail,_,_ => False

theorem M.exec_ok : ∀ (m : M) (s : St) (e : Eff),m.exec s = some e → (∀ p ∈ e.ps,p) → m.Ok s e.wr
 | .done,s,e,h,_ => by simp only [M.exec,Option.some.injEq] at h; subst h; rfl
 | .get k f,s,e,h,hp => by
  simp only [M.exec] at h
  split at h
  ·rename_i e' he
   cases h
   exact M.exec_ok (f (s k)) s e' he hp
  ·cases h
 | .put k v m,s,e,h,hp => by
  simp only [M.exec] at h
  split at h
  ·rename_i e' he
   cases h
   exact ⟨_,rfl,M.exec_ok m s e' he hp⟩
  ·cases h
 | .ask p m,s,e,h,hp => by
  simp only [M.exec] at h
  split at h
  ·rename_i e' he
   cases h
   exact ⟨hp p (by simp),M.exec_ok m s e' he (fun q hq => hp q (by simp [hq]))⟩
  ·cases h
 | .fail,_,_,h,_ => by cases h

/-! ### States -/
def St.tmp (s : St) (i : Nat) : D := match s (.tmp i) with | .d d => d | _ => .undef
def St.bx (s : St) (i : Nat) : Option Box := match s (.box i) with | .bx b => b | .rw zs => some ⟨false,intC zs⟩ | _ => none
def St.ob (s : St) (i : Nat) : Option Ob := match s (.obj i) with | .ob o => o | _ => none
def St.mp (s : St) (i : Nat) : Option Mp := match s (.mp i) with | .mp m => m | _ => none

theorem beq_t {i j : Nat} (h : i = j) : Nat.beq i j = true := by subst h; exact Nat.beq_refl i
theorem beq_f {i j : Nat} (h : ¬ i = j) : Nat.beq i j = false := by
 cases h' : Nat.beq i j with
 | false => rfl
 | true => exact absurd (Nat.eq_of_beq_eq_true h') h
theorem set_tmp_tmp (s : St) (i j : Nat) (v : Val) : (s.set (.tmp i) v) (.tmp j) = if i = j then v else s (.tmp j) := by
 unfold St.set
 simp only [Key.eqb]
 by_cases h : i = j
 ·rw [if_pos h,beq_t h]
 ·rw [if_neg h,beq_f h]
theorem set_box_box (s : St) (i j : Nat) (v : Val) : (s.set (.box i) v) (.box j) = if i = j then v else s (.box j) := by
 unfold St.set
 simp only [Key.eqb]
 by_cases h : i = j
 ·rw [if_pos h,beq_t h]
 ·rw [if_neg h,beq_f h]
theorem set_obj_obj (s : St) (i j : Nat) (v : Val) : (s.set (.obj i) v) (.obj j) = if i = j then v else s (.obj j) := by
 unfold St.set
 simp only [Key.eqb]
 by_cases h : i = j
 ·rw [if_pos h,beq_t h]
 ·rw [if_neg h,beq_f h]

theorem set_mp_mp (s : St) (i j : Nat) (v : Val) : (s.set (.mp i) v) (.mp j) = if i = j then v else s (.mp j) := by
 unfold St.set
 simp only [Key.eqb]
 by_cases h : i = j
 ·rw [if_pos h,beq_t h]
 ·rw [if_neg h,beq_f h]
@[simp] theorem mp_set_tmp (s : St) (i j : Nat) (v : Val) : (s.set (.tmp i) v).mp j = s.mp j := rfl
@[simp] theorem mp_set_box (s : St) (i j : Nat) (v : Val) : (s.set (.box i) v).mp j = s.mp j := rfl
@[simp] theorem mp_set_obj (s : St) (i j : Nat) (v : Val) : (s.set (.obj i) v).mp j = s.mp j := rfl
@[simp] theorem tmp_set_mp (s : St) (i j : Nat) (v : Val) : (s.set (.mp i) v).tmp j = s.tmp j := rfl
@[simp] theorem bx_set_mp (s : St) (i j : Nat) (v : Val) : (s.set (.mp i) v).bx j = s.bx j := rfl
@[simp] theorem ob_set_mp (s : St) (i j : Nat) (v : Val) : (s.set (.mp i) v).ob j = s.ob j := rfl
@[simp] theorem mp_set_mp (s : St) (i j : Nat) (o : Option Mp) : (s.set (.mp i) (.mp o)).mp j = if i = j then o else s.mp j := by
 unfold St.mp
 rw [set_mp_mp]
 by_cases h : i = j <;> simp [h]
@[simp] theorem tmp_set_tmp (s : St) (i j : Nat) (d : D) : (s.set (.tmp i) (.d d)).tmp j = if i = j then d else s.tmp j := by
 unfold St.tmp
 rw [set_tmp_tmp]
 by_cases h : i = j <;> simp [h]
@[simp] theorem bx_set_tmp (s : St) (i j : Nat) (v : Val) : (s.set (.tmp i) v).bx j = s.bx j := rfl
@[simp] theorem ob_set_tmp (s : St) (i j : Nat) (v : Val) : (s.set (.tmp i) v).ob j = s.ob j := rfl
@[simp] theorem tmp_set_box (s : St) (i j : Nat) (v : Val) : (s.set (.box i) v).tmp j = s.tmp j := rfl
@[simp] theorem ob_set_box (s : St) (i j : Nat) (v : Val) : (s.set (.box i) v).ob j = s.ob j := rfl
@[simp] theorem tmp_set_obj (s : St) (i j : Nat) (v : Val) : (s.set (.obj i) v).tmp j = s.tmp j := rfl
@[simp] theorem bx_set_obj (s : St) (i j : Nat) (v : Val) : (s.set (.obj i) v).bx j = s.bx j := rfl
@[simp] theorem bx_set_box (s : St) (i j : Nat) (b : Option Box) : (s.set (.box i) (.bx b)).bx j = if i = j then b else s.bx j := by
 unfold St.bx
 rw [set_box_box]
 by_cases h : i = j <;> simp [h]
@[simp] theorem bx_set_rw (s : St) (i j : Nat) (zs : List Int) : (s.set (.box i) (.rw zs)).bx j = if i = j then some ⟨false,intC zs⟩ else s.bx j := by
 unfold St.bx
 rw [set_box_box]
 by_cases h : i = j <;> simp [h]
@[simp] theorem ob_set_obj (s : St) (i j : Nat) (o : Option Ob) : (s.set (.obj i) (.ob o)).ob j = if i = j then o else s.ob j := by
 unfold St.ob
 rw [set_obj_obj]
 by_cases h : i = j <;> simp [h]
theorem apply_cons (s : St) (k : Key) (v : Val) (l : List (Key × Val)) : s.apply ((k,v) :: l) = (s.set k v).apply l := rfl
/-! ### What a slot holds -/
abbrev Sig := Nat → Option Addr × Nat

def RelTC (β : Nat → Nat) (σ : Sig) (s : St) (R : Foot) (w : World) : D → Value → Prop
 | .own k n,v => ∃ o,s.ob k = some o ∧ n ≤ o.xs.length ∧ (n = o.xs.length → v = .slice (σ k).1 n (σ k).2)
 | .mref i,v => (∃ m,s.mp i = some m) ∧ ∃ ad,(σ i).1 = some ad ∧ v = .map (some ad.block)
 | .row i n,v => (∃ b,s.bx i = some b) ∧ ∃ c,n ≤ c ∧ c ≤ maxLen ∧ v = .slice (some ⟨β i,0,none⟩) n c
 | d,v => RelC R w d v

def RelT (β : Nat → Nat) (σ : Sig) (s : St) (R : Foot) (w : World) : D → Value → Prop
 | .undef,_ => True
 | .ptr i off,v => (∃ b,s.bx i = some b) ∧ v = .pointer (some ⟨β i,off,none⟩)
 | .agg cs,v => ∃ vs,v = .agg vs ∧ All2 (RelTC β σ s R w) cs vs.toList
 | .own k n,v => RelTC β σ s R w (.own k n) v
 | .mref i,v => RelTC β σ s R w (.mref i) v
 | .row i n,v => (∃ b,s.bx i = some b) ∧ ∃ c,n ≤ c ∧ c ≤ maxLen ∧ v = .slice (some ⟨β i,0,none⟩) n c
 | d,v => Rel R w d v

structure BoxOk (β : Nat → Nat) (σ : Sig) (s : St) (R : Foot) (w0 w : World) (i : Nat) (b : Box) : Prop where
 new : w0.heap.size ≤ β i
 cells : ∃ arr el,w.heap[β i]? = some (.cells arr el (0,0)) ∧ (b.frozen = true → All2 (RelC R w) b.cells (arr.toList.take b.cells.length)) ∧ (b.frozen = false → All2 (RelTC β σ s R w) b.cells (arr.toList.take b.cells.length)) ∧ (b.frozen = true → ∀ j,j < arr.size → R (β i) j)
 free : b.frozen = false → ∀ o,¬ R (β i) o

structure ObjOk (β : Nat → Nat) (σ : Sig) (s : St) (R : Foot) (w0 w : World) (k : Nat) (o : Ob) : Prop where
 sl : SlR (RelE R w o.e) o.e.sz R w false o.xs (.slice (σ k).1 o.xs.length (σ k).2)
 spare : o.xs.length < (σ k).2 → ∃ g off,(σ k).1 = some ⟨g,off,none⟩ ∧ w0.heap.size ≤ g ∧ (∃ arr el,w.heap[g]? = some (.cells arr el (0,0)) ∧ off + (σ k).2 * o.e.sz ≤ arr.size) ∧
  (∀ i b,s.bx i = some b → β i ≠ g) ∧ (∀ k' o',s.ob k' = some o' → k' ≠ k → o'.xs.length < (σ k').2 → ∀ a',(σ k').1 = some a' → a'.block ≠ g) ∧ ∀ q,off + o.xs.length * o.e.sz ≤ q → ¬ R g q

/-- Of the blocks of others. -/
structure Far (C : Cfg) (w0 w : World) (s : St) (β : Nat → Nat) (σ : Sig) (R : Foot) : Prop where
 sz : C.w1.heap.size ≤ w.heap.size
 ke : ∀ b,C.ke b → b < w.heap.size ∧ w.heap[b]? = C.w1.heap[b]? ∧ (∀ i x,s.bx i = some x → x.frozen = false → β i ≠ b) ∧ ∀ k o,s.ob k = some o → o.xs.length < (σ k).2 → ∀ ad,(σ k).1 = some ad → ad.block ≠ b
 no : ∀ b,C.no b → w0.heap.size ≤ b ∧ b < w.heap.size ∧ (∀ o,¬ R b o) ∧ (∀ i x,s.bx i = some x → β i ≠ b) ∧ ∀ k o,s.ob k = some o → o.xs.length < (σ k).2 → ∀ ad,(σ k).1 = some ad → ad.block ≠ b

/-- Maps of the call's own. -/
structure MpsOk (σ : Sig) (s : St) (R : Foot) (w0 w : World) : Prop where
 ok : ∀ i m,s.mp i = some m → ∃ g,(σ i).1 = some ⟨g,0,none⟩ ∧ w0.heap.size ≤ g ∧ (∀ o,¬ R g o) ∧ MapAt w m g
 sep : ∀ i m,s.mp i = some m → s.ob i = none
 inj : ∀ i j m m',s.mp i = some m → s.mp j = some m' → (σ i).1 = (σ j).1 → i = j
theorem MapAt.obj {w : World} {m : Mp} {g : Nat} (h : MapAt w m g) : ∃ es c,w.heap[g]? = some (.map es c) := by
 obtain ⟨es,c,h,_⟩ := h
 exact ⟨es,c,h⟩
theorem MapAt.keep {w w' : World} {m : Mp} {g : Nat} (h : MapAt w m g) (hw : w'.heap[g]? = w.heap[g]?) : MapAt w' m g := by
 obtain ⟨es,c,h1,h2⟩ := h
 exact ⟨es,c,by rw [hw]; exact h1,h2⟩
theorem MpsOk.step {σ σ' : Sig} {s s' : St} {R R' : Foot} {w0 w w' : World} (h : MpsOk σ s R w0 w) (hs : ∀ i m,s'.mp i = some m → s.mp i = some m) (hσ : ∀ i m,s.mp i = some m → σ' i = σ i)
  (hw : ∀ g,(∃ es c,w.heap[g]? = some (.map es c)) → w0.heap.size ≤ g → w'.heap[g]? = w.heap[g]?) (hR : ∀ g,(∃ es c,w.heap[g]? = some (.map es c)) → (∀ o,¬ R g o) → ∀ o,¬ R' g o) (hob : ∀ i m,s.mp i = some m → s.ob i = none → s'.ob i = none) : MpsOk σ' s' R' w0 w' := by
 refine ⟨fun i m hi => ?_,fun i m hi => hob i m (hs i m hi) (h.sep i m (hs i m hi)),fun i j m m' hi hj he => ?_⟩
 ·obtain ⟨g,h1,h2,h3,h4⟩ := h.ok i m (hs i m hi)
  exact ⟨g,by rw [hσ i m (hs i m hi)]; exact h1,h2,hR g h4.obj h3,h4.keep (hw g h4.obj h2)⟩
 ·rw [hσ i m (hs i m hi),hσ j m' (hs j m' hj)] at he
  exact h.inj i j m m' (hs i m hi) (hs j m' hj) he
theorem MpsOk.same {σ : Sig} {s s' : St} {R : Foot} {w0 w : World} (h : MpsOk σ s R w0 w) (hs : ∀ i,s'.mp i = s.mp i) (ho : ∀ i,s'.ob i = s.ob i) : MpsOk σ s' R w0 w :=
 h.step (fun i m hi => by rw [← hs]; exact hi) (fun _ _ _ => rfl) (fun _ _ _ => rfl) (fun _ _ h => h) (fun i m _ h => by rw [ho]; exact h)
theorem MpsOk.none {σ : Sig} {s : St} {R : Foot} {w0 w : World} (h : ∀ i,s.mp i = none) : MpsOk σ s R w0 w :=
 ⟨fun i m hi => (by rw [h] at hi; cases hi),fun i m hi => (by rw [h] at hi; cases hi),fun i j m m' hi => (by rw [h] at hi; cases hi)⟩

structure Inv (C : Cfg) (w0 : World) (R0 : Foot) (a : Act) (w : World) (s : St) (β : Nat → Nat) (σ : Sig) (R : Foot) : Prop where
 below : Below w0.heap.size w0 w
 defers : a.defers = C.dfs
 fix : ∀ i ∈ C.fixed,a.tmps.getD i undef = C.fv i
 nt : C.nt ≤ a.tmps.size
 sub : ∀ b o,R0 b o → R b o
 dom : ∀ b o,R b o → b < w.heap.size ∧ (R0 b o ∨ w0.heap.size ≤ b)
 glob : ∀ g cs,C.glob g = some cs → Rel R w (.ref cs 0) (.pointer (some ⟨g,0,none⟩))
 tmps : ∀ i,RelT β σ s R w (s.tmp i) (a.tmps.getD i undef)
 box : ∀ i b,s.bx i = some b → BoxOk β σ s R w0 w i b
 inj : ∀ i j bi bj,s.bx i = some bi → s.bx j = some bj → β i = β j → i = j
 obj : ∀ k o,s.ob k = some o → ObjOk β σ s R w0 w k o
 far : Far C w0 w s β σ R
 mps : MpsOk σ s R w0 w

theorem Inv.box_lt {C : Cfg} {w0 w : World} {R0 R : Foot} {a : Act} {s : St} {β : Nat → Nat} {σ : Sig} (h : Inv C w0 R0 a w s β σ R) {i : Nat} {b : Box} (hb : s.bx i = some b) : β i < w.heap.size := by
 obtain ⟨arr,el,hh,_⟩ := (h.box i b hb).cells
 exact (Array.getElem?_eq_some_iff.1 hh).1

def Holds (C : Cfg) (w0 : World) (R0 : Foot) (a : Act) (w : World) (s : St) : Prop := ∃ β σ R,Inv C w0 R0 a w s β σ R

/-! ### What is told of memory that stays,stays -/
theorem RelTC.world {β : Nat → Nat} {σ : Sig} {s : St} {R R' : Foot} {w w' : World} (hk : Keeps R R' w w') : ∀ (d : D) (v : Value),RelTC β σ s R w d v → RelTC β σ s R' w' d v
 | .own k n,v,h => h
 | .undef,v,h => RelC.keep hk .undef v h
 | .int k n,v,h => RelC.keep hk (.int k n) v h
 | .bool b,v,h => RelC.keep hk (.bool b) v h
 | .nil,v,h => RelC.keep hk .nil v h
 | .nilmap,v,h => RelC.keep hk .nilmap v h
 | .nilfn,v,h => RelC.keep hk .nilfn v h
 | .sl f e xs,v,h => RelC.keep hk (.sl f e xs) v h
 | .map m,v,h => RelC.keep hk (.map m) v h
 | .fn f a b,v,h => RelC.keep hk (.fn f a b) v h
 | .self f a b,v,h => RelC.keep hk (.self f a b) v h
 | .ptr i n,v,h => RelC.keep hk (.ptr i n) v h
 | .mref i,v,h => h
 | .row i n,v,h => h
 | .ref c o,v,h => RelC.keep hk (.ref c o) v h
 | .agg cs,v,h => RelC.keep hk (.agg cs) v h
 | .tup vs,v,h => RelC.keep hk (.tup vs) v h

theorem RelT.world {β : Nat → Nat} {σ : Sig} {s : St} {R R' : Foot} {w w' : World} (hk : Keeps R R' w w') : ∀ (d : D) (v : Value),RelT β σ s R w d v → RelT β σ s R' w' d v
 | .own k n,v,h => h
 | .undef,v,h => trivial
 | .int k n,v,h => Rel.keep hk (.int k n) v h
 | .bool b,v,h => Rel.keep hk (.bool b) v h
 | .nil,v,h => Rel.keep hk .nil v h
 | .nilmap,v,h => Rel.keep hk .nilmap v h
 | .nilfn,v,h => Rel.keep hk .nilfn v h
 | .sl f e xs,v,h => Rel.keep hk (.sl f e xs) v h
 | .map m,v,h => Rel.keep hk (.map m) v h
 | .fn f a b,v,h => Rel.keep hk (.fn f a b) v h
 | .self f a b,v,h => Rel.keep hk (.self f a b) v h
 | .ptr i n,v,h => h
 | .mref i,v,h => h
 | .row i n,v,h => h
 | .ref c o,v,h => Rel.keep hk (.ref c o) v h
 | .agg cs,v,⟨vs,hv,h⟩ => ⟨vs,hv,h.imp (RelTC.world hk)⟩
 | .tup vs,v,h => Rel.keep hk (.tup vs) v h

/-- The slots,boxes and rows of two states of which the second knows no less of boxes and rows. -/
structure Grows (β β' : Nat → Nat) (σ σ' : Sig) (s s' : St) : Prop where
 box : ∀ i b,s.bx i = some b → (∃ b',s'.bx i = some b') ∧ β' i = β i
 obj : ∀ k o,s.ob k = some o → ∃ o',s'.ob k = some o' ∧ o.xs.length ≤ o'.xs.length ∧ (o'.xs.length = o.xs.length → σ' k = σ k)
 mp : ∀ i m,s.mp i = some m → (∃ m',s'.mp i = some m') ∧ σ' i = σ i

theorem RelTC.grow {β β' : Nat → Nat} {σ σ' : Sig} {s s' : St} {R : Foot} {w : World} (hg : Grows β β' σ σ' s s') : ∀ (d : D) (v : Value),RelTC β σ s R w d v → RelTC β' σ' s' R w d v
 | .own k n,v,⟨o,ho,hle,h⟩ => by
  obtain ⟨o',ho',h1,h2⟩ := hg.obj k o ho
  exact ⟨o',ho',by omega,fun e => by rw [h2 (by omega)]; exact h (by omega)⟩
 | .mref i,v,⟨⟨m,hm⟩,ad,h1,h2⟩ => ⟨(hg.mp i m hm).1,ad,by rw [(hg.mp i m hm).2]; exact h1,h2⟩
 | .row i n,v,⟨⟨b,hb⟩,hv⟩ => ⟨(hg.box i b hb).1,by rw [(hg.box i b hb).2]; exact hv⟩
 | .undef,v,h => h | .int k n,v,h => h | .bool b,v,h => h | .nil,v,h => h | .nilmap,v,h => h | .nilfn,v,h => h | .sl f e xs,v,h => h | .map m,v,h => h
 | .fn f a b,v,h => h | .self f a b,v,h => h | .ptr i n,v,h => h | .ref c o,v,h => h | .agg cs,v,h => h | .tup vs,v,h => h

theorem RelT.grow {β β' : Nat → Nat} {σ σ' : Sig} {s s' : St} {R : Foot} {w : World} (hg : Grows β β' σ σ' s s') : ∀ (d : D) (v : Value),RelT β σ s R w d v → RelT β' σ' s' R w d v
 | .own k n,v,h => RelTC.grow (β := β) (β' := β') (R := R) (w := w) hg (.own k n) v h
 | .mref i,v,h => RelTC.grow (β := β) (β' := β') (R := R) (w := w) hg (.mref i) v h
 | .row i n,v,⟨⟨b,hb⟩,hv⟩ => ⟨(hg.box i b hb).1,by rw [(hg.box i b hb).2]; exact hv⟩
 | .ptr i off,v,⟨⟨b,hb⟩,hv⟩ => by
  obtain ⟨h1,h2⟩ := hg.box i b hb
  exact ⟨h1,by rw [h2]; exact hv⟩
 | .agg cs,v,⟨vs,hv,h⟩ => ⟨vs,hv,h.imp (RelTC.grow hg)⟩
 | .undef,v,h => h | .int k n,v,h => h | .bool b,v,h => h | .nil,v,h => h | .nilmap,v,h => h | .nilfn,v,h => h | .sl f e xs,v,h => h | .map m,v,h => h
 | .fn f a b,v,h => h | .self f a b,v,h => h | .ref c o,v,h => h | .tup vs,v,h => h

/-! ### Slots -/
theorem getD_put (a : Act) (d : Nat) (v : Value) (i : Nat) (hd : d < a.tmps.size) : (a.put (some d) v).tmps.getD i undef = if d = i then v else a.tmps.getD i undef := by
 simp only [Act.put,Array.getD_eq_getD_getElem?,Array.getElem?_setIfInBounds]
 by_cases h : d = i
 ·subst h
  simp [hd]
 ·simp [h]

section
variable {C : Cfg} {w0 w : World} {R0 R : Foot} {a : Act} {s : St} {β : Nat → Nat} {σ : Sig}

theorem okT_lt {C : Cfg} {t : Nat} (h : okT C t = true) : t < C.nt := by
 simp only [okT,Bool.and_eq_true] at h
 exact Nat.le_of_ble_eq_true h.1
theorem okT_fx {C : Cfg} {t : Nat} (h : okT C t = true) : t ∉ C.fixed := by
 simp only [okT,Bool.and_eq_true,Bool.not_eq_true',List.any_eq_false] at h
 intro hm
 have := h.2 t hm
 rw [Nat.beq_refl t] at this
 exact this rfl

theorem Inv.put (h : Inv C w0 R0 a w s β σ R) (d : Nat) (hd : d < C.nt) (hfx : d ∉ C.fixed) {x : D} {v : Value} (hv : RelT β σ s R w x v) :
  Inv C w0 R0 (a.put (some d) v) w (s.set (.tmp d) (.d x)) β σ R := by
 have hlt : d < a.tmps.size := Nat.lt_of_lt_of_le hd h.nt
 have hg : Grows β β σ σ s (s.set (.tmp d) (.d x)) := ⟨fun i b hb => ⟨⟨b,hb⟩,rfl⟩,fun k o ho => ⟨o,ho,Nat.le_refl _,fun _ => rfl⟩,fun i m hm => ⟨⟨m,hm⟩,rfl⟩⟩
 refine ⟨h.below,h.defers,fun i hi => by rw [getD_put a d v i hlt,if_neg (fun (e : d = i) => hfx (by rw [e]; exact hi))]; exact h.fix i hi,by simp [Act.put]; exact h.nt,h.sub,h.dom,h.glob,fun i => ?_,fun i b hb => ?_,h.inj,fun k o ho => ?_,?_,h.mps.same (fun _ => rfl) (fun _ => rfl)⟩
 ·rw [getD_put a d v i hlt,tmp_set_tmp]
  by_cases e : d = i
  ·rw [if_pos e,if_pos e]; exact RelT.grow hg _ _ hv
  ·rw [if_neg e,if_neg e]; exact RelT.grow hg _ _ (h.tmps i)
 ·obtain ⟨h1,⟨arr,el,h2,h3,h4,h5⟩,h6⟩ := h.box i b hb
  exact ⟨h1,⟨arr,el,h2,h3,fun hf => (h4 hf).imp (RelTC.grow hg),h5⟩,h6⟩
 ·obtain ⟨h1,h2⟩ := h.obj k o ho
  exact ⟨h1,h2⟩
 ·exact ⟨h.far.sz,h.far.ke,h.far.no⟩

theorem Inv.congr (h : Inv C w0 R0 a w s β σ R) {s' : St} (ht : ∀ i,s'.tmp i = s.tmp i) (hb : ∀ i,s'.bx i = s.bx i) (ho : ∀ i,s'.ob i = s.ob i) (hm : ∀ i,s'.mp i = s.mp i) : Inv C w0 R0 a w s' β σ R := by
 have hg : Grows β β σ σ s s' := ⟨fun i b hi => ⟨⟨b,by rw [hb]; exact hi⟩,rfl⟩,fun k o hk => ⟨o,by rw [ho]; exact hk,Nat.le_refl _,fun _ => rfl⟩,fun i m hi => ⟨⟨m,by rw [hm]; exact hi⟩,rfl⟩⟩
 refine ⟨h.below,h.defers,h.fix,h.nt,h.sub,h.dom,h.glob,fun i => by rw [ht]; exact RelT.grow hg _ _ (h.tmps i),fun i b hi => ?_,fun i j bi bj hi hj e => h.inj i j bi bj (by rw [← hb]; exact hi) (by rw [← hb]; exact hj) e,fun k o hk => ?_,?_,h.mps.same hm ho⟩
 ·obtain ⟨h1,⟨arr,el,h2,h3,h4,h5⟩,h6⟩ := h.box i b (by rw [← hb]; exact hi)
  exact ⟨h1,⟨arr,el,h2,h3,fun hf => (h4 hf).imp (RelTC.grow hg),h5⟩,h6⟩
 ·obtain ⟨h1,h2⟩ := h.obj k o (by rw [← ho]; exact hk)
  refine ⟨h1,fun hl => ?_⟩
  obtain ⟨g,off,q1,q2,q3,q4,q5,q6⟩ := h2 hl
  exact ⟨g,off,q1,q2,q3,fun i b hi => q4 i b (by rw [← hb]; exact hi),fun k' o' hk' => q5 k' o' (by rw [← ho]; exact hk'),q6⟩
 ·refine ⟨h.far.sz,fun b hb' => ?_,fun b hb' => ?_⟩
  ·obtain ⟨p1,p2,p3,p4⟩ := h.far.ke b hb'
   exact ⟨p1,p2,fun i x hi => p3 i x (by rw [← hb]; exact hi),fun k o hk => p4 k o (by rw [← ho]; exact hk)⟩
  ·obtain ⟨p1,p2,p3,p4,p5⟩ := h.far.no b hb'
   exact ⟨p1,p2,p3,fun i x hi => p4 i x (by rw [← hb]; exact hi),fun k o hk => p5 k o (by rw [← ho]; exact hk)⟩
theorem Inv.rw_box {i : Nat} {zs : List Int} (h : Inv C w0 R0 a w (s.set (.box i) (.bx (some ⟨false,intC zs⟩))) β σ R) : Inv C w0 R0 a w (s.set (.box i) (.rw zs)) β σ R :=
 h.congr (fun _ => rfl) (fun j => by rw [bx_set_rw,bx_set_box]) (fun _ => rfl) (fun _ => rfl)

theorem Inv.later (h : Inv C w0 R0 a w s β σ R) {w' : World} {R' : Foot} (hb : Below w.heap.size w w') (hR : ∀ b o,R b o → R' b o) (hd : ∀ b o,R' b o → b < w'.heap.size ∧ (R b o ∨ w.heap.size ≤ b)) :
  Inv C w0 R0 a w' s β σ R' := by
 have hk : Keeps R R' w w' := Keeps.of_below hR (fun b o hr => (h.dom b o hr).1) hb
 have hsz : w0.heap.size ≤ w.heap.size := h.below.size
 refine ⟨h.below.trans (hb.mono hsz),h.defers,h.fix,h.nt,fun b o hr => hR _ _ (h.sub b o hr),fun b o hr => ⟨(hd b o hr).1,?_⟩,fun g cs hg => Rel.keep hk _ _ (h.glob g cs hg),fun i => RelT.world hk _ _ (h.tmps i),fun i b hb' => ?_,h.inj,fun k o ho => ?_,?_,h.mps.step (fun _ _ h => h) (fun _ _ _ => rfl) (fun g ⟨es,c,hg⟩ _ => hb.block g (Array.getElem?_eq_some_iff.1 hg).1) (fun g ⟨es,c,hg⟩ hR o hr => ?_) (fun _ _ _ h => h)⟩
 ·rcases (hd b o hr).2 with h1 | h1
  ·exact (h.dom b o h1).2
  ·exact .inr (Nat.le_trans hsz h1)
 ·have hlt := h.box_lt hb'
  obtain ⟨h1,⟨arr,el,h2,h3,h4,h5⟩,h6⟩ := h.box i b hb'
  refine ⟨h1,⟨arr,el,by rw [hb.block _ hlt]; exact h2,fun hf => (h3 hf).imp (RelC.keep hk),fun hf => (h4 hf).imp (RelTC.world hk),fun hf j hj => hR _ _ (h5 hf j hj)⟩,fun hf o hr => ?_⟩
  rcases (hd _ _ hr).2 with h7 | h7
  ·exact h6 hf o h7
  ·omega
 ·obtain ⟨h1,h2⟩ := h.obj k o ho
  refine ⟨SlR.keep hk (fun x vs hx => RelE.keep hk _ x vs hx) h1,fun hlt => ?_⟩
  obtain ⟨g,off,h3,h4,⟨arr,el,h5,h6⟩,h7,h8,h9⟩ := h2 hlt
  have hglt : g < w.heap.size := (Array.getElem?_eq_some_iff.1 h5).1
  refine ⟨g,off,h3,h4,⟨arr,el,by rw [hb.block _ hglt]; exact h5,h6⟩,h7,h8,fun q hq hr => ?_⟩
  rcases (hd _ _ hr).2 with h10 | h10
  ·exact h9 q hq h10
  ·omega
 ·refine ⟨Nat.le_trans h.far.sz hb.size,fun b hb' => ?_,fun b hb' => ?_⟩
  ·obtain ⟨p1,p2,p3,p4⟩ := h.far.ke b hb'
   exact ⟨Nat.lt_of_lt_of_le p1 hb.size,by rw [hb.block b p1]; exact p2,p3,p4⟩
  ·obtain ⟨p1,p2,p3,p4,p5⟩ := h.far.no b hb'
   refine ⟨p1,Nat.lt_of_lt_of_le p2 hb.size,fun o hr => ?_,p4,p5⟩
   rcases (hd _ _ hr).2 with h10 | h10
   ·exact p3 o h10
   ·omega
 ·have := (Array.getElem?_eq_some_iff.1 hg).1
  rcases (hd g o hr).2 with h1 | h1
  ·exact hR o h1
  ·omega
end
end Go.Di

/-
 DI,part C2: what writing does: new boxes,stores into boxes,boxes that are shut,rows that grow.
-/
namespace Go.Di
open Go.RowKit

theorem all2_take {α β : Type} {p : α → β → Prop} : ∀ {l : List α} {m : List β},All2 p l m → All2 p l (m.take l.length)
 | [],[],_ => trivial
 | _ :: _,_ :: _,⟨h1,h2⟩ => ⟨h1,all2_take h2⟩
 | [],_ :: _,h => h.elim
 | _ :: _,[],h => h.elim

/-- Cells told besides. -/
def addF (R : Foot) (g lo hi : Nat) : Foot := fun b o => R b o ∨ (b = g ∧ lo ≤ o ∧ o < hi)

theorem below_alloc1 (w : World) (o : Obj) : Below w.heap.size w (w.alloc o) := (Below.refl _ _).alloc (Nat.le_refl _) o
theorem below_drew1 (w : World) : Below w.heap.size w w.drew := (Below.refl _ _).drew

section
variable {C : Cfg} {w0 w : World} {R0 R : Foot} {a : Act} {s : St} {β : Nat → Nat} {σ : Sig}

theorem Inv.drew (h : Inv C w0 R0 a w s β σ R) : Inv C w0 R0 a w.drew s β σ R :=
 h.later (below_drew1 w) (fun _ _ hr => hr) (fun b o hr => ⟨(h.dom b o hr).1,.inl hr⟩)

theorem Inv.newBox0 (h : Inv C w0 R0 a w s β σ R) (d : Nat) (hn : s.bx d = none) (cs : List D) (arr : Array Value) (el : TypeId) (hc : All2 (RelTC β σ s R w) cs (arr.toList.take cs.length)) :
  Inv C w0 R0 a (w.alloc (.cells arr el)) (s.set (.box d) (.bx (some ⟨false,cs⟩))) (fun i => if i = d then w.heap.size else β i) σ R := by
 have h1 : Inv C w0 R0 a (w.alloc (.cells arr el)) s β σ R := h.later (below_alloc1 _ _) (fun _ _ hr => hr) (fun b o hr => ⟨by have := (h.dom b o hr).1; simp; omega,.inl hr⟩)
 have hk : Keeps R R w (w.alloc (.cells arr el)) := Keeps.of_below (fun _ _ hr => hr) (fun b o hr => (h.dom b o hr).1) (below_alloc1 _ _)
 have hg : Grows β (fun i => if i = d then w.heap.size else β i) σ σ s (s.set (.box d) (.bx (some ⟨false,cs⟩))) :=
  ⟨fun i b hb => by
   have hne : i ≠ d := fun e => by rw [e,hn] at hb; cases hb
   refine ⟨⟨b,?_⟩,by simp [hne]⟩
   rw [bx_set_box,if_neg (fun e => hne e.symm)]
   exact hb,fun k o ho => ⟨o,ho,Nat.le_refl _,fun _ => rfl⟩,fun i m hm => ⟨⟨m,hm⟩,rfl⟩⟩
 have hlt0 := h.below.size
 refine ⟨h1.below,h1.defers,h1.fix,h1.nt,h1.sub,h1.dom,h1.glob,fun i => RelT.grow hg _ _ (h1.tmps i),fun i b hb => ?_,fun i j bi bj hi hj e => ?_,fun k o ho => ?_,?_,h1.mps.same (fun _ => rfl) (fun _ => rfl)⟩
 ·rw [bx_set_box] at hb
  by_cases e : d = i
  ·rw [if_pos e] at hb
   cases hb
   subst e
   refine ⟨by simp; omega,⟨arr,el,by rw [if_pos rfl]; exact heap_alloc_new w _,fun hf => (by cases hf),fun _ => (hc.imp (RelTC.world hk)).imp (RelTC.grow hg),fun hf => (by cases hf)⟩,fun _ o hr => ?_⟩
   have := (h.dom _ o hr).1
   simp at this
  ·rw [if_neg e] at hb
   have e' : i ≠ d := fun x => e x.symm
   obtain ⟨p1,⟨ar,e2,p2,p3,p4,p5⟩,p6⟩ := h1.box i b hb
   refine ⟨by simp only [e',if_false]; exact p1,⟨ar,e2,by simp only [e',if_false]; exact p2,p3,fun hf => (p4 hf).imp (RelTC.grow hg),by simp only [e',if_false]; exact p5⟩,by simp only [e',if_false]; exact p6⟩
 ·rw [bx_set_box] at hi hj
  by_cases e1 : d = i
  ·by_cases e2 : d = j
   ·exact e1.symm.trans e2
   ·rw [if_neg e2] at hj
    have := h.box_lt hj
    simp only [e1.symm,if_true,show ¬ j = d from fun x => e2 x.symm,if_false] at e
    omega
  ·by_cases e2 : d = j
   ·rw [if_neg e1] at hi
    have := h.box_lt hi
    simp only [e2.symm,if_true,show ¬ i = d from fun x => e1 x.symm,if_false] at e
    omega
   ·rw [if_neg e1] at hi
    rw [if_neg e2] at hj
    simp only [show ¬ i = d from fun x => e1 x.symm,show ¬ j = d from fun x => e2 x.symm,if_false] at e
    exact h.inj i j bi bj hi hj e
 ·obtain ⟨p1,p2⟩ := h1.obj k o ho
  refine ⟨p1,fun hlt => ?_⟩
  obtain ⟨g,off,q1,q2,q3,q4,q5,q6⟩ := p2 hlt
  refine ⟨g,off,q1,q2,q3,fun i b hb => ?_,q5,q6⟩
  rw [bx_set_box] at hb
  by_cases e : d = i
  ·obtain ⟨g',off',r1,r2,⟨ar,e2,r3,r4⟩,_⟩ := (h.obj k o ho).spare hlt
   have hgl := (Array.getElem?_eq_some_iff.1 r3).1
   rw [q1] at r1
   cases r1
   simp only [e.symm,if_true]
   omega
  ·rw [if_neg e] at hb
   simp only [show ¬ i = d from fun x => e x.symm,if_false]
   exact q4 i b hb
 ·have hbx : ∀ (i : Nat) (x : Box) (b : Nat),b < w.heap.size → (s.set (.box d) (.bx (some ⟨false,cs⟩))).bx i = some x → (∀ x',s.bx i = some x' → β i ≠ b) → (if i = d then w.heap.size else β i) ≠ b := by
   intro i x b hlt hi hne
   rw [bx_set_box] at hi
   by_cases e : d = i
   ·simp only [e.symm,if_true]
    omega
   ·rw [if_neg e] at hi
    simp only [show ¬ i = d from fun x => e x.symm,if_false]
    exact hne x hi
  refine ⟨h1.far.sz,fun b hb => ?_,fun b hb => ?_⟩
  ·obtain ⟨p1,p2,p3,p4⟩ := h1.far.ke b hb
   obtain ⟨p1',p2',p3',p4'⟩ := h.far.ke b hb
   refine ⟨p1,p2,fun i x hi hf => ?_,p4⟩
   rw [bx_set_box] at hi
   by_cases e : d = i
   ·simp only [e.symm,if_true]
    omega
   ·rw [if_neg e] at hi
    simp only [show ¬ i = d from fun x => e x.symm,if_false]
    exact p3' i x hi hf
  ·obtain ⟨p1,p2,p3,p4,p5⟩ := h1.far.no b hb
   obtain ⟨p1',p2',p3',p4',p5'⟩ := h.far.no b hb
   exact ⟨p1,p2,p3,fun i x hi => hbx i x b p2' hi fun x' hx' => p4' i x' hx',p5⟩
theorem Inv.newBox (h : Inv C w0 R0 a w s β σ R) (d : Nat) (hd : d < C.nt) (hfx : d ∉ C.fixed) (hn : s.bx d = none) (cs : List D) (arr : Array Value) (el : TypeId) (hc : All2 (RelTC β σ s R w) cs arr.toList) :
  Inv C w0 R0 (a.put (some d) (.pointer (some ⟨w.heap.size,0,none⟩))) (w.alloc (.cells arr el)) ((s.set (.box d) (.bx (some ⟨false,cs⟩))).set (.tmp d) (.d (.ptr d 0))) (fun i => if i = d then w.heap.size else β i) σ R := by
 exact (h.newBox0 d hn cs arr el (all2_take hc)).put d hd hfx ⟨⟨⟨false,cs⟩,by rw [bx_set_box,if_pos rfl]⟩,by simp⟩

theorem Inv.addBox (h : Inv C w0 R0 a w s β σ R) (d : Nat) (hn : s.bx d = none) (cs : List D) (arr : Array Value) (el : TypeId) (g : Nat) (hg0 : w.heap[g]? = some (.cells arr el (0,0))) (hc : All2 (RelTC β σ s R w) cs (arr.toList.take cs.length))
  (hnew : w0.heap.size ≤ g) (hfree : ∀ o,¬ R g o) (hbx : ∀ i b,s.bx i = some b → β i ≠ g) (hob : ∀ k o,s.ob k = some o → o.xs.length < (σ k).2 → ∀ ad,(σ k).1 = some ad → ad.block ≠ g) (hke : ∀ b,C.ke b → b ≠ g) (hno : ∀ b,C.no b → b ≠ g) :
  Inv C w0 R0 a w (s.set (.box d) (.bx (some ⟨false,cs⟩))) (fun i => if i = d then g else β i) σ R := by
 have hg : Grows β (fun i => if i = d then g else β i) σ σ s (s.set (.box d) (.bx (some ⟨false,cs⟩))) :=
  ⟨fun i b hb => by
   have hne : i ≠ d := fun e => by rw [e,hn] at hb; cases hb
   refine ⟨⟨b,?_⟩,by simp [hne]⟩
   rw [bx_set_box,if_neg (fun e => hne e.symm)]
   exact hb,fun k o ho => ⟨o,ho,Nat.le_refl _,fun _ => rfl⟩,fun i m hm => ⟨⟨m,hm⟩,rfl⟩⟩
 refine ⟨h.below,h.defers,h.fix,h.nt,h.sub,h.dom,h.glob,fun i => RelT.grow hg _ _ (h.tmps i),fun i b hb => ?_,fun i j bi bj hi hj e => ?_,fun k o ho => ?_,?_,h.mps.same (fun _ => rfl) (fun _ => rfl)⟩
 ·rw [bx_set_box] at hb
  by_cases e : d = i
  ·rw [if_pos e] at hb
   cases hb
   subst e
   exact ⟨by simp only [if_true]; exact hnew,⟨arr,el,by simp only [if_true]; exact hg0,fun hf => (by cases hf),fun _ => hc.imp (RelTC.grow hg),fun hf => (by cases hf)⟩,fun _ o => by simp only [if_true]; exact hfree o⟩
  ·rw [if_neg e] at hb
   have e' : i ≠ d := fun x => e x.symm
   obtain ⟨p1,⟨ar,e2,p2,p3,p4,p5⟩,p6⟩ := h.box i b hb
   refine ⟨by simp only [e',if_false]; exact p1,⟨ar,e2,by simp only [e',if_false]; exact p2,p3,fun hf => (p4 hf).imp (RelTC.grow hg),by simp only [e',if_false]; exact p5⟩,by simp only [e',if_false]; exact p6⟩
 ·rw [bx_set_box] at hi hj
  by_cases e1 : d = i
  ·by_cases e2 : d = j
   ·exact e1.symm.trans e2
   ·rw [if_neg e2] at hj
    simp only [e1.symm,if_true,show ¬ j = d from fun x => e2 x.symm,if_false] at e
    exact absurd e.symm (hbx j bj hj)
  ·by_cases e2 : d = j
   ·rw [if_neg e1] at hi
    simp only [e2.symm,if_true,show ¬ i = d from fun x => e1 x.symm,if_false] at e
    exact absurd e (hbx i bi hi)
   ·rw [if_neg e1] at hi
    rw [if_neg e2] at hj
    simp only [show ¬ i = d from fun x => e1 x.symm,show ¬ j = d from fun x => e2 x.symm,if_false] at e
    exact h.inj i j bi bj hi hj e
 ·obtain ⟨p1,p2⟩ := h.obj k o ho
  refine ⟨p1,fun hlt => ?_⟩
  obtain ⟨g',off,q1,q2,q3,q4,q5,q6⟩ := p2 hlt
  refine ⟨g',off,q1,q2,q3,fun i b hb => ?_,q5,q6⟩
  rw [bx_set_box] at hb
  by_cases e : d = i
  ·simp only [e.symm,if_true]
   exact fun x => hob k o ho hlt _ q1 x.symm
  ·rw [if_neg e] at hb
   simp only [show ¬ i = d from fun x => e x.symm,if_false]
   exact q4 i b hb
 ·refine ⟨h.far.sz,fun b hb => ?_,fun b hb => ?_⟩
  ·obtain ⟨p1,p2,p3,p4⟩ := h.far.ke b hb
   refine ⟨p1,p2,fun i x hi hf => ?_,p4⟩
   rw [bx_set_box] at hi
   by_cases e : d = i
   ·simp only [e.symm,if_true]
    exact fun x => hke b hb x.symm
   ·rw [if_neg e] at hi
    simp only [show ¬ i = d from fun x => e x.symm,if_false]
    exact p3 i x hi hf
  ·obtain ⟨p1,p2,p3,p4,p5⟩ := h.far.no b hb
   refine ⟨p1,p2,p3,fun i x hi => ?_,p5⟩
   rw [bx_set_box] at hi
   by_cases e : d = i
   ·simp only [e.symm,if_true]
    exact fun x => hno b hb x.symm
   ·rw [if_neg e] at hi
    simp only [show ¬ i = d from fun x => e x.symm,if_false]
    exact p4 i x hi

theorem keeps_write {w' : World} {g : Nat} {arr arr' : Array Value} {el : TypeId} (h1 : w.heap[g]? = some (.cells arr el (0,0))) (h2 : w'.heap[g]? = some (.cells arr' el (0,0)))
  (ho : ∀ k,k ≠ g → w'.heap[k]? = w.heap[k]?) (hc : ∀ o,R g o → arr'[o]? = arr[o]?) : Keeps R R w w' := by
 refine ⟨fun _ _ h => h,fun b o u hr hu => ?_,fun b es c hr hm => ?_⟩
 ·by_cases e : b = g
  ·subst e
   simp only [World.cell?,h1] at hu
   simp only [World.cell?,h2]
   simp only [Option.isSome_none,Bool.false_eq_true,if_false] at hu ⊢
   rw [hc o hr]; exact hu
  ·simp only [World.cell?] at hu ⊢
   rw [ho b e]; exact hu
 ·by_cases e : b = g
  ·subst e
   rw [h1] at hm; cases hm
  ·rw [ho b e]; exact hm

theorem Inv.storeBox (h : Inv C w0 R0 a w s β σ R) {i : Nat} {b : Box} (hb : s.bx i = some b) (hf : b.frozen = false) {w' : World} {arr arr' : Array Value} {el : TypeId} (cs : List D)
  (h1 : w.heap[β i]? = some (.cells arr el (0,0))) (h2 : w'.heap[β i]? = some (.cells arr' el (0,0))) (ho : ∀ k,k ≠ β i → w'.heap[k]? = w.heap[k]?)
  (hw : w'.os = w.os ∧ w'.tape = w.tape ∧ w'.output = w.output ∧ w'.heap.size = w.heap.size) (hc : All2 (RelTC β σ s R w) cs (arr'.toList.take cs.length)) :
  Inv C w0 R0 a w' (s.set (.box i) (.bx (some ⟨false,cs⟩))) β σ R := by
 have hfree := (h.box i b hb).free hf
 have hnew := (h.box i b hb).new
 have hk : Keeps R R w w' := keeps_write h1 h2 ho (fun o hr => absurd hr (hfree o))
 have hg : Grows β β σ σ s (s.set (.box i) (.bx (some ⟨false,cs⟩))) :=
  ⟨fun j b' hb' => ⟨by
   rw [bx_set_box]
   by_cases e : i = j
   ·exact ⟨_,by rw [if_pos e]⟩
   ·exact ⟨b',by rw [if_neg e]; exact hb'⟩,rfl⟩,fun k o ho => ⟨o,ho,Nat.le_refl _,fun _ => rfl⟩,fun i m hm => ⟨⟨m,hm⟩,rfl⟩⟩
 refine ⟨h.below.trans ⟨hw.1,hw.2.1,hw.2.2.1,by rw [hw.2.2.2]; exact Nat.le_refl _,fun k hk' => ho k (by omega)⟩,h.defers,h.fix,h.nt,h.sub,fun b o hr => by rw [hw.2.2.2]; exact h.dom b o hr,fun g cs hg' => Rel.keep hk _ _ (h.glob g cs hg'),
  fun j => RelT.grow hg _ _ (RelT.world hk _ _ (h.tmps j)),fun j b' hb' => ?_,fun j j' bj bj' hj hj' e => ?_,fun k o ho' => ?_,?_,h.mps.step (fun _ _ h => h) (fun _ _ _ => rfl) (fun g ⟨es,c,hg'⟩ _ => ho g (fun e => by rw [e,h1] at hg'; cases hg')) (fun _ _ h => h) (fun _ _ _ h => h)⟩
 ·rw [bx_set_box] at hb'
  by_cases e : i = j
  ·subst e
   rw [if_pos rfl] at hb'
   cases hb'
   exact ⟨hnew,⟨arr',el,h2,fun x => (by cases x),fun _ => (hc.imp (RelTC.world hk)).imp (RelTC.grow hg),fun x => (by cases x)⟩,fun _ => hfree⟩
  ·rw [if_neg e] at hb'
   have hne : β j ≠ β i := fun x => e (h.inj j i b' b hb' hb x).symm
   obtain ⟨p1,⟨ar,e2,p2,p3,p4,p5⟩,p6⟩ := h.box j b' hb'
   exact ⟨p1,⟨ar,e2,by rw [ho _ hne]; exact p2,fun x => (p3 x).imp (RelC.keep hk),fun x => ((p4 x).imp (RelTC.world hk)).imp (RelTC.grow hg),p5⟩,p6⟩
 ·rw [bx_set_box] at hj hj'
  have hj2 : ∃ x,s.bx j = some x := by
   by_cases e : i = j
   ·exact ⟨b,e ▸ hb⟩
   ·rw [if_neg e] at hj; exact ⟨_,hj⟩
  have hj3 : ∃ x,s.bx j' = some x := by
   by_cases e : i = j'
   ·exact ⟨b,e ▸ hb⟩
   ·rw [if_neg e] at hj'; exact ⟨_,hj'⟩
  obtain ⟨x,hx⟩ := hj2
  obtain ⟨y,hy⟩ := hj3
  exact h.inj j j' x y hx hy e
 ·obtain ⟨p1,p2⟩ := h.obj k o ho'
  refine ⟨SlR.keep hk (fun x vs hx => RelE.keep hk _ x vs hx) p1,fun hlt => ?_⟩
  obtain ⟨g,off,q1,q2,⟨ar,e2,q3,q3'⟩,q4,q5,q6⟩ := p2 hlt
  have hne : g ≠ β i := fun x => q4 i b hb x.symm
  refine ⟨g,off,q1,q2,⟨ar,e2,by rw [ho _ hne]; exact q3,q3'⟩,fun j bj hj => ?_,q5,q6⟩
  rw [bx_set_box] at hj
  by_cases e : i = j
  ·exact fun x => q4 i b hb (e ▸ x)
  ·rw [if_neg e] at hj; exact q4 j bj hj
 ·refine ⟨by rw [hw.2.2.2]; exact h.far.sz,fun b' hb' => ?_,fun b' hb' => ?_⟩
  ·obtain ⟨p1,p2,p3,p4⟩ := h.far.ke b' hb'
   refine ⟨by rw [hw.2.2.2]; exact p1,by rw [ho b' (fun e => p3 i b hb hf e.symm)]; exact p2,fun j x hj hfx => ?_,p4⟩
   rw [bx_set_box] at hj
   by_cases e : i = j
   ·subst e; exact p3 i b hb hf
   ·rw [if_neg e] at hj; exact p3 j x hj hfx
  ·obtain ⟨p1,p2,p3,p4,p5⟩ := h.far.no b' hb'
   refine ⟨p1,by rw [hw.2.2.2]; exact p2,p3,fun j x hj => ?_,p5⟩
   rw [bx_set_box] at hj
   by_cases e : i = j
   ·subst e; exact p4 i b hb
   ·rw [if_neg e] at hj; exact p4 j x hj

theorem Inv.freeze (h : Inv C w0 R0 a w s β σ R) {i : Nat} {b : Box} (hb : s.bx i = some b) (cs : List D)
  (hc : ∀ arr el,w.heap[β i]? = some (.cells arr el (0,0)) → All2 (RelC R w) cs (arr.toList.take cs.length)) :
  ∃ n,(∃ arr el,w.heap[β i]? = some (.cells arr el (0,0)) ∧ arr.size = n) ∧ Inv C w0 R0 a w (s.set (.box i) (.bx (some ⟨true,cs⟩))) β σ (addF R (β i) 0 n) := by
 obtain ⟨p1,⟨arr,el,p2,p3,p4,p5⟩,p6⟩ := h.box i b hb
 have hlt := h.box_lt hb
 refine ⟨arr.size,⟨arr,el,p2,rfl⟩,?_⟩
 have hk : Keeps R (addF R (β i) 0 arr.size) w w := ⟨fun _ _ hr => .inl hr,fun _ _ _ _ h => h,fun _ _ _ _ h => h⟩
 have hg : Grows β β σ σ s (s.set (.box i) (.bx (some ⟨true,cs⟩))) :=
  ⟨fun j b' hb' => ⟨by
   rw [bx_set_box]
   by_cases e : i = j
   ·exact ⟨_,by rw [if_pos e]⟩
   ·exact ⟨b',by rw [if_neg e]; exact hb'⟩,rfl⟩,fun k o ho => ⟨o,ho,Nat.le_refl _,fun _ => rfl⟩,fun i m hm => ⟨⟨m,hm⟩,rfl⟩⟩
 have hsome : ∀ j bj,(s.set (.box i) (.bx (some ⟨true,cs⟩))).bx j = some bj → ∃ x,s.bx j = some x := by
  intro j bj hj
  rw [bx_set_box] at hj
  by_cases e : i = j
  ·exact ⟨b,e ▸ hb⟩
  ·rw [if_neg e] at hj; exact ⟨_,hj⟩
 refine ⟨h.below,h.defers,h.fix,h.nt,fun b o hr => .inl (h.sub b o hr),fun b' o hr => ?_,fun g cs hg' => Rel.keep hk _ _ (h.glob g cs hg'),fun j => RelT.grow hg _ _ (RelT.world hk _ _ (h.tmps j)),fun j b' hb' => ?_,fun j j' bj bj' hj hj' e => ?_,fun k o ho' => ?_,?_,h.mps.step (fun _ _ h => h) (fun _ _ _ => rfl) (fun _ _ _ => rfl) (fun g ⟨es,c,hg'⟩ hR o hr => hr.elim (hR o) fun hr => by rw [hr.1,p2] at hg'; cases hg') (fun _ _ _ h => h)⟩
 ·rcases hr with hr | ⟨rfl,_,_⟩
  ·exact h.dom b' o hr
  ·exact ⟨hlt,.inr p1⟩
 ·by_cases e : i = j
  ·subst e
   rw [bx_set_box,if_pos rfl] at hb'
   cases hb'
   exact ⟨p1,⟨arr,el,p2,fun _ => (hc arr el p2).imp (RelC.keep hk),fun x => (by cases x),fun _ j hj => .inr ⟨rfl,Nat.zero_le _,hj⟩⟩,fun x => by cases x⟩
  ·rw [bx_set_box,if_neg e] at hb'
   have hne : β j ≠ β i := fun x => e (h.inj j i b' b hb' hb x).symm
   obtain ⟨q1,⟨ar,e2,q2,q3,q4,q5⟩,q6⟩ := h.box j b' hb'
   refine ⟨q1,⟨ar,e2,q2,fun x => (q3 x).imp (RelC.keep hk),fun x => ((q4 x).imp (RelTC.world hk)).imp (RelTC.grow hg),fun x j' hj' => .inl (q5 x j' hj')⟩,fun x o hr => ?_⟩
   rcases hr with hr | ⟨hr,_⟩
   ·exact q6 x o hr
   ·exact hne hr
 ·obtain ⟨x,hx⟩ := hsome j bj hj
  obtain ⟨y,hy⟩ := hsome j' bj' hj'
  exact h.inj j j' x y hx hy e
 ·obtain ⟨q1,q2⟩ := h.obj k o ho'
  refine ⟨SlR.keep hk (fun x vs hx => RelE.keep hk _ x vs hx) q1,fun hl => ?_⟩
  obtain ⟨g,off,r1,r2,r3,r4,r5,r6⟩ := q2 hl
  refine ⟨g,off,r1,r2,r3,fun j bj hj => ?_,r5,fun q hq hr => ?_⟩
  ·obtain ⟨x,hx⟩ := hsome j bj hj
   exact r4 j x hx
  ·rcases hr with hr | ⟨hr,_⟩
   ·exact r6 q hq hr
   ·exact r4 i b hb hr.symm
 ·refine ⟨h.far.sz,fun b' hb' => ?_,fun b' hb' => ?_⟩
  ·obtain ⟨q1,q2,q3,q4⟩ := h.far.ke b' hb'
   refine ⟨q1,q2,fun j x hj hfx => ?_,q4⟩
   rw [bx_set_box] at hj
   by_cases e : i = j
   ·rw [if_pos e] at hj; cases hj; cases hfx
   ·rw [if_neg e] at hj; exact q3 j x hj hfx
  ·obtain ⟨q1,q2,q3,q4,q5⟩ := h.far.no b' hb'
   refine ⟨q1,q2,fun o hr => ?_,fun j x hj => ?_,q5⟩
   ·rcases hr with hr | ⟨hr,_⟩
    ·exact q3 o hr
    ·exact q4 i b hb hr.symm
   ·obtain ⟨x',hx'⟩ := hsome j x hj
    exact q4 j x' hx'

theorem Inv.newRow (h : Inv C w0 R0 a w s β σ R) (k : Nat) (e : E) (xs : List e.α) (arr : Array Value) (el : TypeId) (c : Nat) (hle : xs.length ≤ c) (hmax : c ≤ maxLen) (hsz : c * e.sz ≤ arr.size)
  (hold : ∀ o,s.ob k = some o → o.xs.length < xs.length) (hmk : s.mp k = none)
  (hx : ∀ (i : Nat) (x : e.α),xs[i]? = some x → ∃ vs : List Value,vs.length = e.sz ∧ RelE R w e x vs ∧ ∀ (j : Nat) (u : Value),vs[j]? = some u → arr[i * e.sz + j]? = some u) :
  Inv C w0 R0 a (w.alloc (.cells arr el)) (s.set (.obj k) (.ob (some ⟨e,xs⟩))) β (fun i => if i = k then (some ⟨w.heap.size,0,none⟩,c) else σ i) (addF R w.heap.size 0 (xs.length * e.sz)) := by
 have h1 : Inv C w0 R0 a (w.alloc (.cells arr el)) s β σ (addF R w.heap.size 0 (xs.length * e.sz)) :=
  h.later (below_alloc1 _ _) (fun _ _ hr => .inl hr) (fun b o hr => by
   rcases hr with hr | ⟨rfl,_,_⟩
   ·exact ⟨by have := (h.dom b o hr).1; simp; omega,.inl hr⟩
   ·exact ⟨by simp,.inr (Nat.le_refl _)⟩)
 have hk : Keeps R (addF R w.heap.size 0 (xs.length * e.sz)) w (w.alloc (.cells arr el)) := Keeps.of_below (fun _ _ hr => .inl hr) (fun b o hr => (h.dom b o hr).1) (below_alloc1 _ _)
 have hlt0 := h.below.size
 have hg : Grows β β σ (fun i => if i = k then (some ⟨w.heap.size,0,none⟩,c) else σ i) s (s.set (.obj k) (.ob (some ⟨e,xs⟩))) :=
  ⟨fun i b hb => ⟨⟨b,hb⟩,rfl⟩,fun k' o ho => by
   rw [ob_set_obj]
   by_cases e1 : k = k'
   ·subst e1
    have := hold o ho
    exact ⟨_,by rw [if_pos rfl],by simp only; omega,fun hn => by simp only at hn; omega⟩
   ·exact ⟨o,by rw [if_neg e1]; exact ho,Nat.le_refl _,fun _ => by simp [show ¬ k' = k from fun x => e1 x.symm]⟩,
   fun i m hm => ⟨⟨m,hm⟩,if_neg (fun x => by rw [x,hmk] at hm; cases hm)⟩⟩
 have hcell : ∀ i (u : Value),arr[i]? = some u → (w.alloc (.cells arr el)).cell? ⟨w.heap.size,i,none⟩ = some u := fun i u hu => by rw [World.cell?_alloc_new]; exact hu
 refine ⟨h1.below,h1.defers,h1.fix,h1.nt,h1.sub,h1.dom,h1.glob,fun i => RelT.grow hg _ _ (h1.tmps i),fun i b hb => ?_,h1.inj,fun k' o ho => ?_,?_,h1.mps.step (fun _ _ h => h) (fun i m hm => if_neg (fun x => by rw [x] at hm; exact absurd hm (by rw [hmk]; simp))) (fun _ _ _ => rfl) (fun _ _ h => h) (fun i m hm hn => by
  rw [ob_set_obj,if_neg (fun x => by rw [← x,hmk] at hm; cases hm)]
  exact hn)⟩
 ·obtain ⟨p1,⟨ar,e2,p2,p3,p4,p5⟩,p6⟩ := h1.box i b hb
  exact ⟨p1,⟨ar,e2,p2,p3,fun hf => (p4 hf).imp (RelTC.grow hg),p5⟩,p6⟩
 ·rw [ob_set_obj] at ho
  by_cases e1 : k = k'
  ·subst e1
   rw [if_pos rfl] at ho
   cases ho
   refine ⟨?_,fun hl => ?_⟩
   ·simp only [if_true]
    refine ⟨_,c,rfl,hle,hmax,fun x => by simp at x,fun _ => ⟨w.heap.size,0,rfl,fun i x hi => ?_⟩⟩
    obtain ⟨vs,q1,q2,q3⟩ := hx i x hi
    have hi' : i < xs.length := (List.getElem?_eq_some_iff.1 hi).1
    refine ⟨vs,q1,RelE.keep hk _ _ _ q2,fun j u hu => ?_⟩
    have hj : j < e.sz := by rw [← q1]; exact (List.getElem?_eq_some_iff.1 hu).1
    have hb : i * e.sz + j < xs.length * e.sz := by
     have : (i + 1) * e.sz ≤ xs.length * e.sz := Nat.mul_le_mul_right _ hi'
     rw [Nat.add_mul] at this
     omega
    rw [Nat.zero_add]
    exact ⟨.inr ⟨rfl,Nat.zero_le _,hb⟩,hcell _ _ (q3 j u hu)⟩
   ·simp only [if_true] at hl ⊢
    refine ⟨w.heap.size,0,rfl,hlt0,⟨arr,el,heap_alloc_new w _,by simp only [Nat.zero_add]; exact hsz⟩,fun i b hb => ?_,fun k'' o'' ho'' hne hl' a' ha' => ?_,fun q hq hr => ?_⟩
    ·have := h.box_lt hb
     omega
    ·rw [ob_set_obj,if_neg (fun x => hne x.symm)] at ho''
     simp only [if_neg hne] at hl' ha'
     obtain ⟨g,off,r1,r2,⟨ar,e2,r3,_⟩,_⟩ := (h.obj k'' o'' ho'').spare hl'
     have := (Array.getElem?_eq_some_iff.1 r3).1
     rw [r1] at ha'
     cases ha'
     simp only
     omega
    ·rcases hr with hr | ⟨_,_,hr⟩
     ·have := (h.dom _ _ hr).1
      omega
     ·omega
  ·rw [if_neg e1] at ho
   have e1' : ¬ k' = k := fun x => e1 x.symm
   obtain ⟨p1,p2⟩ := h1.obj k' o ho
   refine ⟨by simp only [if_neg e1']; exact p1,fun hl => ?_⟩
   simp only [if_neg e1'] at hl ⊢
   obtain ⟨g,off,r1,r2,r3,r4,r5,r6⟩ := p2 hl
   refine ⟨g,off,r1,r2,r3,r4,fun k'' o'' ho'' hne hl' a' ha' => ?_,r6⟩
   rw [ob_set_obj] at ho''
   by_cases e2 : k = k''
   ·subst e2
    simp only [if_true] at ha'
    cases ha'
    obtain ⟨g',off',q1,_,⟨ar,e3,q3,_⟩,_⟩ := (h.obj k' o ho).spare hl
    have := (Array.getElem?_eq_some_iff.1 q3).1
    rw [r1] at q1
    cases q1
    simp only
    omega
   ·rw [if_neg e2] at ho''
    have e2' : ¬ k'' = k := fun x => e2 x.symm
    simp only [if_neg e2'] at hl' ha'
    exact r5 k'' o'' ho'' hne hl' a' ha'
 ·have hrow : ∀ (b : Nat),b < w.heap.size → (∀ k o,s.ob k = some o → o.xs.length < (σ k).2 → ∀ ad,(σ k).1 = some ad → ad.block ≠ b) → ∀ k' o',(s.set (.obj k) (.ob (some ⟨e,xs⟩))).ob k' = some o' →
    o'.xs.length < (if k' = k then (some (⟨w.heap.size,0,none⟩ : Addr),c) else σ k').2 → ∀ ad,(if k' = k then (some (⟨w.heap.size,0,none⟩ : Addr),c) else σ k').1 = some ad → ad.block ≠ b := by
   intro b hlt hr k' o' ho' hl ad had
   rw [ob_set_obj] at ho'
   by_cases e1 : k = k'
   ·subst e1
    simp only [if_true] at had
    cases had
    simp only
    omega
   ·rw [if_neg e1] at ho'
    have e1' : ¬ k' = k := fun x => e1 x.symm
    simp only [if_neg e1'] at hl had
    exact hr k' o' ho' hl ad had
  refine ⟨h1.far.sz,fun b hb => ?_,fun b hb => ?_⟩
  ·obtain ⟨p1,p2,p3,p4⟩ := h1.far.ke b hb
   exact ⟨p1,p2,p3,hrow b (h.far.ke b hb).1 (h.far.ke b hb).2.2.2⟩
  ·obtain ⟨p1,p2,p3,p4,p5⟩ := h1.far.no b hb
   exact ⟨p1,p2,p3,p4,hrow b (h.far.no b hb).2.1 (h.far.no b hb).2.2.2.2⟩

theorem Inv.growRow (h : Inv C w0 R0 a w s β σ R) (k : Nat) (o : Ob) (ho : s.ob k = some o) (ys : List o.e.α) {w' : World} (g off : Nat) (arr arr' : Array Value) (el : TypeId)
  (hA : (σ k).1 = some ⟨g,off,none⟩) (hlt : o.xs.length < (σ k).2) (hroom : (o.xs ++ ys).length ≤ (σ k).2) (hys : ys ≠ [])
  (h1 : w.heap[g]? = some (.cells arr el (0,0))) (h2 : w'.heap[g]? = some (.cells arr' el (0,0))) (hsize : arr'.size = arr.size) (hoth : ∀ k,k ≠ g → w'.heap[k]? = w.heap[k]?)
  (hw : w'.os = w.os ∧ w'.tape = w.tape ∧ w'.output = w.output ∧ w'.heap.size = w.heap.size)
  (hlow : ∀ q,q < off + o.xs.length * o.e.sz → arr'[q]? = arr[q]?)
  (hx : ∀ (i : Nat) (x : o.e.α),ys[i]? = some x → ∃ vs : List Value,vs.length = o.e.sz ∧ RelE R w o.e x vs ∧ ∀ (j : Nat) (u : Value),vs[j]? = some u → arr'[off + (o.xs.length + i) * o.e.sz + j]? = some u) :
  Inv C w0 R0 a w' (s.set (.obj k) (.ob (some ⟨o.e,o.xs ++ ys⟩))) β σ (addF R g (off + o.xs.length * o.e.sz) (off + (o.xs ++ ys).length * o.e.sz)) := by
 obtain ⟨p1,p2⟩ := h.obj k o ho
 obtain ⟨g',off',q1,q2,⟨ar,e2,q3,q4⟩,q5,q6,q7⟩ := p2 hlt
 rw [hA] at q1
 cases q1
 have hglt : g < w.heap.size := (Array.getElem?_eq_some_iff.1 h1).1
 have hpos : 0 < ys.length := List.length_pos_iff.2 hys
 have hkR : Keeps R R w w' := keeps_write h1 h2 hoth (fun q hr => by
  refine hlow q ?_
  rcases Nat.lt_or_ge q (off + o.xs.length * o.e.sz) with hq | hq
  ·exact hq
  ·exact absurd hr (q7 q hq))
 have hk : Keeps R (addF R g (off + o.xs.length * o.e.sz) (off + (o.xs ++ ys).length * o.e.sz)) w w' := ⟨fun _ _ hr => .inl hr,hkR.cell,hkR.map⟩
 have hg : Grows β β σ σ s (s.set (.obj k) (.ob (some ⟨o.e,o.xs ++ ys⟩))) :=
  ⟨fun i b hb => ⟨⟨b,hb⟩,rfl⟩,fun k' o' ho' => by
   rw [ob_set_obj]
   by_cases e1 : k = k'
   ·subst e1
    rw [ho] at ho'
    cases ho'
    exact ⟨_,by rw [if_pos rfl],by simp,fun _ => rfl⟩
   ·exact ⟨o',by rw [if_neg e1]; exact ho',Nat.le_refl _,fun _ => rfl⟩,fun i m hm => ⟨⟨m,hm⟩,rfl⟩⟩
 have hnf : ∀ (b o' : Nat),addF R g (off + o.xs.length * o.e.sz) (off + (o.xs ++ ys).length * o.e.sz) b o' → b ≠ g → R b o' := by
  intro b o' hr hb
  rcases hr with hr | ⟨hr,_⟩
  ·exact hr
  ·exact absurd hr hb
 refine ⟨h.below.trans ⟨hw.1,hw.2.1,hw.2.2.1,by rw [hw.2.2.2]; exact Nat.le_refl _,fun i hi => hoth i (by omega)⟩,h.defers,h.fix,h.nt,fun b o' hr => .inl (h.sub b o' hr),fun b o' hr => ?_,fun g cs hg' => Rel.keep hk _ _ (h.glob g cs hg'),
  fun i => RelT.grow hg _ _ (RelT.world hk _ _ (h.tmps i)),fun i b hb => ?_,h.inj,fun k' o' ho' => ?_,?_,h.mps.step (fun _ _ h => h) (fun _ _ _ => rfl) (fun g' ⟨es,c,hg'⟩ _ => hoth g' (fun e => by rw [e,h1] at hg'; cases hg')) (fun g' ⟨es,c,hg'⟩ hR o' hr => hr.elim (hR o') fun hr => by rw [hr.1,h1] at hg'; cases hg') (fun i m hm hn => by
  rw [ob_set_obj,if_neg (fun x => by rw [← x,ho] at hn; cases hn)]
  exact hn)⟩
 ·rw [hw.2.2.2]
  rcases hr with hr | ⟨rfl,_,_⟩
  ·exact h.dom b o' hr
  ·exact ⟨hglt,.inr q2⟩
 ·have hne : β i ≠ g := q5 i b hb
  obtain ⟨r1,⟨ar',e3,r2,r3,r4,r5⟩,r6⟩ := h.box i b hb
  exact ⟨r1,⟨ar',e3,by rw [hoth _ hne]; exact r2,fun hf => (r3 hf).imp (RelC.keep hk),fun hf => ((r4 hf).imp (RelTC.world hk)).imp (RelTC.grow hg),fun hf j hj => .inl (r5 hf j hj)⟩,fun hf o' hr => r6 hf o' (hnf _ _ hr hne)⟩
 ·rw [ob_set_obj] at ho'
  by_cases e1 : k = k'
  ·subst e1
   rw [if_pos rfl] at ho'
   cases ho'
   refine ⟨?_,fun hl => ?_⟩
   ·obtain ⟨A,c,hv,s1,s2,s3,s4⟩ := SlR.keep hk (fun x vs hx => RelE.keep hk o.e x vs hx) p1
    injection hv with hv1 hv2 hv3
    subst hv1 hv3
    refine ⟨_,_,rfl,hroom,s2,fun x => by simp at x,fun _ => ⟨g,off,hA,fun i x hi => ?_⟩⟩
    rcases Nat.lt_or_ge i o.xs.length with hil | hil
    ·rw [List.getElem?_append_left hil] at hi
     obtain ⟨b',off'',hb',hc⟩ := s4 (by omega)
     rw [hA] at hb'
     cases hb'
     exact hc i x hi
    ·rw [List.getElem?_append_right hil] at hi
     obtain ⟨vs,t1,t2,t3⟩ := hx _ x hi
     have hiy : i - o.xs.length < ys.length := (List.getElem?_eq_some_iff.1 hi).1
     refine ⟨vs,t1,RelE.keep hk _ _ _ t2,fun j u hu => ?_⟩
     have hj : j < o.e.sz := by rw [← t1]; exact (List.getElem?_eq_some_iff.1 hu).1
     have e3 : o.xs.length + (i - o.xs.length) = i := by omega
     have t4 := t3 j u hu
     rw [e3] at t4
     have m1 : (i + 1) * o.e.sz ≤ (o.xs ++ ys).length * o.e.sz := Nat.mul_le_mul_right _ (by simp; omega)
     have m2 : o.xs.length * o.e.sz ≤ i * o.e.sz := Nat.mul_le_mul_right _ hil
     rw [Nat.add_mul] at m1
     refine ⟨.inr ⟨rfl,by dsimp only; omega,by dsimp only; omega⟩,?_⟩
     simp only [World.cell?,h2,Option.isSome_none,Bool.false_eq_true,if_false]
     exact t4
   ·refine ⟨g,off,hA,q2,⟨arr',el,h2,by rw [h1] at q3; cases q3; rw [hsize]; exact q4⟩,q5,fun k'' o'' ho'' hne hl' a' ha' => ?_,fun q hq hr => ?_⟩
    ·rw [ob_set_obj,if_neg (fun x => hne x.symm)] at ho''
     exact q6 k'' o'' ho'' hne hl' a' ha'
    ·dsimp only at hq
     rcases hr with hr | ⟨_,_,hr⟩
     ·refine q7 q ?_ hr
      have : o.xs.length * o.e.sz ≤ (o.xs ++ ys).length * o.e.sz := Nat.mul_le_mul_right _ (by simp)
      omega
     ·omega
  ·rw [if_neg e1] at ho'
   obtain ⟨r1,r2⟩ := h.obj k' o' ho'
   refine ⟨SlR.keep hk (fun x vs hx => RelE.keep hk _ x vs hx) r1,fun hl => ?_⟩
   obtain ⟨g2,off2,t1,t2,⟨ar',e3,t3,t3'⟩,t4,t5,t6⟩ := r2 hl
   have hne : g2 ≠ g := fun x => by
    have := q6 k' o' ho' (fun x => e1 x.symm) hl _ t1
    exact this x
   refine ⟨g2,off2,t1,t2,⟨ar',e3,by rw [hoth _ hne]; exact t3,t3'⟩,t4,fun k'' o'' ho'' hne' hl' a' ha' => ?_,fun q hq hr => t6 q hq (hnf _ _ hr hne)⟩
   rw [ob_set_obj] at ho''
   by_cases e2 : k = k''
   ·subst e2
    rw [hA] at ha'
    cases ha'
    exact fun x => hne x.symm
   ·rw [if_neg e2] at ho''
    exact t5 k'' o'' ho'' hne' hl' a' ha'
 ·have hrow : ∀ (b : Nat),(∀ k o,s.ob k = some o → o.xs.length < (σ k).2 → ∀ ad,(σ k).1 = some ad → ad.block ≠ b) → ∀ k' o',(s.set (.obj k) (.ob (some ⟨o.e,o.xs ++ ys⟩))).ob k' = some o' →
    o'.xs.length < (σ k').2 → ∀ ad,(σ k').1 = some ad → ad.block ≠ b := by
   intro b hr k' o' ho' hl ad had
   rw [ob_set_obj] at ho'
   by_cases e1 : k = k'
   ·subst e1
    exact hr k o ho hlt ad had
   ·rw [if_neg e1] at ho'
    exact hr k' o' ho' hl ad had
  refine ⟨by rw [hw.2.2.2]; exact h.far.sz,fun b hb => ?_,fun b hb => ?_⟩
  ·obtain ⟨p1,p2,p3,p4⟩ := h.far.ke b hb
   have hgb : g ≠ b := p4 k o ho hlt _ hA
   exact ⟨by rw [hw.2.2.2]; exact p1,by rw [hoth b (fun e => hgb e.symm)]; exact p2,p3,hrow b p4⟩
  ·obtain ⟨p1,p2,p3,p4,p5⟩ := h.far.no b hb
   have hgb : g ≠ b := p5 k o ho hlt _ hA
   refine ⟨p1,by rw [hw.2.2.2]; exact p2,fun o' hr => ?_,p4,hrow b p5⟩
   rcases hr with hr | ⟨hr,_⟩
   ·exact p3 o' hr
   ·exact hgb hr.symm
end
end Go.Di

