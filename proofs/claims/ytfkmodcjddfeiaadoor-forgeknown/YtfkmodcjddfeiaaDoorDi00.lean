/- Part 0: an interpreter over plain data for this code, with the proof that it says what the model does, and the contracts of the functions. No condition. -/
import Derived.Below
import Derived.Orders
set_option linter.unusedVariables false
set_option linter.unusedSimpArgs false
/-
 DI,part A: plain data for Go values (numbers,lists,structs of numbers),and what it means that a value of the model is such data in a world,by cells that stay as they are.
-/
namespace Go.Di
open Go.RowKit

structure Span where
 lo : Int
 hi : Int
structure Sec where
 t : Span
 w : Span
structure Sv where
 s : Int
 d : Int
 r : Int
 e : Int
structure Work where
 d : Int
 s : Int
structure Book where
 secs : List Sec
 turns : List Int
 svs : List Sv
 rule : Int
 days : Int
structure FBook where
 chain : Book
 feet : List Int
 new : Int
 opn : List Int
 stock : Int
 make : Int
structure Tr1 where
 t0 : Int
 t1 : Int
 w0 : Int
 w1 : Int
structure TrC where
 w0 : Int
 w1 : Int
 w2 : Int
 w3 : Int
 f0 : Span
 f1 : Span
 f2 : Span
 f3 : Span

/-- Codes of element types. -/
inductive E where
 | int | span | sec | sv | work | tr1 | trc | book | fbook
 | list (e : E)

def E.α : E → Type
 | .int => Int | .span => Span | .sec => Sec | .sv => Sv | .work => Work | .tr1 => Tr1 | .trc => TrC | .book => Book | .fbook => FBook
 | .list e => List e.α

def E.same : (a b : E) → Option (PLift (a = b))
 | .int,.int => some ⟨rfl⟩ | .span,.span => some ⟨rfl⟩ | .sec,.sec => some ⟨rfl⟩ | .sv,.sv => some ⟨rfl⟩ | .work,.work => some ⟨rfl⟩
 | .tr1,.tr1 => some ⟨rfl⟩ | .trc,.trc => some ⟨rfl⟩ | .book,.book => some ⟨rfl⟩ | .fbook,.fbook => some ⟨rfl⟩
 | .list a,.list b => match E.same a b with
  | some h => some ⟨by rw [h.down]⟩
  | none => none
 | _,_ => none

/-- What a map holds,in the order in which its keys came. -/
inductive Mp where
 | spot (m : List ((Int × Int) × Span))
 | work (m : List ((Int × Int) × Bool))

inductive D where
 | undef
 | int (k : IntKind) (n : Int)
 | bool (b : Bool)
 | nil
 | nilmap
 | nilfn
 | sl (full : Bool) (e : E) (xs : List e.α)
 | map (m : Mp)
 | fn (f : FuncId) (first : List D) (caps : List (List D))
 | own (id n : Nat)
 | ptr (box off : Nat)
 | ref (cells : List D) (off : Nat)
 | agg (cs : List D)
 | tup (vs : List D)
 | mref (i : Nat)
 | row (i n : Nat)
 | self (f : FuncId) (n : Nat) (cells : List D)

def i64 (n : Int) : D := .int .i64 n

def E.sz : E → Nat
 | .int => 1 | .span => 2 | .sec => 4 | .sv => 4 | .work => 2 | .tr1 => 4 | .trc => 12 | .book => 5 | .fbook => 10 | .list _ => 1

def E.z : (e : E) → e.α
 | .int => (0 : Int) | .span => (⟨0,0⟩ : Span) | .sec => (⟨⟨0,0⟩,⟨0,0⟩⟩ : Sec) | .sv => (⟨0,0,0,0⟩ : Sv) | .work => (⟨0,0⟩ : Work) | .tr1 => (⟨0,0,0,0⟩ : Tr1)
 | .trc => (⟨0,0,0,0,⟨0,0⟩,⟨0,0⟩,⟨0,0⟩,⟨0,0⟩⟩ : TrC) | .book => (⟨[],[],[],0,0⟩ : Book) | .fbook => (⟨⟨[],[],[],0,0⟩,[],0,[],0,0⟩ : FBook) | .list _ => []

def E.enc : (e : E) → e.α → List D
 | .int,(x : Int) => [.int .i64 x]
 | .span,(x : Span) => [.int .i64 x.lo,.int .i64 x.hi]
 | .sec,(x : Sec) => [.int .i64 x.t.lo,.int .i64 x.t.hi,.int .i64 x.w.lo,.int .i64 x.w.hi]
 | .sv,(x : Sv) => [.int .i64 x.s,.int .i64 x.d,.int .i64 x.r,.int .i64 x.e]
 | .work,(x : Work) => [.int .i64 x.d,.int .i64 x.s]
 | .tr1,(x : Tr1) => [.int .i64 x.t0,.int .i64 x.t1,.int .i64 x.w0,.int .i64 x.w1]
 | .trc,(x : TrC) => [.int .i64 x.w0,.int .i64 x.w1,.int .i64 x.w2,.int .i64 x.w3,.int .i64 x.f0.lo,.int .i64 x.f0.hi,.int .i64 x.f1.lo,.int .i64 x.f1.hi,.int .i64 x.f2.lo,.int .i64 x.f2.hi,.int .i64 x.f3.lo,.int .i64 x.f3.hi]
 | .book,(x : Book) => [.sl false .sec x.secs,.sl false .int x.turns,.sl false .sv x.svs,.int .i64 x.rule,.int .i64 x.days]
 | .fbook,(x : FBook) => [.sl false .sec x.chain.secs,.sl false .int x.chain.turns,.sl false .sv x.chain.svs,.int .i64 x.chain.rule,.int .i64 x.chain.days,.sl false .int x.feet,.int .i64 x.new,.sl false .int x.opn,.int .i64 x.stock,.int .i64 x.make]
 | .list e,(xs : List e.α) => [.sl false e xs]

/-- A list of cells that is a slice of elements of a given code. -/
def asSl (e : E) : D → Option (List e.α)
 | .nil => some []
 | .sl _ e' xs => match E.same e' e with
  | some h => some (h.down ▸ xs)
  | none => none
 | _ => none

def asI : D → Option Int
 | .int .i64 x => some x
 | _ => none
def allI : List D → Option (List Int)
 | [] => some []
 | d :: l => match asI d,allI l with
  | some x,some xs => some (x :: xs)
  | _,_ => none

def E.mk : (e : E) → List Int → Option e.α
 | .int,[x] => some x
 | .span,[a,b] => some (⟨a,b⟩ : Span)
 | .sec,[a,b,c,d] => some (⟨⟨a,b⟩,⟨c,d⟩⟩ : Sec)
 | .sv,[a,b,c,d] => some (⟨a,b,c,d⟩ : Sv)
 | .work,[a,b] => some (⟨a,b⟩ : Work)
 | .tr1,[a,b,c,d] => some (⟨a,b,c,d⟩ : Tr1)
 | .trc,[a,b,c,d,e0,e1,f0,f1,g0,g1,h0,h1] => some (⟨a,b,c,d,⟨e0,e1⟩,⟨f0,f1⟩,⟨g0,g1⟩,⟨h0,h1⟩⟩ : TrC)
 | _,_ => none

def decBook : List D → Option Book
 | [a,b,c,r,d] => match asSl .sec a,asSl .int b,asSl .sv c,asI r,asI d with
  | some x,some y,some z,some r,some d => some ⟨x,y,z,r,d⟩
  | _,_,_,_,_ => none
 | _ => none
def decFBook : List D → Option FBook
 | [a,b,c,r,d,f,n,o,s,m] => match asSl .sec a,asSl .int b,asSl .sv c,asI r,asI d,asSl .int f,asI n,asSl .int o,asI s,asI m with
  | some x,some y,some z,some r,some d,some u,some n,some v,some s,some m => some ⟨⟨x,y,z,r,d⟩,u,n,v,s,m⟩
  | _,_,_,_,_,_,_,_,_,_ => none
 | _ => none
def decList (e : E) : List D → Option (List e.α)
 | [a] => asSl e a
 | _ => none
def E.dec : (e : E) → List D → Option e.α
 | .book,cs => decBook cs
 | .fbook,cs => decFBook cs
 | .list e,cs => decList e cs
 | .int,cs => (allI cs).bind (E.mk .int)
 | .span,cs => (allI cs).bind (E.mk .span)
 | .sec,cs => (allI cs).bind (E.mk .sec)
 | .sv,cs => (allI cs).bind (E.mk .sv)
 | .work,cs => (allI cs).bind (E.mk .work)
 | .tr1,cs => (allI cs).bind (E.mk .tr1)
 | .trc,cs => (allI cs).bind (E.mk .trc)

/-! What a value of the model is,by cells of the world that are told by R. -/
abbrev Foot := Nat → Nat → Prop

def SlR {α : Type} (K : α → List Value → Prop) (sz : Nat) (R : Foot) (w : World) (full : Bool) (xs : List α) (v : Value) : Prop :=
 ∃ A c,v = .slice A xs.length c ∧ xs.length ≤ c ∧ c ≤ maxLen ∧ (full = true → c = xs.length) ∧
  (0 < xs.length → ∃ b o,A = some ⟨b,o,none⟩ ∧ ∀ (i : Nat) (x : α),xs[i]? = some x →
   ∃ vs : List Value,vs.length = sz ∧ K x vs ∧ ∀ (j : Nat) (u : Value),vs[j]? = some u → R b (o + i * sz + j) ∧ w.cell? ⟨b,o + i * sz + j,none⟩ = some u)

def RelE (R : Foot) (w : World) : (e : E) → e.α → List Value → Prop
 | .int,(x : Int),vs => vs = [.int .i64 x]
 | .span,(x : Span),vs => vs = [.int .i64 x.lo,.int .i64 x.hi]
 | .sec,(x : Sec),vs => vs = [.int .i64 x.t.lo,.int .i64 x.t.hi,.int .i64 x.w.lo,.int .i64 x.w.hi]
 | .sv,(x : Sv),vs => vs = [.int .i64 x.s,.int .i64 x.d,.int .i64 x.r,.int .i64 x.e]
 | .work,(x : Work),vs => vs = [.int .i64 x.d,.int .i64 x.s]
 | .tr1,(x : Tr1),vs => vs = [.int .i64 x.t0,.int .i64 x.t1,.int .i64 x.w0,.int .i64 x.w1]
 | .trc,(x : TrC),vs => vs = [.int .i64 x.w0,.int .i64 x.w1,.int .i64 x.w2,.int .i64 x.w3,.int .i64 x.f0.lo,.int .i64 x.f0.hi,.int .i64 x.f1.lo,.int .i64 x.f1.hi,.int .i64 x.f2.lo,.int .i64 x.f2.hi,.int .i64 x.f3.lo,.int .i64 x.f3.hi]
 | .book,(x : Book),vs => ∃ a b c,vs = [a,b,c,.int .i64 x.rule,.int .i64 x.days] ∧
   SlR (fun (x : Sec) vs => vs = [.int .i64 x.t.lo,.int .i64 x.t.hi,.int .i64 x.w.lo,.int .i64 x.w.hi]) 4 R w false x.secs a ∧
   SlR (fun (x : Int) vs => vs = [.int .i64 x]) 1 R w false x.turns b ∧
   SlR (fun (x : Sv) vs => vs = [.int .i64 x.s,.int .i64 x.d,.int .i64 x.r,.int .i64 x.e]) 4 R w false x.svs c
 | .fbook,(x : FBook),vs => ∃ a b c f o,vs = [a,b,c,.int .i64 x.chain.rule,.int .i64 x.chain.days,f,.int .i64 x.new,o,.int .i64 x.stock,.int .i64 x.make] ∧
   SlR (fun (x : Sec) vs => vs = [.int .i64 x.t.lo,.int .i64 x.t.hi,.int .i64 x.w.lo,.int .i64 x.w.hi]) 4 R w false x.chain.secs a ∧
   SlR (fun (x : Int) vs => vs = [.int .i64 x]) 1 R w false x.chain.turns b ∧
   SlR (fun (x : Sv) vs => vs = [.int .i64 x.s,.int .i64 x.d,.int .i64 x.r,.int .i64 x.e]) 4 R w false x.chain.svs c ∧
   SlR (fun (x : Int) vs => vs = [.int .i64 x]) 1 R w false x.feet f ∧
   SlR (fun (x : Int) vs => vs = [.int .i64 x]) 1 R w false x.opn o
 | .list e,(xs : List e.α),vs => ∃ v,vs = [v] ∧ SlR (RelE R w e) e.sz R w false xs v

def MapAt (w : World) (m : Mp) (r : Nat) : Prop :=
 ∃ es clock,w.heap[r]? = some (.map es clock) ∧ (∀ (i : Nat) (x : MapEntry),es[i]? = some x → x.born < clock) ∧ (∀ (i j : Nat) (x y : MapEntry),es[i]? = some x → es[j]? = some y → i < j → x.born < y.born) ∧
  match m with
  | .spot l => es.toList.map (fun x => (x.key,x.val)) = l.map (fun p => (Value.agg #[.int .i64 p.1.1,.int .i64 p.1.2],Value.agg #[.int .i64 p.2.lo,.int .i64 p.2.hi]))
  | .work l => es.toList.map (fun x => (x.key,x.val)) = l.map (fun p => (Value.agg #[.int .i64 p.1.1,.int .i64 p.1.2],Value.bool p.2))
/-- A map: its entries in order,their keys and values numbers. -/
def RelM (R : Foot) (w : World) (m : Mp) (v : Value) : Prop :=
 ∃ r es clock,v = .map (some r) ∧ R r 0 ∧ w.heap[r]? = some (.map es clock) ∧ (∀ (i : Nat) (x : MapEntry),es[i]? = some x → x.born < clock) ∧ (∀ (i j : Nat) (x y : MapEntry),es[i]? = some x → es[j]? = some y → i < j → x.born < y.born) ∧
  match m with
  | .spot l => es.toList.map (fun x => (x.key,x.val)) = l.map (fun p => (Value.agg #[.int .i64 p.1.1,.int .i64 p.1.2],Value.agg #[.int .i64 p.2.lo,.int .i64 p.2.hi]))
  | .work l => es.toList.map (fun x => (x.key,x.val)) = l.map (fun p => (Value.agg #[.int .i64 p.1.1,.int .i64 p.1.2],Value.bool p.2))

/-- A cell that holds no function. -/
def RelC0 (R : Foot) (w : World) : D → Value → Prop
 | .int k n,v => v = .int k n
 | .bool b,v => v = .bool b
 | .nil,v => v = .slice none 0 0
 | .nilmap,v => v = .map none
 | .nilfn,v => v = .nilFunc
 | .sl f e xs,v => SlR (RelE R w e) e.sz R w f xs v
 | .map m,v => RelM R w m v
 | _,_ => False

/-- Lists of the same length whose elements fit each other. -/
def All2 {α β : Type} (p : α → β → Prop) : List α → List β → Prop
 | [],[] => True
 | a :: l,b :: m => p a b ∧ All2 p l m
 | _,_ => False

def RelA0 (R : Foot) (w : World) : D → Value → Prop
 | .agg cs,v => ∃ vs,v = .agg vs ∧ All2 (RelC0 R w) cs vs.toList
 | d,v => RelC0 R w d v

/-- Memory that stays: a pointer to cells. -/
def RefAt (K : D → Value → Prop) (R : Foot) (w : World) (cells : List D) (b o : Nat) : Prop :=
 ∀ (j : Nat) (d : D),cells[j]? = some d → ∃ u,K d u ∧ R b (o + j) ∧ w.cell? ⟨b,o + j,none⟩ = some u

def RelCap (R : Foot) (w : World) (cells : List D) (v : Value) : Prop := ∃ b o,v = .pointer (some ⟨b,o,none⟩) ∧ RefAt (RelC0 R w) R w cells b o

/-- A function that has captured memory that stays,and itself: so far as it is looked into. -/
def SelfR (R : Foot) (w : World) (f : FuncId) (cells : List D) : Nat → Value → Prop
 | 0,_ => True
 | n + 1,v => ∃ p b o u,v = .func (.func f) #[] #[p,.pointer (some ⟨b,o,none⟩)] ∧ RelCap R w cells p ∧ R b o ∧ w.cell? ⟨b,o,none⟩ = some u ∧ (∃ fs cs,u = .func (.func f) fs cs) ∧ SelfR R w f cells n u

def RelC (R : Foot) (w : World) : D → Value → Prop
 | .self f n cells,v => (∃ fs cs,v = .func (.func f) fs cs) ∧ SelfR R w f cells n v
 | .fn f first caps,v => ∃ fs cs,v = .func (.func f) fs cs ∧ All2 (RelA0 R w) first fs.toList ∧ All2 (RelCap R w) caps cs.toList
 | d,v => RelC0 R w d v

def RelA (R : Foot) (w : World) : D → Value → Prop
 | .agg cs,v => ∃ vs,v = .agg vs ∧ All2 (RelC R w) cs vs.toList
 | d,v => RelC R w d v

def Rel (R : Foot) (w : World) : D → Value → Prop
 | .tup ds,v => ∃ vs,v = .tuple vs ∧ All2 (RelA R w) ds vs.toList
 | .ref cells off,v => ∃ b o,v = .pointer (some ⟨b,o + off,none⟩) ∧ RefAt (RelC R w) R w cells b o
 | d,v => RelA R w d v

/-! ### It stays when what R tells of stays -/
structure Keeps (R R' : Foot) (w w' : World) : Prop where
 foot : ∀ b o,R b o → R' b o
 cell : ∀ b o u,R b o → w.cell? ⟨b,o,none⟩ = some u → w'.cell? ⟨b,o,none⟩ = some u
 map : ∀ b es c,R b 0 → w.heap[b]? = some (.map es c) → w'.heap[b]? = some (.map es c)

theorem Keeps.refl (R : Foot) (w : World) : Keeps R R w w := ⟨fun _ _ h => h,fun _ _ _ _ h => h,fun _ _ _ _ h => h⟩
theorem Keeps.of_below {R R' : Foot} {w w' : World} (hR : ∀ b o,R b o → R' b o) (hs : ∀ b o,R b o → b < w.heap.size) (h : Below w.heap.size w w') : Keeps R R' w w' :=
 ⟨hR,fun b o u hr hc => by rw [h.cell (p := ⟨b,o,none⟩) (hs b o hr)]; exact hc,fun b es c hr hm => by rw [h.block b (hs b 0 hr)]; exact hm⟩

section
variable {R R' : Foot} {w w' : World} (hk : Keeps R R' w w')
include hk
theorem SlR.keep {α : Type} {K K' : α → List Value → Prop} {sz : Nat} {full : Bool} {xs : List α} {v : Value} (hK : ∀ x vs,K x vs → K' x vs) (h : SlR K sz R w full xs v) : SlR K' sz R' w' full xs v := by
 obtain ⟨A,c,hv,h1,h2,h3,h4⟩ := h
 refine ⟨A,c,hv,h1,h2,h3,fun hp => ?_⟩
 obtain ⟨b,o,ha,hc⟩ := h4 hp
 refine ⟨b,o,ha,fun i x hx => ?_⟩
 obtain ⟨vs,hl,hkx,hcs⟩ := hc i x hx
 exact ⟨vs,hl,hK _ _ hkx,fun j u hu => ⟨hk.foot _ _ (hcs j u hu).1,hk.cell _ _ _ (hcs j u hu).1 (hcs j u hu).2⟩⟩
theorem RelE.keep : ∀ (e : E) (x : e.α) (vs : List Value),RelE R w e x vs → RelE R' w' e x vs
 | .int,_,_,h => h | .span,_,_,h => h | .sec,_,_,h => h | .sv,_,_,h => h | .work,_,_,h => h | .tr1,_,_,h => h | .trc,_,_,h => h
 | .book,_,_,⟨a,b,c,hv,h1,h2,h3⟩ => ⟨a,b,c,hv,SlR.keep hk (fun _ _ h => h) h1,SlR.keep hk (fun _ _ h => h) h2,SlR.keep hk (fun _ _ h => h) h3⟩
 | .fbook,_,_,⟨a,b,c,f,o,hv,h1,h2,h3,h4,h5⟩ => ⟨a,b,c,f,o,hv,SlR.keep hk (fun _ _ h => h) h1,SlR.keep hk (fun _ _ h => h) h2,SlR.keep hk (fun _ _ h => h) h3,SlR.keep hk (fun _ _ h => h) h4,SlR.keep hk (fun _ _ h => h) h5⟩
 | .list e,_,_,⟨v,hv,h⟩ => ⟨v,hv,SlR.keep hk (fun x vs h => RelE.keep e x vs h) h⟩
theorem RelM.keep {m : Mp} {v : Value} (h : RelM R w m v) : RelM R' w' m v := by
 obtain ⟨r,es,clock,hv,hr,hh,h1,h2,h3⟩ := h
 exact ⟨r,es,clock,hv,hk.foot _ _ hr,hk.map _ _ _ hr hh,h1,h2,h3⟩
theorem RelC0.keep : ∀ (d : D) (v : Value),RelC0 R w d v → RelC0 R' w' d v
 | .int _ _,_,h => h | .bool _,_,h => h | .nil,_,h => h | .nilmap,_,h => h | .nilfn,_,h => h
 | .sl _ e _,_,h => SlR.keep hk (fun x vs h => RelE.keep hk e x vs h) h
 | .map _,_,h => RelM.keep hk h
 | .undef,_,h => h.elim | .fn _ _ _,_,h => h.elim | .own _ _,_,h => h.elim | .ptr _ _,_,h => h.elim | .ref _ _,_,h => h.elim | .agg _,_,h => h.elim | .tup _,_,h => h.elim | .mref _,_,h => h.elim | .row _ _,_,h => h.elim | .self _ _ _,_,h => h.elim
omit hk in
theorem All2.imp {α β : Type} {p q : α → β → Prop} (h : ∀ a b,p a b → q a b) : ∀ {l : List α} {m : List β},All2 p l m → All2 q l m
 | [],[],_ => trivial
 | _ :: _,_ :: _,⟨h1,h2⟩ => ⟨h _ _ h1,All2.imp h h2⟩
 | [],_ :: _,h => h.elim
 | _ :: _,[],h => h.elim
theorem RefAt.keep {K K' : D → Value → Prop} (hK : ∀ d v,K d v → K' d v) {cells : List D} {b o : Nat} (h : RefAt K R w cells b o) : RefAt K' R' w' cells b o := by
 intro j d hd
 obtain ⟨u,h1,h2,h3⟩ := h j d hd
 exact ⟨u,hK _ _ h1,hk.foot _ _ h2,hk.cell _ _ _ h2 h3⟩
theorem RelA0.keep : ∀ (d : D) (v : Value),RelA0 R w d v → RelA0 R' w' d v
 | .undef,v,h => RelC0.keep hk (.undef) v h
 | .int k n,v,h => RelC0.keep hk (.int k n) v h
 | .bool b,v,h => RelC0.keep hk (.bool b) v h
 | .nil,v,h => RelC0.keep hk (.nil) v h
 | .nilmap,v,h => RelC0.keep hk (.nilmap) v h
 | .nilfn,v,h => RelC0.keep hk (.nilfn) v h
 | .sl f e xs,v,h => RelC0.keep hk (.sl f e xs) v h
 | .map m,v,h => RelC0.keep hk (.map m) v h
 | .fn f a b,v,h => RelC0.keep hk (.fn f a b) v h
 | .self f a b,v,h => RelC0.keep hk (.self f a b) v h
 | .own i n,v,h => RelC0.keep hk (.own i n) v h
 | .ptr i n,v,h => RelC0.keep hk (.ptr i n) v h
 | .mref i,v,h => RelC0.keep hk (.mref i) v h
 | .row i n,v,h => RelC0.keep hk (.row i n) v h
 | .ref c o,v,h => RelC0.keep hk (.ref c o) v h
 | .agg cs,v,⟨vs,hv,h⟩ => ⟨vs,hv,h.imp (RelC0.keep hk)⟩
 | .tup vs,v,h => RelC0.keep hk (.tup vs) v h
theorem RelCap.keep (cells : List D) (v : Value) (h : RelCap R w cells v) : RelCap R' w' cells v := by
 obtain ⟨b,o,hv,h⟩ := h
 exact ⟨b,o,hv,h.keep hk (RelC0.keep hk)⟩
theorem SelfR.keep (f : FuncId) (cells : List D) : ∀ (n : Nat) (v : Value),SelfR R w f cells n v → SelfR R' w' f cells n v
 | 0,_,_ => trivial
 | n + 1,v,⟨p,b,o,u,h1,h2,h3,h4,h5,h6⟩ => ⟨p,b,o,u,h1,RelCap.keep hk cells p h2,hk.foot _ _ h3,hk.cell _ _ _ h3 h4,h5,SelfR.keep f cells n u h6⟩
theorem RelC.keep : ∀ (d : D) (v : Value),RelC R w d v → RelC R' w' d v
 | .undef,v,h => RelC0.keep hk (.undef) v h
 | .int k n,v,h => RelC0.keep hk (.int k n) v h
 | .bool b,v,h => RelC0.keep hk (.bool b) v h
 | .nil,v,h => RelC0.keep hk (.nil) v h
 | .nilmap,v,h => RelC0.keep hk (.nilmap) v h
 | .nilfn,v,h => RelC0.keep hk (.nilfn) v h
 | .sl f e xs,v,h => RelC0.keep hk (.sl f e xs) v h
 | .map m,v,h => RelC0.keep hk (.map m) v h
 | .fn f a b,v,⟨fs,cs,hv,h1,h2⟩ => ⟨fs,cs,hv,h1.imp (RelA0.keep hk),h2.imp (RelCap.keep hk)⟩
 | .self f n cells,v,⟨h0,h⟩ => ⟨h0,SelfR.keep hk f cells n v h⟩
 | .own i n,v,h => RelC0.keep hk (.own i n) v h
 | .ptr i n,v,h => RelC0.keep hk (.ptr i n) v h
 | .mref i,v,h => RelC0.keep hk (.mref i) v h
 | .row i n,v,h => RelC0.keep hk (.row i n) v h
 | .ref c o,v,h => RelC0.keep hk (.ref c o) v h
 | .agg cs,v,h => RelC0.keep hk (.agg cs) v h
 | .tup vs,v,h => RelC0.keep hk (.tup vs) v h
theorem RelA.keep : ∀ (d : D) (v : Value),RelA R w d v → RelA R' w' d v
 | .undef,v,h => RelC.keep hk (.undef) v h
 | .int k n,v,h => RelC.keep hk (.int k n) v h
 | .bool b,v,h => RelC.keep hk (.bool b) v h
 | .nil,v,h => RelC.keep hk (.nil) v h
 | .nilmap,v,h => RelC.keep hk (.nilmap) v h
 | .nilfn,v,h => RelC.keep hk (.nilfn) v h
 | .sl f e xs,v,h => RelC.keep hk (.sl f e xs) v h
 | .map m,v,h => RelC.keep hk (.map m) v h
 | .fn f a b,v,h => RelC.keep hk (.fn f a b) v h
 | .self f a b,v,h => RelC.keep hk (.self f a b) v h
 | .own i n,v,h => RelC.keep hk (.own i n) v h
 | .ptr i n,v,h => RelC.keep hk (.ptr i n) v h
 | .mref i,v,h => RelC.keep hk (.mref i) v h
 | .row i n,v,h => RelC.keep hk (.row i n) v h
 | .ref c o,v,h => RelC.keep hk (.ref c o) v h
 | .agg cs,v,⟨vs,hv,h⟩ => ⟨vs,hv,h.imp (RelC.keep hk)⟩
 | .tup vs,v,h => RelC.keep hk (.tup vs) v h
theorem Rel.keep : ∀ (d : D) (v : Value),Rel R w d v → Rel R' w' d v
 | .undef,v,h => RelA.keep hk (.undef) v h
 | .int k n,v,h => RelA.keep hk (.int k n) v h
 | .bool b,v,h => RelA.keep hk (.bool b) v h
 | .nil,v,h => RelA.keep hk (.nil) v h
 | .nilmap,v,h => RelA.keep hk (.nilmap) v h
 | .nilfn,v,h => RelA.keep hk (.nilfn) v h
 | .sl f e xs,v,h => RelA.keep hk (.sl f e xs) v h
 | .map m,v,h => RelA.keep hk (.map m) v h
 | .fn f a b,v,h => RelA.keep hk (.fn f a b) v h
 | .self f a b,v,h => RelA.keep hk (.self f a b) v h
 | .own i n,v,h => RelA.keep hk (.own i n) v h
 | .ptr i n,v,h => RelA.keep hk (.ptr i n) v h
 | .mref i,v,h => RelA.keep hk (.mref i) v h
 | .row i n,v,h => RelA.keep hk (.row i n) v h
 | .ref _ _,v,⟨b,o,hv,h⟩ => ⟨b,o,hv,h.keep hk (RelC.keep hk)⟩
 | .agg cs,v,h => RelA.keep hk (.agg cs) v h
 | .tup _,v,⟨vs,hv,h⟩ => ⟨vs,hv,h.imp (RelA.keep hk)⟩
end

/-! ### Small facts on All2 -/
theorem All2.length {α β : Type} {p : α → β → Prop} : ∀ {l : List α} {m : List β},All2 p l m → l.length = m.length
 | [],[],_ => rfl
 | _ :: _,_ :: _,⟨_,h⟩ => by simp [All2.length h]
 | [],_ :: _,h => h.elim
 | _ :: _,[],h => h.elim
theorem All2.get {α β : Type} {p : α → β → Prop} : ∀ {l : List α} {m : List β},All2 p l m → ∀ (i : Nat) (a : α),l[i]? = some a → ∃ b,m[i]? = some b ∧ p a b
 | [],[],_,_,_,h => by simp at h
 | _ :: _,b :: _,⟨h1,_⟩,0,_,h => ⟨b,rfl,by simp at h; exact h ▸ h1⟩
 | _ :: _,_ :: _,⟨_,h2⟩,i + 1,a,h => by simpa using All2.get h2 i a (by simpa using h)
 | [],_ :: _,h,_,_,_ => h.elim
 | _ :: _,[],h,_,_,_ => h.elim
theorem All2.get' {α β : Type} {p : α → β → Prop} : ∀ {l : List α} {m : List β},All2 p l m → ∀ (i : Nat) (b : β),m[i]? = some b → ∃ a,l[i]? = some a ∧ p a b
 | [],[],_,_,_,h => by simp at h
 | a :: _,_ :: _,⟨h1,_⟩,0,_,h => ⟨a,rfl,by simp at h; exact h ▸ h1⟩
 | _ :: _,_ :: _,⟨_,h2⟩,i + 1,a,h => by simpa using All2.get' h2 i a (by simpa using h)
 | [],_ :: _,h,_,_,_ => h.elim
 | _ :: _,[],h,_,_,_ => h.elim
theorem All2.of_get {α β : Type} {p : α → β → Prop} : ∀ {l : List α} {m : List β},l.length = m.length → (∀ (i : Nat) (a : α) (b : β),l[i]? = some a → m[i]? = some b → p a b) → All2 p l m
 | [],[],_,_ => trivial
 | a :: l,b :: m,hl,h => ⟨h 0 a b rfl rfl,All2.of_get (by simpa using hl) fun i x y hx hy => h (i + 1) x y (by simpa using hx) (by simpa using hy)⟩
 | [],_ :: _,h,_ => by simp at h
 | _ :: _,[],h,_ => by simp at h
theorem All2.append {α β : Type} {p : α → β → Prop} : ∀ {l : List α} {m : List β} {l' : List α} {m' : List β},All2 p l m → All2 p l' m' → All2 p (l ++ l') (m ++ m')
 | [],[],_,_,_,h => h
 | _ :: _,_ :: _,_,_,⟨h1,h2⟩,h => ⟨h1,All2.append h2 h⟩
 | [],_ :: _,_,_,h,_ => h.elim
 | _ :: _,[],_,_,h,_ => h.elim
theorem All2.take {α β : Type} {p : α → β → Prop} : ∀ (n : Nat) {l : List α} {m : List β},All2 p l m → All2 p (l.take n) (m.take n)
 | 0,_,_,_ => by simp [All2]
 | _ + 1,[],[],_ => trivial
 | n + 1,_ :: _,_ :: _,⟨h1,h2⟩ => ⟨h1,All2.take n h2⟩
 | _ + 1,[],_ :: _,h => h.elim
 | _ + 1,_ :: _,[],h => h.elim
theorem All2.drop {α β : Type} {p : α → β → Prop} : ∀ (n : Nat) {l : List α} {m : List β},All2 p l m → All2 p (l.drop n) (m.drop n)
 | 0,_,_,h => h
 | _ + 1,[],[],_ => trivial
 | n + 1,_ :: _,_ :: _,⟨_,h2⟩ => All2.drop n h2
 | _ + 1,[],_ :: _,h => h.elim
 | _ + 1,_ :: _,[],h => h.elim
theorem All2.map_left {α β γ : Type} {p : γ → β → Prop} (f : α → γ) : ∀ {l : List α} {m : List β},All2 (fun a b => p (f a) b) l m → All2 p (l.map f) m
 | [],[],_ => trivial
 | _ :: _,_ :: _,⟨h1,h2⟩ => ⟨h1,All2.map_left f h2⟩
 | [],_ :: _,h => h.elim
 | _ :: _,[],h => h.elim

/-! ### Elements: from cells to data and back -/
theorem sl_weak {α : Type} {K : α → List Value → Prop} {sz : Nat} {R : Foot} {w : World} {full : Bool} {xs : List α} {v : Value} (h : SlR K sz R w full xs v) : SlR K sz R w false xs v := by
 obtain ⟨A,c,hv,h1,h2,_,h4⟩ := h
 exact ⟨A,c,hv,h1,h2,fun h => by simp at h,h4⟩
theorem sl_nil {α : Type} (K : α → List Value → Prop) (sz : Nat) (R : Foot) (w : World) (full : Bool) : SlR K sz R w full ([] : List α) (.slice none 0 0) :=
 ⟨none,0,rfl,Nat.le_refl _,by unfold maxLen; omega,fun _ => rfl,fun h => by simp at h⟩

theorem asSl_rel {R : Foot} {w : World} (e : E) {d : D} {xs : List e.α} {v : Value} (h : asSl e d = some xs) (hr : RelC0 R w d v) : SlR (RelE R w e) e.sz R w false xs v := by
 cases d with
 | nil =>
  simp only [asSl,Option.some.injEq] at h
  subst h
  simp only [RelC0] at hr
  subst hr
  exact sl_nil _ _ _ _ _
 | sl f e' ys =>
  simp only [asSl] at h
  split at h
  ·rename_i he _
   obtain ⟨rfl⟩ := he
   simp only [Option.some.injEq] at h
   subst h
   exact sl_weak hr
  ·simp at h
 | _ => simp [asSl] at h

theorem enc_rel {R : Foot} {w : World} : ∀ (e : E) (x : e.α) (vs : List Value),RelE R w e x vs → All2 (RelC0 R w) (e.enc x) vs
 | .int,_,_,h => by rw [h]; exact ⟨rfl,trivial⟩
 | .span,_,_,h => by rw [h]; exact ⟨rfl,rfl,trivial⟩
 | .sec,_,_,h => by rw [h]; exact ⟨rfl,rfl,rfl,rfl,trivial⟩
 | .sv,_,_,h => by rw [h]; exact ⟨rfl,rfl,rfl,rfl,trivial⟩
 | .work,_,_,h => by rw [h]; exact ⟨rfl,rfl,trivial⟩
 | .tr1,_,_,h => by rw [h]; exact ⟨rfl,rfl,rfl,rfl,trivial⟩
 | .trc,_,_,h => by rw [h]; exact ⟨rfl,rfl,rfl,rfl,rfl,rfl,rfl,rfl,rfl,rfl,rfl,rfl,trivial⟩
 | .book,_,_,⟨a,b,c,hv,h1,h2,h3⟩ => by rw [hv]; exact ⟨h1,h2,h3,rfl,rfl,trivial⟩
 | .fbook,_,_,⟨a,b,c,f,o,hv,h1,h2,h3,h4,h5⟩ => by rw [hv]; exact ⟨h1,h2,h3,rfl,rfl,h4,rfl,h5,rfl,rfl,trivial⟩
 | .list _,_,_,⟨v,hv,h⟩ => by rw [hv]; exact ⟨h,trivial⟩

theorem enc_length : ∀ (e : E) (x : e.α),(e.enc x).length = e.sz
 | .int,_ => rfl | .span,_ => rfl | .sec,_ => rfl | .sv,_ => rfl | .work,_ => rfl | .tr1,_ => rfl | .trc,_ => rfl | .book,_ => rfl | .fbook,_ => rfl | .list _,_ => rfl

theorem all2_cons {α β : Type} {p : α → β → Prop} {a : α} {l : List α} {m : List β} (h : All2 p (a :: l) m) : ∃ b m',m = b :: m' ∧ p a b ∧ All2 p l m' := by
 cases m with
 | nil => exact h.elim
 | cons b m' => exact ⟨b,m',rfl,h.1,h.2⟩
theorem all2_nil {α β : Type} {p : α → β → Prop} {m : List β} (h : All2 p ([] : List α) m) : m = [] := by
 cases m with
 | nil => rfl
 | cons b m' => exact h.elim

theorem asI_rel {R : Foot} {w : World} {d : D} {x : Int} {v : Value} (h : asI d = some x) (hr : RelC0 R w d v) : v = .int .i64 x := by
 unfold asI at h
 split at h
 ·cases h
  exact hr
 ·cases h
theorem allI_rel {R : Foot} {w : World} : ∀ (cs : List D) (zs : List Int) (vs : List Value),allI cs = some zs → All2 (RelC0 R w) cs vs → vs = zs.map (Value.int .i64)
 | [],zs,vs,h,hr => by
  cases h
  exact all2_nil hr
 | d :: l,zs,vs,h,hr => by
  obtain ⟨v,vs',rfl,h1,h2⟩ := all2_cons hr
  simp only [allI] at h
  split at h
  ·rename_i x xs hx hxs
   cases h
   rw [asI_rel hx h1,allI_rel l xs vs' hxs h2]
   rfl
  ·cases h
theorem mk_rel {R : Foot} {w : World} (e : E) (zs : List Int) (x : e.α) (h : e.mk zs = some x) : RelE R w e x (zs.map (Value.int .i64)) := by
 unfold E.mk at h
 split at h <;> cases h <;> rfl
theorem decFlat {R : Foot} {w : World} {e : E} {cs : List D} {x : e.α} {vs : List Value} (h : (allI cs).bind e.mk = some x) (hr : All2 (RelC0 R w) cs vs) : RelE R w e x vs := by
 obtain ⟨zs,hz,hx⟩ := Option.bind_eq_some_iff.1 h
 rw [allI_rel _ _ _ hz hr]
 exact mk_rel _ _ _ hx
theorem dec_rel {R : Foot} {w : World} (e : E) (cs : List D) (x : e.α) (vs : List Value) (h : e.dec cs = some x) (hr : All2 (RelC0 R w) cs vs) : RelE R w e x vs := by
 cases e with
 | book =>
  simp only [E.dec] at h
  unfold decBook at h
  split at h
  ·split at h
   ·rename_i x y z r d hx hy hz hr' hd
    obtain ⟨v0,vs,rfl,h1,hr⟩ := all2_cons hr
    obtain ⟨v1,vs,rfl,h2,hr⟩ := all2_cons hr
    obtain ⟨v2,vs,rfl,h3,hr⟩ := all2_cons hr
    obtain ⟨v3,vs,rfl,h4,hr⟩ := all2_cons hr
    obtain ⟨v4,vs,rfl,h5,hr⟩ := all2_cons hr
    obtain rfl := all2_nil hr
    cases h
    exact ⟨v0,v1,v2,by rw [asI_rel hr' h4,asI_rel hd h5],asSl_rel _ hx h1,asSl_rel _ hy h2,asSl_rel _ hz h3⟩
   ·cases h
  ·cases h
 | fbook =>
  simp only [E.dec] at h
  unfold decFBook at h
  split at h
  ·split at h
   ·rename_i x y z r d u n o s m hx hy hz hr' hd hu hn ho hs hm
    obtain ⟨v0,vs,rfl,h1,hr⟩ := all2_cons hr
    obtain ⟨v1,vs,rfl,h2,hr⟩ := all2_cons hr
    obtain ⟨v2,vs,rfl,h3,hr⟩ := all2_cons hr
    obtain ⟨v3,vs,rfl,h4,hr⟩ := all2_cons hr
    obtain ⟨v4,vs,rfl,h5,hr⟩ := all2_cons hr
    obtain ⟨v5,vs,rfl,h6,hr⟩ := all2_cons hr
    obtain ⟨v6,vs,rfl,h7,hr⟩ := all2_cons hr
    obtain ⟨v7,vs,rfl,h8,hr⟩ := all2_cons hr
    obtain ⟨v8,vs,rfl,h9,hr⟩ := all2_cons hr
    obtain ⟨v9,vs,rfl,h10,hr⟩ := all2_cons hr
    obtain rfl := all2_nil hr
    cases h
    exact ⟨v0,v1,v2,v5,v7,by rw [asI_rel hr' h4,asI_rel hd h5,asI_rel hn h7,asI_rel hs h9,asI_rel hm h10],asSl_rel _ hx h1,asSl_rel _ hy h2,asSl_rel _ hz h3,asSl_rel _ hu h6,asSl_rel _ ho h8⟩
   ·cases h
  ·cases h
 | list e =>
  simp only [E.dec] at h
  unfold decList at h
  split at h
  ·obtain ⟨v,vs,rfl,h1,hr⟩ := all2_cons hr
   obtain rfl := all2_nil hr
   exact ⟨v,rfl,asSl_rel _ h h1⟩
  ·cases h
 | int => exact decFlat h hr
 | span => exact decFlat h hr
 | sec => exact decFlat h hr
 | sv => exact decFlat h hr
 | work => exact decFlat h hr
 | tr1 => exact decFlat h hr
 | trc => exact decFlat h hr
end Go.Di

