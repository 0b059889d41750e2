/- Part 3: an interpreter over plain data for this code, with the proof that it says what the model does, and the contracts of the functions. No condition. -/
import Derived.Test.YtfkmodcjddfeiaaDoorDi02
import Derived.Laws.NewFold
set_option linter.unusedVariables false
set_option linter.unusedSimpArgs false
/-
 DI,part D: each operation does in the model what the interpreter says (first half: operands,cells,slots,loads,stores).
-/
namespace Go.Di
open Go.RowKit

/-! ### What is asked of the table of types -/
structure TIok (P : Program) (tt : TypeId → Option TI) (t : TypeId) (ti : TI) : Prop where
 eqok : ti.eq = true → P.eqGuardType P.depth t = false ∧ ∀ (w : World) (xs ys : List Int),xs.length = ti.sz → ys.length = ti.sz → (Op.equal t (.agg (xs.map (Value.int .i64)).toArray) (.agg (ys.map (Value.int .i64)).toArray)).run P w = .ok (eqI xs ys) w
 info : ∃ i z,P.info? t = some i ∧ i.size = ti.sz ∧ i.bytes = ti.bytes ∧ i.zero = some z ∧ ti.zero.length = ti.sz ∧ ∀ (R : Foot) (w : World),All2 (RelC0 R w) ti.zero z.cells.toList
 und : match ti.k with
  | .int k => P.underlying t = some (.int k)
  | .bool => P.underlying t = some .bool
  | .struct fs => ∃ fields : Array Field,P.underlying t = some (.struct fields) ∧ (∀ (i : Nat) (f : Field),fields[i]? = some f → fs[i]? = some (f.offset,f.type) ∧ ∃ tf,tt f.type = some tf) ∧ fields.size = fs.length ∧ (∀ f ∈ fields.toList,f.name ≠ "_") ∧ P.stoodInHeld t = false
  | .array n el => P.underlying t = some (.array n el) ∧ ∃ te,tt el = some te
  | .slice el => P.underlying t = some (.slice el) ∧ ∃ te,tt el = some te
  | .map kt et _ => P.underlying t = some (.map kt et)
  | .other => ∃ d,P.underlying t = some d ∧ (∀ fs,d ≠ .struct fs) ∧ (∀ n e,d ≠ .array n e)
 zer : ∀ i z,P.info? t = some i → i.zero = some z → ti.agg = false → z.cells = #[z]

def TabOk (P : Program) (tt : TypeId → Option TI) : Prop := ∀ t ti,tt t = some ti → TIok P tt t ti

/-- What a function answers: in every world in which its arguments are told,in new memory. -/
structure Contract (P : Program) (glob : Nat → Option (List D)) (f : FuncId) (args : List D) (r : D) : Prop where
 form : ∃ fn,P.funcs[f]? = some fn ∧ (fn.name == "runtime.NumGoroutine") = false ∧ fn.body.isNone = false
 calls : ∀ (w : World) (R : Foot) (vs : List Value),(∀ b o,R b o → b < w.heap.size) → (∀ g cs,glob g = some cs → Rel R w (.ref cs 0) (.pointer (some ⟨g,0,none⟩))) → All2 (Rel R w) args vs →
  Calls P f vs.toArray w fun e w' => ∃ v,e = .returned v ∧ Below w.heap.size w w' ∧ ∃ R' : Foot,(∀ b o,R b o → R' b o) ∧ (∀ b o,R' b o → b < w'.heap.size ∧ (R b o ∨ w.heap.size ≤ b)) ∧ Rel R' w' r v

/-- A cell of such a result. -/
def RelL (b : Nat) (R : Foot) (w : World) : D → Value → Prop
 | .row _ n,v => ∃ c,n ≤ c ∧ c ≤ maxLen ∧ v = .slice (some ⟨b,0,none⟩) n c
 | d,v => RelC R w d v
/-- What a function answers whose result has a row of new memory that nothing else is told to lie in. -/
structure ContractL (P : Program) (glob : Nat → Option (List D)) (f : FuncId) (args cs cells : List D) : Prop where
 form : ∃ fn,P.funcs[f]? = some fn ∧ (fn.name == "runtime.NumGoroutine") = false ∧ fn.body.isNone = false
 calls : ∀ (w : World) (R : Foot) (vs : List Value),(∀ b o,R b o → b < w.heap.size) → (∀ g cs,glob g = some cs → Rel R w (.ref cs 0) (.pointer (some ⟨g,0,none⟩))) → All2 (Rel R w) args vs →
  Calls P f vs.toArray w fun e w' => ∃ v,e = .returned v ∧ Below w.heap.size w w' ∧ ∃ (R' : Foot) (g : Nat),(∀ b o,R b o → R' b o) ∧ (∀ b o,R' b o → b < w'.heap.size ∧ (R b o ∨ w.heap.size ≤ b)) ∧ w.heap.size ≤ g ∧ (∀ o,¬ R' g o) ∧
   (∃ arr el,w'.heap[g]? = some (.cells arr el (0,0)) ∧ All2 (RelC R' w') cells (arr.toList.take cells.length)) ∧ ∃ us,v = .agg us ∧ All2 (RelL g R' w') cs us.toList
/-- What is asked of the functions that are called. -/
structure ConOk (P : Program) (C : Cfg) : Prop where
 con : ∀ f args r,C.con f args r → Contract P C.glob f args r
 conL : ∀ f args cs cells,C.conL f args cs cells → ContractL P C.glob f args cs cells

section
variable {P : Program} {C : Cfg} {w0 w : World} {R0 R : Foot} {a : Act} {s : St} {β : Nat → Nat} {σ : Sig}

theorem RelC.of0 : ∀ {d : D} {v : Value},RelC0 R w d v → RelC R w d v
 | .int _ _,_,h => h | .bool _,_,h => h | .nil,_,h => h | .nilmap,_,h => h | .nilfn,_,h => h | .sl _ _ _,_,h => h | .map _,_,h => h
 | .undef,_,h => h.elim | .fn _ _ _,_,h => h.elim | .own _ _,_,h => h.elim | .ptr _ _,_,h => h.elim | .ref _ _,_,h => h.elim | .agg _,_,h => h.elim | .tup _,_,h => h.elim | .mref _,_,h => h.elim | .row _ _,_,h => h.elim | .self _ _ _,_,h => h.elim
theorem RelTC.of0 : ∀ {d : D} {v : Value},RelC0 R w d v → RelTC β σ s R w d v
 | .int _ _,_,h => h | .bool _,_,h => h | .nil,_,h => h | .nilmap,_,h => h | .nilfn,_,h => h | .sl _ _ _,_,h => h | .map _,_,h => h
 | .undef,_,h => h.elim | .fn _ _ _,_,h => h.elim | .own _ _,_,h => h.elim | .ptr _ _,_,h => h.elim | .ref _ _,_,h => h.elim | .agg _,_,h => h.elim | .tup _,_,h => h.elim | .mref _,_,h => h.elim | .row _ _,_,h => h.elim | .self _ _ _,_,h => h.elim
theorem RelTC.ofC : ∀ {d : D} {v : Value},RelC R w d v → RelTC β σ s R w d v
 | .int _ _,_,h => h | .bool _,_,h => h | .nil,_,h => h | .nilmap,_,h => h | .nilfn,_,h => h | .sl _ _ _,_,h => h | .map _,_,h => h
 | .undef,_,h => h.elim | .fn _ _ _,_,h => h | .own _ _,_,h => h.elim | .ptr _ _,_,h => h.elim | .ref _ _,_,h => h.elim | .agg _,_,h => h.elim | .tup _,_,h => h.elim | .mref _,_,h => h.elim | .row _ _,_,h => h.elim | .self _ _ _,_,h => h
theorem RelT.ofTC : ∀ {d : D} {v : Value},RelTC β σ s R w d v → RelT β σ s R w d v
 | .int _ _,_,h => h | .bool _,_,h => h | .nil,_,h => h | .nilmap,_,h => h | .nilfn,_,h => h | .sl _ _ _,_,h => h | .map _,_,h => h
 | .undef,_,h => h.elim | .fn _ _ _,_,h => h | .own _ _,_,h => h | .ptr _ _,_,h => h.elim | .ref _ _,_,h => h.elim | .agg _,_,h => h.elim | .tup _,_,h => h.elim | .mref _,_,h => h | .row _ _,_,h => h | .self _ _ _,_,h => h
theorem RelT.ofRel : ∀ {d : D} {v : Value},Rel R w d v → RelT β σ s R w d v
 | .int _ _,_,h => h | .bool _,_,h => h | .nil,_,h => h | .nilmap,_,h => h | .nilfn,_,h => h | .sl _ _ _,_,h => h | .map _,_,h => h
 | .undef,_,h => h.elim | .fn _ _ _,_,h => h | .own _ _,_,h => h.elim | .ptr _ _,_,h => h.elim | .ref _ _,_,h => h | .mref _,_,h => h.elim | .row _ _,_,h => h.elim | .self _ _ _,_,h => h
 | .agg _,_,⟨vs,hv,h⟩ => ⟨vs,hv,h.imp fun _ _ => RelTC.ofC⟩ | .tup _,_,h => h
theorem RelT.ofA : ∀ {d : D} {v : Value},RelA R w d v → RelT β σ s R w d v
 | .int _ _,_,h => h | .bool _,_,h => h | .nil,_,h => h | .nilmap,_,h => h | .nilfn,_,h => h | .sl _ _ _,_,h => h | .map _,_,h => h
 | .undef,_,h => h.elim | .fn _ _ _,_,h => h | .own _ _,_,h => h.elim | .ptr _ _,_,h => h.elim | .ref _ _,_,h => h.elim | .mref _,_,h => h.elim | .row _ _,_,h => h.elim | .self _ _ _,_,h => h
 | .agg _,_,⟨vs,hv,h⟩ => ⟨vs,hv,h.imp fun _ _ => RelTC.ofC⟩ | .tup _,_,h => h.elim

theorem constD_rel {v : Value} {d : D} (h : constD v = some d) : RelT β σ s R w d v := by
 unfold constD at h
 split at h <;> cases h <;> rfl

theorem opd_ok (hI : Inv C w0 R0 a w s β σ R) {x : Operand} {k : D → M} {wr : List (Key × Val)} (h : (opd C x k).Ok s wr) : ∃ d,(k d).Ok s wr ∧ RelT β σ s R w d (a.eval x) := by
 cases x with
 | tmp t =>
  simp only [opd,M.Ok] at h
  cases hv : s (.tmp t) with
  | d d =>
   rw [hv] at h
   refine ⟨d,h,?_⟩
   have := hI.tmps t
   simp only [St.tmp,hv] at this
   exact this
  | bx b => rw [hv] at h; exact h.elim
  | ob o => rw [hv] at h; exact h.elim
  | mp o => rw [hv] at h; exact h.elim
  | rw o => rw [hv] at h; exact h.elim
 | const v =>
  simp only [opd] at h
  split at h
  ·rename_i d hd
   exact ⟨d,h,constD_rel hd⟩
  ·exact h.elim
 | global g =>
  simp only [opd] at h
  split at h
  ·rename_i cs hg
   exact ⟨.ref cs 0,h,hI.glob g cs hg⟩
  ·exact h.elim
 | func f => exact ⟨.fn f [] [],h,⟨#[],#[],rfl,trivial,trivial⟩⟩

theorem opds_ok (hI : Inv C w0 R0 a w s β σ R) : ∀ {l : List Operand} {k : List D → M} {wr : List (Key × Val)},(opds C l k).Ok s wr → ∃ ds,(k ds).Ok s wr ∧ All2 (RelT β σ s R w) ds (l.map a.eval)
 | [],k,wr,h => ⟨[],h,trivial⟩
 | x :: l,k,wr,h => by
  obtain ⟨d,h1,h2⟩ := opd_ok hI h
  obtain ⟨ds,h3,h4⟩ := opds_ok hI h1
  exact ⟨d :: ds,h3,h2,h4⟩

theorem typed_tc {tt : TypeId → Option TI} {t : TypeId} : ∀ {d : D} {v : Value},RelTC β σ s R w d v → RelTC β σ s R w (typed tt t d) v
 | .nil,v,h => by
  have h' : v = .slice none 0 0 := h
  cases he : elt tt t with
  | none => simp only [typed,he]; exact h
  | some p =>
   obtain ⟨e,b⟩ := p
   simp only [typed,he]
   subst h'
   exact sl_nil _ _ _ _ _
 | .int _ _,_,h => h | .bool _,_,h => h | .nilmap,_,h => h | .nilfn,_,h => h | .sl _ _ _,_,h => h | .map _,_,h => h
 | .undef,_,h => h | .fn _ _ _,_,h => h | .own _ _,_,h => h | .ptr _ _,_,h => h | .ref _ _,_,h => h | .agg _,_,h => h | .tup _,_,h => h | .mref _,_,h => h | .row _ _,_,h => h | .self _ _ _,_,h => h
theorem typed_rel {tt : TypeId → Option TI} {t : TypeId} : ∀ {d : D} {v : Value},RelT β σ s R w d v → RelT β σ s R w (typed tt t d) v
 | .nil,v,h => by
  have h' : v = .slice none 0 0 := h
  cases he : elt tt t with
  | none => simp only [typed,he]; exact h
  | some p =>
   obtain ⟨e,b⟩ := p
   simp only [typed,he]
   subst h'
   exact sl_nil _ _ _ _ _
 | .int _ _,_,h => h | .bool _,_,h => h | .nilmap,_,h => h | .nilfn,_,h => h | .sl _ _ _,_,h => h | .map _,_,h => h
 | .undef,_,h => h | .fn _ _ _,_,h => h | .own _ _,_,h => h | .ptr _ _,_,h => h | .ref _ _,_,h => h | .agg _,_,h => h | .tup _,_,h => h | .mref _,_,h => h | .row _ _,_,h => h | .self _ _ _,_,h => h

theorem ob_of {k : Nat} {o : Ob} (h : s (.obj k) = .ob (some o)) : s.ob k = some o := by simp [St.ob,h]
theorem rw_of {k : Nat} {zs : List Int} (h : s (.box k) = .rw zs) : s.bx k = some ⟨false,intC zs⟩ := by simp [St.bx,h]
theorem bx_of {k : Nat} {o : Option Box} (h : s (.box k) = .bx o) : s.bx k = o := by simp [St.bx,h]

theorem obj_sl (hI : Inv C w0 R0 a w s β σ R) {k : Nat} {o : Ob} (ho : s.ob k = some o) {n : Nat} {v : Value} (hn : n = o.xs.length) (hv : RelTC β σ s R w (.own k n) v) : SlR (RelE R w o.e) o.e.sz R w false o.xs v := by
 obtain ⟨o',h1,_,h2⟩ := hv
 rw [ho] at h1
 cases h1
 rw [h2 hn,hn]
 exact (hI.obj k o ho).sl

theorem resCell_ok (hI : Inv C w0 R0 a w s β σ R) {k : D → M} {wr : List (Key × Val)} : ∀ {d : D} {v : Value},(resCell d k).Ok s wr → RelTC β σ s R w d v → ∃ d',(k d').Ok s wr ∧ RelC R w d' v
 | .own i n,v,h,hr => by
  simp only [resCell,M.Ok] at h
  split at h
  ·rename_i o ho
   exact ⟨_,h.2,obj_sl hI (ob_of ho) h.1 hr⟩
  ·exact h.elim
 | .int _ _,_,h,hr => ⟨_,h,hr⟩ | .bool _,_,h,hr => ⟨_,h,hr⟩ | .nil,_,h,hr => ⟨_,h,hr⟩ | .nilmap,_,h,hr => ⟨_,h,hr⟩ | .nilfn,_,h,hr => ⟨_,h,hr⟩
 | .sl _ _ _,_,h,hr => ⟨_,h,hr⟩ | .map _,_,h,hr => ⟨_,h,hr⟩ | .fn _ _ _,_,h,hr => ⟨_,h,hr⟩ | .self _ _ _,_,h,hr => ⟨_,h,hr⟩
 | .undef,_,h,_ => h.elim | .ptr _ _,_,h,_ => h.elim | .ref _ _,_,h,_ => h.elim | .agg _,_,h,_ => h.elim | .tup _,_,h,_ => h.elim | .mref _,_,h,_ => h.elim | .row _ _,_,h,_ => h.elim

theorem resCells_ok (hI : Inv C w0 R0 a w s β σ R) : ∀ {cs : List D} {k : List D → M} {wr : List (Key × Val)} {vs : List Value},(resCells cs k).Ok s wr → All2 (RelTC β σ s R w) cs vs → ∃ cs',(k cs').Ok s wr ∧ All2 (RelC R w) cs' vs
 | [],k,wr,[],h,_ => ⟨[],h,trivial⟩
 | d :: cs,k,wr,v :: vs,h,⟨h1,h2⟩ => by
  obtain ⟨d',h3,h4⟩ := resCell_ok hI h h1
  obtain ⟨cs',h5,h6⟩ := resCells_ok hI h3 h2
  exact ⟨d' :: cs',h5,h4,h6⟩
 | [],_,_,_ :: _,_,h => h.elim
 | _ :: _,_,_,[],_,h => h.elim

theorem relC_rel : ∀ {d : D} {v : Value},RelC R w d v → Rel R w d v
 | .int _ _,_,h => h | .bool _,_,h => h | .nil,_,h => h | .nilmap,_,h => h | .nilfn,_,h => h | .sl _ _ _,_,h => h | .map _,_,h => h | .fn _ _ _,_,h => h | .self _ _ _,_,h => h
 | .undef,_,h => h.elim | .own _ _,_,h => h.elim | .ptr _ _,_,h => h.elim | .ref _ _,_,h => h.elim | .agg _,_,h => h.elim | .tup _,_,h => h.elim | .mref _,_,h => h.elim | .row _ _,_,h => h.elim

theorem resArg_ok (hI : Inv C w0 R0 a w s β σ R) {k : D → M} {wr : List (Key × Val)} : ∀ {d : D} {v : Value},(resArg d k).Ok s wr → RelT β σ s R w d v → ∃ d',(k d').Ok s wr ∧ Rel R w d' v
 | .agg cs,v,h,⟨vs,hv,hr⟩ => by
  obtain ⟨cs',h1,h2⟩ := resCells_ok hI h hr
  exact ⟨_,h1,vs,hv,h2⟩
 | .ref cs o,v,h,hr => ⟨_,h,hr⟩
 | .own i n,v,h,hr => by
  obtain ⟨d',h1,h2⟩ := resCell_ok hI (d := .own i n) h hr
  exact ⟨d',h1,relC_rel h2⟩
 | .int _ _,_,h,hr => ⟨_,h,hr⟩ | .bool _,_,h,hr => ⟨_,h,hr⟩ | .nil,_,h,hr => ⟨_,h,hr⟩ | .nilmap,_,h,hr => ⟨_,h,hr⟩ | .nilfn,_,h,hr => ⟨_,h,hr⟩
 | .sl _ _ _,_,h,hr => ⟨_,h,hr⟩ | .map _,_,h,hr => ⟨_,h,hr⟩ | .fn _ _ _,_,h,hr => ⟨_,h,hr⟩ | .self _ _ _,_,h,hr => ⟨_,h,hr⟩
 | .undef,_,h,_ => h.elim | .ptr _ _,_,h,_ => h.elim | .tup _,_,h,_ => h.elim | .mref _,_,h,_ => h.elim | .row _ _,_,h,_ => h.elim

theorem resArgs_ok (hI : Inv C w0 R0 a w s β σ R) : ∀ {ds : List D} {k : List D → M} {wr : List (Key × Val)} {vs : List Value},(resArgs ds k).Ok s wr → All2 (RelT β σ s R w) ds vs → ∃ ds',(k ds').Ok s wr ∧ All2 (Rel R w) ds' vs
 | [],k,wr,[],h,_ => ⟨[],h,trivial⟩
 | d :: cs,k,wr,v :: vs,h,⟨h1,h2⟩ => by
  obtain ⟨d',h3,h4⟩ := resArg_ok hI h h1
  obtain ⟨cs',h5,h6⟩ := resArgs_ok hI h3 h2
  exact ⟨d' :: cs',h5,h4,h6⟩
 | [],_,_,_ :: _,_,h => h.elim
 | _ :: _,_,_,[],_,h => h.elim

theorem elems_ok (hI : Inv C w0 R0 a w s β σ R) {k : (e : E) → List e.α → M} {wr : List (Key × Val)} : ∀ {d : D} {v : Value},(elems d k).Ok s wr → RelT β σ s R w d v → ∃ (e : E) (xs : List e.α),(k e xs).Ok s wr ∧ SlR (RelE R w e) e.sz R w false xs v
 | .own i n,v,h,hr => by
  simp only [elems,M.Ok] at h
  split at h
  ·rename_i o ho
   exact ⟨_,_,h.2,obj_sl hI (ob_of ho) h.1 hr⟩
  ·exact h.elim
 | .sl f e xs,v,h,hr => ⟨e,xs,h,sl_weak hr⟩
 | .int _ _,_,h,_ => h.elim | .bool _,_,h,_ => h.elim | .nil,_,h,_ => h.elim | .nilmap,_,h,_ => h.elim | .nilfn,_,h,_ => h.elim | .map _,_,h,_ => h.elim | .fn _ _ _,_,h,_ => h.elim | .self _ _ _,_,h,_ => h.elim
 | .undef,_,h,_ => h.elim | .ptr _ _,_,h,_ => h.elim | .ref _ _,_,h,_ => h.elim | .agg _,_,h,_ => h.elim | .tup _,_,h,_ => h.elim | .mref _,_,h,_ => h.elim | .row _ _,_,h,_ => h.elim

theorem setTmp_ok (hI : Inv C w0 R0 a w s β σ R) {s' : St} {dst : Option Tmp} {d : D} {wr : List (Key × Val)} (h : (setTmp C dst d).Ok s' wr) {v : Value} (hv : RelT β σ s R w d v) : Inv C w0 R0 (a.put dst v) w (s.apply wr) β σ R := by
 cases dst with
 | none =>
  simp only [setTmp,M.Ok] at h
  subst h
  exact hI
 | some t =>
  simp only [setTmp] at h
  split at h
  ·rename_i ht
   obtain ⟨wr',rfl,rfl⟩ := h
   exact hI.put t (okT_lt ht) (okT_fx ht) hv
  ·exact h.elim

/-! ### Cells -/
theorem one_of_C0 : ∀ {d : D} {v : Value},RelC0 R w d v → v.oneCell' = true
 | .int _ _,_,h => by rw [show _ = _ from h]; rfl
 | .bool _,_,h => by rw [show _ = _ from h]; rfl
 | .nil,_,h => by rw [show _ = _ from h]; rfl
 | .nilmap,_,h => by rw [show _ = _ from h]; rfl
 | .nilfn,_,h => by rw [show _ = _ from h]; rfl
 | .sl _ _ _,_,⟨A,c,hv,_⟩ => by rw [hv]; rfl
 | .map _,_,⟨r,es,cl,hv,_⟩ => by rw [hv]; rfl
 | .undef,_,h => h.elim | .fn _ _ _,_,h => h.elim | .own _ _,_,h => h.elim | .ptr _ _,_,h => h.elim | .ref _ _,_,h => h.elim | .agg _,_,h => h.elim | .tup _,_,h => h.elim | .mref _,_,h => h.elim | .row _ _,_,h => h.elim | .self _ _ _,_,h => h.elim
theorem one_of_C : ∀ {d : D} {v : Value},RelC R w d v → v.oneCell' = true
 | .fn _ _ _,_,⟨fs,cs,hv,_⟩ => by rw [hv]; rfl
 | .self _ _ _,_,⟨⟨fs,cs,hv⟩,_⟩ => by rw [hv]; rfl
 | .int k n,v,h => one_of_C0 (R := R) (w := w) (d := .int k n) h | .bool b,v,h => one_of_C0 (R := R) (w := w) (d := .bool b) h | .nil,v,h => one_of_C0 (R := R) (w := w) (d := .nil) h
 | .nilmap,v,h => one_of_C0 (R := R) (w := w) (d := .nilmap) h | .nilfn,v,h => one_of_C0 (R := R) (w := w) (d := .nilfn) h
 | .sl f e xs,v,h => one_of_C0 (R := R) (w := w) (d := .sl f e xs) h | .map m,v,h => one_of_C0 (R := R) (w := w) (d := .map m) h
 | .undef,_,h => h.elim | .own _ _,_,h => h.elim | .ptr _ _,_,h => h.elim | .ref _ _,_,h => h.elim | .agg _,_,h => h.elim | .tup _,_,h => h.elim | .mref _,_,h => h.elim | .row _ _,_,h => h.elim
theorem cells_one {v : Value} (h : v.oneCell' = true) : v.cells = #[v] := by
 cases v <;> first | rfl | (simp [Value.oneCell'] at h)

theorem chk_ok (hI : Inv C w0 R0 a w s β σ R) {m : M} {wr : List (Key × Val)} : ∀ {cs : List D} {vs : List Value},(chk cs m).Ok s wr → All2 (RelTC β σ s R w) cs vs → m.Ok s wr ∧ ∀ u ∈ vs,u.oneCell' = true
 | [],[],h,_ => ⟨h,fun u hu => by cases hu⟩
 | [],_ :: _,_,h => h.elim
 | _ :: _,[],_,h => h.elim
 | d :: cs,v :: vs,h,⟨h1,h2⟩ => by
  have key : (chk cs m).Ok s wr ∧ v.oneCell' = true := by
   cases d with
   | own i n =>
    simp only [chk,M.Ok] at h
    split at h
    ·rename_i o ho
     obtain ⟨A,c,hv,_⟩ := obj_sl hI (ob_of ho) h.1 h1
     exact ⟨h.2,by rw [hv]; rfl⟩
    ·exact h.elim
   | int k n => exact ⟨h,one_of_C (R := R) (w := w) (d := .int k n) h1⟩
   | bool b => exact ⟨h,one_of_C (R := R) (w := w) (d := .bool b) h1⟩
   | nil => exact ⟨h,one_of_C (R := R) (w := w) (d := .nil) h1⟩
   | nilmap => exact ⟨h,one_of_C (R := R) (w := w) (d := .nilmap) h1⟩
   | nilfn => exact ⟨h,one_of_C (R := R) (w := w) (d := .nilfn) h1⟩
   | sl f e xs => exact ⟨h,one_of_C (R := R) (w := w) (d := .sl f e xs) h1⟩
   | map mm => exact ⟨h,one_of_C (R := R) (w := w) (d := .map mm) h1⟩
   | mref i =>
    obtain ⟨_,ad,_,hv⟩ := h1
    exact ⟨h,by rw [hv]; rfl⟩
   | fn f x y => exact ⟨h,one_of_C (R := R) (w := w) (d := .fn f x y) h1⟩
   | self f x y => exact ⟨h,one_of_C (R := R) (w := w) (d := .self f x y) h1⟩
   | undef => exact h.elim
   | ptr i n => exact h.elim
   | ref x y => exact h.elim
   | agg x => exact h.elim
   | tup x => exact h.elim
   | row x y =>
    obtain ⟨_,c,_,_,hv⟩ := h1
    exact ⟨h,by rw [hv]; rfl⟩
  obtain ⟨p,q⟩ := chk_ok hI key.1 h2
  exact ⟨p,fun u hu => by
   rcases List.mem_cons.1 hu with rfl | hu
   ·exact key.2
   ·exact q u hu⟩

theorem cells_ok (hI : Inv C w0 R0 a w s β σ R) {d : D} {v : Value} {m : M} {wr : List (Key × Val)} (hc : (chk (cellsOf d) m).Ok s wr) (hr : RelT β σ s R w d v) :
  m.Ok s wr ∧ All2 (RelTC β σ s R w) (cellsOf d) v.cells.toList ∧ ∀ u ∈ v.cells.toList,u.oneCell' = true := by
 have one : ∀ (x : D),cellsOf d = [x] → RelTC β σ s R w x v → m.Ok s wr ∧ All2 (RelTC β σ s R w) (cellsOf d) v.cells.toList ∧ ∀ u ∈ v.cells.toList,u.oneCell' = true := by
  intro x hx hxr
  rw [hx] at hc
  obtain ⟨h1,h2⟩ := chk_ok hI (vs := [v]) hc ⟨hxr,trivial⟩
  have h3 := h2 v (by simp)
  rw [cells_one h3,hx]
  exact ⟨h1,⟨hxr,trivial⟩,h2⟩
 cases d with
 | agg cs =>
  obtain ⟨vs,rfl,h⟩ := hr
  obtain ⟨h1,h2⟩ := chk_ok hI hc h
  exact ⟨h1,h,h2⟩
 | own i n => exact one _ rfl hr
 | int k n => exact one _ rfl hr
 | bool b => exact one _ rfl hr
 | nil => exact one _ rfl hr
 | nilmap => exact one _ rfl hr
 | nilfn => exact one _ rfl hr
 | sl f e xs => exact one _ rfl hr
 | map mm => exact one _ rfl hr
 | mref i => exact one _ rfl hr
 | fn f x y => exact one _ rfl hr
 | self f x y => exact one _ rfl hr
 | undef => exact hc.elim
 | ptr i n => exact hc.elim
 | ref x y => exact hc.elim
 | tup x => exact hc.elim
 | row x y => exact one _ rfl hr

/-! ### Operations that yield a value and leave the world -/
theorem wp_value {o : Oper} {v : Value} {w' : World} {K : Act → World → Prop} {Q : Exit → Act → World → Prop} (h : (execOp a.eval o).run P w = .ok (.value v) w') (hK : K (a.put o.dst v) w') : o.wp P a w K Q := by
 unfold Oper.wp
 rw [h]
 exact hK
theorem wp_skipv {o : Oper} {w' : World} {K : Act → World → Prop} {Q : Exit → Act → World → Prop} (h : (execOp a.eval o).run P w = .ok .skip w') (hK : K (a.put o.dst undef) w') : o.wp P a w K Q := by
 unfold Oper.wp
 rw [h]
 exact hK

/-! ### Loads -/
theorem isAgg_run {t : TypeId} {ti : TI} (hT : TIok P C.tt t ti) : (isAgg t).run P w = .ok ti.agg w := by
 have hu := hT.und
 unfold TI.agg
 cases hk : ti.k with
 | int k => rw [hk] at hu; simp [isAgg,run_underlying hu]
 | bool => rw [hk] at hu; simp [isAgg,run_underlying hu]
 | struct fs => rw [hk] at hu; obtain ⟨fields,h1,_⟩ := hu; simp [isAgg,run_underlying h1]
 | array n el => rw [hk] at hu; simp [isAgg,run_underlying hu.1]
 | slice el => rw [hk] at hu; simp [isAgg,run_underlying hu.1]
 | map kt et sp => rw [hk] at hu; simp [isAgg,run_underlying hu]
 | other =>
  rw [hk] at hu
  obtain ⟨d,h1,h2,h3⟩ := hu
  simp [isAgg,run_underlying h1]
  done
theorem sizeOf_run {t : TypeId} {ti : TI} (hT : TIok P C.tt t ti) : (sizeOf t).run P w = .ok ti.sz w := by
 obtain ⟨i,z,h1,h2,_⟩ := hT.info
 simp [sizeOf,typeInfo,h1,h2]
theorem add_plain (b o n : Nat) : (⟨b,o,none⟩ : Addr).add n = ⟨b,o + n,none⟩ := by unfold Addr.add; split <;> simp_all

theorem loadVar_run {t : TypeId} {ti : TI} (hT : TIok P C.tt t ti) {b o : Nat} (vs : List Value) (hl : vs.length = ti.sz) (hc : ∀ j u,vs[j]? = some u → w.cell? ⟨b,o + j,none⟩ = some u) :
  (loadVar t ⟨b,o,none⟩).run P w = .ok (if ti.agg = true then .agg vs.toArray else (vs.headD undef)) w ∨ (ti.agg = false ∧ ti.sz ≠ 1) := by
 have h1 := isAgg_run (P := P) (C := C) (w := w) hT
 have h2 := sizeOf_run (P := P) (C := C) (w := w) hT
 cases ha : ti.agg with
 | true =>
  left
  have h3 := run_loadCells_list (P := P) w ⟨b,o,none⟩ vs (fun j u hu => by rw [add_plain]; exact hc j u hu)
  rw [hl] at h3
  simp [loadVar,h1,ha,h2,h3]
 | false =>
  by_cases hs : ti.sz = 1
  ·left
   obtain ⟨u,rfl⟩ : ∃ u,vs = [u] := by
    match vs,hl with
    | [u],_ => exact ⟨u,rfl⟩
    | [],hl => simp at hl; omega
    | _ :: _ :: _,hl => simp at hl; omega
   have h4 := hc 0 u rfl
   simp only [Nat.add_zero] at h4
   simp [loadVar,h1,ha,load,Sem.run,h4]
  ·exact .inr ⟨rfl,hs⟩
end
end Go.Di

/-
 DI,part E: each operation does in the model what the interpreter says (operations on values,boxes,loads and stores).
-/
namespace Go.Di
open Go.RowKit

section
variable {P : Program} {C : Cfg} {w0 w : World} {R0 R : Foot} {a : Act} {s : St} {β : Nat → Nat} {σ : Sig} {o : Oper} {wr : List (Key × Val)} {K : Act → World → Prop} {Q : Exit → Act → World → Prop}

theorem done_ok (hI : Inv C w0 R0 a w s β σ R) (hK : ∀ a' w',Holds C w0 R0 a' w' (s.apply wr) → K a' w') {d : D} {v : Value} (h : (setTmp C o.dst d).Ok s wr) (hv : RelT β σ s R w d v)
  (hr : (execOp a.eval o).run P w = .ok (.value v) w) : o.wp P a w K Q := wp_value hr (hK _ _ ⟨β,σ,R,setTmp_ok hI h hv⟩)

theorem move_ok (hI : Inv C w0 R0 a w s β σ R) (hK : ∀ a' w',Holds C w0 R0 a' w' (s.apply wr) → K a' w') {x : Operand} (hop : o.op = .move x ∨ o.op = .assign x)
  (h : (opd C x fun d => setTmp C o.dst (typed C.tt o.type d)).Ok s wr) : o.wp P a w K Q := by
 obtain ⟨d,h1,h2⟩ := opd_ok hI h
 exact done_ok hI hK h1 (typed_rel h2) (by rcases hop with hop | hop <;> simp [execOp,hop])

theorem pick_ok (hI : Inv C w0 R0 a w s β σ R) (hK : ∀ a' w',Holds C w0 R0 a' w' (s.apply wr) → K a' w') {c x y : Operand} (hop : o.op = .pick c x y) {dec : List (Nat × Bool)} {orc : List (Nat × D)}
  (h : (sem C dec orc o).Ok s wr) : o.wp P a w K Q := by
 unfold sem at h
 rw [hop] at h
 cases c with
 | tmp c =>
  simp only at h
  split at h
  ·rename_i t ht
   simp only [M.Ok] at h
   split at h
   ·rename_i u hu
    obtain ⟨rfl,h⟩ := h
    obtain ⟨d,h1,h2⟩ := opd_ok hI h
    have hc := hI.tmps c
    simp only [St.tmp,hu] at hc
    have hc' : a.tmps.getD c undef = .bool u := hc
    refine done_ok hI hK h1 h2 ?_
    have he : a.eval (.tmp c) = .bool u := hc'
    cases u <;> simp [execOp,hop,he,asBool]
   ·exact h.elim
  ·simp only [M.Ok] at h
   split at h
   ·rename_i hu
    obtain ⟨d,h1,h2⟩ := opd_ok hI h
    have hc := hI.tmps c
    simp only [St.tmp,hu] at hc
    have he : a.eval (.tmp c) = .bool true := hc
    exact done_ok hI hK h1 h2 (by simp [execOp,hop,he,asBool])
   ·rename_i hu
    obtain ⟨d,h1,h2⟩ := opd_ok hI h
    have hc := hI.tmps c
    simp only [St.tmp,hu] at hc
    have he : a.eval (.tmp c) = .bool false := hc
    exact done_ok hI hK h1 h2 (by simp [execOp,hop,he,asBool])
   ·exact h.elim
 | const v => exact h.elim
 | global g => exact h.elim
 | func f => exact h.elim

theorem run_newVar (t : TypeId) (v : Value) : (newVar t v).run P w = .ok ⟨w.heap.size,0,none⟩ (w.alloc (.cells v.cells t)) := by simp [newVar,newRow]

theorem newBox_ok (hI : Inv C w0 R0 a w s β σ R) (hK : ∀ a' w',Holds C w0 R0 a' w' (s.apply wr) → K a' w') {cs : List D} {arr : Array Value} {el : TypeId} (h : (newBox C o.dst cs).Ok s wr)
  (hc : All2 (RelTC β σ s R w) cs arr.toList) (hr : (execOp a.eval o).run P w = .ok (.value (.pointer (some ⟨w.heap.size,0,none⟩))) (w.alloc (.cells arr el))) : o.wp P a w K Q := by
 unfold newBox at h
 split at h
 ·rename_i t ht
  split at h
  ·rename_i hlt
   simp only [M.Ok] at h
   split at h
   ·rename_i hb
    obtain ⟨_,rfl,_,rfl,rfl⟩ := h
    refine wp_value hr (hK _ _ ⟨fun i => if i = t then w.heap.size else β i,σ,R,?_⟩)
    rw [ht]
    exact hI.newBox t (okT_lt hlt) (okT_fx hlt) (bx_of hb) cs arr el hc
   ·exact h.elim
  ·exact h.elim
 ·exact h.elim

theorem alloc_ok (hT : TabOk P C.tt) (hI : Inv C w0 R0 a w s β σ R) (hK : ∀ a' w',Holds C w0 R0 a' w' (s.apply wr) → K a' w') {t : TypeId} (hop : o.op = .alloc t) {dec : List (Nat × Bool)} {orc : List (Nat × D)}
  (h : (sem C dec orc o).Ok s wr) : o.wp P a w K Q := by
 unfold sem at h
 rw [hop] at h
 simp only at h
 split at h
 ·rename_i ti ht
  obtain ⟨i,z,h1,h2,h3,h4,_,h5⟩ := (hT t ti ht).info
  exact newBox_ok (el := t) hI hK h ((h5 R w).imp fun _ _ => RelTC.of0) (by simp [execOp,hop,Instr.alloc,zeroValue,typeInfo,h1,h4,run_newVar])
 ·exact h.elim

theorem box_ok (hI : Inv C w0 R0 a w s β σ R) (hK : ∀ a' w',Holds C w0 R0 a' w' (s.apply wr) → K a' w') {t : TypeId} {x : Operand} (hop : o.op = .box t x) {dec : List (Nat × Bool)} {orc : List (Nat × D)}
  (h : (sem C dec orc o).Ok s wr) : o.wp P a w K Q := by
 unfold sem at h
 rw [hop] at h
 obtain ⟨d,h1,h2⟩ := opd_ok hI h
 obtain ⟨h3,h4,_⟩ := cells_ok hI h1 (typed_rel h2)
 exact newBox_ok (el := t) hI hK h3 h4 (by simp [execOp,hop,Instr.box,run_newVar])

theorem allI_tc : ∀ (cs : List D) (zs : List Int) (vs : List Value),allI cs = some zs → All2 (RelTC β σ s R w) cs vs → vs = zs.map (Value.int .i64)
 | [],zs,vs,h,hr => by
  cases h
  exact all2_nil hr
 | d :: l,zs,vs,h,hr => by
  obtain ⟨v,vs',rfl,h1,h2⟩ := all2_cons hr
  simp only [allI] at h
  split at h
  ·rename_i x xs hx hxs
   cases h
   rw [allI_tc l xs vs' hxs h2]
   unfold asI at hx
   split at hx
   ·cases hx
    have : v = .int .i64 x := h1
    rw [this]; rfl
   ·cases hx
  ·cases h

theorem list_take_get {α : Type} (l : List α) (off n : Nat) (h : off + n ≤ l.length) : ((l.drop off).take n).length = n := by simp; omega

theorem loadAtD_ok {ti : TI} {cs : List D} {off : Nat} {k : D → M} (h : (loadAtD ti cs off k).Ok s wr) {vs : List Value} (hc : All2 (RelTC β σ s R w) cs vs) :
  off + ti.sz ≤ vs.length ∧ (ti.agg = false → ti.sz = 1) ∧ ∃ d,(k d).Ok s wr ∧ RelT β σ s R w d (if ti.agg = true then .agg ((vs.drop off).take ti.sz).toArray else (vs.getD off undef)) := by
 unfold loadAtD at h
 split at h
 ·rename_i zs hz
  obtain ⟨h1,h⟩ := h
  have hv := allI_tc cs zs vs hz hc
  subst hv
  split at h
  ·rename_i ha
   refine ⟨by simpa using h1,fun x => (by rw [ha] at x; cases x),_,h,?_⟩
   rw [if_pos ha]
   refine ⟨_,rfl,?_⟩
   refine All2.of_get (by simp; omega) fun i x y hx hy => ?_
   have hi : i < ti.sz := by
    have := (List.getElem?_eq_some_iff.1 hx).1
    simpa using this
   simp only [List.getElem?_map,List.getElem?_range hi,Option.map_some,Option.some.injEq] at hx
   subst hx
   simp only [List.getElem?_take,List.getElem?_drop,hi,if_true,List.getElem?_map] at hy
   have hlt : off + i < zs.length := by omega
   rw [List.getElem?_eq_getElem hlt] at hy
   simp only [Option.map_some,Option.some.injEq] at hy
   show y = _
   rw [← hy,List.getD_eq_getElem?_getD,List.getElem?_eq_getElem hlt]
   rfl
  ·rename_i ha
   split at h
   ·rename_i hs
    have hs := Nat.eq_of_beq_eq_true hs
    refine ⟨by simpa using h1,fun _ => hs,_,h,?_⟩
    rw [if_neg (by rw [ha]; simp)]
    have hlt : off < zs.length := by omega
    show _ = _
    simp [List.getD_eq_getElem?_getD,hlt]
   ·exact h.elim
 ·split at h
  ·rename_i hle
   have hle : off + ti.sz ≤ cs.length := Nat.le_of_ble_eq_true hle
   have hl := All2.length hc
   split at h
   ·rename_i ha
    refine ⟨by omega,fun x => (by rw [ha] at x; cases x),_,h,?_⟩
    rw [if_pos ha]
    exact ⟨_,rfl,(hc.drop off).take ti.sz⟩
   ·rename_i ha
    split at h
    ·rename_i d hs hd
     have hs := Nat.eq_of_beq_eq_true hs
     refine ⟨by omega,fun _ => hs,_,h,?_⟩
     rw [if_neg (by rw [ha]; simp)]
     obtain ⟨v,hv,hr⟩ := All2.get hc off d hd
     rw [List.getD_eq_getElem?_getD,hv]
     exact RelT.ofTC hr
    ·exact h.elim
  ·exact h.elim

theorem loadAt_run {t : TypeId} {ti : TI} (hT : TIok P C.tt t ti) {b o' off : Nat} (vs : List Value) (hc : ∀ j u,vs[j]? = some u → w.cell? ⟨b,o' + j,none⟩ = some u) (hle : off + ti.sz ≤ vs.length) (hsz : ti.agg = false → ti.sz = 1) :
  (Instr.loadAt t (.pointer (some ⟨b,o' + off,none⟩))).run P w = .ok (if ti.agg = true then .agg ((vs.drop off).take ti.sz).toArray else (vs.getD off undef)) w := by
 have h1 := loadVar_run (P := P) (C := C) (w := w) hT (b := b) (o := o' + off) ((vs.drop off).take ti.sz) (list_take_get vs off ti.sz hle) (fun j u hu => by
  rw [List.getElem?_take,List.getElem?_drop] at hu
  split at hu
  ·have := hc (off + j) u hu
   rw [show o' + off + j = o' + (off + j) by omega]
   exact this
  ·cases hu)
 rcases h1 with h1 | ⟨h1,h2⟩
 ·simp only [Instr.loadAt,Instr.sureAddr,pure_bind]
  rw [h1]
  split
  ·rfl
  ·rename_i ha
   have hs := hsz (by simpa using ha)
   rw [hs]
   congr 1
   cases hd : vs.drop off with
   | nil => simp [List.getD_eq_getElem?_getD]; have := congrArg List.length hd; simp at this; omega
   | cons u l =>
    have : vs[off]? = some u := by rw [← List.head?_drop,hd]; rfl
    simp [List.getD_eq_getElem?_getD,this]
 ·exact absurd (hsz h1) h2

theorem cell_of {g : Nat} {arr : Array Value} {el : TypeId} (h : w.heap[g]? = some (.cells arr el (0,0))) (j : Nat) : w.cell? ⟨g,j,none⟩ = arr[j]? := by
 simp [World.cell?,h]

theorem BoxOk.all {i : Nat} {b : Box} (h : BoxOk β σ s R w0 w i b) : ∃ arr el,w.heap[β i]? = some (.cells arr el (0,0)) ∧ All2 (RelTC β σ s R w) b.cells (arr.toList.take b.cells.length) := by
 obtain ⟨_,⟨arr,el,h2,h3,h4,h5⟩,_⟩ := h
 refine ⟨arr,el,h2,?_⟩
 cases hf : b.frozen with
 | true => exact (h3 hf).imp fun _ _ => RelTC.ofC
 | false => exact h4 hf

theorem ref_cells {cs : List D} {b o' : Nat} (h : RefAt (RelC R w) R w cs b o') : ∃ vs : List Value,All2 (RelC R w) cs vs ∧ ∀ j u,vs[j]? = some u → R b (o' + j) ∧ w.cell? ⟨b,o' + j,none⟩ = some u := by
 induction cs generalizing o' with
 | nil => exact ⟨[],trivial,fun j u hu => by simp at hu⟩
 | cons d l ih =>
  obtain ⟨u,h1,h2,h3⟩ := h 0 d rfl
  obtain ⟨vs,h4,h5⟩ := ih (o' := o' + 1) (fun j x hx => by
   obtain ⟨u,p1,p2,p3⟩ := h (j + 1) x (by simpa using hx)
   exact ⟨u,p1,by rw [show o' + 1 + j = o' + (j + 1) by omega]; exact p2,by rw [show o' + 1 + j = o' + (j + 1) by omega]; exact p3⟩)
  refine ⟨u :: vs,⟨h1,h4⟩,fun j x hx => ?_⟩
  cases j with
  | zero =>
   simp only [List.getElem?_cons_zero,Option.some.injEq] at hx
   subst hx
   exact ⟨h2,h3⟩
  | succ j =>
   simp only [List.getElem?_cons_succ] at hx
   have := h5 j x hx
   rw [show o' + (j + 1) = o' + 1 + j by omega]
   exact this

theorem load_ok (hT : TabOk P C.tt) (hI : Inv C w0 R0 a w s β σ R) (hK : ∀ a' w',Holds C w0 R0 a' w' (s.apply wr) → K a' w') {t : TypeId} {x : Operand} (hop : o.op = .load t x) {dec : List (Nat × Bool)} {orc : List (Nat × D)}
  (h : (sem C dec orc o).Ok s wr) : o.wp P a w K Q := by
 unfold sem at h
 rw [hop] at h
 simp only at h
 split at h
 ·rename_i ti ht
  obtain ⟨d,h1,h2⟩ := opd_ok hI h
  split at h1
  ·rename_i b off
   simp only [M.Ok] at h1
   split at h1
   ·rename_i bx hbx
    obtain ⟨⟨b',hb'⟩,hv⟩ := h2
    have hbx := bx_of hbx
    obtain ⟨arr,el,p1,p2⟩ := (hI.box b bx hbx).all
    obtain ⟨q1,q2,d,q3,q4⟩ := loadAtD_ok (β := β) h1 p2
    refine done_ok hI hK q3 q4 ?_
    have := loadAt_run (P := P) (C := C) (w := w) (hT t ti ht) (b := β b) (o' := 0) (off := off) (arr.toList.take bx.cells.length) (fun j u hu => by
     rw [Nat.zero_add,cell_of p1]
     rw [List.getElem?_take] at hu
     split at hu
     ·simpa using hu
     ·cases hu) q1 q2
    rw [Nat.zero_add] at this
    simp [execOp,hop,hv,this]
   ·rename_i zs hbx
    obtain ⟨⟨b',hb'⟩,hv⟩ := h2
    have hbx := rw_of hbx
    obtain ⟨arr,el,p1,p2⟩ := (hI.box b _ hbx).all
    rw [← loadAt_intC] at h1
    obtain ⟨q1,q2,d,q3,q4⟩ := loadAtD_ok (β := β) h1 p2
    refine done_ok hI hK q3 q4 ?_
    have := loadAt_run (P := P) (C := C) (w := w) (hT t ti ht) (b := β b) (o' := 0) (off := off) (arr.toList.take (intC zs).length) (fun j u hu => by
     rw [Nat.zero_add,cell_of p1]
     rw [List.getElem?_take] at hu
     split at hu
     ·simpa using hu
     ·cases hu) q1 q2
    rw [Nat.zero_add] at this
    simp [execOp,hop,hv,this]
   ·exact h1.elim
  ·rename_i cs off
   obtain ⟨b,o',hv,hr⟩ := h2
   obtain ⟨vs,p1,p2⟩ := ref_cells hr
   obtain ⟨q1,q2,d,q3,q4⟩ := loadAtD_ok (β := β) h1 (p1.imp fun _ _ => RelTC.ofC (σ := σ) (s := s))
   refine done_ok hI hK q3 q4 ?_
   have := loadAt_run (P := P) (C := C) (w := w) (hT t ti ht) (b := b) (o' := o') (off := off) vs (fun j u hu => (p2 j u hu).2) q1 q2
   simp [execOp,hop,hv,this]
  ·exact h1.elim
 ·exact h.elim
end
end Go.Di

/-
 DI,part F: soundness of stores and of built values.
-/
namespace Go.Di
open Go.RowKit

/-! ### Cells put one after the other -/
def putAll (arr : Array Value) (o : Nat) : List Value → Array Value
 | [] => arr
 | v :: r => putAll (arr.setIfInBounds o v) (o + 1) r

theorem putAll_size : ∀ (vs : List Value) (arr : Array Value) (o : Nat),(putAll arr o vs).size = arr.size
 | [],_,_ => rfl
 | v :: r,arr,o => by rw [putAll,putAll_size r]; simp

theorem putAll_get : ∀ (vs : List Value) (arr : Array Value) (o : Nat) (q : Nat),(putAll arr o vs)[q]? = if o ≤ q ∧ q < o + vs.length ∧ q < arr.size then vs[q - o]? else arr[q]?
 | [],arr,o,q => by
  simp only [putAll,List.length_nil,Nat.add_zero]
  rw [if_neg (by omega)]
 | v :: r,arr,o,q => by
  rw [putAll,putAll_get r]
  simp only [Array.size_setIfInBounds,Array.getElem?_setIfInBounds,List.length_cons]
  by_cases h1 : o + 1 ≤ q ∧ q < o + 1 + r.length ∧ q < arr.size
  ·rw [if_pos h1,if_pos (by omega)]
   have : q - o = (q - (o + 1)) + 1 := by omega
   rw [this,List.getElem?_cons_succ]
  ·rw [if_neg h1]
   by_cases h2 : o = q
   ·subst h2
    by_cases h3 : o < arr.size
    ·rw [if_pos rfl,if_pos h3,if_pos (by omega)]
     simp
    ·rw [if_pos rfl,if_neg h3,if_neg (by omega)]
     simp [h3]
   ·rw [if_neg h2,if_neg (by omega)]

theorem setCells_get (g : Nat) : ∀ (vs : List Value) (o : Nat) (w : World) (arr : Array Value) (el : TypeId) (f : Nat × Nat),w.heap[g]? = some (.cells arr el f) → (w.setCells g o vs).heap[g]? = some (.cells (putAll arr o vs) el f)
 | [],_,_,_,_,_,h => h
 | v :: r,o,w,arr,el,f,h => by
  rw [World.setCells]
  exact setCells_get g r (o + 1) _ _ el f (by simp [World.setCell,Array.getElem?_modify,h])
theorem setCells_other (g : Nat) : ∀ (vs : List Value) (o : Nat) (w : World) (k : Nat),k ≠ g → (w.setCells g o vs).heap[k]? = w.heap[k]?
 | [],_,_,_,_ => rfl
 | v :: r,o,w,k,h => by
  rw [World.setCells,setCells_other g r _ _ k h,Below.heap_setCell _ _ _ _ h]
theorem setCells_rest (g : Nat) : ∀ (vs : List Value) (o : Nat) (w : World),(w.setCells g o vs).os = w.os ∧ (w.setCells g o vs).tape = w.tape ∧ (w.setCells g o vs).output = w.output ∧ (w.setCells g o vs).heap.size = w.heap.size
 | [],_,_ => ⟨rfl,rfl,rfl,rfl⟩
 | v :: r,o,w => by
  obtain ⟨h1,h2,h3,h4⟩ := setCells_rest g r (o + 1) (w.setCell ⟨g,o,none⟩ v)
  exact ⟨h1,h2,h3,h4.trans (by simp [World.setCell])⟩

theorem replAt_length (cs : List D) (off : Nat) (new : List D) (h : off + new.length ≤ cs.length) : (replAt cs off new).length = cs.length := by
 simp [replAt]; omega
theorem replAt_get (cs : List D) (off : Nat) (new : List D) (h : off + new.length ≤ cs.length) (q : Nat) : (replAt cs off new)[q]? = if off ≤ q ∧ q < off + new.length then new[q - off]? else cs[q]? := by
 unfold replAt
 by_cases h1 : q < off
 ·rw [if_neg (by omega),List.getElem?_append_left (by simp; omega),List.getElem?_take,if_pos h1]
 ·rw [List.getElem?_append_right (by simp; omega)]
  have hl : (cs.take off).length = off := by simp; omega
  rw [hl]
  by_cases h2 : q < off + new.length
  ·rw [if_pos (by omega),List.getElem?_append_left (by omega)]
  ·rw [if_neg (by omega),List.getElem?_append_right (by omega),List.getElem?_drop]
   congr 1
   omega

theorem all2_repl {p : D → Value → Prop} {cs : List D} {arr : Array Value} {off : Nat} {new : List D} {vs : List Value} (h : All2 p cs arr.toList) (hn : All2 p new vs) (hle : off + new.length ≤ cs.length) :
  All2 p (replAt cs off new) (putAll arr off vs).toList := by
 have hl := All2.length h
 have hv := All2.length hn
 refine All2.of_get (by rw [replAt_length _ _ _ hle,hl]; simp [putAll_size]) fun i a b ha hb => ?_
 rw [replAt_get _ _ _ hle] at ha
 rw [Array.getElem?_toList,putAll_get] at hb
 simp only [Array.length_toList] at hl
 by_cases hc : off ≤ i ∧ i < off + new.length
 ·rw [if_pos hc] at ha
  rw [if_pos (by omega)] at hb
  obtain ⟨y,hy,hp⟩ := All2.get hn _ a ha
  rw [hb] at hy
  cases hy
  exact hp
 ·rw [if_neg hc] at ha
  rw [if_neg (by omega)] at hb
  obtain ⟨y,hy,hp⟩ := All2.get h _ a ha
  rw [Array.getElem?_toList,hb] at hy
  cases hy
  exact hp

theorem all2_repl_take {p : D → Value → Prop} {cs : List D} {arr : Array Value} {off : Nat} {new : List D} {vs : List Value} (h : All2 p cs (arr.toList.take cs.length)) (hn : All2 p new vs) (hle : off + new.length ≤ cs.length) :
  All2 p (replAt cs off new) ((putAll arr off vs).toList.take (replAt cs off new).length) := by
 have hl := All2.length h
 have hv := All2.length hn
 have hal : arr.toList.length = arr.size := Array.length_toList
 rw [List.length_take] at hl
 have hrl := replAt_length cs off new hle
 have hal2 : (putAll arr off vs).toList.length = arr.size := by rw [Array.length_toList,putAll_size]
 refine All2.of_get (by rw [hrl,List.length_take]; omega) fun i a b ha hb => ?_
 have hi : i < cs.length := by
  have := (List.getElem?_eq_some_iff.1 ha).1
  omega
 rw [replAt_get _ _ _ hle] at ha
 rw [List.getElem?_take,if_pos (by omega),Array.getElem?_toList,putAll_get] at hb
 by_cases hc : off ≤ i ∧ i < off + new.length
 ·rw [if_pos hc] at ha
  rw [if_pos (by omega)] at hb
  obtain ⟨y,hy,hp⟩ := All2.get hn _ a ha
  rw [hb] at hy
  cases hy
  exact hp
 ·rw [if_neg hc] at ha
  rw [if_neg (by omega)] at hb
  obtain ⟨y,hy,hp⟩ := All2.get h _ a ha
  rw [List.getElem?_take,if_pos hi,Array.getElem?_toList,hb] at hy
  cases hy
  exact hp

theorem foldl_put (off : Nat) : ∀ (l : List Value) (k : Nat) (arr : Array Value),(l.zipIdx k).foldl (fun cs (p : Value × Nat) => cs.setIfInBounds (off + p.2) p.1) arr = putAll arr (off + k) l
 | [],_,_ => rfl
 | v :: r,k,arr => by
  simp only [List.zipIdx_cons,List.foldl_cons,putAll]
  rw [foldl_put off r (k + 1)]
  rw [Nat.add_assoc]

theorem fill_put (off : Nat) (v : Value) (cells : Array Value) : v.cells.zipIdx.foldl (fun cs (c,j) => cs.setIfInBounds (off + j) c) cells = putAll cells off v.cells.toList := by
 rw [← Array.foldl_toList]
 have := foldl_put off v.cells.toList 0 cells
 simp only [Nat.add_zero] at this
 rw [← this]
 congr 1
 simp

section
variable {P : Program} {C : Cfg} {w0 w : World} {R0 R : Foot} {a : Act} {s : St} {β : Nat → Nat} {σ : Sig} {o : Oper} {wr : List (Key × Val)} {K : Act → World → Prop} {Q : Exit → Act → World → Prop}

theorem storeAt_run {t : TypeId} {ti : TI} (hT : TIok P C.tt t ti) {g off : Nat} {v : Value} {arr : Array Value} {el : TypeId} (h : w.heap[g]? = some (.cells arr el (0,0))) (hsz : v.cells.size = ti.sz) (hle : off + ti.sz ≤ arr.size)
  (h1 : ∀ u ∈ v.cells.toList,u.oneCell' = true) : (Instr.storeAt t (.pointer (some ⟨g,off,none⟩)) v).run P w = .ok () (w.setCells g off v.cells.toList) := by
 have hs := sizeOf_run (P := P) (C := C) (w := w) hT
 have hc := run_storeCells_cells (P := P) g off v.cells.toList 0 w (fun j hj => by
  simp only [Array.length_toList] at hj
  rw [cell_of h,Nat.add_zero,Array.getElem?_eq_getElem (by omega)]; rfl) (fun j hj => by simp [World.frozen?,h]) h1
 simp only [Nat.add_zero] at hc
 simp [Instr.storeAt,Instr.sureAddr,storeVar,hs,hsz,hc]

theorem store_ok (hT : TabOk P C.tt) (hI : Inv C w0 R0 a w s β σ R) (hK : ∀ a' w',Holds C w0 R0 a' w' (s.apply wr) → K a' w') {t : TypeId} {x y : Operand} (hop : o.op = .store t x y) {dec : List (Nat × Bool)} {orc : List (Nat × D)}
  (h : (sem C dec orc o).Ok s wr) : o.wp P a w K Q := by
 unfold sem at h
 rw [hop] at h
 simp only at h
 split at h
 ·rename_i ti ht
  obtain ⟨d,h1,h2⟩ := opd_ok hI h
  obtain ⟨dy,h1',h3⟩ := opd_ok hI h1
  clear h1
  have h1 := h1'
  clear h1'
  split at h1
  ·rename_i b off
   simp only [M.Ok] at h1
   split at h1
   ·rename_i bx hbx
    split at h1
    ·rename_i hf hl hle
     obtain ⟨⟨b',hb'⟩,hv⟩ := h2
     have hbx := bx_of hbx
     obtain ⟨arr,el,p1,p2⟩ := (hI.box b bx hbx).all
     obtain ⟨h4,h5,h6⟩ := cells_ok hI h1 (typed_rel h3)
     obtain ⟨wr',rfl,h7⟩ := h4
     have hl := Nat.eq_of_beq_eq_true hl
     have hle := Nat.le_of_ble_eq_true hle
     have hl5 := All2.length h5
     have hlp := All2.length p2
     simp only [List.length_take,Array.length_toList] at hl5 hlp
     obtain ⟨q1,q2,q3,q4⟩ := setCells_rest (β b) (a.eval y).cells.toList off w
     have hI' := hI.storeBox (w' := w.setCells (β b) off (a.eval y).cells.toList) hbx hf (replAt bx.cells off (cellsOf (typed C.tt t dy))) p1 (setCells_get _ _ _ _ _ _ _ p1) (fun k hk => setCells_other _ _ _ _ _ hk)
      ⟨q1,q2,q3,q4⟩ (all2_repl_take p2 h5 (by omega))
     refine wp_skipv (w' := w.setCells (β b) off (a.eval y).cells.toList) ?_ (hK _ _ ⟨β,σ,R,setTmp_ok hI' h7 (d := .undef) (v := undef) trivial⟩)
     have := storeAt_run (P := P) (C := C) (w := w) (hT t ti ht) (g := β b) (off := off) (v := a.eval y) p1 (by omega) (by omega) h6
     simp [execOp,hop,hv,this]
    ·exact h1.elim
   ·rename_i zs hbx
    split at h1
    ·rename_i v hs1
     obtain ⟨hlt,wr',rfl,h7⟩ := h1
     obtain ⟨⟨b',hb'⟩,hv⟩ := h2
     have hbx := rw_of hbx
     obtain ⟨arr,el,p1,p2⟩ := (hI.box b _ hbx).all
     have p2 : All2 (RelTC β σ s R w) (intC zs) (arr.toList.take (intC zs).length) := p2
     have hs1 := Nat.eq_of_beq_eq_true hs1
     have ev : a.eval y = .int .i64 v := h3
     have hlz : (intC zs).length = zs.length := by simp [intC]
     have hlp := All2.length p2
     have hal : arr.toList.length = arr.size := Array.length_toList
     rw [List.length_take] at hlp
     have hrep : replAt (intC zs) off [.int .i64 v] = intC (zs.set off v) := by
      refine List.ext_getElem? fun q => ?_
      rw [replAt_get _ _ _ (by simp [hlz]; omega)]
      simp only [intC,List.getElem?_map,List.getElem?_set,List.length_singleton]
      by_cases e : off = q
      ·subst e
       rw [if_pos ⟨Nat.le_refl _,by omega⟩,if_pos rfl,if_pos hlt]
       simp
      ·rw [if_neg (by omega),if_neg e]
     obtain ⟨q1,q2,q3,q4⟩ := setCells_rest (β b) (a.eval y).cells.toList off w
     have hc1 : (a.eval y).cells.toList = [.int .i64 v] := by rw [ev]; rfl
     have hI' := hI.storeBox (w' := w.setCells (β b) off (a.eval y).cells.toList) hbx rfl (intC (zs.set off v)) p1 (setCells_get _ _ _ _ _ _ _ p1) (fun k hk => setCells_other _ _ _ _ _ hk)
      ⟨q1,q2,q3,q4⟩ (by
       rw [← hrep,hc1]
       exact all2_repl_take p2 (show All2 _ [D.int .i64 v] [Value.int .i64 v] from ⟨rfl,trivial⟩) (by simp [hlz]; omega))
     refine wp_skipv (w' := w.setCells (β b) off (a.eval y).cells.toList) ?_ (hK _ _ ⟨β,σ,R,setTmp_ok hI'.rw_box h7 (d := .undef) (v := undef) trivial⟩)
     have := storeAt_run (P := P) (C := C) (w := w) (hT t ti ht) (g := β b) (off := off) (v := a.eval y) p1 (by rw [ev,hs1]; rfl) (by omega) (by rw [hc1]; intro u hu; simp at hu; subst hu; rfl)
     simp [execOp,hop,hv,this]
    ·exact h1.elim
   ·exact h1.elim
  ·exact h1.elim
 ·exact h.elim

/-! ### Built values -/
theorem mapM_run {α γ : Type} (f : α → Sem γ) (g : α → γ) : ∀ (l : List α),(∀ x ∈ l,(f x).run P w = .ok (g x) w) → (l.mapM f).run P w = .ok (l.map g) w
 | [],_ => rfl
 | x :: l,h => by
  rw [List.mapM_cons]
  simp only [Sem.run_bind,h x (by simp),Result.andThen_ok,mapM_run f g l (fun y hy => h y (by simp [hy])),Sem.run_pure,List.map_cons]
theorem mapM_run_array {α γ : Type} (f : α → Sem γ) (g : α → γ) (l : Array α) (h : ∀ x ∈ l.toList,(f x).run P w = .ok (g x) w) : (l.mapM f).run P w = .ok (l.map g) w := by
 rw [Array.mapM_eq_mapM_toList]
 simp only [Sem.run_map,Sem.run_bind,mapM_run f g l.toList h,Result.andThen_ok,map_eq_pure_bind,Sem.run_pure]
 congr 1
 apply Array.ext'
 simp

/-- What the parts of a built value are. -/
def PartOk (β : Nat → Nat) (σ : Sig) (s : St) (R : Foot) (w : World) (p : Nat × D) (q : Nat × Value) : Prop := p.1 = q.1 ∧ ∀ tt t,All2 (RelTC β σ s R w) (cellsOf (typed tt t p.2)) q.2.cells.toList

theorem fillS_ok {tt : TypeId → Option TI} {fs : List (Nat × TypeId)} {place : Nat → Option (Nat × Nat)} (hp : ∀ i off ft ti,fs[i]? = some (off,ft) → tt ft = some ti → place i = some (off,ti.sz)) :
  ∀ (l : List (Nat × D)) (pv : List (Nat × Value)) (cs cs' : List D) (arr : Array Value),All2 (PartOk β σ s R w) l pv → All2 (RelTC β σ s R w) cs arr.toList → fillS tt fs cs l = some cs' → ∃ arr',Instr.fill place arr pv = some arr' ∧ All2 (RelTC β σ s R w) cs' arr'.toList
 | [],[],cs,cs',arr,_,h,hf => by
  cases hf
  exact ⟨arr,rfl,h⟩
 | [],_ :: _,_,_,_,h,_,_ => h.elim
 | _ :: _,[],_,_,_,h,_,_ => h.elim
 | (i,d) :: l,(j,v) :: pv,cs,cs',arr,⟨⟨hij,hd⟩,hr⟩,h,hf => by
  dsimp only at hij hd
  subst hij
  simp only [fillS] at hf
  split at hf
  ·rename_i off ft hfs
   split at hf
   ·rename_i ti hti
    split at hf
    ·rename_i h1 h2
     have h1 := Nat.eq_of_beq_eq_true h1
     have h2 := Nat.le_of_ble_eq_true h2
     have hdd := hd tt ft
     have hl1 := All2.length hdd
     have hl2 := All2.length h
     simp only [Array.length_toList] at hl1 hl2
     obtain ⟨arr',p1,p2⟩ := fillS_ok hp l pv _ cs' (putAll arr off v.cells.toList) hr (all2_repl h hdd h2) hf
     refine ⟨arr',?_,p2⟩
     rw [Instr.fill,hp i off ft ti hfs hti]
     simp only
     rw [if_neg (by simp; omega),fill_put]
     exact p1
    ·cases hf
   ·cases hf
  ·cases hf

theorem fillA_ok {tt : TypeId → Option TI} {el : TypeId} {sz : Nat} {place : Nat → Option (Nat × Nat)} (hp : ∀ i,place i = some (i * sz,sz)) :
  ∀ (l : List (Nat × D)) (pv : List (Nat × Value)) (cs cs' : List D) (arr : Array Value),All2 (PartOk β σ s R w) l pv → All2 (RelTC β σ s R w) cs arr.toList → fillA el tt sz cs l = some cs' → ∃ arr',Instr.fill place arr pv = some arr' ∧ All2 (RelTC β σ s R w) cs' arr'.toList
 | [],[],cs,cs',arr,_,h,hf => by
  cases hf
  exact ⟨arr,rfl,h⟩
 | [],_ :: _,_,_,_,h,_,_ => h.elim
 | _ :: _,[],_,_,_,h,_,_ => h.elim
 | (i,d) :: l,(j,v) :: pv,cs,cs',arr,⟨⟨hij,hd⟩,hr⟩,h,hf => by
  dsimp only at hij hd
  subst hij
  simp only [fillA] at hf
  split at hf
  ·rename_i h1 h2
   have h1 := Nat.eq_of_beq_eq_true h1
   have h2 := Nat.le_of_ble_eq_true h2
   have hdd := hd tt el
   have hl1 := All2.length hdd
   have hl2 := All2.length h
   simp only [Array.length_toList] at hl1 hl2
   obtain ⟨arr',p1,p2⟩ := fillA_ok hp l pv _ cs' (putAll arr (i * sz) v.cells.toList) hr (all2_repl h hdd h2) hf
   refine ⟨arr',?_,p2⟩
   rw [Instr.fill,hp i]
   simp only
   rw [if_neg (by simp; omega),fill_put]
   exact p1
  ·cases hf

theorem parts_ok (hI : Inv C w0 R0 a w s β σ R) {m : M} : ∀ {ds : List D} {vs : List Value},(chk (ds.flatMap cellsOf) m).Ok s wr → All2 (RelT β σ s R w) ds vs → m.Ok s wr ∧ ∀ (is : List Nat),is.length = ds.length → All2 (PartOk β σ s R w) (is.zip ds) (is.zip vs)
 | [],[],h,_ => ⟨h,fun is _ => by cases is <;> simp [All2]⟩
 | [],_ :: _,_,h => h.elim
 | _ :: _,[],_,h => h.elim
 | d :: ds,v :: vs,h,⟨h1,h2⟩ => by
  have happ : ∀ (cs cs' : List D) (m : M),(chk (cs ++ cs') m).Ok s wr → (chk cs (chk cs' m)).Ok s wr := by
   intro cs
   induction cs with
   | nil => exact fun cs' m h => h
   | cons c cs ih =>
    intro cs' m h
    simp only [List.cons_append,chk] at h ⊢
    cases c with
    | own i n =>
     simp only [M.Ok] at h ⊢
     split at h
     ·exact ⟨h.1,ih _ _ h.2⟩
     ·exact h.elim
    | _ => first | exact ih _ _ h | exact h.elim
  rw [List.flatMap_cons] at h
  obtain ⟨p1,p2,p3⟩ := cells_ok hI (happ _ _ _ h) h1
  obtain ⟨q1,q2⟩ := parts_ok hI p1 h2
  refine ⟨q1,fun is his => ?_⟩
  match is,his with
  | i :: is,his =>
   refine ⟨⟨rfl,fun tt t => ?_⟩,q2 is (by simpa using his)⟩
   dsimp only
   cases d with
   | nil =>
    have hv : v = .slice none 0 0 := h1
    have : cellsOf (typed tt t .nil) = [typed tt t .nil] := by
     unfold typed
     cases elt tt t with
     | none => rfl
     | some p => rfl
    rw [this,hv]
    exact ⟨typed_tc (d := .nil) rfl,trivial⟩
   | _ => exact p2

theorem zip_map {α γ δ : Type} (f : α → γ) (g : α → δ) : ∀ (l : List α),(l.map f).zip (l.map g) = l.map fun x => (f x,g x)
 | [] => rfl
 | x :: l => by simp [zip_map f g l]

theorem build_ok (hT : TabOk P C.tt) (hI : Inv C w0 R0 a w s β σ R) (hK : ∀ a' w',Holds C w0 R0 a' w' (s.apply wr) → K a' w') {t : TypeId} {parts : Array (Nat × Operand)} (hop : o.op = .build t parts) {dec : List (Nat × Bool)} {orc : List (Nat × D)}
  (h : (sem C dec orc o).Ok s wr) : o.wp P a w K Q := by
 unfold sem at h
 rw [hop] at h
 obtain ⟨ds,h1,h2⟩ := opds_ok hI h
 clear h
 obtain ⟨h3,h4⟩ := parts_ok hI h1 h2
 have hlen := All2.length h2
 have hparts := h4 (parts.toList.map (·.1)) (by simp at hlen ⊢; omega)
 have hpv : (parts.toList.map (·.1)).zip (List.map a.eval (parts.toList.map (·.2))) = (parts.map fun (i,x) => (i,a.eval x)).toList := by
  rw [Array.toList_map]
  rw [List.map_map]
  exact zip_map _ _ _
 rw [hpv] at hparts
 split at h3
 ·rename_i ti ht
  have hti := hT t ti ht
  obtain ⟨i,z,j1,j2,j3,j4,_,j5⟩ := hti.info
  have hz : (zeroValue t).run P w = .ok z w := by simp [zeroValue,typeInfo,j1,j4]
  have hzc : All2 (RelTC β σ s R w) ti.zero z.cells.toList := (j5 R w).imp fun _ _ => RelTC.of0
  split at h3
  ·rename_i fs hk
   have hu := hti.und
   rw [hk] at hu
   obtain ⟨fields,u1,u2,u3,u4,u5⟩ := hu
   split at h3
   ·rename_i cs hcs
    have hm := mapM_run_array (P := P) (w := w) (fun (f : Field) => do pure (f.offset,← sizeOf f.type)) (fun f => (f.offset,((C.tt f.type).map (·.sz)).getD 0)) fields (fun f hf => by
     obtain ⟨n,hn⟩ := List.getElem?_of_mem hf
     obtain ⟨tf,htf⟩ := (u2 n f (by simpa using hn)).2
     simp [sizeOf_run (P := P) (C := C) (w := w) (hT _ _ htf),htf])
    obtain ⟨arr',f1,f2⟩ := fillS_ok (σ := σ) (s := s) (R := R) (w := w) (tt := C.tt) (fs := fs) (place := ((fields.map fun f => (f.offset,((C.tt f.type).map (·.sz)).getD 0))[·]?)) (fun i off ft tf hi htf => by
     have hi' : i < fields.size := by rw [u3]; exact (List.getElem?_eq_some_iff.1 hi).1
     have := (u2 i fields[i] (Array.getElem?_eq_getElem hi')).1
     rw [hi] at this
     cases this
     simp [hi',htf]) _ _ _ _ _ hparts hzc hcs
    refine done_ok hI hK h3 (v := .agg arr') ⟨_,rfl,f2⟩ ?_
    have f1' := f1
    rw [Array.toList_map] at f1'
    change Instr.fill _ z.cells (List.map (fun x => (x.fst,a.eval x.snd)) parts.toList) = some arr' at f1'
    generalize Array.map (fun (f : Field) => (f.offset,((C.tt f.type).map (·.sz)).getD 0)) fields = pl at hm f1'
    simp only [bind_pure_comp] at hm
    simp [execOp,hop,Instr.build,hz,run_underlying u1,hm,f1']
   ·exact h3.elim
  ·rename_i n el hk
   have hu := hti.und
   rw [hk] at hu
   obtain ⟨u1,te,u2⟩ := hu
   rw [u2] at h3
   simp only at h3
   split at h3
   ·rename_i cs hcs
    obtain ⟨arr',f1,f2⟩ := fillA_ok (σ := σ) (s := s) (R := R) (w := w) (tt := C.tt) (el := el) (sz := te.sz) (place := fun i => some (i * te.sz,te.sz)) (fun i => rfl) _ _ _ _ _ hparts hzc hcs
    refine done_ok hI hK h3 (v := .agg arr') ⟨_,rfl,f2⟩ ?_
    have f1' := f1
    rw [Array.toList_map] at f1'
    change Instr.fill _ z.cells (List.map (fun x => (x.fst,a.eval x.snd)) parts.toList) = some arr' at f1'
    simp [execOp,hop,Instr.build,hz,run_underlying u1,sizeOf_run (P := P) (C := C) (w := w) (hT _ _ u2),f1']
   ·exact h3.elim
  ·exact h3.elim
 ·exact h3.elim
end
end Go.Di

