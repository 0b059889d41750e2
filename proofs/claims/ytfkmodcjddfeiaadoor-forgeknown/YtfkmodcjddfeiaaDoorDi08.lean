/- Part 8: an interpreter over plain data for this code, with the proof that it says what the model does, and the contracts of the functions. No condition. -/
import Derived.Test.YtfkmodcjddfeiaaDoorDi07
import Derived.Laws.StructEq
import Derived.KernelRfl
import Derived.Test.YtfkmodcjddfeiaaDoorProg
import Derived.Test.YtfkmodcjddfeiaaDoorChecked
set_option linter.unusedVariables false
set_option linter.unusedSimpArgs false
/-
 DI,part N: what a function answers,as its contract.
-/
namespace Go.Di
open Go.RowKit

section
variable {P : Program} {C : Cfg} {w0 w : World} {R0 R : Foot} {a : Act} {s : St} {β : Nat → Nat} {σ : Sig} {Q : Exit → Act → World → Prop} {wr : List (Key × Val)}

theorem told_rel : ∀ {d : D} {v : Value},told d = true → Rel R w d v → RelA R w d v
 | .int _ _,_,_,h => h | .bool _,_,_,h => h | .nil,_,_,h => h | .nilmap,_,_,h => h | .nilfn,_,_,h => h | .sl _ _ _,_,_,h => h | .map _,_,_,h => h
 | .undef,_,_,h => h | .fn _ _ _,_,_,h => h | .own _ _,_,_,h => h | .ptr _ _,_,_,h => h | .agg _,_,_,h => h | .mref _,_,_,h => h | .row _ _,_,_,h => h | .self _ _ _,_,_,h => h
 | .ref _ _,_,h,_ => by cases h
 | .tup _,_,h,_ => by cases h

/-- What the result variables hold. -/
def resVal (P : Program) (a : Act) (w : World) : ResultVar → Value → Prop
 | .tmp t,v => v = a.tmps.getD t undef
 | .cell c t,v => ∃ ad,a.tmps.getD c undef = .pointer (some ad) ∧ (loadVar t ad).run P w = .ok v w

theorem resVars_ok (hT : TabOk P C.tt) (hI : Inv C w0 R0 a w s β σ R) : ∀ {rs : List ResultVar} {k : List D → M},(resVars C rs k).Ok s wr → ∃ ds vs,(k ds).Ok s wr ∧ All2 (RelA R w) ds vs ∧ All2 (resVal P a w) rs vs
 | [],k,h => ⟨[],[],h,trivial,trivial⟩
 | .tmp t :: l,k,h => by
  simp only [resVars,M.Ok] at h
  split at h
  ·rename_i d hd
   have hv := hI.tmps t
   simp only [St.tmp,hd] at hv
   obtain ⟨d',h1,h2⟩ := resArg_ok hI h hv
   split at h1
   ·rename_i ht
    obtain ⟨ds,vs,h3,h4,h5⟩ := resVars_ok hT hI h1
    exact ⟨d' :: ds,_ :: vs,h3,⟨told_rel ht h2,h4⟩,rfl,h5⟩
   ·exact h1.elim
  ·exact h.elim
 | .cell c t :: l,k,h => by
  simp only [resVars,M.Ok] at h
  split at h
  ·rename_i ti hti
   simp only [M.Ok] at h
   split at h
   ·rename_i b off hd
    simp only [M.Ok] at h
    split at h
    ·rename_i bx hbx
     have hv := hI.tmps c
     simp only [St.tmp,hd] at hv
     obtain ⟨⟨b',hb'⟩,hv⟩ := hv
     have hbx := bx_of hbx
     obtain ⟨arr,el,p1,p2⟩ := (hI.box b bx hbx).all
     obtain ⟨q1,q2,d,q3,q4⟩ := loadAtD_ok (β := β) h p2
     obtain ⟨d',h1,h2⟩ := resArg_ok hI q3 q4
     split at h1
     ·rename_i ht
      obtain ⟨ds,vs,h3,h4,h5⟩ := resVars_ok hT hI h1
      refine ⟨d' :: ds,_ :: vs,h3,⟨told_rel ht h2,h4⟩,⟨_,hv,?_⟩,h5⟩
      have := loadAt_run (P := P) (C := C) (w := w) (hT t ti hti) (b := β b) (o' := 0) (off := off) (arr.toList.take bx.cells.length) (fun j u hu => by
       rw [Nat.zero_add,cell_of p1]
       rw [List.getElem?_take] at hu
       split at hu
       ·simpa using hu
       ·cases hu) q1 q2
      rw [Nat.zero_add] at this
      simpa [Instr.loadAt,Instr.sureAddr] using this
     ·exact h1.elim
    ·exact h.elim
   ·exact h.elim
  ·exact h.elim

theorem mapM_rel {α : Type} (f : α → Sem Value) : ∀ (l : List α) (vs : List Value),All2 (fun x v => (f x).run P w = .ok v w) l vs → (l.mapM f).run P w = .ok vs w
 | [],[],_ => rfl
 | x :: l,v :: vs,⟨h1,h2⟩ => by
  rw [List.mapM_cons]
  simp only [Sem.run_bind,h1,Result.andThen_ok,mapM_rel f l vs h2,Sem.run_pure]
 | [],_ :: _,h => h.elim
 | _ :: _,[],h => h.elim

theorem results_run {fn : Func} {rs : List ResultVar} (hrs : fn.results.toList = rs) {vs : List Value} (h : All2 (resVal P a w) rs vs) : (results fn a.tmps).run P w = .ok (if h : vs.length = 1 then vs[0] else .tuple vs.toArray) w := by
 unfold results
 rw [Array.mapM_eq_mapM_toList,hrs]
 simp only [Sem.run_bind,Sem.run_map,map_eq_pure_bind]
 rw [mapM_rel _ rs vs (h.imp fun r v hr => by
  cases r with
  | tmp t =>
   simp only [resVal] at hr
   subst hr
   rfl
  | cell c t =>
   obtain ⟨ad,e1,e2⟩ := hr
   simp only [e1,asAddr,pure_bind]
   exact e2)]
 simp only [Result.andThen_ok,Sem.run_pure,List.size_toArray,List.getElem_toArray]

theorem fin_ok (hT : TabOk P C.tt) {rs : List ResultVar} {ps : List Prop} {r : D} (h : fin C rs s = some (ps,r)) (hp : ∀ p ∈ ps,p) (hI : Inv C w0 R0 a w s β σ R) {fn : Func} (hrs : fn.results.toList = rs) :
  ∃ v,(results fn a.tmps).run P w = .ok v w ∧ Rel R w r v := by
 unfold fin at h
 split at h
 ·rename_i ps' rd k r' he
  cases h
  have hok := M.exec_ok _ _ _ he hp
  obtain ⟨ds,vs,h1,h2,h3⟩ := resVars_ok hT hI hok
  obtain ⟨wr',e1,e2⟩ := h1
  simp only [List.cons.injEq,Prod.mk.injEq] at e1
  have er : r = one ds := by
   have := e1.1.2
   cases this
   rfl
  refine ⟨_,results_run hrs h3,?_⟩
  subst er
  have hl := All2.length h2
  match ds,vs,hl,h2 with
  | [d],[v],_,h2 =>
   simp only [List.length_singleton,dite_true,List.getElem_cons_zero,one]
   have := h2.1
   cases d <;> first | exact this | exact this.elim
  | [],[],_,_ => exact ⟨#[],rfl,trivial⟩
  | d :: d' :: ds,v :: v' :: vs,_,h2 =>
   rw [dif_neg (by simp)]
   exact ⟨_,rfl,h2⟩
  | [],_ :: _,hl,_ => simp at hl
  | [_],[],hl,_ => simp at hl
  | [_],_ :: _ :: _,hl,_ => simp at hl
  | _ :: _ :: _,[],hl,_ => simp at hl
  | _ :: _ :: _,[_],hl,_ => simp at hl
 ·cases h

theorem entry_get : ∀ (l : List D) (i k : Nat),(ofL (entry i l)) (.tmp k) = .d (if i ≤ k ∧ k < i + l.length then l.getD (k - i) .undef else .undef)
 | [],i,k => by
  simp only [entry,ofL,dflt,List.length_nil,Nat.add_zero]
  rw [if_neg (by omega)]
 | d :: l,i,k => by
  simp only [entry,ofL]
  rw [set_tmp_tmp]
  by_cases h : i = k
  ·subst h
   rw [if_pos rfl,if_pos ⟨Nat.le_refl _,by simp⟩]
   simp
  ·rw [if_neg h,entry_get l (i + 1) k]
   congr 1
   by_cases h2 : i + 1 ≤ k ∧ k < i + 1 + l.length
   ·rw [if_pos h2,if_pos ⟨by omega,by simp; omega⟩]
    have : k - i = (k - (i + 1)) + 1 := by omega
    rw [this]
    simp
   ·rw [if_neg h2,if_neg (by simp; omega)]
theorem entry_bx (l : List D) (i k : Nat) : (ofL (entry i l)) (.box k) = .bx none := by
 induction l generalizing i with
 | nil => rfl
 | cons d l ih => simp only [entry,ofL]; exact ih (i + 1)
theorem entry_mp (l : List D) (i k : Nat) : (ofL (entry i l)).mp k = none := by
 induction l generalizing i with
 | nil => rfl
 | cons d l ih => simp only [entry,ofL,mp_set_tmp]; exact ih (i + 1)
theorem entry_ob (l : List D) (i k : Nat) : (ofL (entry i l)) (.obj k) = .ob none := by
 induction l generalizing i with
 | nil => rfl
 | cons d l ih => simp only [entry,ofL]; exact ih (i + 1)

theorem entry_inv (hke : ∀ b,¬ C.ke b) (hno : ∀ b,¬ C.no b) (hfx : C.fixed = []) (hw1 : C.w1.heap.size = 0) {args : List D} {vs : List Value} (hs : ∀ b o,R b o → b < w.heap.size) (hg : ∀ g cs,C.glob g = some cs → Rel R w (.ref cs 0) (.pointer (some ⟨g,0,none⟩))) (ha : All2 (Rel R w) args vs) :
  Inv C w R { tmps := vs.toArray ++ Array.replicate (C.nt - vs.toArray.size) undef,defers := C.dfs } w (ofL (entry 0 args)) (fun _ => 0) (fun _ => (none,0)) R := by
 refine ⟨Below.refl _ _,rfl,fun i hi => (by rw [hfx] at hi; cases hi),by simp; omega,fun _ _ h => h,fun b o h => ⟨hs b o h,.inl h⟩,hg,fun i => ?_,fun i b hb => ?_,fun i j bi bj hi hj => ?_,fun k o ho => ?_,⟨by omega,fun b hb => absurd hb (hke b),fun b hb => absurd hb (hno b)⟩,.none (entry_mp args 0)⟩
 ·have : (ofL (entry 0 args)).tmp i = args.getD i .undef := by
   unfold St.tmp
   rw [entry_get]
   simp only [Nat.zero_le,true_and,Nat.zero_add,Nat.sub_zero]
   by_cases h : i < args.length
   ·rw [if_pos h]
   ·rw [if_neg h,List.getD_eq_getElem?_getD,List.getElem?_eq_none (by omega)]
    rfl
  rw [this]
  have hl := All2.length ha
  by_cases h : i < args.length
  ·obtain ⟨v,hv,hr⟩ := All2.get ha i args[i] (List.getElem?_eq_getElem h)
   have e1 : args.getD i .undef = args[i] := by rw [List.getD_eq_getElem?_getD,List.getElem?_eq_getElem h]; rfl
   have e2 : (vs.toArray ++ Array.replicate (C.nt - vs.toArray.size) undef).getD i undef = v := by
    rw [Array.getD_eq_getD_getElem?,Array.getElem?_append_left (by simp; omega),List.getElem?_toArray,hv]
    rfl
   rw [e1,e2]
   exact RelT.ofRel hr
  ·have e1 : args.getD i .undef = .undef := by rw [List.getD_eq_getElem?_getD,List.getElem?_eq_none (by omega)]; rfl
   rw [e1]
   exact trivial
 ·unfold St.bx at hb
  rw [entry_bx] at hb
  cases hb
 ·unfold St.bx at hi
  rw [entry_bx] at hi
  cases hi
 ·unfold St.ob at ho
  rw [entry_ob] at ho
  cases ho

/-- What is asked of a function's form. -/
structure FnOk (P : Program) (C : Cfg) (f : FuncId) (c : Code) (rs : List ResultVar) : Prop where
 ok : ∃ fn,P.funcs[f]? = some fn ∧ (fn.name == "runtime.NumGoroutine") = false ∧ fn.body = some c ∧ fn.ntmps = C.nt ∧ fn.results.toList = rs

theorem contract_of_wp (hT : TabOk P C.tt) (hd : C.dfs = []) (hke : ∀ b,¬ C.ke b) (hno : ∀ b,¬ C.no b) (hfx : C.fixed = []) (hw1 : C.w1.heap.size = 0) {f : FuncId} {c : Code} {rs : List ResultVar} (hf : FnOk P C f c rs) {args : List D} {r : D}
  (h : WpL P C c (entry 0 args) fun e L' => (∀ id,e ≠ .exit id) ∧ ∃ ps,fin C rs (ofL L') = some (ps,r) ∧ ∀ p ∈ ps,p) : Contract P C.glob f args r := by
 obtain ⟨fn,h1,h2,h3,h4,h5⟩ := hf.ok
 refine ⟨⟨fn,h1,h2,by rw [h3]; rfl⟩,fun w R vs hs hg ha => ?_⟩
 refine calls_of_wp h1 h3 ?_
 have hI := entry_inv (C := C) hke hno hfx hw1 hs hg ha
 rw [hd] at hI
 rw [h4]
 refine h.wp ⟨_,_,_,hI⟩ fun e L' a' w' hpost hH' => ?_
 obtain ⟨hne,ps,hfin,hps⟩ := hpost
 obtain ⟨β,σ,R',hI'⟩ := hH'
 obtain ⟨v,hv,hr⟩ := fin_ok hT hfin hps hI' h5
 have hend : a'.defers = [] ∧ ∃ v,(results fn a'.tmps).run P w' = .ok v w' ∧ (∃ v',Ending.returned v = .returned v' ∧ Below w.heap.size w w' ∧ ∃ R' : Foot,(∀ b o,R b o → R' b o) ∧ (∀ b o,R' b o → b < w'.heap.size ∧ (R b o ∨ w.heap.size ≤ b)) ∧ Rel R' w' r v') :=
  ⟨hI'.defers.trans hd,v,hv,v,rfl,hI'.below,R',hI'.sub,hI'.dom,hr⟩
 cases e with
 | normal => exact hend
 | ret => exact hend
 | exit id => exact absurd rfl (hne id)

theorem contract_of_call (hG : Good P C) (hd : C.dfs = []) (hke : ∀ b,¬ C.ke b) (hno : ∀ b,¬ C.no b) (hfx : C.fixed = []) (hw1 : C.w1.heap.size = 0) {f : FuncId} {c : Code} {rs : List ResultVar} (hf : FnOk P C f c rs) {dec : List (Nat × Bool)} {orc : List (Nat × D)} {lorc : Lorc} {args : List D} {ps : List Prop} {r : D}
  (h : callF C dec orc lorc c rs args = some (ps,r)) (hp : ∀ p ∈ ps,p) : Contract P C.glob f args r := by
 unfold callF at h
 obtain ⟨fn,h1,h2,h3,h4,h5⟩ := hf.ok
 refine ⟨⟨fn,h1,h2,by rw [h3]; rfl⟩,fun w R vs hs hg ha => ?_⟩
 refine calls_of_wp h1 h3 ?_
 have hI := entry_inv (C := C) hke hno hfx hw1 hs hg ha
 rw [hd] at hI
 rw [h4]
 split at h
 ·cases h
 ·rename_i ps1 e s1 hne hrun
  split at h
  ·rename_i qs r' hfin
   cases h
   refine (wpIn_wide (n := 0)).1 (run_ok hG (ro := none) (fun _ => rfl) c _ ps1 e s1 _ w _ hrun (fun p hpp => hp p (by simp [hpp])) ⟨_,_,_,hI⟩ fun a' w' hH' => ?_)
   obtain ⟨β,σ,R',hI'⟩ := hH'
   obtain ⟨v,hv,hr⟩ := fin_ok hG.tab hfin (fun p hpp => hp p (by simp [hpp])) hI' h5
   have hend : a'.defers = [] ∧ ∃ v,(results fn a'.tmps).run P w' = .ok v w' ∧ (∃ v',Ending.returned v = .returned v' ∧ Below w.heap.size w w' ∧ ∃ R' : Foot,(∀ b o,R b o → R' b o) ∧ (∀ b o,R' b o → b < w'.heap.size ∧ (R b o ∨ w.heap.size ≤ b)) ∧ Rel R' w' r v') :=
    ⟨hI'.defers.trans hd,v,hv,v,rfl,hI'.below,R',hI'.sub,hI'.dom,hr⟩
   cases e with
   | normal => exact hend
   | ret => exact hend
   | exit id => exact (hne _ rfl).elim
  ·cases h
 ·cases h
theorem liveCells_ok (hI : Inv C w0 R0 a w s β σ R) {b : Nat} : ∀ {cs : List D} {k : List D → M} {us : List Value},(liveCells b cs k).Ok s wr → All2 (RelTC β σ s R w) cs us → ∃ cs',(k cs').Ok s wr ∧ All2 (RelL (β b) R w) cs' us
 | [],k,[],h,_ => ⟨[],h,trivial⟩
 | d :: cs,k,u :: us,h,⟨h1,h2⟩ => by
  by_cases hd : ∃ i n,d = .row i n
  ·obtain ⟨i,n,rfl⟩ := hd
   simp only [liveCells] at h
   split at h
   ·rename_i he
    have he := Nat.eq_of_beq_eq_true he
    subst he
    obtain ⟨cs',h3,h4⟩ := liveCells_ok hI h h2
    obtain ⟨_,h5⟩ := h1
    exact ⟨.row 0 n :: cs',h3,h5,h4⟩
   ·exact h.elim
  ·have h' : (resCell d fun d' => liveCells b cs fun l' => k (d' :: l')).Ok s wr := by
    cases d <;> first | exact h | exact absurd ⟨_,_,rfl⟩ hd
   obtain ⟨d',h3,h4⟩ := resCell_ok hI h' h1
   obtain ⟨cs',h5,h6⟩ := liveCells_ok hI h3 h2
   refine ⟨d' :: cs',h5,?_,h6⟩
   cases d' <;> first | exact h4 | exact h4.elim
 | [],_,_ :: _,_,h => h.elim
 | _ :: _,_,[],_,h => h.elim

theorem finL_ok (hT : TabOk P C.tt) (hI : Inv C w0 R0 a w s β σ R) {c t b : Nat} (h : (finL C c t b).Ok s wr) : ∃ cs cells us arr el,wr = [(.tmp 0,.d (.tup [.agg cs,.agg cells]))] ∧ resVal P a w (.cell c t) (.agg us) ∧ w0.heap.size ≤ β b ∧ (∀ o,¬ R (β b) o) ∧ w.heap[β b]? = some (.cells arr el (0,0)) ∧ All2 (RelC R w) cells (arr.toList.take cells.length) ∧ All2 (RelL (β b) R w) cs us.toList := by
 unfold finL at h
 split at h
 ·rename_i ti hti
  simp only [M.Ok] at h
  split at h
  ·rename_i p off hd
   simp only [M.Ok] at h
   split at h
   ·rename_i bx hbx
    have hv := hI.tmps c
    simp only [St.tmp,hd] at hv
    obtain ⟨⟨b',hb'⟩,hv⟩ := hv
    have hbx := bx_of hbx
    obtain ⟨arr,el,p1,p2⟩ := (hI.box p bx hbx).all
    obtain ⟨q1,q2,d,q3,q4⟩ := loadAtD_ok (β := β) h p2
    have hload := loadAt_run (P := P) (C := C) (w := w) (hT t ti hti) (b := β p) (o' := 0) (off := off) (arr.toList.take bx.cells.length) (fun j u hu => by
     rw [Nat.zero_add,cell_of p1]
     rw [List.getElem?_take] at hu
     split at hu
     ·simpa using hu
     ·cases hu) q1 q2
    rw [Nat.zero_add] at hload
    split at q3
    ·rename_i cs
     obtain ⟨us,hus,hcs⟩ := q4
     obtain ⟨cs',h3,h4⟩ := liveCells_ok hI q3 hcs
     simp only [M.Ok] at h3
     split at h3
     ·rename_i bb hbb
      split at h3
      ·rename_i hf
       have hB := hI.box b bb (bx_of hbb)
       obtain ⟨arr',el',r1,_,r2,_⟩ := hB.cells
       obtain ⟨cells',h5,h6⟩ := resCells_ok hI h3 (r2 hf)
       obtain ⟨wr',rfl,rfl⟩ := h5
       have hl : cells'.length = bb.cells.length := by
        have := All2.length h6
        have := All2.length (r2 hf)
        omega
       refine ⟨cs',cells',us,arr',el',rfl,⟨_,hv,?_⟩,hB.new,hB.free hf,r1,by rw [hl]; exact h6,h4⟩
       rw [← hus]
       simpa [Instr.loadAt,Instr.sureAddr] using hload
      ·exact h3.elim
     ·exact h3.elim
    ·exact q3.elim
   ·exact h.elim
  ·exact h.elim
 ·exact h.elim

theorem contractL_of_call (hG : Good P C) (hd : C.dfs = []) (hke : ∀ b,¬ C.ke b) (hno : ∀ b,¬ C.no b) (hfx : C.fixed = []) (hw1 : C.w1.heap.size = 0) {f : FuncId} {code : Code} {c t b : Nat} (hf : FnOk P C f code [.cell c t]) {dec : List (Nat × Bool)} {orc : List (Nat × D)} {lorc : Lorc} {args cs cells : List D} {ps : List Prop}
  (h : callL C dec orc lorc code c t b args = some (ps,cs,cells)) (hp : ∀ p ∈ ps,p) : ContractL P C.glob f args cs cells := by
 unfold callL at h
 obtain ⟨fn,h1,h2,h3,h4,h5⟩ := hf.ok
 refine ⟨⟨fn,h1,h2,by rw [h3]; rfl⟩,fun w R vs hs hg ha => ?_⟩
 refine calls_of_wp h1 h3 ?_
 have hI := entry_inv (C := C) hke hno hfx hw1 hs hg ha
 rw [hd] at hI
 rw [h4]
 split at h
 ·cases h
 ·rename_i ps1 e s1 hne hrun
  split at h
  ·rename_i qs rd k cs2 cells2 hex
   cases h
   refine (wpIn_wide (n := 0)).1 (run_ok hG (ro := none) (fun _ => rfl) code _ ps1 e s1 _ w _ hrun (fun p hpp => hp p (by simp [hpp])) ⟨_,_,_,hI⟩ fun a' w' hH' => ?_)
   obtain ⟨β,σ,R',hI'⟩ := hH'
   have hok := M.exec_ok _ _ _ hex (fun p hpp => hp p (by simp [hpp]))
   obtain ⟨cs3,cells3,us,arr,el,e1,e2,e3,e4,e5,e6,e7⟩ := finL_ok (P := P) hG.tab hI' hok
   simp only [List.cons.injEq,Prod.mk.injEq,Val.d.injEq,D.tup.injEq,D.agg.injEq] at e1
   obtain ⟨⟨_,e8,e9,_⟩,_⟩ := e1
   rw [← e8] at e7
   rw [← e9] at e6
   have hend : a'.defers = [] ∧ ∃ v,(results fn a'.tmps).run P w' = .ok v w' ∧ (∃ v',Ending.returned v = .returned v' ∧ Below w.heap.size w w' ∧ ∃ (R'' : Foot) (g : Nat),(∀ b o,R b o → R'' b o) ∧ (∀ b o,R'' b o → b < w'.heap.size ∧ (R b o ∨ w.heap.size ≤ b)) ∧ w.heap.size ≤ g ∧ (∀ o,¬ R'' g o) ∧
     (∃ arr el,w'.heap[g]? = some (.cells arr el (0,0)) ∧ All2 (RelC R'' w') cells (arr.toList.take cells.length)) ∧ ∃ us,v' = .agg us ∧ All2 (RelL g R'' w') cs us.toList) := by
    refine ⟨hI'.defers.trans hd,.agg us,?_,.agg us,rfl,hI'.below,R',β b,hI'.sub,hI'.dom,e3,e4,⟨arr,el,e5,e6⟩,us,rfl,e7⟩
    have := results_run (P := P) (a := a') (w := w') h5 (vs := [.agg us]) ⟨e2,trivial⟩
    simpa using this
   cases e with
   | normal => exact hend
   | ret => exact hend
   | exit id => exact (hne _ rfl).elim
  ·cases h
 ·cases h
end
end Go.Di

/-
 DI,part O: a table of types,looked over.
-/
namespace Go.Di
open Go.RowKit

def chk1 : D → Value → Bool
 | .int k n,.int k' n' => decide (k = k') && decide (n = n')
 | .bool b,.bool b' => decide (b = b')
 | .nil,.slice none 0 0 => true
 | .nilmap,.map none => true
 | .nilfn,.nilFunc => true
 | _,_ => false
def chkZ : List D → List Value → Bool
 | [],[] => true
 | d :: l,v :: m => chk1 d v && chkZ l m
 | _,_ => false
def chkF (tt : TypeId → Option TI) : List (Nat × TypeId) → List Field → Bool
 | [],[] => true
 | (o,t) :: l,f :: m => Nat.beq o f.offset && Nat.beq t f.type && (match tt t with | some _ => true | none => false) && f.name != "_" && chkF tt l m
 | _,_ => false
def chkD (P : Program) (tt : TypeId → Option TI) (t : TypeId) : TK → TypeDesc → Bool
 | .int k,.int k' => decide (k = k')
 | .bool,.bool => true
 | .struct fs,.struct fields => chkF tt fs fields.toList && !(P.stoodInHeld t)
 | .array n el,.array n' el' => Nat.beq n n' && Nat.beq el el' && (match tt el with | some _ => true | none => false)
 | .slice el,.slice el' => Nat.beq el el' && (match tt el with | some _ => true | none => false)
 | .map kt et _,.map kt' et' => Nat.beq kt kt' && Nat.beq et et'
 | .other,d => match d with
  | .struct _ => false
  | .array _ _ => false
  | _ => true
 | _,_ => false
def oneV : Value → Bool
 | .agg _ => false
 | _ => true
theorem oneV_ok {v : Value} (h : oneV v = true) : v.cells = #[v] := by cases v <;> first | rfl | cases h
def chkTI (P : Program) (tt : TypeId → Option TI) (t : TypeId) (ti : TI) : Bool :=
 match P.info? t,P.underlying t with
 | some i,some d => Nat.beq i.size ti.sz && Nat.beq i.bytes ti.bytes && Nat.beq ti.zero.length ti.sz && (match i.zero with | some z => chkZ ti.zero z.cells.toList && (ti.agg || oneV z) | none => false) && chkD P tt t ti.k d
 | _,_ => false
def chkAll (P : Program) (tt : TypeId → Option TI) : List (Nat × TI) → Bool
 | [] => true
 | (t,ti) :: l => chkTI P tt t ti && chkAll P tt l

theorem chk1_ok {R : Foot} {w : World} {d : D} {v : Value} (h : chk1 d v = true) : RelC0 R w d v := by
 unfold chk1 at h
 split at h
 ·simp only [Bool.and_eq_true,decide_eq_true_eq] at h
  obtain ⟨rfl,rfl⟩ := h
  rfl
 ·simp only [decide_eq_true_eq] at h
  subst h
  rfl
 ·rfl
 ·rfl
 ·rfl
 ·cases h
theorem chkZ_ok (R : Foot) (w : World) : ∀ (l : List D) (m : List Value),chkZ l m = true → All2 (RelC0 R w) l m
 | [],[],_ => trivial
 | d :: l,v :: m,h => by
  simp only [chkZ,Bool.and_eq_true] at h
  exact ⟨chk1_ok h.1,chkZ_ok R w l m h.2⟩
 | [],_ :: _,h => by cases h
 | _ :: _,[],h => by cases h

theorem chkF_ok {tt : TypeId → Option TI} : ∀ (l : List (Nat × TypeId)) (m : List Field),chkF tt l m = true → l.length = m.length ∧ (∀ (i : Nat) (f : Field),m[i]? = some f → l[i]? = some (f.offset,f.type) ∧ ∃ tf,tt f.type = some tf) ∧ ∀ f ∈ m,f.name ≠ "_"
 | [],[],_ => ⟨rfl,fun i f h => by simp at h,fun f h => by cases h⟩
 | (o,t) :: l,f :: m,h => by
  simp only [chkF,Bool.and_eq_true,bne_iff_ne] at h
  obtain ⟨⟨⟨⟨h1,h2⟩,h3⟩,h4⟩,h5⟩ := h
  have h1 := Nat.eq_of_beq_eq_true h1
  have h2 := Nat.eq_of_beq_eq_true h2
  subst h1 h2
  obtain ⟨k1,k2,k3⟩ := chkF_ok l m h5
  refine ⟨by simp [k1],fun i f' hf' => ?_,fun f' hf' => ?_⟩
  ·cases i with
   | zero =>
    simp only [List.getElem?_cons_zero,Option.some.injEq] at hf'
    subst hf'
    refine ⟨rfl,?_⟩
    split at h3
    ·rename_i tf htf; exact ⟨tf,htf⟩
    ·cases h3
   | succ i =>
    simp only [List.getElem?_cons_succ] at hf' ⊢
    exact k2 i f' hf'
  ·rcases List.mem_cons.1 hf' with rfl | hf'
   ·exact h4
   ·exact k3 f' hf'
 | [],_ :: _,h => by cases h
 | _ :: _,[],h => by cases h

theorem chkTI_ok {P : Program} {tt : TypeId → Option TI} {t : TypeId} {ti : TI} (h : chkTI P tt t ti = true) (he : ti.eq = true → P.eqGuardType P.depth t = false ∧ ∀ (w : World) (xs ys : List Int),xs.length = ti.sz → ys.length = ti.sz → (Op.equal t (.agg (xs.map (Value.int .i64)).toArray) (.agg (ys.map (Value.int .i64)).toArray)).run P w = .ok (eqI xs ys) w) : TIok P tt t ti := by
 unfold chkTI at h
 split at h
 ·rename_i i d hi hd
  simp only [Bool.and_eq_true] at h
  obtain ⟨⟨⟨⟨h1,h2⟩,h3⟩,h4⟩,h5⟩ := h
  refine ⟨he,?_,?_,?_⟩
  ·split at h4
   ·rename_i z hz
    simp only [Bool.and_eq_true] at h4
    exact ⟨i,z,hi,Nat.eq_of_beq_eq_true h1,Nat.eq_of_beq_eq_true h2,hz,Nat.eq_of_beq_eq_true h3,fun R w => chkZ_ok R w _ _ h4.1⟩
   ·cases h4
  ·cases hk : ti.k with
   | int k =>
    rw [hk] at h5
    cases d <;> simp only [chkD,Bool.false_eq_true] at h5
    simp only [decide_eq_true_eq] at h5
    subst h5
    exact hd
   | bool =>
    rw [hk] at h5
    cases d <;> simp only [chkD,Bool.false_eq_true] at h5
    exact hd
   | struct fs =>
    rw [hk] at h5
    cases d <;> simp only [chkD,Bool.false_eq_true] at h5
    rename_i fields
    simp only [Bool.and_eq_true,Bool.not_eq_true'] at h5
    obtain ⟨k1,k2,k3⟩ := chkF_ok _ _ h5.1
    exact ⟨fields,hd,fun i f hf => k2 i f (by simpa using hf),by simp at k1; omega,k3,h5.2⟩
   | array n el =>
    rw [hk] at h5
    cases d <;> simp only [chkD,Bool.false_eq_true] at h5
    simp only [Bool.and_eq_true] at h5
    obtain ⟨⟨e1,e2⟩,e3⟩ := h5
    have e1 := Nat.eq_of_beq_eq_true e1
    have e2 := Nat.eq_of_beq_eq_true e2
    subst e1 e2
    refine ⟨hd,?_⟩
    split at e3
    ·rename_i te hte; exact ⟨te,hte⟩
    ·cases e3
   | slice el =>
    rw [hk] at h5
    cases d <;> simp only [chkD,Bool.false_eq_true] at h5
    simp only [Bool.and_eq_true] at h5
    obtain ⟨e2,e3⟩ := h5
    have e2 := Nat.eq_of_beq_eq_true e2
    subst e2
    refine ⟨hd,?_⟩
    split at e3
    ·rename_i te hte; exact ⟨te,hte⟩
    ·cases e3
   | map kt et sp =>
    rw [hk] at h5
    cases d <;> simp only [chkD,Bool.false_eq_true] at h5
    simp only [Bool.and_eq_true] at h5
    have e1 := Nat.eq_of_beq_eq_true h5.1
    have e2 := Nat.eq_of_beq_eq_true h5.2
    subst e1 e2
    exact hd
   | other =>
    rw [hk] at h5
    refine ⟨d,hd,fun fs e => ?_,fun n e e' => ?_⟩
    ·subst e; simp [chkD] at h5
    ·subst e'; simp [chkD] at h5
  ·intro i' z hi' hz ha
   rw [hi] at hi'
   cases hi'
   rw [hz] at h4
   simp only [ha,Bool.false_or,Bool.and_eq_true] at h4
   exact oneV_ok h4.2
 ·cases h

/-! ### Equality of structs and arrays of numbers -/
def valI (agg : Bool) (xs : List Int) : Value := match agg with
 | true => .agg (xs.map (Value.int .i64)).toArray
 | false => .int .i64 (xs.headD 0)

def EqT (P : Program) (k : Nat) (t : TypeId) (ti : TI) : Prop := ∀ (d : Nat) (w : World) (xs ys : List Int),xs.length = ti.sz → ys.length = ti.sz → (Op.equalIn (d + k) t (valI ti.agg xs) (valI ti.agg ys)).run P w = .ok (eqI xs ys) w

def consec (tt : TypeId → Option TI) : Nat → List (Nat × TypeId) → Option Nat
 | n,[] => some n
 | n,(o,t) :: l => match Nat.beq o n,tt t with
  | true,some ti => consec tt (n + ti.sz) l
  | _,_ => none

def eqChk (tt : TypeId → Option TI) : Nat → TypeId → Bool
 | 0,_ => false
 | k + 1,t => match tt t with
  | some ti => match ti.k with
   | .int k' => decide (k' = .i64) && Nat.beq ti.sz 1
   | .struct fs => (match consec tt 0 fs with | some n => Nat.beq n ti.sz | none => false) && fs.all fun p => eqChk tt k p.2
   | .array n el => (match tt el with | some te => Nat.beq (n * te.sz) ti.sz | none => false) && eqChk tt k el
   | _ => false
  | none => false

theorem eqI_append : ∀ (a b c d : List Int),a.length = c.length → eqI (a ++ b) (c ++ d) = (eqI a c && eqI b d)
 | [],b,[],d,_ => by simp [eqI]
 | x :: a,b,y :: c,d,h => by
  simp only [List.cons_append,eqI]
  rw [eqI_append a b c d (by simpa using h),Bool.and_assoc]
 | [],_,_ :: _,_,h => by simp at h
 | _ :: _,_,[],_,h => by simp at h

theorem part_valI {P : Program} {C : Cfg} {w : World} {t : TypeId} {ti : TI} (hT : TIok P C.tt t ti) {off : Nat} (xs : List Int) (hle : off + ti.sz ≤ xs.length) (hsz : ti.agg = false → ti.sz = 1) :
  (part t (xs.map (Value.int .i64)).toArray off).run P w = .ok (valI ti.agg ((xs.drop off).take ti.sz)) w := by
 rw [part_run (C := C) hT _ (by simpa using hle) hsz]
 cases ha : ti.agg with
 | true => simp [valI,List.map_take,List.map_drop]
 | false =>
  have := hsz ha
  simp only [Bool.false_eq_true,if_false,valI]
  have hlt : off < xs.length := by omega
  rw [this]
  have e1 : (xs.drop off).take 1 = [xs[off]] := by
   rw [List.drop_eq_getElem_cons hlt]
   rfl
  rw [e1]
  simp [List.getD_eq_getElem?_getD,hlt]

theorem eqChk_ok {P : Program} {C : Cfg} (hT : TabOk P C.tt) : ∀ (k : Nat) (t : TypeId) (ti : TI),C.tt t = some ti → eqChk C.tt k t = true → EqT P k t ti ∧ (ti.agg = false → ti.sz = 1)
 | 0,_,_,_,h => by cases h
 | k + 1,t,ti,ht,h => by
  simp only [eqChk,ht] at h
  have hti := hT t ti ht
  have hu := hti.und
  split at h
  ·rename_i k' hk
   simp only [Bool.and_eq_true,decide_eq_true_eq] at h
   obtain ⟨rfl,h1⟩ := h
   have h1 := Nat.eq_of_beq_eq_true h1
   rw [hk] at hu
   have ha : ti.agg = false := by unfold TI.agg; rw [hk]
   refine ⟨fun d w xs ys hx hy => ?_,fun _ => h1⟩
   obtain ⟨x,rfl⟩ : ∃ x,xs = [x] := by
    match xs,hx.trans h1 with
    | [x],_ => exact ⟨x,rfl⟩
   obtain ⟨y,rfl⟩ : ∃ y,ys = [y] := by
    match ys,hy.trans h1 with
    | [y],_ => exact ⟨y,rfl⟩
   rw [ha]
   simp only [valI,List.headD_cons,eqI,Bool.and_true]
   exact run_equalIn_int w (d + k) t .i64 .i64 x y hu
  ·rename_i fs hk
   simp only [Bool.and_eq_true,List.all_eq_true] at h
   obtain ⟨h1,h2⟩ := h
   rw [hk] at hu
   obtain ⟨fields,u1,u2,u3,u4,u5⟩ := hu
   have ha : ti.agg = true := by unfold TI.agg; rw [hk]
   refine ⟨fun d w xs ys hx hy => ?_,fun hf => by rw [ha] at hf; cases hf⟩
   rw [ha]
   simp only [valI]
   have hfo : P.fieldsOf t = fields := by simp [Program.fieldsOf,u1]
   have hrun := run_equalIn_struct (P := P) w (d + k) t (xs.map (Value.int .i64)).toArray (ys.map (Value.int .i64)).toArray (by rw [hfo]; exact u1) u5
   rw [show d + (k + 1) = (d + k) + 1 by omega,hrun,hfo]
   split at h1
   ·rename_i n hn
    have h1 := Nat.eq_of_beq_eq_true h1
    subst h1
    -- field by field
    have key : ∀ (l : List Field) (fl : List (Nat × TypeId)) (o : Nat),l.length = fl.length → (∀ (i : Nat) (f : Field),l[i]? = some f → fl[i]? = some (f.offset,f.type) ∧ ∃ tf,C.tt f.type = some tf) → (∀ f ∈ l,f.name ≠ "_") → (∀ p ∈ fl,eqChk C.tt k p.2 = true) →
      consec C.tt o fl = some ti.sz → o ≤ ti.sz ∧ (Op.eqFields (d + k) (xs.map (Value.int .i64)).toArray (ys.map (Value.int .i64)).toArray l).run P w = .ok (eqI (xs.drop o) (ys.drop o)) w := by
     intro l
     induction l with
     | nil =>
      intro fl o hl _ _ _ hc
      cases fl with
      | nil =>
       simp only [consec,Option.some.injEq] at hc
       subst hc
       refine ⟨Nat.le_refl _,?_⟩
       rw [List.drop_of_length_le (by omega),List.drop_of_length_le (by omega)]
       rfl
      | cons p fl => simp at hl
     | cons f l ih =>
      intro fl o hl hget hname hchk hc
      cases fl with
      | nil => simp at hl
      | cons p fl =>
       obtain ⟨o',t'⟩ := p
       have h0 := (hget 0 f rfl).1
       simp only [List.getElem?_cons_zero,Option.some.injEq,Prod.mk.injEq] at h0
       obtain ⟨rfl,rfl⟩ := h0
       obtain ⟨tf,htf⟩ := (hget 0 f rfl).2
       simp only [consec,htf] at hc
       split at hc
       ·rename_i hb hs
        have hb := Nat.eq_of_beq_eq_true hb
        cases hs
        obtain ⟨e1,e2⟩ := ih fl (o + tf.sz) (by simpa using hl) (fun i f' hf' => by simpa using hget (i + 1) f' (by simpa using hf')) (fun f' hf' => hname f' (by simp [hf'])) (fun p hp => hchk p (by simp [hp])) hc
        obtain ⟨q1,q2⟩ := eqChk_ok hT k f.type tf htf (hchk (f.offset,f.type) (by simp))
        refine ⟨by omega,?_⟩
        have p1 := part_valI (C := C) (w := w) (hT _ _ htf) (off := f.offset) xs (by omega) q2
        have p2 := part_valI (C := C) (w := w) (hT _ _ htf) (off := f.offset) ys (by omega) q2
        have p3 := q1 d w ((xs.drop f.offset).take tf.sz) ((ys.drop f.offset).take tf.sz) (by simp; omega) (by simp; omega)
        have hn := hname f (by simp)
        rw [hb] at p1 p2 p3
        have es : eqI (xs.drop o) (ys.drop o) = (eqI ((xs.drop o).take tf.sz) ((ys.drop o).take tf.sz) && eqI (xs.drop (o + tf.sz)) (ys.drop (o + tf.sz))) := by
         rw [← eqI_append _ _ _ _ (by simp; omega)]
         congr 1
         ·rw [← List.drop_drop,List.take_append_drop]
         ·rw [← List.drop_drop,List.take_append_drop]
        simp only [Op.eqFields,hn,ne_eq,not_false_eq_true,if_true,Sem.run_bind,hb,p1,p2,p3,Result.andThen_ok]
        rw [es]
        cases eqI ((xs.drop o).take tf.sz) ((ys.drop o).take tf.sz) with
        | true => simp only [Bool.not_true,Bool.false_eq_true,if_false,Bool.true_and]; exact e2
        | false => simp
       ·cases hc
    have := (key fields.toList fs 0 (by simp; exact u3) (fun i f hf => u2 i f (by simpa using hf)) u4 h2 hn).2
    simpa using this
   ·cases h1
  ·rename_i n el hk
   simp only [Bool.and_eq_true] at h
   obtain ⟨h1,h2⟩ := h
   rw [hk] at hu
   obtain ⟨u1,te,u2⟩ := hu
   rw [u2] at h1
   have h1 := Nat.eq_of_beq_eq_true h1
   have ha : ti.agg = true := by unfold TI.agg; rw [hk]
   refine ⟨fun d w xs ys hx hy => ?_,fun hf => by rw [ha] at hf; cases hf⟩
   rw [ha]
   simp only [valI]
   obtain ⟨q1,q2⟩ := eqChk_ok hT k el te u2 h2
   have hs := sizeOf_run (P := P) (C := C) (w := w) (hT _ _ u2)
   have key : ∀ (m i : Nat),(i + m) * te.sz = ti.sz →
     (forIn (m := Sem) (List.range' i m) ((none,()) : Option Bool × Unit) (fun i (_ : Option Bool × Unit) => do
      let a ← part el (xs.map (Value.int .i64)).toArray (i * te.sz)
      let b ← part el (ys.map (Value.int .i64)).toArray (i * te.sz)
      let r ← Op.equalIn (d + k) el a b
      if (!r) = true then pure (ForInStep.done ((some false,()) : Option Bool × Unit)) else pure (ForInStep.yield (none,())))).run P w =
     .ok (match eqI (xs.drop (i * te.sz)) (ys.drop (i * te.sz)) with | true => (none,()) | false => (some false,())) w := by
    intro m
    induction m with
    | zero =>
     intro i hi
     rw [Nat.add_zero] at hi
     rw [List.drop_of_length_le (by omega),List.drop_of_length_le (by omega)]
     rfl
    | succ m ih =>
     intro i hi
     have hle : i * te.sz + te.sz ≤ ti.sz := by
      rw [← hi,show i + (m + 1) = i + 1 + m by omega,Nat.add_mul (i + 1),Nat.add_mul]
      omega
     have ih' := ih (i + 1) (by rw [show i + 1 + m = i + (m + 1) by omega]; exact hi)
     have p1 := part_valI (C := C) (w := w) (hT _ _ u2) (off := i * te.sz) xs (by omega) q2
     have p2 := part_valI (C := C) (w := w) (hT _ _ u2) (off := i * te.sz) ys (by omega) q2
     have p3 := q1 d w ((xs.drop (i * te.sz)).take te.sz) ((ys.drop (i * te.sz)).take te.sz) (by simp; omega) (by simp; omega)
     have e1 : (i + 1) * te.sz = i * te.sz + te.sz := by rw [Nat.add_mul]; omega
     have es : eqI (xs.drop (i * te.sz)) (ys.drop (i * te.sz)) = (eqI ((xs.drop (i * te.sz)).take te.sz) ((ys.drop (i * te.sz)).take te.sz) && eqI (xs.drop ((i + 1) * te.sz)) (ys.drop ((i + 1) * te.sz))) := by
      rw [← eqI_append _ _ _ _ (by simp; omega),e1]
      congr 1
      ·rw [← List.drop_drop,List.take_append_drop]
      ·rw [← List.drop_drop,List.take_append_drop]
     rw [List.range'_succ,List.forIn_cons]
     simp only [Sem.run_bind,p1,p2,p3,Result.andThen_ok]
     rw [es]
     cases eqI ((xs.drop (i * te.sz)).take te.sz) ((ys.drop (i * te.sz)).take te.sz) with
     | true =>
      simp only [Bool.not_true,Bool.false_eq_true,if_false,Bool.true_and,Sem.run_pure,Result.andThen_ok]
      exact ih'
     | false => simp
   have := key n 0 (by simpa using h1)
   simp only [Nat.zero_mul,List.drop_zero] at this
   rw [show d + (k + 1) = (d + k) + 1 by omega]
   simp only [Op.equalIn,Sem.run_bind,run_underlying u1,Result.andThen_ok,hs]
   rw [Std.Legacy.Range.forIn_eq_forIn_range']
   simp only [Std.Legacy.Range.size,Nat.sub_zero,Nat.add_one_sub_one,Nat.div_one]
   rw [this]
   cases eqI xs ys <;> rfl
  ·cases h

/-! ### The table -/
def noEq (ti : TI) : TI := ⟨ti.k,ti.sz,ti.bytes,ti.zero,ti.e,false⟩
def chkEq (P : Program) (l : List (Nat × TI)) (tt : TypeId → Option TI) : Bool := l.all fun p => !p.2.eq || (p.2.agg && eqChk tt 9 p.1 && !(P.eqGuardType P.depth p.1))
def chkTab (P : Program) (l : List (Nat × TI)) : Bool := chkAll P (lookN (l.map fun p => (p.1,noEq p.2))) (l.map fun p => (p.1,noEq p.2)) && chkEq P l (lookN (l.map fun p => (p.1,noEq p.2)))

theorem lookN_mem {α : Type} : ∀ {l : List (Nat × α)} {n : Nat} {a : α},lookN l n = some a → (n,a) ∈ l
 | (k,v) :: l,n,a,h => by
  simp only [lookN] at h
  split at h
  ·rename_i hk
   cases h
   rw [Nat.eq_of_beq_eq_true hk]
   simp
  ·exact List.mem_cons_of_mem _ (lookN_mem h)
theorem lookN_map {α γ : Type} (f : α → γ) : ∀ (l : List (Nat × α)) (n : Nat),lookN (l.map fun p => (p.1,f p.2)) n = (lookN l n).map f
 | [],_ => rfl
 | (k,v) :: l,n => by
  simp only [List.map_cons,lookN]
  split <;> first | rfl | exact lookN_map f l n
theorem chkAll_mem {P : Program} {tt : TypeId → Option TI} : ∀ {l : List (Nat × TI)},chkAll P tt l = true → ∀ {p : Nat × TI},p ∈ l → chkTI P tt p.1 p.2 = true
 | [],_,_,h => by cases h
 | (t,ti) :: l,h,p,hm => by
  simp only [chkAll,Bool.and_eq_true] at h
  rcases List.mem_cons.1 hm with rfl | hm
  ·exact h.1
  ·exact chkAll_mem h.2 hm

theorem tabOk {P : Program} {l : List (Nat × TI)} (h : chkTab P l = true) : TabOk P (lookN l) := by
 simp only [chkTab,Bool.and_eq_true] at h
 obtain ⟨h1,h2⟩ := h
 have hT0 : TabOk P (lookN (l.map fun p => (p.1,noEq p.2))) := by
  intro t ti ht
  refine chkTI_ok (chkAll_mem h1 (lookN_mem ht)) (fun he => ?_)
  rw [lookN_map,Option.map_eq_some_iff] at ht
  obtain ⟨ti',_,rfl⟩ := ht
  cases he
 intro t ti ht
 have ht0 : lookN (l.map fun p => (p.1,noEq p.2)) t = some (noEq ti) := by rw [lookN_map,ht]; rfl
 have hti := hT0 t _ ht0
 have hsome : ∀ t' tf,(lookN (l.map fun p => (p.1,noEq p.2))) t' = some tf → ∃ tf',lookN l t' = some tf' := by
  intro t' tf h
  rw [lookN_map,Option.map_eq_some_iff] at h
  obtain ⟨x,hx,_⟩ := h
  exact ⟨x,hx⟩
 refine ⟨fun he => ?_,hti.info,?_,hti.zer⟩
 ·simp only [chkEq,List.all_eq_true] at h2
  have := h2 _ (lookN_mem ht)
  simp only [he,Bool.not_true,Bool.false_or,Bool.and_eq_true,Bool.not_eq_true'] at this
  obtain ⟨⟨ha,hq⟩,hg⟩ := this
  refine ⟨hg,fun w xs ys hx hy => ?_⟩
  have hq' := (eqChk_ok (C := { tt := lookN (l.map fun p => (p.1,noEq p.2)),glob := fun _ => none,con := fun _ _ _ => False,nt := 0,lk := fun _ _ _ _ => False }) hT0 9 t (noEq ti) ht0 hq).1 9991 w xs ys hx hy
  have ha' : (noEq ti).agg = true := ha
  rw [ha'] at hq'
  exact hq'
 ·have hu := hti.und
  cases hk : ti.k with
  | int k => rw [show (noEq ti).k = ti.k from rfl,hk] at hu; exact hu
  | bool => rw [show (noEq ti).k = ti.k from rfl,hk] at hu; exact hu
  | struct fs =>
   rw [show (noEq ti).k = ti.k from rfl,hk] at hu
   obtain ⟨fields,u1,u2,u3⟩ := hu
   exact ⟨fields,u1,fun i f hf => ⟨(u2 i f hf).1,by obtain ⟨tf,htf⟩ := (u2 i f hf).2; exact hsome _ _ htf⟩,u3⟩
  | array n el =>
   rw [show (noEq ti).k = ti.k from rfl,hk] at hu
   obtain ⟨u1,te,u2⟩ := hu
   exact ⟨u1,hsome _ _ u2⟩
  | slice el =>
   rw [show (noEq ti).k = ti.k from rfl,hk] at hu
   obtain ⟨u1,te,u2⟩ := hu
   exact ⟨u1,hsome _ _ u2⟩
  | map kt et sp => rw [show (noEq ti).k = ti.k from rfl,hk] at hu; exact hu
  | other => rw [show (noEq ti).k = ti.k from rfl,hk] at hu; exact hu
end Go.Di

/-
 DI,part P: the configuration of a program,and what is asked of a list of statements.
-/
namespace Go.Di
open Go.RowKit

section
variable {P : Program}

theorem Inv.same {C C' : Cfg} {w0 w : World} {R0 R : Foot} {a : Act} {s : St} {β : Nat → Nat} {σ : Sig} (hn : C'.nt = C.nt) (hg : C'.glob = C.glob) (hd : C'.dfs = C.dfs) (hke : C'.ke = C.ke) (hno : C'.no = C.no) (hw1 : C'.w1 = C.w1) (hf1 : C'.fixed = C.fixed) (hf2 : C'.fv = C.fv) (h : Inv C w0 R0 a w s β σ R) : Inv C' w0 R0 a w s β σ R :=
 ⟨h.below,by rw [hd]; exact h.defers,by rw [hf1,hf2]; exact h.fix,by rw [hn]; exact h.nt,h.sub,h.dom,fun g cs hc => h.glob g cs (by rw [← hg]; exact hc),h.tmps,h.box,h.inj,h.obj,⟨by rw [hw1]; exact h.far.sz,fun b hb => by rw [hw1]; exact h.far.ke b (by rw [← hke]; exact hb),fun b hb => h.far.no b (by rw [← hno]; exact hb)⟩,h.mps⟩
theorem Holds.same {C C' : Cfg} {w0 w : World} {R0 : Foot} {a : Act} {s : St} (hn : C'.nt = C.nt) (hg : C'.glob = C.glob) (hd : C'.dfs = C.dfs) (hke : C'.ke = C.ke) (hno : C'.no = C.no) (hw1 : C'.w1 = C.w1) (hf1 : C'.fixed = C.fixed) (hf2 : C'.fv = C.fv) (h : Holds C w0 R0 a w s) : Holds C' w0 R0 a w s := by
 obtain ⟨β,σ,R,h⟩ := h
 exact ⟨β,σ,R,h.same hn hg hd hke hno hw1 hf1 hf2⟩
theorem WpL.same {C C' : Cfg} {c : Code} {L : List (Key × Val)} {Post : Ex → List (Key × Val) → Prop} (hn : C'.nt = C.nt) (hg : C'.glob = C.glob) (hd : C'.dfs = C.dfs) (hke : C'.ke = C.ke) (hno : C'.no = C.no) (hw1 : C'.w1 = C.w1) (hf1 : C'.fixed = C.fixed) (hf2 : C'.fv = C.fv) (hi : C'.inr = false → C.inr = false → True) (hr : C.inr = false → C'.inr = false) (h : WpL P C c L Post) : WpL P C' c L Post :=
 fun w0 R0 a w Q ro n hro hH hQ => h w0 R0 a w Q ro n (fun x => hro (hr x)) (hH.same hn.symm hg.symm hd.symm hke.symm hno.symm hw1.symm hf1.symm hf2.symm) fun e L' a' w' hp hH' => hQ e L' a' w' hp (hH'.same hn hg hd hke hno hw1 hf1 hf2)

/-- The configuration without what it asks of others. -/
def mk0 (glob : Nat → Option (List D)) (n : Nat) : Cfg := { tt := fun _ => none,glob := glob,con := fun _ _ _ => False,nt := n,lk := fun _ _ _ _ => False }
/-- Of a loop: from there,in this way,to there. -/
structure LoopT (P : Program) (glob : Nat → Option (List D)) (n : Nat) (c : Code) (L : List (Key × Val)) (e : Ex) (L' : List (Key × Val)) : Prop where
 wp : WpL P (mk0 glob n) c L (fun e' L'' => e' = e ∧ L'' = L')
def mk (P : Program) (tt : TypeId → Option TI) (glob : Nat → Option (List D)) (n : Nat) : Cfg := { tt := tt,glob := glob,con := fun f args r => Contract P glob f args r,conL := fun f args cs cells => ContractL P glob f args cs cells,nt := n,lk := fun c L e L' => LoopT P glob n c L e L' }

theorem good {tt : TypeId → Option TI} {glob : Nat → Option (List D)} {n : Nat} (hm : P.follows .mixedOrders = true) (hT : TabOk P tt) : Good P (mk P tt glob n) :=
 ⟨hm,hT,⟨fun _ _ _ h => h,fun _ _ _ _ h => h⟩,fun _ _ _ _ h => WpL.same (C := mk0 glob n) rfl rfl rfl rfl rfl rfl rfl rfl (fun _ _ => trivial) (fun _ => rfl) h.wp⟩

theorem LoopT.of {tt : TypeId → Option TI} {glob : Nat → Option (List D)} {n : Nat} {c : Code} {L L' : List (Key × Val)} {e : Ex} (h : WpL P (Di.mk P tt glob n) c L (fun e' L'' => e' = e ∧ L'' = L')) : LoopT P glob n c L e L' :=
 ⟨WpL.same (C := Di.mk P tt glob n) (C' := mk0 glob n) rfl rfl rfl rfl rfl rfl rfl rfl (fun _ _ => trivial) (fun _ => rfl) h⟩

def allP : List Prop → Prop
 | [] => True
 | p :: l => p ∧ allP l
theorem allP_mem : ∀ {l : List Prop},allP l → ∀ p ∈ l,p
 | _ :: _,h,_,hp => by
  rcases List.mem_cons.1 hp with rfl | hp
  ·exact h.1
  ·exact allP_mem h.2 _ hp

theorem WpL.path {C : Cfg} (hG : Good P C) {dec : List (Nat × Bool)} {orc : List (Nat × D)} {lorc : Lorc} {c : Code} {L L' : List (Key × Val)} {ks : List Key} {ps : List Prop} {e : Ex} {Post : Ex → List (Key × Val) → Prop}
  (h : Di.runK C dec orc lorc c L ks = some (ps,e,L')) (hp : allP ps) (hpost : Post e L') : WpL P C c L Post := WpL.runK hG h (allP_mem hp) hpost
theorem contract_of_path {tt : TypeId → Option TI} {glob : Nat → Option (List D)} {n : Nat} (hG : Good P (mk P tt glob n)) {f : FuncId} {c : Code} {rs : List ResultVar} (hf : FnOk P (mk P tt glob n) f c rs) {dec : List (Nat × Bool)} {orc : List (Nat × D)} {lorc : Lorc} {args : List D} {ps : List Prop} {r : D}
  (h : callF (mk P tt glob n) dec orc lorc c rs args = some (ps,r)) (hp : allP ps) : Contract P glob f args r := contract_of_call hG rfl (fun _ h => h) (fun _ h => h) rfl rfl hf h (allP_mem hp)

theorem LoopT.rounds {tt : TypeId → Option TI} {glob : Nat → Option (List D)} {n : Nat} {id : Nat} {c : Code} {α : Type} (S : α → List (Key × Val)) (μ : α → Nat) {e : Ex} {L' : List (Key × Val)}
  (h : ∀ x,WpL P (Di.mk P tt glob n) c (S x) fun e1 L1 => match e1 with
   | .normal => ∃ y,L1 = S y ∧ μ y < μ x
   | .exit id' => if id' = id then e = .normal ∧ L1 = L' else e = .exit id' ∧ L1 = L'
   | .ret => e = .ret ∧ L1 = L') (x : α) : LoopT P glob n (.block id (.loop c)) (S x) e L' := by
 refine LoopT.of (tt := tt) (WpL.block ?_)
 refine WpL.loop S μ (fun x => (h x).mono fun e1 L1 he => ?_) x
 cases e1 with
 | normal => exact he
 | ret =>
  obtain ⟨rfl,rfl⟩ := he
  exact ⟨rfl,rfl⟩
 | exit id' =>
  simp only at he ⊢
  by_cases hid : id' = id
  ·rw [if_pos hid] at he ⊢
   obtain ⟨rfl,rfl⟩ := he
   exact ⟨rfl,rfl⟩
  ·rw [if_neg hid] at he ⊢
   obtain ⟨rfl,rfl⟩ := he
   exact ⟨rfl,rfl⟩

theorem LoopT.count {tt : TypeId → Option TI} {glob : Nat → Option (List D)} {n : Nat} {id : Nat} {b c : Code} (hb : b = .block id (.loop c)) (N : Nat) (S : Nat → List (Key × Val)) {e : Ex} {L' : List (Key × Val)}
  (hon : ∀ i,i < N → WpL P (Di.mk P tt glob n) c (S i) fun e1 L1 => e1 = .normal ∧ L1 = S (i + 1))
  (hend : WpL P (Di.mk P tt glob n) c (S N) fun e1 L1 => (e1 = .exit id ∧ e = .normal ∨ e1 = .ret ∧ e = .ret) ∧ L1 = L') : LoopT P glob n b (S 0) e L' := by
 subst hb
 refine LoopT.rounds (tt := tt) (S := fun i : {i : Nat // i ≤ N} => S i.1) (fun i => N - i.1) ?_ ⟨0,Nat.zero_le _⟩
 intro ⟨i,hi⟩
 by_cases hlt : i < N
 ·refine (hon i hlt).mono fun e1 L1 h => ?_
  obtain ⟨rfl,rfl⟩ := h
  exact ⟨⟨i + 1,hlt⟩,rfl,by dsimp only; omega⟩
 ·have he : i = N := by omega
  subst he
  refine hend.mono fun e1 L1 h => ?_
  obtain ⟨h | h,rfl⟩ := h
  ·obtain ⟨rfl,rfl⟩ := h
   simp
  ·obtain ⟨rfl,rfl⟩ := h
   exact ⟨rfl,rfl⟩
end
end Go.Di

namespace Go.Di
open Proofs
/-- The program. -/
noncomputable abbrev PR : Program := Proofs.Tryd.prog
def types : List (Nat × TI) :=
 [(3,⟨.int .i64,1,8,[.int .i64 0],some .int,false⟩),
  (4,⟨.bool,1,1,[.bool false],none,false⟩),
  (43,⟨.int .i64,1,8,[.int .i64 0],some .int,false⟩),
  (51,⟨.struct [(0,3),(1,3)],2,16,[.int .i64 0,.int .i64 0],some .span,true⟩),
  (76,⟨.struct [(0,51),(2,51)],4,32,[.int .i64 0,.int .i64 0,.int .i64 0,.int .i64 0],some .sec,true⟩),
  (34,⟨.struct [(0,3),(1,3),(2,3),(3,3)],4,32,[.int .i64 0,.int .i64 0,.int .i64 0,.int .i64 0],some .sv,true⟩),
  (26,⟨.struct [(0,22),(1,23),(2,24),(3,3),(4,3)],5,88,[.nil,.nil,.nil,.int .i64 0,.int .i64 0],some .book,false⟩),
  (22,⟨.slice 76,1,24,[.nil],some (.list .sec),false⟩),
  (23,⟨.slice 3,1,24,[.nil],some (.list .int),false⟩),
  (24,⟨.slice 34,1,24,[.nil],some (.list .sv),false⟩),
  (129,⟨.struct [(0,26),(5,126),(6,127)],7,120,[.nil,.nil,.nil,.int .i64 0,.int .i64 0,.nilmap,.nil],none,false⟩),
  (127,⟨.slice 143,1,24,[.nil],some (.list .trc),false⟩),
  (143,⟨.struct [(0,140),(4,141)],12,96,[.int .i64 0,.int .i64 0,.int .i64 0,.int .i64 0,.int .i64 0,.int .i64 0,.int .i64 0,.int .i64 0,.int .i64 0,.int .i64 0,.int .i64 0,.int .i64 0],some .trc,true⟩),
  (140,⟨.array 4 3,4,32,[.int .i64 0,.int .i64 0,.int .i64 0,.int .i64 0],none,true⟩),
  (141,⟨.array 4 51,8,64,[.int .i64 0,.int .i64 0,.int .i64 0,.int .i64 0,.int .i64 0,.int .i64 0,.int .i64 0,.int .i64 0],none,true⟩),
  (126,⟨.map 179 51 true,1,8,[.nilmap],none,false⟩),
  (179,⟨.struct [(0,3),(1,3)],2,16,[.int .i64 0,.int .i64 0],none,true⟩),
  (206,⟨.other,1,8,[.nilfn],none,false⟩),
  (207,⟨.other,1,8,[.nilfn],none,false⟩),
  (208,⟨.other,1,8,[.nilfn],none,false⟩),
  (209,⟨.other,1,8,[.nilfn],none,false⟩),
  (211,⟨.struct [(0,209)],1,8,[.nilfn],none,false⟩),
  (40,⟨.slice 23,1,24,[.nil],some (.list (.list .int)),false⟩),
  (196,⟨.array 4 3,4,32,[.int .i64 0,.int .i64 0,.int .i64 0,.int .i64 0],none,true⟩),
  (108,⟨.struct [(0,3),(1,3)],2,16,[.int .i64 0,.int .i64 0],some .work,true⟩),
  (27,⟨.array 2 3,2,16,[.int .i64 0,.int .i64 0],none,true⟩),
  (64,⟨.array 4 3,4,32,[.int .i64 0,.int .i64 0,.int .i64 0,.int .i64 0],none,true⟩),
  (174,⟨.struct [(0,27),(2,27)],4,32,[.int .i64 0,.int .i64 0,.int .i64 0,.int .i64 0],some .tr1,true⟩),
  (171,⟨.slice 174,1,24,[.nil],some (.list .tr1),false⟩),
  (131,⟨.other,1,8,[.nilfn],none,false⟩),
  (135,⟨.other,1,8,[.nilfn],none,false⟩),
  (136,⟨.array 2 135,2,16,[.nilfn,.nilfn],none,false⟩),
  (137,⟨.struct [(0,3),(1,3)],2,16,[.int .i64 0,.int .i64 0],none,true⟩)]
theorem types_ok : TabOk PR (lookN types) := tabOk (by kernel_rfl)
def bkD (b : Book) (m : Mp) (ts : List TrC) : D := .agg [.sl false .sec b.secs,.sl false .int b.turns,.sl false .sv b.svs,.int .i64 b.rule,.int .i64 b.days,.map m,.sl false .trc ts]
def glob : Nat → Option (List D)
 | 1 => some [.int .i64 (-1),.int .i64 (-1)]
 | _ => none
def body (f : Func) : Code := match f.body with
 | some c => c
 | none => .skip
end Go.Di

namespace Go.Di
open Proofs
theorem place_fn : FnOk PR (mk PR (lookN types) glob 29) 198 (body Tryd.f198) [.tmp 8] := by refine ⟨Tryd.f198,?_,?_,?_,?_,?_⟩ <;> kernel_rfl
def place_S0 (b : Book) (m : Mp) (ts : List TrC) (turns : List Int) (s day : Int) (i : Nat) (s1 : Int) : List (Key × Val) :=
 [(.tmp 1,.d (.int .i64 s1)),
  (.tmp 2,.d (D.int .i64 day)),
  (.tmp 4,.d (D.ptr 4 0)),
  (.tmp 8,.d (D.int .i64 0)),
  (.tmp 11,.d (D.sl false E.int turns)),
  (.tmp 12,.d (D.int .i64 (((List.length turns : Nat) : Int)))),
  (.tmp 13,.d (.int .i64 i)),
  (.box 4,.bx (some (Box.mk false [D.sl false E.sec (Book.secs b),D.sl false E.int (Book.turns b),D.sl false E.sv (Book.svs b),D.int .i64 (Book.rule b),D.int .i64 (Book.days b),D.map m,D.sl false E.trc ts])))]
def place_K0 : List Key := [.tmp 1,.tmp 2,.tmp 4,.tmp 8,.tmp 11,.tmp 12,.tmp 13,.box 4]
theorem place_0_turn (b : Book) (m : Mp) (ts : List TrC) (turns : List Int) (s day : Int) (i : Nat) (s1 : Int) :
  runK (mk PR (lookN types) glob 29) [(14,true),(19,true)] [] [] (Code.at [1,0,1,0,0] (body Tryd.f198)) (place_S0 b m ts turns s day i s1) place_K0 =
   some ([decide ((i : Int) < ((List.length turns : Nat) : Int)) = true,0 ≤ (i : Int) ∧ (i : Int) < ((List.length turns : Nat) : Int),0 + 1 ≤ 1,decide (List.getD turns (Int.toNat ((i : Int))) (E.z E.int) ≤ day) = true,inI64 (((List.length (Book.secs b) : Nat) : Int) - 1),inI64 (((List.length (Book.secs b) : Nat) : Int) - 1 - s1),inI64 ((i : Int) + 1)],Ex.normal,[(.tmp 1,.d (D.int .i64 (((List.length (Book.secs b) : Nat) : Int) - 1 - s1))),(.tmp 2,.d (D.int .i64 day)),(.tmp 4,.d (D.ptr 4 0)),(.tmp 8,.d (D.int .i64 0)),(.tmp 11,.d (D.sl false E.int turns)),(.tmp 12,.d (D.int .i64 (((List.length turns : Nat) : Int)))),(.tmp 13,.d (D.int .i64 ((i : Int) + 1))),(.box 4,.bx (some (Box.mk false [D.sl false E.sec (Book.secs b),D.sl false E.int (Book.turns b),D.sl false E.sv (Book.svs b),D.int .i64 (Book.rule b),D.int .i64 (Book.days b),D.map m,D.sl false E.trc ts])))]) := by kernel_rfl
theorem place_0_stay (b : Book) (m : Mp) (ts : List TrC) (turns : List Int) (s day : Int) (i : Nat) (s1 : Int) :
  runK (mk PR (lookN types) glob 29) [(14,true),(19,false)] [] [] (Code.at [1,0,1,0,0] (body Tryd.f198)) (place_S0 b m ts turns s day i s1) place_K0 =
   some ([decide ((i : Int) < ((List.length turns : Nat) : Int)) = true,0 ≤ (i : Int) ∧ (i : Int) < ((List.length turns : Nat) : Int),0 + 1 ≤ 1,decide (List.getD turns (Int.toNat ((i : Int))) (E.z E.int) ≤ day) = false,inI64 ((i : Int) + 1)],Ex.normal,[(.tmp 1,.d (D.int .i64 s1)),(.tmp 2,.d (D.int .i64 day)),(.tmp 4,.d (D.ptr 4 0)),(.tmp 8,.d (D.int .i64 0)),(.tmp 11,.d (D.sl false E.int turns)),(.tmp 12,.d (D.int .i64 (((List.length turns : Nat) : Int)))),(.tmp 13,.d (D.int .i64 ((i : Int) + 1))),(.box 4,.bx (some (Box.mk false [D.sl false E.sec (Book.secs b),D.sl false E.int (Book.turns b),D.sl false E.sv (Book.svs b),D.int .i64 (Book.rule b),D.int .i64 (Book.days b),D.map m,D.sl false E.trc ts])))]) := by kernel_rfl
theorem place_0_end (b : Book) (m : Mp) (ts : List TrC) (turns : List Int) (s day : Int) (i : Nat) (s1 : Int) :
  runK (mk PR (lookN types) glob 29) [(14,false)] [] [] (Code.at [1,0,1,0,0] (body Tryd.f198)) (place_S0 b m ts turns s day i s1) place_K0 =
   some ([decide ((i : Int) < ((List.length turns : Nat) : Int)) = false],Ex.exit 0,[(.tmp 1,.d (D.int .i64 s1)),(.tmp 2,.d (D.int .i64 day)),(.tmp 4,.d (D.ptr 4 0)),(.tmp 8,.d (D.int .i64 0)),(.tmp 11,.d (D.sl false E.int turns)),(.tmp 12,.d (D.int .i64 (((List.length turns : Nat) : Int)))),(.tmp 13,.d (D.int .i64 ((i : Int)))),(.box 4,.bx (some (Box.mk false [D.sl false E.sec (Book.secs b),D.sl false E.int (Book.turns b),D.sl false E.sv (Book.svs b),D.int .i64 (Book.rule b),D.int .i64 (Book.days b),D.map m,D.sl false E.trc ts])))]) := by kernel_rfl
theorem place_all (b : Book) (m : Mp) (ts : List TrC) (turns : List Int) (s day : Int) (i : Nat) (s1 : Int) :
  callF (mk PR (lookN types) glob 29) [] [] [(0,(place_K0,(.normal,place_S0 b m ts turns s day i s1)))] (body Tryd.f198) [.tmp 8] [bkD b m ts,.int .i64 s,.int .i64 day,.sl false .int turns] =
   some ([Cfg.lk (mk PR (lookN types) glob 29) (Code.at [1,0,1] (body Tryd.f198)) [(.tmp 1,.d (D.int .i64 s)),(.tmp 2,.d (D.int .i64 day)),(.tmp 4,.d (D.ptr 4 0)),(.tmp 8,.d (D.int .i64 0)),(.tmp 11,.d (D.sl false E.int turns)),(.tmp 12,.d (D.int .i64 (((List.length turns : Nat) : Int)))),(.tmp 13,.d (D.int .i64 0)),(.box 4,.bx (some (Box.mk false [D.sl false E.sec (Book.secs b),D.sl false E.int (Book.turns b),D.sl false E.sv (Book.svs b),D.int .i64 (Book.rule b),D.int .i64 (Book.days b),D.map m,D.sl false E.trc ts])))] Ex.normal (place_S0 b m ts turns s day i s1)],D.int .i64 s1) := by kernel_rfl
end Go.Di

namespace Go.Di
open Proofs
theorem mixed_ok : PR.follows .mixedOrders = true := Proofs.Tryd.checked.mixed
theorem G (n : Nat) : Good PR (mk PR (lookN types) glob n) := good mixed_ok types_ok

def placeF (n : Int) (turns : List Int) (day s : Int) : Int := turns.foldl (fun s t => if t ≤ day then n - 1 - s else s) s

theorem take_foldl {α β : Type} (f : β → α → β) (l : List α) (x : β) (i : Nat) (d : α) (h : i < l.length) : (l.take (i + 1)).foldl f x = f ((l.take i).foldl f x) (l.getD i d) := by
 rw [List.take_add_one,List.foldl_append,List.getElem?_eq_getElem h,List.getD_eq_getElem?_getD,List.getElem?_eq_getElem h]
 rfl

theorem placeF_in {n : Int} {turns : List Int} {day s : Int} (h : 0 ≤ s ∧ s < n) : 0 ≤ placeF n turns day s ∧ placeF n turns day s < n := by
 unfold placeF
 induction turns generalizing s with
 | nil => exact h
 | cons t l ih =>
  simp only [List.foldl_cons]
  refine ih ?_
  split <;> omega

theorem place_con (b : Book) (m : Mp) (ts : List TrC) (turns : List Int) (s day : Int) (hs : 0 ≤ s ∧ s < b.secs.length) (hn : b.secs.length ≤ 1000) (ht : turns.length ≤ 1000) :
  Contract PR glob 198 [bkD b m ts,.int .i64 s,.int .i64 day,.sl false .int turns] (.int .i64 (placeF b.secs.length turns day s)) := by
 refine contract_of_path (G 29) place_fn (place_all b m ts turns s day turns.length (placeF b.secs.length turns day s)) ⟨?_,trivial⟩
 show LoopT _ _ _ _ _ _ _
 rw [show Code.at [1,0,1] (body Tryd.f198) = .block 0 (.loop (Code.at [1,0,1,0,0] (body Tryd.f198))) from by kernel_rfl]
 refine LoopT.rounds (tt := lookN types) (S := fun i : {i : Nat // i ≤ turns.length} => place_S0 b m ts turns s day i.1 (placeF b.secs.length (turns.take i.1) day s)) (fun i => turns.length - i.1) ?_ ⟨0,Nat.zero_le _⟩
 intro ⟨i,hi⟩
 have hin := placeF_in (turns := turns.take i) (day := day) hs
 by_cases hlt : i < turns.length
 ·have hf := take_foldl (fun s t => if t ≤ day then (b.secs.length : Int) - 1 - s else s) turns s i 0 hlt
  by_cases hd : turns.getD i 0 ≤ day
  ·refine WpL.path (G 29) (place_0_turn b m ts turns s day i _) ?_ ⟨⟨i + 1,hlt⟩,?_,by dsimp only; omega⟩
   ·simp only [allP,decide_eq_true_eq,inI64,Int.toNat_natCast,E.z]
    refine ⟨by omega,by omega,by omega,decide_eq_true hd,by omega,by omega,by omega,trivial⟩
   ·rw [if_pos hd] at hf
    unfold placeF at *
    rw [hf]
    rfl
  ·refine WpL.path (G 29) (place_0_stay b m ts turns s day i _) ?_ ⟨⟨i + 1,hlt⟩,?_,by dsimp only; omega⟩
   ·simp only [allP,decide_eq_true_eq,decide_eq_false_iff_not,inI64,Int.toNat_natCast,E.z]
    refine ⟨by omega,by omega,by omega,decide_eq_false hd,by omega,trivial⟩
   ·rw [if_neg hd] at hf
    unfold placeF at *
    rw [hf]
    rfl
 ·have he : i = turns.length := by omega
  subst he
  refine WpL.path (G 29) (place_0_end b m ts turns s day _ _) ?_ ⟨rfl,?_⟩
  ·simp only [allP,decide_eq_false_iff_not]
   exact ⟨by omega,trivial⟩
  ·rw [List.take_length]
   rfl
end Go.Di

namespace Go.Di
open Proofs
def spD (s : Span) : D := .agg [.int .i64 s.lo,.int .i64 s.hi]
def wD (a b c d : Int) : D := .agg [.int .i64 a,.int .i64 b,.int .i64 c,.int .i64 d]
def trD (t : TrC) : D := .agg (E.enc .trc t)
end Go.Di

