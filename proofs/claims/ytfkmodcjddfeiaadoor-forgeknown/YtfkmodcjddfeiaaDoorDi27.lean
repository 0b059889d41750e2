/- Part 27: an interpreter over plain data for this code, with the proof that it says what the model does, and the contracts of the functions. No condition. -/
import Derived.Test.YtfkmodcjddfeiaaDoorDi26
import Derived.Test.YtfkmodcjddfeiaaDoorCards
import Derived.Test.YtfkmodcjddfeiaaDoorTie
import Derived.SevenTiedAt
import Derived.Stop.Joined
import Derived.Deep.DeepWitnessRowRef
set_option linter.unusedVariables false
set_option linter.unusedSimpArgs false
set_option maxRecDepth 100000
namespace Go.Di
open Proofs
open Go.RowKit Go.ChangeShapes Go.WideShapes Go.Deep Go.ChangeAt Go.Proofs
open Go.Proofs.YtfkmodcjddfeiaaDoor

/-! ### The program's facts -/
theorem laidOut : laidOutB Tryd.prog = true := by kernel_rfl
theorem own : ownKnob Tryd.prog.godebug = none := by kernel_rfl
theorem gNowhere : Tryd.prog.globalNamed "prow/chain.nowhere" = some 1 := by kernel_rfl
theorem gBegin : Tryd.prog.globalNamed "prow/forge.begin" = some 2 := by kernel_rfl
theorem gThicks : Tryd.prog.globalNamed "prow/forge.thicks" = some 3 := by kernel_rfl
theorem tBegin : (Tryd.prog.globals[2]?).map (·.type) = some 108 := by kernel_rfl
theorem tThicks : (Tryd.prog.globals[3]?).map (·.type) = some 192 := by kernel_rfl
theorem tNowhere : (Tryd.prog.globals[1]?).map (·.type) = some 179 := by kernel_rfl

section
variable {H : Type} {enc : TypeId × Value → H} {w : World} {sp : Nat → Bool} {hd : Bool}
/-- The fields of a struct. -/
noncomputable def fld (t i : Nat) : Field := match Tryd.prog.underlying t with
 | some (.struct fs) => fs.getD i default
 | _ => default
end

/-! ### The listed variables -/
theorem trod_arr2 {H : Type} {enc : TypeId × Value → H} {P : Program} {w : World} {sp : Nat → Bool} {hd : Bool} {t et : TypeId} (ht : P.underlying t = some (.array 2 et)) (hc : P.cellsOf t = 2) (ce : P.cellsOf et = 1) {fuel : Nat} {cs : List Value} {d0 d1 : DataW H} {ps : List MemPlace}
  (h : DataW.trod enc P w 0 sp hd fuel t cs = some (.agg [d0,d1],ps)) : ∃ v0 v1 k q0 q1,cs = [v0,v1] ∧ DataW.trod enc P w 0 sp hd k et [v0] = some (d0,q0) ∧ DataW.trod enc P w 0 sp hd k et [v1] = some (d1,q1) := by
 cases fuel with
 | zero => simp [DataW.trod] at h
 | succ k =>
  unfold DataW.trod at h
  rw [ht] at h
  simp only [ce,Nat.mul_one] at h
  split at h
  ·rename_i hl
   rw [hc] at hl
   match cs,hl with
   | [v0,v1],_ =>
    have hr : List.range 2 = [0,1] := rfl
    rw [hr] at h
    simp only [List.mapM_cons,List.mapM_nil] at h
    cases h0 : DataW.trod enc P w 0 sp hd k et (List.take 1 (List.drop 0 [v0,v1])) with
    | none => rw [h0] at h; cases h
    | some x0 =>
     rw [h0] at h
     cases h1 : DataW.trod enc P w 0 sp hd k et (List.take 1 (List.drop 1 [v0,v1])) with
     | none => rw [h1] at h; cases h
     | some x1 =>
      rw [h1] at h
      have h' : (DataW.agg [x0.1,x1.1],x0.2 ++ (x1.2 ++ [])) = (DataW.agg [d0,d1],ps) := Option.some.inj h
      simp only [Prod.mk.injEq,DataW.agg.injEq,List.cons.injEq,and_true] at h'
      obtain ⟨⟨rfl,rfl⟩,_⟩ := h'
      exact ⟨v0,v1,k,x0.2,x1.2,rfl,h0,h1⟩
  ·cases h
theorem trod_pair {H : Type} {enc : TypeId × Value → H} {w : World} {sp : Nat → Bool} {hd : Bool} {fuel : Nat} {cs : List Value} {a b : Int} {ps : List MemPlace}
  (h : DataW.trod enc Tryd.prog w 0 sp hd fuel 179 cs = some (.agg [.lit (.int .i64 a),.lit (.int .i64 b)],ps)) : cs = [.int .i64 a,.int .i64 b] := by
 obtain ⟨xs,k,_,hx,hl,hxl,hf⟩ := DataW.trod_struct (t := 179) (fs := #[fld 179 0,fld 179 1]) (by kernel_rfl) h
 have hc : Tryd.prog.cellsOf 179 = 2 := by kernel_rfl
 rw [hc] at hl
 have c0 : Tryd.prog.cellsOf (fld 179 0).type = 1 := by kernel_rfl
 have c1 : Tryd.prog.cellsOf (fld 179 1).type = 1 := by kernel_rfl
 have o0 : (fld 179 0).offset = 0 := by kernel_rfl
 have o1 : (fld 179 1).offset = 1 := by kernel_rfl
 match xs,hxl,cs,hl with
 | [y0,y1],_,[v0,v1],_ =>
  have g0 := hf 0 (fld 179 0) rfl
  have g1 := hf 1 (fld 179 1) rfl
  simp [o0,o1,c0,c1] at g0 g1
  obtain ⟨n0,e0,e0',_⟩ := DataW.trod_int (k := .i64) (by kernel_rfl) g0
  obtain ⟨n1,e1,e1',_⟩ := DataW.trod_int (k := .i64) (by kernel_rfl) g1
  simp only [List.cons.injEq,and_true] at e0 e1
  simp only [List.map_cons,List.map_nil,Prod.mk.injEq,DataW.agg.injEq,List.cons.injEq,and_true] at hx
  obtain ⟨⟨q0,q1⟩,_⟩ := hx
  rw [e0'] at q0
  rw [e1'] at q1
  simp only [DataW.lit.injEq,Lit.int.injEq,true_and] at q0 q1
  subst q0 q1
  rw [e0,e1]
theorem trod_pairB {H : Type} {enc : TypeId × Value → H} {w : World} {sp : Nat → Bool} {hd : Bool} {fuel : Nat} {cs : List Value} {a b : Int} {ps : List MemPlace}
  (h : DataW.trod enc Tryd.prog w 0 sp hd fuel 108 cs = some (.agg [.lit (.int .i64 a),.lit (.int .i64 b)],ps)) : cs = [.int .i64 a,.int .i64 b] := by
 obtain ⟨xs,k,_,hx,hl,hxl,hf⟩ := DataW.trod_struct (t := 108) (fs := #[fld 108 0,fld 108 1]) (by kernel_rfl) h
 have hc : Tryd.prog.cellsOf 108 = 2 := by kernel_rfl
 rw [hc] at hl
 have c0 : Tryd.prog.cellsOf (fld 108 0).type = 1 := by kernel_rfl
 have c1 : Tryd.prog.cellsOf (fld 108 1).type = 1 := by kernel_rfl
 have o0 : (fld 108 0).offset = 0 := by kernel_rfl
 have o1 : (fld 108 1).offset = 1 := by kernel_rfl
 match xs,hxl,cs,hl with
 | [y0,y1],_,[v0,v1],_ =>
  have g0 := hf 0 (fld 108 0) rfl
  have g1 := hf 1 (fld 108 1) rfl
  simp [o0,o1,c0,c1] at g0 g1
  obtain ⟨n0,e0,e0',_⟩ := DataW.trod_int (k := .i64) (by kernel_rfl) g0
  obtain ⟨n1,e1,e1',_⟩ := DataW.trod_int (k := .i64) (by kernel_rfl) g1
  simp only [List.cons.injEq,and_true] at e0 e1
  simp only [List.map_cons,List.map_nil,Prod.mk.injEq,DataW.agg.injEq,List.cons.injEq,and_true] at hx
  obtain ⟨⟨q0,q1⟩,_⟩ := hx
  rw [e0'] at q0
  rw [e1'] at q1
  simp only [DataW.lit.injEq,Lit.int.injEq,true_and] at q0 q1
  subst q0 q1
  rw [e0,e1]
theorem laid_globF {W : World} (h : laidMetH Tryd.prog [("prow/chain.nowhere",YtfkmodcjddfeiaaDoor.Rows.laid_prow_chain_nowhere),("prow/forge.begin",YtfkmodcjddfeiaaDoor.Rows.laid_prow_forge_begin),("prow/forge.thicks",YtfkmodcjddfeiaaDoor.Rows.laid_prow_forge_thicks)] W) :
  ∀ g cs,globF g = some cs → Rel (Old W) W (.ref cs 0) (.pointer (some ⟨g,0,none⟩)) := by
 intro g cs hg
 match g,hg with
 | 1,hg =>
  cases hg
  obtain ⟨⟨ps,⟨g',t,vs,fuel,p,q,hg',ht,hv,hd,_,_⟩,_⟩,_⟩ := h
  obtain rfl := Option.some.inj (gNowhere.symm.trans hg')
  obtain rfl := Option.some.inj (tNowhere.symm.trans ht)
  have e := trod_pair hd
  refine ⟨1,0,rfl,fun j d hj => ?_⟩
  have hc := World.var?_cell hg' hv
  have hs : vs = #[.int .i64 (-1),.int .i64 (-1)] := by rw [← Array.toArray_toList (xs := vs),e]
  match j,hj with
  | 0,hj =>
   cases hj
   have h0 := hc 0
   rw [hs] at h0
   exact ⟨_,rfl,cell_old h0,h0⟩
  | 1,hj =>
   cases hj
   have h0 := hc 1
   rw [hs] at h0
   exact ⟨_,rfl,cell_old h0,h0⟩
 | 2,hg =>
  cases hg
  obtain ⟨⟨ps,⟨_,_,_,_,_,_,_,_,_,_,hrest,_⟩,_⟩,_⟩ := h
  obtain ⟨g',t,vs,fuel,p,q,hg',ht,hv,hd,_,_⟩ := hrest
  obtain rfl := Option.some.inj (gBegin.symm.trans hg')
  obtain rfl := Option.some.inj (tBegin.symm.trans ht)
  have e := trod_pairB hd
  refine ⟨2,0,rfl,fun j d hj => ?_⟩
  have hc := World.var?_cell hg' hv
  have hs : vs = #[.int .i64 (-1),.int .i64 0] := by rw [← Array.toArray_toList (xs := vs),e]
  match j,hj with
  | 0,hj =>
   cases hj
   have h0 := hc 0
   rw [hs] at h0
   exact ⟨_,rfl,cell_old h0,h0⟩
  | 1,hj =>
   cases hj
   have h0 := hc 1
   rw [hs] at h0
   exact ⟨_,rfl,cell_old h0,h0⟩
 | 3,hg =>
  cases hg
  obtain ⟨g',t,vs,fuel,p,hg',ht,hv,hd⟩ := h.funcs (n := "prow/forge.thicks") (List.mem_cons_of_mem _ (List.mem_cons_of_mem _ (List.mem_cons_self ..)))
  obtain rfl := Option.some.inj (gThicks.symm.trans hg')
  obtain rfl := Option.some.inj (tThicks.symm.trans ht)
  obtain ⟨v0,v1,k,q0,q1,e,h0,h1⟩ := trod_arr2 (t := 192) (et := 191) (by kernel_rfl) (by kernel_rfl) (by kernel_rfl) hd
  have hf : Tryd.prog.underlying 191 = some (.func #[151,3,3,3] #[3] false) := by kernel_rfl
  obtain rfl := func_of_trod (f0 := 226) hf (by kernel_rfl) h0
  obtain rfl := func_of_trod (f0 := 227) hf (by kernel_rfl) h1
  refine ⟨3,0,rfl,fun j d hj => ?_⟩
  have hc := World.var?_cell hg' hv
  have hs : vs = #[.func (.func 226) #[] #[],.func (.func 227) #[] #[]] := by rw [← Array.toArray_toList (xs := vs),e]
  match j,hj with
  | 0,hj =>
   cases hj
   have h0 := hc 0
   rw [hs] at h0
   exact ⟨_,⟨#[],#[],rfl,trivial,trivial⟩,cell_old h0,h0⟩
  | 1,hj =>
   cases hj
   have h0 := hc 1
   rw [hs] at h0
   exact ⟨_,⟨#[],#[],rfl,trivial,trivial⟩,cell_old h0,h0⟩

/-! ### A world for the witness -/
def lay1 : Obj → Obj
 | .cells _ t frozen => .cells #[.int .i64 (-1),.int .i64 (-1)] t frozen
 | o => o
def lay2 : Obj → Obj
 | .cells _ t frozen => .cells #[.int .i64 (-1),.int .i64 0] t frozen
 | o => o
def lay3 : Obj → Obj
 | .cells _ t frozen => .cells #[.func (.func 226) #[] #[],.func (.func 227) #[] #[]] t frozen
 | o => o
noncomputable def laidWorld (os : Os) : World :=
 { World.holding Tryd.prog os ⟨#[],#[],[]⟩ with heap := (((World.holding Tryd.prog os ⟨#[],#[],[]⟩).heap.modify 1 lay1).modify 2 lay2).modify 3 lay3 }
theorem laid_met (os : Os) (args : Array Value) : laidMetH Tryd.prog [("prow/chain.nowhere",Rows.laid_prow_chain_nowhere),("prow/forge.begin",Rows.laid_prow_forge_begin),("prow/forge.thicks",Rows.laid_prow_forge_thicks)] ((laidWorld os).forCall (fun _ _ => 0) ⟨#[],args,[]⟩).memory :=
 laidMetH_of_parts3 (fuel := 8) (laidMet_of_run' 8 (by kernel_rfl) (by kernel_rfl)) (by kernel_rfl) (by kernel_rfl)
theorem calls_lawF {f : FuncId} {W : World} {args : Array Value} {ds : List D} (hc : Contract Tryd.prog globF f ds (.bool true)) (hg : ∀ g cs,globF g = some cs → Rel (Old W) W (.ref cs 0) (.pointer (some ⟨g,0,none⟩))) (ha : All2 (Rel (Old W) W) ds args.toList) :
  Calls Tryd.prog f args W fun e W' => e = .returned (.bool true) ∧ Below W.heap.size W W' := by
 have := hc.calls W (Old W) args.toList (fun b o h => h) hg ha
 rw [Array.toArray_toList] at this
 exact this.mono fun e W' ⟨v,he,hb,R',_,_,hr⟩ => ⟨by rw [he,show v = .bool true from hr],hb⟩
theorem under4 : Tryd.prog.underlying 4 = some .bool := by kernel_rfl

/-! ### More kinds of arguments -/
section
variable {H : Type} {enc : TypeId × Value → H} {w : World} {sp : Nat → Bool} {hd : Bool}
end
end Go.Di

/-
 DI,part P2: rows that were written are shut: from then on they are told by their elements. Contracts of functions that return such rows.
-/
namespace Go.Di
open Go.RowKit

/-- A cell as it is told for good. -/
def asC (s : St) : D → Option D
 | .own i n => match s (.obj i) with
  | .ob (some o) => match Nat.beq n o.xs.length with
   | true => some (.sl false o.e o.xs)
   | false => none
  | _ => none
 | .int k n => some (.int k n)
 | .bool b => some (.bool b)
 | .nil => some .nil
 | .sl f e xs => some (.sl f e xs)
 | _ => none
def asCs (s : St) : List D → Option (List D)
 | [] => some []
 | d :: l => match asC s d,asCs s l with
  | some d',some l' => some (d' :: l')
  | _,_ => none
def chunks (n : Nat) : Nat → List D → List (List D)
 | 0,_ => []
 | k + 1,l => l.take n :: chunks n k (l.drop n)
def shutC (i : Nat) (e : E) (xs : List e.α) : D → D
 | .row j n => match Nat.beq j i,Nat.beq n xs.length with
  | true,true => .sl false e xs
  | _,_ => .row j n
 | d => d
def shutD (i : Nat) (e : E) (xs : List e.α) : D → D
 | .agg cs => .agg (cs.map (shutC i e xs))
 | d => shutC i e xs d
def shutV (i : Nat) (e : E) (xs : List e.α) : Val → Val
 | .d d => .d (shutD i e xs d)
 | .bx (some b) => .bx (some ⟨b.frozen,b.cells.map (shutC i e xs)⟩)
 | v => v
def shutK (i : Nat) (e : E) (xs : List e.α) (cs : List D) (k : Key) (v : Val) : Val := match k.eqb (.box i) with
 | true => .bx (some ⟨true,cs⟩)
 | false => shutV i e xs v
def shutL (i : Nat) (e : E) (L : List (Key × Val)) : Option (List (Key × Val)) := match (ofL L) (.box i) with
 | .bx (some b) => match b.frozen,asCs (ofL L) b.cells with
  | false,some cs => match decAll e (chunks e.sz (cs.length / e.sz) cs),Nat.beq (cs.length / e.sz * e.sz) cs.length with
   | some xs,true => some (L.map fun p => (p.1,shutK i e xs cs p.1 p.2))
   | _,_ => none
  | _,_ => none
 | _ => none

theorem all2_nil' {α β γ : Type} {p : α → β → Prop} {q : γ → β → Prop} : ∀ {m : List β},All2 p ([] : List α) m → All2 q ([] : List γ) m
 | [],_ => trivial
 | _ :: _,h => h.elim

theorem ofL_map (G : Key → Val → Val) : ∀ (L : List (Key × Val)) (k : Key),(ofL (L.map fun p => (p.1,G p.1 p.2))) k = G k ((ofL L) k) ∨ ((ofL L) k = dflt k ∧ (ofL (L.map fun p => (p.1,G p.1 p.2))) k = dflt k)
 | [],k => .inr ⟨rfl,rfl⟩
 | (k0,v0) :: L,k => by
  simp only [List.map_cons,ofL,St.set]
  cases h : k0.eqb k with
  | true =>
   obtain rfl := eqb_eq h
   exact .inl rfl
  | false => exact ofL_map G L k

section
variable {P : Program} {C : Cfg} {w0 w : World} {R0 R : Foot} {a : Act} {s : St} {β : Nat → Nat} {σ : Sig}

theorem Inv.retell (h : Inv C w0 R0 a w s β σ R) {s' : St} (ho : ∀ i,s'.ob i = s.ob i) (hm : ∀ i,s'.mp i = s.mp i) (ht : ∀ j v,RelT β σ s R w (s.tmp j) v → RelT β σ s' R w (s'.tmp j) v)
  (hb : ∀ j b',s'.bx j = some b' → ∃ b,s.bx j = some b ∧ b'.frozen = b.frozen ∧ b'.cells.length = b.cells.length ∧ (∀ vs,All2 (RelC R w) b.cells vs → All2 (RelC R w) b'.cells vs) ∧ ∀ vs,All2 (RelTC β σ s R w) b.cells vs → All2 (RelTC β σ s' R w) b'.cells vs) : Inv C w0 R0 a w s' β σ R := by
 refine ⟨h.below,h.defers,h.fix,h.nt,h.sub,h.dom,h.glob,fun i => ht i _ (h.tmps i),fun i b' hi => ?_,fun i j bi bj hi hj e => ?_,fun k o hk => ?_,?_,h.mps.same hm ho⟩
 ·obtain ⟨b,hi0,hf,hl,g1,g2⟩ := hb i b' hi
  obtain ⟨h1,⟨arr,el,h2,h3,h4,h5⟩,h6⟩ := h.box i b hi0
  refine ⟨h1,⟨arr,el,h2,fun x => ?_,fun x => ?_,fun x => h5 (hf ▸ x)⟩,fun x => h6 (hf ▸ x)⟩
  ·rw [hl]
   exact g1 _ (h3 (hf ▸ x))
  ·rw [hl]
   exact g2 _ (h4 (hf ▸ x))
 ·obtain ⟨b,hi0,_⟩ := hb i bi hi
  obtain ⟨b2,hj0,_⟩ := hb j bj hj
  exact h.inj i j b b2 hi0 hj0 e
 ·obtain ⟨h1,h2⟩ := h.obj k o (by rw [← ho]; exact hk)
  refine ⟨h1,fun hl => ?_⟩
  obtain ⟨g,off,q1,q2,q3,q4,q5,q6⟩ := h2 hl
  exact ⟨g,off,q1,q2,q3,fun i b hi => by
   obtain ⟨b0,hi0,_⟩ := hb i b hi
   exact q4 i b0 hi0,fun k' o' hk' => q5 k' o' (by rw [← ho]; exact hk'),q6⟩
 ·refine ⟨h.far.sz,fun b hb' => ?_,fun b hb' => ?_⟩
  ·obtain ⟨p1,p2,p3,p4⟩ := h.far.ke b hb'
   refine ⟨p1,p2,fun i x hi hx => ?_,fun k o hk => p4 k o (by rw [← ho]; exact hk)⟩
   obtain ⟨b0,hi0,hf,_⟩ := hb i x hi
   exact p3 i b0 hi0 (hf ▸ hx)
  ·obtain ⟨p1,p2,p3,p4,p5⟩ := h.far.no b hb'
   refine ⟨p1,p2,p3,fun i x hi => ?_,fun k o hk => p5 k o (by rw [← ho]; exact hk)⟩
   obtain ⟨b0,hi0,_⟩ := hb i x hi
   exact p4 i b0 hi0

theorem asC_ok (hI : Inv C w0 R0 a w s β σ R) {d d' : D} {v : Value} (h : asC s d = some d') (hr : RelTC β σ s R w d v) : RelC0 R w d' v := by
 unfold asC at h
 split at h
 ·split at h
  ·rename_i o ho
   split at h
   ·rename_i hn
    cases h
    exact obj_sl hI (ob_of ho) (Nat.eq_of_beq_eq_true hn) hr
   ·cases h
  ·cases h
 all_goals first | (cases h; exact hr) | cases h
theorem asCs_ok (hI : Inv C w0 R0 a w s β σ R) : ∀ {cs cs' : List D} {vs : List Value},asCs s cs = some cs' → All2 (RelTC β σ s R w) cs vs → All2 (RelC0 R w) cs' vs
 | [],cs',vs,h,hr => by
  cases h
  exact all2_nil' hr
 | d :: l,cs',vs,h,hr => by
  obtain ⟨v,vs,rfl,h1,h2⟩ := all2_cons hr
  simp only [asCs] at h
  split at h
  ·rename_i d' l' hd hl
   cases h
   exact ⟨asC_ok hI hd h1,asCs_ok hI hl h2⟩
  ·cases h
theorem asCs_length : ∀ {cs cs' : List D},asCs s cs = some cs' → cs'.length = cs.length
 | [],cs',h => by
  cases h
  rfl
 | d :: l,cs',h => by
  simp only [asCs] at h
  split at h
  ·rename_i d' l' hd hl
   cases h
   simp [asCs_length hl]
  ·cases h

theorem dec_chunk {e : E} : ∀ (k : Nat) (cs : List D) (xs : List e.α) (vs : List Value),decAll e (chunks e.sz k cs) = some xs → All2 (RelC0 R w) cs vs → xs.length = k ∧ ∀ (i : Nat) (x : e.α),xs[i]? = some x → RelE R w e x ((vs.drop (i * e.sz)).take e.sz)
 | 0,cs,xs,vs,h,hr => by
  cases h
  exact ⟨rfl,fun i x hx => by simp at hx⟩
 | k + 1,cs,xs,vs,h,hr => by
  simp only [chunks,decAll] at h
  split at h
  ·rename_i x xs' hx hxs
   cases h
   obtain ⟨h1,h2⟩ := dec_chunk k (cs.drop e.sz) xs' (vs.drop e.sz) hxs (hr.drop e.sz)
   refine ⟨by simp [h1],fun i y hy => ?_⟩
   cases i with
   | zero =>
    simp only [List.getElem?_cons_zero,Option.some.injEq] at hy
    subst hy
    rw [Nat.zero_mul,List.drop_zero]
    exact dec_rel e _ _ _ hx (hr.take e.sz)
   | succ i =>
    have := h2 i y (by simpa using hy)
    rw [List.drop_drop] at this
    rw [show (i + 1) * e.sz = e.sz + i * e.sz by rw [Nat.add_mul]; omega]
    exact this
  ·cases h

theorem Holds.shut {i : Nat} {e : E} {L L' : List (Key × Val)} (h : shutL i e L = some L') (hH : Holds C w0 R0 a w (ofL L)) : Holds C w0 R0 a w (ofL L') := by
 obtain ⟨β,σ,R,hI⟩ := hH
 unfold shutL at h
 split at h
 ·rename_i b hb
  split at h
  ·rename_i cs hf hcs
   split at h
   ·rename_i xs hxs hn
    cases h
    have hn := Nat.eq_of_beq_eq_true hn
    obtain ⟨s,hs⟩ : ∃ s,s = ofL L := ⟨_,rfl⟩
    rw [← hs] at hI hb hcs
    have hbx : s.bx i = some b := bx_of hb
    have hB := hI.box i b hbx
    obtain ⟨arr,el,p2,p3,p4,p5⟩ := hB.cells
    have hrel := asCs_ok hI hcs (p4 hf)
    have hlen := asCs_length hcs
    have hl2 := All2.length hrel
    obtain ⟨n,⟨arr',el',q1,q2⟩,hI1⟩ := hI.freeze hbx cs (fun ar e2 hq => by
     rw [p2] at hq
     cases hq
     rw [hlen]
     exact hrel.imp fun _ _ => RelC.of0)
    rw [p2] at q1
    cases q1
    subst q2
    obtain ⟨hxl,hxe⟩ := dec_chunk (R := R) (w := w) (cs.length / e.sz) cs xs _ hxs hrel
    have hk1 : Keeps R (addF R (β i) 0 arr.size) w w := ⟨fun _ _ hr => .inl hr,fun _ _ _ _ h => h,fun _ _ _ _ h => h⟩
    obtain ⟨R1,hR1⟩ : ∃ R1,R1 = addF R (β i) 0 arr.size := ⟨_,rfl⟩
    rw [← hR1] at hI1 hk1
    have hbl : b.cells.length ≤ arr.size := by
     have := All2.length (p4 hf)
     rw [List.length_take,Array.length_toList] at this
     omega
    -- what a row of box i is,told by its elements
    have hrow : ∀ v c,c ≤ maxLen → xs.length ≤ c → v = .slice (some ⟨β i,0,none⟩) xs.length c → SlR (RelE R1 w e) e.sz R1 w false xs v := by
     intro v c hc1 hc2 hv
     refine ⟨some ⟨β i,0,none⟩,c,hv,hc2,hc1,fun x => (by cases x),fun hp => ⟨β i,0,rfl,fun q x hx => ?_⟩⟩
     have hq : q < xs.length := (List.getElem?_eq_some_iff.1 hx).1
     have hle : (q + 1) * e.sz ≤ cs.length := by
      have := Nat.mul_le_mul_right e.sz (show q + 1 ≤ cs.length / e.sz by omega)
      omega
     rw [Nat.add_mul] at hle
     refine ⟨_,?_,RelE.keep hk1 _ _ _ (hxe q x hx),fun j u hu => ?_⟩
     ·rw [List.length_take,List.length_drop,← hl2]
      omega
     ·have hj : j < e.sz := by
       have := (List.getElem?_eq_some_iff.1 hu).1
       rw [List.length_take] at this
       omega
      rw [List.getElem?_take,if_pos hj,List.getElem?_drop,List.getElem?_take,if_pos (by omega),Array.getElem?_toList] at hu
      rw [Nat.zero_add]
      refine ⟨by rw [hR1]; exact .inr ⟨rfl,Nat.zero_le _,by omega⟩,?_⟩
      rw [cell_of p2]
      exact hu
    have hmap := ofL_map (shutK i e xs cs) L
    rw [← hs] at hmap
    obtain ⟨s1,hs1⟩ : ∃ s1,s1 = s.set (.box i) (.bx (some ⟨true,cs⟩)) := ⟨_,rfl⟩
    obtain ⟨s',hs'⟩ : ∃ s',s' = ofL (L.map fun p => (p.1,shutK i e xs cs p.1 p.2)) := ⟨_,rfl⟩
    rw [← hs'] at hmap ⊢
    rw [← hs1] at hI1
    have hget : ∀ k,s' k = shutK i e xs cs k (s k) := by
     intro k
     rcases hmap k with h | ⟨h1,h2⟩
     ·exact h
     ·rw [h2,h1]
      unfold shutK
      cases hk : k.eqb (.box i) with
      | true =>
       obtain rfl := eqb_eq hk
       rw [hb] at h1
       cases h1
      | false => cases k <;> rfl
    have htmp : ∀ j,s' (.tmp j) = shutV i e xs (s (.tmp j)) := fun j => hget _
    have hobj : ∀ j,s' (.obj j) = shutV i e xs (s (.obj j)) := fun j => hget _
    have hmp : ∀ j,s' (.mp j) = shutV i e xs (s (.mp j)) := fun j => hget _
    have hbox : ∀ j,s' (.box j) = if i = j then .bx (some ⟨true,cs⟩) else shutV i e xs (s (.box j)) := by
     intro j
     rw [hget]
     unfold shutK
     simp only [Key.eqb]
     by_cases he : i = j
     ·rw [if_pos he,beq_t he.symm]
     ·rw [if_neg he,beq_f (fun x => he x.symm)]
    have hbx' : ∀ j,(∃ b,s1.bx j = some b) → ∃ b,s'.bx j = some b := by
     intro j ⟨b1,hb1⟩
     unfold St.bx
     rw [hbox]
     by_cases he : i = j
     ·rw [if_pos he]
      exact ⟨_,rfl⟩
     ·rw [if_neg he]
      rw [hs1,bx_set_box,if_neg he] at hb1
      unfold St.bx at hb1
      split at hb1
      ·rename_i b2 hb2
       subst hb1
       exact ⟨_,by rw [hb2]; rfl⟩
      ·rename_i zs hz
       exact ⟨_,by rw [hz]; rfl⟩
      ·cases hb1
    have hob' : ∀ j,s'.ob j = s1.ob j := by
     intro j
     have : s1.ob j = s.ob j := by rw [hs1]; rfl
     rw [this]
     unfold St.ob
     rw [hobj]
     cases s (.obj j) with
     | bx b => cases b <;> rfl
     | _ => rfl
    have hmp' : ∀ j,s'.mp j = s1.mp j := by
     intro j
     have : s1.mp j = s.mp j := by rw [hs1]; rfl
     rw [this]
     unfold St.mp
     rw [hmp]
     cases s (.mp j) with
     | bx b => cases b <;> rfl
     | _ => rfl
    have hTC : ∀ d v,RelTC β σ s1 R1 w d v → RelTC β σ s' R1 w (shutC i e xs d) v := by
     intro d v hr
     cases d with
     | row j m =>
      obtain ⟨hb1,c,c1,c2,hv⟩ := hr
      by_cases he : j = i ∧ m = xs.length
      ·obtain ⟨rfl,rfl⟩ := he
       simp only [shutC,Nat.beq_refl]
       exact hrow v c c2 c1 hv
      ·have : shutC i e xs (.row j m) = .row j m := by
        simp only [shutC]
        split
        ·rename_i h1 h2
         exact absurd ⟨Nat.eq_of_beq_eq_true h1,Nat.eq_of_beq_eq_true h2⟩ he
        ·rfl
       rw [this]
       exact ⟨hbx' j hb1,c,c1,c2,hv⟩
     | own j m =>
      obtain ⟨o,h1,h2⟩ := hr
      exact ⟨o,by rw [hob']; exact h1,h2⟩
     | mref j =>
      obtain ⟨⟨m,h1⟩,h2⟩ := hr
      exact ⟨⟨m,by rw [hmp']; exact h1⟩,h2⟩
     | _ => exact hr
    have hTCs : ∀ ds vs,All2 (RelTC β σ s1 R1 w) ds vs → All2 (RelTC β σ s' R1 w) (ds.map (shutC i e xs)) vs := by
     intro ds
     induction ds with
     | nil => exact fun vs h => all2_nil' h
     | cons d ds ih =>
      intro vs h
      obtain ⟨v,vs,rfl,h1,h2⟩ := all2_cons h
      exact ⟨hTC _ _ h1,ih _ h2⟩
    have hCs : ∀ ds vs,All2 (RelC R1 w) ds vs → All2 (RelC R1 w) (ds.map (shutC i e xs)) vs := by
     intro ds
     induction ds with
     | nil => exact fun vs h => all2_nil' h
     | cons d ds ih =>
      intro vs h
      obtain ⟨v,vs,rfl,h1,h2⟩ := all2_cons h
      refine ⟨?_,ih _ h2⟩
      cases d with
      | row j m => exact h1.elim
      | _ => exact h1
    refine ⟨β,σ,R1,hI1.retell hob' hmp' (fun j v hr => ?_) (fun j b' hj => ?_)⟩
    ·have e1 : s1.tmp j = s.tmp j := by rw [hs1]; rfl
     rw [e1] at hr
     unfold St.tmp at hr ⊢
     rw [htmp]
     cases hsj : s (.tmp j) with
     | d d =>
      rw [hsj] at hr
      simp only [shutV] at hr ⊢
      cases d with
      | row k m => exact RelT.ofTC (hTC (.row k m) v hr)
      | agg ds =>
       obtain ⟨vs,hv,hr⟩ := hr
       exact ⟨vs,hv,hTCs _ _ hr⟩
      | own k m => exact RelT.ofTC (hTC (.own k m) v hr)
      | mref k => exact RelT.ofTC (hTC (.mref k) v hr)
      | ptr k m => exact ⟨hbx' k hr.1,hr.2⟩
      | _ => exact hr
     | bx b => cases b <;> exact trivial
     | ob o => exact trivial
     | mp m => exact trivial
     | rw zs => exact trivial
    ·unfold St.bx at hj
     rw [hbox] at hj
     by_cases he : i = j
     ·subst he
      rw [if_pos rfl] at hj
      cases hj
      refine ⟨⟨true,cs⟩,by rw [hs1,bx_set_box,if_pos rfl],rfl,rfl,fun _ h => h,fun vs h => ?_⟩
      -- a box that is shut has no such cells; what it has is told for good
      have h0 : ∀ (ds : List D) (us : List Value),ds.all is0 = true → All2 (RelTC β σ s1 R1 w) ds us → All2 (RelTC β σ s' R1 w) ds us := by
       intro ds
       induction ds with
       | nil => exact fun us _ h => all2_nil' h
       | cons d ds ih =>
        intro us ha h
        obtain ⟨u,us,rfl,h1,h2⟩ := all2_cons h
        simp only [List.all_cons,Bool.and_eq_true] at ha
        refine ⟨?_,ih _ ha.2 h2⟩
        cases d <;> first | exact h1 | exact absurd ha.1 (by simp [is0])
      refine h0 cs vs ?_ h
      have : ∀ (ds ds' : List D),asCs s ds = some ds' → ds'.all is0 = true := by
       intro ds
       induction ds with
       | nil => intro ds' h; cases h; rfl
       | cons d ds ih =>
        intro ds' h
        simp only [asCs] at h
        split at h
        ·rename_i d' l' hd hl
         cases h
         rw [List.all_cons,ih _ hl,Bool.and_true]
         unfold asC at hd
         split at hd
         ·split at hd
          ·split at hd <;> cases hd
           rfl
          ·cases hd
         all_goals first | (cases hd; rfl) | cases hd
        ·cases h
      exact this _ _ hcs
     ·rw [if_neg he] at hj
      have e1 : s1.bx j = s.bx j := by rw [hs1,bx_set_box,if_neg he]
      cases hsj : s (.box j) with
      | bx b0 =>
       rw [hsj] at hj
       cases b0 with
       | none => cases hj
       | some b0 =>
        simp only [shutV,Option.some.injEq] at hj
        subst hj
        exact ⟨b0,by rw [e1]; exact bx_of hsj,rfl,by simp,fun vs h => hCs _ _ h,fun vs h => hTCs _ _ h⟩
      | rw zs =>
       rw [hsj] at hj
       simp only [shutV,Option.some.injEq] at hj
       subst hj
       refine ⟨_,by rw [e1]; exact rw_of hsj,rfl,rfl,fun _ h => h,fun vs h => ?_⟩
       have := hTCs _ _ h
       have em : (intC zs).map (shutC i e xs) = intC zs := by
        simp only [intC,List.map_map]
        rfl
       rw [em] at this
       exact this
      | d d => rw [hsj] at hj; cases hj
      | ob o => rw [hsj] at hj; cases hj
      | mp m => rw [hsj] at hj; cases hj
   ·cases h
  ·cases h
 ·cases h

theorem WpL.shut {i : Nat} {e : E} {c : Code} {L L' : List (Key × Val)} {Post : Ex → List (Key × Val) → Prop} (hs : shutL i e L = some L') (h : WpL P C c L' Post) : WpL P C c L Post :=
 fun w0 R0 a w Q ro n hro hH hQ => h w0 R0 a w Q ro n hro (Holds.shut hs hH) hQ
theorem LoopT.shut {glob : Nat → Option (List D)} {n : Nat} {i : Nat} {e : E} {c : Code} {L L' L2 : List (Key × Val)} {x : Ex} (hs : shutL i e L = some L') (h : LoopT P glob n c L' x L2) : LoopT P glob n c L x L2 := ⟨WpL.shut hs h.wp⟩

/-- Rows are shut,one after the other; what is not looked at is forgotten. -/
def shuts : List (Nat × E) → List Key → List (Key × Val) → Option (List (Key × Val))
 | [],ks,L => match closedK ks (pickK (ofL L) ks) with
  | true => some (pickK (ofL L) ks)
  | false => none
 | (i,e) :: r,ks,L => match shutL i e L with
  | some L' => shuts r ks L'
  | none => none
theorem Holds.shuts {ks : List Key} : ∀ {l : List (Nat × E)} {L L' : List (Key × Val)},Di.shuts l ks L = some L' → Holds C w0 R0 a w (ofL L) → Holds C w0 R0 a w (ofL L')
 | [],L,L',h,hH => by
  simp only [Di.shuts] at h
  split at h
  ·rename_i hc
   cases h
   exact hH.restrict hc
  ·cases h
 | (i,e) :: r,L,L',h,hH => by
  simp only [Di.shuts] at h
  split at h
  ·rename_i L1 h1
   exact Holds.shuts h (Holds.shut h1 hH)
  ·cases h
theorem LoopT.shuts {glob : Nat → Option (List D)} {n : Nat} {l : List (Nat × E)} {ks : List Key} {c : Code} {L L' L2 : List (Key × Val)} {x : Ex} (hs : Di.shuts l ks L = some L') (h : LoopT P glob n c L' x L2) : LoopT P glob n c L x L2 :=
 ⟨fun w0 R0 a w Q ro n hro hH hQ => h.wp w0 R0 a w Q ro n hro (Holds.shuts hs hH) hQ⟩

theorem contractL_of_path {tt : TypeId → Option TI} {glob : Nat → Option (List D)} {n : Nat} (hG : Good P (mk P tt glob n)) {f : FuncId} {code : Code} {c t b : Nat} (hf : FnOk P (mk P tt glob n) f code [.cell c t]) {dec : List (Nat × Bool)} {orc : List (Nat × D)} {lorc : Lorc} {args cs cells : List D} {ps : List Prop}
  (h : callL (mk P tt glob n) dec orc lorc code c t b args = some (ps,cs,cells)) (hp : allP ps) : ContractL P glob f args cs cells := contractL_of_call hG rfl (fun _ h => h) (fun _ h => h) rfl rfl hf h (allP_mem hp)
end
end Go.Di

/-
 ForgeKnown: its books and plans.
-/
namespace Go.Di
open Proofs
/-- The types of the law: those of package forge,lists of books,and lists of plans. -/
def typesKF : List (Nat × TI) := [(114,⟨.slice 84,1,24,[.nil],some (.list .fbook),false⟩),(92,⟨.slice 90,1,24,[.nil],some (.list (.list .work)),false⟩)] ++ typesF
theorem typesKF_ok : TabOk PR (lookN typesKF) := tabOk (by kernel_rfl)
theorem GKF (n : Nat) : Good PR (mk PR (lookN typesKF) globF n) := good mixed_ok typesKF_ok
/-- The chapter's book,whose feet are a row that may be written: its cells. -/
def fliveCs (n : Int) : List D := [.sl false .sec (linksB []).secs,.sl false .int (linksB []).turns,.sl false .sv (linksB []).svs,.int .i64 (linksB []).rule,.int .i64 (linksB []).days,.row 0 2,.int .i64 40,.sl true .int ([3,5,9] : List Int),.int .i64 n,.int .i64 1]
def nine6 : List D := [.int .i64 9,.int .i64 6]
/-- The wrong books. -/
def fbadL : List FBook := [⟨⟨[],[],[],0,0⟩,[],0,[],0,0⟩,{ bookX 12 with chain := { linksB [] with rule := -1 } },{ bookX 12 with feet := [9] },{ bookX 12 with feet := [9,31] },{ bookX 12 with feet := [9,0] },{ bookX 12 with new := 201 },
 { bookX 12 with opn := [1,2,3,4,5] },{ bookX 12 with opn := [5,3] },bookX 201,bookX (-1),{ bookX 12 with opn := [13] },{ bookX 12 with make := 10 }]
/-- The wrong plans. -/
def fnoL : List (List Work) := [[⟨4,0⟩],[⟨3,2⟩],[⟨3,-1⟩],[⟨5,0⟩,⟨3,0⟩],[⟨5,1⟩,⟨5,0⟩],[⟨5,0⟩,⟨5,0⟩]]
def fleL : List (List Int) := [[0,6,28],[1,8,28]]
end Go.Di

namespace Go.Di
open Proofs
theorem fbookL_fn : FnOk PR (mk PR (lookN typesKF) globF 8) 95 (body Tryd.f95) [.cell 2 84] := by refine ⟨Tryd.f95,?_,?_,?_,?_,?_⟩ <;> kernel_rfl
theorem fownL_fn : FnOk PR (mk PR (lookN typesKF) globF 2) 94 (body Tryd.f94) [.cell 0 84] := by refine ⟨Tryd.f94,?_,?_,?_,?_,?_⟩ <;> kernel_rfl
theorem fbookL_live (n : Int) :
  callL (mk PR (lookN typesKF) globF 8) [] [(3,bookD (linksB [])),(4,.row 0 0)] [] (body Tryd.f95) 2 84 4 [.int .i64 n] =
   some ([Contract PR globF 153 [D.sl false E.sv []] (D.agg (bkCells (linksB [])))],[D.sl false E.sec (Book.secs (linksB [])),D.sl false E.int (Book.turns (linksB [])),D.sl false E.sv (Book.svs (linksB [])),D.int .i64 (Book.rule (linksB [])),D.int .i64 (Book.days (linksB [])),D.row 0 2,D.int .i64 40,D.sl true E.int [(3 : Int),(5 : Int),(9 : Int)],D.int .i64 n,D.int .i64 1],[D.int .i64 9,D.int .i64 6]) := by kernel_rfl
theorem fownL_live  :
  callL (mk PR (lookN typesKF) globF 2) [] [(1,.tup [.undef,.agg (fliveCs 12),.agg nine6])] [] (body Tryd.f94) 0 84 1 [] =
   some ([ContractL PR globF 95 [D.int .i64 12] [D.sl false E.sec (Book.secs (linksB [])),D.sl false E.int (Book.turns (linksB [])),D.sl false E.sv (Book.svs (linksB [])),D.int .i64 (Book.rule (linksB [])),D.int .i64 (Book.days (linksB [])),D.row 0 2,D.int .i64 40,D.sl true E.int [(3 : Int),(5 : Int),(9 : Int)],D.int .i64 12,D.int .i64 1] [D.int .i64 9,D.int .i64 6]],[D.sl false E.sec (Book.secs (linksB [])),D.sl false E.int (Book.turns (linksB [])),D.sl false E.sv (Book.svs (linksB [])),D.int .i64 (Book.rule (linksB [])),D.int .i64 (Book.days (linksB [])),D.row 0 2,D.int .i64 40,D.sl true E.int [(3 : Int),(5 : Int),(9 : Int)],D.int .i64 12,D.int .i64 1],[D.int .i64 9,D.int .i64 6]) := by kernel_rfl
end Go.Di

