/- Part 28: an interpreter over plain data for this code, with the proof that it says what the model does, and the contracts of the functions. No condition. -/
import Derived.Test.YtfkmodcjddfeiaaDoorDi27
import Derived.Test.YtfkmodcjddfeiaaDoorCards
import Derived.Test.YtfkmodcjddfeiaaDoorTie
import Derived.SevenTiedAt
import Derived.Stop.Joined
import Derived.Deep.DeepWitnessRowRef
set_option linter.unusedVariables false
set_option linter.unusedSimpArgs false
set_option maxRecDepth 100000
namespace Go.Di
open Go.RowKit Go.ChangeShapes Go.WideShapes Go.Deep Go.ChangeAt Go.Proofs
open Go.Proofs.YtfkmodcjddfeiaaDoor

/-! ### The program's facts -/
theorem laidOut : laidOutB Tryd.prog = true := by kernel_rfl
theorem own : ownKnob Tryd.prog.godebug = none := by kernel_rfl
theorem gNowhere : Tryd.prog.globalNamed "prow/chain.nowhere" = some 1 := by kernel_rfl
theorem gBegin : Tryd.prog.globalNamed "prow/forge.begin" = some 2 := by kernel_rfl
theorem gThicks : Tryd.prog.globalNamed "prow/forge.thicks" = some 3 := by kernel_rfl
theorem tBegin : (Tryd.prog.globals[2]?).map (·.type) = some 108 := by kernel_rfl
theorem tThicks : (Tryd.prog.globals[3]?).map (·.type) = some 192 := by kernel_rfl
theorem tNowhere : (Tryd.prog.globals[1]?).map (·.type) = some 179 := by kernel_rfl

section
variable {H : Type} {enc : TypeId × Value → H} {w : World} {sp : Nat → Bool} {hd : Bool}
theorem reads3 : ReadsE enc Tryd.prog w sp hd 3 .int := fun fuel cs x h => by
 obtain ⟨n,rfl⟩ := reads_int (t := 3) (by kernel_rfl) h
 exact ⟨n,rfl,rfl⟩
/-- The fields of a struct. -/
noncomputable def fld (t i : Nat) : Field := match Tryd.prog.underlying t with
 | some (.struct fs) => fs.getD i default
 | _ => default
theorem reads51 (fuel : Nat) (cs : List Value) (x : DataW H × List MemPlace) (h : DataW.trod enc Tryd.prog w 0 sp hd fuel 51 cs = some x) : ∃ a b,cs = [.int .i64 a,.int .i64 b] :=
 reads_two (t := 51) (f0 := fld 51 0) (f1 := fld 51 1) (by kernel_rfl) (by kernel_rfl) (by kernel_rfl) (by kernel_rfl) (by kernel_rfl) (by kernel_rfl) (by kernel_rfl) (by kernel_rfl) h
theorem reads76 : ReadsE enc Tryd.prog w sp hd 76 .sec := fun fuel cs x h => by
 obtain ⟨a,b,c,d,rfl⟩ := reads_sec (t := 76) (f0 := fld 76 0) (f1 := fld 76 1) (by kernel_rfl) (by kernel_rfl) (by kernel_rfl) (by kernel_rfl) (by kernel_rfl) (by kernel_rfl) (by rw [show (fld 76 0).type = 51 from by kernel_rfl]; exact reads51) (by rw [show (fld 76 1).type = 51 from by kernel_rfl]; exact reads51) h
 exact ⟨(⟨⟨a,b⟩,⟨c,d⟩⟩ : Sec),rfl,rfl⟩
theorem reads34 : ReadsE enc Tryd.prog w sp hd 34 .sv := fun fuel cs x h => by
 obtain ⟨a,b,c,d,rfl⟩ := reads_four (t := 34) (f0 := fld 34 0) (f1 := fld 34 1) (f2 := fld 34 2) (f3 := fld 34 3) (by kernel_rfl) (by kernel_rfl) (by kernel_rfl) (by kernel_rfl) (by kernel_rfl) (by kernel_rfl) (by kernel_rfl) (by kernel_rfl) (by kernel_rfl) (by kernel_rfl) (by kernel_rfl) (by kernel_rfl) (by kernel_rfl) (by kernel_rfl) h
 exact ⟨(⟨a,b,c,d⟩ : Sv),rfl,rfl⟩
end

/-! ### The listed variables -/
theorem trod_arr2 {H : Type} {enc : TypeId × Value → H} {P : Program} {w : World} {sp : Nat → Bool} {hd : Bool} {t et : TypeId} (ht : P.underlying t = some (.array 2 et)) (hc : P.cellsOf t = 2) (ce : P.cellsOf et = 1) {fuel : Nat} {cs : List Value} {d0 d1 : DataW H} {ps : List MemPlace}
  (h : DataW.trod enc P w 0 sp hd fuel t cs = some (.agg [d0,d1],ps)) : ∃ v0 v1 k q0 q1,cs = [v0,v1] ∧ DataW.trod enc P w 0 sp hd k et [v0] = some (d0,q0) ∧ DataW.trod enc P w 0 sp hd k et [v1] = some (d1,q1) := by
 cases fuel with
 | zero => simp [DataW.trod] at h
 | succ k =>
  unfold DataW.trod at h
  rw [ht] at h
  simp only [ce,Nat.mul_one] at h
  split at h
  ·rename_i hl
   rw [hc] at hl
   match cs,hl with
   | [v0,v1],_ =>
    have hr : List.range 2 = [0,1] := rfl
    rw [hr] at h
    simp only [List.mapM_cons,List.mapM_nil] at h
    cases h0 : DataW.trod enc P w 0 sp hd k et (List.take 1 (List.drop 0 [v0,v1])) with
    | none => rw [h0] at h; cases h
    | some x0 =>
     rw [h0] at h
     cases h1 : DataW.trod enc P w 0 sp hd k et (List.take 1 (List.drop 1 [v0,v1])) with
     | none => rw [h1] at h; cases h
     | some x1 =>
      rw [h1] at h
      have h' : (DataW.agg [x0.1,x1.1],x0.2 ++ (x1.2 ++ [])) = (DataW.agg [d0,d1],ps) := Option.some.inj h
      simp only [Prod.mk.injEq,DataW.agg.injEq,List.cons.injEq,and_true] at h'
      obtain ⟨⟨rfl,rfl⟩,_⟩ := h'
      exact ⟨v0,v1,k,x0.2,x1.2,rfl,h0,h1⟩
  ·cases h
theorem trod_pair {H : Type} {enc : TypeId × Value → H} {w : World} {sp : Nat → Bool} {hd : Bool} {fuel : Nat} {cs : List Value} {a b : Int} {ps : List MemPlace}
  (h : DataW.trod enc Tryd.prog w 0 sp hd fuel 179 cs = some (.agg [.lit (.int .i64 a),.lit (.int .i64 b)],ps)) : cs = [.int .i64 a,.int .i64 b] := by
 obtain ⟨xs,k,_,hx,hl,hxl,hf⟩ := DataW.trod_struct (t := 179) (fs := #[fld 179 0,fld 179 1]) (by kernel_rfl) h
 have hc : Tryd.prog.cellsOf 179 = 2 := by kernel_rfl
 rw [hc] at hl
 have c0 : Tryd.prog.cellsOf (fld 179 0).type = 1 := by kernel_rfl
 have c1 : Tryd.prog.cellsOf (fld 179 1).type = 1 := by kernel_rfl
 have o0 : (fld 179 0).offset = 0 := by kernel_rfl
 have o1 : (fld 179 1).offset = 1 := by kernel_rfl
 match xs,hxl,cs,hl with
 | [y0,y1],_,[v0,v1],_ =>
  have g0 := hf 0 (fld 179 0) rfl
  have g1 := hf 1 (fld 179 1) rfl
  simp [o0,o1,c0,c1] at g0 g1
  obtain ⟨n0,e0,e0',_⟩ := DataW.trod_int (k := .i64) (by kernel_rfl) g0
  obtain ⟨n1,e1,e1',_⟩ := DataW.trod_int (k := .i64) (by kernel_rfl) g1
  simp only [List.cons.injEq,and_true] at e0 e1
  simp only [List.map_cons,List.map_nil,Prod.mk.injEq,DataW.agg.injEq,List.cons.injEq,and_true] at hx
  obtain ⟨⟨q0,q1⟩,_⟩ := hx
  rw [e0'] at q0
  rw [e1'] at q1
  simp only [DataW.lit.injEq,Lit.int.injEq,true_and] at q0 q1
  subst q0 q1
  rw [e0,e1]
theorem trod_pairB {H : Type} {enc : TypeId × Value → H} {w : World} {sp : Nat → Bool} {hd : Bool} {fuel : Nat} {cs : List Value} {a b : Int} {ps : List MemPlace}
  (h : DataW.trod enc Tryd.prog w 0 sp hd fuel 108 cs = some (.agg [.lit (.int .i64 a),.lit (.int .i64 b)],ps)) : cs = [.int .i64 a,.int .i64 b] := by
 obtain ⟨xs,k,_,hx,hl,hxl,hf⟩ := DataW.trod_struct (t := 108) (fs := #[fld 108 0,fld 108 1]) (by kernel_rfl) h
 have hc : Tryd.prog.cellsOf 108 = 2 := by kernel_rfl
 rw [hc] at hl
 have c0 : Tryd.prog.cellsOf (fld 108 0).type = 1 := by kernel_rfl
 have c1 : Tryd.prog.cellsOf (fld 108 1).type = 1 := by kernel_rfl
 have o0 : (fld 108 0).offset = 0 := by kernel_rfl
 have o1 : (fld 108 1).offset = 1 := by kernel_rfl
 match xs,hxl,cs,hl with
 | [y0,y1],_,[v0,v1],_ =>
  have g0 := hf 0 (fld 108 0) rfl
  have g1 := hf 1 (fld 108 1) rfl
  simp [o0,o1,c0,c1] at g0 g1
  obtain ⟨n0,e0,e0',_⟩ := DataW.trod_int (k := .i64) (by kernel_rfl) g0
  obtain ⟨n1,e1,e1',_⟩ := DataW.trod_int (k := .i64) (by kernel_rfl) g1
  simp only [List.cons.injEq,and_true] at e0 e1
  simp only [List.map_cons,List.map_nil,Prod.mk.injEq,DataW.agg.injEq,List.cons.injEq,and_true] at hx
  obtain ⟨⟨q0,q1⟩,_⟩ := hx
  rw [e0'] at q0
  rw [e1'] at q1
  simp only [DataW.lit.injEq,Lit.int.injEq,true_and] at q0 q1
  subst q0 q1
  rw [e0,e1]
/-- The three listed variables. -/
theorem laid_globF {W : World} (h : laidMetH Tryd.prog [("prow/chain.nowhere",YtfkmodcjddfeiaaDoor.Rows.laid_prow_chain_nowhere),("prow/forge.begin",YtfkmodcjddfeiaaDoor.Rows.laid_prow_forge_begin),("prow/forge.thicks",YtfkmodcjddfeiaaDoor.Rows.laid_prow_forge_thicks)] W) :
  ∀ g cs,globF g = some cs → Rel (Old W) W (.ref cs 0) (.pointer (some ⟨g,0,none⟩)) := by
 intro g cs hg
 match g,hg with
 | 1,hg =>
  cases hg
  obtain ⟨⟨ps,⟨g',t,vs,fuel,p,q,hg',ht,hv,hd,_,_⟩,_⟩,_⟩ := h
  obtain rfl := Option.some.inj (gNowhere.symm.trans hg')
  obtain rfl := Option.some.inj (tNowhere.symm.trans ht)
  have e := trod_pair hd
  refine ⟨1,0,rfl,fun j d hj => ?_⟩
  have hc := World.var?_cell hg' hv
  have hs : vs = #[.int .i64 (-1),.int .i64 (-1)] := by rw [← Array.toArray_toList (xs := vs),e]
  match j,hj with
  | 0,hj =>
   cases hj
   have h0 := hc 0
   rw [hs] at h0
   exact ⟨_,rfl,cell_old h0,h0⟩
  | 1,hj =>
   cases hj
   have h0 := hc 1
   rw [hs] at h0
   exact ⟨_,rfl,cell_old h0,h0⟩
 | 2,hg =>
  cases hg
  obtain ⟨⟨ps,⟨_,_,_,_,_,_,_,_,_,_,hrest,_⟩,_⟩,_⟩ := h
  obtain ⟨g',t,vs,fuel,p,q,hg',ht,hv,hd,_,_⟩ := hrest
  obtain rfl := Option.some.inj (gBegin.symm.trans hg')
  obtain rfl := Option.some.inj (tBegin.symm.trans ht)
  have e := trod_pairB hd
  refine ⟨2,0,rfl,fun j d hj => ?_⟩
  have hc := World.var?_cell hg' hv
  have hs : vs = #[.int .i64 (-1),.int .i64 0] := by rw [← Array.toArray_toList (xs := vs),e]
  match j,hj with
  | 0,hj =>
   cases hj
   have h0 := hc 0
   rw [hs] at h0
   exact ⟨_,rfl,cell_old h0,h0⟩
  | 1,hj =>
   cases hj
   have h0 := hc 1
   rw [hs] at h0
   exact ⟨_,rfl,cell_old h0,h0⟩
 | 3,hg =>
  cases hg
  obtain ⟨g',t,vs,fuel,p,hg',ht,hv,hd⟩ := h.funcs (n := "prow/forge.thicks") (List.mem_cons_of_mem _ (List.mem_cons_of_mem _ (List.mem_cons_self ..)))
  obtain rfl := Option.some.inj (gThicks.symm.trans hg')
  obtain rfl := Option.some.inj (tThicks.symm.trans ht)
  obtain ⟨v0,v1,k,q0,q1,e,h0,h1⟩ := trod_arr2 (t := 192) (et := 191) (by kernel_rfl) (by kernel_rfl) (by kernel_rfl) hd
  have hf : Tryd.prog.underlying 191 = some (.func #[151,3,3,3] #[3] false) := by kernel_rfl
  obtain rfl := func_of_trod (f0 := 226) hf (by kernel_rfl) h0
  obtain rfl := func_of_trod (f0 := 227) hf (by kernel_rfl) h1
  refine ⟨3,0,rfl,fun j d hj => ?_⟩
  have hc := World.var?_cell hg' hv
  have hs : vs = #[.func (.func 226) #[] #[],.func (.func 227) #[] #[]] := by rw [← Array.toArray_toList (xs := vs),e]
  match j,hj with
  | 0,hj =>
   cases hj
   have h0 := hc 0
   rw [hs] at h0
   exact ⟨_,⟨#[],#[],rfl,trivial,trivial⟩,cell_old h0,h0⟩
  | 1,hj =>
   cases hj
   have h0 := hc 1
   rw [hs] at h0
   exact ⟨_,⟨#[],#[],rfl,trivial,trivial⟩,cell_old h0,h0⟩

/-! ### A world for the witness -/
def lay1 : Obj → Obj
 | .cells _ t frozen => .cells #[.int .i64 (-1),.int .i64 (-1)] t frozen
 | o => o
def lay2 : Obj → Obj
 | .cells _ t frozen => .cells #[.int .i64 (-1),.int .i64 0] t frozen
 | o => o
def lay3 : Obj → Obj
 | .cells _ t frozen => .cells #[.func (.func 226) #[] #[],.func (.func 227) #[] #[]] t frozen
 | o => o
noncomputable def laidWorld (os : Os) : World :=
 { World.holding Tryd.prog os ⟨#[],#[],[]⟩ with heap := (((World.holding Tryd.prog os ⟨#[],#[],[]⟩).heap.modify 1 lay1).modify 2 lay2).modify 3 lay3 }
def noFBook : Value := .agg #[.slice none 0 0,.slice none 0 0,.slice none 0 0,.int .i64 0,.int .i64 0,.slice none 0 0,.int .i64 0,.slice none 0 0,.int .i64 0,.int .i64 0]
def noThree : Value := .agg #[.int .i64 0,.int .i64 0,.int .i64 0]
theorem laid_met (os : Os) (args : Array Value) : laidMetH Tryd.prog [("prow/chain.nowhere",Rows.laid_prow_chain_nowhere),("prow/forge.begin",Rows.laid_prow_forge_begin),("prow/forge.thicks",Rows.laid_prow_forge_thicks)] ((laidWorld os).forCall (fun _ _ => 0) ⟨#[],args,[]⟩).memory :=
 laidMetH_of_parts3 (fuel := 8) (laidMet_of_run' 8 (by kernel_rfl) (by kernel_rfl)) (by kernel_rfl) (by kernel_rfl)
/-- What a function's contract gives the row: from the reading of its arguments. -/
theorem calls_lawF {f : FuncId} {W : World} {args : Array Value} {ds : List D} (hc : Contract Tryd.prog globF f ds (.bool true)) (hg : ∀ g cs,globF g = some cs → Rel (Old W) W (.ref cs 0) (.pointer (some ⟨g,0,none⟩))) (ha : All2 (Rel (Old W) W) ds args.toList) :
  Calls Tryd.prog f args W fun e W' => e = .returned (.bool true) ∧ Below W.heap.size W W' := by
 have := hc.calls W (Old W) args.toList (fun b o h => h) hg ha
 rw [Array.toArray_toList] at this
 exact this.mono fun e W' ⟨v,he,hb,R',_,_,hr⟩ => ⟨by rw [he,show v = .bool true from hr],hb⟩
theorem under4 : Tryd.prog.underlying 4 = some .bool := by kernel_rfl

/-! ### More kinds of arguments -/
section
variable {H : Type} {enc : TypeId × Value → H} {w : World} {sp : Nat → Bool} {hd : Bool}
/-- The cells of a chain's book. -/
theorem reads26 (fuel : Nat) (cs : List Value) (x : DataW H × List MemPlace) (h : DataW.trod enc Tryd.prog w 0 sp hd fuel 26 cs = some x) : ∃ b : Book,All2 (RelC (Old w) w) [.sl false .sec b.secs,.sl false .int b.turns,.sl false .sv b.svs,.int .i64 b.rule,.int .i64 b.days] cs ∧ b.secs.length ≤ maxLen ∧ b.turns.length ≤ maxLen ∧ b.svs.length ≤ maxLen := by
 have hu : Tryd.prog.underlying 26 = some (.struct #[fld 26 0,fld 26 1,fld 26 2,fld 26 3,fld 26 4]) := by kernel_rfl
 exact reads_book (t := 26) hu (by kernel_rfl) (by kernel_rfl) (by kernel_rfl) (by kernel_rfl) (by kernel_rfl) (by kernel_rfl) (by kernel_rfl) (by kernel_rfl) (by kernel_rfl) (by kernel_rfl) (by kernel_rfl) (e0 := 76) (e1 := 3) (e2 := 34) (by kernel_rfl) (by kernel_rfl) (by kernel_rfl) (by kernel_rfl) (by kernel_rfl) (by kernel_rfl) (by kernel_rfl) (by kernel_rfl) reads76 reads3 reads34 h
theorem six {α : Type} {l : List α} (h : l.length = 6) : ∃ a b c d e f,l = [a,b,c,d,e,f] := by
 match l,h with
 | [a,b,c,d,e,f],_ => exact ⟨a,b,c,d,e,f,rfl⟩
theorem five {α : Type} {l : List α} (h : l.length = 10) : ∃ a b c d e f g i j k,l = [a,b,c,d,e,f,g,i,j,k] := by
 match l,h with
 | [a,b,c,d,e,f,g,i,j,k],_ => exact ⟨a,b,c,d,e,f,g,i,j,k,rfl⟩
/-- A book of the forge as an argument. -/
theorem arg84 {r : Reach} {b0 : Nat} {v : Value} {d : DataW H} {ps : List MemPlace} (hval : Value.okWide Tryd.prog w r b0 84 v) (h : DataW.Trod enc Tryd.prog w 0 sp hd 84 v d ps) : ∃ x : FBook,FSmall x ∧ Rel (Old w) w (fbookD x) v := by
 have hu : Tryd.prog.underlying 84 = some (.struct #[fld 84 0,fld 84 1,fld 84 2,fld 84 3,fld 84 4,fld 84 5]) := by kernel_rfl
 unfold Value.okWide at hval
 rw [hu] at hval
 obtain ⟨cs,rfl,_⟩ := hval
 obtain ⟨fuel,h⟩ := h
 obtain ⟨xs,k,_,_,hl,hx,hf⟩ := DataW.trod_struct hu h
 have hc : Tryd.prog.cellsOf 84 = 10 := by kernel_rfl
 rw [hc] at hl
 obtain ⟨u0,u1,u2,u3,u4,u5,u6,u7,u8,u9,hcs⟩ := five hl
 obtain ⟨y0,y1,y2,y3,y4,y5,hxs⟩ := six hx
 subst hxs
 have g0 := hf 0 (fld 84 0) rfl
 have g1 := hf 1 (fld 84 1) rfl
 have g2 := hf 2 (fld 84 2) rfl
 have g3 := hf 3 (fld 84 3) rfl
 have g4 := hf 4 (fld 84 4) rfl
 have g5 := hf 5 (fld 84 5) rfl
 have hfs : ∀ i,i < 6 → (fld 84 i).offset = [0,5,6,7,8,9].getD i 0 ∧ Tryd.prog.cellsOf (fld 84 i).type = [5,1,1,1,1,1].getD i 0 ∧ (fld 84 i).type = [26,23,3,23,3,3].getD i 0 := by
  intro i hi
  have h6 : i = 0 ∨ i = 1 ∨ i = 2 ∨ i = 3 ∨ i = 4 ∨ i = 5 := by omega
  rcases h6 with rfl | rfl | rfl | rfl | rfl | rfl <;> exact ⟨by kernel_rfl,by kernel_rfl,by kernel_rfl⟩
 obtain ⟨a0,b0,c0⟩ := hfs 0 (by decide)
 obtain ⟨a1,b1,c1⟩ := hfs 1 (by decide)
 obtain ⟨a2,b2,c2⟩ := hfs 2 (by decide)
 obtain ⟨a3,b3,c3⟩ := hfs 3 (by decide)
 obtain ⟨a4,b4,c4⟩ := hfs 4 (by decide)
 obtain ⟨a5,b5,c5⟩ := hfs 5 (by decide)
 rw [a0,b0,c0,hcs] at g0
 rw [a1,b1,c1,hcs] at g1
 rw [a2,b2,c2,hcs] at g2
 rw [a3,b3,c3,hcs] at g3
 rw [a4,b4,c4,hcs] at g4
 rw [a5,b5,c5,hcs] at g5
 simp at g0 g1 g2 g3 g4 g5
 obtain ⟨b,h1,h2,h3,h4⟩ := reads26 _ _ _ g0
 have t23 : Tryd.prog.underlying 23 = some (.slice 3) := by kernel_rfl
 have t3 : Tryd.prog.underlying 3 = some (.int .i64) := by kernel_rfl
 obtain ⟨w1,fe,e1,s1,l1⟩ := reads_slice (e := .int) t23 (by kernel_rfl) reads3 g1
 obtain ⟨nw,e2⟩ := reads_int t3 g2
 obtain ⟨w3,op,e3,s3,l3⟩ := reads_slice (e := .int) t23 (by kernel_rfl) reads3 g3
 obtain ⟨st,e4⟩ := reads_int t3 g4
 obtain ⟨mk,e5⟩ := reads_int t3 g5
 simp only [List.cons.injEq,and_true] at e1 e2 e3 e4 e5
 have hm : maxLen ≤ 9223372036854775807 := by decide
 refine ⟨⟨b,fe,nw,op,st,mk⟩,⟨⟨Nat.le_trans h2 hm,Nat.le_trans h3 hm,Nat.le_trans h4 hm⟩,Nat.le_trans l1 hm,Nat.le_trans l3 hm⟩,cs,rfl,?_⟩
 have hcs' : cs.toList = [u0,u1,u2,u3,u4,u5,u6,u7,u8,u9] := hcs
 rw [hcs']
 obtain ⟨p0,p1,p2,p3,p4,_⟩ := h1
 rw [e1,e2,e3,e4,e5]
 exact ⟨p0,p1,p2,p3,p4,s1,rfl,s3,rfl,rfl,trivial⟩
/-- Three numbers. -/
theorem arg101 {r : Reach} {b0 : Nat} {v : Value} {d : DataW H} {ps : List MemPlace} (hval : Value.okWide Tryd.prog w r b0 101 v) (h : DataW.Trod enc Tryd.prog w 0 sp hd 101 v d ps) : ∃ n0 n1 n2 : Int,Rel (Old w) w (.agg [.int .i64 n0,.int .i64 n1,.int .i64 n2]) v := by
 have hu : Tryd.prog.underlying 101 = some (.array 3 3) := by kernel_rfl
 unfold Value.okWide at hval
 rw [hu] at hval
 obtain ⟨cs,rfl,_⟩ := hval
 obtain ⟨fuel,h⟩ := h
 obtain ⟨zs,h1,h2⟩ := reads_arr hu (by kernel_rfl) (by kernel_rfl) (by kernel_rfl) h
 match zs,h1 with
 | [a,b,c],_ =>
  refine ⟨a,b,c,cs,rfl,?_⟩
  rw [show cs.toList = [.int .i64 a,.int .i64 b,.int .i64 c] from h2]
  exact ⟨rfl,rfl,rfl,trivial⟩
end
end Go.Di

namespace Go.Di
theorem lfirst_fn : FnOk PRG (MF 164) 18 (body Proofs.Tryd.f18) [.tmp 4] := ⟨Proofs.Tryd.f18,by kernel_rfl,by kernel_rfl,by kernel_rfl,by kernel_rfl,by kernel_rfl⟩
theorem lfirst_bad (x : FBook) (n0 n1 n2 : Int) :
  callF (MF 164) [] [(18,.bool false),(20,.bool true)] [] (body Proofs.Tryd.f18) [.tmp 4] [fbookD x,.agg [.int .i64 n0,.int .i64 n1,.int .i64 n2]] =
   some ([CF 72 [fbookD x] (D.bool false),CF 73 [] (D.bool true)],D.bool true) := by kernel_rfl
theorem lfirst_err (x : FBook) (n0 n1 n2 : Int) (plan : List Work) (s d : Int) :
  callF (MF 164) [] [(18,.bool true),(24,.sl false .work plan),(30,.int .i64 s),(37,.int .i64 d),(41,.tup [.int .i64 0,.int .i64 0,.int .i64 72]),(48,.tup [.bool false,.int .i64 72]),(56,.tup [.int .i64 0,.int .i64 72]),(74,.bool true)] [] (body Proofs.Tryd.f18) [.tmp 4] [fbookD x,.agg [.int .i64 n0,.int .i64 n1,.int .i64 n2]] =
   some ([CF 72 [fbookD x] (D.bool true),(0 : Int) ≤ (0 : Int) ∧ (0 : Int) < (Nat.cast : Nat → Int) 3,0 + Int.toNat (0 : Int) * 1 + 1 ≤ 3,CF 76 [fbookD x,D.int .i64 n0] (D.sl false E.work plan),(0 : Int) ≤ (1 : Int) ∧ (1 : Int) < (Nat.cast : Nat → Int) 3,0 + Int.toNat (1 : Int) * 1 + 1 ≤ 3,CF 39 [D.int .i64 n1,D.int .i64 ((List.length (FBook.feet x) : Int))] (D.int .i64 s),(0 : Int) ≤ (2 : Int) ∧ (2 : Int) < (Nat.cast : Nat → Int) 3,0 + Int.toNat (2 : Int) * 1 + 1 ≤ 3,inI64 (Book.days (FBook.chain x) + (1 : Int)),CF 39 [D.int .i64 n2,D.int .i64 (Book.days (FBook.chain x) + (1 : Int))] (D.int .i64 d),CF 83 [fbookD x,D.sl false E.work plan] (D.tup [D.int .i64 (0 : Int),D.int .i64 (0 : Int),D.int .i64 (72 : Int)]),CF 78 [fbookD x,D.sl false E.work plan] (D.tup [D.bool false,D.int .i64 (72 : Int)]),CF 81 [fbookD x,D.sl false E.work plan,D.int .i64 s,D.int .i64 d] (D.tup [D.int .i64 (0 : Int),D.int .i64 (72 : Int)]),CF 73 [] (D.bool true)],D.bool true) := by kernel_rfl
theorem lfirst_safe (x : FBook) (n0 n1 n2 : Int) (plan : List Work) (s d : Int) (v : Int) :
  callF (MF 164) [(104,true)] [(18,.bool true),(24,.sl false .work plan),(30,.int .i64 s),(37,.int .i64 d),(41,.tup [.int .i64 0,.int .i64 0,.int .i64 4]),(48,.tup [.bool true,.int .i64 0]),(56,.tup [.int .i64 v,.int .i64 0]),(105,.bool true)] [] (body Proofs.Tryd.f18) [.tmp 4] [fbookD x,.agg [.int .i64 n0,.int .i64 n1,.int .i64 n2]] =
   some ([CF 72 [fbookD x] (D.bool true),(0 : Int) ≤ (0 : Int) ∧ (0 : Int) < (Nat.cast : Nat → Int) 3,0 + Int.toNat (0 : Int) * 1 + 1 ≤ 3,CF 76 [fbookD x,D.int .i64 n0] (D.sl false E.work plan),(0 : Int) ≤ (1 : Int) ∧ (1 : Int) < (Nat.cast : Nat → Int) 3,0 + Int.toNat (1 : Int) * 1 + 1 ≤ 3,CF 39 [D.int .i64 n1,D.int .i64 ((List.length (FBook.feet x) : Int))] (D.int .i64 s),(0 : Int) ≤ (2 : Int) ∧ (2 : Int) < (Nat.cast : Nat → Int) 3,0 + Int.toNat (2 : Int) * 1 + 1 ≤ 3,inI64 (Book.days (FBook.chain x) + (1 : Int)),CF 39 [D.int .i64 n2,D.int .i64 (Book.days (FBook.chain x) + (1 : Int))] (D.int .i64 d),CF 83 [fbookD x,D.sl false E.work plan] (D.tup [D.int .i64 (0 : Int),D.int .i64 (0 : Int),D.int .i64 (4 : Int)]),CF 78 [fbookD x,D.sl false E.work plan] (D.tup [D.bool true,D.int .i64 (0 : Int)]),CF 81 [fbookD x,D.sl false E.work plan,D.int .i64 s,D.int .i64 d] (D.tup [D.int .i64 v,D.int .i64 (0 : Int)]),inI64 ((0 : Int) + (0 : Int)),decide (v ≥ Book.rule (FBook.chain x)) = true,CF 73 [] (D.bool true),decide (v ≥ Book.rule (FBook.chain x)) = true],D.bool true) := by kernel_rfl
theorem lfirst_thinA (x : FBook) (n0 n1 n2 : Int) (plan : List Work) (s d : Int) (fd fs v u : Int) :
  callF (MF 164) [(139,true),(145,true)] [(18,.bool true),(24,.sl false .work plan),(30,.int .i64 s),(37,.int .i64 d),(41,.tup [.int .i64 fd,.int .i64 fs,.int .i64 0]),(48,.tup [.bool false,.int .i64 0]),(56,.tup [.int .i64 v,.int .i64 0]),(111,.bool true),(119,.bool true),(127,.tup [.int .i64 u,.int .i64 0]),(162,.bool true)] [] (body Proofs.Tryd.f18) [.tmp 4] [fbookD x,.agg [.int .i64 n0,.int .i64 n1,.int .i64 n2]] =
   some ([CF 72 [fbookD x] (D.bool true),(0 : Int) ≤ (0 : Int) ∧ (0 : Int) < (Nat.cast : Nat → Int) 3,0 + Int.toNat (0 : Int) * 1 + 1 ≤ 3,CF 76 [fbookD x,D.int .i64 n0] (D.sl false E.work plan),(0 : Int) ≤ (1 : Int) ∧ (1 : Int) < (Nat.cast : Nat → Int) 3,0 + Int.toNat (1 : Int) * 1 + 1 ≤ 3,CF 39 [D.int .i64 n1,D.int .i64 ((List.length (FBook.feet x) : Int))] (D.int .i64 s),(0 : Int) ≤ (2 : Int) ∧ (2 : Int) < (Nat.cast : Nat → Int) 3,0 + Int.toNat (2 : Int) * 1 + 1 ≤ 3,inI64 (Book.days (FBook.chain x) + (1 : Int)),CF 39 [D.int .i64 n2,D.int .i64 (Book.days (FBook.chain x) + (1 : Int))] (D.int .i64 d),CF 83 [fbookD x,D.sl false E.work plan] (D.tup [D.int .i64 fd,D.int .i64 fs,D.int .i64 (0 : Int)]),CF 78 [fbookD x,D.sl false E.work plan] (D.tup [D.bool false,D.int .i64 (0 : Int)]),CF 81 [fbookD x,D.sl false E.work plan,D.int .i64 s,D.int .i64 d] (D.tup [D.int .i64 v,D.int .i64 (0 : Int)]),CF 50 [D.int .i64 fd,D.int .i64 (0 : Int),D.int .i64 (Book.days (FBook.chain x))] (D.bool true),inI64 ((List.length (FBook.feet x) : Int) - (1 : Int)),CF 50 [D.int .i64 fs,D.int .i64 (0 : Int),D.int .i64 ((List.length (FBook.feet x) : Int) - (1 : Int))] (D.bool true),CF 81 [fbookD x,D.sl false E.work plan,D.int .i64 fs,D.int .i64 fd] (D.tup [D.int .i64 u,D.int .i64 (0 : Int)]),decide (u < Book.rule (FBook.chain x)) = true,decide (u < Book.rule (FBook.chain x)) = true,decide (u < Book.rule (FBook.chain x)) = true,decide (u < Book.rule (FBook.chain x)) = true,decide (u < Book.rule (FBook.chain x)) = true,decide (u < Book.rule (FBook.chain x)) = true,decide (v ≥ Book.rule (FBook.chain x)) = true,decide (v ≥ Book.rule (FBook.chain x)) = true,decide (v ≥ Book.rule (FBook.chain x)) = true,decide (u < Book.rule (FBook.chain x)) = true,decide (v ≥ Book.rule (FBook.chain x)) = true,decide (u < Book.rule (FBook.chain x)) = true,decide (u < Book.rule (FBook.chain x)) = true,decide (u < Book.rule (FBook.chain x)) = true,CF 73 [] (D.bool true)],D.bool true) := by kernel_rfl
theorem lfirst_thinB (x : FBook) (n0 n1 n2 : Int) (plan : List Work) (s d : Int) (fd fs v u : Int) :
  callF (MF 164) [(139,true),(145,false),(150,true)] [(18,.bool true),(24,.sl false .work plan),(30,.int .i64 s),(37,.int .i64 d),(41,.tup [.int .i64 fd,.int .i64 fs,.int .i64 0]),(48,.tup [.bool false,.int .i64 0]),(56,.tup [.int .i64 v,.int .i64 0]),(111,.bool true),(119,.bool true),(127,.tup [.int .i64 u,.int .i64 0]),(162,.bool true)] [] (body Proofs.Tryd.f18) [.tmp 4] [fbookD x,.agg [.int .i64 n0,.int .i64 n1,.int .i64 n2]] =
   some ([CF 72 [fbookD x] (D.bool true),(0 : Int) ≤ (0 : Int) ∧ (0 : Int) < (Nat.cast : Nat → Int) 3,0 + Int.toNat (0 : Int) * 1 + 1 ≤ 3,CF 76 [fbookD x,D.int .i64 n0] (D.sl false E.work plan),(0 : Int) ≤ (1 : Int) ∧ (1 : Int) < (Nat.cast : Nat → Int) 3,0 + Int.toNat (1 : Int) * 1 + 1 ≤ 3,CF 39 [D.int .i64 n1,D.int .i64 ((List.length (FBook.feet x) : Int))] (D.int .i64 s),(0 : Int) ≤ (2 : Int) ∧ (2 : Int) < (Nat.cast : Nat → Int) 3,0 + Int.toNat (2 : Int) * 1 + 1 ≤ 3,inI64 (Book.days (FBook.chain x) + (1 : Int)),CF 39 [D.int .i64 n2,D.int .i64 (Book.days (FBook.chain x) + (1 : Int))] (D.int .i64 d),CF 83 [fbookD x,D.sl false E.work plan] (D.tup [D.int .i64 fd,D.int .i64 fs,D.int .i64 (0 : Int)]),CF 78 [fbookD x,D.sl false E.work plan] (D.tup [D.bool false,D.int .i64 (0 : Int)]),CF 81 [fbookD x,D.sl false E.work plan,D.int .i64 s,D.int .i64 d] (D.tup [D.int .i64 v,D.int .i64 (0 : Int)]),CF 50 [D.int .i64 fd,D.int .i64 (0 : Int),D.int .i64 (Book.days (FBook.chain x))] (D.bool true),inI64 ((List.length (FBook.feet x) : Int) - (1 : Int)),CF 50 [D.int .i64 fs,D.int .i64 (0 : Int),D.int .i64 ((List.length (FBook.feet x) : Int) - (1 : Int))] (D.bool true),CF 81 [fbookD x,D.sl false E.work plan,D.int .i64 fs,D.int .i64 fd] (D.tup [D.int .i64 u,D.int .i64 (0 : Int)]),decide (u < Book.rule (FBook.chain x)) = true,decide (u < Book.rule (FBook.chain x)) = true,decide (u < Book.rule (FBook.chain x)) = true,decide (u < Book.rule (FBook.chain x)) = true,decide (u < Book.rule (FBook.chain x)) = true,decide (u < Book.rule (FBook.chain x)) = true,decide (v ≥ Book.rule (FBook.chain x)) = false,decide (v ≥ Book.rule (FBook.chain x)) = false,decide (v ≥ Book.rule (FBook.chain x)) = false,decide (u < Book.rule (FBook.chain x)) = true,decide (v ≥ Book.rule (FBook.chain x)) = false,decide (u < Book.rule (FBook.chain x)) = true,decide (fd < d) = true,decide (fd < d) = true,decide (fd < d) = true,decide (fd < d) = true,decide (fd < d) = true,decide (u < Book.rule (FBook.chain x)) = true,decide (fd < d) = true,decide (u < Book.rule (FBook.chain x)) = true,CF 73 [] (D.bool true)],D.bool true) := by kernel_rfl
theorem lfirst_thinC (x : FBook) (n0 n1 n2 : Int) (plan : List Work) (s d : Int) (fd fs v u : Int) :
  callF (MF 164) [(139,true),(145,false),(150,false),(154,true),(161,true)] [(18,.bool true),(24,.sl false .work plan),(30,.int .i64 s),(37,.int .i64 d),(41,.tup [.int .i64 fd,.int .i64 fs,.int .i64 0]),(48,.tup [.bool false,.int .i64 0]),(56,.tup [.int .i64 v,.int .i64 0]),(111,.bool true),(119,.bool true),(127,.tup [.int .i64 u,.int .i64 0]),(162,.bool true)] [] (body Proofs.Tryd.f18) [.tmp 4] [fbookD x,.agg [.int .i64 n0,.int .i64 n1,.int .i64 n2]] =
   some ([CF 72 [fbookD x] (D.bool true),(0 : Int) ≤ (0 : Int) ∧ (0 : Int) < (Nat.cast : Nat → Int) 3,0 + Int.toNat (0 : Int) * 1 + 1 ≤ 3,CF 76 [fbookD x,D.int .i64 n0] (D.sl false E.work plan),(0 : Int) ≤ (1 : Int) ∧ (1 : Int) < (Nat.cast : Nat → Int) 3,0 + Int.toNat (1 : Int) * 1 + 1 ≤ 3,CF 39 [D.int .i64 n1,D.int .i64 ((List.length (FBook.feet x) : Int))] (D.int .i64 s),(0 : Int) ≤ (2 : Int) ∧ (2 : Int) < (Nat.cast : Nat → Int) 3,0 + Int.toNat (2 : Int) * 1 + 1 ≤ 3,inI64 (Book.days (FBook.chain x) + (1 : Int)),CF 39 [D.int .i64 n2,D.int .i64 (Book.days (FBook.chain x) + (1 : Int))] (D.int .i64 d),CF 83 [fbookD x,D.sl false E.work plan] (D.tup [D.int .i64 fd,D.int .i64 fs,D.int .i64 (0 : Int)]),CF 78 [fbookD x,D.sl false E.work plan] (D.tup [D.bool false,D.int .i64 (0 : Int)]),CF 81 [fbookD x,D.sl false E.work plan,D.int .i64 s,D.int .i64 d] (D.tup [D.int .i64 v,D.int .i64 (0 : Int)]),CF 50 [D.int .i64 fd,D.int .i64 (0 : Int),D.int .i64 (Book.days (FBook.chain x))] (D.bool true),inI64 ((List.length (FBook.feet x) : Int) - (1 : Int)),CF 50 [D.int .i64 fs,D.int .i64 (0 : Int),D.int .i64 ((List.length (FBook.feet x) : Int) - (1 : Int))] (D.bool true),CF 81 [fbookD x,D.sl false E.work plan,D.int .i64 fs,D.int .i64 fd] (D.tup [D.int .i64 u,D.int .i64 (0 : Int)]),decide (u < Book.rule (FBook.chain x)) = true,decide (u < Book.rule (FBook.chain x)) = true,decide (u < Book.rule (FBook.chain x)) = true,decide (u < Book.rule (FBook.chain x)) = true,decide (u < Book.rule (FBook.chain x)) = true,decide (u < Book.rule (FBook.chain x)) = true,decide (v ≥ Book.rule (FBook.chain x)) = false,decide (v ≥ Book.rule (FBook.chain x)) = false,decide (v ≥ Book.rule (FBook.chain x)) = false,decide (u < Book.rule (FBook.chain x)) = true,decide (v ≥ Book.rule (FBook.chain x)) = false,decide (u < Book.rule (FBook.chain x)) = true,decide (fd < d) = false,decide (fd < d) = false,decide (fd < d) = false,decide (fd < d) = false,(fd == d) = true,(fd == d) = true,(fd == d) = true,decide (fd < d) = false,(fd == d) = true,decide (u < Book.rule (FBook.chain x)) = true,decide (fd < d) = false,decide (u < Book.rule (FBook.chain x)) = true,decide (fs ≤ s) = true,CF 73 [] (D.bool true),decide (fs ≤ s) = true],D.bool true) := by kernel_rfl
end Go.Di

namespace Go.Di
/-- THE LAW ForgeFirst. -/
theorem lfirst_con {x : FBook} (hs : FSmall x) (n0 n1 n2 : Int) : CF 18 [fbookD x,.agg [.int .i64 n0,.int .i64 n1,.int .i64 n2]] (.bool true) := by
 have hsound := fsound_con hs
 cases hv : fvalidF x with
 | false =>
  rw [hv] at hsound
  exact contract_of_path (GF 164) lfirst_fn (lfirst_bad x n0 n1 n2) ⟨hsound,riv_con,trivial⟩
 | true =>
  rw [hv] at hsound
  have hV := fvalid_iff.1 hv
  have hfe := hV.feet
  have hsec := hV.chain.secs
  have hday := hV.chain.days
  have hdr := drawn_con hV n0
  have hb := drawn_b hV n0
  have hl : (drawnF x n0).length ≤ 9223372036854775807 := by have := plan_len hV (drawn_plan hV n0); omega
  generalize drawnF x n0 = plan at *
  have m1 := modU_con n1 x.feet.length (by omega)
  have m2 := modU_con n2 (x.chain.days + 1) (by omega)
  have hsi := modF_in (n := n1) (m := x.feet.length) (by omega)
  have hdi := modF_in (n := n2) (m := x.chain.days + 1) (by omega)
  generalize modF n1 x.feet.length = s at *
  generalize modF n2 (x.chain.days + 1) = d at *
  have hF := fFirst_con hs hl
  have hS := fSafe_con hs hl
  have hL := fLeast_con hs hl s d
  have i1 : inI64 (x.chain.days + 1) := i64_of (by omega) (by omega)
  have i2 : inI64 ((x.feet.length : Int) - 1) := i64_of (by omega) (by omega)
  cases hc : canF x.chain with
  | false =>
   rw [fFirst_not hV hb hc] at hF
   rw [fSafe_not hV hb hc] at hS
   rw [fLeast_not hV hb hc hsi ⟨hdi.1,by omega⟩] at hL
   exact contract_of_path (GF 164) lfirst_fn (lfirst_err x n0 n1 n2 plan s d) ⟨hsound,⟨by omega,by omega⟩,by decide,hdr,⟨by omega,by omega⟩,by decide,m1,⟨by omega,by omega⟩,by decide,i1,m2,hF,hS,hL,riv_con,trivial⟩
  | true =>
   rw [fFirst_can hV hb hc] at hF
   rw [fSafe_can hV hb hc] at hS
   rw [fLeast_can hV hb hc hsi ⟨hdi.1,by omega⟩] at hL
   cases ht : fthinF x (knowTh x) (knowWr x) plan with
   | none =>
    rw [ht] at hF hS
    have hv2 := decide_eq_true (thinN ht hsi ⟨hdi.1,by omega⟩)
    exact contract_of_path (GF 164) lfirst_fn (lfirst_safe x n0 n1 n2 plan s d _) (by
     repeat (first | exact trivial | refine ⟨by first | exact hsound | exact hdr | exact m1 | exact m2 | exact i1 | exact hF | exact hS | exact hL | exact hv2 | exact riv_con | decide | (constructor <;> decide) | exact i64_of (by decide) (by decide),?_⟩))
   | some p =>
    obtain ⟨d0,s0⟩ := p
    rw [ht] at hF hS
    obtain ⟨h1,h2,h3,h4⟩ := thinS ht
    have hL2 := fLeast_con hs hl (s0 : Int) (d0 : Int)
    rw [fLeast_can hV hb hc ⟨by omega,h2⟩ ⟨by omega,h1⟩] at hL2
    have in1 := inside_t (n := (d0 : Int)) (lo := 0) (hi := x.chain.days) ⟨by omega,h1⟩
    have in2 := inside_t (n := (s0 : Int)) (lo := 0) (hi := (x.feet.length : Int) - 1) ⟨by omega,by omega⟩
    have hu := decide_eq_true h3
    by_cases hv2 : leastV x plan s d ≥ x.chain.rule
    ·have hv3 := decide_eq_true hv2
     exact contract_of_path (GF 164) lfirst_fn (lfirst_thinA x n0 n1 n2 plan s d (d0 : Int) (s0 : Int) _ _) (by
      repeat (first | exact trivial | refine ⟨by first | exact hsound | exact hdr | exact m1 | exact m2 | exact i1 | exact i2 | exact hF | exact hS | exact hL | exact hL2 | exact in1 | exact in2 | exact hu | exact hv3 | exact riv_con | decide | (constructor <;> decide),?_⟩))
    ·have hv3 := decide_eq_false hv2
     have hle := h4 s d hsi ⟨hdi.1,by omega⟩ (by have hv4 : ¬ leastV x plan s d ≥ x.chain.rule := hv2; show leastV x plan s d < _; omega)
     by_cases hlt : (d0 : Int) < d
     ·have hlt1 := decide_eq_true hlt
      exact contract_of_path (GF 164) lfirst_fn (lfirst_thinB x n0 n1 n2 plan s d (d0 : Int) (s0 : Int) _ _) (by
       repeat (first | exact trivial | refine ⟨by first | exact hsound | exact hdr | exact m1 | exact m2 | exact i1 | exact i2 | exact hF | exact hS | exact hL | exact hL2 | exact in1 | exact in2 | exact hu | exact hv3 | exact hlt1 | exact riv_con | decide | (constructor <;> decide),?_⟩))
     ·have hlt1 := decide_eq_false hlt
      have heq : ((d0 : Int) == d) = true := by rw [beq_iff_eq]; omega
      have hss : decide ((s0 : Int) ≤ s) = true := decide_eq_true (by omega)
      exact contract_of_path (GF 164) lfirst_fn (lfirst_thinC x n0 n1 n2 plan s d (d0 : Int) (s0 : Int) _ _) (by
       repeat (first | exact trivial | refine ⟨by first | exact hsound | exact hdr | exact m1 | exact m2 | exact i1 | exact i2 | exact hF | exact hS | exact hL | exact hL2 | exact in1 | exact in2 | exact hu | exact hv3 | exact hlt1 | exact heq | exact hss | exact riv_con | decide | (constructor <;> decide),?_⟩))
end Go.Di

