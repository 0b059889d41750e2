/- Part 28: an interpreter over plain data for this code, with the proof that it says what the model does, and the contracts of the functions. No condition. -/
import Derived.Test.YtfkmodcjddfeiaaDoorDi27
import Derived.Test.YtfkmodcjddfeiaaDoorCards
import Derived.Test.YtfkmodcjddfeiaaDoorTie
import Derived.SevenTiedAt
import Derived.Stop.Joined
import Derived.Deep.DeepWitnessRowRef
set_option linter.unusedVariables false
set_option linter.unusedSimpArgs false
set_option maxRecDepth 100000
namespace Go.Di
open Go.RowKit Go.ChangeShapes Go.WideShapes Go.Deep Go.ChangeAt Go.Proofs
open Go.Proofs.YtfkmodcjddfeiaaDoor

/-! ### The program's facts -/
theorem laidOut : laidOutB Tryd.prog = true := by kernel_rfl
theorem own : ownKnob Tryd.prog.godebug = none := by kernel_rfl
theorem gNowhere : Tryd.prog.globalNamed "prow/chain.nowhere" = some 1 := by kernel_rfl
theorem gBegin : Tryd.prog.globalNamed "prow/forge.begin" = some 2 := by kernel_rfl
theorem gThicks : Tryd.prog.globalNamed "prow/forge.thicks" = some 3 := by kernel_rfl
theorem tBegin : (Tryd.prog.globals[2]?).map (·.type) = some 108 := by kernel_rfl
theorem tThicks : (Tryd.prog.globals[3]?).map (·.type) = some 192 := by kernel_rfl
theorem tNowhere : (Tryd.prog.globals[1]?).map (·.type) = some 179 := by kernel_rfl

section
variable {H : Type} {enc : TypeId × Value → H} {w : World} {sp : Nat → Bool} {hd : Bool}
theorem reads3 : ReadsE enc Tryd.prog w sp hd 3 .int := fun fuel cs x h => by
 obtain ⟨n,rfl⟩ := reads_int (t := 3) (by kernel_rfl) h
 exact ⟨n,rfl,rfl⟩
/-- The fields of a struct. -/
noncomputable def fld (t i : Nat) : Field := match Tryd.prog.underlying t with
 | some (.struct fs) => fs.getD i default
 | _ => default
theorem reads51 (fuel : Nat) (cs : List Value) (x : DataW H × List MemPlace) (h : DataW.trod enc Tryd.prog w 0 sp hd fuel 51 cs = some x) : ∃ a b,cs = [.int .i64 a,.int .i64 b] :=
 reads_two (t := 51) (f0 := fld 51 0) (f1 := fld 51 1) (by kernel_rfl) (by kernel_rfl) (by kernel_rfl) (by kernel_rfl) (by kernel_rfl) (by kernel_rfl) (by kernel_rfl) (by kernel_rfl) h
theorem reads76 : ReadsE enc Tryd.prog w sp hd 76 .sec := fun fuel cs x h => by
 obtain ⟨a,b,c,d,rfl⟩ := reads_sec (t := 76) (f0 := fld 76 0) (f1 := fld 76 1) (by kernel_rfl) (by kernel_rfl) (by kernel_rfl) (by kernel_rfl) (by kernel_rfl) (by kernel_rfl) (by rw [show (fld 76 0).type = 51 from by kernel_rfl]; exact reads51) (by rw [show (fld 76 1).type = 51 from by kernel_rfl]; exact reads51) h
 exact ⟨(⟨⟨a,b⟩,⟨c,d⟩⟩ : Sec),rfl,rfl⟩
theorem reads34 : ReadsE enc Tryd.prog w sp hd 34 .sv := fun fuel cs x h => by
 obtain ⟨a,b,c,d,rfl⟩ := reads_four (t := 34) (f0 := fld 34 0) (f1 := fld 34 1) (f2 := fld 34 2) (f3 := fld 34 3) (by kernel_rfl) (by kernel_rfl) (by kernel_rfl) (by kernel_rfl) (by kernel_rfl) (by kernel_rfl) (by kernel_rfl) (by kernel_rfl) (by kernel_rfl) (by kernel_rfl) (by kernel_rfl) (by kernel_rfl) (by kernel_rfl) (by kernel_rfl) h
 exact ⟨(⟨a,b,c,d⟩ : Sv),rfl,rfl⟩
end

/-! ### The listed variables -/
theorem trod_arr2 {H : Type} {enc : TypeId × Value → H} {P : Program} {w : World} {sp : Nat → Bool} {hd : Bool} {t et : TypeId} (ht : P.underlying t = some (.array 2 et)) (hc : P.cellsOf t = 2) (ce : P.cellsOf et = 1) {fuel : Nat} {cs : List Value} {d0 d1 : DataW H} {ps : List MemPlace}
  (h : DataW.trod enc P w 0 sp hd fuel t cs = some (.agg [d0,d1],ps)) : ∃ v0 v1 k q0 q1,cs = [v0,v1] ∧ DataW.trod enc P w 0 sp hd k et [v0] = some (d0,q0) ∧ DataW.trod enc P w 0 sp hd k et [v1] = some (d1,q1) := by
 cases fuel with
 | zero => simp [DataW.trod] at h
 | succ k =>
  unfold DataW.trod at h
  rw [ht] at h
  simp only [ce,Nat.mul_one] at h
  split at h
  ·rename_i hl
   rw [hc] at hl
   match cs,hl with
   | [v0,v1],_ =>
    have hr : List.range 2 = [0,1] := rfl
    rw [hr] at h
    simp only [List.mapM_cons,List.mapM_nil] at h
    cases h0 : DataW.trod enc P w 0 sp hd k et (List.take 1 (List.drop 0 [v0,v1])) with
    | none => rw [h0] at h; cases h
    | some x0 =>
     rw [h0] at h
     cases h1 : DataW.trod enc P w 0 sp hd k et (List.take 1 (List.drop 1 [v0,v1])) with
     | none => rw [h1] at h; cases h
     | some x1 =>
      rw [h1] at h
      have h' : (DataW.agg [x0.1,x1.1],x0.2 ++ (x1.2 ++ [])) = (DataW.agg [d0,d1],ps) := Option.some.inj h
      simp only [Prod.mk.injEq,DataW.agg.injEq,List.cons.injEq,and_true] at h'
      obtain ⟨⟨rfl,rfl⟩,_⟩ := h'
      exact ⟨v0,v1,k,x0.2,x1.2,rfl,h0,h1⟩
  ·cases h
theorem trod_pair {H : Type} {enc : TypeId × Value → H} {w : World} {sp : Nat → Bool} {hd : Bool} {fuel : Nat} {cs : List Value} {a b : Int} {ps : List MemPlace}
  (h : DataW.trod enc Tryd.prog w 0 sp hd fuel 179 cs = some (.agg [.lit (.int .i64 a),.lit (.int .i64 b)],ps)) : cs = [.int .i64 a,.int .i64 b] := by
 obtain ⟨xs,k,_,hx,hl,hxl,hf⟩ := DataW.trod_struct (t := 179) (fs := #[fld 179 0,fld 179 1]) (by kernel_rfl) h
 have hc : Tryd.prog.cellsOf 179 = 2 := by kernel_rfl
 rw [hc] at hl
 have c0 : Tryd.prog.cellsOf (fld 179 0).type = 1 := by kernel_rfl
 have c1 : Tryd.prog.cellsOf (fld 179 1).type = 1 := by kernel_rfl
 have o0 : (fld 179 0).offset = 0 := by kernel_rfl
 have o1 : (fld 179 1).offset = 1 := by kernel_rfl
 match xs,hxl,cs,hl with
 | [y0,y1],_,[v0,v1],_ =>
  have g0 := hf 0 (fld 179 0) rfl
  have g1 := hf 1 (fld 179 1) rfl
  simp [o0,o1,c0,c1] at g0 g1
  obtain ⟨n0,e0,e0',_⟩ := DataW.trod_int (k := .i64) (by kernel_rfl) g0
  obtain ⟨n1,e1,e1',_⟩ := DataW.trod_int (k := .i64) (by kernel_rfl) g1
  simp only [List.cons.injEq,and_true] at e0 e1
  simp only [List.map_cons,List.map_nil,Prod.mk.injEq,DataW.agg.injEq,List.cons.injEq,and_true] at hx
  obtain ⟨⟨q0,q1⟩,_⟩ := hx
  rw [e0'] at q0
  rw [e1'] at q1
  simp only [DataW.lit.injEq,Lit.int.injEq,true_and] at q0 q1
  subst q0 q1
  rw [e0,e1]
theorem trod_pairB {H : Type} {enc : TypeId × Value → H} {w : World} {sp : Nat → Bool} {hd : Bool} {fuel : Nat} {cs : List Value} {a b : Int} {ps : List MemPlace}
  (h : DataW.trod enc Tryd.prog w 0 sp hd fuel 108 cs = some (.agg [.lit (.int .i64 a),.lit (.int .i64 b)],ps)) : cs = [.int .i64 a,.int .i64 b] := by
 obtain ⟨xs,k,_,hx,hl,hxl,hf⟩ := DataW.trod_struct (t := 108) (fs := #[fld 108 0,fld 108 1]) (by kernel_rfl) h
 have hc : Tryd.prog.cellsOf 108 = 2 := by kernel_rfl
 rw [hc] at hl
 have c0 : Tryd.prog.cellsOf (fld 108 0).type = 1 := by kernel_rfl
 have c1 : Tryd.prog.cellsOf (fld 108 1).type = 1 := by kernel_rfl
 have o0 : (fld 108 0).offset = 0 := by kernel_rfl
 have o1 : (fld 108 1).offset = 1 := by kernel_rfl
 match xs,hxl,cs,hl with
 | [y0,y1],_,[v0,v1],_ =>
  have g0 := hf 0 (fld 108 0) rfl
  have g1 := hf 1 (fld 108 1) rfl
  simp [o0,o1,c0,c1] at g0 g1
  obtain ⟨n0,e0,e0',_⟩ := DataW.trod_int (k := .i64) (by kernel_rfl) g0
  obtain ⟨n1,e1,e1',_⟩ := DataW.trod_int (k := .i64) (by kernel_rfl) g1
  simp only [List.cons.injEq,and_true] at e0 e1
  simp only [List.map_cons,List.map_nil,Prod.mk.injEq,DataW.agg.injEq,List.cons.injEq,and_true] at hx
  obtain ⟨⟨q0,q1⟩,_⟩ := hx
  rw [e0'] at q0
  rw [e1'] at q1
  simp only [DataW.lit.injEq,Lit.int.injEq,true_and] at q0 q1
  subst q0 q1
  rw [e0,e1]
/-- The three listed variables. -/
theorem laid_globF {W : World} (h : laidMetH Tryd.prog [("prow/chain.nowhere",YtfkmodcjddfeiaaDoor.Rows.laid_prow_chain_nowhere),("prow/forge.begin",YtfkmodcjddfeiaaDoor.Rows.laid_prow_forge_begin),("prow/forge.thicks",YtfkmodcjddfeiaaDoor.Rows.laid_prow_forge_thicks)] W) :
  ∀ g cs,globF g = some cs → Rel (Old W) W (.ref cs 0) (.pointer (some ⟨g,0,none⟩)) := by
 intro g cs hg
 match g,hg with
 | 1,hg =>
  cases hg
  obtain ⟨⟨ps,⟨g',t,vs,fuel,p,q,hg',ht,hv,hd,_,_⟩,_⟩,_⟩ := h
  obtain rfl := Option.some.inj (gNowhere.symm.trans hg')
  obtain rfl := Option.some.inj (tNowhere.symm.trans ht)
  have e := trod_pair hd
  refine ⟨1,0,rfl,fun j d hj => ?_⟩
  have hc := World.var?_cell hg' hv
  have hs : vs = #[.int .i64 (-1),.int .i64 (-1)] := by rw [← Array.toArray_toList (xs := vs),e]
  match j,hj with
  | 0,hj =>
   cases hj
   have h0 := hc 0
   rw [hs] at h0
   exact ⟨_,rfl,cell_old h0,h0⟩
  | 1,hj =>
   cases hj
   have h0 := hc 1
   rw [hs] at h0
   exact ⟨_,rfl,cell_old h0,h0⟩
 | 2,hg =>
  cases hg
  obtain ⟨⟨ps,⟨_,_,_,_,_,_,_,_,_,_,hrest,_⟩,_⟩,_⟩ := h
  obtain ⟨g',t,vs,fuel,p,q,hg',ht,hv,hd,_,_⟩ := hrest
  obtain rfl := Option.some.inj (gBegin.symm.trans hg')
  obtain rfl := Option.some.inj (tBegin.symm.trans ht)
  have e := trod_pairB hd
  refine ⟨2,0,rfl,fun j d hj => ?_⟩
  have hc := World.var?_cell hg' hv
  have hs : vs = #[.int .i64 (-1),.int .i64 0] := by rw [← Array.toArray_toList (xs := vs),e]
  match j,hj with
  | 0,hj =>
   cases hj
   have h0 := hc 0
   rw [hs] at h0
   exact ⟨_,rfl,cell_old h0,h0⟩
  | 1,hj =>
   cases hj
   have h0 := hc 1
   rw [hs] at h0
   exact ⟨_,rfl,cell_old h0,h0⟩
 | 3,hg =>
  cases hg
  obtain ⟨g',t,vs,fuel,p,hg',ht,hv,hd⟩ := h.funcs (n := "prow/forge.thicks") (List.mem_cons_of_mem _ (List.mem_cons_of_mem _ (List.mem_cons_self ..)))
  obtain rfl := Option.some.inj (gThicks.symm.trans hg')
  obtain rfl := Option.some.inj (tThicks.symm.trans ht)
  obtain ⟨v0,v1,k,q0,q1,e,h0,h1⟩ := trod_arr2 (t := 192) (et := 191) (by kernel_rfl) (by kernel_rfl) (by kernel_rfl) hd
  have hf : Tryd.prog.underlying 191 = some (.func #[151,3,3,3] #[3] false) := by kernel_rfl
  obtain rfl := func_of_trod (f0 := 226) hf (by kernel_rfl) h0
  obtain rfl := func_of_trod (f0 := 227) hf (by kernel_rfl) h1
  refine ⟨3,0,rfl,fun j d hj => ?_⟩
  have hc := World.var?_cell hg' hv
  have hs : vs = #[.func (.func 226) #[] #[],.func (.func 227) #[] #[]] := by rw [← Array.toArray_toList (xs := vs),e]
  match j,hj with
  | 0,hj =>
   cases hj
   have h0 := hc 0
   rw [hs] at h0
   exact ⟨_,⟨#[],#[],rfl,trivial,trivial⟩,cell_old h0,h0⟩
  | 1,hj =>
   cases hj
   have h0 := hc 1
   rw [hs] at h0
   exact ⟨_,⟨#[],#[],rfl,trivial,trivial⟩,cell_old h0,h0⟩

/-! ### A world for the witness -/
def lay1 : Obj → Obj
 | .cells _ t frozen => .cells #[.int .i64 (-1),.int .i64 (-1)] t frozen
 | o => o
def lay2 : Obj → Obj
 | .cells _ t frozen => .cells #[.int .i64 (-1),.int .i64 0] t frozen
 | o => o
def lay3 : Obj → Obj
 | .cells _ t frozen => .cells #[.func (.func 226) #[] #[],.func (.func 227) #[] #[]] t frozen
 | o => o
noncomputable def laidWorld (os : Os) : World :=
 { World.holding Tryd.prog os ⟨#[],#[],[]⟩ with heap := (((World.holding Tryd.prog os ⟨#[],#[],[]⟩).heap.modify 1 lay1).modify 2 lay2).modify 3 lay3 }
def noFBook : Value := .agg #[.slice none 0 0,.slice none 0 0,.slice none 0 0,.int .i64 0,.int .i64 0,.slice none 0 0,.int .i64 0,.slice none 0 0,.int .i64 0,.int .i64 0]
def noThree : Value := .agg #[.int .i64 0,.int .i64 0,.int .i64 0]
theorem laid_met (os : Os) (args : Array Value) : laidMetH Tryd.prog [("prow/chain.nowhere",Rows.laid_prow_chain_nowhere),("prow/forge.begin",Rows.laid_prow_forge_begin),("prow/forge.thicks",Rows.laid_prow_forge_thicks)] ((laidWorld os).forCall (fun _ _ => 0) ⟨#[],args,[]⟩).memory :=
 laidMetH_of_parts3 (fuel := 8) (laidMet_of_run' 8 (by kernel_rfl) (by kernel_rfl)) (by kernel_rfl) (by kernel_rfl)
/-- What a function's contract gives the row: from the reading of its arguments. -/
theorem calls_lawF {f : FuncId} {W : World} {args : Array Value} {ds : List D} (hc : Contract Tryd.prog globF f ds (.bool true)) (hg : ∀ g cs,globF g = some cs → Rel (Old W) W (.ref cs 0) (.pointer (some ⟨g,0,none⟩))) (ha : All2 (Rel (Old W) W) ds args.toList) :
  Calls Tryd.prog f args W fun e W' => e = .returned (.bool true) ∧ Below W.heap.size W W' := by
 have := hc.calls W (Old W) args.toList (fun b o h => h) hg ha
 rw [Array.toArray_toList] at this
 exact this.mono fun e W' ⟨v,he,hb,R',_,_,hr⟩ => ⟨by rw [he,show v = .bool true from hr],hb⟩
theorem under4 : Tryd.prog.underlying 4 = some .bool := by kernel_rfl

/-! ### More kinds of arguments -/
section
variable {H : Type} {enc : TypeId × Value → H} {w : World} {sp : Nat → Bool} {hd : Bool}
/-- The cells of a chain's book. -/
theorem reads26 (fuel : Nat) (cs : List Value) (x : DataW H × List MemPlace) (h : DataW.trod enc Tryd.prog w 0 sp hd fuel 26 cs = some x) : ∃ b : Book,All2 (RelC (Old w) w) [.sl false .sec b.secs,.sl false .int b.turns,.sl false .sv b.svs,.int .i64 b.rule,.int .i64 b.days] cs ∧ b.secs.length ≤ maxLen ∧ b.turns.length ≤ maxLen ∧ b.svs.length ≤ maxLen := by
 have hu : Tryd.prog.underlying 26 = some (.struct #[fld 26 0,fld 26 1,fld 26 2,fld 26 3,fld 26 4]) := by kernel_rfl
 exact reads_book (t := 26) hu (by kernel_rfl) (by kernel_rfl) (by kernel_rfl) (by kernel_rfl) (by kernel_rfl) (by kernel_rfl) (by kernel_rfl) (by kernel_rfl) (by kernel_rfl) (by kernel_rfl) (by kernel_rfl) (e0 := 76) (e1 := 3) (e2 := 34) (by kernel_rfl) (by kernel_rfl) (by kernel_rfl) (by kernel_rfl) (by kernel_rfl) (by kernel_rfl) (by kernel_rfl) (by kernel_rfl) reads76 reads3 reads34 h
theorem six {α : Type} {l : List α} (h : l.length = 6) : ∃ a b c d e f,l = [a,b,c,d,e,f] := by
 match l,h with
 | [a,b,c,d,e,f],_ => exact ⟨a,b,c,d,e,f,rfl⟩
theorem five {α : Type} {l : List α} (h : l.length = 10) : ∃ a b c d e f g i j k,l = [a,b,c,d,e,f,g,i,j,k] := by
 match l,h with
 | [a,b,c,d,e,f,g,i,j,k],_ => exact ⟨a,b,c,d,e,f,g,i,j,k,rfl⟩
/-- A book of the forge as an argument. -/
theorem arg84 {r : Reach} {b0 : Nat} {v : Value} {d : DataW H} {ps : List MemPlace} (hval : Value.okWide Tryd.prog w r b0 84 v) (h : DataW.Trod enc Tryd.prog w 0 sp hd 84 v d ps) : ∃ x : FBook,FSmall x ∧ Rel (Old w) w (fbookD x) v := by
 have hu : Tryd.prog.underlying 84 = some (.struct #[fld 84 0,fld 84 1,fld 84 2,fld 84 3,fld 84 4,fld 84 5]) := by kernel_rfl
 unfold Value.okWide at hval
 rw [hu] at hval
 obtain ⟨cs,rfl,_⟩ := hval
 obtain ⟨fuel,h⟩ := h
 obtain ⟨xs,k,_,_,hl,hx,hf⟩ := DataW.trod_struct hu h
 have hc : Tryd.prog.cellsOf 84 = 10 := by kernel_rfl
 rw [hc] at hl
 obtain ⟨u0,u1,u2,u3,u4,u5,u6,u7,u8,u9,hcs⟩ := five hl
 obtain ⟨y0,y1,y2,y3,y4,y5,hxs⟩ := six hx
 subst hxs
 have g0 := hf 0 (fld 84 0) rfl
 have g1 := hf 1 (fld 84 1) rfl
 have g2 := hf 2 (fld 84 2) rfl
 have g3 := hf 3 (fld 84 3) rfl
 have g4 := hf 4 (fld 84 4) rfl
 have g5 := hf 5 (fld 84 5) rfl
 have hfs : ∀ i,i < 6 → (fld 84 i).offset = [0,5,6,7,8,9].getD i 0 ∧ Tryd.prog.cellsOf (fld 84 i).type = [5,1,1,1,1,1].getD i 0 ∧ (fld 84 i).type = [26,23,3,23,3,3].getD i 0 := by
  intro i hi
  have h6 : i = 0 ∨ i = 1 ∨ i = 2 ∨ i = 3 ∨ i = 4 ∨ i = 5 := by omega
  rcases h6 with rfl | rfl | rfl | rfl | rfl | rfl <;> exact ⟨by kernel_rfl,by kernel_rfl,by kernel_rfl⟩
 obtain ⟨a0,b0,c0⟩ := hfs 0 (by decide)
 obtain ⟨a1,b1,c1⟩ := hfs 1 (by decide)
 obtain ⟨a2,b2,c2⟩ := hfs 2 (by decide)
 obtain ⟨a3,b3,c3⟩ := hfs 3 (by decide)
 obtain ⟨a4,b4,c4⟩ := hfs 4 (by decide)
 obtain ⟨a5,b5,c5⟩ := hfs 5 (by decide)
 rw [a0,b0,c0,hcs] at g0
 rw [a1,b1,c1,hcs] at g1
 rw [a2,b2,c2,hcs] at g2
 rw [a3,b3,c3,hcs] at g3
 rw [a4,b4,c4,hcs] at g4
 rw [a5,b5,c5,hcs] at g5
 simp at g0 g1 g2 g3 g4 g5
 obtain ⟨b,h1,h2,h3,h4⟩ := reads26 _ _ _ g0
 have t23 : Tryd.prog.underlying 23 = some (.slice 3) := by kernel_rfl
 have t3 : Tryd.prog.underlying 3 = some (.int .i64) := by kernel_rfl
 obtain ⟨w1,fe,e1,s1,l1⟩ := reads_slice (e := .int) t23 (by kernel_rfl) reads3 g1
 obtain ⟨nw,e2⟩ := reads_int t3 g2
 obtain ⟨w3,op,e3,s3,l3⟩ := reads_slice (e := .int) t23 (by kernel_rfl) reads3 g3
 obtain ⟨st,e4⟩ := reads_int t3 g4
 obtain ⟨mk,e5⟩ := reads_int t3 g5
 simp only [List.cons.injEq,and_true] at e1 e2 e3 e4 e5
 have hm : maxLen ≤ 9223372036854775807 := by decide
 refine ⟨⟨b,fe,nw,op,st,mk⟩,⟨⟨Nat.le_trans h2 hm,Nat.le_trans h3 hm,Nat.le_trans h4 hm⟩,Nat.le_trans l1 hm,Nat.le_trans l3 hm⟩,cs,rfl,?_⟩
 have hcs' : cs.toList = [u0,u1,u2,u3,u4,u5,u6,u7,u8,u9] := hcs
 rw [hcs']
 obtain ⟨p0,p1,p2,p3,p4,_⟩ := h1
 rw [e1,e2,e3,e4,e5]
 exact ⟨p0,p1,p2,p3,p4,s1,rfl,s3,rfl,rfl,trivial⟩
/-- Three numbers. -/
theorem arg101 {r : Reach} {b0 : Nat} {v : Value} {d : DataW H} {ps : List MemPlace} (hval : Value.okWide Tryd.prog w r b0 101 v) (h : DataW.Trod enc Tryd.prog w 0 sp hd 101 v d ps) : ∃ n0 n1 n2 : Int,Rel (Old w) w (.agg [.int .i64 n0,.int .i64 n1,.int .i64 n2]) v := by
 have hu : Tryd.prog.underlying 101 = some (.array 3 3) := by kernel_rfl
 unfold Value.okWide at hval
 rw [hu] at hval
 obtain ⟨cs,rfl,_⟩ := hval
 obtain ⟨fuel,h⟩ := h
 obtain ⟨zs,h1,h2⟩ := reads_arr hu (by kernel_rfl) (by kernel_rfl) (by kernel_rfl) h
 match zs,h1 with
 | [a,b,c],_ =>
  refine ⟨a,b,c,cs,rfl,?_⟩
  rw [show cs.toList = [.int .i64 a,.int .i64 b,.int .i64 c] from h2]
  exact ⟨rfl,rfl,rfl,trivial⟩
end
end Go.Di

namespace Go.Di
theorem wrkA_fn : FnOk PRG (MF 30) 82 (body Proofs.Tryd.f82) [.tmp 4] := ⟨Proofs.Tryd.f82,by kernel_rfl,by kernel_rfl,by kernel_rfl,by kernel_rfl,by kernel_rfl⟩
theorem lnew_fn : FnOk PRG (MF 166) 17 (body Proofs.Tryd.f17) [.tmp 4] := ⟨Proofs.Tryd.f17,by kernel_rfl,by kernel_rfl,by kernel_rfl,by kernel_rfl,by kernel_rfl⟩
def wrkB_S0 (plan : List Work) (s : Int) (i : Nat) (y : Int) (r : List Int) : List (Key × Val) :=
 [(.tmp 0,.d (D.sl false E.work plan)),
  (.tmp 1,.d (D.int .i64 s)),
  (.tmp 5,.d (.own 28 (y :: r).length)),
  (.tmp 6,.d (.int .i64 i)),
  (.obj 28,.ob (some ⟨.int,y :: r⟩))]
def wrkB_K0 : List Key := [.tmp 0,.tmp 1,.tmp 5,.tmp 6,.obj 28]
def wrkA_S0 (plan : List Work) (s : Int) (i : Nat) : List (Key × Val) :=
 [(.tmp 0,.d (D.sl false E.work plan)),
  (.tmp 1,.d (D.int .i64 s)),
  (.tmp 5,.d (.sl true .int [])),
  (.tmp 6,.d (.int .i64 i)),
  (.obj 28,.ob none)]
def wrkA_K0 : List Key := [.tmp 0,.tmp 1,.tmp 5,.tmp 6,.obj 28]
def lnew_S0 (x : FBook) (n0 n1 n2 : Int) (plan : List Work) (s d : Int) (v u : Int) (l : List Int) (la : Int) (i : Nat) : List (Key × Val) :=
 [(.tmp 2,.d (D.ptr 2 0)),
  (.tmp 5,.d (D.sl false E.work plan)),
  (.tmp 6,.d (D.int .i64 s)),
  (.tmp 7,.d (D.int .i64 d)),
  (.tmp 8,.d (D.int .i64 v)),
  (.tmp 10,.d (D.int .i64 u)),
  (.tmp 12,.d (D.sl false E.int l)),
  (.tmp 13,.d (.int .i64 la)),
  (.tmp 14,.d (.int .i64 i)),
  (.box 2,.bx (some (Box.mk false (cellsOf (fbookD x)))))]
def lnew_K0 : List Key := [.tmp 2,.tmp 5,.tmp 6,.tmp 7,.tmp 8,.tmp 10,.tmp 12,.tmp 13,.tmp 14,.box 2]
def lnew_S2 (x : FBook) (n0 n1 n2 : Int) (plan : List Work) (s d : Int) (v : Int) (was p : Int) (j : Nat) : List (Key × Val) :=
 [(.tmp 2,.d (D.ptr 2 0)),
  (.tmp 7,.d (D.int .i64 d)),
  (.tmp 8,.d (D.int .i64 v)),
  (.tmp 15,.d (D.int .i64 was)),
  (.tmp 16,.d (D.int .i64 (0 : Int))),
  (.tmp 17,.d (.int .i64 p)),
  (.tmp 18,.d (.int .i64 j)),
  (.box 2,.bx (some (Box.mk false (cellsOf (fbookD x)))))]
def lnew_K2 : List Key := [.tmp 2,.tmp 7,.tmp 8,.tmp 15,.tmp 16,.tmp 17,.tmp 18,.box 2]
theorem wrkB_0_yes (plan : List Work) (s : Int) (i : Nat) (y : Int) (r : List Int) :
  runK (MF 30) [(11,true),(20,true)] [] [] (Code.at [1,1,0,1,0,0] (body Proofs.Tryd.f82)) (wrkB_S0 plan s i y r) wrkB_K0 =
   some ([decide ((i : Int) < (List.length plan : Int)) = true,(0 : Int) ≤ (i : Int) ∧ (i : Int) < (List.length plan : Int),0 + 1 + 1 ≤ 2,(Work.s (List.getD plan (i) work0) == s) = true,(0 : Int) ≤ (i : Int) ∧ (i : Int) < (List.length plan : Int),0 + 0 + 1 ≤ 2,List.length (y :: r) = List.length ((y :: r)),List.length ((y :: r) ++ [Work.d (List.getD plan (i) work0)]) * (8 + 1) ≤ 140737488355328,inI64 ((i : Int) + (1 : Int))],Ex.normal,wrkB_S0 plan s (i + 1) y (r ++ [(plan.getD i work0).d])) := by kernel_rfl
theorem wrkB_0_no (plan : List Work) (s : Int) (i : Nat) (y : Int) (r : List Int) :
  runK (MF 30) [(11,true),(20,false)] [] [] (Code.at [1,1,0,1,0,0] (body Proofs.Tryd.f82)) (wrkB_S0 plan s i y r) wrkB_K0 =
   some ([decide ((i : Int) < (List.length plan : Int)) = true,(0 : Int) ≤ (i : Int) ∧ (i : Int) < (List.length plan : Int),0 + 1 + 1 ≤ 2,(Work.s (List.getD plan (i) work0) == s) = false,inI64 ((i : Int) + (1 : Int))],Ex.normal,wrkB_S0 plan s (i + 1) y r) := by kernel_rfl
theorem wrkB_0_end (plan : List Work) (s : Int) (i : Nat) (y : Int) (r : List Int) :
  runK (MF 30) [(11,false)] [] [] (Code.at [1,1,0,1,0,0] (body Proofs.Tryd.f82)) (wrkB_S0 plan s i y r) wrkB_K0 =
   some ([decide ((i : Int) < (List.length plan : Int)) = false],Ex.exit 0,wrkB_S0 plan s i y r) := by kernel_rfl
theorem wrkA_0_yes (plan : List Work) (s : Int) (i : Nat) :
  runK (MF 30) [(11,true),(20,true)] [] [] (Code.at [1,1,0,1,0,0] (body Proofs.Tryd.f82)) (wrkA_S0 plan s i) wrkB_K0 =
   some ([decide ((i : Int) < (List.length plan : Int)) = true,(0 : Int) ≤ (i : Int) ∧ (i : Int) < (List.length plan : Int),0 + 1 + 1 ≤ 2,(Work.s (List.getD plan (i) work0) == s) = true,(0 : Int) ≤ (i : Int) ∧ (i : Int) < (List.length plan : Int),0 + 0 + 1 ≤ 2,1 * (8 + 1) ≤ 140737488355328,inI64 ((i : Int) + (1 : Int))],Ex.normal,wrkB_S0 plan s (i + 1) ((plan.getD i work0).d) []) := by kernel_rfl
theorem wrkA_0_no (plan : List Work) (s : Int) (i : Nat) :
  runK (MF 30) [(11,true),(20,false)] [] [] (Code.at [1,1,0,1,0,0] (body Proofs.Tryd.f82)) (wrkA_S0 plan s i) wrkA_K0 =
   some ([decide ((i : Int) < (List.length plan : Int)) = true,(0 : Int) ≤ (i : Int) ∧ (i : Int) < (List.length plan : Int),0 + 1 + 1 ≤ 2,(Work.s (List.getD plan (i) work0) == s) = false,inI64 ((i : Int) + (1 : Int))],Ex.normal,wrkA_S0 plan s (i + 1)) := by kernel_rfl
theorem wrkA_0_end (plan : List Work) (s : Int) (i : Nat) :
  runK (MF 30) [(11,false)] [] [] (Code.at [1,1,0,1,0,0] (body Proofs.Tryd.f82)) (wrkA_S0 plan s i) wrkA_K0 =
   some ([decide ((i : Int) < (List.length plan : Int)) = false],Ex.exit 0,wrkA_S0 plan s i) := by kernel_rfl
theorem lnew_0_yes (x : FBook) (n0 n1 n2 : Int) (plan : List Work) (s d : Int) (v u : Int) (l : List Int) (la : Int) (i : Nat) :
  runK (MF 166) [(79,true),(87,true)] [] [] (Code.at [1,1,1,1,1,1,1,1,0,1,0,0] (body Proofs.Tryd.f17)) (lnew_S0 x n0 n1 n2 plan s d v u l la i) lnew_K0 =
   some ([decide ((i : Int) < (List.length l : Int)) = true,(0 : Int) ≤ (i : Int) ∧ (i : Int) < (List.length l : Int),0 + 1 ≤ 1,decide (List.getD l (i) (0 : Int) ≤ d) = true,(0 : Int) ≤ (i : Int) ∧ (i : Int) < (List.length l : Int),0 + 1 ≤ 1,inI64 ((i : Int) + (1 : Int))],Ex.normal,lnew_S0 x n0 n1 n2 plan s d v u l (l.getD i 0) (i + 1)) := by kernel_rfl
theorem lnew_0_no (x : FBook) (n0 n1 n2 : Int) (plan : List Work) (s d : Int) (v u : Int) (l : List Int) (la : Int) (i : Nat) :
  runK (MF 166) [(79,true),(87,false)] [] [] (Code.at [1,1,1,1,1,1,1,1,0,1,0,0] (body Proofs.Tryd.f17)) (lnew_S0 x n0 n1 n2 plan s d v u l la i) lnew_K0 =
   some ([decide ((i : Int) < (List.length l : Int)) = true,(0 : Int) ≤ (i : Int) ∧ (i : Int) < (List.length l : Int),0 + 1 ≤ 1,decide (List.getD l (i) (0 : Int) ≤ d) = false,inI64 ((i : Int) + (1 : Int))],Ex.normal,lnew_S0 x n0 n1 n2 plan s d v u l la (i + 1)) := by kernel_rfl
theorem lnew_0_end (x : FBook) (n0 n1 n2 : Int) (plan : List Work) (s d : Int) (v u : Int) (l : List Int) (la : Int) (i : Nat) :
  runK (MF 166) [(79,false)] [] [] (Code.at [1,1,1,1,1,1,1,1,0,1,0,0] (body Proofs.Tryd.f17)) (lnew_S0 x n0 n1 n2 plan s d v u l la i) lnew_K0 =
   some ([decide ((i : Int) < (List.length l : Int)) = false],Ex.exit 0,lnew_S0 x n0 n1 n2 plan s d v u l la i) := by kernel_rfl
theorem lnew_2_yes (x : FBook) (n0 n1 n2 : Int) (plan : List Work) (s d : Int) (v : Int) (was p : Int) (j : Nat) :
  runK (MF 166) [(125,true),(135,true)] [] [] (Code.at [1,1,1,1,1,1,1,1,1,1,1,1,1,0,1,0,0] (body Proofs.Tryd.f17)) (lnew_S2 x n0 n1 n2 plan s d v was p j) lnew_K2 =
   some ([decide ((j : Int) < (List.length (Book.turns (FBook.chain x)) : Int)) = true,(0 : Int) ≤ (j : Int) ∧ (j : Int) < (List.length (Book.turns (FBook.chain x)) : Int),0 + 1 ≤ 1,decide (List.getD (Book.turns (FBook.chain x)) (j) (0 : Int) < d) = true,inI64 ((List.length (FBook.feet x) : Int) - (1 : Int)),inI64 ((List.length (FBook.feet x) : Int) - (1 : Int) - p),inI64 ((j : Int) + (1 : Int))],Ex.normal,lnew_S2 x n0 n1 n2 plan s d v was ((x.feet.length : Int) - 1 - p) (j + 1)) := by kernel_rfl
theorem lnew_2_no (x : FBook) (n0 n1 n2 : Int) (plan : List Work) (s d : Int) (v : Int) (was p : Int) (j : Nat) :
  runK (MF 166) [(125,true),(135,false)] [] [] (Code.at [1,1,1,1,1,1,1,1,1,1,1,1,1,0,1,0,0] (body Proofs.Tryd.f17)) (lnew_S2 x n0 n1 n2 plan s d v was p j) lnew_K2 =
   some ([decide ((j : Int) < (List.length (Book.turns (FBook.chain x)) : Int)) = true,(0 : Int) ≤ (j : Int) ∧ (j : Int) < (List.length (Book.turns (FBook.chain x)) : Int),0 + 1 ≤ 1,decide (List.getD (Book.turns (FBook.chain x)) (j) (0 : Int) < d) = false,inI64 ((j : Int) + (1 : Int))],Ex.normal,lnew_S2 x n0 n1 n2 plan s d v was p (j + 1)) := by kernel_rfl
theorem lnew_2_end (x : FBook) (n0 n1 n2 : Int) (plan : List Work) (s d : Int) (v : Int) (was p : Int) (j : Nat) :
  runK (MF 166) [(125,false)] [] [] (Code.at [1,1,1,1,1,1,1,1,1,1,1,1,1,0,1,0,0] (body Proofs.Tryd.f17)) (lnew_S2 x n0 n1 n2 plan s d v was p j) lnew_K2 =
   some ([decide ((j : Int) < (List.length (Book.turns (FBook.chain x)) : Int)) = false],Ex.exit 2,lnew_S2 x n0 n1 n2 plan s d v was p j) := by kernel_rfl
theorem wrkA_none (plan : List Work) (s : Int) (i : Nat) :
  callF (MF 30) [] [] [(0,(wrkA_K0,(.normal,wrkA_S0 plan s i)))] (body Proofs.Tryd.f82) [.tmp 4] [.sl false .work plan,.int .i64 s] =
   some ([LF 30 (Code.at [1,1,0,1] (body Proofs.Tryd.f82)) [(.tmp 0,.d (D.sl false E.work plan)),(.tmp 1,.d (D.int .i64 s)),(.tmp 5,.d (D.sl true E.int [])),(.tmp 6,.d (D.int .i64 (0 : Int))),(.obj 28,.ob Option.none)] Ex.normal (wrkA_S0 plan s i)],D.sl true E.int []) := by kernel_rfl
theorem wrkA_some (plan : List Work) (s : Int) (i : Nat) (y : Int) (r : List Int) :
  callF (MF 30) [] [] [(0,(wrkA_K0,(.normal,wrkB_S0 plan s i y r)))] (body Proofs.Tryd.f82) [.tmp 4] [.sl false .work plan,.int .i64 s] =
   some ([LF 30 (Code.at [1,1,0,1] (body Proofs.Tryd.f82)) [(.tmp 0,.d (D.sl false E.work plan)),(.tmp 1,.d (D.int .i64 s)),(.tmp 5,.d (D.sl true E.int [])),(.tmp 6,.d (D.int .i64 (0 : Int))),(.obj 28,.ob Option.none)] Ex.normal (wrkB_S0 plan s i y r),List.length (y :: r) = List.length ((y :: r))],D.sl false E.int ((y :: r))) := by kernel_rfl
theorem lnew_bad (x : FBook) (n0 n1 n2 : Int) :
  callF (MF 166) [] [(22,.bool false),(24,.bool true)] [] (body Proofs.Tryd.f17) [.tmp 4] [fbookD x,.agg [.int .i64 n0,.int .i64 n1,.int .i64 n2]] =
   some ([CF 72 [fbookD x] (D.bool false),CF 73 [] (D.bool true)],D.bool true) := by kernel_rfl
theorem lnew_err (x : FBook) (n0 n1 n2 : Int) (plan : List Work) (s d : Int) :
  callF (MF 166) [] [(22,.bool true),(28,.sl false .work plan),(34,.int .i64 s),(41,.int .i64 d),(47,.tup [.int .i64 0,.int .i64 72]),(54,.tup [.int .i64 0,.int .i64 72]),(71,.bool true)] [] (body Proofs.Tryd.f17) [.tmp 4] [fbookD x,.agg [.int .i64 n0,.int .i64 n1,.int .i64 n2]] =
   some ([CF 72 [fbookD x] (D.bool true),(0 : Int) ≤ (0 : Int) ∧ (0 : Int) < (Nat.cast : Nat → Int) 3,0 + Int.toNat (0 : Int) * 1 + 1 ≤ 3,CF 76 [fbookD x,D.int .i64 n0] (D.sl false E.work plan),(0 : Int) ≤ (1 : Int) ∧ (1 : Int) < (Nat.cast : Nat → Int) 3,0 + Int.toNat (1 : Int) * 1 + 1 ≤ 3,CF 39 [D.int .i64 n1,D.int .i64 ((List.length (FBook.feet x) : Int))] (D.int .i64 s),(0 : Int) ≤ (2 : Int) ∧ (2 : Int) < (Nat.cast : Nat → Int) 3,0 + Int.toNat (2 : Int) * 1 + 1 ≤ 3,inI64 (Book.days (FBook.chain x) + (1 : Int)),CF 39 [D.int .i64 n2,D.int .i64 (Book.days (FBook.chain x) + (1 : Int))] (D.int .i64 d),CF 81 [fbookD x,D.sl false E.work plan,D.int .i64 s,D.int .i64 d] (D.tup [D.int .i64 (0 : Int),D.int .i64 (72 : Int)]),CF 81 [fbookD x,D.sl false E.work [],D.int .i64 s,D.int .i64 d] (D.tup [D.int .i64 (0 : Int),D.int .i64 (72 : Int)]),CF 73 [] (D.bool true)],D.bool true) := by kernel_rfl
theorem lnew_none (x : FBook) (n0 n1 n2 : Int) (plan : List Work) (s d : Int) (v u : Int) (l : List Int) (la : Int) (i : Nat) :
  callF (MF 166) [(93,true),(97,true)] [(22,.bool true),(28,.sl false .work plan),(34,.int .i64 s),(41,.int .i64 d),(47,.tup [.int .i64 v,.int .i64 0]),(54,.tup [.int .i64 u,.int .i64 0]),(75,.sl false .int l),(98,.bool true)] [(0,(lnew_K0,(.normal,lnew_S0 x n0 n1 n2 plan s d v u l la i)))] (body Proofs.Tryd.f17) [.tmp 4] [fbookD x,.agg [.int .i64 n0,.int .i64 n1,.int .i64 n2]] =
   some ([CF 72 [fbookD x] (D.bool true),(0 : Int) ≤ (0 : Int) ∧ (0 : Int) < (Nat.cast : Nat → Int) 3,0 + Int.toNat (0 : Int) * 1 + 1 ≤ 3,CF 76 [fbookD x,D.int .i64 n0] (D.sl false E.work plan),(0 : Int) ≤ (1 : Int) ∧ (1 : Int) < (Nat.cast : Nat → Int) 3,0 + Int.toNat (1 : Int) * 1 + 1 ≤ 3,CF 39 [D.int .i64 n1,D.int .i64 ((List.length (FBook.feet x) : Int))] (D.int .i64 s),(0 : Int) ≤ (2 : Int) ∧ (2 : Int) < (Nat.cast : Nat → Int) 3,0 + Int.toNat (2 : Int) * 1 + 1 ≤ 3,inI64 (Book.days (FBook.chain x) + (1 : Int)),CF 39 [D.int .i64 n2,D.int .i64 (Book.days (FBook.chain x) + (1 : Int))] (D.int .i64 d),CF 81 [fbookD x,D.sl false E.work plan,D.int .i64 s,D.int .i64 d] (D.tup [D.int .i64 v,D.int .i64 (0 : Int)]),CF 81 [fbookD x,D.sl false E.work [],D.int .i64 s,D.int .i64 d] (D.tup [D.int .i64 u,D.int .i64 (0 : Int)]),CF 82 [D.sl false E.work plan,D.int .i64 s] (D.sl false E.int l),LF 166 (Code.at [1,1,1,1,1,1,1,1,0,1] (body Proofs.Tryd.f17)) [(.tmp 2,.d (D.ptr 2 0)),(.tmp 5,.d (D.sl false E.work plan)),(.tmp 6,.d (D.int .i64 s)),(.tmp 7,.d (D.int .i64 d)),(.tmp 8,.d (D.int .i64 v)),(.tmp 10,.d (D.int .i64 u)),(.tmp 12,.d (D.sl false E.int l)),(.tmp 13,.d (D.int .i64 (-(1 : Int)))),(.tmp 14,.d (D.int .i64 (0 : Int))),(.box 2,.bx (some (Box.mk false (cellsOf (fbookD x)))))] Ex.normal (lnew_S0 x n0 n1 n2 plan s d v u l la i),decide (la < (0 : Int)) = true,(v == u) = true,CF 73 [] (D.bool true),(v == u) = true],D.bool true) := by kernel_rfl
theorem lnew_now (x : FBook) (n0 n1 n2 : Int) (plan : List Work) (s d : Int) (v u : Int) (l : List Int) (la : Int) (i : Nat) :
  callF (MF 166) [(93,false),(102,true),(107,true)] [(22,.bool true),(28,.sl false .work plan),(34,.int .i64 s),(41,.int .i64 d),(47,.tup [.int .i64 v,.int .i64 0]),(54,.tup [.int .i64 u,.int .i64 0]),(75,.sl false .int l),(108,.bool true)] [(0,(lnew_K0,(.normal,lnew_S0 x n0 n1 n2 plan s d v u l la i)))] (body Proofs.Tryd.f17) [.tmp 4] [fbookD x,.agg [.int .i64 n0,.int .i64 n1,.int .i64 n2]] =
   some ([CF 72 [fbookD x] (D.bool true),(0 : Int) ≤ (0 : Int) ∧ (0 : Int) < (Nat.cast : Nat → Int) 3,0 + Int.toNat (0 : Int) * 1 + 1 ≤ 3,CF 76 [fbookD x,D.int .i64 n0] (D.sl false E.work plan),(0 : Int) ≤ (1 : Int) ∧ (1 : Int) < (Nat.cast : Nat → Int) 3,0 + Int.toNat (1 : Int) * 1 + 1 ≤ 3,CF 39 [D.int .i64 n1,D.int .i64 ((List.length (FBook.feet x) : Int))] (D.int .i64 s),(0 : Int) ≤ (2 : Int) ∧ (2 : Int) < (Nat.cast : Nat → Int) 3,0 + Int.toNat (2 : Int) * 1 + 1 ≤ 3,inI64 (Book.days (FBook.chain x) + (1 : Int)),CF 39 [D.int .i64 n2,D.int .i64 (Book.days (FBook.chain x) + (1 : Int))] (D.int .i64 d),CF 81 [fbookD x,D.sl false E.work plan,D.int .i64 s,D.int .i64 d] (D.tup [D.int .i64 v,D.int .i64 (0 : Int)]),CF 81 [fbookD x,D.sl false E.work [],D.int .i64 s,D.int .i64 d] (D.tup [D.int .i64 u,D.int .i64 (0 : Int)]),CF 82 [D.sl false E.work plan,D.int .i64 s] (D.sl false E.int l),LF 166 (Code.at [1,1,1,1,1,1,1,1,0,1] (body Proofs.Tryd.f17)) [(.tmp 2,.d (D.ptr 2 0)),(.tmp 5,.d (D.sl false E.work plan)),(.tmp 6,.d (D.int .i64 s)),(.tmp 7,.d (D.int .i64 d)),(.tmp 8,.d (D.int .i64 v)),(.tmp 10,.d (D.int .i64 u)),(.tmp 12,.d (D.sl false E.int l)),(.tmp 13,.d (D.int .i64 (-(1 : Int)))),(.tmp 14,.d (D.int .i64 (0 : Int))),(.box 2,.bx (some (Box.mk false (cellsOf (fbookD x)))))] Ex.normal (lnew_S0 x n0 n1 n2 plan s d v u l la i),decide (la < (0 : Int)) = false,(la == d) = true,(v == FBook.new x) = true,CF 73 [] (D.bool true),(v == FBook.new x) = true],D.bool true) := by kernel_rfl
theorem lnew_then (x : FBook) (n0 n1 n2 : Int) (plan : List Work) (s d : Int) (v u : Int) (l : List Int) (la : Int) (i : Nat) (was p : Int) (j : Nat) (w : Span) :
  callF (MF 166) [(93,false),(102,false),(163,true)] [(22,.bool true),(28,.sl false .work plan),(34,.int .i64 s),(41,.int .i64 d),(47,.tup [.int .i64 v,.int .i64 0]),(54,.tup [.int .i64 u,.int .i64 0]),(75,.sl false .int l),(116,.tup [.int .i64 was,.int .i64 0]),(146,.tup [spD w,.int .i64 0]),(164,.bool true)] [(0,(lnew_K0,(.normal,lnew_S0 x n0 n1 n2 plan s d v u l la i))),(2,(lnew_K2,(.normal,lnew_S2 x n0 n1 n2 plan s d v was p j)))] (body Proofs.Tryd.f17) [.tmp 4] [fbookD x,.agg [.int .i64 n0,.int .i64 n1,.int .i64 n2]] =
   some ([CF 72 [fbookD x] (D.bool true),(0 : Int) ≤ (0 : Int) ∧ (0 : Int) < (Nat.cast : Nat → Int) 3,0 + Int.toNat (0 : Int) * 1 + 1 ≤ 3,CF 76 [fbookD x,D.int .i64 n0] (D.sl false E.work plan),(0 : Int) ≤ (1 : Int) ∧ (1 : Int) < (Nat.cast : Nat → Int) 3,0 + Int.toNat (1 : Int) * 1 + 1 ≤ 3,CF 39 [D.int .i64 n1,D.int .i64 ((List.length (FBook.feet x) : Int))] (D.int .i64 s),(0 : Int) ≤ (2 : Int) ∧ (2 : Int) < (Nat.cast : Nat → Int) 3,0 + Int.toNat (2 : Int) * 1 + 1 ≤ 3,inI64 (Book.days (FBook.chain x) + (1 : Int)),CF 39 [D.int .i64 n2,D.int .i64 (Book.days (FBook.chain x) + (1 : Int))] (D.int .i64 d),CF 81 [fbookD x,D.sl false E.work plan,D.int .i64 s,D.int .i64 d] (D.tup [D.int .i64 v,D.int .i64 (0 : Int)]),CF 81 [fbookD x,D.sl false E.work [],D.int .i64 s,D.int .i64 d] (D.tup [D.int .i64 u,D.int .i64 (0 : Int)]),CF 82 [D.sl false E.work plan,D.int .i64 s] (D.sl false E.int l),LF 166 (Code.at [1,1,1,1,1,1,1,1,0,1] (body Proofs.Tryd.f17)) [(.tmp 2,.d (D.ptr 2 0)),(.tmp 5,.d (D.sl false E.work plan)),(.tmp 6,.d (D.int .i64 s)),(.tmp 7,.d (D.int .i64 d)),(.tmp 8,.d (D.int .i64 v)),(.tmp 10,.d (D.int .i64 u)),(.tmp 12,.d (D.sl false E.int l)),(.tmp 13,.d (D.int .i64 (-(1 : Int)))),(.tmp 14,.d (D.int .i64 (0 : Int))),(.box 2,.bx (some (Box.mk false (cellsOf (fbookD x)))))] Ex.normal (lnew_S0 x n0 n1 n2 plan s d v u l la i),decide (la < (0 : Int)) = false,(la == d) = false,inI64 (d - (1 : Int)),CF 81 [fbookD x,D.sl false E.work plan,D.int .i64 s,D.int .i64 (d - (1 : Int))] (D.tup [D.int .i64 was,D.int .i64 (0 : Int)]),LF 166 (Code.at [1,1,1,1,1,1,1,1,1,1,1,1,1,0,1] (body Proofs.Tryd.f17)) [(.tmp 2,.d (D.ptr 2 0)),(.tmp 7,.d (D.int .i64 d)),(.tmp 8,.d (D.int .i64 v)),(.tmp 15,.d (D.int .i64 was)),(.tmp 16,.d (D.int .i64 (0 : Int))),(.tmp 17,.d (D.int .i64 s)),(.tmp 18,.d (D.int .i64 (0 : Int))),(.box 2,.bx (some (Box.mk false (cellsOf (fbookD x)))))] Ex.normal (lnew_S2 x n0 n1 n2 plan s d v was p j),CF 42 [bookD x.chain,D.int .i64 p] (D.tup [D.agg [D.int .i64 (Span.lo w),D.int .i64 (Span.hi w)],D.int .i64 (0 : Int)]),0 + 1 + 1 ≤ 2,inI64 (was - Span.hi w),(v == was - Span.hi w) = true,CF 73 [] (D.bool true),(v == was - Span.hi w) = true],D.bool true) := by kernel_rfl
end Go.Di

namespace Go.Di

/-! ### works: the days on which a plan changes a section -/
def wrkTo (plan : List Work) (s : Int) : Nat → List Int
 | 0 => []
 | i + 1 => if ((plan.getD i work0).s == s) = true then wrkTo plan s i ++ [(plan.getD i work0).d] else wrkTo plan s i
def wrkF (plan : List Work) (s : Int) : List Int := wrkTo plan s plan.length
def wrkS (plan : List Work) (s : Int) (i : Nat) : List Int → List (Key × Val)
 | [] => wrkA_S0 plan s i
 | y :: r => wrkB_S0 plan s i y r
theorem wrkTo_len (plan : List Work) (s : Int) : ∀ i,(wrkTo plan s i).length ≤ i
 | 0 => Nat.le_refl 0
 | i + 1 => by
  have := wrkTo_len plan s i
  simp only [wrkTo]
  split
  ·rw [List.length_append,List.length_singleton]; omega
  ·omega
theorem wrk_con {plan : List Work} (hl : plan.length ≤ 1000) (s : Int) : CF 82 [.sl false .work plan,.int .i64 s] (.sl false .int (wrkF plan s)) := by
 have hloop : LF 30 (Code.at [1,1,0,1] (body Proofs.Tryd.f82)) (wrkS plan s 0 (wrkTo plan s 0)) .normal (wrkS plan s plan.length (wrkF plan s)) := by
  refine LF.each (id := 0) (c := Code.at [1,1,0,1,0,0] (body Proofs.Tryd.f82)) (by kernel_rfl) plan.length (fun i => wrkS plan s i (wrkTo plan s i)) (fun i hi => ?_) ?_
  ·have hlen := wrkTo_len plan s i
   have e : wrkTo plan s (i + 1) = if ((plan.getD i work0).s == s) = true then wrkTo plan s i ++ [(plan.getD i work0).d] else wrkTo plan s i := rfl
   simp only [e]
   cases hb : ((plan.getD i work0).s == s) with
   | true =>
    rw [if_pos rfl]
    cases hw : wrkTo plan s i with
    | nil => exact ⟨_,_,_,_,_,_,wrkA_0_yes plan s i,⟨lt_true hi,⟨by omega,by omega⟩,by omega,hb,⟨by omega,by omega⟩,by omega,by omega,i64_of (by omega) (by omega),trivial⟩,rfl⟩
    | cons y r =>
     rw [hw] at hlen
     exact ⟨_,_,_,_,_,_,wrkB_0_yes plan s i y r,⟨lt_true hi,⟨by omega,by omega⟩,by omega,hb,⟨by omega,by omega⟩,by omega,rfl,by rw [List.length_append,List.length_singleton]; omega,i64_of (by omega) (by omega),trivial⟩,rfl⟩
   | false =>
    rw [if_neg (by decide)]
    cases hw : wrkTo plan s i with
    | nil => exact ⟨_,_,_,_,_,_,wrkA_0_no plan s i,⟨lt_true hi,⟨by omega,by omega⟩,by omega,hb,i64_of (by omega) (by omega),trivial⟩,rfl⟩
    | cons y r => exact ⟨_,_,_,_,_,_,wrkB_0_no plan s i y r,⟨lt_true hi,⟨by omega,by omega⟩,by omega,hb,i64_of (by omega) (by omega),trivial⟩,rfl⟩
  ·show ∃ dec orc lorc ks ps e1 L1,_
   cases h : wrkTo plan s plan.length with
   | nil => exact ⟨_,_,_,_,_,_,_,wrkA_0_end plan s _,⟨lt_false,trivial⟩,.inl ⟨rfl,rfl⟩,by unfold wrkF; rw [h]; rfl⟩
   | cons y r => exact ⟨_,_,_,_,_,_,_,wrkB_0_end plan s _ y r,⟨lt_false,trivial⟩,.inl ⟨rfl,rfl⟩,by unfold wrkF; rw [h]; rfl⟩
 cases h : wrkF plan s with
 | nil =>
  rw [h] at hloop
  exact Contract.weaken (contract_of_path (GF 30) wrkA_fn (wrkA_none plan s _) ⟨hloop,trivial⟩)
 | cons y r =>
  rw [h] at hloop
  exact contract_of_path (GF 30) wrkA_fn (wrkA_some plan s _ y r) ⟨hloop,rfl,trivial⟩

/-! ### The last day on which a section was changed -/
/-- The last number of a list that is not above a day; -1: there is none. -/
def lastTo (l : List Int) (d : Int) : Nat → Int
 | 0 => -1
 | i + 1 => if l.getD i 0 ≤ d then l.getD i 0 else lastTo l d i
def lastL (l : List Int) (d : Int) : Int := l.foldl (fun z c => if c ≤ d then c else z) (-1)
theorem lastTo_eq (l : List Int) (d : Int) : ∀ i,i ≤ l.length → lastTo l d i = lastL (l.take i) d
 | 0,_ => by simp [lastTo,lastL]
 | i + 1,h => by
  rw [take_succ_getD l i 0 (by omega)]
  unfold lastL
  rw [List.foldl_append]
  show lastTo l d (i + 1) = if l.getD i 0 ≤ d then l.getD i 0 else lastL (l.take i) d
  rw [← lastTo_eq l d i (by omega)]
  rfl
/-- The two tellings of the last change are one. -/
def sameLast (p : Int × Int) (z : Int) : Prop := p.1 = 0 ∧ z = -1 ∨ p.1 = 1 ∧ z = p.2
theorem wrk_last (plan : List Work) (s d : Int) : ∀ i,i ≤ plan.length → sameLast (lastF (plan.take i) s d) (lastL (wrkTo plan s i) d)
 | 0,_ => .inl ⟨rfl,rfl⟩
 | i + 1,h => by
  have ih := wrk_last plan s d i (by omega)
  rw [take_succ_getD plan i work0 (by omega)]
  unfold lastF
  rw [List.foldl_append]
  show sameLast (lastStep s d (lastF (plan.take i) s d) (plan.getD i work0)) (lastL (wrkTo plan s (i + 1)) d)
  generalize lastF (plan.take i) s d = p at ih ⊢
  unfold lastStep
  cases hb : ((plan.getD i work0).s == s) with
  | true =>
   have hs : (plan.getD i work0).s = s := by simpa using hb
   have e : wrkTo plan s (i + 1) = wrkTo plan s i ++ [(plan.getD i work0).d] := by simp only [wrkTo,hb,if_true]
   have e2 : lastL (wrkTo plan s i ++ [(plan.getD i work0).d]) d = if (plan.getD i work0).d ≤ d then (plan.getD i work0).d else lastL (wrkTo plan s i) d := by unfold lastL; rw [List.foldl_append]; rfl
   rw [e,e2]
   by_cases hd : (plan.getD i work0).d ≤ d
   ·rw [if_pos ⟨hs,hd⟩,if_pos hd]; exact .inr ⟨rfl,rfl⟩
   ·rw [if_neg (fun h => hd h.2),if_neg hd]; exact ih
  | false =>
   have hs : ¬ (plan.getD i work0).s = s := by simpa using hb
   have e : wrkTo plan s (i + 1) = wrkTo plan s i := by simp only [wrkTo,hb,Bool.false_eq_true,if_false]
   rw [e,if_neg (fun h => hs h.1)]
   exact ih
theorem wrk_last' (plan : List Work) (s d : Int) : sameLast (lastF plan s d) (lastL (wrkF plan s) d) := by
 have := wrk_last plan s d plan.length (Nat.le_refl _)
 rwa [List.take_length] at this
/-- Of a plan that was changed on a day: that day,if no later one counts. -/
theorem lastF_in (s d : Int) : ∀ (plan : List Work) (p : Int × Int),plan.Pairwise wlt → (∃ w ∈ plan,w.s = s ∧ w.d = d) → (plan.foldl (lastStep s d) p).2 = d
 | [],_,_,⟨w,hw,_⟩ => by cases hw
 | w :: l,p,hp,h => by
  obtain ⟨hw,hl⟩ := List.pairwise_cons.1 hp
  by_cases hx : ∃ w ∈ l,w.s = s ∧ w.d = d
  ·exact lastF_in s d l _ hl hx
  ·obtain ⟨v,hv,hvs,hvd⟩ := h
   rcases List.mem_cons.1 hv with rfl | hv
   ·have hno : ∀ (l : List Work) (q : Int × Int),(∀ u ∈ l,¬ (u.s = s ∧ u.d ≤ d)) → l.foldl (lastStep s d) q = q := by
     intro l
     induction l with
     | nil => exact fun _ _ => rfl
     | cons u l ih =>
      intro q hq
      rw [List.foldl_cons]
      have : lastStep s d q u = q := by unfold lastStep; rw [if_neg (hq u (by simp))]
      rw [this]
      exact ih q fun z hz => hq z (by simp [hz])
    rw [List.foldl_cons,hno l _ (fun u hu hc => ?_)]
    ·unfold lastStep
     rw [if_pos ⟨hvs,by omega⟩]
     exact hvd
    ·have := hw u hu
     unfold wlt at this
     exact hx ⟨u,hu,hc.1,by omega⟩
   ·exact absurd ⟨v,hv,hvs,hvd⟩ hx
/-- If it was not changed on a day,the day before tells the same. -/
theorem lastF_before {plan : List Work} (hp : plan.Pairwise wlt) {s d : Int} (h : (lastF plan s d).2 ≠ d) : lastF plan s (d - 1) = lastF plan s d := by
 have hno : ∀ w ∈ plan,¬ (w.s = s ∧ w.d = d) := fun w hw hc => h (lastF_in s d plan (0,0) hp ⟨w,hw,hc⟩)
 unfold lastF
 have key : ∀ (l : List Work) (p : Int × Int),(∀ w ∈ l,¬ (w.s = s ∧ w.d = d)) → l.foldl (lastStep s (d - 1)) p = l.foldl (lastStep s d) p := by
  intro l
  induction l with
  | nil => exact fun _ _ => rfl
  | cons w l ih =>
   intro p hl
   rw [List.foldl_cons,List.foldl_cons]
   have e : lastStep s (d - 1) p w = lastStep s d p w := by
    unfold lastStep
    have := hl w (by simp)
    by_cases hc : w.s = s ∧ w.d ≤ d
    ·rw [if_pos hc,if_pos ⟨hc.1,by have h2 : w.d ≠ d := fun e => this ⟨hc.1,e⟩; omega⟩]
    ·rw [if_neg hc,if_neg (fun h2 => hc ⟨h2.1,by omega⟩)]
   rw [e]
   exact ih _ fun z hz => hl z (by simp [hz])
 exact key plan _ hno
theorem lastF_nn {plan : List Work} {s d : Int} (h0 : ∀ w ∈ plan,0 ≤ w.d) : 0 ≤ (lastF plan s d).2 := by
 have key : ∀ (l : List Work) (p : Int × Int),0 ≤ p.2 → (∀ w ∈ l,0 ≤ w.d) → 0 ≤ (l.foldl (lastStep s d) p).2 := by
  intro l
  induction l with
  | nil => exact fun _ h _ => h
  | cons w l ih =>
   intro p hp hl
   rw [List.foldl_cons]
   refine ih _ ?_ fun z hz => hl z (by simp [hz])
   unfold lastStep
   split
   ·exact hl w (by simp)
   ·exact hp
 exact key plan _ (by decide) h0
theorem lastF_led {plan : List Work} {s d : Int} (hd : 0 ≤ d) : (lastF plan s d).2 ≤ d := by
 have key : ∀ (l : List Work) (p : Int × Int),p.2 ≤ d → (l.foldl (lastStep s d) p).2 ≤ d := by
  intro l
  induction l with
  | nil => exact fun _ h => h
  | cons w l ih =>
   intro p hp
   rw [List.foldl_cons]
   refine ih _ ?_
   unfold lastStep
   split
   ·rename_i h; exact h.2
   ·exact hp
 exact key plan _ hd
end Go.Di

namespace Go.Di
theorem leastV_nil (x : FBook) (s d : Int) : leastV x [] s d = oldF (knowTh x) s d := rfl
theorem leastV_old {x : FBook} {plan : List Work} {s d : Int} (h : (lastF plan s d).1 = 0) : leastV x plan s d = oldF (knowTh x) s d := by unfold leastV fleastF; rw [if_pos h]
theorem leastV_fresh {x : FBook} {plan : List Work} {s d : Int} (h : (lastF plan s d).1 = 1) : leastV x plan s d = freshF x (knowWr x) s (lastF plan s d).2 (d - (lastF plan s d).2).toNat := by unfold leastV fleastF; rw [if_neg (by omega)]
theorem planB_nil {x : FBook} (hV : FValid x) : planB x [] = true := (isPlan_iff hV).2 ⟨(fun w hw => absurd hw (by simp)),List.Pairwise.nil⟩
theorem knowWr_at {x : FBook} {p : Int} (hp : 0 ≤ p ∧ p < x.feet.length) : (knowWr x).getD p.toNat 0 = (toldF (wearAt p) (truthsF x.chain [])).hi := by
 unfold knowWr
 rw [List.getD_eq_getElem?_getD,List.getElem?_map,List.getElem?_range (by omega)]
 show wearHi x.chain (p.toNat : Int) = _
 unfold wearHi
 rw [Int.toNat_of_nonneg hp.1]
/-- THE LAW ForgeNew. -/
theorem lnew_con {x : FBook} (hs : FSmall x) (n0 n1 n2 : Int) : CF 17 [fbookD x,.agg [.int .i64 n0,.int .i64 n1,.int .i64 n2]] (.bool true) := by
 have hsound := fsound_con hs
 cases hv : fvalidF x with
 | false =>
  rw [hv] at hsound
  exact contract_of_path (GF 166) lnew_fn (lnew_bad x n0 n1 n2) ⟨hsound,riv_con,trivial⟩
 | true =>
  rw [hv] at hsound
  have hV := fvalid_iff.1 hv
  have hfe := hV.feet
  have hsec := hV.chain.secs
  have hday := hV.chain.days
  have htu := hV.chain.turns
  have hdr := drawn_con hV n0
  have hb := drawn_b hV n0
  have hpl := drawn_plan hV n0
  have hlen := plan_len hV hpl
  generalize drawnF x n0 = plan at *
  have hl : plan.length ≤ 9223372036854775807 := by omega
  have m1 := modU_con n1 x.feet.length (by omega)
  have m2 := modU_con n2 (x.chain.days + 1) (by omega)
  have hsi := modF_in (n := n1) (m := x.feet.length) (by omega)
  have hdi := modF_in (n := n2) (m := x.chain.days + 1) (by omega)
  generalize modF n1 x.feet.length = s at *
  generalize modF n2 (x.chain.days + 1) = d at *
  have hd2 : 0 ≤ d ∧ d ≤ x.chain.days := ⟨hdi.1,by omega⟩
  have hL := fLeast_con hs hl s d
  have hN := fLeast_con hs (plan := []) (by simp) s d
  have hbn := planB_nil hV
  have i1 : inI64 (x.chain.days + 1) := i64_of (by omega) (by omega)
  cases hc : canF x.chain with
  | false =>
   rw [fLeast_not hV hb hc hsi hd2] at hL
   rw [fLeast_not hV hbn hc hsi hd2] at hN
   exact contract_of_path (GF 166) lnew_fn (lnew_err x n0 n1 n2 plan s d) (by
    repeat (first | exact trivial | refine ⟨by first | exact hsound | exact hdr | exact m1 | exact m2 | exact i1 | exact hL | exact hN | exact riv_con | decide | (constructor <;> decide),?_⟩))
  | true =>
   rw [fLeast_can hV hb hc hsi hd2] at hL
   rw [fLeast_can hV hbn hc hsi hd2] at hN
   have hW := wrk_con hlen s
   have hwl := wrkTo_len plan s plan.length
   have hloop : LF 166 (Code.at [1,1,1,1,1,1,1,1,0,1] (body Proofs.Tryd.f17)) (lnew_S0 x n0 n1 n2 plan s d (leastV x plan s d) (leastV x [] s d) (wrkF plan s) (lastTo (wrkF plan s) d 0) 0) .normal (lnew_S0 x n0 n1 n2 plan s d (leastV x plan s d) (leastV x [] s d) (wrkF plan s) (lastTo (wrkF plan s) d (wrkF plan s).length) (wrkF plan s).length) := by
    refine LF.each (id := 0) (c := Code.at [1,1,1,1,1,1,1,1,0,1,0,0] (body Proofs.Tryd.f17)) (by kernel_rfl) (wrkF plan s).length (fun i => lnew_S0 x n0 n1 n2 plan s d (leastV x plan s d) (leastV x [] s d) (wrkF plan s) (lastTo (wrkF plan s) d i) i) (fun i hi => ?_) ⟨_,_,_,_,_,_,_,lnew_0_end x n0 n1 n2 plan s d _ _ _ _ _,⟨lt_false,trivial⟩,.inl ⟨rfl,rfl⟩,rfl⟩
    have hwl2 : (wrkF plan s).length ≤ plan.length := hwl
    by_cases hle : (wrkF plan s).getD i 0 ≤ d
    ·exact ⟨_,_,_,_,_,_,lnew_0_yes x n0 n1 n2 plan s d _ _ _ _ i,⟨lt_true hi,⟨by omega,by omega⟩,by omega,decide_eq_true hle,⟨by omega,by omega⟩,by omega,i64_of (by omega) (by omega),trivial⟩,by simp only [lastTo]; rw [if_pos hle]⟩
    ·exact ⟨_,_,_,_,_,_,lnew_0_no x n0 n1 n2 plan s d _ _ _ _ i,⟨lt_true hi,⟨by omega,by omega⟩,by omega,decide_eq_false hle,i64_of (by omega) (by omega),trivial⟩,by simp only [lastTo]; rw [if_neg hle]⟩
   have e0 : lastTo (wrkF plan s) d 0 = -1 := rfl
   rw [e0,lastTo_eq (wrkF plan s) d _ (Nat.le_refl _),List.take_length] at hloop
   have hnn := lastF_nn (plan := plan) (s := s) (d := d) (fun w hw => (hV.opn.1 _ (hpl.1 w hw).1).1)
   have hle := lastF_led (plan := plan) (s := s) hdi.1
   rcases wrk_last' plan s d with ⟨h0,hz⟩ | ⟨h0,hz⟩
   ·rw [hz] at hloop
    have h1 : decide ((-1 : Int) < 0) = true := rfl
    have h2 : (leastV x plan s d == leastV x [] s d) = true := by rw [leastV_old h0,leastV_nil]; simp
    exact contract_of_path (GF 166) lnew_fn (lnew_none x n0 n1 n2 plan s d _ _ _ _ _) (by
     repeat (first | exact trivial | refine ⟨by first | exact hsound | exact hdr | exact m1 | exact m2 | exact i1 | exact hL | exact hN | exact hW | exact hloop | exact h1 | exact h2 | exact riv_con | decide | (constructor <;> decide),?_⟩))
   ·rw [hz] at hloop
    have hfr := leastV_fresh (x := x) h0
    have hbef := lastF_before (s := s) (d := d) hpl.2
    generalize hc2 : (lastF plan s d).2 = c at *
    have h1 : decide (c < 0) = false := decide_eq_false (by omega)
    by_cases hcd : c = d
    ·subst hcd
     have h2 : (c == c) = true := by simp
     have h3 : (leastV x plan s c == x.new) = true := by rw [hfr,Int.sub_self]; simp [freshF]
     exact contract_of_path (GF 166) lnew_fn (lnew_now x n0 n1 n2 plan s c _ _ _ _ _) (by
      repeat (first | exact trivial | refine ⟨by first | exact hsound | exact hdr | exact m1 | exact m2 | exact i1 | exact hL | exact hN | exact hW | exact hloop | exact h1 | exact h2 | exact h3 | exact riv_con | decide | (constructor <;> decide),?_⟩))
    ·have h2 : (c == d) = false := beq_eq_false_iff_ne.2 hcd
     have hd1 : 0 ≤ d - 1 ∧ d - 1 ≤ x.chain.days := ⟨by omega,by omega⟩
     have hB := fLeast_con hs hl s (d - 1)
     rw [fLeast_can hV hb hc hsi hd1] at hB
     have hbef2 := hbef hcd
     have hwas : leastV x plan s (d - 1) = freshF x (knowWr x) s c (d - 1 - c).toNat := by
      have := leastV_fresh (x := x) (plan := plan) (s := s) (d := d - 1) (by rw [hbef2]; exact h0)
      rw [hbef2,hc2] at this
      exact this
     have hpin := placeF_in (turns := x.chain.turns) (day := d - 1) hsi
     have hstep : leastV x plan s d = leastV x plan s (d - 1) - (toldF (wearAt (placeF x.feet.length x.chain.turns (d - 1) s)) (truthsF x.chain [])).hi := by
      rw [hfr,hwas,show (d - c).toNat = (d - 1 - c).toNat + 1 by omega]
      show freshF x (knowWr x) s c (d - 1 - c).toNat - (knowWr x).getD (fplaceF x s (c + ((d - 1 - c).toNat : Nat))).toNat 0 = _
      rw [show c + (((d - 1 - c).toNat : Nat) : Int) = d - 1 by omega]
      unfold fplaceF
      rw [knowWr_at hpin]
     have hloop2 : LF 166 (Code.at [1,1,1,1,1,1,1,1,1,1,1,1,1,0,1] (body Proofs.Tryd.f17)) (lnew_S2 x n0 n1 n2 plan s d (leastV x plan s d) (leastV x plan s (d - 1)) (placeF x.feet.length (x.chain.turns.take 0) (d - 1) s) 0) .normal (lnew_S2 x n0 n1 n2 plan s d (leastV x plan s d) (leastV x plan s (d - 1)) (placeF x.feet.length x.chain.turns (d - 1) s) x.chain.turns.length) := by
      refine LF.each (id := 2) (c := Code.at [1,1,1,1,1,1,1,1,1,1,1,1,1,0,1,0,0] (body Proofs.Tryd.f17)) (by kernel_rfl) x.chain.turns.length (fun i => lnew_S2 x n0 n1 n2 plan s d (leastV x plan s d) (leastV x plan s (d - 1)) (placeF x.feet.length (x.chain.turns.take i) (d - 1) s) i) (fun i hi => ?_) ⟨_,_,_,_,_,_,_,lnew_2_end x n0 n1 n2 plan s d _ _ _ _,⟨lt_false,trivial⟩,.inl ⟨rfl,rfl⟩,by rw [List.take_length]⟩
      have hin := placeF_in (turns := x.chain.turns.take i) (day := d - 1) hsi
      have hf := take_foldl (fun s t => if t ≤ d - 1 then (x.feet.length : Int) - 1 - s else s) x.chain.turns s i 0 hi
      by_cases ht : x.chain.turns.getD i 0 < d
      ·rw [if_pos (by omega)] at hf
       exact ⟨_,_,_,_,_,_,lnew_2_yes x n0 n1 n2 plan s d _ _ _ i,⟨lt_true hi,⟨by omega,by omega⟩,by omega,decide_eq_true ht,i64_of (by omega) (by omega),i64_of (by omega) (by omega),i64_of (by omega) (by omega),trivial⟩,by unfold placeF; rw [hf]⟩
      ·rw [if_neg (by omega)] at hf
       exact ⟨_,_,_,_,_,_,lnew_2_no x n0 n1 n2 plan s d _ _ _ i,⟨lt_true hi,⟨by omega,by omega⟩,by omega,decide_eq_false ht,i64_of (by omega) (by omega),trivial⟩,by unfold placeF; rw [hf]⟩
     have hWe := wearU_con hV.chain hc (s := placeF x.feet.length x.chain.turns (d - 1) s) (by omega)
     have h4 := beq_iff_eq.2 hstep
     have hwi : 0 ≤ (toldF (wearAt (placeF x.feet.length x.chain.turns (d - 1) s)) (truthsF x.chain [])).hi ∧ (toldF (wearAt (placeF x.feet.length x.chain.turns (d - 1) s)) (truthsF x.chain [])).hi ≤ 1000 := by
      have hw := wearHi_in hV.chain hc (p := (placeF x.feet.length x.chain.turns (d - 1) s).toNat) (by omega)
      unfold wearHi at hw
      rwa [Int.toNat_of_nonneg hpin.1] at hw
     have hli := fleast_in hV.inn (know_ok hV hc) (hpl.ok hV.inn) hsi hd1
     have i5 : inI64 (leastV x plan s (d - 1) - (toldF (wearAt (placeF x.feet.length x.chain.turns (d - 1) s)) (truthsF x.chain [])).hi) := by
      have key : ∀ A B : Int,-1000000 ≤ A ∧ A ≤ 1000000 → 0 ≤ B ∧ B ≤ 1000 → inI64 (A - B) := fun A B h1 h2 => i64_of (by omega) (by omega)
      exact key _ _ hli hwi
     have i6 : inI64 (d - 1) := i64_of (by omega) (by omega)
     exact contract_of_path (GF 166) lnew_fn (lnew_then x n0 n1 n2 plan s d _ _ _ _ _ _ _ _ _) (by
      repeat (first | exact trivial | refine ⟨by first | exact hsound | exact hdr | exact m1 | exact m2 | exact i1 | exact i5 | exact i6 | exact hL | exact hN | exact hW | exact hloop | exact hloop2 | exact hWe | exact hB | exact h1 | exact h2 | exact h4 | exact riv_con | decide | (constructor <;> decide),?_⟩))
end Go.Di

