/- Part 28: an interpreter over plain data for this code, with the proof that it says what the model does, and the contracts of the functions. No condition. -/
import Derived.Test.YtfkmodcjddfeiaaDoorDi27
import Derived.Test.YtfkmodcjddfeiaaDoorCards
import Derived.Test.YtfkmodcjddfeiaaDoorTie
import Derived.SevenTiedAt
import Derived.Stop.Joined
import Derived.Deep.DeepWitnessRowRef
set_option linter.unusedVariables false
set_option linter.unusedSimpArgs false
set_option maxRecDepth 100000
namespace Go.Di
open Proofs
open Go.RowKit Go.ChangeShapes Go.WideShapes Go.Deep Go.ChangeAt Go.Proofs
open Go.Proofs.YtfkmodcjddfeiaaDoor

/-! ### The program's facts -/
theorem laidOut : laidOutB Tryd.prog = true := by kernel_rfl
theorem own : ownKnob Tryd.prog.godebug = none := by kernel_rfl
theorem gNowhere : Tryd.prog.globalNamed "prow/chain.nowhere" = some 1 := by kernel_rfl
theorem gBegin : Tryd.prog.globalNamed "prow/forge.begin" = some 2 := by kernel_rfl
theorem gThicks : Tryd.prog.globalNamed "prow/forge.thicks" = some 3 := by kernel_rfl
theorem tBegin : (Tryd.prog.globals[2]?).map (·.type) = some 108 := by kernel_rfl
theorem tThicks : (Tryd.prog.globals[3]?).map (·.type) = some 192 := by kernel_rfl
theorem tNowhere : (Tryd.prog.globals[1]?).map (·.type) = some 179 := by kernel_rfl

section
variable {H : Type} {enc : TypeId × Value → H} {w : World} {sp : Nat → Bool} {hd : Bool}
theorem reads3 : ReadsE enc Tryd.prog w sp hd 3 .int := fun fuel cs x h => by
 obtain ⟨n,rfl⟩ := reads_int (t := 3) (by kernel_rfl) h
 exact ⟨n,rfl,rfl⟩
/-- The fields of a struct. -/
noncomputable def fld (t i : Nat) : Field := match Tryd.prog.underlying t with
 | some (.struct fs) => fs.getD i default
 | _ => default
theorem reads51 (fuel : Nat) (cs : List Value) (x : DataW H × List MemPlace) (h : DataW.trod enc Tryd.prog w 0 sp hd fuel 51 cs = some x) : ∃ a b,cs = [.int .i64 a,.int .i64 b] :=
 reads_two (t := 51) (f0 := fld 51 0) (f1 := fld 51 1) (by kernel_rfl) (by kernel_rfl) (by kernel_rfl) (by kernel_rfl) (by kernel_rfl) (by kernel_rfl) (by kernel_rfl) (by kernel_rfl) h
theorem reads76 : ReadsE enc Tryd.prog w sp hd 76 .sec := fun fuel cs x h => by
 obtain ⟨a,b,c,d,rfl⟩ := reads_sec (t := 76) (f0 := fld 76 0) (f1 := fld 76 1) (by kernel_rfl) (by kernel_rfl) (by kernel_rfl) (by kernel_rfl) (by kernel_rfl) (by kernel_rfl) (by rw [show (fld 76 0).type = 51 from by kernel_rfl]; exact reads51) (by rw [show (fld 76 1).type = 51 from by kernel_rfl]; exact reads51) h
 exact ⟨(⟨⟨a,b⟩,⟨c,d⟩⟩ : Sec),rfl,rfl⟩
theorem reads34 : ReadsE enc Tryd.prog w sp hd 34 .sv := fun fuel cs x h => by
 obtain ⟨a,b,c,d,rfl⟩ := reads_four (t := 34) (f0 := fld 34 0) (f1 := fld 34 1) (f2 := fld 34 2) (f3 := fld 34 3) (by kernel_rfl) (by kernel_rfl) (by kernel_rfl) (by kernel_rfl) (by kernel_rfl) (by kernel_rfl) (by kernel_rfl) (by kernel_rfl) (by kernel_rfl) (by kernel_rfl) (by kernel_rfl) (by kernel_rfl) (by kernel_rfl) (by kernel_rfl) h
 exact ⟨(⟨a,b,c,d⟩ : Sv),rfl,rfl⟩
end

/-! ### The listed variables -/
theorem trod_arr2 {H : Type} {enc : TypeId × Value → H} {P : Program} {w : World} {sp : Nat → Bool} {hd : Bool} {t et : TypeId} (ht : P.underlying t = some (.array 2 et)) (hc : P.cellsOf t = 2) (ce : P.cellsOf et = 1) {fuel : Nat} {cs : List Value} {d0 d1 : DataW H} {ps : List MemPlace}
  (h : DataW.trod enc P w 0 sp hd fuel t cs = some (.agg [d0,d1],ps)) : ∃ v0 v1 k q0 q1,cs = [v0,v1] ∧ DataW.trod enc P w 0 sp hd k et [v0] = some (d0,q0) ∧ DataW.trod enc P w 0 sp hd k et [v1] = some (d1,q1) := by
 cases fuel with
 | zero => simp [DataW.trod] at h
 | succ k =>
  unfold DataW.trod at h
  rw [ht] at h
  simp only [ce,Nat.mul_one] at h
  split at h
  ·rename_i hl
   rw [hc] at hl
   match cs,hl with
   | [v0,v1],_ =>
    have hr : List.range 2 = [0,1] := rfl
    rw [hr] at h
    simp only [List.mapM_cons,List.mapM_nil] at h
    cases h0 : DataW.trod enc P w 0 sp hd k et (List.take 1 (List.drop 0 [v0,v1])) with
    | none => rw [h0] at h; cases h
    | some x0 =>
     rw [h0] at h
     cases h1 : DataW.trod enc P w 0 sp hd k et (List.take 1 (List.drop 1 [v0,v1])) with
     | none => rw [h1] at h; cases h
     | some x1 =>
      rw [h1] at h
      have h' : (DataW.agg [x0.1,x1.1],x0.2 ++ (x1.2 ++ [])) = (DataW.agg [d0,d1],ps) := Option.some.inj h
      simp only [Prod.mk.injEq,DataW.agg.injEq,List.cons.injEq,and_true] at h'
      obtain ⟨⟨rfl,rfl⟩,_⟩ := h'
      exact ⟨v0,v1,k,x0.2,x1.2,rfl,h0,h1⟩
  ·cases h
theorem trod_pair {H : Type} {enc : TypeId × Value → H} {w : World} {sp : Nat → Bool} {hd : Bool} {fuel : Nat} {cs : List Value} {a b : Int} {ps : List MemPlace}
  (h : DataW.trod enc Tryd.prog w 0 sp hd fuel 179 cs = some (.agg [.lit (.int .i64 a),.lit (.int .i64 b)],ps)) : cs = [.int .i64 a,.int .i64 b] := by
 obtain ⟨xs,k,_,hx,hl,hxl,hf⟩ := DataW.trod_struct (t := 179) (fs := #[fld 179 0,fld 179 1]) (by kernel_rfl) h
 have hc : Tryd.prog.cellsOf 179 = 2 := by kernel_rfl
 rw [hc] at hl
 have c0 : Tryd.prog.cellsOf (fld 179 0).type = 1 := by kernel_rfl
 have c1 : Tryd.prog.cellsOf (fld 179 1).type = 1 := by kernel_rfl
 have o0 : (fld 179 0).offset = 0 := by kernel_rfl
 have o1 : (fld 179 1).offset = 1 := by kernel_rfl
 match xs,hxl,cs,hl with
 | [y0,y1],_,[v0,v1],_ =>
  have g0 := hf 0 (fld 179 0) rfl
  have g1 := hf 1 (fld 179 1) rfl
  simp [o0,o1,c0,c1] at g0 g1
  obtain ⟨n0,e0,e0',_⟩ := DataW.trod_int (k := .i64) (by kernel_rfl) g0
  obtain ⟨n1,e1,e1',_⟩ := DataW.trod_int (k := .i64) (by kernel_rfl) g1
  simp only [List.cons.injEq,and_true] at e0 e1
  simp only [List.map_cons,List.map_nil,Prod.mk.injEq,DataW.agg.injEq,List.cons.injEq,and_true] at hx
  obtain ⟨⟨q0,q1⟩,_⟩ := hx
  rw [e0'] at q0
  rw [e1'] at q1
  simp only [DataW.lit.injEq,Lit.int.injEq,true_and] at q0 q1
  subst q0 q1
  rw [e0,e1]
theorem trod_pairB {H : Type} {enc : TypeId × Value → H} {w : World} {sp : Nat → Bool} {hd : Bool} {fuel : Nat} {cs : List Value} {a b : Int} {ps : List MemPlace}
  (h : DataW.trod enc Tryd.prog w 0 sp hd fuel 108 cs = some (.agg [.lit (.int .i64 a),.lit (.int .i64 b)],ps)) : cs = [.int .i64 a,.int .i64 b] := by
 obtain ⟨xs,k,_,hx,hl,hxl,hf⟩ := DataW.trod_struct (t := 108) (fs := #[fld 108 0,fld 108 1]) (by kernel_rfl) h
 have hc : Tryd.prog.cellsOf 108 = 2 := by kernel_rfl
 rw [hc] at hl
 have c0 : Tryd.prog.cellsOf (fld 108 0).type = 1 := by kernel_rfl
 have c1 : Tryd.prog.cellsOf (fld 108 1).type = 1 := by kernel_rfl
 have o0 : (fld 108 0).offset = 0 := by kernel_rfl
 have o1 : (fld 108 1).offset = 1 := by kernel_rfl
 match xs,hxl,cs,hl with
 | [y0,y1],_,[v0,v1],_ =>
  have g0 := hf 0 (fld 108 0) rfl
  have g1 := hf 1 (fld 108 1) rfl
  simp [o0,o1,c0,c1] at g0 g1
  obtain ⟨n0,e0,e0',_⟩ := DataW.trod_int (k := .i64) (by kernel_rfl) g0
  obtain ⟨n1,e1,e1',_⟩ := DataW.trod_int (k := .i64) (by kernel_rfl) g1
  simp only [List.cons.injEq,and_true] at e0 e1
  simp only [List.map_cons,List.map_nil,Prod.mk.injEq,DataW.agg.injEq,List.cons.injEq,and_true] at hx
  obtain ⟨⟨q0,q1⟩,_⟩ := hx
  rw [e0'] at q0
  rw [e1'] at q1
  simp only [DataW.lit.injEq,Lit.int.injEq,true_and] at q0 q1
  subst q0 q1
  rw [e0,e1]
theorem laid_globF {W : World} (h : laidMetH Tryd.prog [("prow/chain.nowhere",YtfkmodcjddfeiaaDoor.Rows.laid_prow_chain_nowhere),("prow/forge.begin",YtfkmodcjddfeiaaDoor.Rows.laid_prow_forge_begin),("prow/forge.thicks",YtfkmodcjddfeiaaDoor.Rows.laid_prow_forge_thicks)] W) :
  ∀ g cs,globF g = some cs → Rel (Old W) W (.ref cs 0) (.pointer (some ⟨g,0,none⟩)) := by
 intro g cs hg
 match g,hg with
 | 1,hg =>
  cases hg
  obtain ⟨⟨ps,⟨g',t,vs,fuel,p,q,hg',ht,hv,hd,_,_⟩,_⟩,_⟩ := h
  obtain rfl := Option.some.inj (gNowhere.symm.trans hg')
  obtain rfl := Option.some.inj (tNowhere.symm.trans ht)
  have e := trod_pair hd
  refine ⟨1,0,rfl,fun j d hj => ?_⟩
  have hc := World.var?_cell hg' hv
  have hs : vs = #[.int .i64 (-1),.int .i64 (-1)] := by rw [← Array.toArray_toList (xs := vs),e]
  match j,hj with
  | 0,hj =>
   cases hj
   have h0 := hc 0
   rw [hs] at h0
   exact ⟨_,rfl,cell_old h0,h0⟩
  | 1,hj =>
   cases hj
   have h0 := hc 1
   rw [hs] at h0
   exact ⟨_,rfl,cell_old h0,h0⟩
 | 2,hg =>
  cases hg
  obtain ⟨⟨ps,⟨_,_,_,_,_,_,_,_,_,_,hrest,_⟩,_⟩,_⟩ := h
  obtain ⟨g',t,vs,fuel,p,q,hg',ht,hv,hd,_,_⟩ := hrest
  obtain rfl := Option.some.inj (gBegin.symm.trans hg')
  obtain rfl := Option.some.inj (tBegin.symm.trans ht)
  have e := trod_pairB hd
  refine ⟨2,0,rfl,fun j d hj => ?_⟩
  have hc := World.var?_cell hg' hv
  have hs : vs = #[.int .i64 (-1),.int .i64 0] := by rw [← Array.toArray_toList (xs := vs),e]
  match j,hj with
  | 0,hj =>
   cases hj
   have h0 := hc 0
   rw [hs] at h0
   exact ⟨_,rfl,cell_old h0,h0⟩
  | 1,hj =>
   cases hj
   have h0 := hc 1
   rw [hs] at h0
   exact ⟨_,rfl,cell_old h0,h0⟩
 | 3,hg =>
  cases hg
  obtain ⟨g',t,vs,fuel,p,hg',ht,hv,hd⟩ := h.funcs (n := "prow/forge.thicks") (List.mem_cons_of_mem _ (List.mem_cons_of_mem _ (List.mem_cons_self ..)))
  obtain rfl := Option.some.inj (gThicks.symm.trans hg')
  obtain rfl := Option.some.inj (tThicks.symm.trans ht)
  obtain ⟨v0,v1,k,q0,q1,e,h0,h1⟩ := trod_arr2 (t := 192) (et := 191) (by kernel_rfl) (by kernel_rfl) (by kernel_rfl) hd
  have hf : Tryd.prog.underlying 191 = some (.func #[151,3,3,3] #[3] false) := by kernel_rfl
  obtain rfl := func_of_trod (f0 := 226) hf (by kernel_rfl) h0
  obtain rfl := func_of_trod (f0 := 227) hf (by kernel_rfl) h1
  refine ⟨3,0,rfl,fun j d hj => ?_⟩
  have hc := World.var?_cell hg' hv
  have hs : vs = #[.func (.func 226) #[] #[],.func (.func 227) #[] #[]] := by rw [← Array.toArray_toList (xs := vs),e]
  match j,hj with
  | 0,hj =>
   cases hj
   have h0 := hc 0
   rw [hs] at h0
   exact ⟨_,⟨#[],#[],rfl,trivial,trivial⟩,cell_old h0,h0⟩
  | 1,hj =>
   cases hj
   have h0 := hc 1
   rw [hs] at h0
   exact ⟨_,⟨#[],#[],rfl,trivial,trivial⟩,cell_old h0,h0⟩

/-! ### A world for the witness -/
def lay1 : Obj → Obj
 | .cells _ t frozen => .cells #[.int .i64 (-1),.int .i64 (-1)] t frozen
 | o => o
def lay2 : Obj → Obj
 | .cells _ t frozen => .cells #[.int .i64 (-1),.int .i64 0] t frozen
 | o => o
def lay3 : Obj → Obj
 | .cells _ t frozen => .cells #[.func (.func 226) #[] #[],.func (.func 227) #[] #[]] t frozen
 | o => o
noncomputable def laidWorld (os : Os) : World :=
 { World.holding Tryd.prog os ⟨#[],#[],[]⟩ with heap := (((World.holding Tryd.prog os ⟨#[],#[],[]⟩).heap.modify 1 lay1).modify 2 lay2).modify 3 lay3 }
def noFBook : Value := .agg #[.slice none 0 0,.slice none 0 0,.slice none 0 0,.int .i64 0,.int .i64 0,.slice none 0 0,.int .i64 0,.slice none 0 0,.int .i64 0,.int .i64 0]
theorem laid_met (os : Os) (args : Array Value) : laidMetH Tryd.prog [("prow/chain.nowhere",Rows.laid_prow_chain_nowhere),("prow/forge.begin",Rows.laid_prow_forge_begin),("prow/forge.thicks",Rows.laid_prow_forge_thicks)] ((laidWorld os).forCall (fun _ _ => 0) ⟨#[],args,[]⟩).memory :=
 laidMetH_of_parts3 (fuel := 8) (laidMet_of_run' 8 (by kernel_rfl) (by kernel_rfl)) (by kernel_rfl) (by kernel_rfl)
theorem calls_lawF {f : FuncId} {W : World} {args : Array Value} {ds : List D} (hc : Contract Tryd.prog globF f ds (.bool true)) (hg : ∀ g cs,globF g = some cs → Rel (Old W) W (.ref cs 0) (.pointer (some ⟨g,0,none⟩))) (ha : All2 (Rel (Old W) W) ds args.toList) :
  Calls Tryd.prog f args W fun e W' => e = .returned (.bool true) ∧ Below W.heap.size W W' := by
 have := hc.calls W (Old W) args.toList (fun b o h => h) hg ha
 rw [Array.toArray_toList] at this
 exact this.mono fun e W' ⟨v,he,hb,R',_,_,hr⟩ => ⟨by rw [he,show v = .bool true from hr],hb⟩
theorem under4 : Tryd.prog.underlying 4 = some .bool := by kernel_rfl

/-! ### More kinds of arguments -/
section
variable {H : Type} {enc : TypeId × Value → H} {w : World} {sp : Nat → Bool} {hd : Bool}
theorem reads26 (fuel : Nat) (cs : List Value) (x : DataW H × List MemPlace) (h : DataW.trod enc Tryd.prog w 0 sp hd fuel 26 cs = some x) : ∃ b : Book,All2 (RelC (Old w) w) [.sl false .sec b.secs,.sl false .int b.turns,.sl false .sv b.svs,.int .i64 b.rule,.int .i64 b.days] cs ∧ b.secs.length ≤ maxLen ∧ b.turns.length ≤ maxLen ∧ b.svs.length ≤ maxLen := by
 have hu : Tryd.prog.underlying 26 = some (.struct #[fld 26 0,fld 26 1,fld 26 2,fld 26 3,fld 26 4]) := by kernel_rfl
 exact reads_book (t := 26) hu (by kernel_rfl) (by kernel_rfl) (by kernel_rfl) (by kernel_rfl) (by kernel_rfl) (by kernel_rfl) (by kernel_rfl) (by kernel_rfl) (by kernel_rfl) (by kernel_rfl) (by kernel_rfl) (e0 := 76) (e1 := 3) (e2 := 34) (by kernel_rfl) (by kernel_rfl) (by kernel_rfl) (by kernel_rfl) (by kernel_rfl) (by kernel_rfl) (by kernel_rfl) (by kernel_rfl) reads76 reads3 reads34 h
theorem six {α : Type} {l : List α} (h : l.length = 6) : ∃ a b c d e f,l = [a,b,c,d,e,f] := by
 match l,h with
 | [a,b,c,d,e,f],_ => exact ⟨a,b,c,d,e,f,rfl⟩
theorem five {α : Type} {l : List α} (h : l.length = 10) : ∃ a b c d e f g i j k,l = [a,b,c,d,e,f,g,i,j,k] := by
 match l,h with
 | [a,b,c,d,e,f,g,i,j,k],_ => exact ⟨a,b,c,d,e,f,g,i,j,k,rfl⟩
theorem arg84 {r : Reach} {b0 : Nat} {v : Value} {d : DataW H} {ps : List MemPlace} (hval : Value.okWide Tryd.prog w r b0 84 v) (h : DataW.Trod enc Tryd.prog w 0 sp hd 84 v d ps) : ∃ x : FBook,FSmall x ∧ Rel (Old w) w (fbookD x) v := by
 have hu : Tryd.prog.underlying 84 = some (.struct #[fld 84 0,fld 84 1,fld 84 2,fld 84 3,fld 84 4,fld 84 5]) := by kernel_rfl
 unfold Value.okWide at hval
 rw [hu] at hval
 obtain ⟨cs,rfl,_⟩ := hval
 obtain ⟨fuel,h⟩ := h
 obtain ⟨xs,k,_,_,hl,hx,hf⟩ := DataW.trod_struct hu h
 have hc : Tryd.prog.cellsOf 84 = 10 := by kernel_rfl
 rw [hc] at hl
 obtain ⟨u0,u1,u2,u3,u4,u5,u6,u7,u8,u9,hcs⟩ := five hl
 obtain ⟨y0,y1,y2,y3,y4,y5,hxs⟩ := six hx
 subst hxs
 have g0 := hf 0 (fld 84 0) rfl
 have g1 := hf 1 (fld 84 1) rfl
 have g2 := hf 2 (fld 84 2) rfl
 have g3 := hf 3 (fld 84 3) rfl
 have g4 := hf 4 (fld 84 4) rfl
 have g5 := hf 5 (fld 84 5) rfl
 have hfs : ∀ i,i < 6 → (fld 84 i).offset = [0,5,6,7,8,9].getD i 0 ∧ Tryd.prog.cellsOf (fld 84 i).type = [5,1,1,1,1,1].getD i 0 ∧ (fld 84 i).type = [26,23,3,23,3,3].getD i 0 := by
  intro i hi
  have h6 : i = 0 ∨ i = 1 ∨ i = 2 ∨ i = 3 ∨ i = 4 ∨ i = 5 := by omega
  rcases h6 with rfl | rfl | rfl | rfl | rfl | rfl <;> exact ⟨by kernel_rfl,by kernel_rfl,by kernel_rfl⟩
 obtain ⟨a0,b0,c0⟩ := hfs 0 (by decide)
 obtain ⟨a1,b1,c1⟩ := hfs 1 (by decide)
 obtain ⟨a2,b2,c2⟩ := hfs 2 (by decide)
 obtain ⟨a3,b3,c3⟩ := hfs 3 (by decide)
 obtain ⟨a4,b4,c4⟩ := hfs 4 (by decide)
 obtain ⟨a5,b5,c5⟩ := hfs 5 (by decide)
 rw [a0,b0,c0,hcs] at g0
 rw [a1,b1,c1,hcs] at g1
 rw [a2,b2,c2,hcs] at g2
 rw [a3,b3,c3,hcs] at g3
 rw [a4,b4,c4,hcs] at g4
 rw [a5,b5,c5,hcs] at g5
 simp at g0 g1 g2 g3 g4 g5
 obtain ⟨b,h1,h2,h3,h4⟩ := reads26 _ _ _ g0
 have t23 : Tryd.prog.underlying 23 = some (.slice 3) := by kernel_rfl
 have t3 : Tryd.prog.underlying 3 = some (.int .i64) := by kernel_rfl
 obtain ⟨w1,fe,e1,s1,l1⟩ := reads_slice (e := .int) t23 (by kernel_rfl) reads3 g1
 obtain ⟨nw,e2⟩ := reads_int t3 g2
 obtain ⟨w3,op,e3,s3,l3⟩ := reads_slice (e := .int) t23 (by kernel_rfl) reads3 g3
 obtain ⟨st,e4⟩ := reads_int t3 g4
 obtain ⟨mk,e5⟩ := reads_int t3 g5
 simp only [List.cons.injEq,and_true] at e1 e2 e3 e4 e5
 have hm : maxLen ≤ 9223372036854775807 := by decide
 refine ⟨⟨b,fe,nw,op,st,mk⟩,⟨⟨Nat.le_trans h2 hm,Nat.le_trans h3 hm,Nat.le_trans h4 hm⟩,Nat.le_trans l1 hm,Nat.le_trans l3 hm⟩,cs,rfl,?_⟩
 have hcs' : cs.toList = [u0,u1,u2,u3,u4,u5,u6,u7,u8,u9] := hcs
 rw [hcs']
 obtain ⟨p0,p1,p2,p3,p4,_⟩ := h1
 rw [e1,e2,e3,e4,e5]
 exact ⟨p0,p1,p2,p3,p4,s1,rfl,s3,rfl,rfl,trivial⟩
theorem int_of_ok {t : TypeId} {r : Reach} {b0 : Nat} {v : Value} (hu : Tryd.prog.underlying t = some (.int .i64)) (h : Value.okWide Tryd.prog w r b0 t v) : ∃ n,v = .int .i64 n := by
 unfold Value.okWide at h
 rw [hu] at h
 simp only at h
 unfold Cell.okWide at h
 rw [hu] at h
 unfold Cell.ok at h
 rw [hu] at h
 cases v <;> simp only at h <;> first | exact h.elim | (obtain ⟨rfl,_⟩ := h; exact ⟨_,rfl⟩)
theorem arg3 {r : Reach} {b0 : Nat} {v : Value} {d : DataW H} {ps : List MemPlace} (hval : Value.okWide Tryd.prog w r b0 3 v) (h : DataW.Trod enc Tryd.prog w 0 sp hd 3 v d ps) : ∃ n : Int,Rel (Old w) w (.int .i64 n) v := by
 obtain ⟨n,rfl⟩ := int_of_ok (by kernel_rfl) hval
 exact ⟨n,rfl⟩
end
end Go.Di

namespace Go.Di
open Proofs
end Go.Di

namespace Go.Di
open Proofs

/-! ### works: the days on which a plan changes a section -/
/-! ### The last day on which a section was changed -/
end Go.Di

namespace Go.Di
open Proofs
end Go.Di

namespace Go.Di
open Proofs

/-! ### The stock,work by work -/
/-- What a work asks of the stock. -/
def termF (x : FBook) (plan : List Work) (k : Nat) : Int := feetF x (plan.take (k + 1)) - x.make * (plan.getD k work0).d
theorem mx_lei {a b c : Int} : mx a b ≤ c ↔ a ≤ c ∧ b ≤ c := by unfold mx; split <;> omega
theorem needs_le (x : FBook) (plan : List Work) (c : Int) : ∀ k,needsTo x plan k ≤ c ↔ 0 ≤ c ∧ ∀ j,j < k → termF x plan j ≤ c
 | 0 => ⟨fun h => ⟨h,fun j hj => by omega⟩,fun h => h.1⟩
 | k + 1 => by
  rw [show needsTo x plan (k + 1) = mx (needsTo x plan k) (termF x plan k) from rfl,mx_lei,needs_le x plan c k]
  constructor
  ·rintro ⟨⟨h1,h2⟩,h3⟩
   refine ⟨h1,fun j hj => ?_⟩
   by_cases h : j = k
   ·subst h; exact h3
   ·exact h2 j (by omega)
  ·rintro ⟨h1,h2⟩
   exact ⟨⟨h1,fun j hj => h2 j (by omega)⟩,h2 k (by omega)⟩
end Go.Di

namespace Go.Di
open Proofs

/-! ### What a section's least depends on -/
theorem last_char {plan : List Work} (hp : plan.Pairwise wlt) (s d : Int) : ((lastF plan s d).1 = 1 ∧ (∃ w ∈ plan,w.s = s ∧ w.d ≤ d ∧ w.d = (lastF plan s d).2) ∧ ∀ v ∈ plan,v.s = s → v.d ≤ d → v.d ≤ (lastF plan s d).2) ∨ (lastF plan s d = (0,0) ∧ ∀ w ∈ plan,¬ (w.s = s ∧ w.d ≤ d)) := by
 have key : ∀ (l : List Work) (pre : List Work) (p : Int × Int),(pre ++ l).Pairwise wlt → ((p.1 = 1 ∧ (∃ w ∈ pre,w.s = s ∧ w.d ≤ d ∧ w.d = p.2) ∧ ∀ v ∈ pre,v.s = s → v.d ≤ d → v.d ≤ p.2) ∨ (p = (0,0) ∧ ∀ w ∈ pre,¬ (w.s = s ∧ w.d ≤ d))) →
   (((l.foldl (lastStep s d) p).1 = 1 ∧ (∃ w ∈ pre ++ l,w.s = s ∧ w.d ≤ d ∧ w.d = (l.foldl (lastStep s d) p).2) ∧ ∀ v ∈ pre ++ l,v.s = s → v.d ≤ d → v.d ≤ (l.foldl (lastStep s d) p).2) ∨ (l.foldl (lastStep s d) p = (0,0) ∧ ∀ w ∈ pre ++ l,¬ (w.s = s ∧ w.d ≤ d))) := by
  intro l
  induction l with
  | nil => intro pre p _ h; simpa using h
  | cons w l ih =>
   intro pre p hpw h
   have hpw' : ((pre ++ [w]) ++ l).Pairwise wlt := by simpa using hpw
   have := ih (pre ++ [w]) (lastStep s d p w) hpw' ?_
   ·simpa using this
   ·have hlt : ∀ v ∈ pre,wlt v w := fun v hv => (List.pairwise_append.1 hpw).2.2 v hv w (by simp)
    unfold lastStep
    by_cases hc : w.s = s ∧ w.d ≤ d
    ·rw [if_pos hc]
     refine .inl ⟨rfl,⟨w,by simp,hc.1,hc.2,rfl⟩,fun v hv hvs hvd => ?_⟩
     rcases List.mem_append.1 hv with hv | hv
     ·have := hlt v hv; unfold wlt at this; show v.d ≤ w.d; omega
     ·rw [List.mem_singleton] at hv; subst hv; exact Int.le_refl _
    ·rw [if_neg hc]
     rcases h with ⟨h1,⟨u,hu,h2⟩,h3⟩ | ⟨h1,h2⟩
     ·refine .inl ⟨h1,⟨u,by simp [hu],h2⟩,fun v hv hvs hvd => ?_⟩
      rcases List.mem_append.1 hv with hv | hv
      ·exact h3 v hv hvs hvd
      ·rw [List.mem_singleton] at hv; subst hv; exact absurd ⟨hvs,hvd⟩ hc
     ·refine .inr ⟨h1,fun v hv => ?_⟩
      rcases List.mem_append.1 hv with hv | hv
      ·exact h2 v hv
      ·rw [List.mem_singleton] at hv; subst hv; exact hc
 have := key plan [] (0,0) (by simpa using hp) (.inr ⟨rfl,fun w hw => by cases hw⟩)
 simpa [lastF] using this
theorem last_congr {p q : List Work} (hp : p.Pairwise wlt) (hq : q.Pairwise wlt) {s : Int} (h : ∀ w : Work,w.s = s → (w ∈ p ↔ w ∈ q)) (d : Int) : lastF p s d = lastF q s d := by
 rcases last_char hp s d with ⟨h1,⟨w,h2,h3,h4,h5⟩,h6⟩ | ⟨h1,h2⟩
 ·rcases last_char hq s d with ⟨g1,⟨v,g2,g3,g4,g5⟩,g6⟩ | ⟨g1,g2⟩
  ·have a1 := g6 w ((h w h3).1 h2) h3 h4
   have a2 := h6 v ((h v g3).2 g2) g3 g4
   exact Prod.ext (h1.trans g1.symm) (by omega)
  ·exact absurd ⟨h3,h4⟩ (g2 w ((h w h3).1 h2))
 ·rcases last_char hq s d with ⟨g1,⟨v,g2,g3,g4,g5⟩,g6⟩ | ⟨g1,g2⟩
  ·exact absurd ⟨g3,g4⟩ (h2 v ((h v g3).2 g2))
  ·rw [h1,g1]
theorem fleast_congr (x : FBook) (th : List (List Int)) (wr : List Int) {p q : List Work} (hp : p.Pairwise wlt) (hq : q.Pairwise wlt) {s : Int} (h : ∀ w : Work,w.s = s → (w ∈ p ↔ w ∈ q)) (d : Int) : fleastF x th wr p s d = fleastF x th wr q s d := by
 unfold fleastF
 rw [last_congr hp hq h d]

/-! ### Plans by sets are grids -/
theorem planned_grd (x : FBook) (on : W4) : plannedF x on = grdF x fun k s => bitF (on.get s) k := by
 have h1 : ∀ (k : Nat) (l : List Work) (s : Nat),plannedDay x on k l s = grdDay x (fun k s => bitF (on.get s) k) k l s := by
  intro k l s
  induction s with
  | zero => rfl
  | succ s ih => simp only [plannedDay,grdDay,ih]
 have h2 : ∀ k,plannedTo x on k = grdTo x (fun k s => bitF (on.get s) k) k := by
  intro k
  induction k with
  | zero => rfl
  | succ k ih => simp only [plannedTo,grdTo,ih,h1]
 exact h2 _
theorem grd_sub {x : FBook} {f g : Nat → Nat → Bool} (h : ∀ k s,k < x.opn.length → s < x.feet.length → f k s = true → g k s = true) : (grdF x f).Sublist (grdF x g) := by
 have h1 : ∀ (k : Nat) (l l' : List Work),k < x.opn.length → l.Sublist l' → ∀ s,s ≤ x.feet.length → (grdDay x f k l s).Sublist (grdDay x g k l' s) := by
  intro k l l' hk hl s
  induction s with
  | zero => exact fun _ => hl
  | succ s ih =>
   intro hs
   have ih := ih (by omega)
   simp only [grdDay]
   cases hf : f k s with
   | true => rw [h k s hk (by omega) hf]; exact ih.append (List.Sublist.refl _)
   | false =>
    rw [if_neg (by decide)]
    cases hg : g k s with
    | true => rw [if_pos rfl]; exact ih.trans (List.sublist_append_left _ _)
    | false => rw [if_neg (by decide)]; exact ih
 have h2 : ∀ k,k ≤ x.opn.length → (grdTo x f k).Sublist (grdTo x g k) := by
  intro k
  induction k with
  | zero => exact fun _ => List.Sublist.refl _
  | succ k ih => intro hk; simp only [grdTo]; exact h1 k _ _ (by omega) (ih (by omega)) _ (Nat.le_refl _)
 exact h2 _ (Nat.le_refl _)

/-! ### Feet and stock of a part -/
theorem feet_cons (x : FBook) (w : Work) (l : List Work) : feetF x (w :: l) = x.feet.getD w.s.toNat 0 + feetF x l := by
 have key : ∀ (l : List Int) (a b : Int),l.foldl (· + ·) (a + b) = a + l.foldl (· + ·) b := by
  intro l
  induction l with
  | nil => exact fun _ _ => rfl
  | cons c l ih => intro a b; rw [List.foldl_cons,List.foldl_cons,Int.add_assoc,ih]
 unfold feetF feetLF sumF
 rw [List.map_cons,List.foldl_cons,Int.add_comm 0,key]
theorem feet_pos {x : FBook} (hx : FIn x) {w : Work} (h : 0 ≤ w.s ∧ w.s < x.feet.length) : 1 ≤ x.feet.getD w.s.toNat 0 := (hx.feet _ (mem_getD 0 (by omega))).1
theorem feet_sub {x : FBook} (hx : FIn x) {p q : List Work} (h : p.Sublist q) (hq : ∀ w ∈ q,0 ≤ w.s ∧ w.s < x.feet.length) : feetF x p < feetF x q ∨ p = q := by
 induction h with
 | slnil => exact .inr rfl
 | cons w h ih =>
  have := feet_pos hx (hq w (by simp))
  rw [feet_cons]
  rcases ih (fun v hv => hq v (by simp [hv])) with h1 | h1
  ·exact .inl (by omega)
  ·subst h1; exact .inl (by omega)
 | cons_cons w h ih =>
  rw [feet_cons,feet_cons]
  rcases ih (fun v hv => hq v (by simp [hv])) with h1 | h1
  ·exact .inl (by omega)
  ·subst h1; exact .inr rfl
/-- Is a stock enough,from so many feet on? -/
def fitsF (x : FBook) (c : Int) : Int → List Work → Prop
 | _,[] => True
 | a,w :: l => a + x.feet.getD w.s.toNat 0 - x.make * w.d ≤ c ∧ fitsF x c (a + x.feet.getD w.s.toNat 0) l
theorem fits_mono {x : FBook} {c : Int} : ∀ {l : List Work} {a a' : Int},a ≤ a' → fitsF x c a' l → fitsF x c a l
 | [],_,_,_,_ => trivial
 | w :: l,a,a',h,⟨h1,h2⟩ => ⟨by omega,fits_mono (by omega) h2⟩
theorem fits_sub {x : FBook} (hx : FIn x) {c : Int} {p q : List Work} (h : p.Sublist q) (hq : ∀ w ∈ q,0 ≤ w.s ∧ w.s < x.feet.length) : ∀ {a},fitsF x c a q → fitsF x c a p := by
 induction h with
 | slnil => exact fun h => h
 | cons w h ih =>
  intro a hf
  have := feet_pos hx (hq w (by simp))
  exact fits_mono (by omega) (ih (fun v hv => hq v (by simp [hv])) hf.2)
 | cons_cons w h ih => intro a hf; exact ⟨hf.1,ih (fun v hv => hq v (by simp [hv])) hf.2⟩
theorem fits_iff {x : FBook} {c : Int} : ∀ {l : List Work} {a : Int},fitsF x c a l ↔ ∀ j,j < l.length → a + feetF x (l.take (j + 1)) - x.make * (l.getD j work0).d ≤ c
 | [],a => ⟨fun _ j hj => by simp at hj,fun _ => trivial⟩
 | w :: l,a => by
  have ih := fits_iff (x := x) (c := c) (l := l) (a := a + x.feet.getD w.s.toNat 0)
  unfold fitsF
  rw [ih]
  constructor
  ·rintro ⟨h1,h2⟩ j hj
   cases j with
   | zero =>
    have : feetF x ((w :: l).take 1) = x.feet.getD w.s.toNat 0 := by rw [List.take_succ_cons,List.take_zero,feet_cons]; simp [feetF,feetLF,sumF]
    rw [this]
    exact h1
   | succ j =>
    rw [List.take_succ_cons,feet_cons,List.getD_cons_succ]
    have := h2 j (by simpa using hj)
    omega
  ·intro h
   refine ⟨?_,fun j hj => ?_⟩
   ·have h0 := h 0 (by simp)
    have : feetF x ((w :: l).take 1) = x.feet.getD w.s.toNat 0 := by rw [List.take_succ_cons,List.take_zero,feet_cons]; simp [feetF,feetLF,sumF]
    rw [this] at h0
    exact h0
   ·have := h (j + 1) (by simpa using hj)
    rw [List.take_succ_cons,feet_cons,List.getD_cons_succ] at this
    omega
theorem needs_fits {x : FBook} {plan : List Work} {c : Int} : needsF x plan ≤ c ↔ 0 ≤ c ∧ fitsF x c 0 plan := by
 unfold needsF
 rw [needs_le,fits_iff]
 unfold termF
 simp
theorem needs_sub {x : FBook} (hx : FIn x) {p q : List Work} (h : p.Sublist q) (hq : ∀ w ∈ q,0 ≤ w.s ∧ w.s < x.feet.length) : needsF x p ≤ needsF x q := by
 obtain ⟨h1,h2⟩ := needs_fits.1 (Int.le_refl (needsF x q))
 exact needs_fits.2 ⟨h1,fits_sub hx h hq h2⟩

/-! ### The order of plans -/
theorem cmp_neg {a b : Work} : compareF a b < 0 ↔ wlt a b := by
 rw [← compare_wlt]; omega
theorem cmp_zero {a b : Work} : compareF a b = 0 ↔ a = b := by
 obtain ⟨a1,a2⟩ := a
 obtain ⟨b1,b2⟩ := b
 unfold compareF
 constructor
 ·intro h
  split at h
  ·rename_i h1; rw [Work.mk.injEq]; exact ⟨h1,by show a2 = b2; have h' : a2 - b2 = 0 := h; omega⟩
  ·rename_i h1; have h' : a1 - b1 = 0 := h; exact absurd (show a1 = b1 by omega) h1
 ·intro h
  cases h
  simp
theorem cmpPlans_trans : ∀ {p q r : List Work},cmpPlans p q < 0 → cmpPlans q r < 0 → cmpPlans p r < 0
 | [],[],_,h,_ => by simp [cmpPlans] at h
 | [],_ :: _,[],_,h => by simp [cmpPlans] at h
 | [],_ :: _,_ :: _,_,_ => by simp [cmpPlans]
 | _ :: _,[],_,h,_ => by simp [cmpPlans] at h
 | _ :: _,_ :: _,[],_,h => by simp [cmpPlans] at h
 | a :: p,b :: q,c :: r,h1,h2 => by
  simp only [cmpPlans] at h1 h2 ⊢
  by_cases hab : compareF a b = 0
  ·rw [if_neg (by simp [hab])] at h1
   obtain rfl := cmp_zero.1 hab
   by_cases hac : compareF a c = 0
   ·rw [if_neg (by simp [hac])] at h2 ⊢
    exact cmpPlans_trans h1 h2
   ·rw [if_pos hac] at h2 ⊢
    exact h2
  ·rw [if_pos hab] at h1
   by_cases hbc : compareF b c = 0
   ·obtain rfl := cmp_zero.1 hbc
    rw [if_pos hab]
    exact h1
   ·rw [if_pos hbc] at h2
    have h3 := wlt_trans (cmp_neg.1 h1) (cmp_neg.1 h2)
    have h4 := cmp_neg.2 h3
    rw [if_pos (by omega)]
    exact h4
theorem better_iff {x : FBook} {p q : List Work} : betterWF x p q = true ↔ feetF x p < feetF x q ∨ feetF x p = feetF x q ∧ cmpPlans p q < 0 := by
 unfold betterWF
 simp
theorem better_trans {x : FBook} {p q r : List Work} (h1 : betterWF x p q = true) (h2 : betterWF x q r = true) : betterWF x p r = true := by
 rw [better_iff] at *
 rcases h1 with h1 | ⟨h1,h1'⟩ <;> rcases h2 with h2 | ⟨h2,h2'⟩
 ·exact .inl (by omega)
 ·exact .inl (by omega)
 ·exact .inl (by omega)
 ·exact .inr ⟨by omega,cmpPlans_trans h1' h2'⟩
theorem bestOf_spec (x : FBook) (l : List (List Work)) : ((bestOf x l).2 = true ∧ (bestOf x l).1 ∈ l ∧ fgoodF x (bestOf x l).1 = true ∧ ∀ p ∈ l,fgoodF x p = true → betterWF x p (bestOf x l).1 = false) ∨ ((bestOf x l).2 = false ∧ ∀ p ∈ l,fgoodF x p = false) := by
 have key : ∀ (l pre : List (List Work)) (o : List Work × Bool),((o.2 = true ∧ o.1 ∈ pre ∧ fgoodF x o.1 = true ∧ ∀ p ∈ pre,fgoodF x p = true → betterWF x p o.1 = false) ∨ (o.2 = false ∧ ∀ p ∈ pre,fgoodF x p = false)) →
   (((l.foldl (bestStep x) o).2 = true ∧ (l.foldl (bestStep x) o).1 ∈ pre ++ l ∧ fgoodF x (l.foldl (bestStep x) o).1 = true ∧ ∀ p ∈ pre ++ l,fgoodF x p = true → betterWF x p (l.foldl (bestStep x) o).1 = false) ∨ ((l.foldl (bestStep x) o).2 = false ∧ ∀ p ∈ pre ++ l,fgoodF x p = false)) := by
  intro l
  induction l with
  | nil => intro pre o h; simpa using h
  | cons q l ih =>
   intro pre o h
   have := ih (pre ++ [q]) (bestStep x o q) ?_
   ·simpa using this
   ·have hself : ∀ p,betterWF x p p = false := by
     intro p
     have hc : ∀ p : List Work,cmpPlans p p = 0 := by
      intro p
      induction p with
      | nil => rfl
      | cons w p ih2 => simp only [cmpPlans]; rw [if_neg (by simp [cmp_zero.2 rfl])]; exact ih2
     cases hb : betterWF x p p with
     | false => rfl
     | true =>
      rw [better_iff] at hb
      rcases hb with hb | ⟨_,hb⟩
      ·omega
      ·rw [hc] at hb; omega
    unfold bestStep
    cases hg : fgoodF x q with
    | false =>
     rw [Bool.false_and,if_neg (by decide)]
     rcases h with ⟨h1,h2,h3,h4⟩ | ⟨h1,h2⟩
     ·refine .inl ⟨h1,by simp [h2],h3,fun p hp hgp => ?_⟩
      rcases List.mem_append.1 hp with hp | hp
      ·exact h4 p hp hgp
      ·rw [List.mem_singleton] at hp; subst hp; rw [hg] at hgp; cases hgp
     ·refine .inr ⟨h1,fun p hp => ?_⟩
      rcases List.mem_append.1 hp with hp | hp
      ·exact h2 p hp
      ·rw [List.mem_singleton] at hp; subst hp; exact hg
    | true =>
     rw [Bool.true_and]
     rcases h with ⟨h1,h2,h3,h4⟩ | ⟨h1,h2⟩
     ·rw [h1,Bool.not_true,Bool.false_or]
      cases hb : betterWF x q o.1 with
      | true =>
       rw [if_pos rfl]
       refine .inl ⟨rfl,by simp,hg,fun p hp hgp => ?_⟩
       rcases List.mem_append.1 hp with hp | hp
       ·cases hpq : betterWF x p q with
        | false => rfl
        | true => have := better_trans hpq hb; rw [h4 p hp hgp] at this; cases this
       ·rw [List.mem_singleton] at hp; subst hp; exact hself _
      | false =>
       rw [if_neg (by decide)]
       refine .inl ⟨h1,by simp [h2],h3,fun p hp hgp => ?_⟩
       rcases List.mem_append.1 hp with hp | hp
       ·exact h4 p hp hgp
       ·rw [List.mem_singleton] at hp; subst hp; exact hb
     ·rw [h1,Bool.not_false,Bool.true_or,if_pos rfl]
      refine .inl ⟨rfl,by simp,hg,fun p hp hgp => ?_⟩
      rcases List.mem_append.1 hp with hp | hp
      ·rw [h2 p hp] at hgp; cases hgp
      ·rw [List.mem_singleton] at hp; subst hp; exact hself _
 have := key l [] ([],false) (.inr ⟨rfl,fun p hp => by cases hp⟩)
 simpa [bestOf] using this
end Go.Di

namespace Go.Di
open Proofs

/-! ### Sets of days as numbers -/
def b2i (b : Bool) : Int := if b then 1 else 0
def maskB (b : Nat → Bool) : Int := b2i (b 0) + 2 * b2i (b 1) + 4 * b2i (b 2) + 8 * b2i (b 3) + 16 * b2i (b 4)
theorem mask_bits : ∀ a b c d e : Bool,(bitF (b2i a + 2 * b2i b + 4 * b2i c + 8 * b2i d + 16 * b2i e) 0 == a && bitF (b2i a + 2 * b2i b + 4 * b2i c + 8 * b2i d + 16 * b2i e) 1 == b && bitF (b2i a + 2 * b2i b + 4 * b2i c + 8 * b2i d + 16 * b2i e) 2 == c && bitF (b2i a + 2 * b2i b + 4 * b2i c + 8 * b2i d + 16 * b2i e) 3 == d && bitF (b2i a + 2 * b2i b + 4 * b2i c + 8 * b2i d + 16 * b2i e) 4 == e) = true := by
 intro a b c d e
 cases a <;> cases b <;> cases c <;> cases d <;> cases e <;> kernel_rfl
theorem mask_bit (b : Nat → Bool) {k : Nat} (hk : k < 5) : bitF (maskB b) k = b k := by
 have h := mask_bits (b 0) (b 1) (b 2) (b 3) (b 4)
 simp only [Bool.and_eq_true,beq_iff_eq] at h
 obtain ⟨⟨⟨⟨h0,h1⟩,h2⟩,h3⟩,h4⟩ := h
 have h5 : k = 0 ∨ k = 1 ∨ k = 2 ∨ k = 3 ∨ k = 4 := by omega
 rcases h5 with rfl | rfl | rfl | rfl | rfl
 ·exact h0
 ·exact h1
 ·exact h2
 ·exact h3
 ·exact h4
theorem b2i_in (b : Bool) : 0 ≤ b2i b ∧ b2i b ≤ 1 := by cases b <;> decide
theorem mask_lt (b : Nat → Bool) {n : Nat} (hn : n ≤ 5) (hb : ∀ k,n ≤ k → b k = false) : 0 ≤ maskB b ∧ maskB b < ((2 ^ n : Nat) : Int) := by
 have h0 := b2i_in (b 0); have h1 := b2i_in (b 1); have h2 := b2i_in (b 2); have h3 := b2i_in (b 3); have h4 := b2i_in (b 4)
 have hz : ∀ k,n ≤ k → b2i (b k) = 0 := fun k hk => by rw [hb k hk]; rfl
 unfold maskB
 have h6 : n = 0 ∨ n = 1 ∨ n = 2 ∨ n = 3 ∨ n = 4 ∨ n = 5 := by omega
 rcases h6 with rfl | rfl | rfl | rfl | rfl | rfl
 ·rw [hz 0 (by omega),hz 1 (by omega),hz 2 (by omega),hz 3 (by omega),hz 4 (by omega)]; decide
 ·rw [hz 1 (by omega),hz 2 (by omega),hz 3 (by omega),hz 4 (by omega),show ((2 ^ 1 : Nat) : Int) = 2 from rfl]; omega
 ·rw [hz 2 (by omega),hz 3 (by omega),hz 4 (by omega),show ((2 ^ 2 : Nat) : Int) = 4 from rfl]; omega
 ·rw [hz 3 (by omega),hz 4 (by omega),show ((2 ^ 3 : Nat) : Int) = 8 from rfl]; omega
 ·rw [hz 4 (by omega),show ((2 ^ 4 : Nat) : Int) = 16 from rfl]; omega
 ·rw [show ((2 ^ 5 : Nat) : Int) = 32 from rfl]; omega
theorem subset_tab : ((List.range 32).all fun k => (List.range 32).all fun l => (andF (k : Int) (l : Int) == (l : Int)) == ((List.range 5).all fun j => !bitF (l : Int) j || bitF (k : Int) j)) = true := by kernel_rfl
theorem subset_iff {k l : Nat} (hk : k < 32) (hl : l < 32) : andF (k : Int) (l : Int) = (l : Int) ↔ ∀ j,j < 5 → bitF (l : Int) j = true → bitF (k : Int) j = true := by
 have h := List.all_eq_true.1 (List.all_eq_true.1 subset_tab k (List.mem_range.2 hk)) l (List.mem_range.2 hl)
 rw [beq_iff_eq] at h
 rw [← beq_iff_eq,h,List.all_eq_true]
 constructor
 ·intro hh j hj hb
  have := hh j (List.mem_range.2 hj)
  rw [hb] at this
  simpa using this
 ·intro hh j hj
  cases hb : bitF (l : Int) j with
  | false => simp
  | true => rw [hh j (List.mem_range.1 hj) hb]; rfl

/-! ### The least sets on which a section is to be changed -/
section
variable {x : FBook} {th : List (List Int)} {wr : List Int} {s : Nat}
theorem changes_keep : ∀ {K : Nat} {l : Int},l ∈ changesTo x th wr s K → ∃ k : Nat,k < K ∧ l = (k : Int) ∧ keepsF x th wr s k = true
 | 0,l,h => by cases h
 | K + 1,l,h => by
  simp only [changesTo] at h
  split at h
  ·obtain ⟨k,h1,h2⟩ := changes_keep h
   exact ⟨k,by omega,h2⟩
  ·split at h
   ·rename_i _ hk
    rcases List.mem_append.1 h with h | h
    ·obtain ⟨k,h1,h2⟩ := changes_keep h
     exact ⟨k,by omega,h2⟩
    ·rw [List.mem_singleton] at h
     exact ⟨K,by omega,h,hk⟩
   ·obtain ⟨k,h1,h2⟩ := changes_keep h
    exact ⟨k,by omega,h2⟩
theorem changes_least : ∀ {K k : Nat},k < K → K ≤ 32 → keepsF x th wr s k = true → ∃ l : Nat,(l : Int) ∈ changesTo x th wr s K ∧ l < 32 ∧ andF (k : Int) (l : Int) = (l : Int)
 | 0,k,h,_,_ => by omega
 | K + 1,k,h,hK,hk => by
  have hsub : ∀ z,z ∈ changesTo x th wr s K → z ∈ changesTo x th wr s (K + 1) := by
   intro z hz
   simp only [changesTo]
   split
   ·exact hz
   ·split
    ·exact List.mem_append.2 (.inl hz)
    ·exact hz
  by_cases hkK : k = K
  ·subst hkK
   by_cases ha : ((changesTo x th wr s k).any fun l => andF k l == l) = true
   ·obtain ⟨l,h1,h2⟩ := List.any_eq_true.1 ha
    obtain ⟨j,h3,rfl,_⟩ := changes_keep h1
    exact ⟨j,hsub _ h1,by omega,by simpa using h2⟩
   ·refine ⟨k,?_,by omega,(subset_iff (by omega) (by omega)).2 fun j _ h => h⟩
    simp only [changesTo]
    rw [if_neg ha,if_pos hk]
    exact List.mem_append.2 (.inr (by simp))
  ·obtain ⟨l,h1,h2⟩ := changes_least (K := K) (k := k) (by omega) (by omega) hk
   exact ⟨l,hsub _ h1,h2⟩
end

/-! ### All plans that are looked at -/
def setAll (c : Nat → Int) : Nat → Nat → W4 → W4
 | 0,_,on => on
 | f + 1,s,on => setAll c f (s + 1) (on.set s (c s))
theorem plansGo_has {x : FBook} {al : List (List Int)} {c : Nat → Int} : ∀ (f s : Nat) (on : W4),(∀ j,s ≤ j → j < s + f → c j ∈ al.getD j []) → plannedF x (setAll c f s on) ∈ plansGo x al f s on
 | 0,s,on,_ => by simp [plansGo,setAll]
 | f + 1,s,on,h => by
  simp only [plansGo,setAll,List.mem_flatMap]
  exact ⟨c s,h s (Nat.le_refl _) (by omega),plansGo_has f (s + 1) _ fun j h1 h2 => h j (by omega) (by omega)⟩
theorem plansGo_of {x : FBook} {al : List (List Int)} : ∀ (f s : Nat) (on : W4) (p : List Work),p ∈ plansGo x al f s on → ∃ c : Nat → Int,p = plannedF x (setAll c f s on) ∧ ∀ j,s ≤ j → j < s + f → c j ∈ al.getD j []
 | 0,s,on,p,h => ⟨fun _ => 0,by simpa [plansGo,setAll] using h,fun j h1 h2 => by omega⟩
 | f + 1,s,on,p,h => by
  simp only [plansGo,List.mem_flatMap] at h
  obtain ⟨z,hz,h⟩ := h
  obtain ⟨c,h1,h2⟩ := plansGo_of f (s + 1) _ p h
  have hcong : ∀ (f s' : Nat) (on : W4),s < s' → setAll c f s' on = setAll (fun j => if j = s then z else c j) f s' on := by
   intro f
   induction f with
   | zero => exact fun _ _ _ => rfl
   | succ f ih =>
    intro s' on hs'
    simp only [setAll]
    rw [if_neg (by omega)]
    exact ih (s' + 1) _ (by omega)
  refine ⟨fun j => if j = s then z else c j,?_,fun j h3 h4 => ?_⟩
  ·rw [h1]
   simp only [setAll,if_true]
   rw [hcong f (s + 1) _ (by omega)]
  ·dsimp only
   by_cases hj : j = s
   ·rw [if_pos hj,hj]; exact hz
   ·rw [if_neg hj]; exact h2 j (by omega) (by omega)
theorem get_set {on : W4} {s j : Nat} (hs : s < 4) (hj : j < 4) (z : Int) : (on.set s z).get j = if j = s then z else on.get j := by
 have h1 : s = 0 ∨ s = 1 ∨ s = 2 ∨ s = 3 := by omega
 have h2 : j = 0 ∨ j = 1 ∨ j = 2 ∨ j = 3 := by omega
 rcases h1 with rfl | rfl | rfl | rfl <;> rcases h2 with rfl | rfl | rfl | rfl <;> rfl
theorem setAll_get (c : Nat → Int) : ∀ (f s : Nat) (on : W4) (j : Nat),s + f ≤ 4 → j < 4 → (setAll c f s on).get j = if s ≤ j ∧ j < s + f then c j else on.get j
 | 0,s,on,j,_,_ => by rw [if_neg (by omega)]; rfl
 | f + 1,s,on,j,h,hj => by
  simp only [setAll]
  rw [setAll_get c f (s + 1) _ j (by omega) hj,get_set (by omega) hj]
  by_cases h1 : j = s
  ·subst h1
   rw [if_neg (by omega),if_pos rfl,if_pos (by omega)]
  ·rw [if_neg h1]
   by_cases h2 : s + 1 ≤ j ∧ j < s + 1 + f
   ·rw [if_pos h2,if_pos (by omega)]
   ·rw [if_neg h2,if_neg (by omega)]
theorem allF_get {x : FBook} {th : List (List Int)} {wr : List Int} {s : Nat} (hs : s < x.feet.length) : (allF x th wr).getD s [] = changesF x th wr s := by
 simp [allF,List.getD_eq_getElem?_getD,hs]

/-! ### Is it safe? -/
/-- No section ever is too thin at least,by a plan. -/
def SafeP (x : FBook) (th : List (List Int)) (wr : List Int) (plan : List Work) : Prop := ∀ s d : Int,0 ≤ s ∧ s < x.feet.length → 0 ≤ d ∧ d ≤ x.chain.days → x.chain.rule ≤ fleastF x th wr plan s d
section
variable {x : FBook} (hx : FIn x) (ho : x.opn.Pairwise (· < ·)) (th : List (List Int)) (wr : List Int)
include hx ho
theorem keeps_iff {s : Nat} (hs : s < x.feet.length) {f : Nat → Nat → Bool} {z : Int} (hz : ∀ k,k < x.opn.length → bitF z k = f k s) : keepsF x th wr s z = true ↔ ∀ d : Int,0 ≤ d ∧ d ≤ x.chain.days → x.chain.rule ≤ fleastF x th wr (grdF x f) s d := by
 have hn := hx.n
 have hday := hx.days
 have hsame : ∀ d : Int,fleastF x th wr (plannedF x (zeroW.set s z)) s d = fleastF x th wr (grdF x f) s d := by
  intro d
  rw [planned_grd]
  refine fleast_congr x th wr (grdTo_pair ho _ _ (Nat.le_refl _)) (grdTo_pair ho _ _ (Nat.le_refl _)) (fun w hw => ?_) d
  show w ∈ grdF x _ ↔ w ∈ grdF x f
  rw [grd_mem,grd_mem]
  constructor
  ·rintro ⟨k,j,h1,h2,h3,rfl⟩
   have hjs : j = s := by have hw' : (j : Int) = s := hw; omega
   subst hjs
   rw [get_set (by omega) (by omega),if_pos rfl,hz k h1] at h3
   exact ⟨k,j,h1,h2,h3,rfl⟩
  ·rintro ⟨k,j,h1,h2,h3,rfl⟩
   have hjs : j = s := by have hw' : (j : Int) = s := hw; omega
   subst hjs
   refine ⟨k,j,h1,h2,?_,rfl⟩
   rw [get_set (by omega) (by omega),if_pos rfl,hz k h1]
   exact h3
 unfold keepsF
 rw [List.all_eq_true]
 constructor
 ·intro h d hd
  have := h d.toNat (List.mem_range.2 (by omega))
  rw [Int.toNat_of_nonneg hd.1,hsame] at this
  simpa using this
 ·intro h d hd
  rw [List.mem_range] at hd
  have := h (d : Int) ⟨by omega,by omega⟩
  rw [hsame]
  simpa using this
theorem plans_safe {p : List Work} (hp : p ∈ plansF x th wr) : SafeP x th wr p := by
 obtain ⟨c,rfl,hc⟩ := plansGo_of _ _ _ _ hp
 have hn := hx.n
 intro s d hs hd
 have hs2 : s.toNat < x.feet.length := by omega
 have h1 := hc s.toNat (Nat.zero_le _) (by omega)
 rw [allF_get hs2] at h1
 obtain ⟨k,_,h2,h3⟩ := changes_keep h1
 rw [planned_grd]
 have := (keeps_iff hx ho th wr hs2 (f := fun k s => bitF ((setAll c x.feet.length 0 zeroW).get s) k) (z := (k : Int)) (fun j _ => by
  rw [setAll_get c _ 0 zeroW _ (by omega) (by omega),if_pos (by omega),h2])).1 h3 d hd
 rwa [Int.toNat_of_nonneg hs.1] at this
theorem plans_part (f : Nat → Nat → Bool) (hf : SafeP x th wr (grdF x f)) : ∃ p ∈ plansF x th wr,p.Sublist (grdF x f) := by
 have hn := hx.n
 have hol := hx.opnl
 have hpow : 2 ^ x.opn.length ≤ 32 := Nat.le_trans (Nat.pow_le_pow_right (by decide) hol) (by decide)
 -- the set of each section
 have hset : ∀ s,s < x.feet.length → ∃ l : Nat,(l : Int) ∈ changesF x th wr s ∧ ∀ j,j < x.opn.length → bitF (l : Int) j = true → f j s = true := by
  intro s hs
  obtain ⟨h1,h2⟩ := mask_lt (fun k => decide (k < x.opn.length) && f k s) (n := x.opn.length) hol (fun k hk => by rw [decide_eq_false (by omega)]; rfl)
  have hbit : ∀ k,k < x.opn.length → bitF (maskB fun k => decide (k < x.opn.length) && f k s) k = f k s := by
   intro k hk
   rw [mask_bit _ (by omega),decide_eq_true hk,Bool.true_and]
  have hkeep := (keeps_iff hx ho th wr hs (f := f) hbit).2 fun d hd => hf s d ⟨by omega,by omega⟩ hd
  generalize (maskB fun k => decide (k < x.opn.length) && f k s) = z at *
  have hz : ((z.toNat : Nat) : Int) = z := Int.toNat_of_nonneg h1
  obtain ⟨l,h3,h4,h5⟩ := changes_least (x := x) (th := th) (wr := wr) (s := s) (K := 2 ^ x.opn.length) (k := z.toNat) (by omega) hpow (by rw [hz]; exact hkeep)
  refine ⟨l,h3,fun j hj hb => ?_⟩
  have := (subset_iff (by omega) h4).1 h5 j (by omega) hb
  rw [hz,hbit j hj] at this
  exact this
 have hpick : ∃ c : Nat → Int,∀ s,s < x.feet.length → c s ∈ changesF x th wr s ∧ ∀ j,j < x.opn.length → bitF (c s) j = true → f j s = true := by
  refine ⟨fun s => if h : s < x.feet.length then ((hset s h).choose : Int) else 0,fun s hs => ?_⟩
  dsimp only
  rw [dif_pos hs]
  exact (hset s hs).choose_spec
 obtain ⟨c,hc⟩ := hpick
 refine ⟨_,plansGo_has (c := c) x.feet.length 0 zeroW fun j _ h2 => ?_,?_⟩
 ·rw [allF_get (by omega)]
  exact (hc j (by omega)).1
 ·rw [planned_grd]
  refine grd_sub fun k s hk hs h => ?_
  rw [setAll_get c _ 0 zeroW _ (by omega) (by omega),if_pos (by omega)] at h
  exact (hc s hs).2 k hk h
end
end Go.Di

namespace Go.Di
open Proofs
end Go.Di

namespace Go.Di
open Proofs

/-! ### THE LAW OF THE BEST PLAN -/
theorem fgood_iff {x : FBook} {plan : List Work} : fgoodF x plan = true ↔ needsF x plan ≤ x.stock := by unfold fgoodF; exact decide_eq_true_iff
theorem best_law {x : FBook} (hx : FIn x) (ho : x.opn.Pairwise (· < ·)) (th : List (List Int)) (wr : List Int) (f : Nat → Nat → Bool) (hs : SafeP x th wr (grdF x f)) (hg : fgoodF x (grdF x f) = true) :
  (bestF x th wr).2 = true ∧ (feetF x (bestF x th wr).1 < feetF x (grdF x f) ∨ feetF x (bestF x th wr).1 = feetF x (grdF x f) ∧ ¬ cmpPlans (grdF x f) (bestF x th wr).1 < 0) := by
 obtain ⟨p,hp,hsub⟩ := plans_part hx ho th wr f hs
 have hq : ∀ w ∈ grdF x f,0 ≤ w.s ∧ w.s < x.feet.length := fun w hw => by
  obtain ⟨k,j,_,hj,_,rfl⟩ := grd_mem.1 hw
  exact ⟨by show (0 : Int) ≤ (j : Int); omega,by show (j : Int) < _; omega⟩
 have hgp : fgoodF x p = true := fgood_iff.2 (Int.le_trans (needs_sub hx hsub hq) (fgood_iff.1 hg))
 rcases bestOf_spec x (plansF x th wr) with ⟨h1,h2,h3,h4⟩ | ⟨h1,h2⟩
 ·refine ⟨h1,?_⟩
  have hb := h4 p hp hgp
  have hb' : ¬ (feetF x p < feetF x (bestOf x (plansF x th wr)).1 ∨ feetF x p = feetF x (bestOf x (plansF x th wr)).1 ∧ cmpPlans p (bestOf x (plansF x th wr)).1 < 0) := by
   rw [← better_iff,hb]; simp
  show feetF x (bestOf x (plansF x th wr)).1 < _ ∨ feetF x (bestOf x (plansF x th wr)).1 = _ ∧ ¬ cmpPlans _ (bestOf x (plansF x th wr)).1 < 0
  generalize (bestOf x (plansF x th wr)).1 = b at *
  rcases feet_sub hx hsub hq with hlt | rfl
  ·exact .inl (by omega)
  ·by_cases he : feetF x (grdF x f) = feetF x b
   ·exact .inr ⟨he.symm,fun h => hb' (.inr ⟨he,h⟩)⟩
   ·exact .inl (by omega)
 ·rw [h2 p hp] at hgp; cases hgp
theorem best_is {x : FBook} (hx : FIn x) (ho : x.opn.Pairwise (· < ·)) (th : List (List Int)) (wr : List Int) (h : (bestF x th wr).2 = true) : (∃ f,(bestF x th wr).1 = grdF x f) ∧ SafeP x th wr (bestF x th wr).1 ∧ fgoodF x (bestF x th wr).1 = true := by
 rcases bestOf_spec x (plansF x th wr) with ⟨h1,h2,h3,h4⟩ | ⟨h1,h2⟩
 ·obtain ⟨on,he⟩ := plansGo_mem _ _ _ _ _ _ h2
  exact ⟨⟨_,he.trans (planned_grd x on)⟩,plans_safe hx ho th wr h2,h3⟩
 ·have h' : (bestOf x (plansF x th wr)).2 = true := h
  rw [h1] at h'; cases h'

/-! ### isPlan,good,sooner -/
theorem atU_con {x : FBook} (hx : FIn x) (v : Int) : CF 46 [.sl false .int x.opn,.int .i64 v] (.int .i64 (indexF v x.opn 0)) := (atB_con x.opn v (by have := hx.opnl; omega)).up
end Go.Di

namespace Go.Di
open Proofs
/-! ### A book with another stock -/
section
variable (x : FBook) (c : Int)
end
/-- How many feet the best plan takes; 1000: there is none; -1: it cannot be told. -/
def costV (x : FBook) : Int := if canF x.chain = true then (match bestF x (knowTh x) (knowWr x) with
 | (p,true) => feetF x p
 | (_,false) => 1000) else -1
end Go.Di

namespace Go.Di
open Proofs
theorem lcost_fn : FnOk PRG (MF 27) 90 (body Tryd.f90) [.tmp 2] := by refine ⟨Tryd.f90,?_,?_,?_,?_,?_⟩ <;> kernel_rfl
theorem lcost_none (x : FBook) :
  callF (MF 27) [] [(9,.tup [.sl false .work [],.int .i64 4])] [] (body Tryd.f90) [.tmp 2] [fbookD x] =
   some ([CF 77 [fbookD x] (D.tup [D.sl false E.work [],D.int .i64 4])],D.int .i64 1000) := by kernel_rfl
theorem lcost_err (x : FBook) (f g : Int) :
  callF (MF 27) [] [(9,.tup [.sl false .work [],.int .i64 72]),(17,.tup [.int .i64 f,.int .i64 g])] [] (body Tryd.f90) [.tmp 2] [fbookD x] =
   some ([CF 77 [fbookD x] (D.tup [D.sl false E.work [],D.int .i64 72]),CF 84 [fbookD x,D.sl false E.work []] (D.tup [D.int .i64 f,D.int .i64 g])],D.int .i64 (-(1 : Int))) := by kernel_rfl
theorem lcost_ok (x : FBook) (p : List Work) (f : Int) :
  callF (MF 27) [] [(9,.tup [.sl false .work p,.int .i64 0]),(17,.tup [.int .i64 f,.int .i64 0])] [] (body Tryd.f90) [.tmp 2] [fbookD x] =
   some ([CF 77 [fbookD x] (D.tup [D.sl false E.work p,D.int .i64 0]),CF 84 [fbookD x,D.sl false E.work p] (D.tup [D.int .i64 f,D.int .i64 0])],D.int .i64 f) := by kernel_rfl
end Go.Di

namespace Go.Di
open Proofs
theorem best_plan {x : FBook} (hV : FValid x) (h : (bestF x (knowTh x) (knowWr x)).2 = true) : IsPlan x (bestF x (knowTh x) (knowWr x)).1 := by
 obtain ⟨⟨f,hf⟩,_⟩ := best_is hV.inn hV.opn.2 _ _ h
 rw [hf]
 exact grd_plan hV f
theorem cost_con {x : FBook} (hV : FValid x) (hs : FSmall x) : CF 90 [fbookD x] (.int .i64 (costV x)) := by
 have hP := fPlan_con hs
 unfold fPlanF at hP
 rw [err_of hV] at hP
 unfold costV
 have hb := best_plan hV
 cases hc : canF x.chain with
 | false =>
  rw [hc,if_neg (by decide)] at hP
  have hf := fFeet_con hs (plan := []) (by simp)
  exact contract_of_path (GF 27) lcost_fn (lcost_err x _ _) ⟨hP,hf,trivial⟩
 | true =>
  rw [hc,if_pos rfl,if_pos rfl] at hP
  rw [if_pos rfl]
  generalize bestF x (knowTh x) (knowWr x) = o at hP hb ⊢
  obtain ⟨p,f⟩ := o
  cases f with
  | false => exact contract_of_path (GF 27) lcost_fn (lcost_none x) ⟨hP,trivial⟩
  | true =>
   have hp : IsPlan x p := hb rfl
   have hf := fFeet_con hs (plan := p) (by have := plan_len hV hp; omega)
   have e1 : fplanE x p = 0 := by unfold fplanE; rw [fvalid_iff.2 hV,show planB x p = true from (isPlan_iff hV).2 hp]; rfl
   unfold fFeetF at hf
   rw [if_pos e1] at hf
   exact contract_of_path (GF 27) lcost_fn (lcost_ok x p _) ⟨hP,hf,trivial⟩
theorem feet_lt {x : FBook} (hV : FValid x) {p : List Work} (hp : IsPlan x p) : 0 ≤ feetF x p ∧ feetF x p < 1000 := by
 -- a part of the grid of all
 have hx := hV.inn
 have hn := hx.n
 have hlen : (p.length : Int) ≤ 16 := by
  have hnd : ∀ w ∈ p,w ∈ grdF x (fun _ _ => true) := fun w hw => by
   obtain ⟨h1,h2,h3⟩ := hp.1 w hw
   obtain ⟨k,hk,he⟩ := mem_iff_getD.1 h1
   exact grd_mem.2 ⟨k,w.s.toNat,hk,by omega,rfl,by obtain ⟨a,b⟩ := w; rw [Work.mk.injEq]; exact ⟨he.symm,by show b = ((b.toNat : Nat) : Int); have h2' : 0 ≤ b := h2; omega⟩⟩
  have hnodup : p.Nodup := hp.2.imp fun {a b} h => by intro e; subst e; unfold wlt at h; omega
  have := hnodup.length_le_of_subset hnd
  have hg := grdTo_len x (fun _ _ => true) x.opn.length
  have hg' : (grdF x (fun _ _ => true)).length ≤ x.opn.length * x.feet.length := hg
  have hm : x.opn.length * x.feet.length ≤ 4 * 4 := Nat.mul_le_mul hV.opnl hn.2
  omega
 have key : ∀ l : List Work,(∀ w ∈ l,0 ≤ w.s ∧ w.s < x.feet.length) → 0 ≤ feetF x l ∧ feetF x l ≤ 30 * (l.length : Int) := by
  intro l
  induction l with
  | nil => exact fun _ => ⟨Int.le_refl 0,by simp [feetF,feetLF,sumF]⟩
  | cons w l ih =>
   intro h
   have h1 := ih fun v hv => h v (by simp [hv])
   have hw := h w (by simp)
   have h2 := hV.each _ (mem_getD 0 (show w.s.toNat < x.feet.length by omega))
   rw [feet_cons,List.length_cons]
   omega
 have := key p fun w hw => (hp.1 w hw).2
 omega
theorem cost_in {x : FBook} (hV : FValid x) (hc : canF x.chain = true) : 0 ≤ costV x ∧ costV x ≤ 1000 ∧ (costV x < 1000 ↔ (bestF x (knowTh x) (knowWr x)).2 = true) := by
 have hb := best_plan hV
 unfold costV
 rw [if_pos hc]
 generalize bestF x (knowTh x) (knowWr x) = o at hb ⊢
 obtain ⟨p,f⟩ := o
 cases f with
 | false => exact ⟨show (0 : Int) ≤ 1000 by decide,show (1000 : Int) ≤ 1000 by decide,by simp⟩
 | true =>
  have h : 0 ≤ feetF x p ∧ feetF x p < 1000 := feet_lt hV (hb rfl)
  exact ⟨h.1,show feetF x p ≤ 1000 by omega,by simp; exact h.2⟩
end Go.Di

