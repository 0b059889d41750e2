/- Part 28: an interpreter over plain data for this code, with the proof that it says what the model does, and the contracts of the functions. No condition. -/
import Derived.Test.YtfkmodcjddfeiaaDoorDi27
import Derived.Test.YtfkmodcjddfeiaaDoorCards
import Derived.Test.YtfkmodcjddfeiaaDoorTie
import Derived.SevenTiedAt
import Derived.Stop.Joined
import Derived.Deep.DeepWitnessRowRef
set_option linter.unusedVariables false
set_option linter.unusedSimpArgs false
set_option maxRecDepth 100000
namespace Go.Di
open Go.RowKit Go.ChangeShapes Go.WideShapes Go.Deep Go.ChangeAt Go.Proofs
open Go.Proofs.YtfkmodcjddfeiaaDoor

/-! ### The program's facts -/
theorem laidOut : laidOutB Tryd.prog = true := by kernel_rfl
theorem own : ownKnob Tryd.prog.godebug = none := by kernel_rfl
theorem gNowhere : Tryd.prog.globalNamed "prow/chain.nowhere" = some 1 := by kernel_rfl
theorem gBegin : Tryd.prog.globalNamed "prow/forge.begin" = some 2 := by kernel_rfl
theorem gThicks : Tryd.prog.globalNamed "prow/forge.thicks" = some 3 := by kernel_rfl
theorem tBegin : (Tryd.prog.globals[2]?).map (·.type) = some 108 := by kernel_rfl
theorem tThicks : (Tryd.prog.globals[3]?).map (·.type) = some 192 := by kernel_rfl
theorem tNowhere : (Tryd.prog.globals[1]?).map (·.type) = some 179 := by kernel_rfl

section
variable {H : Type} {enc : TypeId × Value → H} {w : World} {sp : Nat → Bool} {hd : Bool}
theorem reads3 : ReadsE enc Tryd.prog w sp hd 3 .int := fun fuel cs x h => by
 obtain ⟨n,rfl⟩ := reads_int (t := 3) (by kernel_rfl) h
 exact ⟨n,rfl,rfl⟩
/-- The fields of a struct. -/
noncomputable def fld (t i : Nat) : Field := match Tryd.prog.underlying t with
 | some (.struct fs) => fs.getD i default
 | _ => default
theorem reads51 (fuel : Nat) (cs : List Value) (x : DataW H × List MemPlace) (h : DataW.trod enc Tryd.prog w 0 sp hd fuel 51 cs = some x) : ∃ a b,cs = [.int .i64 a,.int .i64 b] :=
 reads_two (t := 51) (f0 := fld 51 0) (f1 := fld 51 1) (by kernel_rfl) (by kernel_rfl) (by kernel_rfl) (by kernel_rfl) (by kernel_rfl) (by kernel_rfl) (by kernel_rfl) (by kernel_rfl) h
theorem reads76 : ReadsE enc Tryd.prog w sp hd 76 .sec := fun fuel cs x h => by
 obtain ⟨a,b,c,d,rfl⟩ := reads_sec (t := 76) (f0 := fld 76 0) (f1 := fld 76 1) (by kernel_rfl) (by kernel_rfl) (by kernel_rfl) (by kernel_rfl) (by kernel_rfl) (by kernel_rfl) (by rw [show (fld 76 0).type = 51 from by kernel_rfl]; exact reads51) (by rw [show (fld 76 1).type = 51 from by kernel_rfl]; exact reads51) h
 exact ⟨(⟨⟨a,b⟩,⟨c,d⟩⟩ : Sec),rfl,rfl⟩
theorem reads34 : ReadsE enc Tryd.prog w sp hd 34 .sv := fun fuel cs x h => by
 obtain ⟨a,b,c,d,rfl⟩ := reads_four (t := 34) (f0 := fld 34 0) (f1 := fld 34 1) (f2 := fld 34 2) (f3 := fld 34 3) (by kernel_rfl) (by kernel_rfl) (by kernel_rfl) (by kernel_rfl) (by kernel_rfl) (by kernel_rfl) (by kernel_rfl) (by kernel_rfl) (by kernel_rfl) (by kernel_rfl) (by kernel_rfl) (by kernel_rfl) (by kernel_rfl) (by kernel_rfl) h
 exact ⟨(⟨a,b,c,d⟩ : Sv),rfl,rfl⟩
end

/-! ### The listed variables -/
theorem trod_arr2 {H : Type} {enc : TypeId × Value → H} {P : Program} {w : World} {sp : Nat → Bool} {hd : Bool} {t et : TypeId} (ht : P.underlying t = some (.array 2 et)) (hc : P.cellsOf t = 2) (ce : P.cellsOf et = 1) {fuel : Nat} {cs : List Value} {d0 d1 : DataW H} {ps : List MemPlace}
  (h : DataW.trod enc P w 0 sp hd fuel t cs = some (.agg [d0,d1],ps)) : ∃ v0 v1 k q0 q1,cs = [v0,v1] ∧ DataW.trod enc P w 0 sp hd k et [v0] = some (d0,q0) ∧ DataW.trod enc P w 0 sp hd k et [v1] = some (d1,q1) := by
 cases fuel with
 | zero => simp [DataW.trod] at h
 | succ k =>
  unfold DataW.trod at h
  rw [ht] at h
  simp only [ce,Nat.mul_one] at h
  split at h
  ·rename_i hl
   rw [hc] at hl
   match cs,hl with
   | [v0,v1],_ =>
    have hr : List.range 2 = [0,1] := rfl
    rw [hr] at h
    simp only [List.mapM_cons,List.mapM_nil] at h
    cases h0 : DataW.trod enc P w 0 sp hd k et (List.take 1 (List.drop 0 [v0,v1])) with
    | none => rw [h0] at h; cases h
    | some x0 =>
     rw [h0] at h
     cases h1 : DataW.trod enc P w 0 sp hd k et (List.take 1 (List.drop 1 [v0,v1])) with
     | none => rw [h1] at h; cases h
     | some x1 =>
      rw [h1] at h
      have h' : (DataW.agg [x0.1,x1.1],x0.2 ++ (x1.2 ++ [])) = (DataW.agg [d0,d1],ps) := Option.some.inj h
      simp only [Prod.mk.injEq,DataW.agg.injEq,List.cons.injEq,and_true] at h'
      obtain ⟨⟨rfl,rfl⟩,_⟩ := h'
      exact ⟨v0,v1,k,x0.2,x1.2,rfl,h0,h1⟩
  ·cases h
theorem trod_pair {H : Type} {enc : TypeId × Value → H} {w : World} {sp : Nat → Bool} {hd : Bool} {fuel : Nat} {cs : List Value} {a b : Int} {ps : List MemPlace}
  (h : DataW.trod enc Tryd.prog w 0 sp hd fuel 179 cs = some (.agg [.lit (.int .i64 a),.lit (.int .i64 b)],ps)) : cs = [.int .i64 a,.int .i64 b] := by
 obtain ⟨xs,k,_,hx,hl,hxl,hf⟩ := DataW.trod_struct (t := 179) (fs := #[fld 179 0,fld 179 1]) (by kernel_rfl) h
 have hc : Tryd.prog.cellsOf 179 = 2 := by kernel_rfl
 rw [hc] at hl
 have c0 : Tryd.prog.cellsOf (fld 179 0).type = 1 := by kernel_rfl
 have c1 : Tryd.prog.cellsOf (fld 179 1).type = 1 := by kernel_rfl
 have o0 : (fld 179 0).offset = 0 := by kernel_rfl
 have o1 : (fld 179 1).offset = 1 := by kernel_rfl
 match xs,hxl,cs,hl with
 | [y0,y1],_,[v0,v1],_ =>
  have g0 := hf 0 (fld 179 0) rfl
  have g1 := hf 1 (fld 179 1) rfl
  simp [o0,o1,c0,c1] at g0 g1
  obtain ⟨n0,e0,e0',_⟩ := DataW.trod_int (k := .i64) (by kernel_rfl) g0
  obtain ⟨n1,e1,e1',_⟩ := DataW.trod_int (k := .i64) (by kernel_rfl) g1
  simp only [List.cons.injEq,and_true] at e0 e1
  simp only [List.map_cons,List.map_nil,Prod.mk.injEq,DataW.agg.injEq,List.cons.injEq,and_true] at hx
  obtain ⟨⟨q0,q1⟩,_⟩ := hx
  rw [e0'] at q0
  rw [e1'] at q1
  simp only [DataW.lit.injEq,Lit.int.injEq,true_and] at q0 q1
  subst q0 q1
  rw [e0,e1]
theorem trod_pairB {H : Type} {enc : TypeId × Value → H} {w : World} {sp : Nat → Bool} {hd : Bool} {fuel : Nat} {cs : List Value} {a b : Int} {ps : List MemPlace}
  (h : DataW.trod enc Tryd.prog w 0 sp hd fuel 108 cs = some (.agg [.lit (.int .i64 a),.lit (.int .i64 b)],ps)) : cs = [.int .i64 a,.int .i64 b] := by
 obtain ⟨xs,k,_,hx,hl,hxl,hf⟩ := DataW.trod_struct (t := 108) (fs := #[fld 108 0,fld 108 1]) (by kernel_rfl) h
 have hc : Tryd.prog.cellsOf 108 = 2 := by kernel_rfl
 rw [hc] at hl
 have c0 : Tryd.prog.cellsOf (fld 108 0).type = 1 := by kernel_rfl
 have c1 : Tryd.prog.cellsOf (fld 108 1).type = 1 := by kernel_rfl
 have o0 : (fld 108 0).offset = 0 := by kernel_rfl
 have o1 : (fld 108 1).offset = 1 := by kernel_rfl
 match xs,hxl,cs,hl with
 | [y0,y1],_,[v0,v1],_ =>
  have g0 := hf 0 (fld 108 0) rfl
  have g1 := hf 1 (fld 108 1) rfl
  simp [o0,o1,c0,c1] at g0 g1
  obtain ⟨n0,e0,e0',_⟩ := DataW.trod_int (k := .i64) (by kernel_rfl) g0
  obtain ⟨n1,e1,e1',_⟩ := DataW.trod_int (k := .i64) (by kernel_rfl) g1
  simp only [List.cons.injEq,and_true] at e0 e1
  simp only [List.map_cons,List.map_nil,Prod.mk.injEq,DataW.agg.injEq,List.cons.injEq,and_true] at hx
  obtain ⟨⟨q0,q1⟩,_⟩ := hx
  rw [e0'] at q0
  rw [e1'] at q1
  simp only [DataW.lit.injEq,Lit.int.injEq,true_and] at q0 q1
  subst q0 q1
  rw [e0,e1]
/-- The three listed variables. -/
theorem laid_globF {W : World} (h : laidMetH Tryd.prog [("prow/chain.nowhere",YtfkmodcjddfeiaaDoor.Rows.laid_prow_chain_nowhere),("prow/forge.begin",YtfkmodcjddfeiaaDoor.Rows.laid_prow_forge_begin),("prow/forge.thicks",YtfkmodcjddfeiaaDoor.Rows.laid_prow_forge_thicks)] W) :
  ∀ g cs,globF g = some cs → Rel (Old W) W (.ref cs 0) (.pointer (some ⟨g,0,none⟩)) := by
 intro g cs hg
 match g,hg with
 | 1,hg =>
  cases hg
  obtain ⟨⟨ps,⟨g',t,vs,fuel,p,q,hg',ht,hv,hd,_,_⟩,_⟩,_⟩ := h
  obtain rfl := Option.some.inj (gNowhere.symm.trans hg')
  obtain rfl := Option.some.inj (tNowhere.symm.trans ht)
  have e := trod_pair hd
  refine ⟨1,0,rfl,fun j d hj => ?_⟩
  have hc := World.var?_cell hg' hv
  have hs : vs = #[.int .i64 (-1),.int .i64 (-1)] := by rw [← Array.toArray_toList (xs := vs),e]
  match j,hj with
  | 0,hj =>
   cases hj
   have h0 := hc 0
   rw [hs] at h0
   exact ⟨_,rfl,cell_old h0,h0⟩
  | 1,hj =>
   cases hj
   have h0 := hc 1
   rw [hs] at h0
   exact ⟨_,rfl,cell_old h0,h0⟩
 | 2,hg =>
  cases hg
  obtain ⟨⟨ps,⟨_,_,_,_,_,_,_,_,_,_,hrest,_⟩,_⟩,_⟩ := h
  obtain ⟨g',t,vs,fuel,p,q,hg',ht,hv,hd,_,_⟩ := hrest
  obtain rfl := Option.some.inj (gBegin.symm.trans hg')
  obtain rfl := Option.some.inj (tBegin.symm.trans ht)
  have e := trod_pairB hd
  refine ⟨2,0,rfl,fun j d hj => ?_⟩
  have hc := World.var?_cell hg' hv
  have hs : vs = #[.int .i64 (-1),.int .i64 0] := by rw [← Array.toArray_toList (xs := vs),e]
  match j,hj with
  | 0,hj =>
   cases hj
   have h0 := hc 0
   rw [hs] at h0
   exact ⟨_,rfl,cell_old h0,h0⟩
  | 1,hj =>
   cases hj
   have h0 := hc 1
   rw [hs] at h0
   exact ⟨_,rfl,cell_old h0,h0⟩
 | 3,hg =>
  cases hg
  obtain ⟨g',t,vs,fuel,p,hg',ht,hv,hd⟩ := h.funcs (n := "prow/forge.thicks") (List.mem_cons_of_mem _ (List.mem_cons_of_mem _ (List.mem_cons_self ..)))
  obtain rfl := Option.some.inj (gThicks.symm.trans hg')
  obtain rfl := Option.some.inj (tThicks.symm.trans ht)
  obtain ⟨v0,v1,k,q0,q1,e,h0,h1⟩ := trod_arr2 (t := 192) (et := 191) (by kernel_rfl) (by kernel_rfl) (by kernel_rfl) hd
  have hf : Tryd.prog.underlying 191 = some (.func #[151,3,3,3] #[3] false) := by kernel_rfl
  obtain rfl := func_of_trod (f0 := 226) hf (by kernel_rfl) h0
  obtain rfl := func_of_trod (f0 := 227) hf (by kernel_rfl) h1
  refine ⟨3,0,rfl,fun j d hj => ?_⟩
  have hc := World.var?_cell hg' hv
  have hs : vs = #[.func (.func 226) #[] #[],.func (.func 227) #[] #[]] := by rw [← Array.toArray_toList (xs := vs),e]
  match j,hj with
  | 0,hj =>
   cases hj
   have h0 := hc 0
   rw [hs] at h0
   exact ⟨_,⟨#[],#[],rfl,trivial,trivial⟩,cell_old h0,h0⟩
  | 1,hj =>
   cases hj
   have h0 := hc 1
   rw [hs] at h0
   exact ⟨_,⟨#[],#[],rfl,trivial,trivial⟩,cell_old h0,h0⟩

/-! ### A world for the witness -/
def lay1 : Obj → Obj
 | .cells _ t frozen => .cells #[.int .i64 (-1),.int .i64 (-1)] t frozen
 | o => o
def lay2 : Obj → Obj
 | .cells _ t frozen => .cells #[.int .i64 (-1),.int .i64 0] t frozen
 | o => o
def lay3 : Obj → Obj
 | .cells _ t frozen => .cells #[.func (.func 226) #[] #[],.func (.func 227) #[] #[]] t frozen
 | o => o
noncomputable def laidWorld (os : Os) : World :=
 { World.holding Tryd.prog os ⟨#[],#[],[]⟩ with heap := (((World.holding Tryd.prog os ⟨#[],#[],[]⟩).heap.modify 1 lay1).modify 2 lay2).modify 3 lay3 }
def noFBook : Value := .agg #[.slice none 0 0,.slice none 0 0,.slice none 0 0,.int .i64 0,.int .i64 0,.slice none 0 0,.int .i64 0,.slice none 0 0,.int .i64 0,.int .i64 0]
theorem laid_met (os : Os) (args : Array Value) : laidMetH Tryd.prog [("prow/chain.nowhere",Rows.laid_prow_chain_nowhere),("prow/forge.begin",Rows.laid_prow_forge_begin),("prow/forge.thicks",Rows.laid_prow_forge_thicks)] ((laidWorld os).forCall (fun _ _ => 0) ⟨#[],args,[]⟩).memory :=
 laidMetH_of_parts3 (fuel := 8) (laidMet_of_run' 8 (by kernel_rfl) (by kernel_rfl)) (by kernel_rfl) (by kernel_rfl)
/-- What a function's contract gives the row: from the reading of its arguments. -/
theorem calls_lawF {f : FuncId} {W : World} {args : Array Value} {ds : List D} (hc : Contract Tryd.prog globF f ds (.bool true)) (hg : ∀ g cs,globF g = some cs → Rel (Old W) W (.ref cs 0) (.pointer (some ⟨g,0,none⟩))) (ha : All2 (Rel (Old W) W) ds args.toList) :
  Calls Tryd.prog f args W fun e W' => e = .returned (.bool true) ∧ Below W.heap.size W W' := by
 have := hc.calls W (Old W) args.toList (fun b o h => h) hg ha
 rw [Array.toArray_toList] at this
 exact this.mono fun e W' ⟨v,he,hb,R',_,_,hr⟩ => ⟨by rw [he,show v = .bool true from hr],hb⟩
theorem under4 : Tryd.prog.underlying 4 = some .bool := by kernel_rfl

/-! ### More kinds of arguments -/
section
variable {H : Type} {enc : TypeId × Value → H} {w : World} {sp : Nat → Bool} {hd : Bool}
/-- The cells of a chain's book. -/
theorem reads26 (fuel : Nat) (cs : List Value) (x : DataW H × List MemPlace) (h : DataW.trod enc Tryd.prog w 0 sp hd fuel 26 cs = some x) : ∃ b : Book,All2 (RelC (Old w) w) [.sl false .sec b.secs,.sl false .int b.turns,.sl false .sv b.svs,.int .i64 b.rule,.int .i64 b.days] cs ∧ b.secs.length ≤ maxLen ∧ b.turns.length ≤ maxLen ∧ b.svs.length ≤ maxLen := by
 have hu : Tryd.prog.underlying 26 = some (.struct #[fld 26 0,fld 26 1,fld 26 2,fld 26 3,fld 26 4]) := by kernel_rfl
 exact reads_book (t := 26) hu (by kernel_rfl) (by kernel_rfl) (by kernel_rfl) (by kernel_rfl) (by kernel_rfl) (by kernel_rfl) (by kernel_rfl) (by kernel_rfl) (by kernel_rfl) (by kernel_rfl) (by kernel_rfl) (e0 := 76) (e1 := 3) (e2 := 34) (by kernel_rfl) (by kernel_rfl) (by kernel_rfl) (by kernel_rfl) (by kernel_rfl) (by kernel_rfl) (by kernel_rfl) (by kernel_rfl) reads76 reads3 reads34 h
theorem six {α : Type} {l : List α} (h : l.length = 6) : ∃ a b c d e f,l = [a,b,c,d,e,f] := by
 match l,h with
 | [a,b,c,d,e,f],_ => exact ⟨a,b,c,d,e,f,rfl⟩
theorem five {α : Type} {l : List α} (h : l.length = 10) : ∃ a b c d e f g i j k,l = [a,b,c,d,e,f,g,i,j,k] := by
 match l,h with
 | [a,b,c,d,e,f,g,i,j,k],_ => exact ⟨a,b,c,d,e,f,g,i,j,k,rfl⟩
/-- A book of the forge as an argument. -/
theorem arg84 {r : Reach} {b0 : Nat} {v : Value} {d : DataW H} {ps : List MemPlace} (hval : Value.okWide Tryd.prog w r b0 84 v) (h : DataW.Trod enc Tryd.prog w 0 sp hd 84 v d ps) : ∃ x : FBook,FSmall x ∧ Rel (Old w) w (fbookD x) v := by
 have hu : Tryd.prog.underlying 84 = some (.struct #[fld 84 0,fld 84 1,fld 84 2,fld 84 3,fld 84 4,fld 84 5]) := by kernel_rfl
 unfold Value.okWide at hval
 rw [hu] at hval
 obtain ⟨cs,rfl,_⟩ := hval
 obtain ⟨fuel,h⟩ := h
 obtain ⟨xs,k,_,_,hl,hx,hf⟩ := DataW.trod_struct hu h
 have hc : Tryd.prog.cellsOf 84 = 10 := by kernel_rfl
 rw [hc] at hl
 obtain ⟨u0,u1,u2,u3,u4,u5,u6,u7,u8,u9,hcs⟩ := five hl
 obtain ⟨y0,y1,y2,y3,y4,y5,hxs⟩ := six hx
 subst hxs
 have g0 := hf 0 (fld 84 0) rfl
 have g1 := hf 1 (fld 84 1) rfl
 have g2 := hf 2 (fld 84 2) rfl
 have g3 := hf 3 (fld 84 3) rfl
 have g4 := hf 4 (fld 84 4) rfl
 have g5 := hf 5 (fld 84 5) rfl
 have hfs : ∀ i,i < 6 → (fld 84 i).offset = [0,5,6,7,8,9].getD i 0 ∧ Tryd.prog.cellsOf (fld 84 i).type = [5,1,1,1,1,1].getD i 0 ∧ (fld 84 i).type = [26,23,3,23,3,3].getD i 0 := by
  intro i hi
  have h6 : i = 0 ∨ i = 1 ∨ i = 2 ∨ i = 3 ∨ i = 4 ∨ i = 5 := by omega
  rcases h6 with rfl | rfl | rfl | rfl | rfl | rfl <;> exact ⟨by kernel_rfl,by kernel_rfl,by kernel_rfl⟩
 obtain ⟨a0,b0,c0⟩ := hfs 0 (by decide)
 obtain ⟨a1,b1,c1⟩ := hfs 1 (by decide)
 obtain ⟨a2,b2,c2⟩ := hfs 2 (by decide)
 obtain ⟨a3,b3,c3⟩ := hfs 3 (by decide)
 obtain ⟨a4,b4,c4⟩ := hfs 4 (by decide)
 obtain ⟨a5,b5,c5⟩ := hfs 5 (by decide)
 rw [a0,b0,c0,hcs] at g0
 rw [a1,b1,c1,hcs] at g1
 rw [a2,b2,c2,hcs] at g2
 rw [a3,b3,c3,hcs] at g3
 rw [a4,b4,c4,hcs] at g4
 rw [a5,b5,c5,hcs] at g5
 simp at g0 g1 g2 g3 g4 g5
 obtain ⟨b,h1,h2,h3,h4⟩ := reads26 _ _ _ g0
 have t23 : Tryd.prog.underlying 23 = some (.slice 3) := by kernel_rfl
 have t3 : Tryd.prog.underlying 3 = some (.int .i64) := by kernel_rfl
 obtain ⟨w1,fe,e1,s1,l1⟩ := reads_slice (e := .int) t23 (by kernel_rfl) reads3 g1
 obtain ⟨nw,e2⟩ := reads_int t3 g2
 obtain ⟨w3,op,e3,s3,l3⟩ := reads_slice (e := .int) t23 (by kernel_rfl) reads3 g3
 obtain ⟨st,e4⟩ := reads_int t3 g4
 obtain ⟨mk,e5⟩ := reads_int t3 g5
 simp only [List.cons.injEq,and_true] at e1 e2 e3 e4 e5
 have hm : maxLen ≤ 9223372036854775807 := by decide
 refine ⟨⟨b,fe,nw,op,st,mk⟩,⟨⟨Nat.le_trans h2 hm,Nat.le_trans h3 hm,Nat.le_trans h4 hm⟩,Nat.le_trans l1 hm,Nat.le_trans l3 hm⟩,cs,rfl,?_⟩
 have hcs' : cs.toList = [u0,u1,u2,u3,u4,u5,u6,u7,u8,u9] := hcs
 rw [hcs']
 obtain ⟨p0,p1,p2,p3,p4,_⟩ := h1
 rw [e1,e2,e3,e4,e5]
 exact ⟨p0,p1,p2,p3,p4,s1,rfl,s3,rfl,rfl,trivial⟩
theorem int_of_ok {t : TypeId} {r : Reach} {b0 : Nat} {v : Value} (hu : Tryd.prog.underlying t = some (.int .i64)) (h : Value.okWide Tryd.prog w r b0 t v) : ∃ n,v = .int .i64 n := by
 unfold Value.okWide at h
 rw [hu] at h
 simp only at h
 unfold Cell.okWide at h
 rw [hu] at h
 unfold Cell.ok at h
 rw [hu] at h
 cases v <;> simp only at h <;> first | exact h.elim | (obtain ⟨rfl,_⟩ := h; exact ⟨_,rfl⟩)
/-- A number. -/
theorem arg3 {r : Reach} {b0 : Nat} {v : Value} {d : DataW H} {ps : List MemPlace} (hval : Value.okWide Tryd.prog w r b0 3 v) (h : DataW.Trod enc Tryd.prog w 0 sp hd 3 v d ps) : ∃ n : Int,Rel (Old w) w (.int .i64 n) v := by
 obtain ⟨n,rfl⟩ := int_of_ok (by kernel_rfl) hval
 exact ⟨n,rfl⟩
end
end Go.Di

namespace Go.Di
theorem stk_fn : FnOk PRG (MF 47) 86 (body Proofs.Tryd.f86) [.tmp 4] := ⟨Proofs.Tryd.f86,by kernel_rfl,by kernel_rfl,by kernel_rfl,by kernel_rfl,by kernel_rfl⟩
theorem lstk_fn : FnOk PRG (MF 106) 19 (body Proofs.Tryd.f19) [.tmp 4] := ⟨Proofs.Tryd.f19,by kernel_rfl,by kernel_rfl,by kernel_rfl,by kernel_rfl,by kernel_rfl⟩
def stk_S0 (x : FBook) (plan : List Work) (st dy : Int) (i : Nat) : List (Key × Val) :=
 [(.tmp 1,.d (D.sl false E.work plan)),
  (.tmp 2,.d (D.ptr 2 0)),
  (.tmp 5,.d (.int .i64 st)),
  (.tmp 6,.d (.int .i64 dy)),
  (.tmp 7,.d (.int .i64 i)),
  (.box 2,.bx (some (Box.mk false (cellsOf (fbookD x)))))]
def stk_K0 : List Key := [.tmp 1,.tmp 2,.tmp 5,.tmp 6,.tmp 7,.box 2]
def lstk_S0 (x : FBook) (n : Int) (plan : List Work) (fe k e a : Int) (i : Nat) : List (Key × Val) :=
 [(.tmp 2,.d (D.ptr 2 0)),
  (.tmp 5,.d (D.sl false E.work plan)),
  (.tmp 6,.d (D.int .i64 fe)),
  (.tmp 7,.d (D.int .i64 (0 : Int))),
  (.tmp 8,.d (D.int .i64 k)),
  (.tmp 9,.d (D.int .i64 e)),
  (.tmp 10,.d (.int .i64 a)),
  (.tmp 11,.d (.int .i64 i)),
  (.box 2,.bx (some (Box.mk false (cellsOf (fbookD x)))))]
def lstk_K0 : List Key := [.tmp 2,.tmp 5,.tmp 6,.tmp 7,.tmp 8,.tmp 9,.tmp 10,.tmp 11,.box 2]
def stk_T0_hit (x : FBook) (plan : List Work) (st dy : Int) (i : Nat)  : List (Key × Val) :=
 [(.tmp 1,.d (D.sl false E.work plan)),(.tmp 2,.d (D.ptr 2 0)),(.tmp 5,.d (D.int .i64 (st + FBook.make x * (Work.d (List.getD plan (i) work0) - dy) - List.getD (FBook.feet x) (Int.toNat (Work.s (List.getD plan (i) work0))) (0 : Int)))),(.tmp 6,.d (D.int .i64 (Work.d (List.getD plan (i) work0)))),(.tmp 7,.d (D.int .i64 (i : Int))),(.box 2,.bx (some (Box.mk false (cellsOf (fbookD x))))),(.tmp 4,.d (D.int .i64 (i : Int)))]
theorem stk_0_on (x : FBook) (plan : List Work) (st dy : Int) (i : Nat) :
  runK (MF 47) [(13,true),(45,false)] [] [] (Code.at [1,1,0,1,0,0] (body Proofs.Tryd.f86)) (stk_S0 x plan st dy i) stk_K0 =
   some ([decide ((i : Int) < (List.length plan : Int)) = true,(0 : Int) ≤ (i : Int) ∧ (i : Int) < (List.length plan : Int),0 + 0 + 1 ≤ 2,inI64 (Work.d (List.getD plan (i) work0) - dy),inI64 (FBook.make x * (Work.d (List.getD plan (i) work0) - dy)),inI64 (st + FBook.make x * (Work.d (List.getD plan (i) work0) - dy)),(0 : Int) ≤ (i : Int) ∧ (i : Int) < (List.length plan : Int),0 + 0 + 1 ≤ 2,(0 : Int) ≤ (i : Int) ∧ (i : Int) < (List.length plan : Int),0 + 1 + 1 ≤ 2,(0 : Int) ≤ Work.s (List.getD plan (i) work0) ∧ Work.s (List.getD plan (i) work0) < (List.length (FBook.feet x) : Int),0 + 1 ≤ 1,inI64 (st + FBook.make x * (Work.d (List.getD plan (i) work0) - dy) - List.getD (FBook.feet x) (Int.toNat (Work.s (List.getD plan (i) work0))) (0 : Int)),decide (st + FBook.make x * (Work.d (List.getD plan (i) work0) - dy) - List.getD (FBook.feet x) (Int.toNat (Work.s (List.getD plan (i) work0))) (0 : Int) < (0 : Int)) = false,inI64 ((i : Int) + (1 : Int))],Ex.normal,stk_S0 x plan (st + x.make * ((plan.getD i work0).d - dy) - x.feet.getD ((plan.getD i work0).s).toNat 0) ((plan.getD i work0).d) (i + 1)) := by kernel_rfl
theorem stk_0_hit (x : FBook) (plan : List Work) (st dy : Int) (i : Nat) :
  runK (MF 47) [(13,true),(45,true)] [] [] (Code.at [1,1,0,1,0,0] (body Proofs.Tryd.f86)) (stk_S0 x plan st dy i) [.tmp 1,.tmp 2,.tmp 5,.tmp 6,.tmp 7,.box 2,.tmp 4] =
   some ([decide ((i : Int) < (List.length plan : Int)) = true,(0 : Int) ≤ (i : Int) ∧ (i : Int) < (List.length plan : Int),0 + 0 + 1 ≤ 2,inI64 (Work.d (List.getD plan (i) work0) - dy),inI64 (FBook.make x * (Work.d (List.getD plan (i) work0) - dy)),inI64 (st + FBook.make x * (Work.d (List.getD plan (i) work0) - dy)),(0 : Int) ≤ (i : Int) ∧ (i : Int) < (List.length plan : Int),0 + 0 + 1 ≤ 2,(0 : Int) ≤ (i : Int) ∧ (i : Int) < (List.length plan : Int),0 + 1 + 1 ≤ 2,(0 : Int) ≤ Work.s (List.getD plan (i) work0) ∧ Work.s (List.getD plan (i) work0) < (List.length (FBook.feet x) : Int),0 + 1 ≤ 1,inI64 (st + FBook.make x * (Work.d (List.getD plan (i) work0) - dy) - List.getD (FBook.feet x) (Int.toNat (Work.s (List.getD plan (i) work0))) (0 : Int)),decide (st + FBook.make x * (Work.d (List.getD plan (i) work0) - dy) - List.getD (FBook.feet x) (Int.toNat (Work.s (List.getD plan (i) work0))) (0 : Int) < (0 : Int)) = true],Ex.ret,stk_T0_hit x plan st dy i ) := by kernel_rfl
theorem stk_0_end (x : FBook) (plan : List Work) (st dy : Int) (i : Nat) :
  runK (MF 47) [(13,false)] [] [] (Code.at [1,1,0,1,0,0] (body Proofs.Tryd.f86)) (stk_S0 x plan st dy i) stk_K0 =
   some ([decide ((i : Int) < (List.length plan : Int)) = false],Ex.exit 0,stk_S0 x plan st dy i) := by kernel_rfl
theorem lstk_0_on (x : FBook) (n : Int) (plan : List Work) (fe k e a : Int) (i : Nat) :
  runK (MF 106) [(35,true)] [] [] (Code.at [1,1,1,1,1,1,0,1,0,0] (body Proofs.Tryd.f19)) (lstk_S0 x n plan fe k e a i) lstk_K0 =
   some ([decide ((i : Int) < (List.length plan : Int)) = true,(0 : Int) ≤ (i : Int) ∧ (i : Int) < (List.length plan : Int),0 + 1 + 1 ≤ 2,(0 : Int) ≤ Work.s (List.getD plan (i) work0) ∧ Work.s (List.getD plan (i) work0) < (List.length (FBook.feet x) : Int),0 + 1 ≤ 1,inI64 (a + List.getD (FBook.feet x) (Int.toNat (Work.s (List.getD plan (i) work0))) (0 : Int)),inI64 ((i : Int) + (1 : Int))],Ex.normal,lstk_S0 x n plan fe k e (a + x.feet.getD ((plan.getD i work0).s).toNat 0) (i + 1)) := by kernel_rfl
theorem lstk_0_end (x : FBook) (n : Int) (plan : List Work) (fe k e a : Int) (i : Nat) :
  runK (MF 106) [(35,false)] [] [] (Code.at [1,1,1,1,1,1,0,1,0,0] (body Proofs.Tryd.f19)) (lstk_S0 x n plan fe k e a i) lstk_K0 =
   some ([decide ((i : Int) < (List.length plan : Int)) = false],Ex.exit 0,lstk_S0 x n plan fe k e a i) := by kernel_rfl
theorem stk_hit (x : FBook) (plan : List Work) (st dy : Int) (i : Nat) :
  callF (MF 47) [] [] [(0,(stk_K0,(.ret,stk_T0_hit x plan st dy i)))] (body Proofs.Tryd.f86) [.tmp 4] [fbookD x,.sl false .work plan] =
   some ([LF 47 (Code.at [1,1,0,1] (body Proofs.Tryd.f86)) [(.tmp 1,.d (D.sl false E.work plan)),(.tmp 2,.d (D.ptr 2 0)),(.tmp 5,.d (D.int .i64 (FBook.stock x))),(.tmp 6,.d (D.int .i64 (0 : Int))),(.tmp 7,.d (D.int .i64 (0 : Int))),(.box 2,.bx (some (Box.mk false (cellsOf (fbookD x)))))] Ex.ret (stk_T0_hit x plan st dy i)],D.int .i64 (i : Int)) := by kernel_rfl
theorem stk_end (x : FBook) (plan : List Work) (st dy : Int) (i : Nat) :
  callF (MF 47) [] [] [(0,(stk_K0,(.normal,stk_S0 x plan st dy i)))] (body Proofs.Tryd.f86) [.tmp 4] [fbookD x,.sl false .work plan] =
   some ([LF 47 (Code.at [1,1,0,1] (body Proofs.Tryd.f86)) [(.tmp 1,.d (D.sl false E.work plan)),(.tmp 2,.d (D.ptr 2 0)),(.tmp 5,.d (D.int .i64 (FBook.stock x))),(.tmp 6,.d (D.int .i64 (0 : Int))),(.tmp 7,.d (D.int .i64 (0 : Int))),(.box 2,.bx (some (Box.mk false (cellsOf (fbookD x)))))] Ex.normal (stk_S0 x plan st dy i)],D.int .i64 (-(1 : Int))) := by kernel_rfl
theorem lstk_bad (x : FBook) (n : Int) :
  callF (MF 106) [] [(14,.bool false),(16,.bool true)] [] (body Proofs.Tryd.f19) [.tmp 4] [fbookD x,.int .i64 n] =
   some ([CF 72 [fbookD x] (D.bool false),CF 73 [] (D.bool true)],D.bool true) := by kernel_rfl
theorem lstk_none (x : FBook) (n : Int) (plan : List Work) (fe a : Int) (i : Nat) :
  callF (MF 106) [(59,false),(103,true)] [(14,.bool true),(19,.sl false .work plan),(23,.tup [.int .i64 fe,.int .i64 0]),(29,.tup [.int .i64 0,.int .i64 4]),(51,.int .i64 (-1)),(104,.bool true)] [(0,(lstk_K0,(.normal,lstk_S0 x n plan fe 0 4 a i)))] (body Proofs.Tryd.f19) [.tmp 4] [fbookD x,.int .i64 n] =
   some ([CF 72 [fbookD x] (D.bool true),CF 76 [fbookD x,D.int .i64 n] (D.sl false E.work plan),CF 84 [fbookD x,D.sl false E.work plan] (D.tup [D.int .i64 fe,D.int .i64 (0 : Int)]),CF 85 [fbookD x,D.sl false E.work plan] (D.tup [D.int .i64 (0 : Int),D.int .i64 (4 : Int)]),LF 106 (Code.at [1,1,1,1,1,1,0,1] (body Proofs.Tryd.f19)) [(.tmp 2,.d (D.ptr 2 0)),(.tmp 5,.d (D.sl false E.work plan)),(.tmp 6,.d (D.int .i64 fe)),(.tmp 7,.d (D.int .i64 (0 : Int))),(.tmp 8,.d (D.int .i64 (0 : Int))),(.tmp 9,.d (D.int .i64 (4 : Int))),(.tmp 10,.d (D.int .i64 (0 : Int))),(.tmp 11,.d (D.int .i64 (0 : Int))),(.box 2,.bx (some (Box.mk false (cellsOf (fbookD x)))))] Ex.normal (lstk_S0 x n plan fe (0 : Int) (4 : Int) a i),CF 86 [fbookD x,D.sl false E.work plan] (D.int .i64 (-(1 : Int))),(fe != a) = false,(fe != a) = false,(fe != a) = false,(fe != a) = false,(fe != a) = false,inI64 (FBook.make x * Book.days (FBook.chain x)),inI64 (FBook.stock x + FBook.make x * Book.days (FBook.chain x)),decide (a ≤ FBook.stock x + FBook.make x * Book.days (FBook.chain x)) = true,CF 73 [] (D.bool true),decide (a ≤ FBook.stock x + FBook.make x * Book.days (FBook.chain x)) = true],D.bool true) := by kernel_rfl
theorem lstk_short (x : FBook) (n : Int) (plan : List Work) (fe a : Int) (i : Nat) (k : Int) :
  callF (MF 106) [(59,false),(76,false)] [(14,.bool true),(19,.sl false .work plan),(23,.tup [.int .i64 fe,.int .i64 0]),(29,.tup [.int .i64 k,.int .i64 0]),(51,.int .i64 k),(104,.bool true)] [(0,(lstk_K0,(.normal,lstk_S0 x n plan fe k 0 a i)))] (body Proofs.Tryd.f19) [.tmp 4] [fbookD x,.int .i64 n] =
   some ([CF 72 [fbookD x] (D.bool true),CF 76 [fbookD x,D.int .i64 n] (D.sl false E.work plan),CF 84 [fbookD x,D.sl false E.work plan] (D.tup [D.int .i64 fe,D.int .i64 (0 : Int)]),CF 85 [fbookD x,D.sl false E.work plan] (D.tup [D.int .i64 k,D.int .i64 (0 : Int)]),LF 106 (Code.at [1,1,1,1,1,1,0,1] (body Proofs.Tryd.f19)) [(.tmp 2,.d (D.ptr 2 0)),(.tmp 5,.d (D.sl false E.work plan)),(.tmp 6,.d (D.int .i64 fe)),(.tmp 7,.d (D.int .i64 (0 : Int))),(.tmp 8,.d (D.int .i64 k)),(.tmp 9,.d (D.int .i64 (0 : Int))),(.tmp 10,.d (D.int .i64 (0 : Int))),(.tmp 11,.d (D.int .i64 (0 : Int))),(.box 2,.bx (some (Box.mk false (cellsOf (fbookD x)))))] Ex.normal (lstk_S0 x n plan fe k (0 : Int) a i),CF 86 [fbookD x,D.sl false E.work plan] (D.int .i64 k),(fe != a) = false,(fe != a) = false,(fe != a) = false,(fe != a) = false,(fe != a) = false,(k != k) = false,(k != k) = false,(k != k) = false,(k != k) = false,(k != k) = false,CF 73 [] (D.bool true)],D.bool true) := by kernel_rfl
end Go.Di

namespace Go.Di

/-! ### The stock,work by work -/
def stkAt (x : FBook) (plan : List Work) : Nat → Int × Int
 | 0 => (x.stock,0)
 | i + 1 => ((stkAt x plan i).1 + x.make * ((plan.getD i work0).d - (stkAt x plan i).2) - x.feet.getD (plan.getD i work0).s.toNat 0,(plan.getD i work0).d)
theorem feet_app (x : FBook) (l : List Work) (w : Work) : feetF x (l ++ [w]) = feetF x l + x.feet.getD w.s.toNat 0 := by
 unfold feetF feetLF sumF
 rw [List.map_append,List.foldl_append]
 rfl
theorem feet_succ (x : FBook) (plan : List Work) {i : Nat} (h : i < plan.length) : feetF x (plan.take (i + 1)) = feetF x (plan.take i) + x.feet.getD (plan.getD i work0).s.toNat 0 := by
 rw [take_succ_getD plan i work0 h,feet_app]
theorem stk_form (x : FBook) (plan : List Work) : ∀ i,i ≤ plan.length → (stkAt x plan i).1 = x.stock + x.make * (stkAt x plan i).2 - feetF x (plan.take i)
 | 0,_ => by simp [stkAt,feetF,feetLF,sumF]
 | i + 1,h => by
  have ih := stk_form x plan i (by omega)
  rw [feet_succ x plan (by omega)]
  show (stkAt x plan i).1 + x.make * ((plan.getD i work0).d - (stkAt x plan i).2) - _ = x.stock + x.make * (plan.getD i work0).d - _
  rw [Int.mul_sub]
  omega
/-- What a work asks of the stock. -/
def termF (x : FBook) (plan : List Work) (k : Nat) : Int := feetF x (plan.take (k + 1)) - x.make * (plan.getD k work0).d
theorem stk_neg (x : FBook) (plan : List Work) {k : Nat} (h : k < plan.length) : (stkAt x plan (k + 1)).1 < 0 ↔ x.stock < termF x plan k := by
 rw [stk_form x plan (k + 1) h]
 show x.stock + x.make * (plan.getD k work0).d - _ < 0 ↔ _
 unfold termF
 omega
theorem mx_lei {a b c : Int} : mx a b ≤ c ↔ a ≤ c ∧ b ≤ c := by unfold mx; split <;> omega
theorem needs_le (x : FBook) (plan : List Work) (c : Int) : ∀ k,needsTo x plan k ≤ c ↔ 0 ≤ c ∧ ∀ j,j < k → termF x plan j ≤ c
 | 0 => ⟨fun h => ⟨h,fun j hj => by omega⟩,fun h => h.1⟩
 | k + 1 => by
  rw [show needsTo x plan (k + 1) = mx (needsTo x plan k) (termF x plan k) from rfl,mx_lei,needs_le x plan c k]
  constructor
  ·rintro ⟨⟨h1,h2⟩,h3⟩
   refine ⟨h1,fun j hj => ?_⟩
   by_cases h : j = k
   ·subst h; exact h3
   ·exact h2 j (by omega)
  ·rintro ⟨h1,h2⟩
   exact ⟨⟨h1,fun j hj => h2 j (by omega)⟩,h2 k (by omega)⟩
theorem needs_take (x : FBook) (plan : List Work) (n : Nat) : ∀ k,k ≤ n → needsTo x (plan.take n) k = needsTo x plan k
 | 0,_ => rfl
 | k + 1,h => by
  have ih := needs_take x plan n k (by omega)
  simp only [needsTo]
  rw [ih,List.take_take,Nat.min_eq_left h]
  have : (plan.take n).getD k work0 = plan.getD k work0 := by
   rw [List.getD_eq_getElem?_getD,List.getD_eq_getElem?_getD,List.getElem?_take,if_pos (by omega)]
  rw [this]
theorem needsF_take (x : FBook) (plan : List Work) {k : Nat} (h : k < plan.length) : needsF x (plan.take (k + 1)) = needsTo x plan (k + 1) := by
 unfold needsF
 rw [List.length_take,Nat.min_eq_left (by omega)]
 exact needs_take x plan (k + 1) (k + 1) (Nat.le_refl _)
/-- The first work at which the stock falls short,and -1. -/
def stkF (x : FBook) (plan : List Work) : Int := match shortF x plan with
 | some k => (k : Int)
 | none => -1
theorem stock_pos {x : FBook} (hx : FIn x) : 0 ≤ x.stock := hx.stock.1
theorem short_none {x : FBook} {plan : List Work} (h : shortF x plan = none) : ∀ k,k < plan.length → termF x plan k ≤ x.stock := by
 rcases short_cases x plan with ⟨_,h1⟩ | ⟨k,h1,_⟩
 ·intro k hk
  have := h1 k hk
  rw [needsF_take x plan hk] at this
  exact ((needs_le x plan x.stock (k + 1)).1 (by omega)).2 k (by omega)
 ·rw [h] at h1; cases h1
theorem short_some {x : FBook} (hx : FIn x) {plan : List Work} {k : Nat} (h : shortF x plan = some k) : k < plan.length ∧ x.stock < termF x plan k ∧ ∀ j,j < k → termF x plan j ≤ x.stock := by
 rcases short_cases x plan with ⟨h1,_⟩ | ⟨k',h1,h2,h3,h4⟩
 ·rw [h] at h1; cases h1
 ·rw [h] at h1
  obtain rfl := Option.some.inj h1
  rw [needsF_take x plan h2] at h3
  have hlow : ∀ j,j < k → termF x plan j ≤ x.stock := fun j hj => by
   have := h4 j hj
   rw [needsF_take x plan (by omega)] at this
   exact ((needs_le x plan x.stock (j + 1)).1 (by omega)).2 j (by omega)
  refine ⟨h2,?_,hlow⟩
  by_cases hc : x.stock < termF x plan k
  ·exact hc
  ·have := (needs_le x plan x.stock (k + 1)).2 ⟨stock_pos hx,fun j hj => by
    by_cases hjk : j = k
    ·subst hjk; omega
    ·exact hlow j (by omega)⟩
   omega
theorem mul_in {a b A B : Int} (ha : 0 ≤ a ∧ a ≤ A) (hb : 0 ≤ b ∧ b ≤ B) : 0 ≤ a * b ∧ a * b ≤ A * B :=
 ⟨Int.mul_nonneg ha.1 hb.1,Int.mul_le_mul ha.2 hb.2 hb.1 (Int.le_trans ha.1 ha.2)⟩
theorem stk_con {x : FBook} (hx : FIn x) {plan : List Work} (hp : PlanOk x plan) : CF 86 [fbookD x,.sl false .work plan] (.int .i64 (stkF x plan)) := by
 have hb : Code.at [1,1,0,1] (body Proofs.Tryd.f86) = .block 0 (.loop (Code.at [1,1,0,1,0,0] (body Proofs.Tryd.f86))) := by kernel_rfl
 obtain ⟨S,hS⟩ : ∃ S : Nat → List (Key × Val),S = fun i => stk_S0 x plan (stkAt x plan i).1 (stkAt x plan i).2 i := ⟨_,rfl⟩
 have hl := hp.1
 have hstep : ∀ i,i < plan.length → inI64 ((plan.getD i work0).d - (stkAt x plan i).2) ∧ inI64 (x.make * ((plan.getD i work0).d - (stkAt x plan i).2)) ∧ inI64 ((stkAt x plan i).1 + x.make * ((plan.getD i work0).d - (stkAt x plan i).2)) ∧ (0 ≤ (plan.getD i work0).s ∧ (plan.getD i work0).s < (x.feet.length : Int)) ∧ inI64 (stkAt x plan (i + 1)).1 := by
  intro i hi
  have hw := hp.2 _ (mem_getD work0 hi)
  have hwd := hw.d
  have hdy : 0 ≤ (stkAt x plan i).2 ∧ (stkAt x plan i).2 ≤ 900 := by
   cases i with
   | zero => exact ⟨Int.le_refl 0,show (0 : Int) ≤ 900 by decide⟩
   | succ i => exact (hp.2 _ (mem_getD work0 (show i < plan.length by omega))).d
  have f1 := stk_form x plan i (by omega)
  have f2 := stk_form x plan (i + 1) hi
  have g1 := feet_in hx (hp.take i)
  have g2 := feet_in hx (hp.take (i + 1))
  have m1 := mul_in hx.make hdy
  have m2 := mul_in hx.make hwd
  have hm := Int.mul_sub x.make (plan.getD i work0).d (stkAt x plan i).2
  have hst := hx.stock
  have e2 : (stkAt x plan (i + 1)).2 = (plan.getD i work0).d := rfl
  rw [e2] at f2
  exact ⟨i64_of (by omega) (by omega),i64_of (by omega) (by omega),i64_of (by omega) (by omega),hw.s,i64_of (by omega) (by omega)⟩
 have hon : ∀ k,k ≤ plan.length → (∀ i,i < k → ¬ (stkAt x plan (i + 1)).1 < 0) → ∀ i,i < k → ∃ dec orc lorc ks ps L1,runK (MF 47) dec orc lorc (Code.at [1,1,0,1,0,0] (body Proofs.Tryd.f86)) (S i) ks = some (ps,.normal,L1) ∧ allP ps ∧ L1 = S (i + 1) := by
  intro k hk h i hi
  obtain ⟨i1,i2,i3,i4,i5⟩ := hstep i (by omega)
  subst hS
  exact ⟨_,_,_,_,_,_,stk_0_on x plan _ _ i,⟨lt_true (by omega),⟨by omega,by omega⟩,by omega,i1,i2,i3,⟨by omega,by omega⟩,by omega,⟨by omega,by omega⟩,by omega,i4,by omega,i5,decide_eq_false (h i hi),i64_of (by omega) (by omega),trivial⟩,rfl⟩
 have h0 : S 0 = stk_S0 x plan x.stock 0 0 := by subst hS; rfl
 unfold stkF
 cases hsh : shortF x plan with
 | none =>
  have hn := short_none hsh
  have hloop : LF 47 (Code.at [1,1,0,1] (body Proofs.Tryd.f86)) (S 0) .normal (S plan.length) :=
   LF.each hb plan.length S (hon _ (Nat.le_refl _) fun i hi hlt => by have := (stk_neg x plan hi).1 hlt; have := hn i hi; omega) (by subst hS; exact ⟨_,_,_,_,_,_,_,stk_0_end x plan _ _ _,⟨lt_false,trivial⟩,.inl ⟨rfl,rfl⟩,rfl⟩)
  rw [h0] at hloop
  subst hS
  exact contract_of_path (GF 47) stk_fn (stk_end x plan _ _ _) ⟨hloop,trivial⟩
 | some k =>
  obtain ⟨h1,h2,h3⟩ := short_some hx hsh
  obtain ⟨i1,i2,i3,i4,i5⟩ := hstep k h1
  have hneg := (stk_neg x plan h1).2 h2
  have hloop : LF 47 (Code.at [1,1,0,1] (body Proofs.Tryd.f86)) (S 0) .ret (stk_T0_hit x plan (stkAt x plan k).1 (stkAt x plan k).2 k) :=
   LF.each hb k S (hon k (by omega) fun i hi hlt => by have := (stk_neg x plan (show i < plan.length by omega)).1 hlt; have := h3 i hi; omega) (by
    subst hS
    exact ⟨_,_,_,_,_,_,_,stk_0_hit x plan _ _ k,⟨lt_true h1,⟨by omega,by omega⟩,by omega,i1,i2,i3,⟨by omega,by omega⟩,by omega,⟨by omega,by omega⟩,by omega,i4,by omega,i5,decide_eq_true hneg,trivial⟩,.inr ⟨rfl,rfl⟩,rfl⟩)
  rw [h0] at hloop
  exact contract_of_path (GF 47) stk_fn (stk_hit x plan _ _ _) ⟨hloop,trivial⟩
theorem drawn_day {x : FBook} (hV : FValid x) {plan : List Work} (hp : IsPlan x plan) : ∀ w ∈ plan,w.d ≤ x.chain.days := fun w hw => (hV.opn.1 _ (hp.1 w hw).1).2
/-- THE LAW ForgeStocked. -/
theorem lstk_con {x : FBook} (hs : FSmall x) (n : Int) : CF 19 [fbookD x,.int .i64 n] (.bool true) := by
 have hsound := fsound_con hs
 cases hv : fvalidF x with
 | false =>
  rw [hv] at hsound
  exact contract_of_path (GF 106) lstk_fn (lstk_bad x n) ⟨hsound,riv_con,trivial⟩
 | true =>
  rw [hv] at hsound
  have hV := fvalid_iff.1 hv
  have hx := hV.inn
  have hdr := drawn_con hV n
  have hb := drawn_b hV n
  have hpl := (drawn_plan hV n).ok hx
  generalize drawnF x n = plan at *
  have hl : plan.length ≤ 9223372036854775807 := by have := hpl.1; omega
  have hFe := fFeet_con hs hl
  have hSh := fShort_con hs hl
  have hst := stk_con hx hpl
  have he : fplanE x plan = 0 := by unfold fplanE; rw [hv,hb]; rfl
  unfold fFeetF at hFe
  unfold fShortF at hSh
  rw [if_pos he] at hFe hSh
  have hloop : ∀ k e,LF 106 (Code.at [1,1,1,1,1,1,0,1] (body Proofs.Tryd.f19)) (lstk_S0 x n plan (feetF x plan) k e 0 0) .normal (lstk_S0 x n plan (feetF x plan) k e (feetF x plan) plan.length) := by
   intro k e
   have h0 : lstk_S0 x n plan (feetF x plan) k e 0 0 = lstk_S0 x n plan (feetF x plan) k e (feetF x (plan.take 0)) 0 := rfl
   rw [h0]
   refine LF.each (id := 0) (c := Code.at [1,1,1,1,1,1,0,1,0,0] (body Proofs.Tryd.f19)) (by kernel_rfl) plan.length (fun i => lstk_S0 x n plan (feetF x plan) k e (feetF x (plan.take i)) i) (fun i hi => ?_) ⟨_,_,_,_,_,_,_,lstk_0_end x n plan _ k e _ _,⟨lt_false,trivial⟩,.inl ⟨rfl,rfl⟩,by rw [List.take_length]⟩
   have hw := hpl.2 _ (mem_getD work0 hi)
   have g := feet_in hx (hpl.take (i + 1))
   have hsu := feet_succ x plan hi
   have hl' := hpl.1
   refine ⟨_,_,_,_,_,_,lstk_0_on x n plan _ k e _ i,⟨lt_true hi,⟨by omega,by omega⟩,by omega,hw.s,by omega,by rw [← hsu]; exact i64_of (by omega) (by omega),i64_of (by omega) (by omega),trivial⟩,?_⟩
   rw [hsu]
  have hne : (feetF x plan != feetF x plan) = false := by simp
  have hday := hV.chain.days
  have hmk := hV.make
  have hsk := hV.stock
  have hmd := mul_in hmk (show 0 ≤ x.chain.days ∧ x.chain.days ≤ 30 by omega)
  unfold stkF at hst
  cases hsh : shortF x plan with
  | none =>
   rw [hsh] at hSh hst
   have hall : feetF x plan ≤ x.stock + x.make * x.chain.days := by
    have hn := short_none hsh
    cases hlen : plan.length with
    | zero =>
     obtain rfl : plan = [] := List.length_eq_zero_iff.1 hlen
     have : feetF x [] = 0 := rfl
     omega
    | succ k =>
     have := hn k (by omega)
     unfold termF at this
     rw [← hlen,List.take_length] at this
     have hw := (drawn_day (x := x) hV (isPlan_iff hV |>.1 hb)) _ (mem_getD work0 (show k < plan.length by omega))
     have hm2 : x.make * (plan.getD k work0).d ≤ x.make * x.chain.days := Int.mul_le_mul_of_nonneg_left hw hmk.1
     omega
   exact contract_of_path (GF 106) lstk_fn (lstk_none x n plan _ _ _) (by
    have h1 := decide_eq_true hall
    have h2 : inI64 (x.make * x.chain.days) := i64_of (by omega) (by omega)
    have h3 : inI64 (x.stock + x.make * x.chain.days) := i64_of (by omega) (by omega)
    repeat (first | exact trivial | refine ⟨by first | exact hsound | exact hdr | exact hFe | exact hSh | exact hst | exact hloop _ _ | exact hne | exact h1 | exact h2 | exact h3 | exact riv_con,?_⟩))
  | some k =>
   rw [hsh] at hSh hst
   have hkk : (((k : Int)) != (k : Int)) = false := by simp
   exact contract_of_path (GF 106) lstk_fn (lstk_short x n plan _ _ _ (k : Int)) (by
    repeat (first | exact trivial | refine ⟨by first | exact hsound | exact hdr | exact hFe | exact hSh | exact hst | exact hloop _ _ | exact hne | exact hkk | exact riv_con,?_⟩))
end Go.Di

