/- Part 24: contracts are proved. No condition. -/
import Derived.Test.YtfkmodcjddfeiaaDoorDi23
import Derived.Test.YtfkmodcjddfeiaaDoorCards
import Derived.Test.YtfkmodcjddfeiaaDoorTie
import Derived.SevenTiedAt
import Derived.Stop.Joined
import Derived.Deep.DeepWitnessRowRef
set_option linter.unusedVariables false
set_option linter.unusedSimpArgs false
set_option maxRecDepth 100000
namespace Go.Di
open Proofs
open Go.RowKit Go.ChangeShapes Go.WideShapes Go.Deep Go.ChangeAt Go.Proofs
open Go.Proofs.YtfkmodcjddfeiaaDoor
theorem laidOut : laidOutB Tryd.prog = true := by kernel_rfl
theorem own : ownKnob Tryd.prog.godebug = none := by kernel_rfl
theorem gNowhere : Tryd.prog.globalNamed "prow/chain.nowhere" = some 1 := by kernel_rfl
theorem gBegin : Tryd.prog.globalNamed "prow/forge.begin" = some 2 := by kernel_rfl
theorem gThicks : Tryd.prog.globalNamed "prow/forge.thicks" = some 3 := by kernel_rfl
theorem tBegin : (Tryd.prog.globals[2]?).map (·.type) = some 108 := by kernel_rfl
theorem tThicks : (Tryd.prog.globals[3]?).map (·.type) = some 192 := by kernel_rfl
theorem tNowhere : (Tryd.prog.globals[1]?).map (·.type) = some 179 := by kernel_rfl
section
variable {H : Type} {enc : TypeId × Value → H} {w : World} {sp : Nat → Bool} {hd : Bool}
theorem reads3 : ReadsE enc Tryd.prog w sp hd 3 .int := fun fuel cs x h => by
 obtain ⟨n,rfl⟩ := Ycs (t := 3) (by kernel_rfl) h
 exact ⟨n,rfl,rfl⟩
noncomputable def fld (t i : Nat) : Field := match Tryd.prog.underlying t with
 | some (.struct fs) => fs.getD i default
 | _ => default
theorem reads51 (fuel : Nat) (cs : List Value) (x : DataW H × List MemPlace) (h : DataW.trod enc Tryd.prog w 0 sp hd fuel 51 cs = some x) : ∃ a b,cs = [.int .i64 a,.int .i64 b] :=
 reads_two (t := 51) (f0 := fld 51 0) (f1 := fld 51 1) (by kernel_rfl) (by kernel_rfl) (by kernel_rfl) (by kernel_rfl) (by kernel_rfl) (by kernel_rfl) (by kernel_rfl) (by kernel_rfl) h
theorem reads76 : ReadsE enc Tryd.prog w sp hd 76 .sec := fun fuel cs x h => by
 obtain ⟨a,b,c,d,rfl⟩ := reads_sec (t := 76) (f0 := fld 76 0) (f1 := fld 76 1) (by kernel_rfl) (by kernel_rfl) (by kernel_rfl) (by kernel_rfl) (by kernel_rfl) (by kernel_rfl) (by rw [show (fld 76 0).type = 51 from by kernel_rfl]; exact reads51) (by rw [show (fld 76 1).type = 51 from by kernel_rfl]; exact reads51) h
 exact ⟨(⟨⟨a,b⟩,⟨c,d⟩⟩ : Sec),rfl,rfl⟩
theorem reads34 : ReadsE enc Tryd.prog w sp hd 34 .sv := fun fuel cs x h => by
 obtain ⟨a,b,c,d,rfl⟩ := reads_four (t := 34) (f0 := fld 34 0) (f1 := fld 34 1) (f2 := fld 34 2) (f3 := fld 34 3) (by kernel_rfl) (by kernel_rfl) (by kernel_rfl) (by kernel_rfl) (by kernel_rfl) (by kernel_rfl) (by kernel_rfl) (by kernel_rfl) (by kernel_rfl) (by kernel_rfl) (by kernel_rfl) (by kernel_rfl) (by kernel_rfl) (by kernel_rfl) h
 exact ⟨(⟨a,b,c,d⟩ : Sv),rfl,rfl⟩
end
theorem trod_arr2 {H : Type} {enc : TypeId × Value → H} {P : Program} {w : World} {sp : Nat → Bool} {hd : Bool} {t et : TypeId} (ht : P.underlying t = some (.array 2 et)) (hc : P.cellsOf t = 2) (ce : P.cellsOf et = 1) {fuel : Nat} {cs : List Value} {d0 d1 : DataW H} {ps : List MemPlace}
  (h : DataW.trod enc P w 0 sp hd fuel t cs = some (.agg [d0,d1],ps)) : ∃ v0 v1 k q0 q1,cs = [v0,v1] ∧ DataW.trod enc P w 0 sp hd k et [v0] = some (d0,q0) ∧ DataW.trod enc P w 0 sp hd k et [v1] = some (d1,q1) := by
 cases fuel with
 | zero => simp [DataW.trod] at h
 | succ k =>
  unfold DataW.trod at h
  rw [ht] at h
  simp only [ce,Nat.mul_one] at h
  split at h
  ·rename_i hl
   rw [hc] at hl
   match cs,hl with
   | [v0,v1],_ =>
    have hr : List.range 2 = [0,1] := rfl
    rw [hr] at h
    simp only [List.mapM_cons,List.mapM_nil] at h
    cases h0 : DataW.trod enc P w 0 sp hd k et (List.take 1 (List.drop 0 [v0,v1])) with
    | none => rw [h0] at h; cases h
    | some x0 =>
     rw [h0] at h
     cases h1 : DataW.trod enc P w 0 sp hd k et (List.take 1 (List.drop 1 [v0,v1])) with
     | none => rw [h1] at h; cases h
     | some x1 =>
      rw [h1] at h
      have h' : (DataW.agg [x0.1,x1.1],x0.2 ++ (x1.2 ++ [])) = (DataW.agg [d0,d1],ps) := Option.some.inj h
      simp only [Prod.mk.injEq,DataW.agg.injEq,List.cons.injEq,and_true] at h'
      obtain ⟨⟨rfl,rfl⟩,_⟩ := h'
      exact ⟨v0,v1,k,x0.2,x1.2,rfl,h0,h1⟩
  ·cases h
theorem trod_pair {H : Type} {enc : TypeId × Value → H} {w : World} {sp : Nat → Bool} {hd : Bool} {fuel : Nat} {cs : List Value} {a b : Int} {ps : List MemPlace}
  (h : DataW.trod enc Tryd.prog w 0 sp hd fuel 179 cs = some (.agg [.lit (.int .i64 a),.lit (.int .i64 b)],ps)) : cs = [.int .i64 a,.int .i64 b] := by
 obtain ⟨xs,k,_,hx,hl,hxl,hf⟩ := DataW.trod_struct (t := 179) (fs := #[fld 179 0,fld 179 1]) (by kernel_rfl) h
 have hc : Tryd.prog.cellsOf 179 = 2 := by kernel_rfl
 rw [hc] at hl
 have c0 : Tryd.prog.cellsOf (fld 179 0).type = 1 := by kernel_rfl
 have c1 : Tryd.prog.cellsOf (fld 179 1).type = 1 := by kernel_rfl
 have o0 : (fld 179 0).offset = 0 := by kernel_rfl
 have o1 : (fld 179 1).offset = 1 := by kernel_rfl
 match xs,hxl,cs,hl with
 | [y0,y1],_,[v0,v1],_ =>
  have g0 := hf 0 (fld 179 0) rfl
  have g1 := hf 1 (fld 179 1) rfl
  simp [o0,o1,c0,c1] at g0 g1
  obtain ⟨n0,e0,e0',_⟩ := DataW.trod_int (k := .i64) (by kernel_rfl) g0
  obtain ⟨n1,e1,e1',_⟩ := DataW.trod_int (k := .i64) (by kernel_rfl) g1
  simp only [List.cons.injEq,and_true] at e0 e1
  simp only [List.map_cons,List.map_nil,Prod.mk.injEq,DataW.agg.injEq,List.cons.injEq,and_true] at hx
  obtain ⟨⟨q0,q1⟩,_⟩ := hx
  rw [e0'] at q0
  rw [e1'] at q1
  simp only [DataW.lit.injEq,Lit.int.injEq,true_and] at q0 q1
  subst q0 q1
  rw [e0,e1]
theorem trod_pairB {H : Type} {enc : TypeId × Value → H} {w : World} {sp : Nat → Bool} {hd : Bool} {fuel : Nat} {cs : List Value} {a b : Int} {ps : List MemPlace}
  (h : DataW.trod enc Tryd.prog w 0 sp hd fuel 108 cs = some (.agg [.lit (.int .i64 a),.lit (.int .i64 b)],ps)) : cs = [.int .i64 a,.int .i64 b] := by
 obtain ⟨xs,k,_,hx,hl,hxl,hf⟩ := DataW.trod_struct (t := 108) (fs := #[fld 108 0,fld 108 1]) (by kernel_rfl) h
 have hc : Tryd.prog.cellsOf 108 = 2 := by kernel_rfl
 rw [hc] at hl
 have c0 : Tryd.prog.cellsOf (fld 108 0).type = 1 := by kernel_rfl
 have c1 : Tryd.prog.cellsOf (fld 108 1).type = 1 := by kernel_rfl
 have o0 : (fld 108 0).offset = 0 := by kernel_rfl
 have o1 : (fld 108 1).offset = 1 := by kernel_rfl
 match xs,hxl,cs,hl with
 | [y0,y1],_,[v0,v1],_ =>
  have g0 := hf 0 (fld 108 0) rfl
  have g1 := hf 1 (fld 108 1) rfl
  simp [o0,o1,c0,c1] at g0 g1
  obtain ⟨n0,e0,e0',_⟩ := DataW.trod_int (k := .i64) (by kernel_rfl) g0
  obtain ⟨n1,e1,e1',_⟩ := DataW.trod_int (k := .i64) (by kernel_rfl) g1
  simp only [List.cons.injEq,and_true] at e0 e1
  simp only [List.map_cons,List.map_nil,Prod.mk.injEq,DataW.agg.injEq,List.cons.injEq,and_true] at hx
  obtain ⟨⟨q0,q1⟩,_⟩ := hx
  rw [e0'] at q0
  rw [e1'] at q1
  simp only [DataW.lit.injEq,Lit.int.injEq,true_and] at q0 q1
  subst q0 q1
  rw [e0,e1]
theorem laid_globF {W : World} (h : laidMetH Tryd.prog [("prow/chain.nowhere",YtfkmodcjddfeiaaDoor.Rows.laid_prow_chain_nowhere),("prow/forge.begin",YtfkmodcjddfeiaaDoor.Rows.laid_prow_forge_begin),("prow/forge.thicks",YtfkmodcjddfeiaaDoor.Rows.laid_prow_forge_thicks)] W) :
  ∀ g cs,Ybx g = some cs → Rel (Old W) W (.ref cs 0) (.pointer (some ⟨g,0,none⟩)) := by
 intro g cs hg
 match g,hg with
 | 1,hg =>
  cases hg
  obtain ⟨⟨ps,⟨g',t,vs,fuel,p,q,hg',ht,hv,hd,_,_⟩,_⟩,_⟩ := h
  obtain rfl := Option.some.inj (gNowhere.symm.trans hg')
  obtain rfl := Option.some.inj (tNowhere.symm.trans ht)
  have e := trod_pair hd
  refine ⟨1,0,rfl,fun j d hj => ?_⟩
  have hc := World.var?_cell hg' hv
  have hs : vs = #[.int .i64 (-1),.int .i64 (-1)] := by rw [← Array.toArray_toList (xs := vs),e]
  match j,hj with
  | 0,hj =>
   cases hj
   have h0 := hc 0
   rw [hs] at h0
   exact ⟨_,rfl,Yhg h0,h0⟩
  | 1,hj =>
   cases hj
   have h0 := hc 1
   rw [hs] at h0
   exact ⟨_,rfl,Yhg h0,h0⟩
 | 2,hg =>
  cases hg
  obtain ⟨⟨ps,⟨_,_,_,_,_,_,_,_,_,_,hrest,_⟩,_⟩,_⟩ := h
  obtain ⟨g',t,vs,fuel,p,q,hg',ht,hv,hd,_,_⟩ := hrest
  obtain rfl := Option.some.inj (gBegin.symm.trans hg')
  obtain rfl := Option.some.inj (tBegin.symm.trans ht)
  have e := trod_pairB hd
  refine ⟨2,0,rfl,fun j d hj => ?_⟩
  have hc := World.var?_cell hg' hv
  have hs : vs = #[.int .i64 (-1),.int .i64 0] := by rw [← Array.toArray_toList (xs := vs),e]
  match j,hj with
  | 0,hj =>
   cases hj
   have h0 := hc 0
   rw [hs] at h0
   exact ⟨_,rfl,Yhg h0,h0⟩
  | 1,hj =>
   cases hj
   have h0 := hc 1
   rw [hs] at h0
   exact ⟨_,rfl,Yhg h0,h0⟩
 | 3,hg =>
  cases hg
  obtain ⟨g',t,vs,fuel,p,hg',ht,hv,hd⟩ := h.funcs (n := "prow/forge.thicks") (List.mem_cons_of_mem _ (List.mem_cons_of_mem _ (List.mem_cons_self ..)))
  obtain rfl := Option.some.inj (gThicks.symm.trans hg')
  obtain rfl := Option.some.inj (tThicks.symm.trans ht)
  obtain ⟨v0,v1,k,q0,q1,e,h0,h1⟩ := trod_arr2 (t := 192) (et := 191) (by kernel_rfl) (by kernel_rfl) (by kernel_rfl) hd
  have hf : Tryd.prog.underlying 191 = some (.func #[151,3,3,3] #[3] false) := by kernel_rfl
  obtain rfl := func_of_trod (f0 := 226) hf (by kernel_rfl) h0
  obtain rfl := func_of_trod (f0 := 227) hf (by kernel_rfl) h1
  refine ⟨3,0,rfl,fun j d hj => ?_⟩
  have hc := World.var?_cell hg' hv
  have hs : vs = #[.func (.func 226) #[] #[],.func (.func 227) #[] #[]] := by rw [← Array.toArray_toList (xs := vs),e]
  match j,hj with
  | 0,hj =>
   cases hj
   have h0 := hc 0
   rw [hs] at h0
   exact ⟨_,⟨#[],#[],rfl,trivial,trivial⟩,Yhg h0,h0⟩
  | 1,hj =>
   cases hj
   have h0 := hc 1
   rw [hs] at h0
   exact ⟨_,⟨#[],#[],rfl,trivial,trivial⟩,Yhg h0,h0⟩
def lay1 : Obj → Obj
 | .cells _ t frozen => .cells #[.int .i64 (-1),.int .i64 (-1)] t frozen
 | o => o
def lay2 : Obj → Obj
 | .cells _ t frozen => .cells #[.int .i64 (-1),.int .i64 0] t frozen
 | o => o
def lay3 : Obj → Obj
 | .cells _ t frozen => .cells #[.func (.func 226) #[] #[],.func (.func 227) #[] #[]] t frozen
 | o => o
noncomputable def laidWorld (os : Os) : World :=
 { World.holding Tryd.prog os ⟨#[],#[],[]⟩ with heap := (((World.holding Tryd.prog os ⟨#[],#[],[]⟩).heap.modify 1 lay1).modify 2 lay2).modify 3 lay3 }
def noFBook : Value := .agg #[.slice none 0 0,.slice none 0 0,.slice none 0 0,.int .i64 0,.int .i64 0,.slice none 0 0,.int .i64 0,.slice none 0 0,.int .i64 0,.int .i64 0]
theorem laid_met (os : Os) (args : Array Value) : laidMetH Tryd.prog [("prow/chain.nowhere",Rows.laid_prow_chain_nowhere),("prow/forge.begin",Rows.laid_prow_forge_begin),("prow/forge.thicks",Rows.laid_prow_forge_thicks)] ((laidWorld os).forCall (fun _ _ => 0) ⟨#[],args,[]⟩).memory :=
 laidMetH_of_parts3 (fuel := 8) (laidMet_of_run' 8 (by kernel_rfl) (by kernel_rfl)) (by kernel_rfl) (by kernel_rfl)
theorem calls_lawF {f : FuncId} {W : World} {args : Array Value} {ds : List D} (hc : Contract Tryd.prog Ybx f ds (.bool true)) (hg : ∀ g cs,Ybx g = some cs → Rel (Old W) W (.ref cs 0) (.pointer (some ⟨g,0,none⟩))) (ha : All2 (Rel (Old W) W) ds args.toList) :
  Calls Tryd.prog f args W fun e W' => e = .returned (.bool true) ∧ Below W.heap.size W W' := by
 have := hc.calls W (Old W) args.toList (fun b o h => h) hg ha
 rw [Array.toArray_toList] at this
 exact this.mono fun e W' ⟨v,he,hb,R',_,_,hr⟩ => ⟨by rw [he,show v = .bool true from hr],hb⟩
theorem under4 : Tryd.prog.underlying 4 = some .bool := by kernel_rfl
section
variable {H : Type} {enc : TypeId × Value → H} {w : World} {sp : Nat → Bool} {hd : Bool}
theorem reads26 (fuel : Nat) (cs : List Value) (x : DataW H × List MemPlace) (h : DataW.trod enc Tryd.prog w 0 sp hd fuel 26 cs = some x) : ∃ b : Book,All2 (RelC (Old w) w) [.sl false .sec b.secs,.sl false .int b.turns,.sl false .sv b.svs,.int .i64 b.rule,.int .i64 b.days] cs ∧ b.secs.length ≤ maxLen ∧ b.turns.length ≤ maxLen ∧ b.svs.length ≤ maxLen := by
 have hu : Tryd.prog.underlying 26 = some (.struct #[fld 26 0,fld 26 1,fld 26 2,fld 26 3,fld 26 4]) := by kernel_rfl
 exact reads_book (t := 26) hu (by kernel_rfl) (by kernel_rfl) (by kernel_rfl) (by kernel_rfl) (by kernel_rfl) (by kernel_rfl) (by kernel_rfl) (by kernel_rfl) (by kernel_rfl) (by kernel_rfl) (by kernel_rfl) (e0 := 76) (e1 := 3) (e2 := 34) (by kernel_rfl) (by kernel_rfl) (by kernel_rfl) (by kernel_rfl) (by kernel_rfl) (by kernel_rfl) (by kernel_rfl) (by kernel_rfl) reads76 reads3 reads34 h
theorem six {α : Type} {l : List α} (h : l.length = 6) : ∃ a b c d e f,l = [a,b,c,d,e,f] := by
 match l,h with
 | [a,b,c,d,e,f],_ => exact ⟨a,b,c,d,e,f,rfl⟩
theorem five {α : Type} {l : List α} (h : l.length = 10) : ∃ a b c d e f g i j k,l = [a,b,c,d,e,f,g,i,j,k] := by
 match l,h with
 | [a,b,c,d,e,f,g,i,j,k],_ => exact ⟨a,b,c,d,e,f,g,i,j,k,rfl⟩
theorem arg84 {r : Reach} {b0 : Nat} {v : Value} {d : DataW H} {ps : List MemPlace} (hval : Value.okWide Tryd.prog w r b0 84 v) (h : DataW.Trod enc Tryd.prog w 0 sp hd 84 v d ps) : ∃ x : FBook,FSmall x ∧ Rel (Old w) w (Yab x) v := by
 have hu : Tryd.prog.underlying 84 = some (.struct #[fld 84 0,fld 84 1,fld 84 2,fld 84 3,fld 84 4,fld 84 5]) := by kernel_rfl
 unfold Value.okWide at hval
 rw [hu] at hval
 obtain ⟨cs,rfl,_⟩ := hval
 obtain ⟨fuel,h⟩ := h
 obtain ⟨xs,k,_,_,hl,hx,hf⟩ := DataW.trod_struct hu h
 have hc : Tryd.prog.cellsOf 84 = 10 := by kernel_rfl
 rw [hc] at hl
 obtain ⟨u0,u1,u2,u3,u4,u5,u6,u7,u8,u9,hcs⟩ := five hl
 obtain ⟨y0,y1,y2,y3,y4,y5,hxs⟩ := six hx
 subst hxs
 have g0 := hf 0 (fld 84 0) rfl
 have g1 := hf 1 (fld 84 1) rfl
 have g2 := hf 2 (fld 84 2) rfl
 have g3 := hf 3 (fld 84 3) rfl
 have g4 := hf 4 (fld 84 4) rfl
 have g5 := hf 5 (fld 84 5) rfl
 have hfs : ∀ i,i < 6 → (fld 84 i).offset = [0,5,6,7,8,9].getD i 0 ∧ Tryd.prog.cellsOf (fld 84 i).type = [5,1,1,1,1,1].getD i 0 ∧ (fld 84 i).type = [26,23,3,23,3,3].getD i 0 := by
  intro i hi
  have h6 : i = 0 ∨ i = 1 ∨ i = 2 ∨ i = 3 ∨ i = 4 ∨ i = 5 := by omega
  rcases h6 with rfl | rfl | rfl | rfl | rfl | rfl <;> exact ⟨by kernel_rfl,by kernel_rfl,by kernel_rfl⟩
 obtain ⟨a0,b0,c0⟩ := hfs 0 (by decide)
 obtain ⟨a1,b1,c1⟩ := hfs 1 (by decide)
 obtain ⟨a2,b2,c2⟩ := hfs 2 (by decide)
 obtain ⟨a3,b3,c3⟩ := hfs 3 (by decide)
 obtain ⟨a4,b4,c4⟩ := hfs 4 (by decide)
 obtain ⟨a5,b5,c5⟩ := hfs 5 (by decide)
 rw [a0,b0,c0,hcs] at g0
 rw [a1,b1,c1,hcs] at g1
 rw [a2,b2,c2,hcs] at g2
 rw [a3,b3,c3,hcs] at g3
 rw [a4,b4,c4,hcs] at g4
 rw [a5,b5,c5,hcs] at g5
 simp at g0 g1 g2 g3 g4 g5
 obtain ⟨b,h1,h2,h3,h4⟩ := reads26 _ _ _ g0
 have t23 : Tryd.prog.underlying 23 = some (.slice 3) := by kernel_rfl
 have t3 : Tryd.prog.underlying 3 = some (.int .i64) := by kernel_rfl
 obtain ⟨w1,fe,e1,s1,l1⟩ := Yd4 (e := .int) t23 (by kernel_rfl) reads3 g1
 obtain ⟨nw,e2⟩ := Ycs t3 g2
 obtain ⟨w3,op,e3,s3,l3⟩ := Yd4 (e := .int) t23 (by kernel_rfl) reads3 g3
 obtain ⟨st,e4⟩ := Ycs t3 g4
 obtain ⟨mk,e5⟩ := Ycs t3 g5
 simp only [List.cons.injEq,and_true] at e1 e2 e3 e4 e5
 have hm : maxLen ≤ 9223372036854775807 := by decide
 refine ⟨⟨b,fe,nw,op,st,mk⟩,⟨⟨Nat.le_trans h2 hm,Nat.le_trans h3 hm,Nat.le_trans h4 hm⟩,Nat.le_trans l1 hm,Nat.le_trans l3 hm⟩,cs,rfl,?_⟩
 have hcs' : cs.toList = [u0,u1,u2,u3,u4,u5,u6,u7,u8,u9] := hcs
 rw [hcs']
 obtain ⟨p0,p1,p2,p3,p4,_⟩ := h1
 rw [e1,e2,e3,e4,e5]
 exact ⟨p0,p1,p2,p3,p4,s1,rfl,s3,rfl,rfl,trivial⟩
theorem int_of_ok {t : TypeId} {r : Reach} {b0 : Nat} {v : Value} (hu : Tryd.prog.underlying t = some (.int .i64)) (h : Value.okWide Tryd.prog w r b0 t v) : ∃ n,v = .int .i64 n := by
 unfold Value.okWide at h
 rw [hu] at h
 simp only at h
 unfold Cell.okWide at h
 rw [hu] at h
 unfold Cell.ok at h
 rw [hu] at h
 cases v <;> simp only at h <;> first | exact h.elim | (obtain ⟨rfl,_⟩ := h; exact ⟨_,rfl⟩)
theorem arg3 {r : Reach} {b0 : Nat} {v : Value} {d : DataW H} {ps : List MemPlace} (hval : Value.okWide Tryd.prog w r b0 3 v) (h : DataW.Trod enc Tryd.prog w 0 sp hd 3 v d ps) : ∃ n : Int,Rel (Old w) w (.int .i64 n) v := by
 obtain ⟨n,rfl⟩ := int_of_ok (by kernel_rfl) hval
 exact ⟨n,rfl⟩
end
end Go.Di

namespace Go.Di
open Proofs
noncomputable abbrev k_82 (p : List Nat) : Code := Code.at p (body Proofs.Tryd.f82)
theorem wrkA_fn : FnOk PRG (MF 30) 82 (body Tryd.f82) [.tmp 4] := by refine ⟨Tryd.f82,?_,?_,?_,?_,?_⟩ <;> kernel_rfl
def Yf4 (plan : List Work) (s : Int) (i : Nat) (y : Int) (r : List Int) : List (Key × Val) :=
 [(.tmp 0,.d (D.sl false E.work plan)),
  (.tmp 1,.d (D.I s)),
  (.tmp 5,.d (.own 28 (y :: r).length)),
  (.tmp 6,.d (.I i)),
  (.obj 28,.ob (some ⟨.int,y :: r⟩))]
def wrkB_K0 : List Key := [.tmp 0,.tmp 1,.tmp 5,.tmp 6,.obj 28]
def Yf5 (plan : List Work) (s : Int) (i : Nat) : List (Key × Val) :=
 [(.tmp 0,.d (D.sl false E.work plan)),
  (.tmp 1,.d (D.I s)),
  (.tmp 5,.d (.sl true .int [])),
  (.tmp 6,.d (.I i)),
  (.obj 28,.ob none)]
def wrkA_K0 : List Key := [.tmp 0,.tmp 1,.tmp 5,.tmp 6,.obj 28]
theorem wrkB_0_yes (plan : List Work) (s : Int) (i : Nat) (y : Int) (r : List Int) :
  runK (MF 30) [(11,true),(20,true)] [] [] (k_82 [1,1,0,1,0,0]) (Yf4 plan s i y r) wrkB_K0 =
   let Z0 := List.getD plan (i) work0; some ([decide ((i : Int) < (plan.length : Int)) = true,(0 : Int) ≤ (i : Int) ∧ (i : Int) < (plan.length : Int),0 + 1 + 1 ≤ 2,(Work.s Z0 == s) = true,(0 : Int) ≤ (i : Int) ∧ (i : Int) < (plan.length : Int),0 + 0 + 1 ≤ 2,(y :: r).length = List.length ((y :: r)),List.length ((y :: r) ++ [Work.d Z0]) * (8 + 1) ≤ 140737488355328,Yac ((i : Int) + (1 : Int))],Ex.normal,Yf4 plan s (i + 1) y (r ++ [(plan.getD i work0).d])) := by kernel_rfl
theorem wrkB_0_no (plan : List Work) (s : Int) (i : Nat) (y : Int) (r : List Int) :
  runK (MF 30) [(11,true),(20,false)] [] [] (k_82 [1,1,0,1,0,0]) (Yf4 plan s i y r) wrkB_K0 =
   some ([decide ((i : Int) < (plan.length : Int)) = true,(0 : Int) ≤ (i : Int) ∧ (i : Int) < (plan.length : Int),0 + 1 + 1 ≤ 2,(Work.s (List.getD plan (i) work0) == s) = false,Yac ((i : Int) + (1 : Int))],Ex.normal,Yf4 plan s (i + 1) y r) := by kernel_rfl
theorem wrkB_0_end (plan : List Work) (s : Int) (i : Nat) (y : Int) (r : List Int) :
  runK (MF 30) [(11,false)] [] [] (k_82 [1,1,0,1,0,0]) (Yf4 plan s i y r) wrkB_K0 =
   some ([decide ((i : Int) < (plan.length : Int)) = false],Ex.exit 0,Yf4 plan s i y r) := by kernel_rfl
theorem wrkA_0_yes (plan : List Work) (s : Int) (i : Nat) :
  runK (MF 30) [(11,true),(20,true)] [] [] (k_82 [1,1,0,1,0,0]) (Yf5 plan s i) wrkB_K0 =
   some ([decide ((i : Int) < (plan.length : Int)) = true,(0 : Int) ≤ (i : Int) ∧ (i : Int) < (plan.length : Int),0 + 1 + 1 ≤ 2,(Work.s (List.getD plan (i) work0) == s) = true,(0 : Int) ≤ (i : Int) ∧ (i : Int) < (plan.length : Int),0 + 0 + 1 ≤ 2,1 * (8 + 1) ≤ 140737488355328,Yac ((i : Int) + (1 : Int))],Ex.normal,Yf4 plan s (i + 1) ((plan.getD i work0).d) []) := by kernel_rfl
theorem wrkA_0_no (plan : List Work) (s : Int) (i : Nat) :
  runK (MF 30) [(11,true),(20,false)] [] [] (k_82 [1,1,0,1,0,0]) (Yf5 plan s i) wrkA_K0 =
   some ([decide ((i : Int) < (plan.length : Int)) = true,(0 : Int) ≤ (i : Int) ∧ (i : Int) < (plan.length : Int),0 + 1 + 1 ≤ 2,(Work.s (List.getD plan (i) work0) == s) = false,Yac ((i : Int) + (1 : Int))],Ex.normal,Yf5 plan s (i + 1)) := by kernel_rfl
theorem wrkA_0_end (plan : List Work) (s : Int) (i : Nat) :
  runK (MF 30) [(11,false)] [] [] (k_82 [1,1,0,1,0,0]) (Yf5 plan s i) wrkA_K0 =
   some ([decide ((i : Int) < (plan.length : Int)) = false],Ex.exit 0,Yf5 plan s i) := by kernel_rfl
theorem wrkA_none (plan : List Work) (s : Int) (i : Nat) :
  Yag (MF 30) [] [] [(0,(wrkA_K0,(.normal,Yf5 plan s i)))] (body Tryd.f82) [.tmp 4] [.sl false .work plan,.I s] =
   some ([LF 30 (k_82 [1,1,0,1]) (Yf5 plan s 0) Ex.normal (Yf5 plan s i)],D.sl true E.int []) := by kernel_rfl
theorem wrkA_some (plan : List Work) (s : Int) (i : Nat) (y : Int) (r : List Int) :
  Yag (MF 30) [] [] [(0,(wrkA_K0,(.normal,Yf4 plan s i y r)))] (body Tryd.f82) [.tmp 4] [.sl false .work plan,.I s] =
   some ([LF 30 (k_82 [1,1,0,1]) (Yf5 plan s 0) Ex.normal (Yf4 plan s i y r),(y :: r).length = List.length ((y :: r))],D.sl false E.int ((y :: r))) := by kernel_rfl
end Go.Di

namespace Go.Di
open Proofs
def wrkTo (plan : List Work) (s : Int) : Nat → List Int
 | 0 => []
 | i + 1 => if ((plan.getD i work0).s == s) = true then wrkTo plan s i ++ [(plan.getD i work0).d] else wrkTo plan s i
def wrkF (plan : List Work) (s : Int) : List Int := wrkTo plan s plan.length
def wrkS (plan : List Work) (s : Int) (i : Nat) : List Int → List (Key × Val)
 | [] => Yf5 plan s i
 | y :: r => Yf4 plan s i y r
theorem wrkTo_len (plan : List Work) (s : Int) : ∀ i,(wrkTo plan s i).length ≤ i
 | 0 => Nat.le_refl 0
 | i + 1 => by
  have := wrkTo_len plan s i
  simp only [wrkTo]
  split
  ·rw [List.length_append,List.length_singleton]; omega
  ·omega
theorem wrk_con {plan : List Work} (hl : plan.length ≤ 1000) (s : Int) : CF 82 [.sl false .work plan,.int .i64 s] (.sl false .int (wrkF plan s)) := by
 have hloop : LF 30 (k_82 [1,1,0,1]) (wrkS plan s 0 (wrkTo plan s 0)) .normal (wrkS plan s plan.length (wrkF plan s)) := by
  refine LF.each (id := 0) (c := k_82 [1,1,0,1,0,0]) (by kernel_rfl) plan.length (fun i => wrkS plan s i (wrkTo plan s i)) (fun i hi => ?_) ?_
  ·have hlen := wrkTo_len plan s i
   have e : wrkTo plan s (i + 1) = if ((plan.getD i work0).s == s) = true then wrkTo plan s i ++ [(plan.getD i work0).d] else wrkTo plan s i := rfl
   simp only [e]
   cases hb : ((plan.getD i work0).s == s) with
   | true =>
    rw [if_pos rfl]
    cases hw : wrkTo plan s i with
    | nil => exact ⟨_,_,_,_,_,_,wrkA_0_yes plan s i,⟨Yak hi,⟨by omega,by omega⟩,by omega,hb,⟨by omega,by omega⟩,by omega,by omega,Yah (by omega) (by omega),trivial⟩,rfl⟩
    | cons y r =>
     rw [hw] at hlen
     exact ⟨_,_,_,_,_,_,wrkB_0_yes plan s i y r,⟨Yak hi,⟨by omega,by omega⟩,by omega,hb,⟨by omega,by omega⟩,by omega,rfl,by rw [List.length_append,List.length_singleton]; omega,Yah (by omega) (by omega),trivial⟩,rfl⟩
   | false =>
    rw [if_neg (by decide)]
    cases hw : wrkTo plan s i with
    | nil => exact ⟨_,_,_,_,_,_,wrkA_0_no plan s i,⟨Yak hi,⟨by omega,by omega⟩,by omega,hb,Yah (by omega) (by omega),trivial⟩,rfl⟩
    | cons y r => exact ⟨_,_,_,_,_,_,wrkB_0_no plan s i y r,⟨Yak hi,⟨by omega,by omega⟩,by omega,hb,Yah (by omega) (by omega),trivial⟩,rfl⟩
  ·show ∃ dec orc lorc ks ps e1 L1,_
   cases h : wrkTo plan s plan.length with
   | nil => exact ⟨_,_,_,_,_,_,_,wrkA_0_end plan s _,⟨Yas,trivial⟩,.inl ⟨rfl,rfl⟩,by unfold wrkF; rw [h]; rfl⟩
   | cons y r => exact ⟨_,_,_,_,_,_,_,wrkB_0_end plan s _ y r,⟨Yas,trivial⟩,.inl ⟨rfl,rfl⟩,by unfold wrkF; rw [h]; rfl⟩
 cases h : wrkF plan s with
 | nil =>
  rw [h] at hloop
  exact Contract.weaken (Yaa (GF 30) wrkA_fn (wrkA_none plan s _) ⟨hloop,trivial⟩)
 | cons y r =>
  rw [h] at hloop
  exact Yaa (GF 30) wrkA_fn (wrkA_some plan s _ y r) ⟨hloop,rfl,trivial⟩
theorem lastF_in (s d : Int) : ∀ (plan : List Work) (p : Int × Int),plan.Pairwise wlt → (∃ w ∈ plan,w.s = s ∧ w.d = d) → (plan.foldl (Yav s d) p).2 = d
 | [],_,_,⟨w,hw,_⟩ => by cases hw
 | w :: l,p,hp,h => by
  obtain ⟨hw,hl⟩ := List.pairwise_cons.1 hp
  by_cases hx : ∃ w ∈ l,w.s = s ∧ w.d = d
  ·exact lastF_in s d l _ hl hx
  ·obtain ⟨v,hv,hvs,hvd⟩ := h
   rcases List.mem_cons.1 hv with rfl | hv
   ·have hno : ∀ (l : List Work) (q : Int × Int),(∀ u ∈ l,¬ (u.s = s ∧ u.d ≤ d)) → l.foldl (Yav s d) q = q := by
     intro l
     induction l with
     | nil => exact fun _ _ => rfl
     | cons u l ih =>
      intro q hq
      rw [List.foldl_cons]
      have : Yav s d q u = q := by unfold Yav; rw [if_neg (hq u (by simp))]
      rw [this]
      exact ih q fun z hz => hq z (by simp [hz])
    rw [List.foldl_cons,hno l _ (fun u hu hc => ?_)]
    ·unfold Yav
     rw [if_pos ⟨hvs,by omega⟩]
     exact hvd
    ·have := hw u hu
     unfold wlt at this
     exact hx ⟨u,hu,hc.1,by omega⟩
   ·exact absurd ⟨v,hv,hvs,hvd⟩ hx
theorem lastF_led {plan : List Work} {s d : Int} (hd : 0 ≤ d) : (Yc6 plan s d).2 ≤ d := by
 have key : ∀ (l : List Work) (p : Int × Int),p.2 ≤ d → (l.foldl (Yav s d) p).2 ≤ d := by
  intro l
  induction l with
  | nil => exact fun _ h => h
  | cons w l ih =>
   intro p hp
   rw [List.foldl_cons]
   refine ih _ ?_
   unfold Yav
   split
   ·rename_i h; exact h.2
   ·exact hp
 exact key plan _ hd
end Go.Di

namespace Go.Di
open Proofs
theorem knowWr_at {x : FBook} {p : Int} (hp : 0 ≤ p ∧ p < x.feet.length) : (Yaw x).getD p.toNat 0 = (Yff (Ycr p) (Yam x.chain [])).hi := by
 unfold Yaw
 rw [List.getD_eq_getElem?_getD,List.getElem?_map,List.getElem?_range (by omega)]
 show wearHi x.chain (p.toNat : Int) = _
 unfold wearHi
 rw [Int.toNat_of_nonneg hp.1]
end Go.Di

namespace Go.Di
open Proofs
theorem knowTh_at {x : FBook} {s d : Int} (hs : 0 ≤ s ∧ s < x.feet.length) (hd : 0 ≤ d ∧ d ≤ x.chain.days) : oldF (Yax x) s d = Ygx x.chain s d := by
 unfold oldF Yax
 have e : ((List.range x.feet.length).map fun s => (List.range (x.chain.days + 1).toNat).map fun d => Ygx x.chain (s : Nat) (d : Nat)).getD s.toNat [] = (List.range (x.chain.days + 1).toNat).map fun d => Ygx x.chain (s.toNat : Nat) (d : Nat) := by
  rw [List.getD_eq_getElem?_getD,List.getElem?_map,List.getElem?_range (by omega)]
  rfl
 rw [e,List.getD_eq_getElem?_getD,List.getElem?_map,List.getElem?_range (by omega)]
 show Ygx x.chain (s.toNat : Int) (d.toNat : Int) = _
 rw [Int.toNat_of_nonneg hs.1,Int.toNat_of_nonneg hd.1]
end Go.Di

namespace Go.Di
open Proofs
end Go.Di

namespace Go.Di
open Proofs
end Go.Di

namespace Go.Di
open Proofs
theorem last_char {plan : List Work} (hp : plan.Pairwise wlt) (s d : Int) : ((Yc6 plan s d).1 = 1 ∧ (∃ w ∈ plan,w.s = s ∧ w.d ≤ d ∧ w.d = (Yc6 plan s d).2) ∧ ∀ v ∈ plan,v.s = s → v.d ≤ d → v.d ≤ (Yc6 plan s d).2) ∨ (Yc6 plan s d = (0,0) ∧ ∀ w ∈ plan,¬ (w.s = s ∧ w.d ≤ d)) := by
 have key : ∀ (l : List Work) (pre : List Work) (p : Int × Int),(pre ++ l).Pairwise wlt → ((p.1 = 1 ∧ (∃ w ∈ pre,w.s = s ∧ w.d ≤ d ∧ w.d = p.2) ∧ ∀ v ∈ pre,v.s = s → v.d ≤ d → v.d ≤ p.2) ∨ (p = (0,0) ∧ ∀ w ∈ pre,¬ (w.s = s ∧ w.d ≤ d))) →
   (((l.foldl (Yav s d) p).1 = 1 ∧ (∃ w ∈ pre ++ l,w.s = s ∧ w.d ≤ d ∧ w.d = (l.foldl (Yav s d) p).2) ∧ ∀ v ∈ pre ++ l,v.s = s → v.d ≤ d → v.d ≤ (l.foldl (Yav s d) p).2) ∨ (l.foldl (Yav s d) p = (0,0) ∧ ∀ w ∈ pre ++ l,¬ (w.s = s ∧ w.d ≤ d))) := by
  intro l
  induction l with
  | nil => intro pre p _ h; simpa using h
  | cons w l ih =>
   intro pre p hpw h
   have hpw' : ((pre ++ [w]) ++ l).Pairwise wlt := by simpa using hpw
   have := ih (pre ++ [w]) (Yav s d p w) hpw' ?_
   ·simpa using this
   ·have hlt : ∀ v ∈ pre,wlt v w := fun v hv => (List.pairwise_append.1 hpw).2.2 v hv w (by simp)
    unfold Yav
    by_cases hc : w.s = s ∧ w.d ≤ d
    ·rw [if_pos hc]
     refine .inl ⟨rfl,⟨w,by simp,hc.1,hc.2,rfl⟩,fun v hv hvs hvd => ?_⟩
     rcases List.mem_append.1 hv with hv | hv
     ·have := hlt v hv; unfold wlt at this; show v.d ≤ w.d; omega
     ·rw [List.mem_singleton] at hv; subst hv; exact Int.le_refl _
    ·rw [if_neg hc]
     rcases h with ⟨h1,⟨u,hu,h2⟩,h3⟩ | ⟨h1,h2⟩
     ·refine .inl ⟨h1,⟨u,by simp [hu],h2⟩,fun v hv hvs hvd => ?_⟩
      rcases List.mem_append.1 hv with hv | hv
      ·exact h3 v hv hvs hvd
      ·rw [List.mem_singleton] at hv; subst hv; exact absurd ⟨hvs,hvd⟩ hc
     ·refine .inr ⟨h1,fun v hv => ?_⟩
      rcases List.mem_append.1 hv with hv | hv
      ·exact h2 v hv
      ·rw [List.mem_singleton] at hv; subst hv; exact hc
 have := key plan [] (0,0) (by simpa using hp) (.inr ⟨rfl,fun w hw => by cases hw⟩)
 simpa [Yc6] using this
theorem last_congr {p q : List Work} (hp : p.Pairwise wlt) (hq : q.Pairwise wlt) {s : Int} (h : ∀ w : Work,w.s = s → (w ∈ p ↔ w ∈ q)) (d : Int) : Yc6 p s d = Yc6 q s d := by
 rcases last_char hp s d with ⟨h1,⟨w,h2,h3,h4,h5⟩,h6⟩ | ⟨h1,h2⟩
 ·rcases last_char hq s d with ⟨g1,⟨v,g2,g3,g4,g5⟩,g6⟩ | ⟨g1,g2⟩
  ·have a1 := g6 w ((h w h3).1 h2) h3 h4
   have a2 := h6 v ((h v g3).2 g2) g3 g4
   exact Prod.ext (h1.trans g1.symm) (by omega)
  ·exact absurd ⟨h3,h4⟩ (g2 w ((h w h3).1 h2))
 ·rcases last_char hq s d with ⟨g1,⟨v,g2,g3,g4,g5⟩,g6⟩ | ⟨g1,g2⟩
  ·exact absurd ⟨g3,g4⟩ (h2 v ((h v g3).2 g2))
  ·rw [h1,g1]
theorem fleast_congr (x : FBook) (th : List (List Int)) (wr : List Int) {p q : List Work} (hp : p.Pairwise wlt) (hq : q.Pairwise wlt) {s : Int} (h : ∀ w : Work,w.s = s → (w ∈ p ↔ w ∈ q)) (d : Int) : Ybk x th wr p s d = Ybk x th wr q s d := by
 unfold Ybk
 rw [last_congr hp hq h d]
theorem planned_grd (x : FBook) (on : W4) : Yaz x on = grdF x fun k s => bitF (on.get s) k := by
 have h1 : ∀ (k : Nat) (l : List Work) (s : Nat),Yaq x on k l s = Yck x (fun k s => bitF (on.get s) k) k l s := by
  intro k l s
  induction s with
  | zero => rfl
  | succ s ih => simp only [Yaq,Yck,ih]
 have h2 : ∀ k,Ya8 x on k = grdTo x (fun k s => bitF (on.get s) k) k := by
  intro k
  induction k with
  | zero => rfl
  | succ k ih => simp only [Ya8,grdTo,ih,h1]
 exact h2 _
theorem cmp_neg {a b : Work} : Ybd a b < 0 ↔ wlt a b := by
 rw [← compare_wlt]; omega
theorem cmp_zero {a b : Work} : Ybd a b = 0 ↔ a = b := by
 obtain ⟨a1,a2⟩ := a
 obtain ⟨b1,b2⟩ := b
 unfold Ybd
 constructor
 ·intro h
  split at h
  ·rename_i h1; rw [Work.mk.injEq]; exact ⟨h1,by show a2 = b2; have h' : a2 - b2 = 0 := h; omega⟩
  ·rename_i h1; have h' : a1 - b1 = 0 := h; exact absurd (show a1 = b1 by omega) h1
 ·intro h
  cases h
  simp
theorem cmpPlans_trans : ∀ {p q r : List Work},Ybm p q < 0 → Ybm q r < 0 → Ybm p r < 0
 | [],[],_,h,_ => by simp [Ybm] at h
 | [],_ :: _,[],_,h => by simp [Ybm] at h
 | [],_ :: _,_ :: _,_,_ => by simp [Ybm]
 | _ :: _,[],_,h,_ => by simp [Ybm] at h
 | _ :: _,_ :: _,[],_,h => by simp [Ybm] at h
 | a :: p,b :: q,c :: r,h1,h2 => by
  simp only [Ybm] at h1 h2 ⊢
  by_cases hab : Ybd a b = 0
  ·rw [if_neg (by simp [hab])] at h1
   obtain rfl := cmp_zero.1 hab
   by_cases hac : Ybd a c = 0
   ·rw [if_neg (by simp [hac])] at h2 ⊢
    exact cmpPlans_trans h1 h2
   ·rw [if_pos hac] at h2 ⊢
    exact h2
  ·rw [if_pos hab] at h1
   by_cases hbc : Ybd b c = 0
   ·obtain rfl := cmp_zero.1 hbc
    rw [if_pos hab]
    exact h1
   ·rw [if_pos hbc] at h2
    have h3 := wlt_trans (cmp_neg.1 h1) (cmp_neg.1 h2)
    have h4 := cmp_neg.2 h3
    rw [if_pos (by omega)]
    exact h4
theorem better_iff {x : FBook} {p q : List Work} : Yci x p q = true ↔ Ycp x p < Ycp x q ∨ Ycp x p = Ycp x q ∧ Ybm p q < 0 := by
 unfold Yci
 simp
theorem better_trans {x : FBook} {p q r : List Work} (h1 : Yci x p q = true) (h2 : Yci x q r = true) : Yci x p r = true := by
 rw [better_iff] at *
 rcases h1 with h1 | ⟨h1,h1'⟩ <;> rcases h2 with h2 | ⟨h2,h2'⟩
 ·exact .inl (by omega)
 ·exact .inl (by omega)
 ·exact .inl (by omega)
 ·exact .inr ⟨by omega,cmpPlans_trans h1' h2'⟩
theorem bestOf_spec (x : FBook) (l : List (List Work)) : ((Ycv x l).2 = true ∧ (Ycv x l).1 ∈ l ∧ Yfz x (Ycv x l).1 = true ∧ ∀ p ∈ l,Yfz x p = true → Yci x p (Ycv x l).1 = false) ∨ ((Ycv x l).2 = false ∧ ∀ p ∈ l,Yfz x p = false) := by
 have key : ∀ (l pre : List (List Work)) (o : List Work × Bool),((o.2 = true ∧ o.1 ∈ pre ∧ Yfz x o.1 = true ∧ ∀ p ∈ pre,Yfz x p = true → Yci x p o.1 = false) ∨ (o.2 = false ∧ ∀ p ∈ pre,Yfz x p = false)) →
   (((l.foldl (Yb9 x) o).2 = true ∧ (l.foldl (Yb9 x) o).1 ∈ pre ++ l ∧ Yfz x (l.foldl (Yb9 x) o).1 = true ∧ ∀ p ∈ pre ++ l,Yfz x p = true → Yci x p (l.foldl (Yb9 x) o).1 = false) ∨ ((l.foldl (Yb9 x) o).2 = false ∧ ∀ p ∈ pre ++ l,Yfz x p = false)) := by
  intro l
  induction l with
  | nil => intro pre o h; simpa using h
  | cons q l ih =>
   intro pre o h
   have := ih (pre ++ [q]) (Yb9 x o q) ?_
   ·simpa using this
   ·have hself : ∀ p,Yci x p p = false := by
     intro p
     have hc : ∀ p : List Work,Ybm p p = 0 := by
      intro p
      induction p with
      | nil => rfl
      | cons w p ih2 => simp only [Ybm]; rw [if_neg (by simp [cmp_zero.2 rfl])]; exact ih2
     cases hb : Yci x p p with
     | false => rfl
     | true =>
      rw [better_iff] at hb
      rcases hb with hb | ⟨_,hb⟩
      ·omega
      ·rw [hc] at hb; omega
    unfold Yb9
    cases hg : Yfz x q with
    | false =>
     rw [Bool.false_and,if_neg (by decide)]
     rcases h with ⟨h1,h2,h3,h4⟩ | ⟨h1,h2⟩
     ·refine .inl ⟨h1,by simp [h2],h3,fun p hp hgp => ?_⟩
      rcases List.mem_append.1 hp with hp | hp
      ·exact h4 p hp hgp
      ·rw [List.mem_singleton] at hp; subst hp; rw [hg] at hgp; cases hgp
     ·refine .inr ⟨h1,fun p hp => ?_⟩
      rcases List.mem_append.1 hp with hp | hp
      ·exact h2 p hp
      ·rw [List.mem_singleton] at hp; subst hp; exact hg
    | true =>
     rw [Bool.true_and]
     rcases h with ⟨h1,h2,h3,h4⟩ | ⟨h1,h2⟩
     ·rw [h1,Bool.not_true,Bool.false_or]
      cases hb : Yci x q o.1 with
      | true =>
       rw [if_pos rfl]
       refine .inl ⟨rfl,by simp,hg,fun p hp hgp => ?_⟩
       rcases List.mem_append.1 hp with hp | hp
       ·cases hpq : Yci x p q with
        | false => rfl
        | true => have := better_trans hpq hb; rw [h4 p hp hgp] at this; cases this
       ·rw [List.mem_singleton] at hp; subst hp; exact hself _
      | false =>
       rw [if_neg (by decide)]
       refine .inl ⟨h1,by simp [h2],h3,fun p hp hgp => ?_⟩
       rcases List.mem_append.1 hp with hp | hp
       ·exact h4 p hp hgp
       ·rw [List.mem_singleton] at hp; subst hp; exact hb
     ·rw [h1,Bool.not_false,Bool.true_or,if_pos rfl]
      refine .inl ⟨rfl,by simp,hg,fun p hp hgp => ?_⟩
      rcases List.mem_append.1 hp with hp | hp
      ·rw [h2 p hp] at hgp; cases hgp
      ·rw [List.mem_singleton] at hp; subst hp; exact hself _
 have := key l [] ([],false) (.inr ⟨rfl,fun p hp => by cases hp⟩)
 simpa [Ycv] using this
end Go.Di

namespace Go.Di
open Proofs
end Go.Di

namespace Go.Di
open Proofs
end Go.Di

namespace Go.Di
open Proofs
end Go.Di

namespace Go.Di
open Proofs
theorem can_true {b : Book} (h : Yam b [] ≠ []) : canF b = true := by
 unfold canF
 cases hq : Yam b [] with
 | nil => exact absurd hq h
 | cons x l => rfl
def Ycn (turns : List Int) (d : Int) : Bool := turns.foldl (fun p t => if t ≤ d then !p else p) false
theorem flips_fold (d : Int) : ∀ (l : List Int) (p : Bool),l.foldl (fun p t => if t ≤ d then !p else p) p = Bool.xor p (Ycn l d)
 | [],p => by simp [Ycn]
 | t :: l,p => by
  unfold Ycn
  simp only [List.foldl_cons]
  rw [flips_fold d l,flips_fold d l]
  by_cases h : t ≤ d
  ·rw [if_pos h,if_pos h]; cases p <;> simp
  ·rw [if_neg h,if_neg h]; simp
theorem flips_append (l m : List Int) (d : Int) : Ycn (l ++ m) d = Bool.xor (Ycn l d) (Ycn m d) := by
 have : Ycn (l ++ m) d = m.foldl (fun p t => if t ≤ d then !p else p) (Ycn l d) := by
  unfold Ycn
  rw [List.foldl_append]
 rw [this,flips_fold]
theorem flips_one (t d : Int) : Ycn [t] d = decide (t ≤ d) := by
 unfold Ycn
 simp only [List.foldl_cons,List.foldl_nil]
 by_cases h : t ≤ d
 ·rw [if_pos h]; simp [h]
 ·rw [if_neg h]; simp [h]
theorem place_fold (n d : Int) : ∀ (l : List Int) (s : Int),Ybp n l d s = if Ycn l d = true then n - 1 - s else s
 | [],s => by simp [Ybp,Ycn]
 | t :: l,s => by
  have h1 : Ybp n (t :: l) d s = Ybp n l d (if t ≤ d then n - 1 - s else s) := rfl
  have h2 : Ycn (t :: l) d = Bool.xor (decide (t ≤ d)) (Ycn l d) := by
   have := flips_append [t] l d
   rwa [flips_one] at this
  rw [h1,place_fold n d l,h2]
  by_cases h : t ≤ d
  ·rw [if_pos h,decide_eq_true h]
   cases Ycn l d <;> simp
   omega
  ·rw [if_neg h,decide_eq_false h]
   cases Ycn l d <;> simp
theorem svZ_mem {b : Book} {i : Nat} (hi : i < b.svs.length) : svZ b i ∈ b.svs := Yby b.svs i sv0 hi
theorem mem_svZ {b : Book} {y : Sv} (hy : y ∈ b.svs) : ∃ i,i < b.svs.length ∧ svZ b i = y := by
 obtain ⟨i,hi,h⟩ := List.getElem_of_mem hy
 refine ⟨i,hi,?_⟩
 show b.svs.getD i sv0 = y
 rw [List.getD_eq_getElem?_getD,List.getElem?_eq_getElem hi,← h]
 rfl
structure Feas0 (b : Book) (T : Nat → Int) (x : W4) : Prop where
 wear : ∀ p < b.secs.length,(b.secs.getD p sec0).w.lo ≤ x.at p ∧ x.at p ≤ (b.secs.getD p sec0).w.hi
 zero : ∀ p,b.secs.length ≤ p → x.at p = 0
 thick : ∀ k < b.secs.length,(b.secs.getD k sec0).t.lo ≤ T k ∧ T k ≤ (b.secs.getD k sec0).t.hi
theorem feas_nil {b : Book} {T : Nat → Int} {x : W4} : Feas b [] T x ↔ Feas0 b T x ∧ ∀ y ∈ b.svs,∀ k : Nat,k < b.secs.length → SatY b x k (T k) y := by
 constructor
 ·intro h
  refine ⟨⟨h.wear,h.zero,h.thick⟩,fun y hy k hk => ?_⟩
  obtain ⟨i,hi,rfl⟩ := mem_svZ hy
  exact h.right i hi (by simp) k hk
 ·rintro ⟨h,h'⟩
  exact ⟨h.wear,h.zero,h.thick,fun i hi _ k hk => h' _ (svZ_mem hi) k hk⟩
end Go.Di

namespace Go.Di
open Proofs
def Up (n : Int) : Int → List Int → Prop
 | _,[] => True
 | a,x :: l => a ≤ x ∧ x < n ∧ Up n (x + 1) l
theorem Up.mono {n m : Int} (hm : m ≤ n) : ∀ {l : List Int} {a : Int},Up m a l → Up n a l
 | [],a,_ => trivial
 | y :: l,a,⟨h1,h2,h3⟩ => ⟨h1,by omega,Up.mono hm h3⟩
theorem Up.mem {n : Int} : ∀ {l : List Int} {a x : Int},Up n a l → x ∈ l → a ≤ x ∧ x < n
 | y :: l,a,x,⟨h1,h2,h3⟩,hx => by
  rcases List.mem_cons.1 hx with rfl | hx
  ·exact ⟨h1,h2⟩
  ·have := h3.mem hx
   omega
theorem Up.len {n : Int} : ∀ {l : List Int} {a : Int},Up n a l → a ≤ n → (l.length : Int) ≤ n - a
 | [],a,_,ha => by simp; omega
 | y :: l,a,⟨h1,h2,h3⟩,ha => by
  have := h3.len (by omega)
  simp only [List.length_cons]
  omega
end Go.Di

namespace Go.Di
open Proofs
theorem rises_up {days : Int} : ∀ (l : List Int) (a : Int),(l.foldl (Yd0 days) (true,a)).1 = true ↔ Up (days + 1) (a + 1) l
 | [],a => by simp [Up]
 | t :: l,a => by
  have ih := rises_up (days := days) l t
  simp only [List.foldl_cons,Yd0,Up]
  rw [Yfc,Bool.and_eq_true,ih,Bool.true_and,Ya0]
  constructor
  ·rintro ⟨⟨h1,h2⟩,h3⟩; exact ⟨h1,by omega,h3⟩
  ·rintro ⟨h1,h2,h3⟩; exact ⟨⟨h1,by omega⟩,h3⟩
theorem Valid.up {b : Book} (hV : Valid b) : Up (b.days + 1) 1 b.turns := by
 have := hV.rises
 unfold risesF at this
 rw [rises_up] at this
 exact this
end Go.Di

namespace Go.Di
open Proofs
def Ygd (bits : List Int) (n : Int) : Int := if bits.length = 0 then 0 else bits.getD (modF n bits.length).toNat 0
def withinSF (s : Span) (n : Int) : Int := s.lo + modF n (s.hi - s.lo + 1)
theorem withinSF_in {s : Span} {n : Int} (h : s.lo ≤ s.hi) : s.lo ≤ withinSF s n ∧ withinSF s n ≤ s.hi := by
 have := modF_in (n := n) (m := s.hi - s.lo + 1) (by omega)
 unfold withinSF
 omega
def trT (b : Book) (bits : List Int) (k : Nat) : Int := withinSF (b.secs.getD k sec0).t (Ygd bits (2 * k))
def trW (b : Book) (bits : List Int) (k : Nat) : Int := withinSF (b.secs.getD k sec0).w (Ygd bits (2 * k + 1))
def trX (b : Book) (bits : List Int) : W4 := ⟨if 0 < b.secs.length then trW b bits 0 else 0,if 1 < b.secs.length then trW b bits 1 else 0,if 2 < b.secs.length then trW b bits 2 else 0,if 3 < b.secs.length then trW b bits 3 else 0⟩
theorem trX_at {b : Book} (h4 : b.secs.length ≤ 4) (bits : List Int) (p : Nat) : (trX b bits).at p = if p < b.secs.length then trW b bits p else 0 := by
 match p with
 | 0 => rfl
 | 1 => rfl
 | 2 => rfl
 | 3 => rfl
 | p + 4 =>
  rw [if_neg (by omega)]
  show ([_,_,_,_] : List Int).getD (p + 4) 0 = 0
  simp
theorem tr_feas0 {b : Book} (hV : Valid b) (bits : List Int) : Feas0 b (trT b bits) (trX b bits) := by
 have h4 := hV.secs.2
 refine ⟨fun p hp => ?_,fun p hp => ?_,fun k hk => ?_⟩
 ·rw [trX_at h4,if_pos hp]
  exact withinSF_in (hV.sec _ (Yby b.secs p sec0 hp)).w.2.1
 ·rw [trX_at h4,if_neg (by omega)]
 ·exact withinSF_in (hV.sec _ (Yby b.secs k sec0 hk)).t.2.1
def rowF (b : Book) (T : Nat → Int) (x : W4) (d : Nat) : List Int := (List.range b.secs.length).map fun k => T k - wornX b b.turns x k d
theorem rowF_len (b : Book) (T : Nat → Int) (x : W4) (d : Nat) : (rowF b T x d).length = b.secs.length := by simp [rowF]
theorem Yc2 {f : Nat → Int} {n k : Nat} (hk : k < n) : ((List.range n).map f).getD k 0 = f k := by
 rw [List.getD_eq_getElem?_getD,List.getElem?_map,List.getElem?_range hk]
 rfl
theorem rowF_get {b : Book} {T : Nat → Int} {x : W4} {d k : Nat} (hk : k < b.secs.length) : (rowF b T x d).getD k 0 = T k - wornX b b.turns x k d := Yc2 hk
def piF (n : Nat) (f : Bool) (k : Nat) : Nat := if f = true then n - 1 - k else k
theorem piF_pi {n : Nat} {f : Bool} {k : Nat} (hk : k < n) : piF n f (piF n f k) = k ∧ piF n f k < n := by
 unfold piF
 split <;> omega
theorem setL_getD {l : List Int} {i k : Nat} {v : Int} (hk : k < l.length) : (l.set i v).getD k 0 = if i = k then v else l.getD k 0 := by
 rw [List.getD_eq_getElem?_getD,List.getD_eq_getElem?_getD,List.getElem?_set]
 by_cases e : i = k
 ·rw [if_pos e,if_pos e,if_pos (by omega)]
  rfl
 ·rw [if_neg e,if_neg e]
theorem flips_step {n : Int} {d : Int} : ∀ {l : List Int} {a : Int},Up n a l → Ycn l d = Bool.xor (Ycn l (d - 1)) (decide (d ∈ l))
 | [],_,_ => by simp [Ycn]
 | t :: l,a,⟨h1,h2,h3⟩ => by
  have ih := flips_step (d := d) h3
  have e1 : ∀ d,Ycn (t :: l) d = Bool.xor (decide (t ≤ d)) (Ycn l d) := fun d => by
   have := flips_append [t] l d
   rwa [flips_one] at this
  rw [e1,e1,ih]
  by_cases e : t = d
  ·have hn : decide (d ∈ l) = false := decide_eq_false fun hm => by have := (h3.mem hm).1; omega
   rw [hn,decide_eq_true (show t ≤ d by omega),decide_eq_false (show ¬ t ≤ d - 1 by omega),decide_eq_true (show d ∈ t :: l by rw [e]; simp)]
   cases Ycn l (d - 1) <;> rfl
  ·have h4 : decide (t ≤ d) = decide (t ≤ d - 1) := by rw [decide_eq_decide]; omega
   have h5 : decide (d ∈ t :: l) = decide (d ∈ l) := by
    rw [decide_eq_decide]
    simp only [List.mem_cons]
    exact ⟨fun h => h.resolve_left fun h => e h.symm,.inr⟩
   rw [h4,h5,Bool.xor_assoc]
def liesP (b : Book) : Nat → Bool
 | 0 => false
 | d + 1 => Ycn b.turns d
theorem lies_next {b : Book} (hV : Valid b) (d : Nat) : Ycn b.turns d = Bool.xor (liesP b d) (decide ((d : Int) ∈ b.turns)) := by
 have h := flips_step (d := d) hV.up
 rw [h]
 congr 1
 cases d with
 | zero =>
  simp only [liesP]
  have : ∀ l : List Int,(∀ t ∈ l,1 ≤ t) → Ycn l (((0 : Nat) : Int) - 1) = false := by
   intro l
   induction l with
   | nil => exact fun _ => rfl
   | cons t l ih =>
    intro h
    have e := flips_append [t] l (((0 : Nat) : Int) - 1)
    rw [flips_one] at e
    rw [show t :: l = [t] ++ l from rfl,e,ih fun u hu => h u (by simp [hu]),decide_eq_false (by have := h t (by simp); omega)]
    rfl
  exact this b.turns fun t ht => (hV.up.mem ht).1
 | succ d =>
  simp only [liesP]
  congr 1
  omega
end Go.Di

