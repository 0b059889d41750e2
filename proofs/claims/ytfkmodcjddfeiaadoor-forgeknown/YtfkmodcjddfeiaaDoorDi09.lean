/- Part 9: an interpreter over plain data for this code, with the proof that it says what the model does, and the contracts of the functions. No condition. -/
import Derived.Test.YtfkmodcjddfeiaaDoorDi08
set_option linter.unusedVariables false
set_option linter.unusedSimpArgs false
namespace Go.Di
open Proofs
theorem unworn_fn : FnOk PR (mk PR (lookN types) glob 3) 197 (body Tryd.f197) [.cell 0 140] := by refine ⟨Tryd.f197,?_,?_,?_,?_,?_⟩ <;> kernel_rfl
theorem high_fn : FnOk PR (mk PR (lookN types) glob 2) 195 (body Tryd.f195) [.cell 0 211] := by refine ⟨Tryd.f195,?_,?_,?_,?_,?_⟩ <;> kernel_rfl
theorem low_fn : FnOk PR (mk PR (lookN types) glob 2) 196 (body Tryd.f196) [.cell 0 211] := by refine ⟨Tryd.f196,?_,?_,?_,?_,?_⟩ <;> kernel_rfl
theorem highF_fn : FnOk PR (mk PR (lookN types) glob 5) 205 (body Tryd.f205) [.tmp 2] := by refine ⟨Tryd.f205,?_,?_,?_,?_,?_⟩ <;> kernel_rfl
theorem lowF_fn : FnOk PR (mk PR (lookN types) glob 5) 206 (body Tryd.f206) [.tmp 2] := by refine ⟨Tryd.f206,?_,?_,?_,?_,?_⟩ <;> kernel_rfl
theorem least_fn : FnOk PR (mk PR (lookN types) glob 18) 172 (body Tryd.f172) [.tmp 4] := by refine ⟨Tryd.f172,?_,?_,?_,?_,?_⟩ <;> kernel_rfl
theorem both_fn : FnOk PR (mk PR (lookN types) glob 17) 166 (body Tryd.f166) [.cell 4 51] := by refine ⟨Tryd.f166,?_,?_,?_,?_,?_⟩ <;> kernel_rfl
theorem hull_fn : FnOk PR (mk PR (lookN types) glob 17) 170 (body Tryd.f170) [.cell 4 51] := by refine ⟨Tryd.f170,?_,?_,?_,?_,?_⟩ <;> kernel_rfl
theorem worn_fn : FnOk PR (mk PR (lookN types) glob 32) 169 (body Tryd.f169) [.tmp 10] := by refine ⟨Tryd.f169,?_,?_,?_,?_,?_⟩ <;> kernel_rfl
theorem told_fn : FnOk PR (mk PR (lookN types) glob 28) 125 (body Tryd.f125) [.cell 4 51] := by refine ⟨Tryd.f125,?_,?_,?_,?_,?_⟩ <;> kernel_rfl
theorem thick1_fn : FnOk PR (mk PR (lookN types) glob 29) 168 (body Tryd.f168) [.cell 6 51] := by refine ⟨Tryd.f168,?_,?_,?_,?_,?_⟩ <;> kernel_rfl
theorem thick_fn : FnOk PR (mk PR (lookN types) glob 12) 123 (body Tryd.f123) [.cell 8 51] := by refine ⟨Tryd.f123,?_,?_,?_,?_,?_⟩ <;> kernel_rfl
theorem unworn_all  :
  callF (mk PR (lookN types) glob 3) [] [] [] (body Tryd.f197) [.cell 0 140] [] =
   some ([0 + 4 ≤ 4,0 + 4 ≤ 4],D.agg [D.int .i64 0,D.int .i64 0,D.int .i64 0,D.int .i64 0]) := by kernel_rfl
theorem high_all  :
  callF (mk PR (lookN types) glob 2) [] [] [] (body Tryd.f195) [.cell 0 211] [] =
   some ([],D.agg [D.fn 205 [] []]) := by kernel_rfl
theorem low_all  :
  callF (mk PR (lookN types) glob 2) [] [] [] (body Tryd.f196) [.cell 0 211] [] =
   some ([],D.agg [D.fn 206 [] []]) := by kernel_rfl
theorem highF_all (s : Span) :
  callF (mk PR (lookN types) glob 5) [] [] [] (body Tryd.f205) [.tmp 2] [spD s] =
   some ([0 + 1 + 1 ≤ 2],D.int .i64 (Span.hi s)) := by kernel_rfl
theorem lowF_all (s : Span) :
  callF (mk PR (lookN types) glob 5) [] [] [] (body Tryd.f206) [.tmp 2] [spD s] =
   some ([0 + 0 + 1 ≤ 2],D.int .i64 (Span.lo s)) := by kernel_rfl
def least_S0 (a : Int) (xs : List Int) (i : Nat) (a1 : Int) : List (Key × Val) :=
 [(.tmp 0,.d (.int .i64 a1)),
  (.tmp 4,.d (D.int .i64 0)),
  (.tmp 7,.d (D.sl false E.int xs)),
  (.tmp 8,.d (D.int .i64 (((List.length xs : Nat) : Int)))),
  (.tmp 9,.d (.int .i64 i))]
def least_K0 : List Key := [.tmp 0,.tmp 4,.tmp 7,.tmp 8,.tmp 9]
theorem least_0_on (a : Int) (xs : List Int) (i : Nat) (a1 : Int) :
  runK (mk PR (lookN types) glob 18) [(10,true)] [] [] (Code.at [1,0,1,0,0] (body Tryd.f172)) (least_S0 a xs i a1) least_K0 =
   some ([decide ((i : Int) < ((List.length xs : Nat) : Int)) = true,(0 : Int) ≤ (i : Int) ∧ (i : Int) < ((List.length xs : Nat) : Int),0 + 1 ≤ 1,inI64 ((i : Int) + (1 : Int))],Ex.normal,[(.tmp 0,.d (D.int .i64 (List.foldl mn a1 [List.getD xs (Int.toNat ((i : Int))) (E.z E.int)]))),(.tmp 4,.d (D.int .i64 0)),(.tmp 7,.d (D.sl false E.int xs)),(.tmp 8,.d (D.int .i64 (((List.length xs : Nat) : Int)))),(.tmp 9,.d (D.int .i64 ((i : Int) + (1 : Int))))]) := by kernel_rfl
theorem least_0_end (a : Int) (xs : List Int) (i : Nat) (a1 : Int) :
  runK (mk PR (lookN types) glob 18) [(10,false)] [] [] (Code.at [1,0,1,0,0] (body Tryd.f172)) (least_S0 a xs i a1) least_K0 =
   some ([decide ((i : Int) < ((List.length xs : Nat) : Int)) = false],Ex.exit 0,[(.tmp 0,.d (D.int .i64 a1)),(.tmp 4,.d (D.int .i64 0)),(.tmp 7,.d (D.sl false E.int xs)),(.tmp 8,.d (D.int .i64 (((List.length xs : Nat) : Int)))),(.tmp 9,.d (D.int .i64 ((i : Int))))]) := by kernel_rfl
theorem least_all (a : Int) (xs : List Int) (i : Nat) (a1 : Int) :
  callF (mk PR (lookN types) glob 18) [] [] [(0,(least_K0,(.normal,least_S0 a xs i a1)))] (body Tryd.f172) [.tmp 4] [.int .i64 a,.sl false .int xs] =
   some ([LoopT PR glob 18 (Code.at [1,0,1] (body Tryd.f172)) [(.tmp 0,.d (D.int .i64 a)),(.tmp 4,.d (D.int .i64 0)),(.tmp 7,.d (D.sl false E.int xs)),(.tmp 8,.d (D.int .i64 (((List.length xs : Nat) : Int)))),(.tmp 9,.d (D.int .i64 0))] Ex.normal (least_S0 a xs i a1)],D.int .i64 a1) := by kernel_rfl
theorem both_all (s t : Span) :
  callF (mk PR (lookN types) glob 17) [] [(15,.int .i64 (mn s.hi t.hi))] [] (body Tryd.f166) [.cell 4 51] [spD s,spD t] =
   some ([0 + 0 + 1 ≤ 2,0 + 0 + 1 ≤ 2,0 + 1 + 1 ≤ 2,0 + 1 + 1 ≤ 2,Contract PR glob 172 [D.int .i64 (Span.hi s),D.sl false E.int [Span.hi t]] (D.int .i64 (mn (Span.hi s) (Span.hi t))),0 + 2 ≤ 2],D.agg [D.int .i64 (List.foldl mx (Span.lo s) [Span.lo t]),D.int .i64 (mn (Span.hi s) (Span.hi t))]) := by kernel_rfl
theorem hull_all (s t : Span) :
  callF (mk PR (lookN types) glob 17) [] [(10,.int .i64 (mn s.lo t.lo))] [] (body Tryd.f170) [.cell 4 51] [spD s,spD t] =
   some ([0 + 0 + 1 ≤ 2,0 + 0 + 1 ≤ 2,Contract PR glob 172 [D.int .i64 (Span.lo s),D.sl false E.int [Span.lo t]] (D.int .i64 (mn (Span.lo s) (Span.lo t))),0 + 1 + 1 ≤ 2,0 + 1 + 1 ≤ 2,0 + 2 ≤ 2],D.agg [D.int .i64 (mn (Span.lo s) (Span.lo t)),D.int .i64 (List.foldl mx (Span.hi s) [Span.hi t])]) := by kernel_rfl
def worn_S0 (b : Book) (m : Mp) (ts : List TrC) (w0 w1 w2 w3 : Int) (s day : Int) (turns : List Int) (i : Nat) (n1 : Int) : List (Key × Val) :=
 [(.tmp 2,.d (D.int .i64 s)),
  (.tmp 4,.d (D.sl false E.int turns)),
  (.tmp 5,.d (D.ptr 5 0)),
  (.tmp 6,.d (D.ptr 6 0)),
  (.tmp 10,.d (D.int .i64 0)),
  (.tmp 11,.d (.int .i64 n1)),
  (.tmp 17,.d (D.int .i64 day)),
  (.tmp 18,.d (.int .i64 i)),
  (.box 5,.bx (some (Box.mk false [D.sl false E.sec (Book.secs b),D.sl false E.int (Book.turns b),D.sl false E.sv (Book.svs b),D.int .i64 (Book.rule b),D.int .i64 (Book.days b),D.map m,D.sl false E.trc ts]))),
  (.box 6,.bx (some (Box.mk false [D.int .i64 w0,D.int .i64 w1,D.int .i64 w2,D.int .i64 w3])))]
def worn_K0 : List Key := [.tmp 2,.tmp 4,.tmp 5,.tmp 6,.tmp 10,.tmp 11,.tmp 17,.tmp 18,.box 5,.box 6]
theorem worn_0_on (b : Book) (m : Mp) (ts : List TrC) (w0 w1 w2 w3 : Int) (s day : Int) (turns : List Int) (i : Nat) (n1 : Int) :
  runK (mk PR (lookN types) glob 32) [(19,true)] [(26,.int .i64 (placeF b.secs.length turns i s))] [] (Code.at [1,1,1,0,1,0,0] (body Tryd.f169)) (worn_S0 b m ts w0 w1 w2 w3 s day turns i n1) worn_K0 =
   some ([decide ((i : Int) < day) = true,Contract PR glob 198 [D.agg [D.sl false E.sec (Book.secs b),D.sl false E.int (Book.turns b),D.sl false E.sv (Book.svs b),D.int .i64 (Book.rule b),D.int .i64 (Book.days b),D.map m,D.sl false E.trc ts],D.int .i64 s,D.int .i64 ((i : Int)),D.sl false E.int turns] (D.int .i64 (placeF (((List.length (Book.secs b) : Nat) : Int)) turns ((i : Int)) s)),(0 : Int) ≤ placeF (((List.length (Book.secs b) : Nat) : Int)) turns ((i : Int)) s ∧ placeF (((List.length (Book.secs b) : Nat) : Int)) turns ((i : Int)) s < (Nat.cast : Nat → Int) 4,0 + Int.toNat (placeF (((List.length (Book.secs b) : Nat) : Int)) turns ((i : Int)) s) * 1 + 1 ≤ 4,inI64 (n1 + List.getD [w0,w1,w2,w3] (0 + Int.toNat (placeF (((List.length (Book.secs b) : Nat) : Int)) turns ((i : Int)) s) * 1) (0 : Int)),inI64 ((i : Int) + (1 : Int))],Ex.normal,[(.tmp 2,.d (D.int .i64 s)),(.tmp 4,.d (D.sl false E.int turns)),(.tmp 5,.d (D.ptr 5 0)),(.tmp 6,.d (D.ptr 6 0)),(.tmp 10,.d (D.int .i64 0)),(.tmp 11,.d (D.int .i64 (n1 + List.getD [w0,w1,w2,w3] (0 + Int.toNat (placeF (((List.length (Book.secs b) : Nat) : Int)) turns ((i : Int)) s) * 1) (0 : Int)))),(.tmp 17,.d (D.int .i64 day)),(.tmp 18,.d (D.int .i64 ((i : Int) + (1 : Int)))),(.box 5,.bx (some (Box.mk false [D.sl false E.sec (Book.secs b),D.sl false E.int (Book.turns b),D.sl false E.sv (Book.svs b),D.int .i64 (Book.rule b),D.int .i64 (Book.days b),D.map m,D.sl false E.trc ts]))),(.box 6,.bx (some (Box.mk false [D.int .i64 w0,D.int .i64 w1,D.int .i64 w2,D.int .i64 w3])))]) := by kernel_rfl
theorem worn_0_end (b : Book) (m : Mp) (ts : List TrC) (w0 w1 w2 w3 : Int) (s day : Int) (turns : List Int) (i : Nat) (n1 : Int) :
  runK (mk PR (lookN types) glob 32) [(19,false)] [] [] (Code.at [1,1,1,0,1,0,0] (body Tryd.f169)) (worn_S0 b m ts w0 w1 w2 w3 s day turns i n1) worn_K0 =
   some ([decide ((i : Int) < day) = false],Ex.exit 0,[(.tmp 2,.d (D.int .i64 s)),(.tmp 4,.d (D.sl false E.int turns)),(.tmp 5,.d (D.ptr 5 0)),(.tmp 6,.d (D.ptr 6 0)),(.tmp 10,.d (D.int .i64 0)),(.tmp 11,.d (D.int .i64 n1)),(.tmp 17,.d (D.int .i64 day)),(.tmp 18,.d (D.int .i64 ((i : Int)))),(.box 5,.bx (some (Box.mk false [D.sl false E.sec (Book.secs b),D.sl false E.int (Book.turns b),D.sl false E.sv (Book.svs b),D.int .i64 (Book.rule b),D.int .i64 (Book.days b),D.map m,D.sl false E.trc ts]))),(.box 6,.bx (some (Box.mk false [D.int .i64 w0,D.int .i64 w1,D.int .i64 w2,D.int .i64 w3])))]) := by kernel_rfl
theorem worn_none (b : Book) (m : Mp) (ts : List TrC) (w0 w1 w2 w3 : Int) (s day : Int) (turns : List Int) :
  callF (mk PR (lookN types) glob 32) [(15,true)] [(14,wD 0 0 0 0)] [] (body Tryd.f169) [.tmp 10] [bkD b m ts,wD w0 w1 w2 w3,.int .i64 s,.int .i64 day,.sl false .int turns] =
   some ([0 + 4 ≤ 4,Contract PR glob 197 [] (D.agg [D.int .i64 0,D.int .i64 0,D.int .i64 0,D.int .i64 0]),eqI [w0,w1,w2,w3] [(0 : Int),(0 : Int),(0 : Int),(0 : Int)] = true],D.int .i64 0) := by kernel_rfl
theorem worn_all (b : Book) (m : Mp) (ts : List TrC) (w0 w1 w2 w3 : Int) (s day : Int) (turns : List Int) (i : Nat) (n1 : Int) :
  callF (mk PR (lookN types) glob 32) [(15,false)] [(14,wD 0 0 0 0)] [(0,(worn_K0,(.normal,worn_S0 b m ts w0 w1 w2 w3 s day turns i n1)))] (body Tryd.f169) [.tmp 10] [bkD b m ts,wD w0 w1 w2 w3,.int .i64 s,.int .i64 day,.sl false .int turns] =
   some ([0 + 4 ≤ 4,Contract PR glob 197 [] (D.agg [D.int .i64 0,D.int .i64 0,D.int .i64 0,D.int .i64 0]),eqI [w0,w1,w2,w3] [(0 : Int),(0 : Int),(0 : Int),(0 : Int)] = false,LoopT PR glob 32 (Code.at [1,1,1,0,1] (body Tryd.f169)) [(.tmp 2,.d (D.int .i64 s)),(.tmp 4,.d (D.sl false E.int turns)),(.tmp 5,.d (D.ptr 5 0)),(.tmp 6,.d (D.ptr 6 0)),(.tmp 10,.d (D.int .i64 0)),(.tmp 11,.d (D.int .i64 0)),(.tmp 17,.d (D.int .i64 day)),(.tmp 18,.d (D.int .i64 0)),(.box 5,.bx (some (Box.mk false [D.sl false E.sec (Book.secs b),D.sl false E.int (Book.turns b),D.sl false E.sv (Book.svs b),D.int .i64 (Book.rule b),D.int .i64 (Book.days b),D.map m,D.sl false E.trc ts]))),(.box 6,.bx (some (Box.mk false [D.int .i64 w0,D.int .i64 w1,D.int .i64 w2,D.int .i64 w3])))] Ex.normal (worn_S0 b m ts w0 w1 w2 w3 s day turns i n1)],D.int .i64 n1) := by kernel_rfl
def told_S0 (b : Book) (m : Mp) (ts : List TrC) (f : FuncId) (fs : List D) (cs : List (List D)) (x0 : TrC) (o : Span) (i : Nat) (o1 : Span) : List (Key × Val) :=
 [(.tmp 1,.d (D.fn f fs cs)),
  (.tmp 4,.d (D.ptr 4 0)),
  (.tmp 5,.d (D.ptr 5 0)),
  (.tmp 15,.d (D.sl false E.trc ts)),
  (.tmp 16,.d (D.int .i64 (((List.length ts : Nat) : Int)))),
  (.tmp 17,.d (.int .i64 i)),
  (.box 4,.bx (some (Box.mk false [D.int .i64 0,D.int .i64 0]))),
  (.box 5,.bx (some ⟨false,cellsOf (spD o1)⟩))]
def told_K0 : List Key := [.tmp 1,.tmp 4,.tmp 5,.tmp 15,.tmp 16,.tmp 17,.box 4,.box 5]
theorem told_0_on (b : Book) (m : Mp) (ts : List TrC) (f : FuncId) (fs : List D) (cs : List (List D)) (x0 : TrC) (o : Span) (i : Nat) (o1 : Span) (o2 o3 : Span) :
  runK (mk PR (lookN types) glob 28) [(18,true)] [(24,spD o2),(25,spD o3)] [] (Code.at [1,1,0,1,0,0] (body Tryd.f125)) (told_S0 b m ts f fs cs x0 o i o1) told_K0 =
   some ([decide ((i : Int) < ((List.length ts : Nat) : Int)) = true,(0 : Int) ≤ (i : Int) ∧ (i : Int) < ((List.length ts : Nat) : Int),0 + 12 ≤ 12,0 + 2 ≤ 2,0 + 12 ≤ 12,Contract PR glob f (fs ++ List.map weak [D.agg [D.int .i64 (TrC.w0 (List.getD ts (Int.toNat ((i : Int))) (E.z E.trc))),D.int .i64 (TrC.w1 (List.getD ts (Int.toNat ((i : Int))) (E.z E.trc))),D.int .i64 (TrC.w2 (List.getD ts (Int.toNat ((i : Int))) (E.z E.trc))),D.int .i64 (TrC.w3 (List.getD ts (Int.toNat ((i : Int))) (E.z E.trc))),D.int .i64 (Span.lo (TrC.f0 (List.getD ts (Int.toNat ((i : Int))) (E.z E.trc)))),D.int .i64 (Span.hi (TrC.f0 (List.getD ts (Int.toNat ((i : Int))) (E.z E.trc)))),D.int .i64 (Span.lo (TrC.f1 (List.getD ts (Int.toNat ((i : Int))) (E.z E.trc)))),D.int .i64 (Span.hi (TrC.f1 (List.getD ts (Int.toNat ((i : Int))) (E.z E.trc)))),D.int .i64 (Span.lo (TrC.f2 (List.getD ts (Int.toNat ((i : Int))) (E.z E.trc)))),D.int .i64 (Span.hi (TrC.f2 (List.getD ts (Int.toNat ((i : Int))) (E.z E.trc)))),D.int .i64 (Span.lo (TrC.f3 (List.getD ts (Int.toNat ((i : Int))) (E.z E.trc)))),D.int .i64 (Span.hi (TrC.f3 (List.getD ts (Int.toNat ((i : Int))) (E.z E.trc))))]] ++ List.map (fun cs ↦ D.ref cs 0) cs) (D.agg [D.int .i64 (Span.lo o2),D.int .i64 (Span.hi o2)]),Contract PR glob 170 [D.agg [D.int .i64 (Span.lo o1),D.int .i64 (Span.hi o1)],D.agg [D.int .i64 (Span.lo o2),D.int .i64 (Span.hi o2)]] (D.agg [D.int .i64 (Span.lo o3),D.int .i64 (Span.hi o3)]),inI64 ((i : Int) + (1 : Int))],Ex.normal,[(.tmp 1,.d (D.fn f fs cs)),(.tmp 4,.d (D.ptr 4 0)),(.tmp 5,.d (D.ptr 5 0)),(.tmp 15,.d (D.sl false E.trc ts)),(.tmp 16,.d (D.int .i64 (((List.length ts : Nat) : Int)))),(.tmp 17,.d (D.int .i64 ((i : Int) + (1 : Int)))),(.box 4,.bx (some (Box.mk false [D.int .i64 0,D.int .i64 0]))),(.box 5,.bx (some (Box.mk false [D.int .i64 (Span.lo o3),D.int .i64 (Span.hi o3)])))]) := by kernel_rfl
theorem told_0_end (b : Book) (m : Mp) (ts : List TrC) (f : FuncId) (fs : List D) (cs : List (List D)) (x0 : TrC) (o : Span) (i : Nat) (o1 : Span) :
  runK (mk PR (lookN types) glob 28) [(18,false)] [] [] (Code.at [1,1,0,1,0,0] (body Tryd.f125)) (told_S0 b m ts f fs cs x0 o i o1) told_K0 =
   some ([decide ((i : Int) < ((List.length ts : Nat) : Int)) = false],Ex.exit 0,[(.tmp 1,.d (D.fn f fs cs)),(.tmp 4,.d (D.ptr 4 0)),(.tmp 5,.d (D.ptr 5 0)),(.tmp 15,.d (D.sl false E.trc ts)),(.tmp 16,.d (D.int .i64 (((List.length ts : Nat) : Int)))),(.tmp 17,.d (D.int .i64 ((i : Int)))),(.box 4,.bx (some (Box.mk false [D.int .i64 0,D.int .i64 0]))),(.box 5,.bx (some (Box.mk false [D.int .i64 (Span.lo o1),D.int .i64 (Span.hi o1)])))]) := by kernel_rfl
theorem told_all (b : Book) (m : Mp) (ts : List TrC) (f : FuncId) (fs : List D) (cs : List (List D)) (x0 : TrC) (o : Span) (i : Nat) (o1 : Span) :
  callF (mk PR (lookN types) glob 28) [] [(13,spD o)] [(0,(told_K0,(.normal,told_S0 b m ts f fs cs x0 o i o1)))] (body Tryd.f125) [.cell 4 51] [bkD b m ts,.fn f fs cs] =
   some ([(0 : Int) ≤ (0 : Int) ∧ (0 : Int) < ((List.length ts : Nat) : Int),0 + 12 ≤ 12,Contract PR glob f (fs ++ List.map weak [D.agg [D.int .i64 (TrC.w0 (List.getD ts (Int.toNat (0 : Int)) (E.z E.trc))),D.int .i64 (TrC.w1 (List.getD ts (Int.toNat (0 : Int)) (E.z E.trc))),D.int .i64 (TrC.w2 (List.getD ts (Int.toNat (0 : Int)) (E.z E.trc))),D.int .i64 (TrC.w3 (List.getD ts (Int.toNat (0 : Int)) (E.z E.trc))),D.int .i64 (Span.lo (TrC.f0 (List.getD ts (Int.toNat (0 : Int)) (E.z E.trc)))),D.int .i64 (Span.hi (TrC.f0 (List.getD ts (Int.toNat (0 : Int)) (E.z E.trc)))),D.int .i64 (Span.lo (TrC.f1 (List.getD ts (Int.toNat (0 : Int)) (E.z E.trc)))),D.int .i64 (Span.hi (TrC.f1 (List.getD ts (Int.toNat (0 : Int)) (E.z E.trc)))),D.int .i64 (Span.lo (TrC.f2 (List.getD ts (Int.toNat (0 : Int)) (E.z E.trc)))),D.int .i64 (Span.hi (TrC.f2 (List.getD ts (Int.toNat (0 : Int)) (E.z E.trc)))),D.int .i64 (Span.lo (TrC.f3 (List.getD ts (Int.toNat (0 : Int)) (E.z E.trc)))),D.int .i64 (Span.hi (TrC.f3 (List.getD ts (Int.toNat (0 : Int)) (E.z E.trc))))]] ++ List.map (fun cs ↦ D.ref cs 0) cs) (D.agg [D.int .i64 (Span.lo o),D.int .i64 (Span.hi o)]),LoopT PR glob 28 (Code.at [1,1,0,1] (body Tryd.f125)) [(.tmp 1,.d (D.fn f fs cs)),(.tmp 4,.d (D.ptr 4 0)),(.tmp 5,.d (D.ptr 5 0)),(.tmp 15,.d (D.sl false E.trc ts)),(.tmp 16,.d (D.int .i64 (((List.length ts : Nat) : Int)))),(.tmp 17,.d (D.int .i64 0)),(.box 4,.bx (some (Box.mk false [D.int .i64 0,D.int .i64 0]))),(.box 5,.bx (some (Box.mk false [D.int .i64 (Span.lo o),D.int .i64 (Span.hi o)])))] Ex.normal (told_S0 b m ts f fs cs x0 o i o1),0 + 2 ≤ 2,0 + 2 ≤ 2],D.agg [D.int .i64 (Span.lo o1),D.int .i64 (Span.hi o1)]) := by kernel_rfl
theorem thick1_all (b : Book) (m : Mp) (ts : List TrC) (s day : Int) (turns : List Int) (x : TrC) (n : Int) :
  callF (mk PR (lookN types) glob 29) [] [(15,.int .i64 n)] [] (body Tryd.f168) [.cell 6 51] [trD x,.ref (cellsOf (bkD b m ts)) 0,.ref [.int .i64 s] 0,.ref [.int .i64 day] 0,.ref [.sl false .int turns] 0] =
   some ([0 + 0 + 4 ≤ 12,0 + 1 ≤ 1,0 + 1 ≤ 1,Contract PR glob 169 [D.agg [D.sl false E.sec (Book.secs b),D.sl false E.int (Book.turns b),D.sl false E.sv (Book.svs b),D.int .i64 (Book.rule b),D.int .i64 (Book.days b),D.map m,D.sl false E.trc ts],D.agg [D.int .i64 (TrC.w0 x),D.int .i64 (TrC.w1 x),D.int .i64 (TrC.w2 x),D.int .i64 (TrC.w3 x)],D.int .i64 s,D.int .i64 day,D.sl false E.int turns] (D.int .i64 n),0 + 1 ≤ 1,(0 : Int) ≤ s ∧ s < (Nat.cast : Nat → Int) 4,0 + 4 + Int.toNat s * 2 + 2 ≤ 12,0 + 0 + 1 ≤ 2,inI64 (List.getD [TrC.w0 x,TrC.w1 x,TrC.w2 x,TrC.w3 x,Span.lo (TrC.f0 x),Span.hi (TrC.f0 x),Span.lo (TrC.f1 x),Span.hi (TrC.f1 x),Span.lo (TrC.f2 x),Span.hi (TrC.f2 x),Span.lo (TrC.f3 x),Span.hi (TrC.f3 x)] (0 + 4 + Int.toNat s * 2 + 0) (0 : Int) - n),0 + 1 + 1 ≤ 2,inI64 (List.getD [TrC.w0 x,TrC.w1 x,TrC.w2 x,TrC.w3 x,Span.lo (TrC.f0 x),Span.hi (TrC.f0 x),Span.lo (TrC.f1 x),Span.hi (TrC.f1 x),Span.lo (TrC.f2 x),Span.hi (TrC.f2 x),Span.lo (TrC.f3 x),Span.hi (TrC.f3 x)] (0 + 4 + Int.toNat s * 2 + 1) (0 : Int) - n),0 + 2 ≤ 2],D.agg [D.int .i64 (List.getD [TrC.w0 x,TrC.w1 x,TrC.w2 x,TrC.w3 x,Span.lo (TrC.f0 x),Span.hi (TrC.f0 x),Span.lo (TrC.f1 x),Span.hi (TrC.f1 x),Span.lo (TrC.f2 x),Span.hi (TrC.f2 x),Span.lo (TrC.f3 x),Span.hi (TrC.f3 x)] (0 + 4 + Int.toNat s * 2 + 0) (0 : Int) - n),D.int .i64 (List.getD [TrC.w0 x,TrC.w1 x,TrC.w2 x,TrC.w3 x,Span.lo (TrC.f0 x),Span.hi (TrC.f0 x),Span.lo (TrC.f1 x),Span.hi (TrC.f1 x),Span.lo (TrC.f2 x),Span.hi (TrC.f2 x),Span.lo (TrC.f3 x),Span.hi (TrC.f3 x)] (0 + 4 + Int.toNat s * 2 + 1) (0 : Int) - n)]) := by kernel_rfl
theorem thick_all (b : Book) (m : Mp) (ts : List TrC) (s day : Int) (turns : List Int) (o : Span) :
  callF (mk PR (lookN types) glob 12) [] [(11,spD o)] [] (body Tryd.f123) [.cell 8 51] [bkD b m ts,.int .i64 s,.int .i64 day,.sl false .int turns] =
   some ([Contract PR glob 125 [D.agg [D.sl false E.sec (Book.secs b),D.sl false E.int (Book.turns b),D.sl false E.sv (Book.svs b),D.int .i64 (Book.rule b),D.int .i64 (Book.days b),D.map m,D.sl false E.trc ts],D.fn 168 [] [[D.sl false E.sec (Book.secs b),D.sl false E.int (Book.turns b),D.sl false E.sv (Book.svs b),D.int .i64 (Book.rule b),D.int .i64 (Book.days b),D.map m,D.sl false E.trc ts],[D.int .i64 s],[D.int .i64 day],[D.sl false E.int turns]]] (D.agg [D.int .i64 (Span.lo o),D.int .i64 (Span.hi o)]),0 + 2 ≤ 2],D.agg [D.int .i64 (Span.lo o),D.int .i64 (Span.hi o)]) := by kernel_rfl
end Go.Di

namespace Go.Di
open Proofs

theorem unworn_con : Contract PR glob 197 [] (wD 0 0 0 0) :=
 contract_of_path (G 3) unworn_fn unworn_all ⟨by omega,by omega,trivial⟩
theorem high_con : Contract PR glob 195 [] (.agg [.fn 205 [] []]) := contract_of_path (G 2) high_fn high_all trivial
theorem low_con : Contract PR glob 196 [] (.agg [.fn 206 [] []]) := contract_of_path (G 2) low_fn low_all trivial
theorem highF_con (s : Span) : Contract PR glob 205 [spD s] (.int .i64 s.hi) := contract_of_path (G 5) highF_fn (highF_all s) ⟨by omega,trivial⟩
theorem lowF_con (s : Span) : Contract PR glob 206 [spD s] (.int .i64 s.lo) := contract_of_path (G 5) lowF_fn (lowF_all s) ⟨by omega,trivial⟩

def leastF (a : Int) (xs : List Int) : Int := xs.foldl mn a
theorem least_con (a : Int) (xs : List Int) (hx : xs.length ≤ 1000) : Contract PR glob 172 [.int .i64 a,.sl false .int xs] (.int .i64 (leastF a xs)) := by
 refine contract_of_path (G 18) least_fn (least_all a xs xs.length (leastF a xs)) ⟨?_,trivial⟩
 rw [show Code.at [1,0,1] (body Tryd.f172) = .block 0 (.loop (Code.at [1,0,1,0,0] (body Tryd.f172))) from by kernel_rfl]
 refine LoopT.rounds (tt := lookN types) (S := fun i : {i : Nat // i ≤ xs.length} => least_S0 a xs i.1 (leastF a (xs.take i.1))) (fun i => xs.length - i.1) ?_ ⟨0,Nat.zero_le _⟩
 intro ⟨i,hi⟩
 by_cases hlt : i < xs.length
 ·have hf := take_foldl mn xs a i 0 hlt
  refine WpL.path (G 18) (least_0_on a xs i _) ?_ ⟨⟨i + 1,hlt⟩,?_,by dsimp only; omega⟩
  ·simp only [allP,decide_eq_true_eq,inI64]
   refine ⟨by omega,by omega,by omega,by omega,trivial⟩
  ·unfold leastF at *
   rw [hf]
   rfl
 ·have he : i = xs.length := by omega
  subst he
  refine WpL.path (G 18) (least_0_end a xs _ _) ?_ ⟨rfl,?_⟩
  ·simp only [allP,decide_eq_false_iff_not]
   exact ⟨by omega,trivial⟩
  ·rw [List.take_length]
   rfl

def bothF (s t : Span) : Span := ⟨mx s.lo t.lo,mn s.hi t.hi⟩
def hullF (s t : Span) : Span := ⟨mn s.lo t.lo,mx s.hi t.hi⟩
theorem both_con (s t : Span) : Contract PR glob 166 [spD s,spD t] (spD (bothF s t)) :=
 contract_of_path (G 17) both_fn (both_all s t) ⟨by omega,by omega,by omega,by omega,least_con s.hi [t.hi] (by simp),by omega,trivial⟩
theorem hull_con (s t : Span) : Contract PR glob 170 [spD s,spD t] (spD (hullF s t)) :=
 contract_of_path (G 17) hull_fn (hull_all s t) ⟨by omega,by omega,least_con s.lo [t.lo] (by simp),by omega,by omega,by omega,trivial⟩

/-! ### worn -/
def wF (w0 w1 w2 w3 p : Int) : Int := [w0,w1,w2,w3].getD p.toNat 0
def wornF (n w0 w1 w2 w3 : Int) (turns : List Int) (s : Int) : Nat → Int
 | 0 => 0
 | d + 1 => wornF n w0 w1 w2 w3 turns s d + wF w0 w1 w2 w3 (placeF n turns d s)

theorem wF_in {w0 w1 w2 w3 p : Int} (h0 : 0 ≤ w0 ∧ w0 ≤ 1000) (h1 : 0 ≤ w1 ∧ w1 ≤ 1000) (h2 : 0 ≤ w2 ∧ w2 ≤ 1000) (h3 : 0 ≤ w3 ∧ w3 ≤ 1000) : 0 ≤ wF w0 w1 w2 w3 p ∧ wF w0 w1 w2 w3 p ≤ 1000 := by
 unfold wF
 match p.toNat with
 | 0 => exact h0
 | 1 => exact h1
 | 2 => exact h2
 | 3 => exact h3
 | n + 4 => simp
theorem wornF_in {n w0 w1 w2 w3 s : Int} {turns : List Int} (h0 : 0 ≤ w0 ∧ w0 ≤ 1000) (h1 : 0 ≤ w1 ∧ w1 ≤ 1000) (h2 : 0 ≤ w2 ∧ w2 ≤ 1000) (h3 : 0 ≤ w3 ∧ w3 ≤ 1000) : ∀ d : Nat,0 ≤ wornF n w0 w1 w2 w3 turns s d ∧ wornF n w0 w1 w2 w3 turns s d ≤ 1000 * d
 | 0 => by simp [wornF]
 | d + 1 => by
  have h := wornF_in (n := n) (s := s) (turns := turns) h0 h1 h2 h3 d
  have h' := wF_in (p := placeF n turns d s) h0 h1 h2 h3
  simp only [wornF]
  omega
theorem wornF_zero {n s : Int} {turns : List Int} : ∀ d : Nat,wornF n 0 0 0 0 turns s d = 0
 | 0 => rfl
 | d + 1 => by
  simp only [wornF]
  rw [wornF_zero d]
  have := wF_in (w0 := 0) (w1 := 0) (w2 := 0) (w3 := 0) (p := placeF n turns d s) (by omega) (by omega) (by omega) (by omega)
  unfold wF at *
  match (placeF n turns (↑d) s).toNat with
  | 0 => rfl
  | 1 => rfl
  | 2 => rfl
  | 3 => rfl
  | k + 4 => simp

theorem eqI_iff : ∀ (a b : List Int),eqI a b = true ↔ a = b
 | [],[] => by simp [eqI]
 | x :: a,y :: b => by simp [eqI,eqI_iff a b]
 | [],_ :: _ => by simp [eqI]
 | _ :: _,[] => by simp [eqI]

theorem worn_con (b : Book) (m : Mp) (ts : List TrC) (w0 w1 w2 w3 : Int) (s day : Int) (turns : List Int) (h0 : 0 ≤ w0 ∧ w0 ≤ 1000) (h1 : 0 ≤ w1 ∧ w1 ≤ 1000) (h2 : 0 ≤ w2 ∧ w2 ≤ 1000) (h3 : 0 ≤ w3 ∧ w3 ≤ 1000)
  (hs : 0 ≤ s ∧ s < b.secs.length) (hn : b.secs.length ≤ 4) (ht : turns.length ≤ 1000) (hd : day ≤ 1000) :
  Contract PR glob 169 [bkD b m ts,wD w0 w1 w2 w3,.int .i64 s,.int .i64 day,.sl false .int turns] (.int .i64 (wornF b.secs.length w0 w1 w2 w3 turns s day.toNat)) := by
 by_cases hz : eqI [w0,w1,w2,w3] [0,0,0,0] = true
 ·have := (eqI_iff _ _).1 hz
  simp only [List.cons.injEq,and_true] at this
  obtain ⟨rfl,rfl,rfl,rfl⟩ := this
  rw [wornF_zero]
  exact contract_of_path (G 32) worn_fn (worn_none b m ts 0 0 0 0 s day turns) ⟨by omega,unworn_con,hz,trivial⟩
 ·have hz : eqI [w0,w1,w2,w3] [0,0,0,0] = false := by simpa using hz
  refine contract_of_path (G 32) worn_fn (worn_all b m ts w0 w1 w2 w3 s day turns day.toNat _) ⟨by omega,unworn_con,hz,?_,trivial⟩
  rw [show Code.at [1,1,1,0,1] (body Tryd.f169) = .block 0 (.loop (Code.at [1,1,1,0,1,0,0] (body Tryd.f169))) from by kernel_rfl]
  by_cases hneg : day ≤ 0
  ·refine LoopT.rounds (tt := lookN types) (S := fun _ : Unit => worn_S0 b m ts w0 w1 w2 w3 s day turns 0 0) (fun _ => 0) ?_ ()
   intro _
   refine WpL.path (G 32) (worn_0_end b m ts w0 w1 w2 w3 s day turns 0 0) ⟨by simp only [decide_eq_false_iff_not]; omega,trivial⟩ ⟨rfl,?_⟩
   rw [show day.toNat = 0 by omega]
   rfl
  ·refine LoopT.rounds (tt := lookN types) (S := fun i : {i : Nat // i ≤ day.toNat} => worn_S0 b m ts w0 w1 w2 w3 s day turns i.1 (wornF b.secs.length w0 w1 w2 w3 turns s i.1)) (fun i => day.toNat - i.1) ?_ ⟨0,Nat.zero_le _⟩
   intro ⟨i,hi⟩
   have hin := placeF_in (turns := turns) (day := i) hs
   have hw := wornF_in (n := b.secs.length) (s := s) (turns := turns) h0 h1 h2 h3 i
   have hw' := wF_in (p := placeF b.secs.length turns i s) h0 h1 h2 h3
   have hix : (0 + (placeF b.secs.length turns i s).toNat * 1) = (placeF b.secs.length turns i s).toNat := by omega
   by_cases hlt : i < day.toNat
   ·refine WpL.path (G 32) (worn_0_on b m ts w0 w1 w2 w3 s day turns i _) ?_ ⟨⟨i + 1,hlt⟩,?_,by dsimp only; omega⟩
    ·simp only [allP,decide_eq_true_eq,inI64]
     rw [hix]
     unfold wF at hw'
     refine ⟨by omega,place_con b m ts turns s i hs (by omega) ht,by omega,by omega,by omega,by omega,trivial⟩
    ·rw [hix]
     rfl
   ·have he : i = day.toNat := by omega
    subst he
    refine WpL.path (G 32) (worn_0_end b m ts w0 w1 w2 w3 s day turns _ _) ⟨by simp only [decide_eq_false_iff_not]; omega,trivial⟩ ⟨rfl,rfl⟩

/-! ### told,thick -/
def trc0 : TrC := ⟨0,0,0,0,⟨0,0⟩,⟨0,0⟩,⟨0,0⟩,⟨0,0⟩⟩
def toldF (g : TrC → Span) (ts : List TrC) : Span := ts.foldl (fun o t => hullF o (g t)) (g (ts.getD 0 trc0))

theorem told_con (b : Book) (m : Mp) (ts : List TrC) (f : FuncId) (fs : List D) (cs : List (List D)) (g : TrC → Span) (hg : ∀ t ∈ ts,Contract PR glob f (fs ++ [trD t] ++ cs.map fun cs => .ref cs 0) (spD (g t)))
  (hne : ts ≠ []) (hts : ts.length ≤ 100000) : Contract PR glob 125 [bkD b m ts,.fn f fs cs] (spD (toldF g ts)) := by
 have hpos : 0 < ts.length := List.length_pos_iff.2 hne
 have hmem : ∀ i,i < ts.length → ts.getD i trc0 ∈ ts := fun i hi => by
  rw [List.getD_eq_getElem?_getD,List.getElem?_eq_getElem hi]
  exact List.getElem_mem hi
 refine contract_of_path (G 28) told_fn (told_all b m ts f fs cs trc0 (g (ts.getD 0 trc0)) ts.length (toldF g ts)) ⟨by omega,by omega,hg _ (hmem 0 hpos),?_,by omega,by omega,trivial⟩
 rw [show Code.at [1,1,0,1] (body Tryd.f125) = .block 0 (.loop (Code.at [1,1,0,1,0,0] (body Tryd.f125))) from by kernel_rfl]
 refine LoopT.rounds (tt := lookN types) (S := fun i : {i : Nat // i ≤ ts.length} => told_S0 b m ts f fs cs trc0 (g (ts.getD 0 trc0)) i.1 ((ts.take i.1).foldl (fun o t => hullF o (g t)) (g (ts.getD 0 trc0)))) (fun i => ts.length - i.1) ?_ ⟨0,Nat.zero_le _⟩
 intro ⟨i,hi⟩
 by_cases hlt : i < ts.length
 ·have hf := take_foldl (fun o t => hullF o (g t)) ts (g (ts.getD 0 trc0)) i trc0 hlt
  refine WpL.path (G 28) (told_0_on b m ts f fs cs trc0 (g (ts.getD 0 trc0)) i _ (g (ts.getD i trc0)) (hullF ((ts.take i).foldl (fun o t => hullF o (g t)) (g (ts.getD 0 trc0))) (g (ts.getD i trc0)))) ?_ ⟨⟨i + 1,hlt⟩,?_,by dsimp only; omega⟩
  ·refine ⟨decide_eq_true (by omega),by omega,by omega,by omega,by omega,hg _ (hmem i hlt),hull_con _ _,by simp only [inI64]; omega,trivial⟩
  ·simp only
   rw [hf]
   rfl
 ·have he : i = ts.length := by omega
  subst he
  refine WpL.path (G 28) (told_0_end b m ts f fs cs _ _ _ _) ⟨decide_eq_false (Int.lt_irrefl _),trivial⟩ ⟨rfl,?_⟩
  rw [List.take_length]
  rfl
end Go.Di

namespace Go.Di
open Proofs
def bookD (b : Book) : D := .agg [.sl false .sec b.secs,.sl false .int b.turns,.sl false .sv b.svs,.int .i64 b.rule,.int .i64 b.days]
/-- A book\'s cells. -/
abbrev bkCells (b : Book) : List D := [.sl false .sec b.secs,.sl false .int b.turns,.sl false .sv b.svs,.int .i64 b.rule,.int .i64 b.days]
def svD (x : Sv) : D := .agg [.int .i64 x.s,.int .i64 x.d,.int .i64 x.r,.int .i64 x.e]
def withinF (n lo hi : Int) : Bool := decide (lo ≤ n) && decide (n ≤ hi)
def isSpanF (s : Span) (hi wide : Int) : Bool := decide (0 ≤ s.lo) && decide (s.lo ≤ s.hi) && decide (s.hi ≤ hi) && decide (s.hi - s.lo ≤ wide)
def isSectionF (b : Book) (n : Int) : Bool := withinF n 0 (b.secs.length - 1)
def isDayF (b : Book) (n : Int) : Bool := withinF n 0 b.days
def isSurveyF (b : Book) (x : Sv) : Bool := isSectionF b x.s && isDayF b x.d && withinF x.r 0 200 && withinF x.e 0 5
def sec0 : Sec := ⟨⟨0,0⟩,⟨0,0⟩⟩
def sv0 : Sv := ⟨0,0,0,0⟩
end Go.Di

