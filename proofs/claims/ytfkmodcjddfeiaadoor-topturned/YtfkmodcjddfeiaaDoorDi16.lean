/- Part 16: an interpreter over plain data for this code, with the proof that it says what the model does, and the contracts of the functions. No condition. -/
import Derived.Test.YtfkmodcjddfeiaaDoorDi15
set_option linter.unusedVariables false
set_option linter.unusedSimpArgs false
namespace Go.Di
open Proofs
theorem cutA_fn : FnOk PR (mk PR (lookN types) glob 49) 40 (body Tryd.f40) [.tmp 4,.tmp 5] := by refine ⟨Tryd.f40,?_,?_,?_,?_,?_⟩ <;> kernel_rfl
theorem turnA_fn : FnOk PR (mk PR (lookN types) glob 70) 54 (body Tryd.f54) [.tmp 2,.tmp 3] := by refine ⟨Tryd.f54,?_,?_,?_,?_,?_⟩ <;> kernel_rfl
def cutB_S0 (b : Book) (d : Int) (m : Mp) (ts : List TrC) (i : Nat) (y : Int) (r : List Int) : List (Key × Val) :=
 [(.tmp 1,.d (D.int .i64 d)),
  (.tmp 2,.d (D.ptr 2 0)),
  (.tmp 6,.d (D.ptr 6 0)),
  (.tmp 8,.d (.own 41 (y :: r).length)),
  (.tmp 23,.d (D.int .i64 (((List.length (Book.secs b) : Nat) : Int)))),
  (.tmp 24,.d (.int .i64 i)),
  (.box 2,.bx (some (Box.mk false (cellsOf (bookD b))))),
  (.box 6,.bx (some (Box.mk false (cellsOf (bkD b m ts))))),
  (.obj 41,.ob (some ⟨.int,y :: r⟩))]
def cutB_K0 : List Key := [.tmp 1,.tmp 2,.tmp 6,.tmp 8,.tmp 23,.tmp 24,.box 2,.box 6,.obj 41]
def cutA_S0 (b : Book) (d : Int) (m : Mp) (ts : List TrC) (i : Nat) : List (Key × Val) :=
 [(.tmp 1,.d (D.int .i64 d)),
  (.tmp 2,.d (D.ptr 2 0)),
  (.tmp 6,.d (D.ptr 6 0)),
  (.tmp 8,.d (D.sl true E.int [])),
  (.tmp 23,.d (D.int .i64 (((List.length (Book.secs b) : Nat) : Int)))),
  (.tmp 24,.d (.int .i64 i)),
  (.box 2,.bx (some (Box.mk false (cellsOf (bookD b))))),
  (.box 6,.bx (some (Box.mk false (cellsOf (bkD b m ts))))),
  (.obj 41,.ob none)]
def cutA_K0 : List Key := [.tmp 1,.tmp 2,.tmp 6,.tmp 8,.tmp 23,.tmp 24,.box 2,.box 6,.obj 41]
def turnA_S0 (b : Book) (m : Mp) (ts : List TrC) (i : Nat) (n : Int) : List (Key × Val) :=
 [(.tmp 1,.d (D.ptr 1 0)),
  (.tmp 4,.d (D.ptr 4 0)),
  (.tmp 6,.d (.int .i64 n)),
  (.tmp 22,.d (D.sl false E.sv (Book.svs b))),
  (.tmp 23,.d (D.int .i64 (((List.length (Book.svs b) : Nat) : Int)))),
  (.tmp 24,.d (.int .i64 i)),
  (.box 1,.bx (some (Box.mk false (cellsOf (bookD b))))),
  (.box 4,.bx (some (Box.mk false (cellsOf (bkD b m ts)))))]
def turnA_K0 : List Key := [.tmp 1,.tmp 4,.tmp 6,.tmp 22,.tmp 23,.tmp 24,.box 1,.box 4]
def turnA_S2 (b : Book) (m : Mp) (ts : List TrC) (n d best late k0 : Int) (i : Nat) : List (Key × Val) :=
 [(.tmp 1,.d (D.ptr 1 0)),
  (.tmp 4,.d (D.ptr 4 0)),
  (.tmp 9,.d (.int .i64 best)),
  (.tmp 10,.d (.int .i64 late)),
  (.tmp 11,.d (.int .i64 d)),
  (.box 1,.bx (some (Box.mk false (cellsOf (bookD b))))),
  (.box 4,.bx (some (Box.mk false (cellsOf (bkD b m ts)))))]
def turnA_K2 : List Key := [.tmp 1,.tmp 4,.tmp 9,.tmp 10,.tmp 11,.box 1,.box 4]
theorem cutB_0_no (b : Book) (d : Int) (m : Mp) (ts : List TrC) (i : Nat) (y : Int) (r : List Int) (o : Span) (t : Bool) :
  runK (mk PR (lookN types) glob 49) [(25,true),(37,false)] [(34,spD o),(37,.bool t)] [] (Code.at [1,1,1,1,0,1,0,0] (body Tryd.f40)) (cutB_S0 b d m ts i y r) cutB_K0 =
   some ([decide ((i : Int) < ((List.length (Book.secs b) : Nat) : Int)) = true,(0 : Int) ≤ (0 : Int) ∧ (0 : Int) < (Nat.cast : Nat → Int) 2,Contract PR glob 123 [bkD b m ts,D.int .i64 ((i : Int)),D.int .i64 d,D.sl false E.int (Book.turns b)] (D.agg [D.int .i64 (Span.lo o),D.int .i64 (Span.hi o)]),Contract PR glob 223 [D.agg [D.int .i64 (Span.lo o),D.int .i64 (Span.hi o)],D.int .i64 (Book.rule b)] (D.bool t),t = false,inI64 ((i : Int) + (1 : Int))],Ex.normal,[(.tmp 1,.d (D.int .i64 d)),(.tmp 2,.d (D.ptr 2 0)),(.tmp 6,.d (D.ptr 6 0)),(.tmp 8,.d (D.own 41 (List.length (y :: r)))),(.tmp 23,.d (D.int .i64 (((List.length (Book.secs b) : Nat) : Int)))),(.tmp 24,.d (D.int .i64 ((i : Int) + (1 : Int)))),(.box 2,.bx (some (Box.mk false (cellsOf (bookD b))))),(.box 6,.bx (some (Box.mk false (cellsOf (bkD b m ts))))),(.obj 41,.ob (some (Ob.mk E.int (y :: r))))]) := by kernel_rfl
theorem cutB_0_yes (b : Book) (d : Int) (m : Mp) (ts : List TrC) (i : Nat) (y : Int) (r : List Int) (o : Span) (t : Bool) :
  runK (mk PR (lookN types) glob 49) [(25,true),(37,true)] [(34,spD o),(37,.bool t)] [] (Code.at [1,1,1,1,0,1,0,0] (body Tryd.f40)) (cutB_S0 b d m ts i y r) cutB_K0 =
   some ([decide ((i : Int) < ((List.length (Book.secs b) : Nat) : Int)) = true,(0 : Int) ≤ (0 : Int) ∧ (0 : Int) < (Nat.cast : Nat → Int) 2,Contract PR glob 123 [bkD b m ts,D.int .i64 ((i : Int)),D.int .i64 d,D.sl false E.int (Book.turns b)] (D.agg [D.int .i64 (Span.lo o),D.int .i64 (Span.hi o)]),Contract PR glob 223 [D.agg [D.int .i64 (Span.lo o),D.int .i64 (Span.hi o)],D.int .i64 (Book.rule b)] (D.bool t),t = true,List.length (y :: r) = List.length ((y :: r)),List.length ((y :: r) ++ [(i : Int)]) * (8 + 1) ≤ 140737488355328,inI64 ((i : Int) + (1 : Int))],Ex.normal,[(.tmp 1,.d (D.int .i64 d)),(.tmp 2,.d (D.ptr 2 0)),(.tmp 6,.d (D.ptr 6 0)),(.tmp 8,.d (D.own 41 (List.length ((y :: r) ++ [(i : Int)])))),(.tmp 23,.d (D.int .i64 (((List.length (Book.secs b) : Nat) : Int)))),(.tmp 24,.d (D.int .i64 ((i : Int) + (1 : Int)))),(.box 2,.bx (some (Box.mk false (cellsOf (bookD b))))),(.box 6,.bx (some (Box.mk false (cellsOf (bkD b m ts))))),(.obj 41,.ob (some (Ob.mk E.int ((y :: r) ++ [(i : Int)]))))]) := by kernel_rfl
theorem cutB_0_end (b : Book) (d : Int) (m : Mp) (ts : List TrC) (i : Nat) (y : Int) (r : List Int) :
  runK (mk PR (lookN types) glob 49) [(25,false)] [] [] (Code.at [1,1,1,1,0,1,0,0] (body Tryd.f40)) (cutB_S0 b d m ts i y r) cutB_K0 =
   some ([decide ((i : Int) < ((List.length (Book.secs b) : Nat) : Int)) = false],Ex.exit 0,[(.tmp 1,.d (D.int .i64 d)),(.tmp 2,.d (D.ptr 2 0)),(.tmp 6,.d (D.ptr 6 0)),(.tmp 8,.d (D.own 41 (List.length (y :: r)))),(.tmp 23,.d (D.int .i64 (((List.length (Book.secs b) : Nat) : Int)))),(.tmp 24,.d (D.int .i64 ((i : Int)))),(.box 2,.bx (some (Box.mk false (cellsOf (bookD b))))),(.box 6,.bx (some (Box.mk false (cellsOf (bkD b m ts))))),(.obj 41,.ob (some (Ob.mk E.int (y :: r))))]) := by kernel_rfl
theorem cutA_0_no (b : Book) (d : Int) (m : Mp) (ts : List TrC) (i : Nat) (o : Span) (t : Bool) :
  runK (mk PR (lookN types) glob 49) [(25,true),(37,false)] [(34,spD o),(37,.bool t)] [] (Code.at [1,1,1,1,0,1,0,0] (body Tryd.f40)) (cutA_S0 b d m ts i) cutA_K0 =
   some ([decide ((i : Int) < ((List.length (Book.secs b) : Nat) : Int)) = true,(0 : Int) ≤ (0 : Int) ∧ (0 : Int) < (Nat.cast : Nat → Int) 2,Contract PR glob 123 [bkD b m ts,D.int .i64 ((i : Int)),D.int .i64 d,D.sl false E.int (Book.turns b)] (D.agg [D.int .i64 (Span.lo o),D.int .i64 (Span.hi o)]),Contract PR glob 223 [D.agg [D.int .i64 (Span.lo o),D.int .i64 (Span.hi o)],D.int .i64 (Book.rule b)] (D.bool t),t = false,inI64 ((i : Int) + (1 : Int))],Ex.normal,[(.tmp 1,.d (D.int .i64 d)),(.tmp 2,.d (D.ptr 2 0)),(.tmp 6,.d (D.ptr 6 0)),(.tmp 8,.d (D.sl true E.int [])),(.tmp 23,.d (D.int .i64 (((List.length (Book.secs b) : Nat) : Int)))),(.tmp 24,.d (D.int .i64 ((i : Int) + (1 : Int)))),(.box 2,.bx (some (Box.mk false (cellsOf (bookD b))))),(.box 6,.bx (some (Box.mk false (cellsOf (bkD b m ts))))),(.obj 41,.ob Option.none)]) := by kernel_rfl
theorem cutA_0_yes (b : Book) (d : Int) (m : Mp) (ts : List TrC) (i : Nat) (o : Span) (t : Bool) :
  runK (mk PR (lookN types) glob 49) [(25,true),(37,true)] [(34,spD o),(37,.bool t)] [] (Code.at [1,1,1,1,0,1,0,0] (body Tryd.f40)) (cutA_S0 b d m ts i) cutB_K0 =
   some ([decide ((i : Int) < ((List.length (Book.secs b) : Nat) : Int)) = true,(0 : Int) ≤ (0 : Int) ∧ (0 : Int) < (Nat.cast : Nat → Int) 2,Contract PR glob 123 [bkD b m ts,D.int .i64 ((i : Int)),D.int .i64 d,D.sl false E.int (Book.turns b)] (D.agg [D.int .i64 (Span.lo o),D.int .i64 (Span.hi o)]),Contract PR glob 223 [D.agg [D.int .i64 (Span.lo o),D.int .i64 (Span.hi o)],D.int .i64 (Book.rule b)] (D.bool t),t = true,1 * (8 + 1) ≤ 140737488355328,inI64 ((i : Int) + (1 : Int))],Ex.normal,[(.tmp 1,.d (D.int .i64 d)),(.tmp 2,.d (D.ptr 2 0)),(.tmp 6,.d (D.ptr 6 0)),(.tmp 8,.d (D.own 41 1)),(.tmp 23,.d (D.int .i64 (((List.length (Book.secs b) : Nat) : Int)))),(.tmp 24,.d (D.int .i64 ((i : Int) + (1 : Int)))),(.box 2,.bx (some (Box.mk false (cellsOf (bookD b))))),(.box 6,.bx (some (Box.mk false (cellsOf (bkD b m ts))))),(.obj 41,.ob (some (Ob.mk E.int ([] ++ [(i : Int)]))))]) := by kernel_rfl
theorem cutA_0_end (b : Book) (d : Int) (m : Mp) (ts : List TrC) (i : Nat) :
  runK (mk PR (lookN types) glob 49) [(25,false)] [] [] (Code.at [1,1,1,1,0,1,0,0] (body Tryd.f40)) (cutA_S0 b d m ts i) cutA_K0 =
   some ([decide ((i : Int) < ((List.length (Book.secs b) : Nat) : Int)) = false],Ex.exit 0,[(.tmp 1,.d (D.int .i64 d)),(.tmp 2,.d (D.ptr 2 0)),(.tmp 6,.d (D.ptr 6 0)),(.tmp 8,.d (D.sl true E.int [])),(.tmp 23,.d (D.int .i64 (((List.length (Book.secs b) : Nat) : Int)))),(.tmp 24,.d (D.int .i64 ((i : Int)))),(.box 2,.bx (some (Box.mk false (cellsOf (bookD b))))),(.box 6,.bx (some (Box.mk false (cellsOf (bkD b m ts))))),(.obj 41,.ob Option.none)]) := by kernel_rfl
theorem turnA_0_on (b : Book) (m : Mp) (ts : List TrC) (i : Nat) (n : Int) :
  runK (mk PR (lookN types) glob 70) [(25,true)] [] [] (Code.at [1,1,1,1,0,1,0,0] (body Tryd.f54)) (turnA_S0 b m ts i n) turnA_K0 =
   some ([decide ((i : Int) < ((List.length (Book.svs b) : Nat) : Int)) = true,(0 : Int) ≤ (i : Int) ∧ (i : Int) < ((List.length (Book.svs b) : Nat) : Int),0 + 4 ≤ 4,0 + 1 + 1 ≤ 4,inI64 ((i : Int) + (1 : Int))],Ex.normal,[(.tmp 1,.d (D.ptr 1 0)),(.tmp 4,.d (D.ptr 4 0)),(.tmp 6,.d (D.int .i64 (List.foldl mx n [Sv.d (List.getD (Book.svs b) (Int.toNat ((i : Int))) (E.z E.sv))]))),(.tmp 22,.d (D.sl false E.sv (Book.svs b))),(.tmp 23,.d (D.int .i64 (((List.length (Book.svs b) : Nat) : Int)))),(.tmp 24,.d (D.int .i64 ((i : Int) + (1 : Int)))),(.box 1,.bx (some (Box.mk false (cellsOf (bookD b))))),(.box 4,.bx (some (Box.mk false (cellsOf (bkD b m ts)))))]) := by kernel_rfl
theorem turnA_0_end (b : Book) (m : Mp) (ts : List TrC) (i : Nat) (n : Int) :
  runK (mk PR (lookN types) glob 70) [(25,false)] [] [] (Code.at [1,1,1,1,0,1,0,0] (body Tryd.f54)) (turnA_S0 b m ts i n) turnA_K0 =
   some ([decide ((i : Int) < ((List.length (Book.svs b) : Nat) : Int)) = false],Ex.exit 0,[(.tmp 1,.d (D.ptr 1 0)),(.tmp 4,.d (D.ptr 4 0)),(.tmp 6,.d (D.int .i64 n)),(.tmp 22,.d (D.sl false E.sv (Book.svs b))),(.tmp 23,.d (D.int .i64 (((List.length (Book.svs b) : Nat) : Int)))),(.tmp 24,.d (D.int .i64 ((i : Int)))),(.box 1,.bx (some (Box.mk false (cellsOf (bookD b))))),(.box 4,.bx (some (Box.mk false (cellsOf (bkD b m ts)))))]) := by kernel_rfl
theorem turnA_2_has (b : Book) (m : Mp) (ts : List TrC) (n d best late k0 : Int) (i : Nat) (t : Bool) :
  runK (mk PR (lookN types) glob 70) [(41,true),(47,true)] [(47,.bool t)] [] (Code.at [1,1,1,1,1,1,0,1,0,0] (body Tryd.f54)) (turnA_S2 b m ts n d best late k0 i) turnA_K2 =
   some ([decide (d ≤ Book.days b) = true,Contract PR glob 130 [D.sl false E.int (Book.turns b),D.int .i64 d] (D.bool t),t = true,inI64 (d + (1 : Int))],Ex.normal,[(.tmp 1,.d (D.ptr 1 0)),(.tmp 4,.d (D.ptr 4 0)),(.tmp 9,.d (D.int .i64 best)),(.tmp 10,.d (D.int .i64 late)),(.tmp 11,.d (D.int .i64 (d + (1 : Int)))),(.box 1,.bx (some (Box.mk false (cellsOf (bookD b))))),(.box 4,.bx (some (Box.mk false (cellsOf (bkD b m ts)))))]) := by kernel_rfl
theorem turnA_2_no (b : Book) (m : Mp) (ts : List TrC) (n d best late k0 : Int) (i : Nat) (t : Bool) (k : Int) :
  runK (mk PR (lookN types) glob 70) [(41,true),(47,false),(64,false)] [(47,.bool t),(61,.int .i64 k)] [] (Code.at [1,1,1,1,1,1,0,1,0,0] (body Tryd.f54)) (turnA_S2 b m ts n d best late k0 i) turnA_K2 =
   some ([decide (d ≤ Book.days b) = true,Contract PR glob 130 [D.sl false E.int (Book.turns b),D.int .i64 d] (D.bool t),t = false,(0 : Int) ≤ (0 : Int) ∧ (0 : Int) ≤ ((List.length (Book.turns b) : Nat) : Int) ∧ ((List.length (Book.turns b) : Nat) : Int) ≤ ((List.length (Book.turns b) : Nat) : Int) ∧ ((List.length (Book.turns b) : Nat) : Int) = ((List.length (Book.turns b) : Nat) : Int),List.length (List.drop (Int.toNat (0 : Int)) (List.take (Int.toNat (((List.length (Book.turns b) : Nat) : Int))) (Book.turns b)) ++ [d]) * (8 + 1) ≤ 140737488355328,List.length (List.drop (Int.toNat (0 : Int)) (List.take (Int.toNat (((List.length (Book.turns b) : Nat) : Int))) (Book.turns b)) ++ [d]) = List.length ((List.drop (Int.toNat (0 : Int)) (List.take (Int.toNat (((List.length (Book.turns b) : Nat) : Int))) (Book.turns b)) ++ [d])),Contract PR glob 129 [bkD b m ts,D.sl false E.int ((List.drop (Int.toNat (0 : Int)) (List.take (Int.toNat (((List.length (Book.turns b) : Nat) : Int))) (Book.turns b)) ++ [d]))] (D.int .i64 k),decide (k > late) = false,inI64 (d + (1 : Int))],Ex.normal,[(.tmp 1,.d (D.ptr 1 0)),(.tmp 4,.d (D.ptr 4 0)),(.tmp 9,.d (D.int .i64 best)),(.tmp 10,.d (D.int .i64 late)),(.tmp 11,.d (D.int .i64 (d + (1 : Int)))),(.box 1,.bx (some (Box.mk false (cellsOf (bookD b))))),(.box 4,.bx (some (Box.mk false (cellsOf (bkD b m ts)))))]) := by kernel_rfl
theorem turnA_2_yes (b : Book) (m : Mp) (ts : List TrC) (n d best late k0 : Int) (i : Nat) (t : Bool) (k : Int) :
  runK (mk PR (lookN types) glob 70) [(41,true),(47,false),(64,true)] [(47,.bool t),(61,.int .i64 k)] [] (Code.at [1,1,1,1,1,1,0,1,0,0] (body Tryd.f54)) (turnA_S2 b m ts n d best late k0 i) turnA_K2 =
   some ([decide (d ≤ Book.days b) = true,Contract PR glob 130 [D.sl false E.int (Book.turns b),D.int .i64 d] (D.bool t),t = false,(0 : Int) ≤ (0 : Int) ∧ (0 : Int) ≤ ((List.length (Book.turns b) : Nat) : Int) ∧ ((List.length (Book.turns b) : Nat) : Int) ≤ ((List.length (Book.turns b) : Nat) : Int) ∧ ((List.length (Book.turns b) : Nat) : Int) = ((List.length (Book.turns b) : Nat) : Int),List.length (List.drop (Int.toNat (0 : Int)) (List.take (Int.toNat (((List.length (Book.turns b) : Nat) : Int))) (Book.turns b)) ++ [d]) * (8 + 1) ≤ 140737488355328,List.length (List.drop (Int.toNat (0 : Int)) (List.take (Int.toNat (((List.length (Book.turns b) : Nat) : Int))) (Book.turns b)) ++ [d]) = List.length ((List.drop (Int.toNat (0 : Int)) (List.take (Int.toNat (((List.length (Book.turns b) : Nat) : Int))) (Book.turns b)) ++ [d])),Contract PR glob 129 [bkD b m ts,D.sl false E.int ((List.drop (Int.toNat (0 : Int)) (List.take (Int.toNat (((List.length (Book.turns b) : Nat) : Int))) (Book.turns b)) ++ [d]))] (D.int .i64 k),decide (k > late) = true,inI64 (d + (1 : Int))],Ex.normal,[(.tmp 1,.d (D.ptr 1 0)),(.tmp 4,.d (D.ptr 4 0)),(.tmp 9,.d (D.int .i64 d)),(.tmp 10,.d (D.int .i64 k)),(.tmp 11,.d (D.int .i64 (d + (1 : Int)))),(.box 1,.bx (some (Box.mk false (cellsOf (bookD b))))),(.box 4,.bx (some (Box.mk false (cellsOf (bkD b m ts)))))]) := by kernel_rfl
theorem turnA_2_end (b : Book) (m : Mp) (ts : List TrC) (n d best late k0 : Int) (i : Nat) :
  runK (mk PR (lookN types) glob 70) [(41,false)] [] [] (Code.at [1,1,1,1,1,1,0,1,0,0] (body Tryd.f54)) (turnA_S2 b m ts n d best late k0 i) turnA_K2 =
   some ([decide (d ≤ Book.days b) = false],Ex.exit 2,[(.tmp 1,.d (D.ptr 1 0)),(.tmp 4,.d (D.ptr 4 0)),(.tmp 9,.d (D.int .i64 best)),(.tmp 10,.d (D.int .i64 late)),(.tmp 11,.d (D.int .i64 d)),(.box 1,.bx (some (Box.mk false (cellsOf (bookD b))))),(.box 4,.bx (some (Box.mk false (cellsOf (bkD b m ts)))))]) := by kernel_rfl
theorem cutA_err (b : Book) (d : Int) (e : Int) :
  callF (mk PR (lookN types) glob 49) [(19,true)] [(14,.bool (isDayF b d)),(15,.tup [zbookD,.int .i64 e])] [] (body Tryd.f40) [.tmp 4,.tmp 5] [bookD b,.int .i64 d] =
   some ([Contract PR glob 122 [bookD b,D.int .i64 d] (D.bool (isDayF b d)),Contract PR glob 121 [bookD b,D.bool (isDayF b d)] (D.tup [D.agg [D.nil,D.nil,D.nil,D.int .i64 0,D.int .i64 0,D.nilmap,D.nil],D.int .i64 e]),(e != (0 : Int)) = true],D.tup [D.sl true E.int [],D.int .i64 e]) := by kernel_rfl
theorem cutA_false (b : Book) (d : Int) (m : Mp) :
  callF (mk PR (lookN types) glob 49) [] [(14,.bool (isDayF b d)),(15,.tup [bkD b m [],.int .i64 12])] [] (body Tryd.f40) [.tmp 4,.tmp 5] [bookD b,.int .i64 d] =
   some ([Contract PR glob 122 [bookD b,D.int .i64 d] (D.bool (isDayF b d)),Contract PR glob 121 [bookD b,D.bool (isDayF b d)] (D.tup [bkD b m [],D.int .i64 12])],D.tup [D.sl true E.int [],D.int .i64 12]) := by kernel_rfl
theorem cutA_none (b : Book) (d : Int) (m : Mp) (ts : List TrC) (i : Nat) :
  callF (mk PR (lookN types) glob 49) [] [(14,.bool (isDayF b d)),(15,.tup [bkD b m ts,.int .i64 0])] [(0,(cutA_K0,(.normal,cutA_S0 b d m ts i)))] (body Tryd.f40) [.tmp 4,.tmp 5] [bookD b,.int .i64 d] =
   some ([Contract PR glob 122 [bookD b,D.int .i64 d] (D.bool (isDayF b d)),Contract PR glob 121 [bookD b,D.bool (isDayF b d)] (D.tup [bkD b m ts,D.int .i64 0]),LoopT PR glob 49 (Code.at [1,1,1,1,0,1] (body Tryd.f40)) [(.tmp 1,.d (D.int .i64 d)),(.tmp 2,.d (D.ptr 2 0)),(.tmp 6,.d (D.ptr 6 0)),(.tmp 8,.d (D.sl true E.int [])),(.tmp 23,.d (D.int .i64 (((List.length (Book.secs b) : Nat) : Int)))),(.tmp 24,.d (D.int .i64 0)),(.box 2,.bx (some (Box.mk false (cellsOf (bookD b))))),(.box 6,.bx (some (Box.mk false (cellsOf (bkD b m ts))))),(.obj 41,.ob Option.none)] Ex.normal (cutA_S0 b d m ts i),(0 : Int) ≤ (0 : Int) ∧ (0 : Int) ≤ (Nat.cast : Nat → Int) 0 ∧ (Nat.cast : Nat → Int) 0 ≤ (Nat.cast : Nat → Int) 0 ∧ (Nat.cast : Nat → Int) 0 = (Nat.cast : Nat → Int) 0],D.tup [D.sl true E.int (List.drop (Int.toNat (0 : Int)) (List.take (Int.toNat ((Nat.cast : Nat → Int) 0)) [])),D.int .i64 0]) := by kernel_rfl
theorem cutA_some (b : Book) (d : Int) (m : Mp) (ts : List TrC) (i : Nat) (y : Int) (r : List Int) :
  callF (mk PR (lookN types) glob 49) [] [(14,.bool (isDayF b d)),(15,.tup [bkD b m ts,.int .i64 0])] [(0,(cutB_K0,(.normal,cutB_S0 b d m ts i y r)))] (body Tryd.f40) [.tmp 4,.tmp 5] [bookD b,.int .i64 d] =
   some ([Contract PR glob 122 [bookD b,D.int .i64 d] (D.bool (isDayF b d)),Contract PR glob 121 [bookD b,D.bool (isDayF b d)] (D.tup [bkD b m ts,D.int .i64 0]),LoopT PR glob 49 (Code.at [1,1,1,1,0,1] (body Tryd.f40)) [(.tmp 1,.d (D.int .i64 d)),(.tmp 2,.d (D.ptr 2 0)),(.tmp 6,.d (D.ptr 6 0)),(.tmp 8,.d (D.sl true E.int [])),(.tmp 23,.d (D.int .i64 (((List.length (Book.secs b) : Nat) : Int)))),(.tmp 24,.d (D.int .i64 0)),(.box 2,.bx (some (Box.mk false (cellsOf (bookD b))))),(.box 6,.bx (some (Box.mk false (cellsOf (bkD b m ts))))),(.obj 41,.ob Option.none)] Ex.normal (cutB_S0 b d m ts i y r),List.length (y :: r) = List.length ((y :: r)),List.length (y :: r) = List.length ((y :: r)),List.length (y :: r) = List.length ((y :: r)),(0 : Int) ≤ (0 : Int) ∧ (0 : Int) ≤ (Nat.cast : Nat → Int) (List.length ((y :: r))) ∧ (Nat.cast : Nat → Int) (List.length ((y :: r))) ≤ (Nat.cast : Nat → Int) (List.length ((y :: r))) ∧ (Nat.cast : Nat → Int) (List.length ((y :: r))) = (Nat.cast : Nat → Int) (List.length ((y :: r)))],D.tup [D.sl true E.int (List.drop (Int.toNat (0 : Int)) (List.take (Int.toNat ((Nat.cast : Nat → Int) (List.length ((y :: r))))) ((y :: r)))),D.int .i64 0]) := by kernel_rfl
theorem turnA_err (b : Book) (e : Int) :
  callF (mk PR (lookN types) glob 70) [(19,true)] [(15,.tup [zbookD,.int .i64 e])] [] (body Tryd.f54) [.tmp 2,.tmp 3] [bookD b] =
   some ([Contract PR glob 121 [bookD b,D.bool true] (D.tup [D.agg [D.nil,D.nil,D.nil,D.int .i64 0,D.int .i64 0,D.nilmap,D.nil],D.int .i64 e]),(e != (0 : Int)) = true],D.tup [D.int .i64 0,D.int .i64 e]) := by kernel_rfl
theorem turnA_false (b : Book) (m : Mp) :
  callF (mk PR (lookN types) glob 70) [] [(15,.tup [bkD b m [],.int .i64 12])] [] (body Tryd.f54) [.tmp 2,.tmp 3] [bookD b] =
   some ([Contract PR glob 121 [bookD b,D.bool true] (D.tup [bkD b m [],D.int .i64 12])],D.tup [D.int .i64 0,D.int .i64 12]) := by kernel_rfl
theorem turnA_none (b : Book) (m : Mp) (ts : List TrC) (n d best late k0 : Int) (i : Nat) :
  callF (mk PR (lookN types) glob 70) [(68,true)] [(15,.tup [bkD b m ts,.int .i64 0]),(36,.int .i64 k0)] [(0,(turnA_K0,(.normal,turnA_S0 b m ts i n))),(2,(turnA_K2,(.normal,turnA_S2 b m ts n d best late k0 i)))] (body Tryd.f54) [.tmp 2,.tmp 3] [bookD b] =
   some ([Contract PR glob 121 [bookD b,D.bool true] (D.tup [bkD b m ts,D.int .i64 0]),LoopT PR glob 70 (Code.at [1,1,1,1,0,1] (body Tryd.f54)) [(.tmp 1,.d (D.ptr 1 0)),(.tmp 4,.d (D.ptr 4 0)),(.tmp 6,.d (D.int .i64 1)),(.tmp 22,.d (D.sl false E.sv (Book.svs b))),(.tmp 23,.d (D.int .i64 (((List.length (Book.svs b) : Nat) : Int)))),(.tmp 24,.d (D.int .i64 0)),(.box 1,.bx (some (Box.mk false (cellsOf (bookD b))))),(.box 4,.bx (some (Box.mk false (cellsOf (bkD b m ts)))))] Ex.normal (turnA_S0 b m ts i n),Contract PR glob 129 [bkD b m ts,D.sl false E.int (Book.turns b)] (D.int .i64 k0),LoopT PR glob 70 (Code.at [1,1,1,1,1,1,0,1] (body Tryd.f54)) [(.tmp 1,.d (D.ptr 1 0)),(.tmp 4,.d (D.ptr 4 0)),(.tmp 9,.d (D.int .i64 0)),(.tmp 10,.d (D.int .i64 k0)),(.tmp 11,.d (D.int .i64 n)),(.box 1,.bx (some (Box.mk false (cellsOf (bookD b))))),(.box 4,.bx (some (Box.mk false (cellsOf (bkD b m ts)))))] Ex.normal (turnA_S2 b m ts n d best late k0 i),(best == (0 : Int)) = true],D.tup [D.int .i64 0,D.int .i64 4]) := by kernel_rfl
theorem turnA_some (b : Book) (m : Mp) (ts : List TrC) (n d best late k0 : Int) (i : Nat) :
  callF (mk PR (lookN types) glob 70) [(68,false)] [(15,.tup [bkD b m ts,.int .i64 0]),(36,.int .i64 k0)] [(0,(turnA_K0,(.normal,turnA_S0 b m ts i n))),(2,(turnA_K2,(.normal,turnA_S2 b m ts n d best late k0 i)))] (body Tryd.f54) [.tmp 2,.tmp 3] [bookD b] =
   some ([Contract PR glob 121 [bookD b,D.bool true] (D.tup [bkD b m ts,D.int .i64 0]),LoopT PR glob 70 (Code.at [1,1,1,1,0,1] (body Tryd.f54)) [(.tmp 1,.d (D.ptr 1 0)),(.tmp 4,.d (D.ptr 4 0)),(.tmp 6,.d (D.int .i64 1)),(.tmp 22,.d (D.sl false E.sv (Book.svs b))),(.tmp 23,.d (D.int .i64 (((List.length (Book.svs b) : Nat) : Int)))),(.tmp 24,.d (D.int .i64 0)),(.box 1,.bx (some (Box.mk false (cellsOf (bookD b))))),(.box 4,.bx (some (Box.mk false (cellsOf (bkD b m ts)))))] Ex.normal (turnA_S0 b m ts i n),Contract PR glob 129 [bkD b m ts,D.sl false E.int (Book.turns b)] (D.int .i64 k0),LoopT PR glob 70 (Code.at [1,1,1,1,1,1,0,1] (body Tryd.f54)) [(.tmp 1,.d (D.ptr 1 0)),(.tmp 4,.d (D.ptr 4 0)),(.tmp 9,.d (D.int .i64 0)),(.tmp 10,.d (D.int .i64 k0)),(.tmp 11,.d (D.int .i64 n)),(.box 1,.bx (some (Box.mk false (cellsOf (bookD b))))),(.box 4,.bx (some (Box.mk false (cellsOf (bkD b m ts)))))] Ex.normal (turnA_S2 b m ts n d best late k0 i),(best == (0 : Int)) = false],D.tup [D.int .i64 best,D.int .i64 0]) := by kernel_rfl
end Go.Di

namespace Go.Di
open Proofs

theorem whole_slice {α : Type} (l : List α) : List.drop (Int.toNat (0 : Int)) (List.take (Int.toNat ((Nat.cast : Nat → Int) l.length)) l) = l := by simp
theorem mx_le3 {a b c : Int} (h1 : a ≤ c) (h2 : b ≤ c) : mx a b ≤ c := by
 unfold mx
 split <;> assumption
/-! ### Cut -/
def cutGo (b : Book) (ts : List TrC) (d : Int) : Nat → List Int
 | 0 => []
 | i + 1 => if (thickF b ts b.turns i d).lo < b.rule then cutGo b ts d i ++ [(i : Int)] else cutGo b ts d i
theorem cutGo_len (b : Book) (ts : List TrC) (d : Int) : ∀ i,(cutGo b ts d i).length ≤ i
 | 0 => Nat.le_refl _
 | i + 1 => by
  have h := cutGo_len b ts d i
  simp only [cutGo]
  split
  ·simp only [List.length_append,List.length_singleton]; omega
  ·omega
def cutAF (b : Book) (d : Int) : List Int × Int := if errF b (isDayF b d) = 0 then (cutGo b (truthsF b []) d b.secs.length,0) else ([],errF b (isDayF b d))
def cutS (b : Book) (d : Int) (m : Mp) (ts : List TrC) (i : Nat) : List Int → List (Key × Val)
 | [] => cutA_S0 b d m ts i
 | y :: r => cutB_S0 b d m ts i y r
theorem cut_round (b : Book) (d : Int) (m : Mp) (ts : List TrC) (i : Nat) (o : Span) (l : List Int) (hi : i < b.secs.length) (hsz : l.length ≤ 1000) (h4 : b.secs.length ≤ 4)
  (hth : Contract PR glob 123 [bkD b m ts,.int .i64 i,.int .i64 d,.sl false .int b.turns] (spD o)) :
  WpL PR (mk PR (lookN types) glob 49) (Code.at [1,1,1,1,0,1,0,0] (body Tryd.f40)) (cutS b d m ts i l) fun e1 L1 => e1 = .normal ∧ L1 = cutS b d m ts (i + 1) (if o.lo < b.rule then l ++ [(i : Int)] else l) := by
 have hm := may_con o b.rule
 by_cases hlo : o.lo < b.rule
 ·rw [if_pos hlo]
  have hm' : decide (o.lo < b.rule) = true := decide_eq_true hlo
  cases l with
  | nil =>
   refine WpL.path (G 49) (cutA_0_yes b d m ts i o (decide (o.lo < b.rule))) ?_ ⟨rfl,rfl⟩
   exact ⟨decide_eq_true (by omega),by omega,hth,hm,hm',by omega,by simp only [inI64]; omega,trivial⟩
  | cons y r =>
   refine WpL.path (G 49) (cutB_0_yes b d m ts i y r o (decide (o.lo < b.rule))) ?_ ⟨rfl,rfl⟩
   exact ⟨decide_eq_true (by omega),by omega,hth,hm,hm',rfl,by simp only [List.length_append,List.length_cons] at hsz ⊢; simp; omega,by simp only [inI64]; omega,trivial⟩
 ·rw [if_neg hlo]
  have hm' : decide (o.lo < b.rule) = false := decide_eq_false hlo
  cases l with
  | nil =>
   refine WpL.path (G 49) (cutA_0_no b d m ts i o (decide (o.lo < b.rule))) ?_ ⟨rfl,rfl⟩
   exact ⟨decide_eq_true (by omega),by omega,hth,hm,hm',by simp only [inI64]; omega,trivial⟩
  | cons y r =>
   refine WpL.path (G 49) (cutB_0_no b d m ts i y r o (decide (o.lo < b.rule))) ?_ ⟨rfl,rfl⟩
   exact ⟨decide_eq_true (by omega),by omega,hth,hm,hm',by simp only [inI64]; omega,trivial⟩
theorem cut_loop {b : Book} (hV : Valid b) (d : Int) (hd : d ≤ 1000) (m : Mp) (hne : truthsF b [] ≠ []) :
  LoopT PR glob 49 (Code.at [1,1,1,1,0,1] (body Tryd.f40)) (cutS b d m (truthsF b []) 0 []) .normal (cutS b d m (truthsF b []) b.secs.length (cutGo b (truthsF b []) d b.secs.length)) := by
 refine LoopT.count (tt := lookN types) (id := 0) (c := Code.at [1,1,1,1,0,1,0,0] (body Tryd.f40)) (by kernel_rfl) b.secs.length (fun i => cutS b d m (truthsF b []) i (cutGo b (truthsF b []) d i)) (fun i hi => ?_) ?_
 ·have h4 := hV.secs.2
  have hl := cutGo_len b (truthsF b []) d i
  exact cut_round b d m (truthsF b []) i _ _ hi (by omega) h4 (thick_con b m (truthsF b []) i d b.turns (truths_ok hV []) hne (by have := truths_len hV []; omega) (by omega) h4 (by have := hV.turns; omega) hd)
 ·cases cutGo b (truthsF b []) d b.secs.length with
  | nil => exact WpL.path (G 49) (cutA_0_end b d m _ _) ⟨decide_eq_false (Int.lt_irrefl _),trivial⟩ ⟨.inl ⟨rfl,rfl⟩,rfl⟩
  | cons y r => exact WpL.path (G 49) (cutB_0_end b d m _ _ y r) ⟨decide_eq_false (Int.lt_irrefl _),trivial⟩ ⟨.inl ⟨rfl,rfl⟩,rfl⟩
theorem cutA_con {b : Book} (hs : Small b) (d : Int) : Contract PR glob 40 [bookD b,.int .i64 d] (.tup [.sl true .int (cutAF b d).1,.int .i64 (cutAF b d).2]) := by
 have h1 := isDay_con b d
 have hc := err_cases hs (isDayF b d)
 unfold cutAF
 generalize he : errF b (isDayF b d) = e at hc
 rcases hc with ⟨hne,h12,h3⟩ | ⟨h0,hV,his,hcan⟩
 ·rw [if_neg hne]
  by_cases e12 : e = 12
  ·obtain ⟨hV,his,hcan⟩ := h12 e12
   have ha := asked_false_con hs hV hcan
   subst e12
   have hr := cutA_false b d (.spot (openF b []))
   rw [his] at hr h1
   exact contract_of_path (G 49) cutA_fn hr ⟨h1,ha,trivial⟩
  ·exact contract_of_path (G 49) cutA_fn (cutA_err b d e) ⟨h1,h3 e12,by simpa using hne,trivial⟩
 ·subst h0
  rw [if_pos rfl]
  have hday := within_iff.1 his
  have hdd := hV.days
  have ha := asked_ok_con hs hV hcan
  have hl := cut_loop hV d (by omega) (.spot (openF b [])) (ne_of_can hcan)
  cases hcut : cutGo b (truthsF b []) d b.secs.length with
  | nil =>
   rw [hcut] at hl
   have hr := cutA_none b d (.spot (openF b [])) (truthsF b []) b.secs.length
   rw [his] at hr h1
   exact contract_of_path (G 49) cutA_fn hr ⟨h1,ha,hl,by omega,trivial⟩
  | cons y r =>
   rw [hcut] at hl
   have hr := cutA_some b d (.spot (openF b [])) (truthsF b []) b.secs.length y r
   rw [his] at hr h1
   refine Eq.subst (motive := fun l : List Int => Contract PR glob 40 [bookD b,.int .i64 d] (.tup [.sl true .int l,.int .i64 0])) ?_ (contract_of_path (G 49) cutA_fn hr ⟨h1,ha,hl,rfl,rfl,rfl,⟨by omega,by omega,by omega,rfl⟩,trivial⟩)
   exact whole_slice (y :: r)

/-! ### Turn -/
def fromGo (b : Book) (i : Nat) : Int := (b.svs.take i).foldl (fun n y => mx n y.d) 1
def fromF (b : Book) : Int := fromGo b b.svs.length
theorem fromGo_in {b : Book} (hd : ∀ y ∈ b.svs,0 ≤ y.d ∧ y.d ≤ 1000) : ∀ i,i ≤ b.svs.length → 1 ≤ fromGo b i ∧ fromGo b i ≤ 1000
 | 0,_ => by simp [fromGo]
 | i + 1,h => by
  have ih := fromGo_in hd i (by omega)
  have hf := take_foldl (fun n (y : Sv) => mx n y.d) b.svs (1 : Int) i sv0 (by omega)
  have hm : b.svs.getD i sv0 ∈ b.svs := by
   rw [List.getD_eq_getElem?_getD,List.getElem?_eq_getElem (by omega)]
   exact List.getElem_mem _
  have := hd _ hm
  unfold fromGo at *
  rw [hf]
  exact ⟨Int.le_trans ih.1 mx_ge.1,mx_le3 ih.2 this.2⟩
def turnStep (b : Book) (ts : List TrC) (p : Int × Int) (d : Int) : Int × Int :=
 if d ∈ b.turns then p else if soonestF b ts (b.turns ++ [d]) b.secs.length > p.2 then (d,soonestF b ts (b.turns ++ [d]) b.secs.length) else p
def turnGo (b : Book) (ts : List TrC) (from_ : Int) : Nat → Int × Int
 | 0 => (0,soonestF b ts b.turns b.secs.length)
 | i + 1 => turnStep b ts (turnGo b ts from_ i) (from_ + i)
def turnLF (b : Book) (ts : List TrC) : Int × Int := turnGo b ts (fromF b) (b.days + 1 - fromF b).toNat
def turnAF (b : Book) : Int × Int := if errF b true = 0 then (if (turnLF b (truthsF b [])).1 = 0 then (0,4) else ((turnLF b (truthsF b [])).1,0)) else (0,errF b true)
theorem turn_from {b : Book} (hV : Valid b) (m : Mp) (ts : List TrC) :
  LoopT PR glob 70 (Code.at [1,1,1,1,0,1] (body Tryd.f54)) (turnA_S0 b m ts 0 1) .normal (turnA_S0 b m ts b.svs.length (fromF b)) := by
 refine LoopT.count (tt := lookN types) (id := 0) (c := Code.at [1,1,1,1,0,1,0,0] (body Tryd.f54)) (by kernel_rfl) b.svs.length (fun i => turnA_S0 b m ts i (fromGo b i)) (fun i hi => ?_) ?_
 ·have h8 := hV.svs
  have hf := take_foldl (fun n (y : Sv) => mx n y.d) b.svs (1 : Int) i sv0 hi
  refine WpL.path (G 70) (turnA_0_on b m ts i _) ⟨decide_eq_true (by omega),by omega,by omega,by omega,by simp only [inI64]; omega,trivial⟩ ⟨rfl,?_⟩
  rw [show fromGo b (i + 1) = _ from hf]
  rfl
 ·refine WpL.path (G 70) (turnA_0_end b m ts _ _) ⟨decide_eq_false (Int.lt_irrefl _),trivial⟩ ⟨.inl ⟨rfl,rfl⟩,rfl⟩
theorem turn_days {b : Book} (hV : Valid b) (m : Mp) (hne : truthsF b [] ≠ []) (n k0 : Int) (i : Nat) (hk : k0 = soonestF b (truthsF b []) b.turns b.secs.length) :
  ∃ d,LoopT PR glob 70 (Code.at [1,1,1,1,1,1,0,1] (body Tryd.f54)) (turnA_S2 b m (truthsF b []) n (fromF b) 0 k0 k0 i) .normal (turnA_S2 b m (truthsF b []) n d (turnLF b (truthsF b [])).1 (turnLF b (truthsF b [])).2 k0 i) := by
 have hfr := fromGo_in (b := b) (fun y hy => by have := (survey_iff.1 (hV.sv y hy)).2.1; have := hV.days; omega) b.svs.length (Nat.le_refl _)
 have hfr : 1 ≤ fromF b ∧ fromF b ≤ 1000 := hfr
 have hdd := hV.days
 have ht4 := hV.turns
 refine ⟨fromF b + (b.days + 1 - fromF b).toNat,?_⟩
 have := LoopT.count (P := PR) (glob := glob) (n := 70) (tt := lookN types) (id := 2) (b := Code.at [1,1,1,1,1,1,0,1] (body Tryd.f54)) (c := Code.at [1,1,1,1,1,1,0,1,0,0] (body Tryd.f54)) (by kernel_rfl) (b.days + 1 - fromF b).toNat
  (fun j => turnA_S2 b m (truthsF b []) n (fromF b + j) (turnGo b (truthsF b []) (fromF b) j).1 (turnGo b (truthsF b []) (fromF b) j).2 k0 i) (e := .normal) (L' := turnA_S2 b m (truthsF b []) n (fromF b + (b.days + 1 - fromF b).toNat) (turnLF b (truthsF b [])).1 (turnLF b (truthsF b [])).2 k0 i) (fun j hj => ?_) ?_
 ·subst hk
  simpa [turnGo] using this
 ·have hc := contains_con b.turns (fromF b + j) (by omega)
  have hst : ∀ p : Int × Int,turnGo b (truthsF b []) (fromF b) (j + 1) = p → turnA_S2 b m (truthsF b []) n (fromF b + (j + 1 : Nat)) (turnGo b (truthsF b []) (fromF b) (j + 1)).1 (turnGo b (truthsF b []) (fromF b) (j + 1)).2 k0 i = turnA_S2 b m (truthsF b []) n (fromF b + j + 1) p.1 p.2 k0 i := fun p hp => by
   rw [hp]
   congr 1
   omega
  by_cases hin : fromF b + (j : Int) ∈ b.turns
  ·have hd : decide (fromF b + (j : Int) ∈ b.turns) = true := decide_eq_true hin
   refine WpL.path (G 70) (turnA_2_has b m (truthsF b []) n _ _ _ k0 i _) ⟨decide_eq_true (by omega),hc,hd,by simp only [inI64]; omega,trivial⟩ ⟨rfl,?_⟩
   rw [hst (turnGo b (truthsF b []) (fromF b) j) (by simp only [turnGo,turnStep]; rw [if_pos hin])]
   rfl
  ·have hd : decide (fromF b + (j : Int) ∈ b.turns) = false := decide_eq_false hin
   have hta : List.drop (Int.toNat (0 : Int)) (List.take (Int.toNat (((List.length b.turns : Nat) : Int))) b.turns) = b.turns := by simp
   have hso := soonest_con b m (truthsF b []) (b.turns ++ [fromF b + j]) (truths_ok hV []) hne (by have := truths_len hV []; omega) hV.secs.2 (by simp; omega) (by omega)
   by_cases hgt : soonestF b (truthsF b []) (b.turns ++ [fromF b + (j : Int)]) b.secs.length > (turnGo b (truthsF b []) (fromF b) j).2
   ·have hr := turnA_2_yes b m (truthsF b []) n (fromF b + j) (turnGo b (truthsF b []) (fromF b) j).1 (turnGo b (truthsF b []) (fromF b) j).2 k0 i (decide (fromF b + (j : Int) ∈ b.turns)) (soonestF b (truthsF b []) (b.turns ++ [fromF b + (j : Int)]) b.secs.length)
    rw [hta] at hr
    refine WpL.path (G 70) hr ⟨decide_eq_true (by omega),hc,hd,by omega,by simp; omega,rfl,hso,decide_eq_true hgt,by simp only [inI64]; omega,trivial⟩ ⟨rfl,?_⟩
    rw [hst (fromF b + j,soonestF b (truthsF b []) (b.turns ++ [fromF b + (j : Int)]) b.secs.length) (by simp only [turnGo,turnStep]; rw [if_neg hin,if_pos hgt])]
    rfl
   ·have hr := turnA_2_no b m (truthsF b []) n (fromF b + j) (turnGo b (truthsF b []) (fromF b) j).1 (turnGo b (truthsF b []) (fromF b) j).2 k0 i (decide (fromF b + (j : Int) ∈ b.turns)) (soonestF b (truthsF b []) (b.turns ++ [fromF b + (j : Int)]) b.secs.length)
    rw [hta] at hr
    refine WpL.path (G 70) hr ⟨decide_eq_true (by omega),hc,hd,by omega,by simp; omega,rfl,hso,decide_eq_false hgt,by simp only [inI64]; omega,trivial⟩ ⟨rfl,?_⟩
    rw [hst (turnGo b (truthsF b []) (fromF b) j) (by simp only [turnGo,turnStep]; rw [if_neg hin,if_neg hgt])]
    rfl
 ·refine WpL.path (G 70) (turnA_2_end b m (truthsF b []) n _ _ _ k0 i) ⟨decide_eq_false (by omega),trivial⟩ ⟨.inl ⟨rfl,rfl⟩,rfl⟩
theorem turnA_con {b : Book} (hs : Small b) : Contract PR glob 54 [bookD b] (.tup [.int .i64 (turnAF b).1,.int .i64 (turnAF b).2]) := by
 have hc := err_cases hs true
 unfold turnAF
 generalize he : errF b true = e at hc
 rcases hc with ⟨hne,h12,h3⟩ | ⟨h0,hV,his,hcan⟩
 ·rw [if_neg hne]
  by_cases e12 : e = 12
  ·obtain ⟨hV,his,hcan⟩ := h12 e12
   have ha := asked_false_con hs hV hcan
   subst e12
   exact contract_of_path (G 70) turnA_fn (turnA_false b (.spot (openF b []))) ⟨ha,trivial⟩
  ·exact contract_of_path (G 70) turnA_fn (turnA_err b e) ⟨h3 e12,by simpa using hne,trivial⟩
 ·subst h0
  rw [if_pos rfl]
  have ha := asked_ok_con hs hV hcan
  have hdd := hV.days
  have h0 := turn_from hV (.spot (openF b [])) (truthsF b [])
  have hso := soonest_con b (.spot (openF b [])) (truthsF b []) b.turns (truths_ok hV []) (ne_of_can hcan) (by have := truths_len hV []; omega) hV.secs.2 (by have := hV.turns; omega) (by omega)
  obtain ⟨d,h2⟩ := turn_days hV (.spot (openF b [])) (ne_of_can hcan) (fromF b) _ b.svs.length rfl
  by_cases hz : (turnLF b (truthsF b [])).1 = 0
  ·rw [if_pos hz]
   exact contract_of_path (G 70) turnA_fn (turnA_none b (.spot (openF b [])) (truthsF b []) (fromF b) d _ _ _ b.svs.length) ⟨ha,h0,hso,h2,by simpa using hz,trivial⟩
  ·rw [if_neg hz]
   exact contract_of_path (G 70) turnA_fn (turnA_some b (.spot (openF b [])) (truthsF b []) (fromF b) d _ _ _ b.svs.length) ⟨ha,h0,hso,h2,by simpa using hz,trivial⟩
end Go.Di

namespace Go.Di
open Proofs
end Go.Di

namespace Go.Di
open Proofs

theorem relA_weaken {R : Foot} {w : World} {e : E} {xs : List e.α} {v : Value} (h : RelA R w (.sl true e xs) v) : RelA R w (.sl false e xs) v := by
 obtain ⟨A,c,hv,hc,hm,_,hr⟩ := h
 exact ⟨A,c,hv,hc,hm,fun h => (by cases h),hr⟩

/-! ### Wrong: surveys that are left out -/
end Go.Di

/-
 DI,part Y: a function that captures a box and its own variable.
-/
namespace Go.Di
open Go.RowKit

section
variable {P : Program} {C : Cfg} {w0 w w' : World} {R0 R : Foot} {a : Act} {s : St} {β : Nat → Nat} {σ : Sig} {Q : Exit → Act → World → Prop}

theorem SelfR.make {f : FuncId} {cells : List D} {p v : Value} {b : Nat} (hv : v = .func (.func f) #[] #[p,.pointer (some ⟨b,0,none⟩)]) (hp : RelCap R w cells p) (hR : R b 0) (hc : w.cell? ⟨b,0,none⟩ = some v) : ∀ n,SelfR R w f cells n v
 | 0 => trivial
 | n + 1 => ⟨p,b,0,v,hv,hp,hR,hc,⟨_,_,hv⟩,SelfR.make hv hp hR hc n⟩

end
end Go.Di

namespace Go.Di
open Proofs
end Go.Di

namespace Go.Di
open Proofs

/-! ### Wrong -/
end Go.Di

namespace Go.Di
open Proofs
def insideF (n lo hi : Int) : Bool := decide (n ≥ lo) && decide (n ≤ hi)
end Go.Di

namespace Go.Di
open Proofs
theorem rangeB_fn : FnOk PR (mk PR (lookN types) glob 8) 61 (body Tryd.f61) [.cell 4 51] := by refine ⟨Tryd.f61,?_,?_,?_,?_,?_⟩ <;> kernel_rfl
theorem point_fn : FnOk PR (mk PR (lookN types) glob 6) 49 (body Tryd.f49) [.cell 2 51] := by refine ⟨Tryd.f49,?_,?_,?_,?_,?_⟩ <;> kernel_rfl
theorem inside_fn : FnOk PR (mk PR (lookN types) glob 15) 50 (body Tryd.f50) [.tmp 6] := by refine ⟨Tryd.f50,?_,?_,?_,?_,?_⟩ <;> kernel_rfl
theorem validB_fn : FnOk PR (mk PR (lookN types) glob 24) 117 (body Tryd.f117) [.tmp 6] := by refine ⟨Tryd.f117,?_,?_,?_,?_,?_⟩ <;> kernel_rfl
theorem alike_fn : FnOk PR (mk PR (lookN types) glob 26) 55 (body Tryd.f55) [.tmp 4] := by refine ⟨Tryd.f55,?_,?_,?_,?_,?_⟩ <;> kernel_rfl
theorem modB_fn : FnOk PR (mk PR (lookN types) glob 17) 39 (body Tryd.f39) [.tmp 4] := by refine ⟨Tryd.f39,?_,?_,?_,?_,?_⟩ <;> kernel_rfl
theorem atB_fn : FnOk PR (mk PR (lookN types) glob 19) 46 (body Tryd.f46) [.tmp 4] := by refine ⟨Tryd.f46,?_,?_,?_,?_,?_⟩ <;> kernel_rfl
def alike_S0 (xs ys : List Int) (i : Nat) : List (Key × Val) :=
 [(.tmp 0,.d (D.sl false E.int xs)),
  (.tmp 1,.d (D.sl false E.int ys)),
  (.tmp 5,.d (.int .i64 i))]
def alike_K0 : List Key := [.tmp 0,.tmp 1,.tmp 5]
def atB_S0 (xs : List Int) (v : Int) (i : Nat) : List (Key × Val) :=
 [(.tmp 0,.d (D.sl false E.int xs)),
  (.tmp 1,.d (D.int .i64 v)),
  (.tmp 5,.d (.int .i64 i))]
def atB_K0 : List Key := [.tmp 0,.tmp 1,.tmp 5]
theorem alike_0_on (xs ys : List Int) (i : Nat) :
  runK (mk PR (lookN types) glob 26) [(14,true),(25,false)] [] [] (Code.at [1,1,0,1,0,0] (body Tryd.f55)) (alike_S0 xs ys i) alike_K0 =
   some ([decide ((i : Int) < ((List.length xs : Nat) : Int)) = true,(0 : Int) ≤ (i : Int) ∧ (i : Int) < ((List.length xs : Nat) : Int),0 + 1 ≤ 1,(0 : Int) ≤ (i : Int) ∧ (i : Int) < ((List.length ys : Nat) : Int),0 + 1 ≤ 1,(List.getD xs (Int.toNat ((i : Int))) (E.z E.int) != List.getD ys (Int.toNat ((i : Int))) (E.z E.int)) = false,inI64 ((i : Int) + (1 : Int))],Ex.normal,[(.tmp 0,.d (D.sl false E.int xs)),(.tmp 1,.d (D.sl false E.int ys)),(.tmp 5,.d (D.int .i64 ((i : Int) + (1 : Int))))]) := by kernel_rfl
theorem alike_0_diff (xs ys : List Int) (i : Nat) :
  runK (mk PR (lookN types) glob 26) [(14,true),(25,true)] [] [] (Code.at [1,1,0,1,0,0] (body Tryd.f55)) (alike_S0 xs ys i) [.tmp 0,.tmp 1,.tmp 5,.tmp 4] =
   some ([decide ((i : Int) < ((List.length xs : Nat) : Int)) = true,(0 : Int) ≤ (i : Int) ∧ (i : Int) < ((List.length xs : Nat) : Int),0 + 1 ≤ 1,(0 : Int) ≤ (i : Int) ∧ (i : Int) < ((List.length ys : Nat) : Int),0 + 1 ≤ 1,(List.getD xs (Int.toNat ((i : Int))) (E.z E.int) != List.getD ys (Int.toNat ((i : Int))) (E.z E.int)) = true],Ex.ret,[(.tmp 0,.d (D.sl false E.int xs)),(.tmp 1,.d (D.sl false E.int ys)),(.tmp 5,.d (D.int .i64 ((i : Int)))),(.tmp 4,.d (D.bool false))]) := by kernel_rfl
theorem alike_0_end (xs ys : List Int) (i : Nat) :
  runK (mk PR (lookN types) glob 26) [(14,false)] [] [] (Code.at [1,1,0,1,0,0] (body Tryd.f55)) (alike_S0 xs ys i) alike_K0 =
   some ([decide ((i : Int) < ((List.length xs : Nat) : Int)) = false],Ex.exit 0,[(.tmp 0,.d (D.sl false E.int xs)),(.tmp 1,.d (D.sl false E.int ys)),(.tmp 5,.d (D.int .i64 ((i : Int))))]) := by kernel_rfl
theorem atB_0_on (xs : List Int) (v : Int) (i : Nat) :
  runK (mk PR (lookN types) glob 19) [(9,true),(17,false)] [] [] (Code.at [1,0,1,0,0] (body Tryd.f46)) (atB_S0 xs v i) atB_K0 =
   some ([decide ((i : Int) < ((List.length xs : Nat) : Int)) = true,(0 : Int) ≤ (i : Int) ∧ (i : Int) < ((List.length xs : Nat) : Int),0 + 1 ≤ 1,(List.getD xs (Int.toNat ((i : Int))) (E.z E.int) == v) = false,inI64 ((i : Int) + (1 : Int))],Ex.normal,[(.tmp 0,.d (D.sl false E.int xs)),(.tmp 1,.d (D.int .i64 v)),(.tmp 5,.d (D.int .i64 ((i : Int) + (1 : Int))))]) := by kernel_rfl
theorem atB_0_hit (xs : List Int) (v : Int) (i : Nat) :
  runK (mk PR (lookN types) glob 19) [(9,true),(17,true)] [] [] (Code.at [1,0,1,0,0] (body Tryd.f46)) (atB_S0 xs v i) [.tmp 0,.tmp 1,.tmp 5,.tmp 4] =
   some ([decide ((i : Int) < ((List.length xs : Nat) : Int)) = true,(0 : Int) ≤ (i : Int) ∧ (i : Int) < ((List.length xs : Nat) : Int),0 + 1 ≤ 1,(List.getD xs (Int.toNat ((i : Int))) (E.z E.int) == v) = true],Ex.ret,[(.tmp 0,.d (D.sl false E.int xs)),(.tmp 1,.d (D.int .i64 v)),(.tmp 5,.d (D.int .i64 ((i : Int)))),(.tmp 4,.d (D.int .i64 ((i : Int))))]) := by kernel_rfl
theorem atB_0_end (xs : List Int) (v : Int) (i : Nat) :
  runK (mk PR (lookN types) glob 19) [(9,false)] [] [] (Code.at [1,0,1,0,0] (body Tryd.f46)) (atB_S0 xs v i) atB_K0 =
   some ([decide ((i : Int) < ((List.length xs : Nat) : Int)) = false],Ex.exit 0,[(.tmp 0,.d (D.sl false E.int xs)),(.tmp 1,.d (D.int .i64 v)),(.tmp 5,.d (D.int .i64 ((i : Int))))]) := by kernel_rfl
def alike_T0_diff (xs ys : List Int) (i : Nat)  : List (Key × Val) :=
 [(.tmp 0,.d (D.sl false E.int xs)),(.tmp 1,.d (D.sl false E.int ys)),(.tmp 5,.d (D.int .i64 ((i : Int)))),(.tmp 4,.d (D.bool false))]
def atB_T0_hit (xs : List Int) (v : Int) (i : Nat)  : List (Key × Val) :=
 [(.tmp 0,.d (D.sl false E.int xs)),(.tmp 1,.d (D.int .i64 v)),(.tmp 5,.d (D.int .i64 ((i : Int)))),(.tmp 4,.d (D.int .i64 ((i : Int))))]
theorem rangeB_all (a c : Int) :
  callF (mk PR (lookN types) glob 8) [] [] [] (body Tryd.f61) [.cell 4 51] [.int .i64 a,.int .i64 c] =
   some ([0 + 2 ≤ 2],D.agg [D.int .i64 a,D.int .i64 c]) := by kernel_rfl
theorem point_all (a : Int) :
  callF (mk PR (lookN types) glob 6) [] [(5,spD ⟨a,a⟩)] [] (body Tryd.f49) [.cell 2 51] [.int .i64 a] =
   some ([Contract PR glob 61 [D.int .i64 a,D.int .i64 a] (D.agg [D.int .i64 (Span.lo (Span.mk a a)),D.int .i64 (Span.hi (Span.mk a a))]),0 + 2 ≤ 2],D.agg [D.int .i64 (Span.lo (Span.mk a a)),D.int .i64 (Span.hi (Span.mk a a))]) := by kernel_rfl
theorem inside_no (n lo hi : Int) :
  callF (mk PR (lookN types) glob 15) [(10,false)] [] [] (body Tryd.f50) [.tmp 6] [.int .i64 n,.int .i64 lo,.int .i64 hi] =
   some ([decide (n ≥ lo) = false,decide (n ≥ lo) = false,decide (n ≥ lo) = false,decide (n ≥ lo) = false],D.bool false) := by kernel_rfl
theorem inside_yes (n lo hi : Int) :
  callF (mk PR (lookN types) glob 15) [(10,true)] [] [] (body Tryd.f50) [.tmp 6] [.int .i64 n,.int .i64 lo,.int .i64 hi] =
   some ([decide (n ≥ lo) = true,decide (n ≥ lo) = true,decide (n ≥ lo) = true,decide (n ≥ lo) = true],D.bool (decide (n ≤ hi))) := by kernel_rfl
theorem validB_a (s : Span) (lo hi : Int) :
  callF (mk PR (lookN types) glob 24) [(11,false)] [] [] (body Tryd.f117) [.tmp 6] [spD s,.int .i64 lo,.int .i64 hi] =
   some ([0 + 0 + 1 ≤ 2,decide (Span.lo s ≥ lo) = false,decide (Span.lo s ≥ lo) = false,decide (Span.lo s ≥ lo) = false,decide (Span.lo s ≥ lo) = false,decide (Span.lo s ≥ lo) = false,decide (Span.lo s ≥ lo) = false],D.bool false) := by kernel_rfl
theorem validB_b (s : Span) (lo hi : Int) :
  callF (mk PR (lookN types) glob 24) [(11,true),(18,false)] [] [] (body Tryd.f117) [.tmp 6] [spD s,.int .i64 lo,.int .i64 hi] =
   some ([0 + 0 + 1 ≤ 2,decide (Span.lo s ≥ lo) = true,decide (Span.lo s ≥ lo) = true,0 + 0 + 1 ≤ 2,decide (Span.lo s ≥ lo) = true,decide (Span.lo s ≥ lo) = true,0 + 1 + 1 ≤ 2,decide (Span.lo s ≥ lo) = true,decide (Span.lo s ≥ lo) = true,decide (Span.lo s ≤ Span.hi s) = false,decide (Span.lo s ≤ Span.hi s) = false,decide (Span.lo s ≤ Span.hi s) = false,decide (Span.lo s ≤ Span.hi s) = false,decide (Span.lo s ≤ Span.hi s) = false],D.bool false) := by kernel_rfl
theorem validB_c (s : Span) (lo hi : Int) :
  callF (mk PR (lookN types) glob 24) [(11,true),(18,true)] [] [] (body Tryd.f117) [.tmp 6] [spD s,.int .i64 lo,.int .i64 hi] =
   some ([0 + 0 + 1 ≤ 2,decide (Span.lo s ≥ lo) = true,decide (Span.lo s ≥ lo) = true,0 + 0 + 1 ≤ 2,decide (Span.lo s ≥ lo) = true,decide (Span.lo s ≥ lo) = true,0 + 1 + 1 ≤ 2,decide (Span.lo s ≥ lo) = true,decide (Span.lo s ≥ lo) = true,decide (Span.lo s ≤ Span.hi s) = true,decide (Span.lo s ≤ Span.hi s) = true,0 + 1 + 1 ≤ 2,decide (Span.lo s ≤ Span.hi s) = true,decide (Span.lo s ≤ Span.hi s) = true,decide (Span.lo s ≤ Span.hi s) = true],D.bool (decide (Span.hi s ≤ hi))) := by kernel_rfl
theorem alike_len (xs ys : List Int) :
  callF (mk PR (lookN types) glob 26) [(10,true)] [] [] (body Tryd.f55) [.tmp 4] [.sl false .int xs,.sl false .int ys] =
   some ([(((List.length xs : Nat) : Int) != ((List.length ys : Nat) : Int)) = true],D.bool false) := by kernel_rfl
theorem alike_diff (xs ys : List Int) (i : Nat) :
  callF (mk PR (lookN types) glob 26) [(10,false)] [] [(0,(alike_K0,(.ret,alike_T0_diff xs ys i)))] (body Tryd.f55) [.tmp 4] [.sl false .int xs,.sl false .int ys] =
   some ([(((List.length xs : Nat) : Int) != ((List.length ys : Nat) : Int)) = false,LoopT PR glob 26 (Code.at [1,1,0,1] (body Tryd.f55)) [(.tmp 0,.d (D.sl false E.int xs)),(.tmp 1,.d (D.sl false E.int ys)),(.tmp 5,.d (D.int .i64 0))] Ex.ret (alike_T0_diff xs ys i)],D.bool false) := by kernel_rfl
theorem alike_all (xs ys : List Int) (i : Nat) :
  callF (mk PR (lookN types) glob 26) [(10,false)] [] [(0,(alike_K0,(.normal,alike_S0 xs ys i)))] (body Tryd.f55) [.tmp 4] [.sl false .int xs,.sl false .int ys] =
   some ([(((List.length xs : Nat) : Int) != ((List.length ys : Nat) : Int)) = false,LoopT PR glob 26 (Code.at [1,1,0,1] (body Tryd.f55)) [(.tmp 0,.d (D.sl false E.int xs)),(.tmp 1,.d (D.sl false E.int ys)),(.tmp 5,.d (D.int .i64 0))] Ex.normal (alike_S0 xs ys i)],D.bool true) := by kernel_rfl
theorem modB_zero (n m : Int) :
  callF (mk PR (lookN types) glob 17) [(7,true)] [] [] (body Tryd.f39) [.tmp 4] [.int .i64 n,.int .i64 m] =
   some ([decide (m ≤ (0 : Int)) = true],D.int .i64 0) := by kernel_rfl
theorem modB_neg (n m : Int) :
  callF (mk PR (lookN types) glob 17) [(7,false),(12,true)] [] [] (body Tryd.f39) [.tmp 4] [.int .i64 n,.int .i64 m] =
   some ([decide (m ≤ (0 : Int)) = false,m ≠ (0 : Int),decide (Int.tmod n m < (0 : Int)) = true,inI64 (Int.tmod n m + m)],D.int .i64 (Int.tmod n m + m)) := by kernel_rfl
theorem modB_pos (n m : Int) :
  callF (mk PR (lookN types) glob 17) [(7,false),(12,false)] [] [] (body Tryd.f39) [.tmp 4] [.int .i64 n,.int .i64 m] =
   some ([decide (m ≤ (0 : Int)) = false,m ≠ (0 : Int),decide (Int.tmod n m < (0 : Int)) = false],D.int .i64 (Int.tmod n m)) := by kernel_rfl
theorem atB_hit (xs : List Int) (v : Int) (i : Nat) :
  callF (mk PR (lookN types) glob 19) [] [] [(0,(atB_K0,(.ret,atB_T0_hit xs v i)))] (body Tryd.f46) [.tmp 4] [.sl false .int xs,.int .i64 v] =
   some ([LoopT PR glob 19 (Code.at [1,0,1] (body Tryd.f46)) [(.tmp 0,.d (D.sl false E.int xs)),(.tmp 1,.d (D.int .i64 v)),(.tmp 5,.d (D.int .i64 0))] Ex.ret (atB_T0_hit xs v i)],D.int .i64 ((i : Int))) := by kernel_rfl
theorem atB_end (xs : List Int) (v : Int) (i : Nat) :
  callF (mk PR (lookN types) glob 19) [] [] [(0,(atB_K0,(.normal,atB_S0 xs v i)))] (body Tryd.f46) [.tmp 4] [.sl false .int xs,.int .i64 v] =
   some ([LoopT PR glob 19 (Code.at [1,0,1] (body Tryd.f46)) [(.tmp 0,.d (D.sl false E.int xs)),(.tmp 1,.d (D.int .i64 v)),(.tmp 5,.d (D.int .i64 0))] Ex.normal (atB_S0 xs v i)],D.int .i64 (-(1 : Int))) := by kernel_rfl
end Go.Di

namespace Go.Di
open Proofs

theorem find_first (p : Nat → Bool) : ∀ n,(∃ k,k < n ∧ p k = true ∧ ∀ i < k,p i = false) ∨ ∀ i < n,p i = false
 | 0 => .inr fun i h => by omega
 | n + 1 => by
  rcases find_first p n with ⟨k,h1,h2,h3⟩ | h
  ·exact .inl ⟨k,by omega,h2,h3⟩
  ·cases hn : p n with
   | true => exact .inl ⟨n,by omega,hn,h⟩
   | false =>
    refine .inr fun i hi => ?_
    by_cases e : i = n
    ·subst e; exact hn
    ·exact h i (by omega)
theorem Contract.toWeak {P : Program} {glob : Nat → Option (List D)} {f : FuncId} {args : List D} {r : D} (h : Contract P glob f args r) : Contract P glob f args (weak r) := h.toRes fun _ _ _ => weak_rel

/-! ### Small functions of the laws -/
theorem rangeB_con (a c : Int) : Contract PR glob 61 [.int .i64 a,.int .i64 c] (spD ⟨a,c⟩) := contract_of_path (G 8) rangeB_fn (rangeB_all a c) ⟨by omega,trivial⟩
theorem point_con (a : Int) : Contract PR glob 49 [.int .i64 a] (spD ⟨a,a⟩) := contract_of_path (G 6) point_fn (point_all a) ⟨rangeB_con a a,by omega,trivial⟩
theorem inside_con (n lo hi : Int) : Contract PR glob 50 [.int .i64 n,.int .i64 lo,.int .i64 hi] (.bool (insideF n lo hi)) := by
 unfold insideF
 cases h : decide (n ≥ lo) with
 | false => exact contract_of_path (G 15) inside_fn (inside_no n lo hi) ⟨h,h,h,h,trivial⟩
 | true => exact contract_of_path (G 15) inside_fn (inside_yes n lo hi) ⟨h,h,h,h,trivial⟩
def validSF (s : Span) (lo hi : Int) : Bool := decide (s.lo ≥ lo) && decide (s.lo ≤ s.hi) && decide (s.hi ≤ hi)
theorem validB_con (s : Span) (lo hi : Int) : Contract PR glob 117 [spD s,.int .i64 lo,.int .i64 hi] (.bool (validSF s lo hi)) := by
 unfold validSF
 cases h : decide (s.lo ≥ lo) with
 | false =>
  refine contract_of_path (G 24) validB_fn (validB_a s lo hi) ?_
  repeat (first | exact trivial | refine ⟨by first | exact h | omega,?_⟩)
 | true =>
  cases h2 : decide (s.lo ≤ s.hi) with
  | false =>
   refine contract_of_path (G 24) validB_fn (validB_b s lo hi) ?_
   repeat (first | exact trivial | refine ⟨by first | exact h | exact h2 | omega,?_⟩)
  | true =>
   refine contract_of_path (G 24) validB_fn (validB_c s lo hi) ?_
   repeat (first | exact trivial | refine ⟨by first | exact h | exact h2 | omega,?_⟩)
theorem ext_getD {xs ys : List Int} (hl : xs.length = ys.length) (h : ∀ i < xs.length,xs.getD i 0 = ys.getD i 0) : xs = ys := by
 refine List.ext_getElem hl fun i h1 h2 => ?_
 have := h i h1
 rwa [List.getD_eq_getElem?_getD,List.getD_eq_getElem?_getD,List.getElem?_eq_getElem h1,List.getElem?_eq_getElem h2] at this
theorem alike_con (xs ys : List Int) (hl : xs.length ≤ 9223372036854775807) : Contract PR glob 55 [.sl false .int xs,.sl false .int ys] (.bool (decide (xs = ys))) := by
 have hb : Code.at [1,1,0,1] (body Tryd.f55) = .block 0 (.loop (Code.at [1,1,0,1,0,0] (body Tryd.f55))) := by kernel_rfl
 by_cases hlen : xs.length = ys.length
 ·have hne : ((xs.length : Int) != (ys.length : Int)) = false := by rw [hlen]; simp
  have hon : ∀ k,k ≤ xs.length → (∀ i < k,(xs.getD i 0 != ys.getD i 0) = false) → ∀ i,i < k → WpL PR (mk PR (lookN types) glob 26) (Code.at [1,1,0,1,0,0] (body Tryd.f55)) (alike_S0 xs ys i) fun e1 L1 => e1 = .normal ∧ L1 = alike_S0 xs ys (i + 1) := fun k hk h i hi =>
   WpL.path (G 26) (alike_0_on xs ys i) ⟨decide_eq_true (by omega),by omega,by omega,by omega,by omega,h i hi,by simp only [inI64]; omega,trivial⟩ ⟨rfl,rfl⟩
  rcases find_first (fun i => xs.getD i 0 != ys.getD i 0) xs.length with ⟨k,h1,h2,h3⟩ | h
  ·have : decide (xs = ys) = false := decide_eq_false fun e => by subst e; simp at h2
   rw [this]
   exact contract_of_path (G 26) alike_fn (alike_diff xs ys k) ⟨hne,LoopT.count (tt := lookN types) hb k (alike_S0 xs ys) (hon k (by omega) h3) (WpL.path (G 26) (alike_0_diff xs ys k) ⟨decide_eq_true (by omega),by omega,by omega,by omega,by omega,h2,trivial⟩ ⟨.inr ⟨rfl,rfl⟩,rfl⟩),trivial⟩
  ·have : decide (xs = ys) = true := decide_eq_true (ext_getD hlen fun i hi => by simpa using h i hi)
   rw [this]
   exact contract_of_path (G 26) alike_fn (alike_all xs ys xs.length) ⟨hne,LoopT.count (tt := lookN types) hb xs.length (alike_S0 xs ys) (hon _ (Nat.le_refl _) h) (WpL.path (G 26) (alike_0_end xs ys _) ⟨decide_eq_false (Int.lt_irrefl _),trivial⟩ ⟨.inl ⟨rfl,rfl⟩,rfl⟩),trivial⟩
 ·have : decide (xs = ys) = false := decide_eq_false fun e => hlen (by rw [e])
  rw [this]
  exact contract_of_path (G 26) alike_fn (alike_len xs ys) ⟨by simp; omega,trivial⟩
def modF (n m : Int) : Int := if m ≤ 0 then 0 else if n.tmod m < 0 then n.tmod m + m else n.tmod m
theorem modF_emod {n m : Int} (h : 0 < m) : modF n m = n % m := by
 unfold modF
 rw [if_neg (by omega)]
 have h1 := Int.tmod_eq_emod (a := n) (b := m)
 have h2 := Int.emod_nonneg n (b := m) (by omega)
 have h3 := Int.emod_lt_of_pos n h
 have h4 : (m.natAbs : Int) = m := by omega
 by_cases hc : 0 ≤ n ∨ m ∣ n
 ·rw [if_pos hc] at h1
  split <;> omega
 ·rw [if_neg hc] at h1
  split <;> omega
theorem modF_in {n m : Int} (h : 0 < m) : 0 ≤ modF n m ∧ modF n m < m := by
 rw [modF_emod h]
 exact ⟨Int.emod_nonneg n (by omega),Int.emod_lt_of_pos n h⟩
theorem modB_con (n m : Int) (hm : m ≤ 9223372036854775807) : Contract PR glob 39 [.int .i64 n,.int .i64 m] (.int .i64 (modF n m)) := by
 by_cases h : m ≤ 0
 ·rw [show modF n m = 0 from if_pos h]
  exact contract_of_path (G 17) modB_fn (modB_zero n m) ⟨decide_eq_true h,trivial⟩
 ·have hin := modF_in (n := n) (m := m) (by omega)
  by_cases h2 : n.tmod m < 0
  ·have e : modF n m = n.tmod m + m := by unfold modF; rw [if_neg h,if_pos h2]
   rw [e] at hin ⊢
   exact contract_of_path (G 17) modB_fn (modB_neg n m) ⟨decide_eq_false h,by omega,decide_eq_true h2,by simp only [inI64]; omega,trivial⟩
  ·rw [show modF n m = n.tmod m by unfold modF; rw [if_neg h,if_neg h2]]
   exact contract_of_path (G 17) modB_fn (modB_pos n m) ⟨decide_eq_false h,by omega,decide_eq_false h2,trivial⟩
theorem atB_con (xs : List Int) (v : Int) (hl : xs.length ≤ 9223372036854775807) : Contract PR glob 46 [.sl false .int xs,.int .i64 v] (.int .i64 (indexF v xs 0)) := by
 have hb : Code.at [1,0,1] (body Tryd.f46) = .block 0 (.loop (Code.at [1,0,1,0,0] (body Tryd.f46))) := by kernel_rfl
 have hbeq : ∀ a b : Int,(a == b) = (b == a) := fun a b => BEq.comm
 have hon : ∀ k,k ≤ xs.length → (∀ i < k,(v == xs.getD i 0) = false) → ∀ i,i < k → WpL PR (mk PR (lookN types) glob 19) (Code.at [1,0,1,0,0] (body Tryd.f46)) (atB_S0 xs v i) fun e1 L1 => e1 = .normal ∧ L1 = atB_S0 xs v (i + 1) := fun k hk h i hi =>
  WpL.path (G 19) (atB_0_on xs v i) ⟨decide_eq_true (by omega),by omega,by omega,(hbeq _ _).trans (h i hi),by simp only [inI64]; omega,trivial⟩ ⟨rfl,rfl⟩
 rcases indexF_cases v xs with ⟨k,h1,h2,h3,h4⟩ | ⟨h2,h4⟩
 ·rw [h2]
  exact contract_of_path (G 19) atB_fn (atB_hit xs v k) ⟨LoopT.count (tt := lookN types) hb k (atB_S0 xs v) (hon k (by omega) h4) (WpL.path (G 19) (atB_0_hit xs v k) ⟨decide_eq_true (by omega),by omega,by omega,(hbeq _ _).trans h3,trivial⟩ ⟨.inr ⟨rfl,rfl⟩,rfl⟩),trivial⟩
 ·rw [h2]
  exact contract_of_path (G 19) atB_fn (atB_end xs v xs.length) ⟨LoopT.count (tt := lookN types) hb xs.length (atB_S0 xs v) (hon _ (Nat.le_refl _) h4) (WpL.path (G 19) (atB_0_end xs v _) ⟨decide_eq_false (Int.lt_irrefl _),trivial⟩ ⟨.inl ⟨rfl,rfl⟩,rfl⟩),trivial⟩
end Go.Di

namespace Go.Di
open Proofs
/-- The types of package forge,and those of package chain. -/
def typesF : List (Nat × TI) :=
 [(84,⟨.struct [(0,26),(5,23),(6,3),(7,23),(8,3),(9,3)],10,160,[.nil,.nil,.nil,.int .i64 0,.int .i64 0,.nil,.int .i64 0,.nil,.int .i64 0,.int .i64 0],some .fbook,false⟩),
  (151,⟨.struct [(0,84),(10,149),(11,40),(12,23)],13,216,[.nil,.nil,.nil,.int .i64 0,.int .i64 0,.nil,.int .i64 0,.nil,.int .i64 0,.int .i64 0,.nilmap,.nil,.nil],none,false⟩),
  (149,⟨.map 108 4 false,1,8,[.nilmap],none,false⟩),
  (90,⟨.slice 108,1,24,[.nil],some (.list .work),false⟩),
  (163,⟨.other,1,8,[.nilfn],none,false⟩),
  (154,⟨.other,1,8,[.nilfn],none,false⟩),
  (157,⟨.other,1,8,[.nilfn],none,false⟩),
  (110,⟨.other,1,8,[.nilfn],none,false⟩),
  (188,⟨.struct [(0,110)],1,8,[.nilfn],none,false⟩),
  (190,⟨.other,1,8,[.nilfn],none,false⟩),
  (191,⟨.other,1,8,[.nilfn],none,false⟩),
  (192,⟨.array 2 191,2,16,[.nilfn,.nilfn],none,false⟩),
  (101,⟨.array 3 3,3,24,[.int .i64 0,.int .i64 0,.int .i64 0],none,true⟩),
  (195,⟨.other,1,8,[.nilfn],none,false⟩)] ++ types
theorem typesF_ok : TabOk PR (lookN typesF) := tabOk (by kernel_rfl)
/-- The listed variables of both. -/
def globF : Nat → Option (List D)
 | 2 => some [.int .i64 (-1),.int .i64 0]
 | 3 => some [.fn 226 [] [],.fn 227 [] []]
 | g => glob g
/-- The program; its configurations,contracts and loops. -/
noncomputable abbrev PRG : Program := PR
noncomputable abbrev MF (n : Nat) : Cfg := mk PRG (lookN typesF) globF n
abbrev CF (f : FuncId) (args : List D) (r : D) : Prop := Contract PRG globF f args r
abbrev LF (n : Nat) (c : Code) (L : List (Key × Val)) (e : Ex) (L' : List (Key × Val)) : Prop := LoopT PRG globF n c L e L'
theorem GF (n : Nat) : Good PR (mk PR (lookN typesF) globF n) := good mixed_ok typesF_ok
theorem glob_up {g : Nat} {cs : List D} (h : glob g = some cs) : globF g = some cs := by
 match g,h with
 | 0,h => exact h
 | 1,h => exact h
theorem Contract.up {P : Program} {f : FuncId} {args : List D} {r : D} (h : Contract P glob f args r) : Contract P globF f args r :=
 ⟨h.form,fun w R vs h1 h2 h3 => h.calls w R vs h1 (fun g cs hg => h2 g cs (glob_up hg)) h3⟩
end Go.Di

