/- Part 29: an interpreter over plain data for this code, with the proof that it says what the model does, and the contracts of the functions. No condition. -/
import Derived.Test.YtfkmodcjddfeiaaDoorDi28
set_option linter.unusedVariables false
set_option linter.unusedSimpArgs false
namespace Go.Di
open Proofs
theorem lisp_fn : FnOk PRG (MF 70) 79 (body Tryd.f79) [.tmp 4] := by refine ⟨Tryd.f79,?_,?_,?_,?_,?_⟩ <;> kernel_rfl
theorem lgood_fn : FnOk PRG (MF 30) 87 (body Tryd.f87) [.tmp 4] := by refine ⟨Tryd.f87,?_,?_,?_,?_,?_⟩ <;> kernel_rfl
theorem soon_fn : FnOk PRG (MF 66) 88 (body Tryd.f88) [.tmp 4] := by refine ⟨Tryd.f88,?_,?_,?_,?_,?_⟩ <;> kernel_rfl
theorem lplan_fn : FnOk PRG (MF 110) 20 (body Tryd.f20) [.tmp 4] := by refine ⟨Tryd.f20,?_,?_,?_,?_,?_⟩ <;> kernel_rfl
def lisp_S0 (x : FBook) (plan : List Work) (i : Nat) : List (Key × Val) :=
 [(.tmp 1,.d (D.sl false E.work plan)),
  (.tmp 2,.d (D.ptr 2 0)),
  (.tmp 5,.d (.int .i64 i)),
  (.box 2,.bx (some (Box.mk false (cellsOf (fbookD x)))))]
def lisp_K0 : List Key := [.tmp 1,.tmp 2,.tmp 5,.box 2]
def soon_S0 (p q : List Work) (i : Nat) : List (Key × Val) :=
 [(.tmp 0,.d (D.sl false E.work p)),
  (.tmp 1,.d (D.sl false E.work q)),
  (.tmp 5,.d (.int .i64 i))]
def soon_K0 : List Key := [.tmp 0,.tmp 1,.tmp 5]
def soon_T0_day (p q : List Work) (i : Nat)  : List (Key × Val) :=
 [(.tmp 0,.d (D.sl false E.work p)),(.tmp 1,.d (D.sl false E.work q)),(.tmp 5,.d (D.int .i64 (i : Int))),(.tmp 4,.d (D.bool true))]
def soon_T0_ne (p q : List Work) (i : Nat)  : List (Key × Val) :=
 [(.tmp 0,.d (D.sl false E.work p)),(.tmp 1,.d (D.sl false E.work q)),(.tmp 5,.d (D.int .i64 (i : Int))),(.tmp 4,.d (D.bool false))]
def soon_T0_sec (p q : List Work) (i : Nat)  : List (Key × Val) :=
 [(.tmp 0,.d (D.sl false E.work p)),(.tmp 1,.d (D.sl false E.work q)),(.tmp 5,.d (D.int .i64 (i : Int))),(.tmp 4,.d (D.bool (decide (Work.s (List.getD p (i) work0) < Work.s (List.getD q (i) work0)))))]
theorem lisp_0_one (x : FBook) (plan : List Work) (i : Nat) (a : Int) :
  runK (MF 70) [(10,true),(23,false),(36,false)] [(21,.int .i64 a),(30,.bool true)] [] (Code.at [1,0,1,0,0] (body Tryd.f79)) (lisp_S0 x plan i) lisp_K0 =
   some ([decide ((i : Int) < (List.length plan : Int)) = true,(0 : Int) ≤ (i : Int) ∧ (i : Int) < (List.length plan : Int),0 + 2 ≤ 2,0 + 0 + 1 ≤ 2,CF 46 [D.sl false E.int (FBook.opn x),D.int .i64 (Work.d (List.getD plan (i) work0))] (D.int .i64 a),decide (a < (0 : Int)) = false,decide (a < (0 : Int)) = false,0 + 1 + 1 ≤ 2,decide (a < (0 : Int)) = false,decide (a < (0 : Int)) = false,decide (a < (0 : Int)) = false,decide (a < (0 : Int)) = false,inI64 ((List.length (FBook.feet x) : Int) - (1 : Int)),decide (a < (0 : Int)) = false,CF 50 [D.int .i64 (Work.s (List.getD plan (i) work0)),D.int .i64 0,D.int .i64 ((List.length (FBook.feet x) : Int) - (1 : Int))] (D.bool true),decide (a < (0 : Int)) = false,decide (a < (0 : Int)) = false,decide ((i : Int) > (0 : Int)) = false,decide ((i : Int) > (0 : Int)) = false,decide ((i : Int) > (0 : Int)) = false,decide ((i : Int) > (0 : Int)) = false,decide ((i : Int) > (0 : Int)) = false,decide ((i : Int) > (0 : Int)) = false,decide ((i : Int) > (0 : Int)) = false,decide ((i : Int) > (0 : Int)) = false,decide ((i : Int) > (0 : Int)) = false,decide ((i : Int) > (0 : Int)) = false,decide ((i : Int) > (0 : Int)) = false,decide ((i : Int) > (0 : Int)) = false,inI64 ((i : Int) + (1 : Int))],Ex.normal,lisp_S0 x plan (i + 1)) := by kernel_rfl
theorem lisp_0_day (x : FBook) (plan : List Work) (i : Nat) (a : Int) :
  runK (MF 70) [(10,true),(23,false),(36,true),(46,false),(56,false)] [(21,.int .i64 a),(30,.bool true)] [] (Code.at [1,0,1,0,0] (body Tryd.f79)) (lisp_S0 x plan i) lisp_K0 =
   some ([decide ((i : Int) < (List.length plan : Int)) = true,(0 : Int) ≤ (i : Int) ∧ (i : Int) < (List.length plan : Int),0 + 2 ≤ 2,0 + 0 + 1 ≤ 2,CF 46 [D.sl false E.int (FBook.opn x),D.int .i64 (Work.d (List.getD plan (i) work0))] (D.int .i64 a),decide (a < (0 : Int)) = false,decide (a < (0 : Int)) = false,0 + 1 + 1 ≤ 2,decide (a < (0 : Int)) = false,decide (a < (0 : Int)) = false,decide (a < (0 : Int)) = false,decide (a < (0 : Int)) = false,inI64 ((List.length (FBook.feet x) : Int) - (1 : Int)),decide (a < (0 : Int)) = false,CF 50 [D.int .i64 (Work.s (List.getD plan (i) work0)),D.int .i64 0,D.int .i64 ((List.length (FBook.feet x) : Int) - (1 : Int))] (D.bool true),decide (a < (0 : Int)) = false,decide (a < (0 : Int)) = false,decide ((i : Int) > (0 : Int)) = true,decide ((i : Int) > (0 : Int)) = true,0 + 0 + 1 ≤ 2,decide ((i : Int) > (0 : Int)) = true,decide ((i : Int) > (0 : Int)) = true,decide ((i : Int) > (0 : Int)) = true,inI64 ((i : Int) - (1 : Int)),decide ((i : Int) > (0 : Int)) = true,(0 : Int) ≤ (i : Int) - (1 : Int) ∧ (i : Int) - (1 : Int) < (List.length plan : Int),decide ((i : Int) > (0 : Int)) = true,decide ((i : Int) > (0 : Int)) = true,0 + 0 + 1 ≤ 2,decide ((i : Int) > (0 : Int)) = true,decide ((i : Int) > (0 : Int)) = true,decide (Work.d (List.getD plan (i) work0) < Work.d (List.getD plan (Int.toNat ((i : Int) - (1 : Int))) work0)) = false,decide (Work.d (List.getD plan (i) work0) < Work.d (List.getD plan (Int.toNat ((i : Int) - (1 : Int))) work0)) = false,0 + 0 + 1 ≤ 2,decide (Work.d (List.getD plan (i) work0) < Work.d (List.getD plan (Int.toNat ((i : Int) - (1 : Int))) work0)) = false,decide (Work.d (List.getD plan (i) work0) < Work.d (List.getD plan (Int.toNat ((i : Int) - (1 : Int))) work0)) = false,decide (Work.d (List.getD plan (i) work0) < Work.d (List.getD plan (Int.toNat ((i : Int) - (1 : Int))) work0)) = false,inI64 ((i : Int) - (1 : Int)),decide (Work.d (List.getD plan (i) work0) < Work.d (List.getD plan (Int.toNat ((i : Int) - (1 : Int))) work0)) = false,(0 : Int) ≤ (i : Int) - (1 : Int) ∧ (i : Int) - (1 : Int) < (List.length plan : Int),decide (Work.d (List.getD plan (i) work0) < Work.d (List.getD plan (Int.toNat ((i : Int) - (1 : Int))) work0)) = false,decide (Work.d (List.getD plan (i) work0) < Work.d (List.getD plan (Int.toNat ((i : Int) - (1 : Int))) work0)) = false,0 + 0 + 1 ≤ 2,decide (Work.d (List.getD plan (i) work0) < Work.d (List.getD plan (Int.toNat ((i : Int) - (1 : Int))) work0)) = false,decide (Work.d (List.getD plan (i) work0) < Work.d (List.getD plan (Int.toNat ((i : Int) - (1 : Int))) work0)) = false,(Work.d (List.getD plan (i) work0) == Work.d (List.getD plan (Int.toNat ((i : Int) - (1 : Int))) work0)) = false,(Work.d (List.getD plan (i) work0) == Work.d (List.getD plan (Int.toNat ((i : Int) - (1 : Int))) work0)) = false,(Work.d (List.getD plan (i) work0) == Work.d (List.getD plan (Int.toNat ((i : Int) - (1 : Int))) work0)) = false,(Work.d (List.getD plan (i) work0) == Work.d (List.getD plan (Int.toNat ((i : Int) - (1 : Int))) work0)) = false,(Work.d (List.getD plan (i) work0) == Work.d (List.getD plan (Int.toNat ((i : Int) - (1 : Int))) work0)) = false,(Work.d (List.getD plan (i) work0) == Work.d (List.getD plan (Int.toNat ((i : Int) - (1 : Int))) work0)) = false,(Work.d (List.getD plan (i) work0) == Work.d (List.getD plan (Int.toNat ((i : Int) - (1 : Int))) work0)) = false,(Work.d (List.getD plan (i) work0) == Work.d (List.getD plan (Int.toNat ((i : Int) - (1 : Int))) work0)) = false,(Work.d (List.getD plan (i) work0) == Work.d (List.getD plan (Int.toNat ((i : Int) - (1 : Int))) work0)) = false,decide (Work.d (List.getD plan (i) work0) < Work.d (List.getD plan (Int.toNat ((i : Int) - (1 : Int))) work0)) = false,(Work.d (List.getD plan (i) work0) == Work.d (List.getD plan (Int.toNat ((i : Int) - (1 : Int))) work0)) = false,decide ((i : Int) > (0 : Int)) = true,decide (Work.d (List.getD plan (i) work0) < Work.d (List.getD plan (Int.toNat ((i : Int) - (1 : Int))) work0)) = false,decide ((i : Int) > (0 : Int)) = true,inI64 ((i : Int) + (1 : Int))],Ex.normal,lisp_S0 x plan (i + 1)) := by kernel_rfl
theorem lisp_0_sec (x : FBook) (plan : List Work) (i : Nat) (a : Int) :
  runK (MF 70) [(10,true),(23,false),(36,true),(46,false),(56,true),(69,false)] [(21,.int .i64 a),(30,.bool true)] [] (Code.at [1,0,1,0,0] (body Tryd.f79)) (lisp_S0 x plan i) lisp_K0 =
   some ([decide ((i : Int) < (List.length plan : Int)) = true,(0 : Int) ≤ (i : Int) ∧ (i : Int) < (List.length plan : Int),0 + 2 ≤ 2,0 + 0 + 1 ≤ 2,CF 46 [D.sl false E.int (FBook.opn x),D.int .i64 (Work.d (List.getD plan (i) work0))] (D.int .i64 a),decide (a < (0 : Int)) = false,decide (a < (0 : Int)) = false,0 + 1 + 1 ≤ 2,decide (a < (0 : Int)) = false,decide (a < (0 : Int)) = false,decide (a < (0 : Int)) = false,decide (a < (0 : Int)) = false,inI64 ((List.length (FBook.feet x) : Int) - (1 : Int)),decide (a < (0 : Int)) = false,CF 50 [D.int .i64 (Work.s (List.getD plan (i) work0)),D.int .i64 0,D.int .i64 ((List.length (FBook.feet x) : Int) - (1 : Int))] (D.bool true),decide (a < (0 : Int)) = false,decide (a < (0 : Int)) = false,decide ((i : Int) > (0 : Int)) = true,decide ((i : Int) > (0 : Int)) = true,0 + 0 + 1 ≤ 2,decide ((i : Int) > (0 : Int)) = true,decide ((i : Int) > (0 : Int)) = true,decide ((i : Int) > (0 : Int)) = true,inI64 ((i : Int) - (1 : Int)),decide ((i : Int) > (0 : Int)) = true,(0 : Int) ≤ (i : Int) - (1 : Int) ∧ (i : Int) - (1 : Int) < (List.length plan : Int),decide ((i : Int) > (0 : Int)) = true,decide ((i : Int) > (0 : Int)) = true,0 + 0 + 1 ≤ 2,decide ((i : Int) > (0 : Int)) = true,decide ((i : Int) > (0 : Int)) = true,decide (Work.d (List.getD plan (i) work0) < Work.d (List.getD plan (Int.toNat ((i : Int) - (1 : Int))) work0)) = false,decide (Work.d (List.getD plan (i) work0) < Work.d (List.getD plan (Int.toNat ((i : Int) - (1 : Int))) work0)) = false,0 + 0 + 1 ≤ 2,decide (Work.d (List.getD plan (i) work0) < Work.d (List.getD plan (Int.toNat ((i : Int) - (1 : Int))) work0)) = false,decide (Work.d (List.getD plan (i) work0) < Work.d (List.getD plan (Int.toNat ((i : Int) - (1 : Int))) work0)) = false,decide (Work.d (List.getD plan (i) work0) < Work.d (List.getD plan (Int.toNat ((i : Int) - (1 : Int))) work0)) = false,inI64 ((i : Int) - (1 : Int)),decide (Work.d (List.getD plan (i) work0) < Work.d (List.getD plan (Int.toNat ((i : Int) - (1 : Int))) work0)) = false,(0 : Int) ≤ (i : Int) - (1 : Int) ∧ (i : Int) - (1 : Int) < (List.length plan : Int),decide (Work.d (List.getD plan (i) work0) < Work.d (List.getD plan (Int.toNat ((i : Int) - (1 : Int))) work0)) = false,decide (Work.d (List.getD plan (i) work0) < Work.d (List.getD plan (Int.toNat ((i : Int) - (1 : Int))) work0)) = false,0 + 0 + 1 ≤ 2,decide (Work.d (List.getD plan (i) work0) < Work.d (List.getD plan (Int.toNat ((i : Int) - (1 : Int))) work0)) = false,decide (Work.d (List.getD plan (i) work0) < Work.d (List.getD plan (Int.toNat ((i : Int) - (1 : Int))) work0)) = false,(Work.d (List.getD plan (i) work0) == Work.d (List.getD plan (Int.toNat ((i : Int) - (1 : Int))) work0)) = true,(Work.d (List.getD plan (i) work0) == Work.d (List.getD plan (Int.toNat ((i : Int) - (1 : Int))) work0)) = true,0 + 1 + 1 ≤ 2,(Work.d (List.getD plan (i) work0) == Work.d (List.getD plan (Int.toNat ((i : Int) - (1 : Int))) work0)) = true,(Work.d (List.getD plan (i) work0) == Work.d (List.getD plan (Int.toNat ((i : Int) - (1 : Int))) work0)) = true,(Work.d (List.getD plan (i) work0) == Work.d (List.getD plan (Int.toNat ((i : Int) - (1 : Int))) work0)) = true,inI64 ((i : Int) - (1 : Int)),(Work.d (List.getD plan (i) work0) == Work.d (List.getD plan (Int.toNat ((i : Int) - (1 : Int))) work0)) = true,(0 : Int) ≤ (i : Int) - (1 : Int) ∧ (i : Int) - (1 : Int) < (List.length plan : Int),(Work.d (List.getD plan (i) work0) == Work.d (List.getD plan (Int.toNat ((i : Int) - (1 : Int))) work0)) = true,(Work.d (List.getD plan (i) work0) == Work.d (List.getD plan (Int.toNat ((i : Int) - (1 : Int))) work0)) = true,0 + 1 + 1 ≤ 2,(Work.d (List.getD plan (i) work0) == Work.d (List.getD plan (Int.toNat ((i : Int) - (1 : Int))) work0)) = true,decide (Work.d (List.getD plan (i) work0) < Work.d (List.getD plan (Int.toNat ((i : Int) - (1 : Int))) work0)) = false,(Work.d (List.getD plan (i) work0) == Work.d (List.getD plan (Int.toNat ((i : Int) - (1 : Int))) work0)) = true,decide ((i : Int) > (0 : Int)) = true,decide (Work.d (List.getD plan (i) work0) < Work.d (List.getD plan (Int.toNat ((i : Int) - (1 : Int))) work0)) = false,decide ((i : Int) > (0 : Int)) = true,decide (Work.s (List.getD plan (i) work0) ≤ Work.s (List.getD plan (Int.toNat ((i : Int) - (1 : Int))) work0)) = false,inI64 ((i : Int) + (1 : Int))],Ex.normal,lisp_S0 x plan (i + 1)) := by kernel_rfl
theorem lisp_0_end (x : FBook) (plan : List Work) (i : Nat) :
  runK (MF 70) [(10,false)] [] [] (Code.at [1,0,1,0,0] (body Tryd.f79)) (lisp_S0 x plan i) lisp_K0 =
   some ([decide ((i : Int) < (List.length plan : Int)) = false],Ex.exit 0,lisp_S0 x plan i) := by kernel_rfl
theorem soon_0_on (p q : List Work) (i : Nat) :
  runK (MF 66) [(12,true),(23,false)] [] [] (Code.at [1,0,1,0,0] (body Tryd.f88)) (soon_S0 p q i) soon_K0 =
   some ([decide ((i : Int) < List.foldl mn ((List.length p : Int)) [(List.length q : Int)]) = true,(0 : Int) ≤ (i : Int) ∧ (i : Int) < (List.length p : Int),0 + 2 ≤ 2,(0 : Int) ≤ (i : Int) ∧ (i : Int) < (List.length q : Int),0 + 2 ≤ 2,(!eqI [Work.d (List.getD p (i) work0),Work.s (List.getD p (i) work0)] [Work.d (List.getD q (i) work0),Work.s (List.getD q (i) work0)]) = false,inI64 ((i : Int) + (1 : Int))],Ex.normal,soon_S0 p q (i + 1)) := by kernel_rfl
theorem soon_0_day (p q : List Work) (i : Nat) :
  runK (MF 66) [(12,true),(23,true),(35,true)] [] [] (Code.at [1,0,1,0,0] (body Tryd.f88)) (soon_S0 p q i) [.tmp 0,.tmp 1,.tmp 5,.tmp 4] =
   some ([decide ((i : Int) < List.foldl mn ((List.length p : Int)) [(List.length q : Int)]) = true,(0 : Int) ≤ (i : Int) ∧ (i : Int) < (List.length p : Int),0 + 2 ≤ 2,(0 : Int) ≤ (i : Int) ∧ (i : Int) < (List.length q : Int),0 + 2 ≤ 2,(!eqI [Work.d (List.getD p (i) work0),Work.s (List.getD p (i) work0)] [Work.d (List.getD q (i) work0),Work.s (List.getD q (i) work0)]) = true,(0 : Int) ≤ (i : Int) ∧ (i : Int) < (List.length p : Int),0 + 0 + 1 ≤ 2,(0 : Int) ≤ (i : Int) ∧ (i : Int) < (List.length q : Int),0 + 0 + 1 ≤ 2,decide (Work.d (List.getD p (i) work0) < Work.d (List.getD q (i) work0)) = true,decide (Work.d (List.getD p (i) work0) < Work.d (List.getD q (i) work0)) = true,decide (Work.d (List.getD p (i) work0) < Work.d (List.getD q (i) work0)) = true,decide (Work.d (List.getD p (i) work0) < Work.d (List.getD q (i) work0)) = true,decide (Work.d (List.getD p (i) work0) < Work.d (List.getD q (i) work0)) = true,decide (Work.d (List.getD p (i) work0) < Work.d (List.getD q (i) work0)) = true,decide (Work.d (List.getD p (i) work0) < Work.d (List.getD q (i) work0)) = true,decide (Work.d (List.getD p (i) work0) < Work.d (List.getD q (i) work0)) = true,decide (Work.d (List.getD p (i) work0) < Work.d (List.getD q (i) work0)) = true,decide (Work.d (List.getD p (i) work0) < Work.d (List.getD q (i) work0)) = true,decide (Work.d (List.getD p (i) work0) < Work.d (List.getD q (i) work0)) = true,decide (Work.d (List.getD p (i) work0) < Work.d (List.getD q (i) work0)) = true,decide (Work.d (List.getD p (i) work0) < Work.d (List.getD q (i) work0)) = true,decide (Work.d (List.getD p (i) work0) < Work.d (List.getD q (i) work0)) = true],Ex.ret,soon_T0_day p q i ) := by kernel_rfl
theorem soon_0_ne (p q : List Work) (i : Nat) :
  runK (MF 66) [(12,true),(23,true),(35,false),(47,false)] [] [] (Code.at [1,0,1,0,0] (body Tryd.f88)) (soon_S0 p q i) [.tmp 0,.tmp 1,.tmp 5,.tmp 4] =
   some ([decide ((i : Int) < List.foldl mn ((List.length p : Int)) [(List.length q : Int)]) = true,(0 : Int) ≤ (i : Int) ∧ (i : Int) < (List.length p : Int),0 + 2 ≤ 2,(0 : Int) ≤ (i : Int) ∧ (i : Int) < (List.length q : Int),0 + 2 ≤ 2,(!eqI [Work.d (List.getD p (i) work0),Work.s (List.getD p (i) work0)] [Work.d (List.getD q (i) work0),Work.s (List.getD q (i) work0)]) = true,(0 : Int) ≤ (i : Int) ∧ (i : Int) < (List.length p : Int),0 + 0 + 1 ≤ 2,(0 : Int) ≤ (i : Int) ∧ (i : Int) < (List.length q : Int),0 + 0 + 1 ≤ 2,decide (Work.d (List.getD p (i) work0) < Work.d (List.getD q (i) work0)) = false,decide (Work.d (List.getD p (i) work0) < Work.d (List.getD q (i) work0)) = false,decide (Work.d (List.getD p (i) work0) < Work.d (List.getD q (i) work0)) = false,(0 : Int) ≤ (i : Int) ∧ (i : Int) < (List.length p : Int),decide (Work.d (List.getD p (i) work0) < Work.d (List.getD q (i) work0)) = false,decide (Work.d (List.getD p (i) work0) < Work.d (List.getD q (i) work0)) = false,0 + 0 + 1 ≤ 2,decide (Work.d (List.getD p (i) work0) < Work.d (List.getD q (i) work0)) = false,decide (Work.d (List.getD p (i) work0) < Work.d (List.getD q (i) work0)) = false,decide (Work.d (List.getD p (i) work0) < Work.d (List.getD q (i) work0)) = false,(0 : Int) ≤ (i : Int) ∧ (i : Int) < (List.length q : Int),decide (Work.d (List.getD p (i) work0) < Work.d (List.getD q (i) work0)) = false,decide (Work.d (List.getD p (i) work0) < Work.d (List.getD q (i) work0)) = false,0 + 0 + 1 ≤ 2,decide (Work.d (List.getD p (i) work0) < Work.d (List.getD q (i) work0)) = false,decide (Work.d (List.getD p (i) work0) < Work.d (List.getD q (i) work0)) = false,(Work.d (List.getD p (i) work0) == Work.d (List.getD q (i) work0)) = false,(Work.d (List.getD p (i) work0) == Work.d (List.getD q (i) work0)) = false,(Work.d (List.getD p (i) work0) == Work.d (List.getD q (i) work0)) = false,(Work.d (List.getD p (i) work0) == Work.d (List.getD q (i) work0)) = false,(Work.d (List.getD p (i) work0) == Work.d (List.getD q (i) work0)) = false,(Work.d (List.getD p (i) work0) == Work.d (List.getD q (i) work0)) = false,(Work.d (List.getD p (i) work0) == Work.d (List.getD q (i) work0)) = false,(Work.d (List.getD p (i) work0) == Work.d (List.getD q (i) work0)) = false,(Work.d (List.getD p (i) work0) == Work.d (List.getD q (i) work0)) = false,(Work.d (List.getD p (i) work0) == Work.d (List.getD q (i) work0)) = false,(Work.d (List.getD p (i) work0) == Work.d (List.getD q (i) work0)) = false,decide (Work.d (List.getD p (i) work0) < Work.d (List.getD q (i) work0)) = false,(Work.d (List.getD p (i) work0) == Work.d (List.getD q (i) work0)) = false,decide (Work.d (List.getD p (i) work0) < Work.d (List.getD q (i) work0)) = false],Ex.ret,soon_T0_ne p q i ) := by kernel_rfl
theorem soon_0_sec (p q : List Work) (i : Nat) :
  runK (MF 66) [(12,true),(23,true),(35,false),(47,true)] [] [] (Code.at [1,0,1,0,0] (body Tryd.f88)) (soon_S0 p q i) [.tmp 0,.tmp 1,.tmp 5,.tmp 4] =
   some ([decide ((i : Int) < List.foldl mn ((List.length p : Int)) [(List.length q : Int)]) = true,(0 : Int) ≤ (i : Int) ∧ (i : Int) < (List.length p : Int),0 + 2 ≤ 2,(0 : Int) ≤ (i : Int) ∧ (i : Int) < (List.length q : Int),0 + 2 ≤ 2,(!eqI [Work.d (List.getD p (i) work0),Work.s (List.getD p (i) work0)] [Work.d (List.getD q (i) work0),Work.s (List.getD q (i) work0)]) = true,(0 : Int) ≤ (i : Int) ∧ (i : Int) < (List.length p : Int),0 + 0 + 1 ≤ 2,(0 : Int) ≤ (i : Int) ∧ (i : Int) < (List.length q : Int),0 + 0 + 1 ≤ 2,decide (Work.d (List.getD p (i) work0) < Work.d (List.getD q (i) work0)) = false,decide (Work.d (List.getD p (i) work0) < Work.d (List.getD q (i) work0)) = false,decide (Work.d (List.getD p (i) work0) < Work.d (List.getD q (i) work0)) = false,(0 : Int) ≤ (i : Int) ∧ (i : Int) < (List.length p : Int),decide (Work.d (List.getD p (i) work0) < Work.d (List.getD q (i) work0)) = false,decide (Work.d (List.getD p (i) work0) < Work.d (List.getD q (i) work0)) = false,0 + 0 + 1 ≤ 2,decide (Work.d (List.getD p (i) work0) < Work.d (List.getD q (i) work0)) = false,decide (Work.d (List.getD p (i) work0) < Work.d (List.getD q (i) work0)) = false,decide (Work.d (List.getD p (i) work0) < Work.d (List.getD q (i) work0)) = false,(0 : Int) ≤ (i : Int) ∧ (i : Int) < (List.length q : Int),decide (Work.d (List.getD p (i) work0) < Work.d (List.getD q (i) work0)) = false,decide (Work.d (List.getD p (i) work0) < Work.d (List.getD q (i) work0)) = false,0 + 0 + 1 ≤ 2,decide (Work.d (List.getD p (i) work0) < Work.d (List.getD q (i) work0)) = false,decide (Work.d (List.getD p (i) work0) < Work.d (List.getD q (i) work0)) = false,(Work.d (List.getD p (i) work0) == Work.d (List.getD q (i) work0)) = true,(Work.d (List.getD p (i) work0) == Work.d (List.getD q (i) work0)) = true,(Work.d (List.getD p (i) work0) == Work.d (List.getD q (i) work0)) = true,(0 : Int) ≤ (i : Int) ∧ (i : Int) < (List.length p : Int),(Work.d (List.getD p (i) work0) == Work.d (List.getD q (i) work0)) = true,(Work.d (List.getD p (i) work0) == Work.d (List.getD q (i) work0)) = true,0 + 1 + 1 ≤ 2,(Work.d (List.getD p (i) work0) == Work.d (List.getD q (i) work0)) = true,(Work.d (List.getD p (i) work0) == Work.d (List.getD q (i) work0)) = true,(Work.d (List.getD p (i) work0) == Work.d (List.getD q (i) work0)) = true,(0 : Int) ≤ (i : Int) ∧ (i : Int) < (List.length q : Int),(Work.d (List.getD p (i) work0) == Work.d (List.getD q (i) work0)) = true,(Work.d (List.getD p (i) work0) == Work.d (List.getD q (i) work0)) = true,0 + 1 + 1 ≤ 2,(Work.d (List.getD p (i) work0) == Work.d (List.getD q (i) work0)) = true,decide (Work.d (List.getD p (i) work0) < Work.d (List.getD q (i) work0)) = false,(Work.d (List.getD p (i) work0) == Work.d (List.getD q (i) work0)) = true,decide (Work.d (List.getD p (i) work0) < Work.d (List.getD q (i) work0)) = false],Ex.ret,soon_T0_sec p q i ) := by kernel_rfl
theorem soon_0_end (p q : List Work) (i : Nat) :
  runK (MF 66) [(12,false)] [] [] (Code.at [1,0,1,0,0] (body Tryd.f88)) (soon_S0 p q i) soon_K0 =
   some ([decide ((i : Int) < List.foldl mn ((List.length p : Int)) [(List.length q : Int)]) = false],Ex.exit 0,soon_S0 p q i) := by kernel_rfl
theorem lisp_all (x : FBook) (plan : List Work) (i : Nat) :
  callF (MF 70) [] [] [(0,(lisp_K0,(.normal,lisp_S0 x plan i)))] (body Tryd.f79) [.tmp 4] [fbookD x,.sl false .work plan] =
   some ([LF 70 (Code.at [1,0,1] (body Tryd.f79)) [(.tmp 1,.d (D.sl false E.work plan)),(.tmp 2,.d (D.ptr 2 0)),(.tmp 5,.d (D.int .i64 0)),(.box 2,.bx (some (Box.mk false (cellsOf (fbookD x)))))] Ex.normal (lisp_S0 x plan i)],D.bool true) := by kernel_rfl
theorem lgood_err (x : FBook) (plan : List Work) (k e : Int) :
  callF (MF 30) [] [(12,.tup [.bool false,.int .i64 72]),(18,.tup [.int .i64 k,.int .i64 e])] [] (body Tryd.f87) [.tmp 4] [fbookD x,.sl false .work plan] =
   some ([CF 78 [fbookD x,D.sl false E.work plan] (D.tup [D.bool false,D.int .i64 72]),CF 85 [fbookD x,D.sl false E.work plan] (D.tup [D.int .i64 k,D.int .i64 e])],D.bool false) := by kernel_rfl
theorem lgood_thin (x : FBook) (plan : List Work) (k e : Int) :
  callF (MF 30) [] [(12,.tup [.bool false,.int .i64 0]),(18,.tup [.int .i64 k,.int .i64 e])] [] (body Tryd.f87) [.tmp 4] [fbookD x,.sl false .work plan] =
   some ([CF 78 [fbookD x,D.sl false E.work plan] (D.tup [D.bool false,D.int .i64 0]),CF 85 [fbookD x,D.sl false E.work plan] (D.tup [D.int .i64 k,D.int .i64 e])],D.bool false) := by kernel_rfl
theorem lgood_safe (x : FBook) (plan : List Work) (k e : Int) :
  callF (MF 30) [] [(12,.tup [.bool true,.int .i64 0]),(18,.tup [.int .i64 k,.int .i64 e])] [] (body Tryd.f87) [.tmp 4] [fbookD x,.sl false .work plan] =
   some ([CF 78 [fbookD x,D.sl false E.work plan] (D.tup [D.bool true,D.int .i64 0]),CF 85 [fbookD x,D.sl false E.work plan] (D.tup [D.int .i64 k,D.int .i64 e])],D.bool (e == (4 : Int))) := by kernel_rfl
theorem soon_day (p q : List Work) (i : Nat) :
  callF (MF 66) [] [] [(0,(soon_K0,(.ret,soon_T0_day p q i)))] (body Tryd.f88) [.tmp 4] [.sl false .work p,.sl false .work q] =
   some ([LF 66 (Code.at [1,0,1] (body Tryd.f88)) [(.tmp 0,.d (D.sl false E.work p)),(.tmp 1,.d (D.sl false E.work q)),(.tmp 5,.d (D.int .i64 0))] Ex.ret (soon_T0_day p q i)],D.bool true) := by kernel_rfl
theorem soon_ne (p q : List Work) (i : Nat) :
  callF (MF 66) [] [] [(0,(soon_K0,(.ret,soon_T0_ne p q i)))] (body Tryd.f88) [.tmp 4] [.sl false .work p,.sl false .work q] =
   some ([LF 66 (Code.at [1,0,1] (body Tryd.f88)) [(.tmp 0,.d (D.sl false E.work p)),(.tmp 1,.d (D.sl false E.work q)),(.tmp 5,.d (D.int .i64 0))] Ex.ret (soon_T0_ne p q i)],D.bool false) := by kernel_rfl
theorem soon_sec (p q : List Work) (i : Nat) :
  callF (MF 66) [] [] [(0,(soon_K0,(.ret,soon_T0_sec p q i)))] (body Tryd.f88) [.tmp 4] [.sl false .work p,.sl false .work q] =
   some ([LF 66 (Code.at [1,0,1] (body Tryd.f88)) [(.tmp 0,.d (D.sl false E.work p)),(.tmp 1,.d (D.sl false E.work q)),(.tmp 5,.d (D.int .i64 0))] Ex.ret (soon_T0_sec p q i)],D.bool (decide (Work.s (List.getD p (i) work0) < Work.s (List.getD q (i) work0)))) := by kernel_rfl
theorem soon_end (p q : List Work) (i : Nat) :
  callF (MF 66) [] [] [(0,(soon_K0,(.normal,soon_S0 p q i)))] (body Tryd.f88) [.tmp 4] [.sl false .work p,.sl false .work q] =
   some ([LF 66 (Code.at [1,0,1] (body Tryd.f88)) [(.tmp 0,.d (D.sl false E.work p)),(.tmp 1,.d (D.sl false E.work q)),(.tmp 5,.d (D.int .i64 0))] Ex.normal (soon_S0 p q i)],D.bool (decide ((List.length p : Int) < (List.length q : Int)))) := by kernel_rfl
theorem lplan_bad (x : FBook) (n : Int) :
  callF (MF 110) [] [(14,.tup [.sl false .work [],.int .i64 70]),(18,.bool false),(28,.bool true)] [] (body Tryd.f20) [.tmp 4] [fbookD x,.int .i64 n] =
   some ([CF 77 [fbookD x] (D.tup [D.sl false E.work [],D.int .i64 70]),CF 72 [fbookD x] (D.bool false),CF 73 [] (D.bool true)],D.bool true) := by kernel_rfl
theorem lplan_err (x : FBook) (n : Int) (plan : List Work) :
  callF (MF 110) [] [(14,.tup [.sl false .work [],.int .i64 72]),(18,.bool true),(63,.sl false .work plan),(66,.bool false),(68,.bool true)] [] (body Tryd.f20) [.tmp 4] [fbookD x,.int .i64 n] =
   some ([CF 77 [fbookD x] (D.tup [D.sl false E.work [],D.int .i64 72]),CF 72 [fbookD x] (D.bool true),CF 76 [fbookD x,D.int .i64 n] (D.sl false E.work plan),CF 87 [fbookD x,D.sl false E.work plan] (D.bool false),CF 73 [] (D.bool true)],D.bool true) := by kernel_rfl
theorem lplan_none (x : FBook) (n : Int) (plan : List Work) :
  callF (MF 110) [] [(14,.tup [.sl false .work [],.int .i64 4]),(18,.bool true),(63,.sl false .work plan),(66,.bool false),(68,.bool true)] [] (body Tryd.f20) [.tmp 4] [fbookD x,.int .i64 n] =
   some ([CF 77 [fbookD x] (D.tup [D.sl false E.work [],D.int .i64 4]),CF 72 [fbookD x] (D.bool true),CF 76 [fbookD x,D.int .i64 n] (D.sl false E.work plan),CF 87 [fbookD x,D.sl false E.work plan] (D.bool false),CF 73 [] (D.bool true)],D.bool true) := by kernel_rfl
theorem lplan_bare (x : FBook) (n : Int) (best plan : List Work) :
  callF (MF 110) [] [(14,.tup [.sl false .work best,.int .i64 0]),(18,.bool true),(51,.bool true),(56,.bool true),(63,.sl false .work plan),(66,.bool false),(68,.bool true)] [] (body Tryd.f20) [.tmp 4] [fbookD x,.int .i64 n] =
   some ([CF 77 [fbookD x] (D.tup [D.sl false E.work best,D.int .i64 0]),CF 72 [fbookD x] (D.bool true),CF 79 [fbookD x,D.sl false E.work best] (D.bool true),CF 87 [fbookD x,D.sl false E.work best] (D.bool true),CF 76 [fbookD x,D.int .i64 n] (D.sl false E.work plan),CF 87 [fbookD x,D.sl false E.work plan] (D.bool false),CF 73 [] (D.bool true)],D.bool true) := by kernel_rfl
theorem lplan_less (x : FBook) (n : Int) (best plan : List Work) (a b : Int) :
  callF (MF 110) [(95,true)] [(14,.tup [.sl false .work best,.int .i64 0]),(18,.bool true),(51,.bool true),(56,.bool true),(63,.sl false .work plan),(66,.bool true),(72,.tup [.int .i64 a,.int .i64 0]),(78,.tup [.int .i64 b,.int .i64 0]),(108,.bool true)] [] (body Tryd.f20) [.tmp 4] [fbookD x,.int .i64 n] =
   some ([CF 77 [fbookD x] (D.tup [D.sl false E.work best,D.int .i64 0]),CF 72 [fbookD x] (D.bool true),CF 79 [fbookD x,D.sl false E.work best] (D.bool true),CF 87 [fbookD x,D.sl false E.work best] (D.bool true),CF 76 [fbookD x,D.int .i64 n] (D.sl false E.work plan),CF 87 [fbookD x,D.sl false E.work plan] (D.bool true),CF 84 [fbookD x,D.sl false E.work best] (D.tup [D.int .i64 a,D.int .i64 0]),CF 84 [fbookD x,D.sl false E.work plan] (D.tup [D.int .i64 b,D.int .i64 0]),decide (a < b) = true,decide (a < b) = true,decide (a < b) = true,decide (a < b) = true,decide (a < b) = true,decide (a < b) = true,CF 73 [] (D.bool true)],D.bool true) := by kernel_rfl
theorem lplan_same (x : FBook) (n : Int) (best plan : List Work) (a b : Int) :
  callF (MF 110) [(95,false),(99,true)] [(14,.tup [.sl false .work best,.int .i64 0]),(18,.bool true),(51,.bool true),(56,.bool true),(63,.sl false .work plan),(66,.bool true),(72,.tup [.int .i64 a,.int .i64 0]),(78,.tup [.int .i64 b,.int .i64 0]),(108,.bool true),(102,.bool false)] [] (body Tryd.f20) [.tmp 4] [fbookD x,.int .i64 n] =
   some ([CF 77 [fbookD x] (D.tup [D.sl false E.work best,D.int .i64 0]),CF 72 [fbookD x] (D.bool true),CF 79 [fbookD x,D.sl false E.work best] (D.bool true),CF 87 [fbookD x,D.sl false E.work best] (D.bool true),CF 76 [fbookD x,D.int .i64 n] (D.sl false E.work plan),CF 87 [fbookD x,D.sl false E.work plan] (D.bool true),CF 84 [fbookD x,D.sl false E.work best] (D.tup [D.int .i64 a,D.int .i64 0]),CF 84 [fbookD x,D.sl false E.work plan] (D.tup [D.int .i64 b,D.int .i64 0]),decide (a < b) = false,decide (a < b) = false,decide (a < b) = false,decide (a < b) = false,(a == b) = true,(a == b) = true,(a == b) = true,CF 88 [D.sl false E.work plan,D.sl false E.work best] (D.bool false),(a == b) = true,decide (a < b) = false,(a == b) = true,decide (a < b) = false,CF 73 [] (D.bool true)],D.bool true) := by kernel_rfl
end Go.Di

namespace Go.Di
open Proofs

/-! ### THE LAW OF THE BEST PLAN -/
theorem fgood_iff {x : FBook} {plan : List Work} : fgoodF x plan = true ↔ needsF x plan ≤ x.stock := by unfold fgoodF; exact decide_eq_true_iff
theorem best_law {x : FBook} (hx : FIn x) (ho : x.opn.Pairwise (· < ·)) (th : List (List Int)) (wr : List Int) (f : Nat → Nat → Bool) (hs : SafeP x th wr (grdF x f)) (hg : fgoodF x (grdF x f) = true) :
  (bestF x th wr).2 = true ∧ (feetF x (bestF x th wr).1 < feetF x (grdF x f) ∨ feetF x (bestF x th wr).1 = feetF x (grdF x f) ∧ ¬ cmpPlans (grdF x f) (bestF x th wr).1 < 0) := by
 obtain ⟨p,hp,hsub⟩ := plans_part hx ho th wr f hs
 have hq : ∀ w ∈ grdF x f,0 ≤ w.s ∧ w.s < x.feet.length := fun w hw => by
  obtain ⟨k,j,_,hj,_,rfl⟩ := grd_mem.1 hw
  exact ⟨by show (0 : Int) ≤ (j : Int); omega,by show (j : Int) < _; omega⟩
 have hgp : fgoodF x p = true := fgood_iff.2 (Int.le_trans (needs_sub hx hsub hq) (fgood_iff.1 hg))
 rcases bestOf_spec x (plansF x th wr) with ⟨h1,h2,h3,h4⟩ | ⟨h1,h2⟩
 ·refine ⟨h1,?_⟩
  have hb := h4 p hp hgp
  have hb' : ¬ (feetF x p < feetF x (bestOf x (plansF x th wr)).1 ∨ feetF x p = feetF x (bestOf x (plansF x th wr)).1 ∧ cmpPlans p (bestOf x (plansF x th wr)).1 < 0) := by
   rw [← better_iff,hb]; simp
  show feetF x (bestOf x (plansF x th wr)).1 < _ ∨ feetF x (bestOf x (plansF x th wr)).1 = _ ∧ ¬ cmpPlans _ (bestOf x (plansF x th wr)).1 < 0
  generalize (bestOf x (plansF x th wr)).1 = b at *
  rcases feet_sub hx hsub hq with hlt | rfl
  ·exact .inl (by omega)
  ·by_cases he : feetF x (grdF x f) = feetF x b
   ·exact .inr ⟨he.symm,fun h => hb' (.inr ⟨he,h⟩)⟩
   ·exact .inl (by omega)
 ·rw [h2 p hp] at hgp; cases hgp
theorem best_is {x : FBook} (hx : FIn x) (ho : x.opn.Pairwise (· < ·)) (th : List (List Int)) (wr : List Int) (h : (bestF x th wr).2 = true) : (∃ f,(bestF x th wr).1 = grdF x f) ∧ SafeP x th wr (bestF x th wr).1 ∧ fgoodF x (bestF x th wr).1 = true := by
 rcases bestOf_spec x (plansF x th wr) with ⟨h1,h2,h3,h4⟩ | ⟨h1,h2⟩
 ·obtain ⟨on,he⟩ := plansGo_mem _ _ _ _ _ _ h2
  exact ⟨⟨_,he.trans (planned_grd x on)⟩,plans_safe hx ho th wr h2,h3⟩
 ·have h' : (bestOf x (plansF x th wr)).2 = true := h
  rw [h1] at h'; cases h'

/-! ### isPlan,good,sooner -/
theorem index_nn {v : Int} {l : List Int} (h : v ∈ l) : 0 ≤ indexF v l 0 := by
 rcases indexF_cases v l with ⟨k,h1,h2,_⟩ | ⟨_,h4⟩
 ·rw [h2]; omega
 ·obtain ⟨j,hj,he⟩ := mem_iff_getD.1 h
  have := h4 j hj
  rw [he] at this
  simp at this
theorem atU_con {x : FBook} (hx : FIn x) (v : Int) : CF 46 [.sl false .int x.opn,.int .i64 v] (.int .i64 (indexF v x.opn 0)) := (atB_con x.opn v (by have := hx.opnl; omega)).up
theorem pair_getW {l : List Work} (h : l.Pairwise wlt) {i j : Nat} (hij : i < j) (hj : j < l.length) : wlt (l.getD i work0) (l.getD j work0) := by
 rw [List.getD_eq_getElem?_getD,List.getD_eq_getElem?_getD,List.getElem?_eq_getElem (by omega),List.getElem?_eq_getElem hj]
 exact List.pairwise_iff_getElem.1 h i j (by omega) hj hij
theorem lisp_con {x : FBook} (hV : FValid x) {plan : List Work} (hp : IsPlan x plan) : CF 79 [fbookD x,.sl false .work plan] (.bool true) := by
 have hx := hV.inn
 have hn := hx.n
 have hl := (hp.ok hx).1
 have hloop : LF 70 (Code.at [1,0,1] (body Tryd.f79)) (lisp_S0 x plan 0) .normal (lisp_S0 x plan plan.length) := by
  refine LF.each (id := 0) (c := Code.at [1,0,1,0,0] (body Tryd.f79)) (by kernel_rfl) plan.length (fun i => lisp_S0 x plan i) (fun i hi => ?_) ⟨_,_,_,_,_,_,_,lisp_0_end x plan _,⟨lt_false,trivial⟩,.inl ⟨rfl,rfl⟩,rfl⟩
  obtain ⟨h1,h2⟩ := hp.1 _ (mem_getD work0 hi)
  have ha := atU_con hx (plan.getD i work0).d
  have hnn := decide_eq_false (Int.not_lt.2 (index_nn h1))
  have hin := inside_t (n := (plan.getD i work0).s) (lo := 0) (hi := (x.feet.length : Int) - 1) ⟨h2.1,by omega⟩
  have i1 : inI64 ((x.feet.length : Int) - 1) := i64_of (by omega) (by omega)
  have i2 : inI64 ((i : Int) - 1) := i64_of (by omega) (by omega)
  have i3 : inI64 ((i : Int) + 1) := i64_of (by omega) (by omega)
  have hb0 : (0 : Int) ≤ i ∧ (i : Int) < (plan.length : Int) := ⟨by omega,by omega⟩
  have hlt := lt_true hi
  by_cases h0 : i = 0
  ·have hg : decide ((i : Int) > 0) = false := decide_eq_false (by omega)
   exact ⟨_,_,_,_,_,_,lisp_0_one x plan i _,(by repeat (first | exact trivial | refine ⟨by first | exact hlt | exact hb0 | exact ha | exact hnn | exact hin | exact i1 | exact i3 | exact hg | omega,?_⟩)),rfl⟩
  ·have hg : decide ((i : Int) > 0) = true := decide_eq_true (by omega)
   have hb1 : (0 : Int) ≤ (i : Int) - 1 ∧ (i : Int) - 1 < (plan.length : Int) := ⟨by omega,by omega⟩
   have hw := pair_getW hp.2 (show i - 1 < i by omega) hi
   have e1 : ((i : Int) - 1).toNat = i - 1 := by omega
   have q1 : decide ((plan.getD i work0).d < (plan.getD ((i : Int) - 1).toNat work0).d) = false := by rw [e1]; refine decide_eq_false ?_; unfold wlt at hw; omega
   by_cases hd : (plan.getD i work0).d = (plan.getD (i - 1) work0).d
   ·have q2 : ((plan.getD i work0).d == (plan.getD ((i : Int) - 1).toNat work0).d) = true := by rw [e1]; simpa using hd
    have q3 : decide ((plan.getD i work0).s ≤ (plan.getD ((i : Int) - 1).toNat work0).s) = false := by rw [e1]; refine decide_eq_false ?_; unfold wlt at hw; omega
    exact ⟨_,_,_,_,_,_,lisp_0_sec x plan i _,(by repeat (first | exact trivial | refine ⟨by first | exact hlt | exact hb0 | exact hb1 | exact ha | exact hnn | exact hin | exact i1 | exact i2 | exact i3 | exact hg | exact q1 | exact q2 | exact q3 | omega,?_⟩)),rfl⟩
   ·have q2 : ((plan.getD i work0).d == (plan.getD ((i : Int) - 1).toNat work0).d) = false := by rw [e1]; simpa using hd
    exact ⟨_,_,_,_,_,_,lisp_0_day x plan i _,(by repeat (first | exact trivial | refine ⟨by first | exact hlt | exact hb0 | exact hb1 | exact ha | exact hnn | exact hin | exact i1 | exact i2 | exact i3 | exact hg | exact q1 | exact q2 | omega,?_⟩)),rfl⟩
 exact contract_of_path (GF 70) lisp_fn (lisp_all x plan _) ⟨hloop,trivial⟩
theorem short_good {x : FBook} (hx : FIn x) {plan : List Work} : shortF x plan = none ↔ fgoodF x plan = true := by
 rw [fgood_iff]
 unfold needsF
 rw [needs_le]
 constructor
 ·exact fun h => ⟨stock_pos hx,short_none h⟩
 ·intro h
  cases hs : shortF x plan with
  | none => rfl
  | some k =>
   obtain ⟨h1,h2,_⟩ := short_some hx hs
   have := h.2 k h1
   omega
/-- Is a plan good,of a book that can be true? -/
def goodP (x : FBook) (plan : List Work) : Bool := canF x.chain && (fthinF x (knowTh x) (knowWr x) plan).isNone && fgoodF x plan
theorem lgood_con {x : FBook} (hV : FValid x) (hs : FSmall x) {plan : List Work} (hp : IsPlan x plan) : CF 87 [fbookD x,.sl false .work plan] (.bool (goodP x plan)) := by
 have hb : planB x plan = true := (isPlan_iff hV).2 hp
 have hl : plan.length ≤ 9223372036854775807 := by have := plan_len hV hp; omega
 have hS := fSafe_con hs hl
 have hSh := fShort_con hs hl
 have he : fplanE x plan = 0 := by unfold fplanE; rw [fvalid_iff.2 hV,hb]; rfl
 unfold fShortF at hSh
 rw [if_pos he] at hSh
 unfold goodP
 cases hc : canF x.chain with
 | false =>
  rw [fSafe_not hV hb hc] at hS
  exact contract_of_path (GF 30) lgood_fn (lgood_err x plan _ _) ⟨hS,hSh,trivial⟩
 | true =>
  rw [fSafe_can hV hb hc] at hS
  cases ht : (fthinF x (knowTh x) (knowWr x) plan).isNone with
  | false =>
   rw [ht] at hS
   exact contract_of_path (GF 30) lgood_fn (lgood_thin x plan _ _) ⟨hS,hSh,trivial⟩
  | true =>
   rw [ht] at hS
   rw [Bool.true_and,Bool.true_and]
   cases hsh : shortF x plan with
   | none =>
    rw [hsh] at hSh
    rw [(short_good hV.inn).1 hsh]
    exact contract_of_path (GF 30) lgood_fn (lgood_safe x plan 0 4) ⟨hS,hSh,trivial⟩
   | some k =>
    rw [hsh] at hSh
    have hg : fgoodF x plan = false := by
     cases hg : fgoodF x plan with
     | true => rw [(short_good hV.inn).2 hg] at hsh; cases hsh
     | false => rfl
    rw [hg]
    exact contract_of_path (GF 30) lgood_fn (lgood_safe x plan k 0) ⟨hS,hSh,trivial⟩
/-- sooner. -/
def soonF (p q : List Work) : Bool := decide (cmpPlans p q < 0)
theorem cmp_split : ∀ (p q : List Work),(∃ k,k < p.length ∧ k < q.length ∧ (∀ i,i < k → p.getD i work0 = q.getD i work0) ∧ p.getD k work0 ≠ q.getD k work0 ∧ (cmpPlans p q < 0 ↔ wlt (p.getD k work0) (q.getD k work0))) ∨ ((∀ i,i < p.length → i < q.length → p.getD i work0 = q.getD i work0) ∧ (cmpPlans p q < 0 ↔ p.length < q.length))
 | [],[] => .inr ⟨fun i hi => by simp at hi,by simp [cmpPlans]⟩
 | [],b :: q => .inr ⟨fun i hi => by simp at hi,by simp [cmpPlans]⟩
 | a :: p,[] => .inr ⟨fun i _ hi => by simp at hi,by simp [cmpPlans]⟩
 | a :: p,b :: q => by
  by_cases hab : a = b
  ·subst hab
   have e : cmpPlans (a :: p) (a :: q) = cmpPlans p q := by simp only [cmpPlans]; rw [if_neg (by simp [cmp_zero.2 rfl])]
   rw [e]
   rcases cmp_split p q with ⟨k,h1,h2,h3,h4,h5⟩ | ⟨h1,h2⟩
   ·refine .inl ⟨k + 1,by simpa using h1,by simpa using h2,fun i hi => ?_,h4,h5⟩
    cases i with
    | zero => rfl
    | succ i => exact h3 i (by omega)
   ·refine .inr ⟨fun i hi1 hi2 => ?_,by rw [h2]; simp⟩
    cases i with
    | zero => rfl
    | succ i => exact h1 i (by simpa using hi1) (by simpa using hi2)
  ·refine .inl ⟨0,by simp,by simp,fun i hi => by omega,hab,?_⟩
   have hne : compareF a b ≠ 0 := fun h => hab (cmp_zero.1 h)
   have e : cmpPlans (a :: p) (b :: q) = compareF a b := by simp only [cmpPlans]; rw [if_pos hne]
   rw [e]
   exact cmp_neg
theorem soon_con {p q : List Work} (hp : p.length ≤ 1000) (hq : q.length ≤ 1000) : CF 88 [.sl false .work p,.sl false .work q] (.bool (soonF p q)) := by
 have hb : Code.at [1,0,1] (body Tryd.f88) = .block 0 (.loop (Code.at [1,0,1,0,0] (body Tryd.f88))) := by kernel_rfl
 have hmin : ∀ i : Nat,(i : Int) < List.foldl mn (p.length : Int) [(q.length : Int)] ↔ i < p.length ∧ i < q.length := by
  intro i
  show (i : Int) < mn (p.length : Int) (q.length : Int) ↔ _
  unfold mn
  split <;> omega
 have hon : ∀ k,k ≤ p.length → k ≤ q.length → (∀ i,i < k → p.getD i work0 = q.getD i work0) → ∀ i,i < k → ∃ dec orc lorc ks ps L1,runK (MF 66) dec orc lorc (Code.at [1,0,1,0,0] (body Tryd.f88)) (soon_S0 p q i) ks = some (ps,.normal,L1) ∧ allP ps ∧ L1 = soon_S0 p q (i + 1) := by
  intro k hk1 hk2 h i hi
  have he : (!eqI [(p.getD i work0).d,(p.getD i work0).s] [(q.getD i work0).d,(q.getD i work0).s]) = false := by rw [eq_work,h i hi]; simp
  exact ⟨_,_,_,_,_,_,soon_0_on p q i,⟨decide_eq_true ((hmin i).2 ⟨by omega,by omega⟩),⟨by omega,by omega⟩,by omega,⟨by omega,by omega⟩,by omega,he,i64_of (by omega) (by omega),trivial⟩,rfl⟩
 unfold soonF
 rcases cmp_split p q with ⟨k,h1,h2,h3,h4,h5⟩ | ⟨h1,h2⟩
 ·have hne : (!eqI [(p.getD k work0).d,(p.getD k work0).s] [(q.getD k work0).d,(q.getD k work0).s]) = true := by rw [eq_work]; simpa using h4
  have hlt := decide_eq_true ((hmin k).2 ⟨h1,h2⟩)
  have hb1 : (0 : Int) ≤ k ∧ (k : Int) < (p.length : Int) := ⟨by omega,by omega⟩
  have hb2 : (0 : Int) ≤ k ∧ (k : Int) < (q.length : Int) := ⟨by omega,by omega⟩
  by_cases hd : (p.getD k work0).d < (q.getD k work0).d
  ·have q1 := decide_eq_true hd
   have hloop : LF 66 (Code.at [1,0,1] (body Tryd.f88)) (soon_S0 p q 0) .ret (soon_T0_day p q k) :=
    LF.each hb k (soon_S0 p q) (hon k (by omega) (by omega) h3) ⟨_,_,_,_,_,_,_,soon_0_day p q k,(by repeat (first | exact trivial | refine ⟨by first | exact hlt | exact hb1 | exact hb2 | exact hne | exact q1 | omega,?_⟩)),.inr ⟨rfl,rfl⟩,rfl⟩
   have : decide (cmpPlans p q < 0) = true := decide_eq_true (h5.2 (.inl hd))
   rw [this]
   exact contract_of_path (GF 66) soon_fn (soon_day p q k) ⟨hloop,trivial⟩
  ·have q1 := decide_eq_false hd
   by_cases he : (p.getD k work0).d = (q.getD k work0).d
   ·have q2 : ((p.getD k work0).d == (q.getD k work0).d) = true := by simpa using he
    have hloop : LF 66 (Code.at [1,0,1] (body Tryd.f88)) (soon_S0 p q 0) .ret (soon_T0_sec p q k) :=
     LF.each hb k (soon_S0 p q) (hon k (by omega) (by omega) h3) ⟨_,_,_,_,_,_,_,soon_0_sec p q k,(by repeat (first | exact trivial | refine ⟨by first | exact hlt | exact hb1 | exact hb2 | exact hne | exact q1 | exact q2 | omega,?_⟩)),.inr ⟨rfl,rfl⟩,rfl⟩
    have : decide (cmpPlans p q < 0) = decide ((p.getD k work0).s < (q.getD k work0).s) := by
     rw [decide_eq_decide,h5]
     unfold wlt
     omega
    rw [this]
    exact contract_of_path (GF 66) soon_fn (soon_sec p q k) ⟨hloop,trivial⟩
   ·have q2 : ((p.getD k work0).d == (q.getD k work0).d) = false := by simpa using he
    have hloop : LF 66 (Code.at [1,0,1] (body Tryd.f88)) (soon_S0 p q 0) .ret (soon_T0_ne p q k) :=
     LF.each hb k (soon_S0 p q) (hon k (by omega) (by omega) h3) ⟨_,_,_,_,_,_,_,soon_0_ne p q k,(by repeat (first | exact trivial | refine ⟨by first | exact hlt | exact hb1 | exact hb2 | exact hne | exact q1 | exact q2 | omega,?_⟩)),.inr ⟨rfl,rfl⟩,rfl⟩
    have : decide (cmpPlans p q < 0) = false := decide_eq_false (fun h => by have := h5.1 h; unfold wlt at this; omega)
    rw [this]
    exact contract_of_path (GF 66) soon_fn (soon_ne p q k) ⟨hloop,trivial⟩
 ·obtain ⟨m,hm⟩ : ∃ m,m = min p.length q.length := ⟨_,rfl⟩
  have hloop : LF 66 (Code.at [1,0,1] (body Tryd.f88)) (soon_S0 p q 0) .normal (soon_S0 p q m) :=
   LF.each hb m (soon_S0 p q) (hon m (by omega) (by omega) fun i hi => h1 i (by omega) (by omega)) ⟨_,_,_,_,_,_,_,soon_0_end p q m,⟨decide_eq_false (fun h => by have := (hmin m).1 h; omega),trivial⟩,.inl ⟨rfl,rfl⟩,rfl⟩
  have : decide (cmpPlans p q < 0) = decide ((p.length : Int) < (q.length : Int)) := by
   rw [decide_eq_decide,h2]
   omega
  rw [this]
  exact contract_of_path (GF 66) soon_fn (soon_end p q m) ⟨hloop,trivial⟩

theorem lplan_con {x : FBook} (hs : FSmall x) (n : Int) : CF 20 [fbookD x,.int .i64 n] (.bool true) := by
 have hsound := fsound_con hs
 have hP := fPlan_con hs
 unfold fPlanF at hP
 cases hv : fvalidF x with
 | false =>
  rw [hv] at hsound
  have he : ferrF x true = 70 := by unfold ferrF; rw [hv]; rfl
  rw [he,if_neg (by decide)] at hP
  exact contract_of_path (GF 110) lplan_fn (lplan_bad x n) ⟨hP,hsound,riv_con,trivial⟩
 | true =>
  rw [hv] at hsound
  have hV := fvalid_iff.1 hv
  have hx := hV.inn
  have ho := hV.opn.2
  have hdr := drawn_con hV n
  have hpl := drawn_plan hV n
  have hg := lgood_con hV hs hpl
  have hlen := plan_len hV hpl
  have hfe := fFeet_con hs (plan := drawnF x n) (by omega)
  rw [err_of hV] at hP
  cases hc : canF x.chain with
  | false =>
   rw [hc,if_neg (by decide)] at hP
   have hg0 : goodP x (drawnF x n) = false := by unfold goodP; rw [hc]; rfl
   rw [hg0] at hg
   exact contract_of_path (GF 110) lplan_fn (lplan_err x n _) ⟨hP,hsound,hdr,hg,riv_con,trivial⟩
  | true =>
   rw [hc,if_pos rfl,if_pos rfl] at hP
   have hlaw : goodP x (drawnF x n) = true → _ := fun h => best_law hx ho (knowTh x) (knowWr x) (fun k s => bitF (drawnZ x n) (k * x.feet.length + s)) (by
    unfold goodP at h
    simp only [Bool.and_eq_true] at h
    exact thin_iff_safe.1 h.1.2) (by
    unfold goodP at h
    simp only [Bool.and_eq_true] at h
    exact h.2)
   have hbi := best_is hx ho (knowTh x) (knowWr x)
   generalize bestF x (knowTh x) (knowWr x) = o at hP hlaw hbi
   obtain ⟨best,fd⟩ := o
   cases fd with
   | false =>
    have hg0 : goodP x (drawnF x n) = false := by
     cases h : goodP x (drawnF x n) with
     | false => rfl
     | true => exact absurd (hlaw h).1 (by simp)
    rw [hg0] at hg
    exact contract_of_path (GF 110) lplan_fn (lplan_none x n _) ⟨hP,hsound,hdr,hg,riv_con,trivial⟩
   | true =>
    obtain ⟨⟨f,hf⟩,h2,h3⟩ := hbi rfl
    dsimp only at hP hlaw hf h2 h3
    have hbp : IsPlan x best := by rw [hf]; exact grd_plan hV f
    have hbl := plan_len hV hbp
    have hip := lisp_con hV hbp
    have hgb := lgood_con hV hs hbp
    have hgb1 : goodP x best = true := by unfold goodP; rw [hc,thin_iff_safe.2 h2,h3]; rfl
    rw [hgb1] at hgb
    cases hgd : goodP x (drawnF x n) with
    | false =>
     rw [hgd] at hg
     exact contract_of_path (GF 110) lplan_fn (lplan_bare x n best _) ⟨hP,hsound,hip,hgb,hdr,hg,riv_con,trivial⟩
    | true =>
     rw [hgd] at hg
     have hfb := fFeet_con hs (plan := best) (by omega)
     have e1 : fplanE x best = 0 := by unfold fplanE; rw [hv,show planB x best = true from (isPlan_iff hV).2 hbp]; rfl
     have e2 : fplanE x (drawnF x n) = 0 := by unfold fplanE; rw [hv,drawn_b hV n]; rfl
     unfold fFeetF at hfb hfe
     rw [if_pos e1] at hfb
     rw [if_pos e2] at hfe
     have hl2 := (hlaw hgd).2
     have hso := soon_con (p := drawnF x n) (q := best) hlen hbl
     have e3 : grdF x (fun k s => bitF (drawnZ x n) (k * x.feet.length + s)) = drawnF x n := rfl
     rw [e3] at hl2
     generalize drawnF x n = other at *
     rcases hl2 with hlt | ⟨heq,hns⟩
     ·have q1 := decide_eq_true hlt
      exact contract_of_path (GF 110) lplan_fn (lplan_less x n best other _ _) (by
       repeat (first | exact trivial | refine ⟨by first | exact hP | exact hsound | exact hip | exact hgb | exact hdr | exact hg | exact hfb | exact hfe | exact q1 | exact riv_con,?_⟩))
     ·have q1 : decide (feetF x best < feetF x other) = false := decide_eq_false (by omega)
      have q2 : (feetF x best == feetF x other) = true := by simpa using heq
      have hs0 : soonF other best = false := by unfold soonF; exact decide_eq_false hns
      rw [hs0] at hso
      exact contract_of_path (GF 110) lplan_fn (lplan_same x n best other _ _) (by
       repeat (first | exact trivial | refine ⟨by first | exact hP | exact hsound | exact hip | exact hgb | exact hdr | exact hg | exact hfb | exact hfe | exact q1 | exact q2 | exact hso | exact riv_con,?_⟩))
end Go.Di

