/- Part 19: an interpreter over plain data for this code, with the proof that it says what the model does, and the contracts of the functions. No condition. -/
import Derived.Test.YtfkmodcjddfeiaaDoorDi18
set_option linter.unusedVariables false
namespace Go.Di
open Proofs
def zfbkC : List D := [.nil,.nil,.nil,.int .i64 0,.int .i64 0,.nil,.int .i64 0,.nil,.int .i64 0,.int .i64 0,.nilmap,.nil,.nil]
def zfbkD : D := .agg zfbkC
def fbkC (x : FBook) (m t u : D) : List D := [.sl false .sec x.chain.secs,.sl false .int x.chain.turns,.sl false .sv x.chain.svs,.int .i64 x.chain.rule,.int .i64 x.chain.days,.sl false .int x.feet,.int .i64 x.new,.sl false .int x.opn,.int .i64 x.stock,.int .i64 x.make,m,t,u]
/-- A book that was opened. -/
def fopD (x : FBook) (l : List (K2 × Bool)) : D := .agg (fbkC x (.map (.work l)) .nil .nil)
theorem fcheck_fn : FnOk PRG (MF 78) 98 (body Tryd.f98) [.tmp 2] := by refine ⟨Tryd.f98,?_,?_,?_,?_,?_⟩ <;> kernel_rfl
theorem knowB_fn : FnOk PRG (MF 63) 174 (body Tryd.f174) [.cell 2 151] := by refine ⟨Tryd.f174,?_,?_,?_,?_,?_⟩ <;> kernel_rfl
theorem fasked_fn : FnOk PRG (MF 34) 137 (body Tryd.f137) [.cell 4 151,.tmp 5] := by refine ⟨Tryd.f137,?_,?_,?_,?_,?_⟩ <;> kernel_rfl
theorem fleast1_fn : FnOk PRG (MF 25) 140 (body Tryd.f140) [.tmp 6] := by refine ⟨Tryd.f140,?_,?_,?_,?_,?_⟩ <;> kernel_rfl
theorem ffirst1_fn : FnOk PRG (MF 7) 144 (body Tryd.f144) [.tmp 3] := by refine ⟨Tryd.f144,?_,?_,?_,?_,?_⟩ <;> kernel_rfl
theorem falways_fn : FnOk PRG (MF 3) 138 (body Tryd.f138) [.tmp 2] := by refine ⟨Tryd.f138,?_,?_,?_,?_,?_⟩ <;> kernel_rfl
theorem fLeast_fn : FnOk PRG (MF 26) 81 (body Tryd.f81) [.tmp 8,.tmp 9] := by refine ⟨Tryd.f81,?_,?_,?_,?_,?_⟩ <;> kernel_rfl
theorem fFirst_fn : FnOk PRG (MF 29) 83 (body Tryd.f83) [.tmp 4,.tmp 5,.tmp 6] := by refine ⟨Tryd.f83,?_,?_,?_,?_,?_⟩ <;> kernel_rfl
theorem fSafe_fn : FnOk PRG (MF 23) 78 (body Tryd.f78) [.tmp 4,.tmp 5] := by refine ⟨Tryd.f78,?_,?_,?_,?_,?_⟩ <;> kernel_rfl
theorem fFeet_fn : FnOk PRG (MF 22) 84 (body Tryd.f84) [.tmp 4,.tmp 5] := by refine ⟨Tryd.f84,?_,?_,?_,?_,?_⟩ <;> kernel_rfl
theorem fShort_fn : FnOk PRG (MF 37) 85 (body Tryd.f85) [.tmp 4,.tmp 5] := by refine ⟨Tryd.f85,?_,?_,?_,?_,?_⟩ <;> kernel_rfl
def fcheck_R1 (x : FBook)  : List (Key × Val) :=
 [(.tmp 1,.d (D.ptr 1 0)),
  (.box 1,.bx (some (Box.mk false (cellsOf (fbookD x)))))]
def fcheck_RK1 : List Key := [.tmp 1,.box 1]
def fcheck_RO1 : List Key := [.tmp 1,.tmp 3,.box 1]
def fcheck_RS1 (x : FBook)  (ok : Bool) : List (Key × Val) :=
 [(.tmp 1,.d (D.ptr 1 0)),
  (.tmp 3,.d (.bool ok)),
  (.box 1,.bx (some (Box.mk false (cellsOf (fbookD x)))))]
def knowAn_S2 (x : FBook) (m : List (K2 × Bool)) (i j : Nat) (y : Int) (r : List Int) : List (Key × Val) :=
 [(.tmp 1,.d (D.ptr 1 0)),
  (.tmp 2,.d (D.ptr 2 0)),
  (.tmp 3,.d (.int .i64 i)),
  (.tmp 6,.d (.sl true .int [])),
  (.tmp 13,.d (D.int .i64 ((List.length (FBook.feet x) : Int)))),
  (.tmp 14,.d (.int .i64 i)),
  (.tmp 36,.d (D.int .i64 (Book.days (FBook.chain x) + (1 : Int)))),
  (.tmp 37,.d (.int .i64 j)),
  (.box 1,.bx (some ⟨false,fbkC x (.map (.work m)) .nil (.own 30 (y :: r).length)⟩)),
  (.box 2,.bx (some (Box.mk false [D.nil,D.nil,D.nil,D.int .i64 0,D.int .i64 0,D.nil,D.int .i64 0,D.nil,D.int .i64 0,D.int .i64 0,D.nilmap,D.nil,D.nil]))),
  (.obj 30,.ob (some ⟨.int,y :: r⟩)),
  (.obj 53,.ob none),
  (.obj 59,.ob none)]
def knowAn_K2 : List Key := [.tmp 1,.tmp 2,.tmp 3,.tmp 6,.tmp 13,.tmp 14,.tmp 36,.tmp 37,.box 1,.box 2,.obj 30,.obj 53,.obj 59]
def knowAo_S2 (x : FBook) (m : List (K2 × Bool)) (i j : Nat) (y : Int) (r : List Int) (z : Int) (l : List Int) : List (Key × Val) :=
 [(.tmp 1,.d (D.ptr 1 0)),
  (.tmp 2,.d (D.ptr 2 0)),
  (.tmp 3,.d (.int .i64 i)),
  (.tmp 6,.d (.own 53 (z :: l).length)),
  (.tmp 13,.d (D.int .i64 ((List.length (FBook.feet x) : Int)))),
  (.tmp 14,.d (.int .i64 i)),
  (.tmp 36,.d (D.int .i64 (Book.days (FBook.chain x) + (1 : Int)))),
  (.tmp 37,.d (.int .i64 j)),
  (.box 1,.bx (some ⟨false,fbkC x (.map (.work m)) .nil (.own 30 (y :: r).length)⟩)),
  (.box 2,.bx (some (Box.mk false [D.nil,D.nil,D.nil,D.int .i64 0,D.int .i64 0,D.nil,D.int .i64 0,D.nil,D.int .i64 0,D.int .i64 0,D.nilmap,D.nil,D.nil]))),
  (.obj 30,.ob (some ⟨.int,y :: r⟩)),
  (.obj 53,.ob (some ⟨.int,z :: l⟩)),
  (.obj 59,.ob none)]
def knowAo_K2 : List Key := [.tmp 1,.tmp 2,.tmp 3,.tmp 6,.tmp 13,.tmp 14,.tmp 36,.tmp 37,.box 1,.box 2,.obj 30,.obj 53,.obj 59]
def knowBn_S2 (x : FBook) (m : List (K2 × Bool)) (i j : Nat) (y : Int) (r : List Int) (t : List Int) (q : List (List Int)) : List (Key × Val) :=
 [(.tmp 1,.d (D.ptr 1 0)),
  (.tmp 2,.d (D.ptr 2 0)),
  (.tmp 3,.d (.int .i64 i)),
  (.tmp 6,.d (.sl true .int [])),
  (.tmp 13,.d (D.int .i64 ((List.length (FBook.feet x) : Int)))),
  (.tmp 14,.d (.int .i64 i)),
  (.tmp 36,.d (D.int .i64 (Book.days (FBook.chain x) + (1 : Int)))),
  (.tmp 37,.d (.int .i64 j)),
  (.box 1,.bx (some ⟨false,fbkC x (.map (.work m)) (.own 59 (t :: q).length) (.own 30 (y :: r).length)⟩)),
  (.box 2,.bx (some (Box.mk false [D.nil,D.nil,D.nil,D.int .i64 0,D.int .i64 0,D.nil,D.int .i64 0,D.nil,D.int .i64 0,D.int .i64 0,D.nilmap,D.nil,D.nil]))),
  (.obj 30,.ob (some ⟨.int,y :: r⟩)),
  (.obj 53,.ob none),
  (.obj 59,.ob (some ⟨.list .int,t :: q⟩))]
def knowBn_K2 : List Key := [.tmp 1,.tmp 2,.tmp 3,.tmp 6,.tmp 13,.tmp 14,.tmp 36,.tmp 37,.box 1,.box 2,.obj 30,.obj 53,.obj 59]
def knowBo_S2 (x : FBook) (m : List (K2 × Bool)) (i j : Nat) (y : Int) (r : List Int) (t : List Int) (q : List (List Int)) (z : Int) (l : List Int) : List (Key × Val) :=
 [(.tmp 1,.d (D.ptr 1 0)),
  (.tmp 2,.d (D.ptr 2 0)),
  (.tmp 3,.d (.int .i64 i)),
  (.tmp 6,.d (.own 53 (z :: l).length)),
  (.tmp 13,.d (D.int .i64 ((List.length (FBook.feet x) : Int)))),
  (.tmp 14,.d (.int .i64 i)),
  (.tmp 36,.d (D.int .i64 (Book.days (FBook.chain x) + (1 : Int)))),
  (.tmp 37,.d (.int .i64 j)),
  (.box 1,.bx (some ⟨false,fbkC x (.map (.work m)) (.own 59 (t :: q).length) (.own 30 (y :: r).length)⟩)),
  (.box 2,.bx (some (Box.mk false [D.nil,D.nil,D.nil,D.int .i64 0,D.int .i64 0,D.nil,D.int .i64 0,D.nil,D.int .i64 0,D.int .i64 0,D.nilmap,D.nil,D.nil]))),
  (.obj 30,.ob (some ⟨.int,y :: r⟩)),
  (.obj 53,.ob (some ⟨.int,z :: l⟩)),
  (.obj 59,.ob (some ⟨.list .int,t :: q⟩))]
def knowBo_K2 : List Key := [.tmp 1,.tmp 2,.tmp 3,.tmp 6,.tmp 13,.tmp 14,.tmp 36,.tmp 37,.box 1,.box 2,.obj 30,.obj 53,.obj 59]
def knowA_S0 (x : FBook) (m : List (K2 × Bool)) (i : Nat) : List (Key × Val) :=
 [(.tmp 1,.d (D.ptr 1 0)),
  (.tmp 2,.d (D.ptr 2 0)),
  (.tmp 13,.d (D.int .i64 ((List.length (FBook.feet x) : Int)))),
  (.tmp 14,.d (.int .i64 i)),
  (.box 1,.bx (some ⟨false,fbkC x (.map (.work m)) .nil .nil⟩)),
  (.box 2,.bx (some (Box.mk false [D.nil,D.nil,D.nil,D.int .i64 0,D.int .i64 0,D.nil,D.int .i64 0,D.nil,D.int .i64 0,D.int .i64 0,D.nilmap,D.nil,D.nil]))),
  (.obj 30,.ob none),
  (.obj 59,.ob none)]
def knowB_S0 (x : FBook) (m : List (K2 × Bool)) (i : Nat) (y : Int) (r : List Int) (t : List Int) (q : List (List Int)) : List (Key × Val) :=
 [(.tmp 1,.d (D.ptr 1 0)),
  (.tmp 2,.d (D.ptr 2 0)),
  (.tmp 13,.d (D.int .i64 ((List.length (FBook.feet x) : Int)))),
  (.tmp 14,.d (.int .i64 i)),
  (.box 1,.bx (some ⟨false,fbkC x (.map (.work m)) (.own 59 (t :: q).length) (.own 30 (y :: r).length)⟩)),
  (.box 2,.bx (some (Box.mk false [D.nil,D.nil,D.nil,D.int .i64 0,D.int .i64 0,D.nil,D.int .i64 0,D.nil,D.int .i64 0,D.int .i64 0,D.nilmap,D.nil,D.nil]))),
  (.obj 30,.ob (some ⟨.int,y :: r⟩)),
  (.obj 59,.ob (some ⟨.list .int,t :: q⟩))]
def knowB_K0 : List Key := [.tmp 1,.tmp 2,.tmp 13,.tmp 14,.box 1,.box 2,.obj 30,.obj 59]
def fShort_S0 (x : FBook) (plan : List Work) (l : List (K2 × Bool)) (i : Nat) : List (Key × Val) :=
 [(.tmp 1,.d (D.sl false E.work plan)),
  (.tmp 2,.d (D.ptr 2 0)),
  (.tmp 8,.d (D.ptr 8 0)),
  (.tmp 22,.d (D.int .i64 ((List.length plan : Int)))),
  (.tmp 23,.d (.int .i64 i)),
  (.box 2,.bx (some (Box.mk false (cellsOf (fbookD x))))),
  (.box 8,.bx (some (Box.mk false (cellsOf (fopD x l)))))]
def fShort_K0 : List Key := [.tmp 1,.tmp 2,.tmp 8,.tmp 22,.tmp 23,.box 2,.box 8]
def fcheck_S0 (x : FBook) (ok : Bool) (i : Nat) : List (Key × Val) :=
 [(.tmp 1,.d (D.ptr 1 0)),
  (.tmp 3,.d (.bool ok)),
  (.tmp 45,.d (D.sl false E.int (FBook.feet x))),
  (.tmp 46,.d (D.int .i64 ((List.length (FBook.feet x) : Int)))),
  (.tmp 47,.d (.int .i64 i)),
  (.box 1,.bx (some (Box.mk false (cellsOf (fbookD x)))))]
def fcheck_K0 : List Key := [.tmp 1,.tmp 3,.tmp 45,.tmp 46,.tmp 47,.box 1]
def fcheck_S2 (x : FBook) (ok : Bool) (la : Int) (i : Nat) : List (Key × Val) :=
 [(.tmp 1,.d (D.ptr 1 0)),
  (.tmp 3,.d (.bool ok)),
  (.tmp 6,.d (.int .i64 la)),
  (.tmp 58,.d (D.sl false E.int (FBook.opn x))),
  (.tmp 59,.d (D.int .i64 ((List.length (FBook.opn x) : Int)))),
  (.tmp 60,.d (.int .i64 i)),
  (.box 1,.bx (some (Box.mk false (cellsOf (fbookD x)))))]
def fcheck_K2 : List Key := [.tmp 1,.tmp 3,.tmp 6,.tmp 58,.tmp 59,.tmp 60,.box 1]
def fShort_T0_hit (x : FBook) (plan : List Work) (l : List (K2 × Bool)) (i : Nat) (v : Int) : List (Key × Val) :=
 [(.tmp 1,.d (D.sl false E.work plan)),(.tmp 2,.d (D.ptr 2 0)),(.tmp 8,.d (D.ptr 8 0)),(.tmp 22,.d (D.int .i64 ((List.length plan : Int)))),(.tmp 23,.d (D.int .i64 (i : Int))),(.box 2,.bx (some (Box.mk false (cellsOf (fbookD x))))),(.box 8,.bx (some (Box.mk false (cellsOf (fopD x l))))),(.tmp 4,.d (D.int .i64 (i : Int))),(.tmp 5,.d (D.int .i64 0))]
theorem fcheck_R1_a (x : FBook) :
  runK (MF 78) [(13,false)] [(11,.int .i64 (checkF x.chain)),(26,.bool (withinF x.new 0 200)),(37,.bool (withinF x.stock 0 200)),(42,.bool (withinF x.make 0 9))] [] (Code.at [1,0] (body Tryd.f98)) (fcheck_R1 x ) fcheck_RO1 =
   some ([CF 64 [bookD x.chain] (D.int .i64 (checkF (FBook.chain x))),(checkF (FBook.chain x) == (0 : Int)) = false,(checkF (FBook.chain x) == (0 : Int)) = false,(checkF (FBook.chain x) == (0 : Int)) = false,(checkF (FBook.chain x) == (0 : Int)) = false,(checkF (FBook.chain x) == (0 : Int)) = false,(checkF (FBook.chain x) == (0 : Int)) = false,(checkF (FBook.chain x) == (0 : Int)) = false,(checkF (FBook.chain x) == (0 : Int)) = false,(checkF (FBook.chain x) == (0 : Int)) = false],Ex.normal,fcheck_RS1 x false) := by kernel_rfl
theorem fcheck_R1_b (x : FBook) :
  runK (MF 78) [(13,true),(23,false)] [(11,.int .i64 (checkF x.chain)),(26,.bool (withinF x.new 0 200)),(37,.bool (withinF x.stock 0 200)),(42,.bool (withinF x.make 0 9))] [] (Code.at [1,0] (body Tryd.f98)) (fcheck_R1 x ) fcheck_RO1 =
   some ([CF 64 [bookD x.chain] (D.int .i64 (checkF (FBook.chain x))),(checkF (FBook.chain x) == (0 : Int)) = true,(checkF (FBook.chain x) == (0 : Int)) = true,(checkF (FBook.chain x) == (0 : Int)) = true,(checkF (FBook.chain x) == (0 : Int)) = true,(checkF (FBook.chain x) == (0 : Int)) = true,(checkF (FBook.chain x) == (0 : Int)) = true,(checkF (FBook.chain x) == (0 : Int)) = true,(checkF (FBook.chain x) == (0 : Int)) = true,(checkF (FBook.chain x) == (0 : Int)) = true,((List.length (FBook.feet x) : Int) == (List.length (Book.secs (FBook.chain x)) : Int)) = false,((List.length (FBook.feet x) : Int) == (List.length (Book.secs (FBook.chain x)) : Int)) = false,((List.length (FBook.feet x) : Int) == (List.length (Book.secs (FBook.chain x)) : Int)) = false,((List.length (FBook.feet x) : Int) == (List.length (Book.secs (FBook.chain x)) : Int)) = false],Ex.normal,fcheck_RS1 x false) := by kernel_rfl
theorem fcheck_R1_c (x : FBook) :
  runK (MF 78) [(13,true),(23,true),(28,false)] [(11,.int .i64 (checkF x.chain)),(26,.bool (withinF x.new 0 200)),(37,.bool (withinF x.stock 0 200)),(42,.bool (withinF x.make 0 9))] [] (Code.at [1,0] (body Tryd.f98)) (fcheck_R1 x ) fcheck_RO1 =
   some ([CF 64 [bookD x.chain] (D.int .i64 (checkF (FBook.chain x))),(checkF (FBook.chain x) == (0 : Int)) = true,(checkF (FBook.chain x) == (0 : Int)) = true,(checkF (FBook.chain x) == (0 : Int)) = true,(checkF (FBook.chain x) == (0 : Int)) = true,(checkF (FBook.chain x) == (0 : Int)) = true,(checkF (FBook.chain x) == (0 : Int)) = true,(checkF (FBook.chain x) == (0 : Int)) = true,(checkF (FBook.chain x) == (0 : Int)) = true,(checkF (FBook.chain x) == (0 : Int)) = true,((List.length (FBook.feet x) : Int) == (List.length (Book.secs (FBook.chain x)) : Int)) = true,((List.length (FBook.feet x) : Int) == (List.length (Book.secs (FBook.chain x)) : Int)) = true,((List.length (FBook.feet x) : Int) == (List.length (Book.secs (FBook.chain x)) : Int)) = true,CF 142 [D.int .i64 (FBook.new x),D.int .i64 0,D.int .i64 200] (D.bool (withinF (FBook.new x) (0 : Int) (200 : Int))),((List.length (FBook.feet x) : Int) == (List.length (Book.secs (FBook.chain x)) : Int)) = true,withinF (FBook.new x) (0 : Int) (200 : Int) = false,withinF (FBook.new x) (0 : Int) (200 : Int) = false,withinF (FBook.new x) (0 : Int) (200 : Int) = false,withinF (FBook.new x) (0 : Int) (200 : Int) = false,withinF (FBook.new x) (0 : Int) (200 : Int) = false],Ex.normal,fcheck_RS1 x false) := by kernel_rfl
theorem fcheck_R1_d (x : FBook) :
  runK (MF 78) [(13,true),(23,true),(28,true),(34,false)] [(11,.int .i64 (checkF x.chain)),(26,.bool (withinF x.new 0 200)),(37,.bool (withinF x.stock 0 200)),(42,.bool (withinF x.make 0 9))] [] (Code.at [1,0] (body Tryd.f98)) (fcheck_R1 x ) fcheck_RO1 =
   some ([CF 64 [bookD x.chain] (D.int .i64 (checkF (FBook.chain x))),(checkF (FBook.chain x) == (0 : Int)) = true,(checkF (FBook.chain x) == (0 : Int)) = true,(checkF (FBook.chain x) == (0 : Int)) = true,(checkF (FBook.chain x) == (0 : Int)) = true,(checkF (FBook.chain x) == (0 : Int)) = true,(checkF (FBook.chain x) == (0 : Int)) = true,(checkF (FBook.chain x) == (0 : Int)) = true,(checkF (FBook.chain x) == (0 : Int)) = true,(checkF (FBook.chain x) == (0 : Int)) = true,((List.length (FBook.feet x) : Int) == (List.length (Book.secs (FBook.chain x)) : Int)) = true,((List.length (FBook.feet x) : Int) == (List.length (Book.secs (FBook.chain x)) : Int)) = true,((List.length (FBook.feet x) : Int) == (List.length (Book.secs (FBook.chain x)) : Int)) = true,CF 142 [D.int .i64 (FBook.new x),D.int .i64 0,D.int .i64 200] (D.bool (withinF (FBook.new x) (0 : Int) (200 : Int))),((List.length (FBook.feet x) : Int) == (List.length (Book.secs (FBook.chain x)) : Int)) = true,withinF (FBook.new x) (0 : Int) (200 : Int) = true,withinF (FBook.new x) (0 : Int) (200 : Int) = true,withinF (FBook.new x) (0 : Int) (200 : Int) = true,withinF (FBook.new x) (0 : Int) (200 : Int) = true,withinF (FBook.new x) (0 : Int) (200 : Int) = true,decide ((List.length (FBook.opn x) : Int) ≤ (4 : Int)) = false,decide ((List.length (FBook.opn x) : Int) ≤ (4 : Int)) = false,decide ((List.length (FBook.opn x) : Int) ≤ (4 : Int)) = false,decide ((List.length (FBook.opn x) : Int) ≤ (4 : Int)) = false],Ex.normal,fcheck_RS1 x false) := by kernel_rfl
theorem fcheck_R1_e (x : FBook) :
  runK (MF 78) [(13,true),(23,true),(28,true),(34,true),(39,false)] [(11,.int .i64 (checkF x.chain)),(26,.bool (withinF x.new 0 200)),(37,.bool (withinF x.stock 0 200)),(42,.bool (withinF x.make 0 9))] [] (Code.at [1,0] (body Tryd.f98)) (fcheck_R1 x ) fcheck_RO1 =
   some ([CF 64 [bookD x.chain] (D.int .i64 (checkF (FBook.chain x))),(checkF (FBook.chain x) == (0 : Int)) = true,(checkF (FBook.chain x) == (0 : Int)) = true,(checkF (FBook.chain x) == (0 : Int)) = true,(checkF (FBook.chain x) == (0 : Int)) = true,(checkF (FBook.chain x) == (0 : Int)) = true,(checkF (FBook.chain x) == (0 : Int)) = true,(checkF (FBook.chain x) == (0 : Int)) = true,(checkF (FBook.chain x) == (0 : Int)) = true,(checkF (FBook.chain x) == (0 : Int)) = true,((List.length (FBook.feet x) : Int) == (List.length (Book.secs (FBook.chain x)) : Int)) = true,((List.length (FBook.feet x) : Int) == (List.length (Book.secs (FBook.chain x)) : Int)) = true,((List.length (FBook.feet x) : Int) == (List.length (Book.secs (FBook.chain x)) : Int)) = true,CF 142 [D.int .i64 (FBook.new x),D.int .i64 0,D.int .i64 200] (D.bool (withinF (FBook.new x) (0 : Int) (200 : Int))),((List.length (FBook.feet x) : Int) == (List.length (Book.secs (FBook.chain x)) : Int)) = true,withinF (FBook.new x) (0 : Int) (200 : Int) = true,withinF (FBook.new x) (0 : Int) (200 : Int) = true,withinF (FBook.new x) (0 : Int) (200 : Int) = true,withinF (FBook.new x) (0 : Int) (200 : Int) = true,withinF (FBook.new x) (0 : Int) (200 : Int) = true,decide ((List.length (FBook.opn x) : Int) ≤ (4 : Int)) = true,decide ((List.length (FBook.opn x) : Int) ≤ (4 : Int)) = true,decide ((List.length (FBook.opn x) : Int) ≤ (4 : Int)) = true,CF 142 [D.int .i64 (FBook.stock x),D.int .i64 0,D.int .i64 200] (D.bool (withinF (FBook.stock x) (0 : Int) (200 : Int))),decide ((List.length (FBook.opn x) : Int) ≤ (4 : Int)) = true,withinF (FBook.stock x) (0 : Int) (200 : Int) = false,withinF (FBook.stock x) (0 : Int) (200 : Int) = false,withinF (FBook.stock x) (0 : Int) (200 : Int) = false,withinF (FBook.stock x) (0 : Int) (200 : Int) = false],Ex.normal,fcheck_RS1 x false) := by kernel_rfl
theorem fcheck_R1_f (x : FBook) :
  runK (MF 78) [(13,true),(23,true),(28,true),(34,true),(39,true)] [(11,.int .i64 (checkF x.chain)),(26,.bool (withinF x.new 0 200)),(37,.bool (withinF x.stock 0 200)),(42,.bool (withinF x.make 0 9))] [] (Code.at [1,0] (body Tryd.f98)) (fcheck_R1 x ) fcheck_RO1 =
   some ([CF 64 [bookD x.chain] (D.int .i64 (checkF (FBook.chain x))),(checkF (FBook.chain x) == (0 : Int)) = true,(checkF (FBook.chain x) == (0 : Int)) = true,(checkF (FBook.chain x) == (0 : Int)) = true,(checkF (FBook.chain x) == (0 : Int)) = true,(checkF (FBook.chain x) == (0 : Int)) = true,(checkF (FBook.chain x) == (0 : Int)) = true,(checkF (FBook.chain x) == (0 : Int)) = true,(checkF (FBook.chain x) == (0 : Int)) = true,(checkF (FBook.chain x) == (0 : Int)) = true,((List.length (FBook.feet x) : Int) == (List.length (Book.secs (FBook.chain x)) : Int)) = true,((List.length (FBook.feet x) : Int) == (List.length (Book.secs (FBook.chain x)) : Int)) = true,((List.length (FBook.feet x) : Int) == (List.length (Book.secs (FBook.chain x)) : Int)) = true,CF 142 [D.int .i64 (FBook.new x),D.int .i64 0,D.int .i64 200] (D.bool (withinF (FBook.new x) (0 : Int) (200 : Int))),((List.length (FBook.feet x) : Int) == (List.length (Book.secs (FBook.chain x)) : Int)) = true,withinF (FBook.new x) (0 : Int) (200 : Int) = true,withinF (FBook.new x) (0 : Int) (200 : Int) = true,withinF (FBook.new x) (0 : Int) (200 : Int) = true,withinF (FBook.new x) (0 : Int) (200 : Int) = true,withinF (FBook.new x) (0 : Int) (200 : Int) = true,decide ((List.length (FBook.opn x) : Int) ≤ (4 : Int)) = true,decide ((List.length (FBook.opn x) : Int) ≤ (4 : Int)) = true,decide ((List.length (FBook.opn x) : Int) ≤ (4 : Int)) = true,CF 142 [D.int .i64 (FBook.stock x),D.int .i64 0,D.int .i64 200] (D.bool (withinF (FBook.stock x) (0 : Int) (200 : Int))),decide ((List.length (FBook.opn x) : Int) ≤ (4 : Int)) = true,withinF (FBook.stock x) (0 : Int) (200 : Int) = true,withinF (FBook.stock x) (0 : Int) (200 : Int) = true,withinF (FBook.stock x) (0 : Int) (200 : Int) = true,CF 142 [D.int .i64 (FBook.make x),D.int .i64 0,D.int .i64 9] (D.bool (withinF (FBook.make x) (0 : Int) (9 : Int))),withinF (FBook.stock x) (0 : Int) (200 : Int) = true],Ex.normal,fcheck_RS1 x (withinF x.make 0 9)) := by kernel_rfl
theorem fcheck_0_no (x : FBook) (ok : Bool) (i : Nat) :
  runK (MF 78) [(48,true),(52,false)] [] [] (Code.at [1,1,0,1,0,0] (body Tryd.f98)) (fcheck_S0 x ok i) fcheck_K0 =
   some ([decide ((i : Int) < (List.length (FBook.feet x) : Int)) = true,(0 : Int) ≤ (i : Int) ∧ (i : Int) < (List.length (FBook.feet x) : Int),0 + 1 ≤ 1,ok = false,ok = false,ok = false,inI64 ((i : Int) + (1 : Int))],Ex.normal,fcheck_S0 x false (i + 1)) := by kernel_rfl
theorem fcheck_0_yes (x : FBook) (ok : Bool) (i : Nat) (b : Bool) :
  runK (MF 78) [(48,true),(52,true)] [(54,.bool b)] [] (Code.at [1,1,0,1,0,0] (body Tryd.f98)) (fcheck_S0 x ok i) fcheck_K0 =
   some ([decide ((i : Int) < (List.length (FBook.feet x) : Int)) = true,(0 : Int) ≤ (i : Int) ∧ (i : Int) < (List.length (FBook.feet x) : Int),0 + 1 ≤ 1,ok = true,ok = true,CF 142 [D.int .i64 (List.getD (FBook.feet x) (i) (0 : Int)),D.int .i64 1,D.int .i64 30] (D.bool b),ok = true,inI64 ((i : Int) + (1 : Int))],Ex.normal,fcheck_S0 x b (i + 1)) := by kernel_rfl
theorem fcheck_0_end (x : FBook) (ok : Bool) (i : Nat) :
  runK (MF 78) [(48,false)] [] [] (Code.at [1,1,0,1,0,0] (body Tryd.f98)) (fcheck_S0 x ok i) fcheck_K0 =
   some ([decide ((i : Int) < (List.length (FBook.feet x) : Int)) = false],Ex.exit 0,fcheck_S0 x ok i) := by kernel_rfl
theorem fcheck_2_no (x : FBook) (ok : Bool) (la : Int) (i : Nat) :
  runK (MF 78) [(61,true),(65,false)] [] [] (Code.at [1,1,1,1,0,1,0,0] (body Tryd.f98)) (fcheck_S2 x ok la i) fcheck_K2 =
   some ([decide ((i : Int) < (List.length (FBook.opn x) : Int)) = true,(0 : Int) ≤ (i : Int) ∧ (i : Int) < (List.length (FBook.opn x) : Int),0 + 1 ≤ 1,ok = false,ok = false,ok = false,ok = false,ok = false,ok = false,ok = false,ok = false,inI64 ((i : Int) + (1 : Int))],Ex.normal,fcheck_S2 x false (x.opn.getD i 0) (i + 1)) := by kernel_rfl
theorem fcheck_2_yes (x : FBook) (ok : Bool) (la : Int) (i : Nat) (b : Bool) :
  runK (MF 78) [(61,true),(65,true)] [(72,.bool b)] [] (Code.at [1,1,1,1,0,1,0,0] (body Tryd.f98)) (fcheck_S2 x ok la i) fcheck_K2 =
   some ([decide ((i : Int) < (List.length (FBook.opn x) : Int)) = true,(0 : Int) ≤ (i : Int) ∧ (i : Int) < (List.length (FBook.opn x) : Int),0 + 1 ≤ 1,ok = true,ok = true,ok = true,inI64 (la + (1 : Int)),ok = true,ok = true,ok = true,ok = true,CF 142 [D.int .i64 (List.getD (FBook.opn x) (i) (0 : Int)),D.int .i64 (la + (1 : Int)),D.int .i64 (Book.days (FBook.chain x))] (D.bool b),ok = true,inI64 ((i : Int) + (1 : Int))],Ex.normal,fcheck_S2 x b (x.opn.getD i 0) (i + 1)) := by kernel_rfl
theorem fcheck_2_end (x : FBook) (ok : Bool) (la : Int) (i : Nat) :
  runK (MF 78) [(61,false)] [] [] (Code.at [1,1,1,1,0,1,0,0] (body Tryd.f98)) (fcheck_S2 x ok la i) fcheck_K2 =
   some ([decide ((i : Int) < (List.length (FBook.opn x) : Int)) = false],Ex.exit 2,fcheck_S2 x ok la i) := by kernel_rfl
theorem knowAn_2_on (x : FBook) (m : List (K2 × Bool)) (i j : Nat) (y : Int) (r : List Int) (s : Span) (e : Int) :
  runK (MF 63) [(38,true)] [(46,.tup [spD s,.int .i64 e])] [] (Code.at [1,0,1,0,0,1,1,0,0,1,1,1,1,0,1,0,0] (body Tryd.f174)) (knowAn_S2 x m i j y r) knowAo_K2 =
   some ([decide ((j : Int) < Book.days (FBook.chain x) + (1 : Int)) = true,CF 41 [bookD x.chain,D.int .i64 (i : Int),D.int .i64 (j : Int)] (D.tup [D.agg [D.int .i64 (Span.lo s),D.int .i64 (Span.hi s)],D.int .i64 e]),0 + 0 + 1 ≤ 2,1 * (8 + 1) ≤ 140737488355328,inI64 ((j : Int) + (1 : Int))],Ex.normal,knowAo_S2 x m i (j + 1) y r s.lo []) := by kernel_rfl
theorem knowAn_2_end (x : FBook) (m : List (K2 × Bool)) (i j : Nat) (y : Int) (r : List Int) :
  runK (MF 63) [(38,false)] [] [] (Code.at [1,0,1,0,0,1,1,0,0,1,1,1,1,0,1,0,0] (body Tryd.f174)) (knowAn_S2 x m i j y r) knowAn_K2 =
   some ([decide ((j : Int) < Book.days (FBook.chain x) + (1 : Int)) = false],Ex.exit 2,knowAn_S2 x m i j y r) := by kernel_rfl
theorem knowAo_2_on (x : FBook) (m : List (K2 × Bool)) (i j : Nat) (y : Int) (r : List Int) (z : Int) (l : List Int) (s : Span) (e : Int) :
  runK (MF 63) [(38,true)] [(46,.tup [spD s,.int .i64 e])] [] (Code.at [1,0,1,0,0,1,1,0,0,1,1,1,1,0,1,0,0] (body Tryd.f174)) (knowAo_S2 x m i j y r z l) knowAo_K2 =
   some ([decide ((j : Int) < Book.days (FBook.chain x) + (1 : Int)) = true,CF 41 [bookD x.chain,D.int .i64 (i : Int),D.int .i64 (j : Int)] (D.tup [D.agg [D.int .i64 (Span.lo s),D.int .i64 (Span.hi s)],D.int .i64 e]),0 + 0 + 1 ≤ 2,List.length (z :: l) = List.length ((z :: l)),List.length ((z :: l) ++ [Span.lo s]) * (8 + 1) ≤ 140737488355328,inI64 ((j : Int) + (1 : Int))],Ex.normal,knowAo_S2 x m i (j + 1) y r z (l ++ [s.lo])) := by kernel_rfl
theorem knowAo_2_end (x : FBook) (m : List (K2 × Bool)) (i j : Nat) (y : Int) (r : List Int) (z : Int) (l : List Int) :
  runK (MF 63) [(38,false)] [] [] (Code.at [1,0,1,0,0,1,1,0,0,1,1,1,1,0,1,0,0] (body Tryd.f174)) (knowAo_S2 x m i j y r z l) knowAo_K2 =
   some ([decide ((j : Int) < Book.days (FBook.chain x) + (1 : Int)) = false],Ex.exit 2,knowAo_S2 x m i j y r z l) := by kernel_rfl
theorem knowBn_2_on (x : FBook) (m : List (K2 × Bool)) (i j : Nat) (y : Int) (r : List Int) (t : List Int) (q : List (List Int)) (s : Span) (e : Int) :
  runK (MF 63) [(38,true)] [(46,.tup [spD s,.int .i64 e])] [] (Code.at [1,0,1,0,0,1,1,0,0,1,1,1,1,0,1,0,0] (body Tryd.f174)) (knowBn_S2 x m i j y r t q) knowBo_K2 =
   some ([decide ((j : Int) < Book.days (FBook.chain x) + (1 : Int)) = true,CF 41 [bookD x.chain,D.int .i64 (i : Int),D.int .i64 (j : Int)] (D.tup [D.agg [D.int .i64 (Span.lo s),D.int .i64 (Span.hi s)],D.int .i64 e]),0 + 0 + 1 ≤ 2,1 * (8 + 1) ≤ 140737488355328,inI64 ((j : Int) + (1 : Int))],Ex.normal,knowBo_S2 x m i (j + 1) y r t q s.lo []) := by kernel_rfl
theorem knowBn_2_end (x : FBook) (m : List (K2 × Bool)) (i j : Nat) (y : Int) (r : List Int) (t : List Int) (q : List (List Int)) :
  runK (MF 63) [(38,false)] [] [] (Code.at [1,0,1,0,0,1,1,0,0,1,1,1,1,0,1,0,0] (body Tryd.f174)) (knowBn_S2 x m i j y r t q) knowBn_K2 =
   some ([decide ((j : Int) < Book.days (FBook.chain x) + (1 : Int)) = false],Ex.exit 2,knowBn_S2 x m i j y r t q) := by kernel_rfl
theorem knowBo_2_on (x : FBook) (m : List (K2 × Bool)) (i j : Nat) (y : Int) (r : List Int) (t : List Int) (q : List (List Int)) (z : Int) (l : List Int) (s : Span) (e : Int) :
  runK (MF 63) [(38,true)] [(46,.tup [spD s,.int .i64 e])] [] (Code.at [1,0,1,0,0,1,1,0,0,1,1,1,1,0,1,0,0] (body Tryd.f174)) (knowBo_S2 x m i j y r t q z l) knowBo_K2 =
   some ([decide ((j : Int) < Book.days (FBook.chain x) + (1 : Int)) = true,CF 41 [bookD x.chain,D.int .i64 (i : Int),D.int .i64 (j : Int)] (D.tup [D.agg [D.int .i64 (Span.lo s),D.int .i64 (Span.hi s)],D.int .i64 e]),0 + 0 + 1 ≤ 2,List.length (z :: l) = List.length ((z :: l)),List.length ((z :: l) ++ [Span.lo s]) * (8 + 1) ≤ 140737488355328,inI64 ((j : Int) + (1 : Int))],Ex.normal,knowBo_S2 x m i (j + 1) y r t q z (l ++ [s.lo])) := by kernel_rfl
theorem knowBo_2_end (x : FBook) (m : List (K2 × Bool)) (i j : Nat) (y : Int) (r : List Int) (t : List Int) (q : List (List Int)) (z : Int) (l : List Int) :
  runK (MF 63) [(38,false)] [] [] (Code.at [1,0,1,0,0,1,1,0,0,1,1,1,1,0,1,0,0] (body Tryd.f174)) (knowBo_S2 x m i j y r t q z l) knowBo_K2 =
   some ([decide ((j : Int) < Book.days (FBook.chain x) + (1 : Int)) = false],Ex.exit 2,knowBo_S2 x m i j y r t q z l) := by kernel_rfl
theorem knowA_0_on (x : FBook) (m : List (K2 × Bool)) (i : Nat) (s : Span) (e : Int) (j : Nat) (z : Int) (l : List Int) :
  runK (MF 63) [(15,true)] [(22,.tup [spD s,.int .i64 e])] [(2,(knowAo_K2,(.normal,knowAo_S2 x m i j s.hi [] z l)))] (Code.at [1,0,1,0,0] (body Tryd.f174)) (knowA_S0 x m i) knowB_K0 =
   some ([decide ((i : Int) < (List.length (FBook.feet x) : Int)) = true,CF 42 [bookD x.chain,D.int .i64 (i : Int)] (D.tup [D.agg [D.int .i64 (Span.lo s),D.int .i64 (Span.hi s)],D.int .i64 e]),0 + 1 + 1 ≤ 2,1 * (8 + 1) ≤ 140737488355328,1 = 1,inI64 (Book.days (FBook.chain x) + (1 : Int)),LF 63 (Code.at [1,0,1,0,0,1,1,0,0,1,1,1,1,0,1] (body Tryd.f174)) [(.tmp 1,.d (D.ptr 1 0)),(.tmp 2,.d (D.ptr 2 0)),(.tmp 3,.d (D.int .i64 (i : Int))),(.tmp 6,.d (D.sl true E.int [])),(.tmp 13,.d (D.int .i64 ((List.length (FBook.feet x) : Int)))),(.tmp 14,.d (D.int .i64 (i : Int))),(.tmp 36,.d (D.int .i64 (Book.days (FBook.chain x) + (1 : Int)))),(.tmp 37,.d (D.int .i64 0)),(.box 1,.bx (some (Box.mk false [D.sl false E.sec (Book.secs (FBook.chain x)),D.sl false E.int (Book.turns (FBook.chain x)),D.sl false E.sv (Book.svs (FBook.chain x)),D.int .i64 (Book.rule (FBook.chain x)),D.int .i64 (Book.days (FBook.chain x)),D.sl false E.int (FBook.feet x),D.int .i64 (FBook.new x),D.sl false E.int (FBook.opn x),D.int .i64 (FBook.stock x),D.int .i64 (FBook.make x),D.map (Mp.work m),D.nil,D.own 30 1]))),(.box 2,.bx (some (Box.mk false [D.nil,D.nil,D.nil,D.int .i64 0,D.int .i64 0,D.nil,D.int .i64 0,D.nil,D.int .i64 0,D.int .i64 0,D.nilmap,D.nil,D.nil]))),(.obj 30,.ob (some (Ob.mk E.int ([] ++ [Span.hi s])))),(.obj 53,.ob Option.none),(.obj 59,.ob Option.none)] Ex.normal (knowAo_S2 x m i j (Span.hi s) [] z l),List.length (z :: l) = List.length ((z :: l)),1 * (24 + 1) ≤ 140737488355328,1 = 1,inI64 ((i : Int) + (1 : Int))],Ex.normal,knowB_S0 x m (i + 1) s.hi [] (z :: l) []) := by kernel_rfl
theorem knowB_0_on (x : FBook) (m : List (K2 × Bool)) (i : Nat) (y : Int) (r : List Int) (t : List Int) (q : List (List Int)) (s : Span) (e : Int) (j : Nat) (z : Int) (l : List Int) :
  runK (MF 63) [(15,true)] [(22,.tup [spD s,.int .i64 e])] [(2,(knowBo_K2,(.normal,knowBo_S2 x m i j y (r ++ [s.hi]) t q z l)))] (Code.at [1,0,1,0,0] (body Tryd.f174)) (knowB_S0 x m i y r t q) knowB_K0 =
   some ([decide ((i : Int) < (List.length (FBook.feet x) : Int)) = true,CF 42 [bookD x.chain,D.int .i64 (i : Int)] (D.tup [D.agg [D.int .i64 (Span.lo s),D.int .i64 (Span.hi s)],D.int .i64 e]),0 + 1 + 1 ≤ 2,List.length (y :: r) = List.length ((y :: r)),List.length ((y :: r) ++ [Span.hi s]) * (8 + 1) ≤ 140737488355328,List.length ((y :: r) ++ [Span.hi s]) = List.length (((y :: r) ++ [Span.hi s])),inI64 (Book.days (FBook.chain x) + (1 : Int)),LF 63 (Code.at [1,0,1,0,0,1,1,0,0,1,1,1,1,0,1] (body Tryd.f174)) [(.tmp 1,.d (D.ptr 1 0)),(.tmp 2,.d (D.ptr 2 0)),(.tmp 3,.d (D.int .i64 (i : Int))),(.tmp 6,.d (D.sl true E.int [])),(.tmp 13,.d (D.int .i64 ((List.length (FBook.feet x) : Int)))),(.tmp 14,.d (D.int .i64 (i : Int))),(.tmp 36,.d (D.int .i64 (Book.days (FBook.chain x) + (1 : Int)))),(.tmp 37,.d (D.int .i64 0)),(.box 1,.bx (some (Box.mk false [D.sl false E.sec (Book.secs (FBook.chain x)),D.sl false E.int (Book.turns (FBook.chain x)),D.sl false E.sv (Book.svs (FBook.chain x)),D.int .i64 (Book.rule (FBook.chain x)),D.int .i64 (Book.days (FBook.chain x)),D.sl false E.int (FBook.feet x),D.int .i64 (FBook.new x),D.sl false E.int (FBook.opn x),D.int .i64 (FBook.stock x),D.int .i64 (FBook.make x),D.map (Mp.work m),D.own 59 (List.length (t :: q)),D.own 30 (List.length ((y :: r) ++ [Span.hi s]))]))),(.box 2,.bx (some (Box.mk false [D.nil,D.nil,D.nil,D.int .i64 0,D.int .i64 0,D.nil,D.int .i64 0,D.nil,D.int .i64 0,D.int .i64 0,D.nilmap,D.nil,D.nil]))),(.obj 30,.ob (some (Ob.mk E.int ((y :: r) ++ [Span.hi s])))),(.obj 53,.ob Option.none),(.obj 59,.ob (some (Ob.mk (E.list E.int) (t :: q))))] Ex.normal (knowBo_S2 x m i j y (r ++ [Span.hi s]) t q z l),List.length (z :: l) = List.length ((z :: l)),List.length (t :: q) = List.length ((t :: q)),List.length ((t :: q) ++ [(z :: l)]) * (24 + 1) ≤ 140737488355328,List.length ((t :: q) ++ [(z :: l)]) = List.length (((t :: q) ++ [(z :: l)])),inI64 ((i : Int) + (1 : Int))],Ex.normal,knowB_S0 x m (i + 1) y (r ++ [s.hi]) t (q ++ [z :: l])) := by kernel_rfl
theorem knowB_0_end (x : FBook) (m : List (K2 × Bool)) (i : Nat) (y : Int) (r : List Int) (t : List Int) (q : List (List Int)) :
  runK (MF 63) [(15,false)] [] [] (Code.at [1,0,1,0,0] (body Tryd.f174)) (knowB_S0 x m i y r t q) knowB_K0 =
   some ([decide ((i : Int) < (List.length (FBook.feet x) : Int)) = false],Ex.exit 0,knowB_S0 x m i y r t q) := by kernel_rfl
theorem fShort_0_on (x : FBook) (plan : List Work) (l : List (K2 × Bool)) (i : Nat) (v : Int) :
  runK (MF 37) [(24,true),(34,false)] [(31,.int .i64 v)] [] (Code.at [1,1,1,0,1,0,0] (body Tryd.f85)) (fShort_S0 x plan l i) fShort_K0 =
   some ([decide ((i : Int) < (List.length plan : Int)) = true,inI64 ((i : Int) + (1 : Int)),(0 : Int) ≤ (0 : Int) ∧ (0 : Int) ≤ (i : Int) + (1 : Int) ∧ (i : Int) + (1 : Int) ≤ (List.length plan : Int),CF 148 [fopD x l,D.sl false E.work (List.drop 0 (List.take (Int.toNat ((i : Int) + (1 : Int))) plan))] (D.int .i64 v),decide (v > FBook.stock x) = false,inI64 ((i : Int) + (1 : Int))],Ex.normal,fShort_S0 x plan l (i + 1)) := by kernel_rfl
theorem fShort_0_hit (x : FBook) (plan : List Work) (l : List (K2 × Bool)) (i : Nat) (v : Int) :
  runK (MF 37) [(24,true),(34,true)] [(31,.int .i64 v)] [] (Code.at [1,1,1,0,1,0,0] (body Tryd.f85)) (fShort_S0 x plan l i) [.tmp 1,.tmp 2,.tmp 8,.tmp 22,.tmp 23,.box 2,.box 8,.tmp 4,.tmp 5] =
   some ([decide ((i : Int) < (List.length plan : Int)) = true,inI64 ((i : Int) + (1 : Int)),(0 : Int) ≤ (0 : Int) ∧ (0 : Int) ≤ (i : Int) + (1 : Int) ∧ (i : Int) + (1 : Int) ≤ (List.length plan : Int),CF 148 [fopD x l,D.sl false E.work (List.drop 0 (List.take (Int.toNat ((i : Int) + (1 : Int))) plan))] (D.int .i64 v),decide (v > FBook.stock x) = true],Ex.ret,fShort_T0_hit x plan l i v) := by kernel_rfl
theorem fShort_0_end (x : FBook) (plan : List Work) (l : List (K2 × Bool)) (i : Nat) :
  runK (MF 37) [(24,false)] [] [] (Code.at [1,1,1,0,1,0,0] (body Tryd.f85)) (fShort_S0 x plan l i) fShort_K0 =
   some ([decide ((i : Int) < (List.length plan : Int)) = false],Ex.exit 0,fShort_S0 x plan l i) := by kernel_rfl
theorem fcheck_bad (x : FBook) (ok0 ok1 ok2 : Bool) (la : Int) :
  callF (MF 78) [(77,true)] [] [(1001,(fcheck_RK1,(.normal,fcheck_RS1 x ok0))),(0,(fcheck_K0,(.normal,fcheck_S0 x ok1 x.feet.length))),(2,(fcheck_K2,(.normal,fcheck_S2 x ok2 la x.opn.length)))] (body Tryd.f98) [.tmp 2] [fbookD x] =
   some ([LF 78 (Code.at [1,0] (body Tryd.f98)) [(.tmp 1,.d (D.ptr 1 0)),(.box 1,.bx (some (Box.mk false (cellsOf (fbookD x)))))] Ex.normal (fcheck_RS1 x ok0),LF 78 (Code.at [1,1,0,1] (body Tryd.f98)) [(.tmp 1,.d (D.ptr 1 0)),(.tmp 3,.d (D.bool ok0)),(.tmp 45,.d (D.sl false E.int (FBook.feet x))),(.tmp 46,.d (D.int .i64 ((List.length (FBook.feet x) : Int)))),(.tmp 47,.d (D.int .i64 0)),(.box 1,.bx (some (Box.mk false (cellsOf (fbookD x)))))] Ex.normal (fcheck_S0 x ok1 (List.length (FBook.feet x))),LF 78 (Code.at [1,1,1,1,0,1] (body Tryd.f98)) [(.tmp 1,.d (D.ptr 1 0)),(.tmp 3,.d (D.bool ok1)),(.tmp 6,.d (D.int .i64 (-(1 : Int)))),(.tmp 58,.d (D.sl false E.int (FBook.opn x))),(.tmp 59,.d (D.int .i64 ((List.length (FBook.opn x) : Int)))),(.tmp 60,.d (D.int .i64 0)),(.box 1,.bx (some (Box.mk false (cellsOf (fbookD x)))))] Ex.normal (fcheck_S2 x ok2 la (List.length (FBook.opn x))),(!ok2) = true],D.int .i64 70) := by kernel_rfl
theorem fcheck_good (x : FBook) (ok0 ok1 ok2 : Bool) (la : Int) :
  callF (MF 78) [(77,false)] [] [(1001,(fcheck_RK1,(.normal,fcheck_RS1 x ok0))),(0,(fcheck_K0,(.normal,fcheck_S0 x ok1 x.feet.length))),(2,(fcheck_K2,(.normal,fcheck_S2 x ok2 la x.opn.length)))] (body Tryd.f98) [.tmp 2] [fbookD x] =
   some ([LF 78 (Code.at [1,0] (body Tryd.f98)) [(.tmp 1,.d (D.ptr 1 0)),(.box 1,.bx (some (Box.mk false (cellsOf (fbookD x)))))] Ex.normal (fcheck_RS1 x ok0),LF 78 (Code.at [1,1,0,1] (body Tryd.f98)) [(.tmp 1,.d (D.ptr 1 0)),(.tmp 3,.d (D.bool ok0)),(.tmp 45,.d (D.sl false E.int (FBook.feet x))),(.tmp 46,.d (D.int .i64 ((List.length (FBook.feet x) : Int)))),(.tmp 47,.d (D.int .i64 0)),(.box 1,.bx (some (Box.mk false (cellsOf (fbookD x)))))] Ex.normal (fcheck_S0 x ok1 (List.length (FBook.feet x))),LF 78 (Code.at [1,1,1,1,0,1] (body Tryd.f98)) [(.tmp 1,.d (D.ptr 1 0)),(.tmp 3,.d (D.bool ok1)),(.tmp 6,.d (D.int .i64 (-(1 : Int)))),(.tmp 58,.d (D.sl false E.int (FBook.opn x))),(.tmp 59,.d (D.int .i64 ((List.length (FBook.opn x) : Int)))),(.tmp 60,.d (D.int .i64 0)),(.box 1,.bx (some (Box.mk false (cellsOf (fbookD x)))))] Ex.normal (fcheck_S2 x ok2 la (List.length (FBook.opn x))),(!ok2) = false],D.int .i64 0) := by kernel_rfl
theorem knowB_all (x : FBook) (m : List (K2 × Bool)) (i : Nat) (y : Int) (r : List Int) (t : List Int) (q : List (List Int)) :
  callF (MF 63) [] [] [(0,(knowB_K0,(.normal,knowB_S0 x m i y r t q)))] (body Tryd.f174) [.cell 2 151] [fopD x m] =
   some ([LF 63 (Code.at [1,0,1] (body Tryd.f174)) [(.tmp 1,.d (D.ptr 1 0)),(.tmp 2,.d (D.ptr 2 0)),(.tmp 13,.d (D.int .i64 ((List.length (FBook.feet x) : Int)))),(.tmp 14,.d (D.int .i64 0)),(.box 1,.bx (some (Box.mk false (cellsOf (fopD x m))))),(.box 2,.bx (some (Box.mk false [D.nil,D.nil,D.nil,D.int .i64 0,D.int .i64 0,D.nil,D.int .i64 0,D.nil,D.int .i64 0,D.int .i64 0,D.nilmap,D.nil,D.nil]))),(.obj 30,.ob Option.none),(.obj 59,.ob Option.none)] Ex.normal (knowB_S0 x m i y r t q),List.length (t :: q) = List.length ((t :: q)),List.length (y :: r) = List.length ((y :: r)),List.length (t :: q) = List.length ((t :: q)),List.length (y :: r) = List.length ((y :: r))],D.agg [D.sl false E.sec (Book.secs (FBook.chain x)),D.sl false E.int (Book.turns (FBook.chain x)),D.sl false E.sv (Book.svs (FBook.chain x)),D.int .i64 (Book.rule (FBook.chain x)),D.int .i64 (Book.days (FBook.chain x)),D.sl false E.int (FBook.feet x),D.int .i64 (FBook.new x),D.sl false E.int (FBook.opn x),D.int .i64 (FBook.stock x),D.int .i64 (FBook.make x),D.map (Mp.work m),D.sl false (E.list E.int) ((t :: q)),D.sl false E.int ((y :: r))]) := by kernel_rfl
theorem fasked_bad (x : FBook) (g : FuncId) (fs : List D) (cs : List (List D)) (e : Int) :
  callF (MF 34) [(13,true)] [(11,.int .i64 e)] [] (body Tryd.f137) [.cell 4 151,.tmp 5] [fbookD x,.fn g fs cs] =
   some ([CF 98 [fbookD x] (D.int .i64 e),(e != (0 : Int)) = true],D.tup [D.agg [D.nil,D.nil,D.nil,D.int .i64 0,D.int .i64 0,D.nil,D.int .i64 0,D.nil,D.int .i64 0,D.int .i64 0,D.nilmap,D.nil,D.nil],D.int .i64 e]) := by kernel_rfl
theorem fasked_ask (x : FBook) (g : FuncId) (fs : List D) (cs : List (List D)) (l : List (K2 × Bool)) :
  callF (MF 34) [] [(11,.int .i64 0),(17,fopD x l),(20,.bool false)] [] (body Tryd.f137) [.cell 4 151,.tmp 5] [fbookD x,.fn g fs cs] =
   some ([CF 98 [fbookD x] (D.int .i64 0),CF 146 [fbookD x] (fopD x l),CF g (fs ++ List.map weak [fopD x l] ++ List.map (fun cs ↦ D.ref cs 0) cs) (D.bool false)],D.tup [fopD x l,D.int .i64 71]) := by kernel_rfl
theorem fasked_no (x : FBook) (g : FuncId) (fs : List D) (cs : List (List D)) (l : List (K2 × Bool)) (e : Int) :
  callF (MF 34) [] [(11,.int .i64 0),(17,fopD x l),(20,.bool true),(26,.tup [.bool false,.int .i64 e])] [] (body Tryd.f137) [.cell 4 151,.tmp 5] [fbookD x,.fn g fs cs] =
   some ([CF 98 [fbookD x] (D.int .i64 0),CF 146 [fbookD x] (fopD x l),CF g (fs ++ List.map weak [fopD x l] ++ List.map (fun cs ↦ D.ref cs 0) cs) (D.bool true),CF 37 [bookD x.chain] (D.tup [D.bool false,D.int .i64 e])],D.tup [fopD x l,D.int .i64 72]) := by kernel_rfl
theorem fasked_ok (x : FBook) (g : FuncId) (fs : List D) (cs : List (List D)) (l : List (K2 × Bool)) (e : Int) (th : List (List Int)) (wr : List Int) :
  callF (MF 34) [] [(11,.int .i64 0),(17,fopD x l),(20,.bool true),(26,.tup [.bool true,.int .i64 e]),(33,fbkD x (.work l) th wr)] [] (body Tryd.f137) [.cell 4 151,.tmp 5] [fbookD x,.fn g fs cs] =
   some ([CF 98 [fbookD x] (D.int .i64 0),CF 146 [fbookD x] (fopD x l),CF g (fs ++ List.map weak [fopD x l] ++ List.map (fun cs ↦ D.ref cs 0) cs) (D.bool true),CF 37 [bookD x.chain] (D.tup [D.bool true,D.int .i64 e]),CF 174 [fopD x l] (fbkD x (Mp.work l) th wr)],D.tup [fbkD x (Mp.work l) th wr,D.int .i64 0]) := by kernel_rfl
theorem fleast1_a (y : FBook) (m : Mp) (th : List (List Int)) (wr : List Int) (x : FBook) (plan : List Work) (s d : Int) (p q r : Bool) :
  callF (MF 25) [(10,false)] [(9,.bool p),(16,.bool q),(23,.bool r)] [] (body Tryd.f140) [.tmp 6] [fbkD y m th wr,.ref [.sl false .work plan] 0,.ref [.int .i64 s] 0,.ref (cellsOf (fbookD x)) 0,.ref [.int .i64 d] 0] =
   some ([CF 141 [fbkD y m th wr,D.sl false E.work plan] (D.bool p),p = false,p = false,p = false,p = false,p = false,p = false,p = false],D.bool false) := by kernel_rfl
theorem fleast1_b (y : FBook) (m : Mp) (th : List (List Int)) (wr : List Int) (x : FBook) (plan : List Work) (s d : Int) (p q r : Bool) :
  callF (MF 25) [(10,true),(18,false)] [(9,.bool p),(16,.bool q),(23,.bool r)] [] (body Tryd.f140) [.tmp 6] [fbkD y m th wr,.ref [.sl false .work plan] 0,.ref [.int .i64 s] 0,.ref (cellsOf (fbookD x)) 0,.ref [.int .i64 d] 0] =
   some ([CF 141 [fbkD y m th wr,D.sl false E.work plan] (D.bool p),p = true,0 + 1 ≤ 1,p = true,p = true,p = true,p = true,inI64 ((List.length (FBook.feet x) : Int) - (1 : Int)),p = true,CF 142 [D.int .i64 s,D.int .i64 0,D.int .i64 ((List.length (FBook.feet x) : Int) - (1 : Int))] (D.bool q),p = true,q = false,q = false,q = false,q = false,q = false,q = false],D.bool false) := by kernel_rfl
theorem fleast1_c (y : FBook) (m : Mp) (th : List (List Int)) (wr : List Int) (x : FBook) (plan : List Work) (s d : Int) (p q r : Bool) :
  callF (MF 25) [(10,true),(18,true)] [(9,.bool p),(16,.bool q),(23,.bool r)] [] (body Tryd.f140) [.tmp 6] [fbkD y m th wr,.ref [.sl false .work plan] 0,.ref [.int .i64 s] 0,.ref (cellsOf (fbookD x)) 0,.ref [.int .i64 d] 0] =
   some ([CF 141 [fbkD y m th wr,D.sl false E.work plan] (D.bool p),p = true,0 + 1 ≤ 1,p = true,p = true,p = true,p = true,inI64 ((List.length (FBook.feet x) : Int) - (1 : Int)),p = true,CF 142 [D.int .i64 s,D.int .i64 0,D.int .i64 ((List.length (FBook.feet x) : Int) - (1 : Int))] (D.bool q),p = true,q = true,0 + 1 ≤ 1,q = true,q = true,q = true,q = true,CF 142 [D.int .i64 d,D.int .i64 0,D.int .i64 (Book.days (FBook.chain x))] (D.bool r),q = true],D.bool r) := by kernel_rfl
theorem ffirst1_all (y : FBook) (m : Mp) (th : List (List Int)) (wr : List Int) (plan : List Work) (p : Bool) :
  callF (MF 7) [] [(6,.bool p)] [] (body Tryd.f144) [.tmp 3] [fbkD y m th wr,.ref [.sl false .work plan] 0] =
   some ([CF 141 [fbkD y m th wr,D.sl false E.work plan] (D.bool p)],D.bool p) := by kernel_rfl
theorem falways_all (y : FBook) (m : Mp) (th : List (List Int)) (wr : List Int) :
  callF (MF 3) [] [] [] (body Tryd.f138) [.tmp 2] [fbkD y m th wr] =
   some ([],D.bool true) := by kernel_rfl
theorem fLeast_errz (x : FBook) (plan : List Work) (s d : Int) (e : Int) :
  callF (MF 26) [(19,true)] [(15,.tup [zfbkD,.int .i64 e])] [] (body Tryd.f81) [.tmp 8,.tmp 9] [fbookD x,.sl false .work plan,.int .i64 s,.int .i64 d] =
   some ([CF 137 [fbookD x,D.fn 140 [] [[D.sl false E.work plan],[D.int .i64 s],(cellsOf (fbookD x)),[D.int .i64 d]]] (D.tup [D.agg [D.nil,D.nil,D.nil,D.int .i64 0,D.int .i64 0,D.nil,D.int .i64 0,D.nil,D.int .i64 0,D.int .i64 0,D.nilmap,D.nil,D.nil],D.int .i64 e]),(e != (0 : Int)) = true],D.tup [D.int .i64 0,D.int .i64 e]) := by kernel_rfl
theorem fLeast_erro (x : FBook) (plan : List Work) (s d : Int) (l : List (K2 × Bool)) (e : Int) :
  callF (MF 26) [(19,true)] [(15,.tup [fopD x l,.int .i64 e])] [] (body Tryd.f81) [.tmp 8,.tmp 9] [fbookD x,.sl false .work plan,.int .i64 s,.int .i64 d] =
   some ([CF 137 [fbookD x,D.fn 140 [] [[D.sl false E.work plan],[D.int .i64 s],(cellsOf (fbookD x)),[D.int .i64 d]]] (D.tup [fopD x l,D.int .i64 e]),(e != (0 : Int)) = true],D.tup [D.int .i64 0,D.int .i64 e]) := by kernel_rfl
theorem fLeast_ok (x : FBook) (plan : List Work) (s d : Int) (l : List (K2 × Bool)) (th : List (List Int)) (wr : List Int) (v : Int) :
  callF (MF 26) [] [(15,.tup [fbkD x (.work l) th wr,.int .i64 0]),(25,.int .i64 v)] [] (body Tryd.f81) [.tmp 8,.tmp 9] [fbookD x,.sl false .work plan,.int .i64 s,.int .i64 d] =
   some ([CF 137 [fbookD x,D.fn 140 [] [[D.sl false E.work plan],[D.int .i64 s],(cellsOf (fbookD x)),[D.int .i64 d]]] (D.tup [fbkD x (Mp.work l) th wr,D.int .i64 0]),0 + 1 ≤ 1,0 + 1 ≤ 1,CF 143 [fbkD x (Mp.work l) th wr,D.sl false E.work plan,D.int .i64 s,D.int .i64 d] (D.int .i64 v)],D.tup [D.int .i64 v,D.int .i64 0]) := by kernel_rfl
theorem fFirst_errz (x : FBook) (plan : List Work) (e : Int) :
  callF (MF 29) [(16,true)] [(12,.tup [zfbkD,.int .i64 e])] [] (body Tryd.f83) [.tmp 4,.tmp 5,.tmp 6] [fbookD x,.sl false .work plan] =
   some ([CF 137 [fbookD x,D.fn 144 [] [[D.sl false E.work plan]]] (D.tup [D.agg [D.nil,D.nil,D.nil,D.int .i64 0,D.int .i64 0,D.nil,D.int .i64 0,D.nil,D.int .i64 0,D.int .i64 0,D.nilmap,D.nil,D.nil],D.int .i64 e]),(e != (0 : Int)) = true],D.tup [D.int .i64 0,D.int .i64 0,D.int .i64 e]) := by kernel_rfl
theorem fFirst_erro (x : FBook) (plan : List Work) (l : List (K2 × Bool)) (e : Int) :
  callF (MF 29) [(16,true)] [(12,.tup [fopD x l,.int .i64 e])] [] (body Tryd.f83) [.tmp 4,.tmp 5,.tmp 6] [fbookD x,.sl false .work plan] =
   some ([CF 137 [fbookD x,D.fn 144 [] [[D.sl false E.work plan]]] (D.tup [fopD x l,D.int .i64 e]),(e != (0 : Int)) = true],D.tup [D.int .i64 0,D.int .i64 0,D.int .i64 e]) := by kernel_rfl
theorem fFirst_some (x : FBook) (plan : List Work) (l : List (K2 × Bool)) (th : List (List Int)) (wr : List Int) (d s : Int) :
  callF (MF 29) [] [(12,.tup [fbkD x (.work l) th wr,.int .i64 0]),(21,.tup [.int .i64 d,.int .i64 s,.bool true])] [] (body Tryd.f83) [.tmp 4,.tmp 5,.tmp 6] [fbookD x,.sl false .work plan] =
   some ([CF 137 [fbookD x,D.fn 144 [] [[D.sl false E.work plan]]] (D.tup [fbkD x (Mp.work l) th wr,D.int .i64 0]),CF 145 [fbkD x (Mp.work l) th wr,D.sl false E.work plan] (D.tup [D.int .i64 d,D.int .i64 s,D.bool true])],D.tup [D.int .i64 d,D.int .i64 s,D.int .i64 0]) := by kernel_rfl
theorem fFirst_none (x : FBook) (plan : List Work) (l : List (K2 × Bool)) (th : List (List Int)) (wr : List Int) (d s : Int) :
  callF (MF 29) [] [(12,.tup [fbkD x (.work l) th wr,.int .i64 0]),(21,.tup [.int .i64 d,.int .i64 s,.bool false])] [] (body Tryd.f83) [.tmp 4,.tmp 5,.tmp 6] [fbookD x,.sl false .work plan] =
   some ([CF 137 [fbookD x,D.fn 144 [] [[D.sl false E.work plan]]] (D.tup [fbkD x (Mp.work l) th wr,D.int .i64 0]),CF 145 [fbkD x (Mp.work l) th wr,D.sl false E.work plan] (D.tup [D.int .i64 d,D.int .i64 s,D.bool false])],D.tup [D.int .i64 0,D.int .i64 0,D.int .i64 4]) := by kernel_rfl
theorem fSafe_ok (x : FBook) (plan : List Work) (a b e : Int) :
  callF (MF 23) [(17,true)] [(12,.tup [.int .i64 a,.int .i64 b,.int .i64 e])] [] (body Tryd.f78) [.tmp 4,.tmp 5] [fbookD x,.sl false .work plan] =
   some ([CF 83 [fbookD x,D.sl false E.work plan] (D.tup [D.int .i64 a,D.int .i64 b,D.int .i64 e]),(e == (0 : Int)) = true],D.tup [D.bool false,D.int .i64 e]) := by kernel_rfl
theorem fSafe_none (x : FBook) (plan : List Work) (a b e : Int) :
  callF (MF 23) [(17,false),(20,true)] [(12,.tup [.int .i64 a,.int .i64 b,.int .i64 e])] [] (body Tryd.f78) [.tmp 4,.tmp 5] [fbookD x,.sl false .work plan] =
   some ([CF 83 [fbookD x,D.sl false E.work plan] (D.tup [D.int .i64 a,D.int .i64 b,D.int .i64 e]),(e == (0 : Int)) = false,(e == (4 : Int)) = true],D.tup [D.bool true,D.int .i64 0]) := by kernel_rfl
theorem fSafe_err (x : FBook) (plan : List Work) (a b e : Int) :
  callF (MF 23) [(17,false),(20,false)] [(12,.tup [.int .i64 a,.int .i64 b,.int .i64 e])] [] (body Tryd.f78) [.tmp 4,.tmp 5] [fbookD x,.sl false .work plan] =
   some ([CF 83 [fbookD x,D.sl false E.work plan] (D.tup [D.int .i64 a,D.int .i64 b,D.int .i64 e]),(e == (0 : Int)) = false,(e == (4 : Int)) = false],D.tup [D.bool false,D.int .i64 e]) := by kernel_rfl
theorem fFeet_bad (x : FBook) (plan : List Work) (e : Int) :
  callF (MF 22) [(11,true)] [(9,.int .i64 e)] [] (body Tryd.f84) [.tmp 4,.tmp 5] [fbookD x,.sl false .work plan] =
   some ([CF 98 [fbookD x] (D.int .i64 e),(e != (0 : Int)) = true],D.tup [D.int .i64 0,D.int .i64 e]) := by kernel_rfl
theorem fFeet_ask (x : FBook) (plan : List Work) (l : List (K2 × Bool)) :
  callF (MF 22) [] [(9,.int .i64 0),(14,fopD x l),(17,.bool false)] [] (body Tryd.f84) [.tmp 4,.tmp 5] [fbookD x,.sl false .work plan] =
   some ([CF 98 [fbookD x] (D.int .i64 0),CF 146 [fbookD x] (fopD x l),CF 141 [fopD x l,D.sl false E.work plan] (D.bool false)],D.tup [D.int .i64 0,D.int .i64 71]) := by kernel_rfl
theorem fFeet_ok (x : FBook) (plan : List Work) (l : List (K2 × Bool)) (v : Int) :
  callF (MF 22) [] [(9,.int .i64 0),(14,fopD x l),(17,.bool true),(21,.int .i64 v)] [] (body Tryd.f84) [.tmp 4,.tmp 5] [fbookD x,.sl false .work plan] =
   some ([CF 98 [fbookD x] (D.int .i64 0),CF 146 [fbookD x] (fopD x l),CF 141 [fopD x l,D.sl false E.work plan] (D.bool true),CF 147 [fopD x l,D.sl false E.work plan] (D.int .i64 v)],D.tup [D.int .i64 v,D.int .i64 0]) := by kernel_rfl
theorem fShort_bad (x : FBook) (plan : List Work) (k e : Int) :
  callF (MF 37) [(17,true)] [(13,.tup [.int .i64 k,.int .i64 e])] [] (body Tryd.f85) [.tmp 4,.tmp 5] [fbookD x,.sl false .work plan] =
   some ([CF 84 [fbookD x,D.sl false E.work plan] (D.tup [D.int .i64 k,D.int .i64 e]),(e != (0 : Int)) = true],D.tup [D.int .i64 0,D.int .i64 e]) := by kernel_rfl
theorem fShort_none (x : FBook) (plan : List Work) (l : List (K2 × Bool)) (k : Int) (i : Nat) :
  callF (MF 37) [] [(13,.tup [.int .i64 k,.int .i64 0]),(20,fopD x l)] [(0,(fShort_K0,(.normal,fShort_S0 x plan l i)))] (body Tryd.f85) [.tmp 4,.tmp 5] [fbookD x,.sl false .work plan] =
   some ([CF 84 [fbookD x,D.sl false E.work plan] (D.tup [D.int .i64 k,D.int .i64 0]),CF 146 [fbookD x] (fopD x l),LF 37 (Code.at [1,1,1,0,1] (body Tryd.f85)) [(.tmp 1,.d (D.sl false E.work plan)),(.tmp 2,.d (D.ptr 2 0)),(.tmp 8,.d (D.ptr 8 0)),(.tmp 22,.d (D.int .i64 ((List.length plan : Int)))),(.tmp 23,.d (D.int .i64 0)),(.box 2,.bx (some (Box.mk false (cellsOf (fbookD x))))),(.box 8,.bx (some (Box.mk false (cellsOf (fopD x l)))))] Ex.normal (fShort_S0 x plan l i)],D.tup [D.int .i64 0,D.int .i64 4]) := by kernel_rfl
theorem fShort_hit (x : FBook) (plan : List Work) (l : List (K2 × Bool)) (k v : Int) (i : Nat) :
  callF (MF 37) [] [(13,.tup [.int .i64 k,.int .i64 0]),(20,fopD x l)] [(0,(fShort_K0,(.ret,fShort_T0_hit x plan l i v)))] (body Tryd.f85) [.tmp 4,.tmp 5] [fbookD x,.sl false .work plan] =
   some ([CF 84 [fbookD x,D.sl false E.work plan] (D.tup [D.int .i64 k,D.int .i64 0]),CF 146 [fbookD x] (fopD x l),LF 37 (Code.at [1,1,1,0,1] (body Tryd.f85)) [(.tmp 1,.d (D.sl false E.work plan)),(.tmp 2,.d (D.ptr 2 0)),(.tmp 8,.d (D.ptr 8 0)),(.tmp 22,.d (D.int .i64 ((List.length plan : Int)))),(.tmp 23,.d (D.int .i64 0)),(.box 2,.bx (some (Box.mk false (cellsOf (fbookD x))))),(.box 8,.bx (some (Box.mk false (cellsOf (fopD x l)))))] Ex.ret (fShort_T0_hit x plan l i v)],D.tup [D.int .i64 (i : Int),D.int .i64 0]) := by kernel_rfl
end Go.Di

namespace Go.Di
open Proofs
def foA (x : FBook) : List (Key × Val) := [(.tmp 1,.d (.ptr 1 0)),(.tmp 2,.d (.ptr 2 0)),(.box 1,.bx (some ⟨false,cellsOf (fbookD x)⟩)),(.box 2,.bx (some ⟨false,zfbkC⟩))]
def foAK : List Key := [.tmp 1,.tmp 2,.box 1,.box 2]
def foM (x : FBook) (l : List (K2 × Bool)) : List (Key × Val) := [(.tmp 3,.d (.ptr 3 0)),(.box 3,.bx (some ⟨false,fbkC x (.mref 8) .nil .nil⟩)),(.mp 8,.mp (some (.work l)))]
def foB (x : FBook) : List (Key × Val) := foA x ++ foM x [((-1,0),false)]
def foBK : List Key := foAK ++ [.tmp 3,.box 3,.mp 8]
def foS (x : FBook) (l : List (K2 × Bool)) (i : Nat) : List (Key × Val) := (foA x ++ foM x l) ++ [(.tmp 13,.d (.sl false .int x.opn)),(.tmp 14,.d (.int .i64 x.opn.length)),(.tmp 15,.d (.int .i64 i))]
def foK : List Key := foBK ++ [.tmp 13,.tmp 14,.tmp 15]
def foT (x : FBook) (l : List (K2 × Bool)) (i : Nat) (d : Int) (j : Nat) : List (Key × Val) := foS x l i ++ [(.tmp 5,.d (.int .i64 d)),(.tmp 21,.d (.int .i64 x.feet.length)),(.tmp 22,.d (.int .i64 j))]
def foTK : List Key := foK ++ [.tmp 5,.tmp 21,.tmp 22]
def foE (x : FBook) (l : List (K2 × Bool)) : List (Key × Val) := [(.tmp 2,.d (.ptr 2 0)),(.box 2,.bx (some ⟨false,fbkC x (.map (.work l)) .nil .nil⟩))]
theorem fo_0 (x : FBook) :
  runK (MF 33) [] [] [] (Code.at [0] (body Tryd.f146)) (entry 0 [fbookD x]) foAK =
   some ([],.normal,foA x) := by kernel_rfl
theorem fo_1 (x : FBook) :
  runK (MF 33) [] [] [] (Code.at [1,0] (body Tryd.f146)) (foA x) foBK =
   some ([Cfg.plain (MF 33),0 + 2 ≤ 2,Cfg.plain (MF 33)],.normal,foB x) := by kernel_rfl
theorem fo_2 (x : FBook) :
  runK (MF 33) [] [] [] (Code.at [1,1,0,0] (body Tryd.f146)) (foB x) foK =
   some ([],.normal,foS x [((-1,0),false)] 0) := by kernel_rfl
theorem fo_on (x : FBook) (l : List (K2 × Bool)) (i : Nat) (u : List (K2 × Bool)) :
  runK (MF 33) [(16,true)] [] [(2,(foTK,(.normal,foT x u i (x.opn.getD i 0) x.feet.length)))] (Code.at [1,1,0,1,0,0] (body Tryd.f146)) (foS x l i) foK =
   some ([decide ((i : Int) < (List.length (FBook.opn x) : Int)) = true,(0 : Int) ≤ (i : Int) ∧ (i : Int) < (List.length (FBook.opn x) : Int),0 + 1 ≤ 1,LF 33 (Code.at [1,1,0,1,0,0,1,1,0,0,1,1] (body Tryd.f146)) (foT x l i (x.opn.getD i 0) 0) Ex.normal (foT x u i (List.getD (FBook.opn x) i (0 : Int)) (List.length (FBook.feet x))),inI64 ((i : Int) + (1 : Int))],.normal,foS x u (i + 1)) := by kernel_rfl
theorem fo_end (x : FBook) (l : List (K2 × Bool)) (i : Nat) :
  runK (MF 33) [(16,false)] [] [] (Code.at [1,1,0,1,0,0] (body Tryd.f146)) (foS x l i) foK =
   some ([decide ((i : Int) < (List.length (FBook.opn x) : Int)) = false],.exit 0,foS x l i) := by kernel_rfl
theorem fo_in (x : FBook) (l : List (K2 × Bool)) (i : Nat) (d : Int) (j : Nat) :
  runK (MF 33) [(23,true)] [] [] (Code.at [1,1,0,1,0,0,1,1,0,0,1,1,0,0] (body Tryd.f146)) (foT x l i d j) foTK =
   some ([decide ((j : Int) < (List.length (FBook.feet x) : Int)) = true,Cfg.plain (MF 33),inI64 ((j : Int) + (1 : Int))],.normal,foT x (updK l (d,(j : Int)) true) i d (j + 1)) := by kernel_rfl
theorem fo_out (x : FBook) (l : List (K2 × Bool)) (i : Nat) (d : Int) (j : Nat) :
  runK (MF 33) [(23,false)] [] [] (Code.at [1,1,0,1,0,0,1,1,0,0,1,1,0,0] (body Tryd.f146)) (foT x l i d j) foTK =
   some ([decide ((j : Int) < (List.length (FBook.feet x) : Int)) = false],.exit 2,foT x l i d j) := by kernel_rfl
theorem fo_3 (x : FBook) (l : List (K2 × Bool)) (i : Nat) :
  runK (MF 33) [] [] [] (Code.at [1,1,1,0] (body Tryd.f146)) (tellL 8 (.work l) (foS x l i)) [.tmp 2,.box 2] =
   some ([],.normal,foE x l) := by kernel_rfl
theorem fo_fn : FnOk PRG (MF 33) 146 (body Tryd.f146) [.cell 2 151] := by refine ⟨Tryd.f146,?_,?_,?_,?_,?_⟩ <;> kernel_rfl
end Go.Di

