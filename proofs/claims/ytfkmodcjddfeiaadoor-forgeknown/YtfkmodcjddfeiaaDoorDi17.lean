/- Part 17: an interpreter over plain data for this code, with the proof that it says what the model does, and the contracts of the functions. No condition. -/
import Derived.Test.YtfkmodcjddfeiaaDoorDi16
set_option linter.unusedVariables false
set_option linter.unusedSimpArgs false
namespace Go.Di
open Proofs
theorem fwithin_fn : FnOk PRG (MF 15) 142 (body Tryd.f142) [.tmp 6] := by refine ⟨Tryd.f142,?_,?_,?_,?_,?_⟩ <;> kernel_rfl
theorem fnever_fn : FnOk PRG (MF 3) 183 (body Tryd.f183) [.cell 0 196] := by refine ⟨Tryd.f183,?_,?_,?_,?_,?_⟩ <;> kernel_rfl
theorem fcompare_fn : FnOk PRG (MF 20) 177 (body Tryd.f177) [.tmp 4] := by refine ⟨Tryd.f177,?_,?_,?_,?_,?_⟩ <;> kernel_rfl
theorem fplace_fn : FnOk PRG (MF 30) 228 (body Tryd.f228) [.tmp 6] := by refine ⟨Tryd.f228,?_,?_,?_,?_,?_⟩ <;> kernel_rfl
theorem fold_fn : FnOk PRG (MF 17) 226 (body Tryd.f226) [.tmp 8] := by refine ⟨Tryd.f226,?_,?_,?_,?_,?_⟩ <;> kernel_rfl
theorem ffresh_fn : FnOk PRG (MF 34) 227 (body Tryd.f227) [.tmp 8] := by refine ⟨Tryd.f227,?_,?_,?_,?_,?_⟩ <;> kernel_rfl
theorem fleast_fn : FnOk PRG (MF 40) 143 (body Tryd.f143) [.tmp 8] := by refine ⟨Tryd.f143,?_,?_,?_,?_,?_⟩ <;> kernel_rfl
theorem fsum_fn : FnOk PRG (MF 17) 178 (body Tryd.f178) [.tmp 2] := by refine ⟨Tryd.f178,?_,?_,?_,?_,?_⟩ <;> kernel_rfl
theorem feetA_fn : FnOk PRG (MF 27) 147 (body Tryd.f147) [.tmp 4] := by refine ⟨Tryd.f147,?_,?_,?_,?_,?_⟩ <;> kernel_rfl
theorem fneeds_fn : FnOk PRG (MF 32) 148 (body Tryd.f148) [.tmp 4] := by refine ⟨Tryd.f148,?_,?_,?_,?_,?_⟩ <;> kernel_rfl
theorem fgood_fn : FnOk PRG (MF 12) 175 (body Tryd.f175) [.tmp 4] := by refine ⟨Tryd.f175,?_,?_,?_,?_,?_⟩ <;> kernel_rfl
theorem isPlan_fn : FnOk PRG (MF 33) 141 (body Tryd.f141) [.tmp 4] := by refine ⟨Tryd.f141,?_,?_,?_,?_,?_⟩ <;> kernel_rfl
theorem fthin_fn : FnOk PRG (MF 38) 145 (body Tryd.f145) [.tmp 4,.tmp 5,.tmp 6] := by refine ⟨Tryd.f145,?_,?_,?_,?_,?_⟩ <;> kernel_rfl
def fplace_S0 (x : FBook) (m : Mp) (th : List (List Int)) (wr : List Int) (s d : Int) (p : Int) (i : Nat) : List (Key × Val) :=
 [(.tmp 1,.d (.int .i64 p)),
  (.tmp 2,.d (D.int .i64 d)),
  (.tmp 3,.d (D.ptr 3 0)),
  (.tmp 12,.d (D.sl false E.int (Book.turns (FBook.chain x)))),
  (.tmp 13,.d (D.int .i64 ((List.length (Book.turns (FBook.chain x)) : Int)))),
  (.tmp 14,.d (.int .i64 i)),
  (.box 3,.bx (some (Box.mk false (cellsOf (fbkD x m th wr)))))]
def fplace_K0 : List Key := [.tmp 1,.tmp 2,.tmp 3,.tmp 12,.tmp 13,.tmp 14,.box 3]
def ffresh_S0 (x : FBook) (m : Mp) (th : List (List Int)) (wr : List Int) (s c d : Int) (n : Int) (i : Nat) : List (Key × Val) :=
 [(.tmp 1,.d (D.int .i64 s)),
  (.tmp 2,.d (D.int .i64 c)),
  (.tmp 4,.d (D.ptr 4 0)),
  (.tmp 9,.d (.int .i64 n)),
  (.tmp 16,.d (D.int .i64 (d - c))),
  (.tmp 17,.d (.int .i64 i)),
  (.box 4,.bx (some (Box.mk false (cellsOf (fbkD x m th wr)))))]
def ffresh_K0 : List Key := [.tmp 1,.tmp 2,.tmp 4,.tmp 9,.tmp 16,.tmp 17,.box 4]
def fleast_S0 (x : FBook) (m : Mp) (th : List (List Int)) (wr : List Int) (plan : List Work) (s d : Int) (k c : Int) (i : Nat) : List (Key × Val) :=
 [(.tmp 2,.d (D.int .i64 s)),
  (.tmp 3,.d (D.int .i64 d)),
  (.tmp 4,.d (D.ptr 4 0)),
  (.tmp 9,.d (.int .i64 k)),
  (.tmp 10,.d (.int .i64 c)),
  (.tmp 13,.d (D.sl false E.work plan)),
  (.tmp 14,.d (D.int .i64 ((List.length plan : Int)))),
  (.tmp 15,.d (.int .i64 i)),
  (.box 4,.bx (some (Box.mk false (cellsOf (fbkD x m th wr)))))]
def fleast_K0 : List Key := [.tmp 2,.tmp 3,.tmp 4,.tmp 9,.tmp 10,.tmp 13,.tmp 14,.tmp 15,.box 4]
def fsum_S0 (xs : List Int) (n : Int) (i : Nat) : List (Key × Val) :=
 [(.tmp 3,.d (.int .i64 n)),
  (.tmp 6,.d (D.sl false E.int xs)),
  (.tmp 7,.d (D.int .i64 ((List.length xs : Int)))),
  (.tmp 8,.d (.int .i64 i))]
def fsum_K0 : List Key := [.tmp 3,.tmp 6,.tmp 7,.tmp 8]
def feetB_S0 (x : FBook) (m : Mp) (th : List (List Int)) (wr : List Int) (plan : List Work) (y : Int) (r : List Int) (i : Nat) : List (Key × Val) :=
 [(.tmp 2,.d (D.ptr 2 0)),
  (.tmp 5,.d (.own 23 (y :: r).length)),
  (.tmp 8,.d (D.sl false E.work plan)),
  (.tmp 9,.d (D.int .i64 ((List.length plan : Int)))),
  (.tmp 10,.d (.int .i64 i)),
  (.box 2,.bx (some (Box.mk false (cellsOf (fbkD x m th wr))))),
  (.obj 23,.ob (some ⟨.int,y :: r⟩))]
def feetB_K0 : List Key := [.tmp 2,.tmp 5,.tmp 8,.tmp 9,.tmp 10,.box 2,.obj 23]
def feetA_S0 (x : FBook) (m : Mp) (th : List (List Int)) (wr : List Int) (plan : List Work) (i : Nat) : List (Key × Val) :=
 [(.tmp 2,.d (D.ptr 2 0)),
  (.tmp 5,.d (D.sl true E.int [])),
  (.tmp 8,.d (D.sl false E.work plan)),
  (.tmp 9,.d (D.int .i64 ((List.length plan : Int)))),
  (.tmp 10,.d (.int .i64 i)),
  (.box 2,.bx (some (Box.mk false (cellsOf (fbkD x m th wr))))),
  (.obj 23,.ob none)]
def feetA_K0 : List Key := [.tmp 2,.tmp 5,.tmp 8,.tmp 9,.tmp 10,.box 2,.obj 23]
def fneeds_S0 (x : FBook) (m : Mp) (th : List (List Int)) (wr : List Int) (plan : List Work) (n : Int) (i : Nat) : List (Key × Val) :=
 [(.tmp 1,.d (D.sl false E.work plan)),
  (.tmp 2,.d (D.ptr 2 0)),
  (.tmp 5,.d (.int .i64 n)),
  (.tmp 8,.d (D.sl false E.work plan)),
  (.tmp 9,.d (D.int .i64 ((List.length plan : Int)))),
  (.tmp 10,.d (.int .i64 i)),
  (.box 2,.bx (some (Box.mk false (cellsOf (fbkD x m th wr)))))]
def fneeds_K0 : List Key := [.tmp 1,.tmp 2,.tmp 5,.tmp 8,.tmp 9,.tmp 10,.box 2]
def isPlan_S0 (x : FBook) (l : List (K2 × Bool)) (th : List (List Int)) (wr : List Int) (plan : List Work) (la : Work) (i : Nat) : List (Key × Val) :=
 [(.tmp 2,.d (D.ptr 2 0)),
  (.tmp 5,.d (D.ptr 5 0)),
  (.tmp 9,.d (D.sl false E.work plan)),
  (.tmp 10,.d (D.int .i64 ((List.length plan : Int)))),
  (.tmp 11,.d (.int .i64 i)),
  (.box 2,.bx (some (Box.mk false (cellsOf (fbkD x (Mp.work l) th wr))))),
  (.box 5,.bx (some ⟨false,E.enc .work la⟩))]
def isPlan_K0 : List Key := [.tmp 2,.tmp 5,.tmp 9,.tmp 10,.tmp 11,.box 2,.box 5]
def fthin_S0 (x : FBook) (m : Mp) (th : List (List Int)) (wr : List Int) (plan : List Work) (i : Nat) : List (Key × Val) :=
 [(.tmp 1,.d (D.sl false E.work plan)),
  (.tmp 2,.d (D.ptr 2 0)),
  (.tmp 13,.d (D.int .i64 (Book.days (FBook.chain x) + (1 : Int)))),
  (.tmp 14,.d (.int .i64 i)),
  (.box 2,.bx (some (Box.mk false (cellsOf (fbkD x m th wr)))))]
def fthin_K0 : List Key := [.tmp 1,.tmp 2,.tmp 13,.tmp 14,.box 2]
def fthin_S2 (x : FBook) (m : Mp) (th : List (List Int)) (wr : List Int) (plan : List Work) (i j : Nat) : List (Key × Val) :=
 [(.tmp 1,.d (D.sl false E.work plan)),
  (.tmp 2,.d (D.ptr 2 0)),
  (.tmp 7,.d (.int .i64 i)),
  (.tmp 13,.d (D.int .i64 (Book.days (FBook.chain x) + (1 : Int)))),
  (.tmp 14,.d (.int .i64 i)),
  (.tmp 20,.d (D.int .i64 ((List.length (FBook.feet x) : Int)))),
  (.tmp 21,.d (.int .i64 j)),
  (.box 2,.bx (some (Box.mk false (cellsOf (fbkD x m th wr)))))]
def fthin_K2 : List Key := [.tmp 1,.tmp 2,.tmp 7,.tmp 13,.tmp 14,.tmp 20,.tmp 21,.box 2]
def isPlan_T0_none (x : FBook) (l : List (K2 × Bool)) (th : List (List Int)) (wr : List Int) (plan : List Work) (la : Work) (i : Nat)  : List (Key × Val) :=
 [(.tmp 2,.d (D.ptr 2 0)),(.tmp 5,.d (D.ptr 5 0)),(.tmp 9,.d (D.sl false E.work plan)),(.tmp 10,.d (D.int .i64 ((List.length plan : Int)))),(.tmp 11,.d (D.int .i64 (i : Int))),(.box 2,.bx (some (Box.mk false (cellsOf (fbkD x (Mp.work l) th wr))))),(.box 5,.bx (some (Box.mk false [D.int .i64 (Work.d la),D.int .i64 (Work.s la)]))),(.tmp 4,.d (D.bool false))]
def isPlan_T0_bad (x : FBook) (l : List (K2 × Bool)) (th : List (List Int)) (wr : List Int) (plan : List Work) (la : Work) (i : Nat) (c : Int) : List (Key × Val) :=
 [(.tmp 2,.d (D.ptr 2 0)),(.tmp 5,.d (D.ptr 5 0)),(.tmp 9,.d (D.sl false E.work plan)),(.tmp 10,.d (D.int .i64 ((List.length plan : Int)))),(.tmp 11,.d (D.int .i64 (i : Int))),(.box 2,.bx (some (Box.mk false (cellsOf (fbkD x (Mp.work l) th wr))))),(.box 5,.bx (some (Box.mk false [D.int .i64 (Work.d la),D.int .i64 (Work.s la)]))),(.tmp 4,.d (D.bool false))]
def fthin_T2_hit (x : FBook) (m : Mp) (th : List (List Int)) (wr : List Int) (plan : List Work) (i j : Nat) (v : Int) : List (Key × Val) :=
 [(.tmp 1,.d (D.sl false E.work plan)),(.tmp 2,.d (D.ptr 2 0)),(.tmp 7,.d (D.int .i64 (i : Int))),(.tmp 13,.d (D.int .i64 (Book.days (FBook.chain x) + (1 : Int)))),(.tmp 14,.d (D.int .i64 (i : Int))),(.tmp 20,.d (D.int .i64 ((List.length (FBook.feet x) : Int)))),(.tmp 21,.d (D.int .i64 (j : Int))),(.box 2,.bx (some (Box.mk false (cellsOf (fbkD x m th wr))))),(.tmp 4,.d (D.int .i64 (i : Int))),(.tmp 5,.d (D.int .i64 (j : Int))),(.tmp 6,.d (D.bool true))]
def fthin_T0_hit (x : FBook) (m : Mp) (th : List (List Int)) (wr : List Int) (plan : List Work) (i : Nat) (j : Nat) (v : Int) : List (Key × Val) :=
 [(.tmp 1,.d (D.sl false E.work plan)),(.tmp 2,.d (D.ptr 2 0)),(.tmp 13,.d (D.int .i64 (Book.days (FBook.chain x) + (1 : Int)))),(.tmp 14,.d (D.int .i64 (i : Int))),(.box 2,.bx (some (Box.mk false (cellsOf (fbkD x m th wr))))),(.tmp 4,.d (D.int .i64 (i : Int))),(.tmp 5,.d (D.int .i64 (j : Int))),(.tmp 6,.d (D.bool true))]
theorem fplace_0_yes (x : FBook) (m : Mp) (th : List (List Int)) (wr : List Int) (s d : Int) (p : Int) (i : Nat) :
  runK (MF 30) [(15,true),(20,true)] [] [] (Code.at [1,0,1,0,0] (body Tryd.f228)) (fplace_S0 x m th wr s d p i) fplace_K0 =
   some ([decide ((i : Int) < (List.length (Book.turns (FBook.chain x)) : Int)) = true,(0 : Int) ≤ (i : Int) ∧ (i : Int) < (List.length (Book.turns (FBook.chain x)) : Int),0 + 1 ≤ 1,decide (List.getD (Book.turns (FBook.chain x)) (i) (0 : Int) ≤ d) = true,inI64 ((List.length (FBook.feet x) : Int) - (1 : Int)),inI64 ((List.length (FBook.feet x) : Int) - (1 : Int) - p),inI64 ((i : Int) + (1 : Int))],Ex.normal,fplace_S0 x m th wr s d (x.feet.length - 1 - p) (i + 1)) := by kernel_rfl
theorem fplace_0_no (x : FBook) (m : Mp) (th : List (List Int)) (wr : List Int) (s d : Int) (p : Int) (i : Nat) :
  runK (MF 30) [(15,true),(20,false)] [] [] (Code.at [1,0,1,0,0] (body Tryd.f228)) (fplace_S0 x m th wr s d p i) fplace_K0 =
   some ([decide ((i : Int) < (List.length (Book.turns (FBook.chain x)) : Int)) = true,(0 : Int) ≤ (i : Int) ∧ (i : Int) < (List.length (Book.turns (FBook.chain x)) : Int),0 + 1 ≤ 1,decide (List.getD (Book.turns (FBook.chain x)) (i) (0 : Int) ≤ d) = false,inI64 ((i : Int) + (1 : Int))],Ex.normal,fplace_S0 x m th wr s d p (i + 1)) := by kernel_rfl
theorem fplace_0_end (x : FBook) (m : Mp) (th : List (List Int)) (wr : List Int) (s d : Int) (p : Int) (i : Nat) :
  runK (MF 30) [(15,false)] [] [] (Code.at [1,0,1,0,0] (body Tryd.f228)) (fplace_S0 x m th wr s d p i) fplace_K0 =
   some ([decide ((i : Int) < (List.length (Book.turns (FBook.chain x)) : Int)) = false],Ex.exit 0,fplace_S0 x m th wr s d p i) := by kernel_rfl
theorem ffresh_0_on (x : FBook) (m : Mp) (th : List (List Int)) (wr : List Int) (s c d : Int) (n : Int) (i : Nat) (p : Int) :
  runK (MF 34) [(18,true)] [(28,.int .i64 p)] [] (Code.at [1,1,0,1,0,0] (body Tryd.f227)) (ffresh_S0 x m th wr s c d n i) ffresh_K0 =
   some ([decide ((i : Int) < d - c) = true,inI64 (c + (i : Int)),CF 228 [fbkD x m th wr,D.int .i64 s,D.int .i64 (c + (i : Int))] (D.int .i64 p),(0 : Int) ≤ p ∧ p < (List.length wr : Int),0 + 1 ≤ 1,inI64 (n - List.getD wr (Int.toNat p) (0 : Int)),inI64 ((i : Int) + (1 : Int))],Ex.normal,ffresh_S0 x m th wr s c d (n - wr.getD p.toNat 0) (i + 1)) := by kernel_rfl
theorem ffresh_0_end (x : FBook) (m : Mp) (th : List (List Int)) (wr : List Int) (s c d : Int) (n : Int) (i : Nat) :
  runK (MF 34) [(18,false)] [] [] (Code.at [1,1,0,1,0,0] (body Tryd.f227)) (ffresh_S0 x m th wr s c d n i) ffresh_K0 =
   some ([decide ((i : Int) < d - c) = false],Ex.exit 0,ffresh_S0 x m th wr s c d n i) := by kernel_rfl
theorem fleast_0_yes (x : FBook) (m : Mp) (th : List (List Int)) (wr : List Int) (plan : List Work) (s d : Int) (k c : Int) (i : Nat) :
  runK (MF 40) [(16,true),(23,true),(28,true)] [] [] (Code.at [1,1,0,1,0,0] (body Tryd.f143)) (fleast_S0 x m th wr plan s d k c i) fleast_K0 =
   some ([decide ((i : Int) < (List.length plan : Int)) = true,(0 : Int) ≤ (i : Int) ∧ (i : Int) < (List.length plan : Int),0 + 2 ≤ 2,0 + 1 + 1 ≤ 2,(Work.s (List.getD plan (i) work0) == s) = true,(Work.s (List.getD plan (i) work0) == s) = true,0 + 0 + 1 ≤ 2,(Work.s (List.getD plan (i) work0) == s) = true,(Work.s (List.getD plan (i) work0) == s) = true,(Work.s (List.getD plan (i) work0) == s) = true,decide (Work.d (List.getD plan (i) work0) ≤ d) = true,0 + 0 + 1 ≤ 2,inI64 ((i : Int) + (1 : Int))],Ex.normal,fleast_S0 x m th wr plan s d 1 (plan.getD i work0).d (i + 1)) := by kernel_rfl
theorem fleast_0_no1 (x : FBook) (m : Mp) (th : List (List Int)) (wr : List Int) (plan : List Work) (s d : Int) (k c : Int) (i : Nat) :
  runK (MF 40) [(16,true),(23,false)] [] [] (Code.at [1,1,0,1,0,0] (body Tryd.f143)) (fleast_S0 x m th wr plan s d k c i) fleast_K0 =
   some ([decide ((i : Int) < (List.length plan : Int)) = true,(0 : Int) ≤ (i : Int) ∧ (i : Int) < (List.length plan : Int),0 + 2 ≤ 2,0 + 1 + 1 ≤ 2,(Work.s (List.getD plan (i) work0) == s) = false,(Work.s (List.getD plan (i) work0) == s) = false,(Work.s (List.getD plan (i) work0) == s) = false,(Work.s (List.getD plan (i) work0) == s) = false,(Work.s (List.getD plan (i) work0) == s) = false,inI64 ((i : Int) + (1 : Int))],Ex.normal,fleast_S0 x m th wr plan s d k c (i + 1)) := by kernel_rfl
theorem fleast_0_no2 (x : FBook) (m : Mp) (th : List (List Int)) (wr : List Int) (plan : List Work) (s d : Int) (k c : Int) (i : Nat) :
  runK (MF 40) [(16,true),(23,true),(28,false)] [] [] (Code.at [1,1,0,1,0,0] (body Tryd.f143)) (fleast_S0 x m th wr plan s d k c i) fleast_K0 =
   some ([decide ((i : Int) < (List.length plan : Int)) = true,(0 : Int) ≤ (i : Int) ∧ (i : Int) < (List.length plan : Int),0 + 2 ≤ 2,0 + 1 + 1 ≤ 2,(Work.s (List.getD plan (i) work0) == s) = true,(Work.s (List.getD plan (i) work0) == s) = true,0 + 0 + 1 ≤ 2,(Work.s (List.getD plan (i) work0) == s) = true,(Work.s (List.getD plan (i) work0) == s) = true,(Work.s (List.getD plan (i) work0) == s) = true,decide (Work.d (List.getD plan (i) work0) ≤ d) = false,inI64 ((i : Int) + (1 : Int))],Ex.normal,fleast_S0 x m th wr plan s d k c (i + 1)) := by kernel_rfl
theorem fleast_0_end (x : FBook) (m : Mp) (th : List (List Int)) (wr : List Int) (plan : List Work) (s d : Int) (k c : Int) (i : Nat) :
  runK (MF 40) [(16,false)] [] [] (Code.at [1,1,0,1,0,0] (body Tryd.f143)) (fleast_S0 x m th wr plan s d k c i) fleast_K0 =
   some ([decide ((i : Int) < (List.length plan : Int)) = false],Ex.exit 0,fleast_S0 x m th wr plan s d k c i) := by kernel_rfl
theorem fsum_0_on (xs : List Int) (n : Int) (i : Nat) :
  runK (MF 17) [(9,true)] [] [] (Code.at [1,1,0,1,0,0] (body Tryd.f178)) (fsum_S0 xs n i) fsum_K0 =
   some ([decide ((i : Int) < (List.length xs : Int)) = true,(0 : Int) ≤ (i : Int) ∧ (i : Int) < (List.length xs : Int),0 + 1 ≤ 1,inI64 (n + List.getD xs (i) (0 : Int)),inI64 ((i : Int) + (1 : Int))],Ex.normal,fsum_S0 xs (n + xs.getD i 0) (i + 1)) := by kernel_rfl
theorem fsum_0_end (xs : List Int) (n : Int) (i : Nat) :
  runK (MF 17) [(9,false)] [] [] (Code.at [1,1,0,1,0,0] (body Tryd.f178)) (fsum_S0 xs n i) fsum_K0 =
   some ([decide ((i : Int) < (List.length xs : Int)) = false],Ex.exit 0,fsum_S0 xs n i) := by kernel_rfl
theorem feetB_0_on (x : FBook) (m : Mp) (th : List (List Int)) (wr : List Int) (plan : List Work) (y : Int) (r : List Int) (i : Nat) :
  runK (MF 27) [(11,true)] [] [] (Code.at [1,1,0,1,0,0] (body Tryd.f147)) (feetB_S0 x m th wr plan y r i) feetB_K0 =
   some ([decide ((i : Int) < (List.length plan : Int)) = true,(0 : Int) ≤ (i : Int) ∧ (i : Int) < (List.length plan : Int),0 + 2 ≤ 2,0 + 1 + 1 ≤ 2,(0 : Int) ≤ Work.s (List.getD plan (i) work0) ∧ Work.s (List.getD plan (i) work0) < (List.length (FBook.feet x) : Int),0 + 1 ≤ 1,List.length (y :: r) = List.length ((y :: r)),List.length ((y :: r) ++ [List.getD (FBook.feet x) (Int.toNat (Work.s (List.getD plan (i) work0))) (0 : Int)]) * (8 + 1) ≤ 140737488355328,inI64 ((i : Int) + (1 : Int))],Ex.normal,feetB_S0 x m th wr plan y (r ++ [(x.feet.getD (plan.getD i work0).s.toNat 0)]) (i + 1)) := by kernel_rfl
theorem feetB_0_end (x : FBook) (m : Mp) (th : List (List Int)) (wr : List Int) (plan : List Work) (y : Int) (r : List Int) (i : Nat) :
  runK (MF 27) [(11,false)] [] [] (Code.at [1,1,0,1,0,0] (body Tryd.f147)) (feetB_S0 x m th wr plan y r i) feetB_K0 =
   some ([decide ((i : Int) < (List.length plan : Int)) = false],Ex.exit 0,feetB_S0 x m th wr plan y r i) := by kernel_rfl
theorem feetA_0_on (x : FBook) (m : Mp) (th : List (List Int)) (wr : List Int) (plan : List Work) (i : Nat) :
  runK (MF 27) [(11,true)] [] [] (Code.at [1,1,0,1,0,0] (body Tryd.f147)) (feetA_S0 x m th wr plan i) feetB_K0 =
   some ([decide ((i : Int) < (List.length plan : Int)) = true,(0 : Int) ≤ (i : Int) ∧ (i : Int) < (List.length plan : Int),0 + 2 ≤ 2,0 + 1 + 1 ≤ 2,(0 : Int) ≤ Work.s (List.getD plan (i) work0) ∧ Work.s (List.getD plan (i) work0) < (List.length (FBook.feet x) : Int),0 + 1 ≤ 1,1 * (8 + 1) ≤ 140737488355328,inI64 ((i : Int) + (1 : Int))],Ex.normal,feetB_S0 x m th wr plan (x.feet.getD (plan.getD i work0).s.toNat 0) [] (i + 1)) := by kernel_rfl
theorem feetA_0_end (x : FBook) (m : Mp) (th : List (List Int)) (wr : List Int) (plan : List Work) (i : Nat) :
  runK (MF 27) [(11,false)] [] [] (Code.at [1,1,0,1,0,0] (body Tryd.f147)) (feetA_S0 x m th wr plan i) feetA_K0 =
   some ([decide ((i : Int) < (List.length plan : Int)) = false],Ex.exit 0,feetA_S0 x m th wr plan i) := by kernel_rfl
theorem fneeds_0_on (x : FBook) (m : Mp) (th : List (List Int)) (wr : List Int) (plan : List Work) (n : Int) (i : Nat) (v : Int) :
  runK (MF 32) [(11,true)] [(21,.int .i64 v)] [] (Code.at [1,1,0,1,0,0] (body Tryd.f148)) (fneeds_S0 x m th wr plan n i) fneeds_K0 =
   some ([decide ((i : Int) < (List.length plan : Int)) = true,(0 : Int) ≤ (i : Int) ∧ (i : Int) < (List.length plan : Int),0 + 2 ≤ 2,inI64 ((i : Int) + (1 : Int)),(0 : Int) ≤ (0 : Int) ∧ (0 : Int) ≤ (i : Int) + (1 : Int) ∧ (i : Int) + (1 : Int) ≤ (List.length plan : Int),CF 147 [fbkD x m th wr,D.sl false E.work (List.drop 0 (List.take (Int.toNat ((i : Int) + (1 : Int))) plan))] (D.int .i64 v),0 + 0 + 1 ≤ 2,inI64 (FBook.make x * Work.d (List.getD plan (i) work0)),inI64 (v - FBook.make x * Work.d (List.getD plan (i) work0)),inI64 ((i : Int) + (1 : Int))],Ex.normal,fneeds_S0 x m th wr plan (mx n (v - x.make * (plan.getD i work0).d)) (i + 1)) := by kernel_rfl
theorem fneeds_0_end (x : FBook) (m : Mp) (th : List (List Int)) (wr : List Int) (plan : List Work) (n : Int) (i : Nat) :
  runK (MF 32) [(11,false)] [] [] (Code.at [1,1,0,1,0,0] (body Tryd.f148)) (fneeds_S0 x m th wr plan n i) fneeds_K0 =
   some ([decide ((i : Int) < (List.length plan : Int)) = false],Ex.exit 0,fneeds_S0 x m th wr plan n i) := by kernel_rfl
theorem isPlan_0_none (x : FBook) (l : List (K2 × Bool)) (th : List (List Int)) (wr : List Int) (plan : List Work) (la : Work) (i : Nat) :
  runK (MF 33) [(12,true),(20,true)] [] [] (Code.at [1,1,0,1,0,0] (body Tryd.f141)) (isPlan_S0 x l th wr plan la i) [.tmp 2,.tmp 5,.tmp 9,.tmp 10,.tmp 11,.box 2,.box 5,.tmp 4] =
   some ([decide ((i : Int) < (List.length plan : Int)) = true,(0 : Int) ≤ (i : Int) ∧ (i : Int) < (List.length plan : Int),0 + 2 ≤ 2,0 + 2 ≤ 2,(!Option.getD (lookK l (Work.d (List.getD plan (i) work0),Work.s (List.getD plan (i) work0))) false) = true,(!Option.getD (lookK l (Work.d (List.getD plan (i) work0),Work.s (List.getD plan (i) work0))) false) = true,(!Option.getD (lookK l (Work.d (List.getD plan (i) work0),Work.s (List.getD plan (i) work0))) false) = true,(!Option.getD (lookK l (Work.d (List.getD plan (i) work0),Work.s (List.getD plan (i) work0))) false) = true,(!Option.getD (lookK l (Work.d (List.getD plan (i) work0),Work.s (List.getD plan (i) work0))) false) = true,(!Option.getD (lookK l (Work.d (List.getD plan (i) work0),Work.s (List.getD plan (i) work0))) false) = true],Ex.ret,isPlan_T0_none x l th wr plan la i ) := by kernel_rfl
theorem isPlan_0_first (x : FBook) (l : List (K2 × Bool)) (th : List (List Int)) (wr : List Int) (plan : List Work) (la : Work) (i : Nat) :
  runK (MF 33) [(12,true),(20,false),(24,false)] [] [] (Code.at [1,1,0,1,0,0] (body Tryd.f141)) (isPlan_S0 x l th wr plan la i) isPlan_K0 =
   some ([decide ((i : Int) < (List.length plan : Int)) = true,(0 : Int) ≤ (i : Int) ∧ (i : Int) < (List.length plan : Int),0 + 2 ≤ 2,0 + 2 ≤ 2,(!Option.getD (lookK l (Work.d (List.getD plan (i) work0),Work.s (List.getD plan (i) work0))) false) = false,0 + 2 ≤ 2,(!Option.getD (lookK l (Work.d (List.getD plan (i) work0),Work.s (List.getD plan (i) work0))) false) = false,0 + 2 ≤ 2,(!Option.getD (lookK l (Work.d (List.getD plan (i) work0),Work.s (List.getD plan (i) work0))) false) = false,(!Option.getD (lookK l (Work.d (List.getD plan (i) work0),Work.s (List.getD plan (i) work0))) false) = false,(!eqI [Work.d la,Work.s la] [-(1 : Int),(0 : Int)]) = false,(!eqI [Work.d la,Work.s la] [-(1 : Int),(0 : Int)]) = false,(!eqI [Work.d la,Work.s la] [-(1 : Int),(0 : Int)]) = false,(!eqI [Work.d la,Work.s la] [-(1 : Int),(0 : Int)]) = false,(!Option.getD (lookK l (Work.d (List.getD plan (i) work0),Work.s (List.getD plan (i) work0))) false) = false,(!eqI [Work.d la,Work.s la] [-(1 : Int),(0 : Int)]) = false,(!Option.getD (lookK l (Work.d (List.getD plan (i) work0),Work.s (List.getD plan (i) work0))) false) = false,0 + 2 ≤ 2,inI64 ((i : Int) + (1 : Int))],Ex.normal,isPlan_S0 x l th wr plan (plan.getD i work0) (i + 1)) := by kernel_rfl
theorem isPlan_0_ok (x : FBook) (l : List (K2 × Bool)) (th : List (List Int)) (wr : List Int) (plan : List Work) (la : Work) (i : Nat) (c : Int) :
  runK (MF 33) [(12,true),(20,false),(24,true),(30,false)] [(27,.int .i64 c)] [] (Code.at [1,1,0,1,0,0] (body Tryd.f141)) (isPlan_S0 x l th wr plan la i) isPlan_K0 =
   some ([decide ((i : Int) < (List.length plan : Int)) = true,(0 : Int) ≤ (i : Int) ∧ (i : Int) < (List.length plan : Int),0 + 2 ≤ 2,0 + 2 ≤ 2,(!Option.getD (lookK l (Work.d (List.getD plan (i) work0),Work.s (List.getD plan (i) work0))) false) = false,0 + 2 ≤ 2,(!Option.getD (lookK l (Work.d (List.getD plan (i) work0),Work.s (List.getD plan (i) work0))) false) = false,0 + 2 ≤ 2,(!Option.getD (lookK l (Work.d (List.getD plan (i) work0),Work.s (List.getD plan (i) work0))) false) = false,(!Option.getD (lookK l (Work.d (List.getD plan (i) work0),Work.s (List.getD plan (i) work0))) false) = false,(!eqI [Work.d la,Work.s la] [-(1 : Int),(0 : Int)]) = true,0 + 2 ≤ 2,(!eqI [Work.d la,Work.s la] [-(1 : Int),(0 : Int)]) = true,0 + 2 ≤ 2,(!eqI [Work.d la,Work.s la] [-(1 : Int),(0 : Int)]) = true,CF 177 [D.agg [D.int .i64 (Work.d la),D.int .i64 (Work.s la)],D.agg [D.int .i64 (Work.d (List.getD plan (i) work0)),D.int .i64 (Work.s (List.getD plan (i) work0))]] (D.int .i64 c),(!eqI [Work.d la,Work.s la] [-(1 : Int),(0 : Int)]) = true,(!Option.getD (lookK l (Work.d (List.getD plan (i) work0),Work.s (List.getD plan (i) work0))) false) = false,(!eqI [Work.d la,Work.s la] [-(1 : Int),(0 : Int)]) = true,(!Option.getD (lookK l (Work.d (List.getD plan (i) work0),Work.s (List.getD plan (i) work0))) false) = false,decide (c ≥ (0 : Int)) = false,0 + 2 ≤ 2,inI64 ((i : Int) + (1 : Int))],Ex.normal,isPlan_S0 x l th wr plan (plan.getD i work0) (i + 1)) := by kernel_rfl
theorem isPlan_0_bad (x : FBook) (l : List (K2 × Bool)) (th : List (List Int)) (wr : List Int) (plan : List Work) (la : Work) (i : Nat) (c : Int) :
  runK (MF 33) [(12,true),(20,false),(24,true),(30,true)] [(27,.int .i64 c)] [] (Code.at [1,1,0,1,0,0] (body Tryd.f141)) (isPlan_S0 x l th wr plan la i) [.tmp 2,.tmp 5,.tmp 9,.tmp 10,.tmp 11,.box 2,.box 5,.tmp 4] =
   some ([decide ((i : Int) < (List.length plan : Int)) = true,(0 : Int) ≤ (i : Int) ∧ (i : Int) < (List.length plan : Int),0 + 2 ≤ 2,0 + 2 ≤ 2,(!Option.getD (lookK l (Work.d (List.getD plan (i) work0),Work.s (List.getD plan (i) work0))) false) = false,0 + 2 ≤ 2,(!Option.getD (lookK l (Work.d (List.getD plan (i) work0),Work.s (List.getD plan (i) work0))) false) = false,0 + 2 ≤ 2,(!Option.getD (lookK l (Work.d (List.getD plan (i) work0),Work.s (List.getD plan (i) work0))) false) = false,(!Option.getD (lookK l (Work.d (List.getD plan (i) work0),Work.s (List.getD plan (i) work0))) false) = false,(!eqI [Work.d la,Work.s la] [-(1 : Int),(0 : Int)]) = true,0 + 2 ≤ 2,(!eqI [Work.d la,Work.s la] [-(1 : Int),(0 : Int)]) = true,0 + 2 ≤ 2,(!eqI [Work.d la,Work.s la] [-(1 : Int),(0 : Int)]) = true,CF 177 [D.agg [D.int .i64 (Work.d la),D.int .i64 (Work.s la)],D.agg [D.int .i64 (Work.d (List.getD plan (i) work0)),D.int .i64 (Work.s (List.getD plan (i) work0))]] (D.int .i64 c),(!eqI [Work.d la,Work.s la] [-(1 : Int),(0 : Int)]) = true,(!Option.getD (lookK l (Work.d (List.getD plan (i) work0),Work.s (List.getD plan (i) work0))) false) = false,(!eqI [Work.d la,Work.s la] [-(1 : Int),(0 : Int)]) = true,(!Option.getD (lookK l (Work.d (List.getD plan (i) work0),Work.s (List.getD plan (i) work0))) false) = false,decide (c ≥ (0 : Int)) = true],Ex.ret,isPlan_T0_bad x l th wr plan la i c) := by kernel_rfl
theorem isPlan_0_end (x : FBook) (l : List (K2 × Bool)) (th : List (List Int)) (wr : List Int) (plan : List Work) (la : Work) (i : Nat) :
  runK (MF 33) [(12,false)] [] [] (Code.at [1,1,0,1,0,0] (body Tryd.f141)) (isPlan_S0 x l th wr plan la i) isPlan_K0 =
   some ([decide ((i : Int) < (List.length plan : Int)) = false],Ex.exit 0,isPlan_S0 x l th wr plan la i) := by kernel_rfl
theorem fthin_0_on (x : FBook) (m : Mp) (th : List (List Int)) (wr : List Int) (plan : List Work) (i : Nat) (j : Nat) :
  runK (MF 38) [(15,true)] [] [(2,(fthin_K2,(.normal,fthin_S2 x m th wr plan i j)))] (Code.at [1,0,1,0,0] (body Tryd.f145)) (fthin_S0 x m th wr plan i) fthin_K0 =
   some ([decide ((i : Int) < Book.days (FBook.chain x) + (1 : Int)) = true,LF 38 (Code.at [1,0,1,0,0,1,1,0,0,1,1] (body Tryd.f145)) [(.tmp 1,.d (D.sl false E.work plan)),(.tmp 2,.d (D.ptr 2 0)),(.tmp 7,.d (D.int .i64 (i : Int))),(.tmp 13,.d (D.int .i64 (Book.days (FBook.chain x) + (1 : Int)))),(.tmp 14,.d (D.int .i64 (i : Int))),(.tmp 20,.d (D.int .i64 ((List.length (FBook.feet x) : Int)))),(.tmp 21,.d (D.int .i64 0)),(.box 2,.bx (some (Box.mk false (cellsOf (fbkD x m th wr)))))] Ex.normal (fthin_S2 x m th wr plan i j),inI64 ((i : Int) + (1 : Int))],Ex.normal,fthin_S0 x m th wr plan (i + 1)) := by kernel_rfl
theorem fthin_0_hit (x : FBook) (m : Mp) (th : List (List Int)) (wr : List Int) (plan : List Work) (i : Nat) (j : Nat) (v : Int) :
  runK (MF 38) [(15,true)] [] [(2,(fthin_K2,(.ret,fthin_T2_hit x m th wr plan i j v)))] (Code.at [1,0,1,0,0] (body Tryd.f145)) (fthin_S0 x m th wr plan i) [.tmp 1,.tmp 2,.tmp 13,.tmp 14,.box 2,.tmp 4,.tmp 5,.tmp 6] =
   some ([decide ((i : Int) < Book.days (FBook.chain x) + (1 : Int)) = true,LF 38 (Code.at [1,0,1,0,0,1,1,0,0,1,1] (body Tryd.f145)) [(.tmp 1,.d (D.sl false E.work plan)),(.tmp 2,.d (D.ptr 2 0)),(.tmp 7,.d (D.int .i64 (i : Int))),(.tmp 13,.d (D.int .i64 (Book.days (FBook.chain x) + (1 : Int)))),(.tmp 14,.d (D.int .i64 (i : Int))),(.tmp 20,.d (D.int .i64 ((List.length (FBook.feet x) : Int)))),(.tmp 21,.d (D.int .i64 0)),(.box 2,.bx (some (Box.mk false (cellsOf (fbkD x m th wr)))))] Ex.ret (fthin_T2_hit x m th wr plan i j v)],Ex.ret,fthin_T0_hit x m th wr plan i j v) := by kernel_rfl
theorem fthin_0_end (x : FBook) (m : Mp) (th : List (List Int)) (wr : List Int) (plan : List Work) (i : Nat) :
  runK (MF 38) [(15,false)] [] [] (Code.at [1,0,1,0,0] (body Tryd.f145)) (fthin_S0 x m th wr plan i) fthin_K0 =
   some ([decide ((i : Int) < Book.days (FBook.chain x) + (1 : Int)) = false],Ex.exit 0,fthin_S0 x m th wr plan i) := by kernel_rfl
theorem fthin_2_on (x : FBook) (m : Mp) (th : List (List Int)) (wr : List Int) (plan : List Work) (i j : Nat) (v : Int) :
  runK (MF 38) [(22,true),(33,false)] [(28,.int .i64 v)] [] (Code.at [1,0,1,0,0,1,1,0,0,1,1,0,0] (body Tryd.f145)) (fthin_S2 x m th wr plan i j) fthin_K2 =
   some ([decide ((j : Int) < (List.length (FBook.feet x) : Int)) = true,CF 143 [fbkD x m th wr,D.sl false E.work plan,D.int .i64 (j : Int),D.int .i64 (i : Int)] (D.int .i64 v),decide (v < Book.rule (FBook.chain x)) = false,inI64 ((j : Int) + (1 : Int))],Ex.normal,fthin_S2 x m th wr plan i (j + 1)) := by kernel_rfl
theorem fthin_2_hit (x : FBook) (m : Mp) (th : List (List Int)) (wr : List Int) (plan : List Work) (i j : Nat) (v : Int) :
  runK (MF 38) [(22,true),(33,true)] [(28,.int .i64 v)] [] (Code.at [1,0,1,0,0,1,1,0,0,1,1,0,0] (body Tryd.f145)) (fthin_S2 x m th wr plan i j) [.tmp 1,.tmp 2,.tmp 7,.tmp 13,.tmp 14,.tmp 20,.tmp 21,.box 2,.tmp 4,.tmp 5,.tmp 6] =
   some ([decide ((j : Int) < (List.length (FBook.feet x) : Int)) = true,CF 143 [fbkD x m th wr,D.sl false E.work plan,D.int .i64 (j : Int),D.int .i64 (i : Int)] (D.int .i64 v),decide (v < Book.rule (FBook.chain x)) = true],Ex.ret,fthin_T2_hit x m th wr plan i j v) := by kernel_rfl
theorem fthin_2_end (x : FBook) (m : Mp) (th : List (List Int)) (wr : List Int) (plan : List Work) (i j : Nat) :
  runK (MF 38) [(22,false)] [] [] (Code.at [1,0,1,0,0,1,1,0,0,1,1,0,0] (body Tryd.f145)) (fthin_S2 x m th wr plan i j) fthin_K2 =
   some ([decide ((j : Int) < (List.length (FBook.feet x) : Int)) = false],Ex.exit 2,fthin_S2 x m th wr plan i j) := by kernel_rfl
theorem fwithin_no (n lo hi : Int) :
  callF (MF 15) [(10,false)] [] [] (body Tryd.f142) [.tmp 6] [.int .i64 n,.int .i64 lo,.int .i64 hi] =
   some ([decide (lo ≤ n) = false,decide (lo ≤ n) = false,decide (lo ≤ n) = false,decide (lo ≤ n) = false],D.bool false) := by kernel_rfl
theorem fwithin_yes (n lo hi : Int) :
  callF (MF 15) [(10,true)] [] [] (body Tryd.f142) [.tmp 6] [.int .i64 n,.int .i64 lo,.int .i64 hi] =
   some ([decide (lo ≤ n) = true,decide (lo ≤ n) = true,decide (lo ≤ n) = true,decide (lo ≤ n) = true],D.bool (decide (n ≤ hi))) := by kernel_rfl
theorem fnever_all  :
  callF (MF 3) [] [] [] (body Tryd.f183) [.cell 0 196] [] =
   some ([0 + 4 ≤ 4,0 + 4 ≤ 4],D.agg [D.int .i64 0,D.int .i64 0,D.int .i64 0,D.int .i64 0]) := by kernel_rfl
theorem fcompare_ne (a b : Work) :
  callF (MF 20) [(9,true)] [] [] (body Tryd.f177) [.tmp 4] [wkD a,wkD b] =
   some ([0 + 0 + 1 ≤ 2,0 + 0 + 1 ≤ 2,(Work.d a != Work.d b) = true,0 + 0 + 1 ≤ 2,0 + 0 + 1 ≤ 2,inI64 (Work.d a - Work.d b)],D.int .i64 (Work.d a - Work.d b)) := by kernel_rfl
theorem fcompare_eq (a b : Work) :
  callF (MF 20) [(9,false)] [] [] (body Tryd.f177) [.tmp 4] [wkD a,wkD b] =
   some ([0 + 0 + 1 ≤ 2,0 + 0 + 1 ≤ 2,(Work.d a != Work.d b) = false,0 + 1 + 1 ≤ 2,0 + 1 + 1 ≤ 2,inI64 (Work.s a - Work.s b)],D.int .i64 (Work.s a - Work.s b)) := by kernel_rfl
theorem fplace_all (x : FBook) (m : Mp) (th : List (List Int)) (wr : List Int) (s d : Int) (p : Int) (i : Nat) :
  callF (MF 30) [] [] [(0,(fplace_K0,(.normal,fplace_S0 x m th wr s d p i)))] (body Tryd.f228) [.tmp 6] [fbkD x m th wr,.int .i64 s,.int .i64 d] =
   some ([LF 30 (Code.at [1,0,1] (body Tryd.f228)) [(.tmp 1,.d (D.int .i64 s)),(.tmp 2,.d (D.int .i64 d)),(.tmp 3,.d (D.ptr 3 0)),(.tmp 12,.d (D.sl false E.int (Book.turns (FBook.chain x)))),(.tmp 13,.d (D.int .i64 ((List.length (Book.turns (FBook.chain x)) : Int)))),(.tmp 14,.d (D.int .i64 0)),(.box 3,.bx (some (Box.mk false (cellsOf (fbkD x m th wr)))))] Ex.normal (fplace_S0 x m th wr s d p i)],D.int .i64 p) := by kernel_rfl
theorem fold_all (x : FBook) (m : Mp) (th : List (List Int)) (wr : List Int) (s c d : Int) :
  callF (MF 17) [] [] [] (body Tryd.f226) [.tmp 8] [fbkD x m th wr,.int .i64 s,.int .i64 c,.int .i64 d] =
   some ([(0 : Int) ≤ s ∧ s < (List.length th : Int),(0 : Int) ≤ d ∧ d < (Nat.cast : Nat → Int) (List.length (List.getD th (Int.toNat s) (E.z (E.list E.int)))),0 + 1 ≤ 1],D.int .i64 (List.getD (List.getD th (Int.toNat s) (E.z (E.list E.int))) (Int.toNat d) (0 : Int))) := by kernel_rfl
theorem ffresh_all (x : FBook) (m : Mp) (th : List (List Int)) (wr : List Int) (s c d : Int) (n : Int) (i : Nat) :
  callF (MF 34) [] [] [(0,(ffresh_K0,(.normal,ffresh_S0 x m th wr s c d n i)))] (body Tryd.f227) [.tmp 8] [fbkD x m th wr,.int .i64 s,.int .i64 c,.int .i64 d] =
   some ([inI64 (d - c),LF 34 (Code.at [1,1,0,1] (body Tryd.f227)) [(.tmp 1,.d (D.int .i64 s)),(.tmp 2,.d (D.int .i64 c)),(.tmp 4,.d (D.ptr 4 0)),(.tmp 9,.d (D.int .i64 (FBook.new x))),(.tmp 16,.d (D.int .i64 (d - c))),(.tmp 17,.d (D.int .i64 0)),(.box 4,.bx (some (Box.mk false (cellsOf (fbkD x m th wr)))))] Ex.normal (ffresh_S0 x m th wr s c d n i)],D.int .i64 n) := by kernel_rfl
theorem fleast_old (x : FBook) (m : Mp) (th : List (List Int)) (wr : List Int) (plan : List Work) (s d : Int) (v c : Int) (i : Nat) :
  callF (MF 40) [] [(39,.int .i64 v)] [(0,(fleast_K0,(.normal,fleast_S0 x m th wr plan s d 0 c i)))] (body Tryd.f143) [.tmp 8] [fbkD x m th wr,.sl false .work plan,.int .i64 s,.int .i64 d] =
   some ([LF 40 (Code.at [1,1,0,1] (body Tryd.f143)) [(.tmp 2,.d (D.int .i64 s)),(.tmp 3,.d (D.int .i64 d)),(.tmp 4,.d (D.ptr 4 0)),(.tmp 9,.d (D.int .i64 0)),(.tmp 10,.d (D.int .i64 0)),(.tmp 13,.d (D.sl false E.work plan)),(.tmp 14,.d (D.int .i64 ((List.length plan : Int)))),(.tmp 15,.d (D.int .i64 0)),(.box 4,.bx (some (Box.mk false (cellsOf (fbkD x m th wr)))))] Ex.normal (fleast_S0 x m th wr plan s d (0 : Int) c i),(0 : Int) ≤ (0 : Int) ∧ (0 : Int) < (Nat.cast : Nat → Int) 2,CF 226 [fbkD x m th wr,D.int .i64 s,D.int .i64 c,D.int .i64 d] (D.int .i64 v)],D.int .i64 v) := by kernel_rfl
theorem fleast_new (x : FBook) (m : Mp) (th : List (List Int)) (wr : List Int) (plan : List Work) (s d : Int) (v c : Int) (i : Nat) :
  callF (MF 40) [] [(39,.int .i64 v)] [(0,(fleast_K0,(.normal,fleast_S0 x m th wr plan s d 1 c i)))] (body Tryd.f143) [.tmp 8] [fbkD x m th wr,.sl false .work plan,.int .i64 s,.int .i64 d] =
   some ([LF 40 (Code.at [1,1,0,1] (body Tryd.f143)) [(.tmp 2,.d (D.int .i64 s)),(.tmp 3,.d (D.int .i64 d)),(.tmp 4,.d (D.ptr 4 0)),(.tmp 9,.d (D.int .i64 0)),(.tmp 10,.d (D.int .i64 0)),(.tmp 13,.d (D.sl false E.work plan)),(.tmp 14,.d (D.int .i64 ((List.length plan : Int)))),(.tmp 15,.d (D.int .i64 0)),(.box 4,.bx (some (Box.mk false (cellsOf (fbkD x m th wr)))))] Ex.normal (fleast_S0 x m th wr plan s d (1 : Int) c i),(0 : Int) ≤ (1 : Int) ∧ (1 : Int) < (Nat.cast : Nat → Int) 2,CF 227 [fbkD x m th wr,D.int .i64 s,D.int .i64 c,D.int .i64 d] (D.int .i64 v)],D.int .i64 v) := by kernel_rfl
theorem fsum_all (xs : List Int) (n : Int) (i : Nat) :
  callF (MF 17) [] [] [(0,(fsum_K0,(.normal,fsum_S0 xs n i)))] (body Tryd.f178) [.tmp 2] [.sl false .int xs] =
   some ([LF 17 (Code.at [1,1,0,1] (body Tryd.f178)) [(.tmp 3,.d (D.int .i64 0)),(.tmp 6,.d (D.sl false E.int xs)),(.tmp 7,.d (D.int .i64 ((List.length xs : Int)))),(.tmp 8,.d (D.int .i64 0))] Ex.normal (fsum_S0 xs n i)],D.int .i64 n) := by kernel_rfl
theorem feetA_none (x : FBook) (m : Mp) (th : List (List Int)) (wr : List Int) (plan : List Work) (n : Int) (i : Nat) :
  callF (MF 27) [] [(26,.int .i64 n)] [(0,(feetA_K0,(.normal,feetA_S0 x m th wr plan i)))] (body Tryd.f147) [.tmp 4] [fbkD x m th wr,.sl false .work plan] =
   some ([LF 27 (Code.at [1,1,0,1] (body Tryd.f147)) [(.tmp 2,.d (D.ptr 2 0)),(.tmp 5,.d (D.sl true E.int [])),(.tmp 8,.d (D.sl false E.work plan)),(.tmp 9,.d (D.int .i64 ((List.length plan : Int)))),(.tmp 10,.d (D.int .i64 0)),(.box 2,.bx (some (Box.mk false (cellsOf (fbkD x m th wr))))),(.obj 23,.ob Option.none)] Ex.normal (feetA_S0 x m th wr plan i),CF 178 [D.sl false E.int []] (D.int .i64 n)],D.int .i64 n) := by kernel_rfl
theorem feetA_some (x : FBook) (m : Mp) (th : List (List Int)) (wr : List Int) (plan : List Work) (n : Int) (i : Nat) (y : Int) (r : List Int) :
  callF (MF 27) [] [(26,.int .i64 n)] [(0,(feetA_K0,(.normal,feetB_S0 x m th wr plan y r i)))] (body Tryd.f147) [.tmp 4] [fbkD x m th wr,.sl false .work plan] =
   some ([LF 27 (Code.at [1,1,0,1] (body Tryd.f147)) [(.tmp 2,.d (D.ptr 2 0)),(.tmp 5,.d (D.sl true E.int [])),(.tmp 8,.d (D.sl false E.work plan)),(.tmp 9,.d (D.int .i64 ((List.length plan : Int)))),(.tmp 10,.d (D.int .i64 0)),(.box 2,.bx (some (Box.mk false (cellsOf (fbkD x m th wr))))),(.obj 23,.ob Option.none)] Ex.normal (feetB_S0 x m th wr plan y r i),List.length (y :: r) = List.length ((y :: r)),CF 178 [D.sl false E.int ((y :: r))] (D.int .i64 n)],D.int .i64 n) := by kernel_rfl
theorem fneeds_all (x : FBook) (m : Mp) (th : List (List Int)) (wr : List Int) (plan : List Work) (n : Int) (i : Nat) :
  callF (MF 32) [] [] [(0,(fneeds_K0,(.normal,fneeds_S0 x m th wr plan n i)))] (body Tryd.f148) [.tmp 4] [fbkD x m th wr,.sl false .work plan] =
   some ([LF 32 (Code.at [1,1,0,1] (body Tryd.f148)) [(.tmp 1,.d (D.sl false E.work plan)),(.tmp 2,.d (D.ptr 2 0)),(.tmp 5,.d (D.int .i64 0)),(.tmp 8,.d (D.sl false E.work plan)),(.tmp 9,.d (D.int .i64 ((List.length plan : Int)))),(.tmp 10,.d (D.int .i64 0)),(.box 2,.bx (some (Box.mk false (cellsOf (fbkD x m th wr)))))] Ex.normal (fneeds_S0 x m th wr plan n i)],D.int .i64 n) := by kernel_rfl
theorem fgood_all (x : FBook) (m : Mp) (th : List (List Int)) (wr : List Int) (plan : List Work) (n : Int) :
  callF (MF 12) [] [(7,.int .i64 n)] [] (body Tryd.f175) [.tmp 4] [fbkD x m th wr,.sl false .work plan] =
   some ([CF 148 [fbkD x m th wr,D.sl false E.work plan] (D.int .i64 n)],D.bool (decide (n ≤ FBook.stock x))) := by kernel_rfl
theorem isPlan_yes (x : FBook) (l : List (K2 × Bool)) (th : List (List Int)) (wr : List Int) (plan : List Work) (la : Work) (i : Nat) :
  callF (MF 33) [] [] [(0,(isPlan_K0,(.normal,isPlan_S0 x l th wr plan la i)))] (body Tryd.f141) [.tmp 4] [fbkD x (.work l) th wr,.sl false .work plan] =
   some ([0 + 2 ≤ 2,LF 33 (Code.at [1,1,0,1] (body Tryd.f141)) [(.tmp 2,.d (D.ptr 2 0)),(.tmp 5,.d (D.ptr 5 0)),(.tmp 9,.d (D.sl false E.work plan)),(.tmp 10,.d (D.int .i64 ((List.length plan : Int)))),(.tmp 11,.d (D.int .i64 0)),(.box 2,.bx (some (Box.mk false (cellsOf (fbkD x (Mp.work l) th wr))))),(.box 5,.bx (some (Box.mk false [D.int .i64 (-(1 : Int)),D.int .i64 0])))] Ex.normal (isPlan_S0 x l th wr plan la i)],D.bool true) := by kernel_rfl
theorem isPlan_none (x : FBook) (l : List (K2 × Bool)) (th : List (List Int)) (wr : List Int) (plan : List Work) (la : Work) (i : Nat) :
  callF (MF 33) [] [] [(0,(isPlan_K0,(.ret,isPlan_T0_none x l th wr plan la i)))] (body Tryd.f141) [.tmp 4] [fbkD x (.work l) th wr,.sl false .work plan] =
   some ([0 + 2 ≤ 2,LF 33 (Code.at [1,1,0,1] (body Tryd.f141)) [(.tmp 2,.d (D.ptr 2 0)),(.tmp 5,.d (D.ptr 5 0)),(.tmp 9,.d (D.sl false E.work plan)),(.tmp 10,.d (D.int .i64 ((List.length plan : Int)))),(.tmp 11,.d (D.int .i64 0)),(.box 2,.bx (some (Box.mk false (cellsOf (fbkD x (Mp.work l) th wr))))),(.box 5,.bx (some (Box.mk false [D.int .i64 (-(1 : Int)),D.int .i64 0])))] Ex.ret (isPlan_T0_none x l th wr plan la i)],D.bool false) := by kernel_rfl
theorem isPlan_bad (x : FBook) (l : List (K2 × Bool)) (th : List (List Int)) (wr : List Int) (plan : List Work) (la : Work) (i : Nat) (c : Int) :
  callF (MF 33) [] [] [(0,(isPlan_K0,(.ret,isPlan_T0_bad x l th wr plan la i c)))] (body Tryd.f141) [.tmp 4] [fbkD x (.work l) th wr,.sl false .work plan] =
   some ([0 + 2 ≤ 2,LF 33 (Code.at [1,1,0,1] (body Tryd.f141)) [(.tmp 2,.d (D.ptr 2 0)),(.tmp 5,.d (D.ptr 5 0)),(.tmp 9,.d (D.sl false E.work plan)),(.tmp 10,.d (D.int .i64 ((List.length plan : Int)))),(.tmp 11,.d (D.int .i64 0)),(.box 2,.bx (some (Box.mk false (cellsOf (fbkD x (Mp.work l) th wr))))),(.box 5,.bx (some (Box.mk false [D.int .i64 (-(1 : Int)),D.int .i64 0])))] Ex.ret (isPlan_T0_bad x l th wr plan la i c)],D.bool false) := by kernel_rfl
theorem fthin_none (x : FBook) (m : Mp) (th : List (List Int)) (wr : List Int) (plan : List Work) (i : Nat) :
  callF (MF 38) [] [] [(0,(fthin_K0,(.normal,fthin_S0 x m th wr plan i)))] (body Tryd.f145) [.tmp 4,.tmp 5,.tmp 6] [fbkD x m th wr,.sl false .work plan] =
   some ([inI64 (Book.days (FBook.chain x) + (1 : Int)),LF 38 (Code.at [1,0,1] (body Tryd.f145)) [(.tmp 1,.d (D.sl false E.work plan)),(.tmp 2,.d (D.ptr 2 0)),(.tmp 13,.d (D.int .i64 (Book.days (FBook.chain x) + (1 : Int)))),(.tmp 14,.d (D.int .i64 0)),(.box 2,.bx (some (Box.mk false (cellsOf (fbkD x m th wr)))))] Ex.normal (fthin_S0 x m th wr plan i)],D.tup [D.int .i64 0,D.int .i64 0,D.bool false]) := by kernel_rfl
theorem fthin_hit (x : FBook) (m : Mp) (th : List (List Int)) (wr : List Int) (plan : List Work) (i j : Nat) (v : Int) :
  callF (MF 38) [] [] [(0,(fthin_K0,(.ret,fthin_T0_hit x m th wr plan i j v)))] (body Tryd.f145) [.tmp 4,.tmp 5,.tmp 6] [fbkD x m th wr,.sl false .work plan] =
   some ([inI64 (Book.days (FBook.chain x) + (1 : Int)),LF 38 (Code.at [1,0,1] (body Tryd.f145)) [(.tmp 1,.d (D.sl false E.work plan)),(.tmp 2,.d (D.ptr 2 0)),(.tmp 13,.d (D.int .i64 (Book.days (FBook.chain x) + (1 : Int)))),(.tmp 14,.d (D.int .i64 0)),(.box 2,.bx (some (Box.mk false (cellsOf (fbkD x m th wr)))))] Ex.ret (fthin_T0_hit x m th wr plan i j v)],D.tup [D.int .i64 (i : Int),D.int .i64 (j : Int),D.bool true]) := by kernel_rfl
end Go.Di

namespace Go.Di
open Proofs

theorem LF.each {n id : Nat} {b c : Code} (hb : b = .block id (.loop c)) (N : Nat) (S : Nat → List (Key × Val)) {e : Ex} {L' : List (Key × Val)}
  (on : ∀ i,i < N → ∃ dec orc lorc ks ps L1,runK (MF n) dec orc lorc c (S i) ks = some (ps,.normal,L1) ∧ allP ps ∧ L1 = S (i + 1))
  (fin : ∃ dec orc lorc ks ps e1 L1,runK (MF n) dec orc lorc c (S N) ks = some (ps,e1,L1) ∧ allP ps ∧ (e1 = .exit id ∧ e = .normal ∨ e1 = .ret ∧ e = .ret) ∧ L1 = L') : LF n b (S 0) e L' := by
 refine LoopT.count (tt := lookN typesF) hb N S (fun i hi => ?_) ?_
 ·obtain ⟨dec,orc,lorc,ks,ps,L1,h1,h2,h3⟩ := on i hi
  exact WpL.path (GF n) h1 h2 ⟨rfl,h3⟩
 ·obtain ⟨dec,orc,lorc,ks,ps,e1,L1,h1,h2,h3,h4⟩ := fin
  exact WpL.path (GF n) h1 h2 ⟨h3,h4⟩
theorem i64_of {z : Int} (h1 : -1000000000000 ≤ z) (h2 : z ≤ 1000000000000) : inI64 z := by simp only [inI64]; omega
theorem lt_true {i n : Nat} (h : i < n) : decide ((i : Int) < (n : Int)) = true := decide_eq_true (by omega)
theorem lt_false {n : Nat} : decide ((n : Int) < (n : Int)) = false := decide_eq_false (by omega)
theorem mem_getD {α : Type} {l : List α} {i : Nat} (d : α) (h : i < l.length) : l.getD i d ∈ l := by
 rw [List.getD_eq_getElem?_getD,List.getElem?_eq_getElem h]
 exact List.getElem_mem h

theorem fwithin_con (n lo hi : Int) : CF 142 [.int .i64 n,.int .i64 lo,.int .i64 hi] (.bool (withinF n lo hi)) := by
 unfold withinF
 cases h : decide (lo ≤ n) with
 | false => exact contract_of_path (GF 15) fwithin_fn (fwithin_no n lo hi) (by repeat (first | exact trivial | refine ⟨by first | assumption | omega | rfl,?_⟩))
 | true => exact contract_of_path (GF 15) fwithin_fn (fwithin_yes n lo hi) (by repeat (first | exact trivial | refine ⟨by first | assumption | omega | rfl,?_⟩))
theorem fnever_con : CF 183 [] (wD 0 0 0 0) := contract_of_path (GF 3) fnever_fn fnever_all (by repeat (first | exact trivial | refine ⟨by omega,?_⟩))
theorem fcompare_con (a b : Work) (h1 : inI64 (a.d - b.d)) (h2 : inI64 (a.s - b.s)) : CF 177 [wkD a,wkD b] (.int .i64 (compareF a b)) := by
 unfold compareF
 by_cases h : a.d = b.d
 ·rw [if_pos h]
  have hb : (a.d != b.d) = false := by simp [h]
  exact contract_of_path (GF 20) fcompare_fn (fcompare_eq a b) (by repeat (first | exact trivial | refine ⟨by first | exact hb | exact h2 | omega,?_⟩))
 ·rw [if_neg h]
  have hb : (a.d != b.d) = true := by simp [h]
  exact contract_of_path (GF 20) fcompare_fn (fcompare_ne a b) (by repeat (first | exact trivial | refine ⟨by first | exact hb | exact h1 | omega,?_⟩))

/-! ### What is asked of a book in the calculation -/
structure FIn (x : FBook) : Prop where
 n : 1 ≤ x.feet.length ∧ x.feet.length ≤ 4
 days : 0 ≤ x.chain.days ∧ x.chain.days ≤ 900
 turns : x.chain.turns.length ≤ 1000
 feet : ∀ n ∈ x.feet,1 ≤ n ∧ n ≤ 1000
 new : 0 ≤ x.new ∧ x.new ≤ 1000
 opnl : x.opn.length ≤ 5
 opn : ∀ d ∈ x.opn,0 ≤ d ∧ d ≤ 900
 stock : 0 ≤ x.stock ∧ x.stock ≤ 1000
 make : 0 ≤ x.make ∧ x.make ≤ 1000
/-- .. and of what chain said of it. -/
structure KnOk (x : FBook) (th : List (List Int)) (wr : List Int) : Prop where
 wl : wr.length = x.feet.length
 w : ∀ n ∈ wr,0 ≤ n ∧ n ≤ 1000
 tl : th.length = x.feet.length
 row : ∀ l ∈ th,l.length = (x.chain.days + 1).toNat
 t : ∀ l ∈ th,∀ n ∈ l,-1000000 ≤ n ∧ n ≤ 1000000
structure WorkOk (x : FBook) (w : Work) : Prop where
 s : 0 ≤ w.s ∧ w.s < x.feet.length
 d : 0 ≤ w.d ∧ w.d ≤ 900
def PlanOk (x : FBook) (plan : List Work) : Prop := plan.length ≤ 1000 ∧ ∀ w ∈ plan,WorkOk x w

/-! ### place,old,fresh -/
theorem fplace_in {x : FBook} {s : Int} (d : Int) (hs : 0 ≤ s ∧ s < x.feet.length) : 0 ≤ fplaceF x s d ∧ fplaceF x s d < x.feet.length := placeF_in hs
theorem fplace_con {x : FBook} (hx : FIn x) (m : Mp) (th : List (List Int)) (wr : List Int) (s d : Int) (hs : 0 ≤ s ∧ s < x.feet.length) : CF 228 [fbkD x m th wr,.int .i64 s,.int .i64 d] (.int .i64 (fplaceF x s d)) := by
 have ht := hx.turns
 have hn := hx.n
 refine contract_of_path (GF 30) fplace_fn (fplace_all x m th wr s d (fplaceF x s d) x.chain.turns.length) ⟨?_,trivial⟩
 refine LF.each (id := 0) (c := Code.at [1,0,1,0,0] (body Tryd.f228)) (by kernel_rfl) x.chain.turns.length (fun i => fplace_S0 x m th wr s d (placeF x.feet.length (x.chain.turns.take i) d s) i) (fun i hi => ?_) ⟨_,_,_,_,_,_,_,fplace_0_end x m th wr s d _ _,⟨lt_false,trivial⟩,.inl ⟨rfl,rfl⟩,by rw [List.take_length]; rfl⟩
 have hin := placeF_in (turns := x.chain.turns.take i) (day := d) hs
 have hf := take_foldl (fun s t => if t ≤ d then (x.feet.length : Int) - 1 - s else s) x.chain.turns s i 0 hi
 by_cases hd : x.chain.turns.getD i 0 ≤ d
 ·rw [if_pos hd] at hf
  exact ⟨_,_,_,_,_,_,fplace_0_yes x m th wr s d _ i,⟨lt_true hi,⟨by omega,by omega⟩,by omega,decide_eq_true hd,i64_of (by omega) (by omega),i64_of (by omega) (by omega),i64_of (by omega) (by omega),trivial⟩,by unfold placeF; rw [hf]⟩
 ·rw [if_neg hd] at hf
  exact ⟨_,_,_,_,_,_,fplace_0_no x m th wr s d _ i,⟨lt_true hi,⟨by omega,by omega⟩,by omega,decide_eq_false hd,i64_of (by omega) (by omega),trivial⟩,by unfold placeF; rw [hf]⟩
theorem fold_con {x : FBook} {th : List (List Int)} {wr : List Int} (hk : KnOk x th wr) (m : Mp) (s c d : Int) (hs : 0 ≤ s ∧ s < x.feet.length) (hd : 0 ≤ d ∧ d ≤ x.chain.days) : CF 226 [fbkD x m th wr,.int .i64 s,.int .i64 c,.int .i64 d] (.int .i64 (oldF th s d)) := by
 have h1 := hk.tl
 have h2 := hk.row _ (mem_getD (i := s.toNat) [] (show s.toNat < th.length by omega))
 exact contract_of_path (GF 17) fold_fn (fold_all x m th wr s c d) ⟨by omega,⟨hd.1,by show d < ((th.getD s.toNat []).length : Int); omega⟩,by omega,trivial⟩
theorem ffresh_in {x : FBook} {th : List (List Int)} {wr : List Int} (hx : FIn x) (hk : KnOk x th wr) {s : Int} (hs : 0 ≤ s ∧ s < x.feet.length) (c : Int) : ∀ k : Nat,-(1000 * k : Int) ≤ freshF x wr s c k ∧ freshF x wr s c k ≤ 1000
 | 0 => by
  have := hx.new
  simp only [freshF]
  omega
 | k + 1 => by
  have ih := ffresh_in hx hk hs c k
  have hp := fplace_in (c + k) hs
  have hw := hk.w _ (mem_getD (i := (fplaceF x s (c + k)).toNat) 0 (by rw [hk.wl]; omega))
  simp only [freshF]
  omega
theorem ffresh_con {x : FBook} {th : List (List Int)} {wr : List Int} (hx : FIn x) (hk : KnOk x th wr) (m : Mp) (s c d : Int) (hs : 0 ≤ s ∧ s < x.feet.length) (hc : 0 ≤ c ∧ c ≤ d) (hd : d ≤ 900) : CF 227 [fbkD x m th wr,.int .i64 s,.int .i64 c,.int .i64 d] (.int .i64 (freshF x wr s c (d - c).toNat)) := by
 refine contract_of_path (GF 34) ffresh_fn (ffresh_all x m th wr s c d (freshF x wr s c (d - c).toNat) (d - c).toNat) ⟨i64_of (by omega) (by omega),?_,trivial⟩
 refine LF.each (id := 0) (c := Code.at [1,1,0,1,0,0] (body Tryd.f227)) (by kernel_rfl) (d - c).toNat (fun i => ffresh_S0 x m th wr s c d (freshF x wr s c i) i) (fun i hi => ?_) ⟨_,_,_,_,_,_,_,ffresh_0_end x m th wr s c d _ _,⟨decide_eq_false (by omega),trivial⟩,.inl ⟨rfl,rfl⟩,rfl⟩
 have h0 := ffresh_in hx hk hs c i
 have h1 := ffresh_in hx hk hs c (i + 1)
 have hp := fplace_in (c + i) hs
 have hl := hk.wl
 exact ⟨_,_,_,_,_,_,ffresh_0_on x m th wr s c d _ i (fplaceF x s (c + i)),⟨decide_eq_true (by omega),i64_of (by omega) (by omega),fplace_con hx m th wr s _ hs,⟨hp.1,by omega⟩,by omega,by simp only [freshF] at h1; exact i64_of (by omega) (by omega),i64_of (by omega) (by omega),trivial⟩,rfl⟩

/-! ### least -/
theorem flast_in {plan : List Work} {s d : Int} : ∀ (p : Int × Int),(p = (0,0) ∨ p.1 = 1 ∧ p.2 ≤ d ∧ ∃ w ∈ plan,w.d = p.2) → ∀ l : List Work,(∀ w ∈ l,w ∈ plan) → (l.foldl (lastStep s d) p = (0,0) ∨ (l.foldl (lastStep s d) p).1 = 1 ∧ (l.foldl (lastStep s d) p).2 ≤ d ∧ ∃ w ∈ plan,w.d = (l.foldl (lastStep s d) p).2)
 | p,hp,[],_ => hp
 | p,hp,w :: l,hl => by
  refine flast_in (lastStep s d p w) ?_ l (fun u hu => hl u (by simp [hu]))
  unfold lastStep
  by_cases h : w.s = s ∧ w.d ≤ d
  ·rw [if_pos h]
   exact .inr ⟨rfl,h.2,w,hl w (by simp),rfl⟩
  ·rw [if_neg h]
   exact hp
theorem last_cases (plan : List Work) (s d : Int) : lastF plan s d = (0,0) ∨ (lastF plan s d).1 = 1 ∧ (lastF plan s d).2 ≤ d ∧ ∃ w ∈ plan,w.d = (lastF plan s d).2 := flast_in (0,0) (.inl rfl) plan (fun _ h => h)
theorem fleast_con {x : FBook} {th : List (List Int)} {wr : List Int} (hx : FIn x) (hk : KnOk x th wr) (m : Mp) {plan : List Work} (hp : PlanOk x plan) (s d : Int) (hs : 0 ≤ s ∧ s < x.feet.length) (hd : 0 ≤ d ∧ d ≤ x.chain.days) :
  CF 143 [fbkD x m th wr,.sl false .work plan,.int .i64 s,.int .i64 d] (.int .i64 (fleastF x th wr plan s d)) := by
 have hdd := hx.days
 have hpl := hp.1
 have hloop : LF 40 (Code.at [1,1,0,1] (body Tryd.f143)) (fleast_S0 x m th wr plan s d 0 0 0) .normal (fleast_S0 x m th wr plan s d (lastF plan s d).1 (lastF plan s d).2 plan.length) := by
  refine LF.each (id := 0) (c := Code.at [1,1,0,1,0,0] (body Tryd.f143)) (by kernel_rfl) plan.length (fun i => fleast_S0 x m th wr plan s d ((plan.take i).foldl (lastStep s d) (0,0)).1 ((plan.take i).foldl (lastStep s d) (0,0)).2 i) (fun i hi => ?_) ⟨_,_,_,_,_,_,_,fleast_0_end x m th wr plan s d _ _ _,⟨lt_false,trivial⟩,.inl ⟨rfl,rfl⟩,by rw [List.take_length]; rfl⟩
  have hf := take_foldl (lastStep s d) plan (0,0) i work0 hi
  by_cases h1 : (plan.getD i work0).s = s
  ·have h1' : ((plan.getD i work0).s == s) = true := beq_iff_eq.2 h1
   by_cases h2 : (plan.getD i work0).d ≤ d
   ·have h2' : decide ((plan.getD i work0).d ≤ d) = true := decide_eq_true h2
    refine ⟨_,_,_,_,_,_,fleast_0_yes x m th wr plan s d _ _ i,?_,?_⟩
    ·repeat (first | exact trivial | refine ⟨by first | exact h1' | exact h2' | exact lt_true hi | omega | exact i64_of (by omega) (by omega),?_⟩)
    ·rw [hf,show lastStep s d _ _ = (1,(plan.getD i work0).d) from if_pos ⟨h1,h2⟩]
   ·have h2' : decide ((plan.getD i work0).d ≤ d) = false := decide_eq_false h2
    refine ⟨_,_,_,_,_,_,fleast_0_no2 x m th wr plan s d _ _ i,?_,?_⟩
    ·repeat (first | exact trivial | refine ⟨by first | exact h1' | exact h2' | exact lt_true hi | omega | exact i64_of (by omega) (by omega),?_⟩)
    ·rw [hf]
     unfold lastStep
     rw [if_neg (fun h => h2 h.2)]
  ·have h1' : ((plan.getD i work0).s == s) = false := beq_eq_false_iff_ne.2 h1
   refine ⟨_,_,_,_,_,_,fleast_0_no1 x m th wr plan s d _ _ i,?_,?_⟩
   ·repeat (first | exact trivial | refine ⟨by first | exact h1' | exact lt_true hi | omega | exact i64_of (by omega) (by omega),?_⟩)
   ·rw [hf]
    unfold lastStep
    rw [if_neg (fun h => h1 h.1)]
 unfold fleastF
 rcases last_cases plan s d with h | ⟨h1,h2,w,hw,h3⟩
 ·rw [h] at hloop ⊢
  rw [if_pos rfl]
  exact contract_of_path (GF 40) fleast_fn (fleast_old x m th wr plan s d (oldF th s d) 0 plan.length) ⟨hloop,by omega,fold_con hk m s 0 d hs hd,trivial⟩
 ·have hwd := (hp.2 w hw).d
  rw [h1] at hloop
  rw [if_neg (by omega)]
  exact contract_of_path (GF 40) fleast_fn (fleast_new x m th wr plan s d (freshF x wr s (lastF plan s d).2 (d - (lastF plan s d).2).toNat) (lastF plan s d).2 plan.length) ⟨hloop,by omega,ffresh_con hx hk m s _ d hs ⟨by omega,h2⟩ (by omega),trivial⟩
end Go.Di

