/- Part 21: an interpreter over plain data for this code, with the proof that it says what the model does, and the contracts of the functions. No condition. -/
import Derived.Test.YtfkmodcjddfeiaaDoorDi20
set_option linter.unusedVariables false
set_option linter.unusedSimpArgs false
namespace Go.Di
open Proofs
theorem planA_fn : FnOk PRG (MF 45) 182 (body Tryd.f182) [.tmp 4] := by refine ⟨Tryd.f182,?_,?_,?_,?_,?_⟩ <;> kernel_rfl
theorem keeps_fn : FnOk PRG (MF 36) 201 (body Tryd.f201) [.tmp 6] := by refine ⟨Tryd.f201,?_,?_,?_,?_,?_⟩ <;> kernel_rfl
theorem chA_fn : FnOk PRG (MF 39) 180 (body Tryd.f180) [.tmp 4] := by refine ⟨Tryd.f180,?_,?_,?_,?_,?_⟩ <;> kernel_rfl
theorem cmpW_fn : FnOk PRG (MF 39) 200 (body Tryd.f200) [.tmp 6] := by refine ⟨Tryd.f200,?_,?_,?_,?_,?_⟩ <;> kernel_rfl
theorem fewest_fn : FnOk PRG (MF 5) 176 (body Tryd.f176) [.cell 2 188] := by refine ⟨Tryd.f176,?_,?_,?_,?_,?_⟩ <;> kernel_rfl
theorem fewest1_fn : FnOk PRG (MF 28) 199 (body Tryd.f199) [.tmp 5] := by refine ⟨Tryd.f199,?_,?_,?_,?_,?_⟩ <;> kernel_rfl
theorem fplans_fn : FnOk PRG (MF 4) 149 (body Tryd.f149) [.tmp 2] := by refine ⟨Tryd.f149,?_,?_,?_,?_,?_⟩ <;> kernel_rfl
def planB_S2 (x : FBook) (m : Mp) (th : List (List Int)) (wr : List Int) (on : W4) (k s : Nat) (d : Int) (y : Work) (r : List Work) : List (Key × Val) :=
 [(.tmp 2,.d (D.ptr 2 0)),
  (.tmp 3,.d (D.ptr 3 0)),
  (.tmp 5,.d (.own 41 (y :: r).length)),
  (.tmp 6,.d (.int .i64 k)),
  (.tmp 7,.d (.int .i64 d)),
  (.tmp 15,.d (D.sl false E.int (FBook.opn x))),
  (.tmp 16,.d (D.int .i64 ((List.length (FBook.opn x) : Int)))),
  (.tmp 17,.d (.int .i64 k)),
  (.tmp 25,.d (D.int .i64 ((List.length (FBook.feet x) : Int)))),
  (.tmp 26,.d (.int .i64 s)),
  (.box 2,.bx (some (Box.mk false (cellsOf (fbkD x m th wr))))),
  (.box 3,.bx (some (Box.mk false [D.int .i64 (W4.a on),D.int .i64 (W4.b on),D.int .i64 (W4.c on),D.int .i64 (W4.d on)]))),
  (.obj 41,.ob (some ⟨.work,y :: r⟩))]
def planB_K2 : List Key := [.tmp 2,.tmp 3,.tmp 5,.tmp 6,.tmp 7,.tmp 15,.tmp 16,.tmp 17,.tmp 25,.tmp 26,.box 2,.box 3,.obj 41]
def planB_S0 (x : FBook) (m : Mp) (th : List (List Int)) (wr : List Int) (on : W4) (k : Nat) (y : Work) (r : List Work) : List (Key × Val) :=
 [(.tmp 2,.d (D.ptr 2 0)),
  (.tmp 3,.d (D.ptr 3 0)),
  (.tmp 5,.d (.own 41 (y :: r).length)),
  (.tmp 15,.d (D.sl false E.int (FBook.opn x))),
  (.tmp 16,.d (D.int .i64 ((List.length (FBook.opn x) : Int)))),
  (.tmp 17,.d (.int .i64 k)),
  (.box 2,.bx (some (Box.mk false (cellsOf (fbkD x m th wr))))),
  (.box 3,.bx (some (Box.mk false [D.int .i64 (W4.a on),D.int .i64 (W4.b on),D.int .i64 (W4.c on),D.int .i64 (W4.d on)]))),
  (.obj 41,.ob (some ⟨.work,y :: r⟩))]
def planB_K0 : List Key := [.tmp 2,.tmp 3,.tmp 5,.tmp 15,.tmp 16,.tmp 17,.box 2,.box 3,.obj 41]
def planA_S2 (x : FBook) (m : Mp) (th : List (List Int)) (wr : List Int) (on : W4) (k s : Nat) (d : Int) : List (Key × Val) :=
 [(.tmp 2,.d (D.ptr 2 0)),
  (.tmp 3,.d (D.ptr 3 0)),
  (.tmp 5,.d (.sl true .work [])),
  (.tmp 6,.d (.int .i64 k)),
  (.tmp 7,.d (.int .i64 d)),
  (.tmp 15,.d (D.sl false E.int (FBook.opn x))),
  (.tmp 16,.d (D.int .i64 ((List.length (FBook.opn x) : Int)))),
  (.tmp 17,.d (.int .i64 k)),
  (.tmp 25,.d (D.int .i64 ((List.length (FBook.feet x) : Int)))),
  (.tmp 26,.d (.int .i64 s)),
  (.box 2,.bx (some (Box.mk false (cellsOf (fbkD x m th wr))))),
  (.box 3,.bx (some (Box.mk false [D.int .i64 (W4.a on),D.int .i64 (W4.b on),D.int .i64 (W4.c on),D.int .i64 (W4.d on)]))),
  (.obj 41,.ob none)]
def planA_K2 : List Key := [.tmp 2,.tmp 3,.tmp 5,.tmp 6,.tmp 7,.tmp 15,.tmp 16,.tmp 17,.tmp 25,.tmp 26,.box 2,.box 3,.obj 41]
def planA_S0 (x : FBook) (m : Mp) (th : List (List Int)) (wr : List Int) (on : W4) (k : Nat) : List (Key × Val) :=
 [(.tmp 2,.d (D.ptr 2 0)),
  (.tmp 3,.d (D.ptr 3 0)),
  (.tmp 5,.d (.sl true .work [])),
  (.tmp 15,.d (D.sl false E.int (FBook.opn x))),
  (.tmp 16,.d (D.int .i64 ((List.length (FBook.opn x) : Int)))),
  (.tmp 17,.d (.int .i64 k)),
  (.box 2,.bx (some (Box.mk false (cellsOf (fbkD x m th wr))))),
  (.box 3,.bx (some (Box.mk false [D.int .i64 (W4.a on),D.int .i64 (W4.b on),D.int .i64 (W4.c on),D.int .i64 (W4.d on)]))),
  (.obj 41,.ob none)]
def planA_K0 : List Key := [.tmp 2,.tmp 3,.tmp 5,.tmp 15,.tmp 16,.tmp 17,.box 2,.box 3,.obj 41]
def keeps_R2 (x : FBook) (m : Mp) (th : List (List Int)) (wr : List Int) (s : Nat) (set : Int)  : List (Key × Val) :=
 [(.tmp 1,.d (D.int .i64 (s : Int))),
  (.tmp 2,.d (D.int .i64 set)),
  (.tmp 3,.d (D.ptr 3 0)),
  (.tmp 7,.d (D.ptr 7 0)),
  (.box 3,.bx (some (Box.mk false (cellsOf (fbkD x m th wr))))),
  (.box 7,.bx (some (Box.mk false [D.int .i64 0,D.int .i64 0,D.int .i64 0,D.int .i64 0])))]
def keeps_RK2 : List Key := [.tmp 1,.tmp 2,.tmp 3,.tmp 7,.box 3,.box 7]
def keeps_RO2 : List Key := [.tmp 1,.tmp 3,.tmp 7,.box 3,.box 7]
def keeps_RS2 (x : FBook) (m : Mp) (th : List (List Int)) (wr : List Int) (s : Nat) (set : Int)   : List (Key × Val) :=
 [(.tmp 1,.d (D.int .i64 (s : Int))),
  (.tmp 3,.d (D.ptr 3 0)),
  (.tmp 7,.d (D.ptr 7 0)),
  (.box 3,.bx (some (Box.mk false (cellsOf (fbkD x m th wr))))),
  (.box 7,.bx (some ⟨false,cellsOf (setsD (zeroW.set s set))⟩))]
def chB_S2 (x : FBook) (m : Mp) (th : List (List Int)) (wr : List Int) (s : Nat) (i j : Nat) (y : Int) (r : List Int) : List (Key × Val) :=
 [(.tmp 1,.d (D.int .i64 (s : Int))),
  (.tmp 2,.d (D.ptr 2 0)),
  (.tmp 5,.d (.own 36 (y :: r).length)),
  (.tmp 6,.d (.int .i64 i)),
  (.tmp 13,.d (D.int .i64 ((1 : Int) * (2 : Int) ^ Min.min (Int.toNat ((List.length (FBook.opn x) : Int))) 64))),
  (.tmp 14,.d (.int .i64 i)),
  (.tmp 17,.d (.own 36 (y :: r).length)),
  (.tmp 18,.d (.int .i64 (y :: r).length)),
  (.tmp 19,.d (.int .i64 j)),
  (.box 2,.bx (some (Box.mk false (cellsOf (fbkD x m th wr))))),
  (.obj 36,.ob (some ⟨.int,y :: r⟩))]
def chB_K2 : List Key := [.tmp 1,.tmp 2,.tmp 5,.tmp 6,.tmp 13,.tmp 14,.tmp 17,.tmp 18,.tmp 19,.box 2,.obj 36]
def chB_S0 (x : FBook) (m : Mp) (th : List (List Int)) (wr : List Int) (s : Nat) (i : Nat) (y : Int) (r : List Int) : List (Key × Val) :=
 [(.tmp 1,.d (D.int .i64 (s : Int))),
  (.tmp 2,.d (D.ptr 2 0)),
  (.tmp 5,.d (.own 36 (y :: r).length)),
  (.tmp 13,.d (D.int .i64 ((1 : Int) * (2 : Int) ^ Min.min (Int.toNat ((List.length (FBook.opn x) : Int))) 64))),
  (.tmp 14,.d (.int .i64 i)),
  (.box 2,.bx (some (Box.mk false (cellsOf (fbkD x m th wr))))),
  (.obj 36,.ob (some ⟨.int,y :: r⟩))]
def chB_K0 : List Key := [.tmp 1,.tmp 2,.tmp 5,.tmp 13,.tmp 14,.box 2,.obj 36]
def chA_S2 (x : FBook) (m : Mp) (th : List (List Int)) (wr : List Int) (s : Nat) (i : Nat) : List (Key × Val) :=
 [(.tmp 1,.d (D.int .i64 (s : Int))),
  (.tmp 2,.d (D.ptr 2 0)),
  (.tmp 5,.d (.sl true .int [])),
  (.tmp 6,.d (.int .i64 i)),
  (.tmp 13,.d (D.int .i64 ((1 : Int) * (2 : Int) ^ Min.min (Int.toNat ((List.length (FBook.opn x) : Int))) 64))),
  (.tmp 14,.d (.int .i64 i)),
  (.tmp 17,.d (.sl true .int [])),
  (.tmp 18,.d (.int .i64 0)),
  (.tmp 19,.d (.int .i64 0)),
  (.box 2,.bx (some (Box.mk false (cellsOf (fbkD x m th wr))))),
  (.obj 36,.ob none)]
def chA_K2 : List Key := [.tmp 1,.tmp 2,.tmp 5,.tmp 6,.tmp 13,.tmp 14,.tmp 17,.tmp 18,.tmp 19,.box 2,.obj 36]
def chA_S0 (x : FBook) (m : Mp) (th : List (List Int)) (wr : List Int) (s : Nat) (i : Nat) : List (Key × Val) :=
 [(.tmp 1,.d (D.int .i64 (s : Int))),
  (.tmp 2,.d (D.ptr 2 0)),
  (.tmp 5,.d (.sl true .int [])),
  (.tmp 13,.d (D.int .i64 ((1 : Int) * (2 : Int) ^ Min.min (Int.toNat ((List.length (FBook.opn x) : Int))) 64))),
  (.tmp 14,.d (.int .i64 i)),
  (.box 2,.bx (some (Box.mk false (cellsOf (fbkD x m th wr))))),
  (.obj 36,.ob none)]
def chA_K0 : List Key := [.tmp 1,.tmp 2,.tmp 5,.tmp 13,.tmp 14,.box 2,.obj 36]
def cmpW_S0 (p q : List Work) (i : Nat) : List (Key × Val) :=
 [(.tmp 0,.d (D.sl false E.work p)),
  (.tmp 1,.d (D.sl false E.work q)),
  (.tmp 2,.d (D.fn 177 [] [])),
  (.tmp 11,.d (D.sl false E.work p)),
  (.tmp 12,.d (D.int .i64 ((List.length p : Int)))),
  (.tmp 13,.d (.int .i64 i))]
def cmpW_K0 : List Key := [.tmp 0,.tmp 1,.tmp 2,.tmp 11,.tmp 12,.tmp 13]
def keeps_S0 (x : FBook) (m : Mp) (th : List (List Int)) (wr : List Int) (s : Nat) (set : Int) (plan : List Work) (i : Nat) : List (Key × Val) :=
 [(.tmp 1,.d (D.int .i64 (s : Int))),
  (.tmp 3,.d (D.ptr 3 0)),
  (.tmp 8,.d (D.sl false E.work plan)),
  (.tmp 21,.d (D.int .i64 (Book.days (FBook.chain x) + (1 : Int)))),
  (.tmp 22,.d (.int .i64 i)),
  (.box 3,.bx (some (Box.mk false (cellsOf (fbkD x m th wr)))))]
def keeps_K0 : List Key := [.tmp 1,.tmp 3,.tmp 8,.tmp 21,.tmp 22,.box 3]
def keeps_T0_hit (x : FBook) (m : Mp) (th : List (List Int)) (wr : List Int) (s : Nat) (set : Int) (plan : List Work) (i : Nat) (v : Int) : List (Key × Val) :=
 [(.tmp 1,.d (D.int .i64 (s : Int))),(.tmp 3,.d (D.ptr 3 0)),(.tmp 8,.d (D.sl false E.work plan)),(.tmp 21,.d (D.int .i64 (Book.days (FBook.chain x) + (1 : Int)))),(.tmp 22,.d (D.int .i64 (i : Int))),(.box 3,.bx (some (Box.mk false (cellsOf (fbkD x m th wr))))),(.tmp 6,.d (D.bool false))]
def cmpW_T0_long (p q : List Work) (i : Nat)  : List (Key × Val) :=
 [(.tmp 0,.d (D.sl false E.work p)),(.tmp 1,.d (D.sl false E.work q)),(.tmp 2,.d (D.fn 177 [] [])),(.tmp 11,.d (D.sl false E.work p)),(.tmp 12,.d (D.int .i64 ((List.length p : Int)))),(.tmp 13,.d (D.int .i64 (i : Int))),(.tmp 6,.d (D.int .i64 1))]
def cmpW_T0_ne (p q : List Work) (i : Nat) (c : Int) : List (Key × Val) :=
 [(.tmp 0,.d (D.sl false E.work p)),(.tmp 1,.d (D.sl false E.work q)),(.tmp 2,.d (D.fn 177 [] [])),(.tmp 11,.d (D.sl false E.work p)),(.tmp 12,.d (D.int .i64 ((List.length p : Int)))),(.tmp 13,.d (D.int .i64 (i : Int))),(.tmp 6,.d (D.int .i64 c))]
theorem planB_2_yes (x : FBook) (m : Mp) (th : List (List Int)) (wr : List Int) (on : W4) (k s : Nat) (d : Int) (y : Work) (r : List Work) :
  runK (MF 45) [(27,true),(35,true)] [] [] (Code.at [1,1,1,0,1,0,0,1,1,0,0,1,1,0,0] (body Tryd.f182)) (planB_S2 x m th wr on k s d y r) planB_K2 =
   some ([decide ((s : Int) < (List.length (FBook.feet x) : Int)) = true,(0 : Int) ≤ (s : Int) ∧ (s : Int) < (Nat.cast : Nat → Int) 4,0 + s * 1 + 1 ≤ 4,(0 : Int) ≤ (k : Int),(IntKind.wrap .i64 ((Nat.cast : Nat → Int) (BitVec.toNat (BitVec.ofInt 64 (Int.fdiv (List.getD [W4.a on,W4.b on,W4.c on,W4.d on] (0 + s * 1) (0 : Int)) ((2 : Int) ^ Min.min (k) 64)) &&& BitVec.ofInt 64 (1 : Int)))) == (1 : Int)) = true,List.length (y :: r) = List.length ((y :: r)),List.length ((y :: r) ++ [Work.mk d ((s : Int))]) * (16 + 1) ≤ 140737488355328,inI64 ((s : Int) + (1 : Int))],Ex.normal,planB_S2 x m th wr on k (s + 1) d y (r ++ [⟨d,(s : Int)⟩])) := by kernel_rfl
theorem planB_2_no (x : FBook) (m : Mp) (th : List (List Int)) (wr : List Int) (on : W4) (k s : Nat) (d : Int) (y : Work) (r : List Work) :
  runK (MF 45) [(27,true),(35,false)] [] [] (Code.at [1,1,1,0,1,0,0,1,1,0,0,1,1,0,0] (body Tryd.f182)) (planB_S2 x m th wr on k s d y r) planB_K2 =
   some ([decide ((s : Int) < (List.length (FBook.feet x) : Int)) = true,(0 : Int) ≤ (s : Int) ∧ (s : Int) < (Nat.cast : Nat → Int) 4,0 + s * 1 + 1 ≤ 4,(0 : Int) ≤ (k : Int),(IntKind.wrap .i64 ((Nat.cast : Nat → Int) (BitVec.toNat (BitVec.ofInt 64 (Int.fdiv (List.getD [W4.a on,W4.b on,W4.c on,W4.d on] (0 + s * 1) (0 : Int)) ((2 : Int) ^ Min.min (k) 64)) &&& BitVec.ofInt 64 (1 : Int)))) == (1 : Int)) = false,inI64 ((s : Int) + (1 : Int))],Ex.normal,planB_S2 x m th wr on k (s + 1) d y r) := by kernel_rfl
theorem planB_2_end (x : FBook) (m : Mp) (th : List (List Int)) (wr : List Int) (on : W4) (k s : Nat) (d : Int) (y : Work) (r : List Work) :
  runK (MF 45) [(27,false)] [] [] (Code.at [1,1,1,0,1,0,0,1,1,0,0,1,1,0,0] (body Tryd.f182)) (planB_S2 x m th wr on k s d y r) planB_K2 =
   some ([decide ((s : Int) < (List.length (FBook.feet x) : Int)) = false],Ex.exit 2,planB_S2 x m th wr on k s d y r) := by kernel_rfl
theorem planB_0_on (x : FBook) (m : Mp) (th : List (List Int)) (wr : List Int) (on : W4) (k : Nat) (y : Work) (r : List Work) (s : Nat) (z : Work) (q : List Work) :
  runK (MF 45) [(18,true)] [] [(2,(planB_K2,(.normal,planB_S2 x m th wr on k s (x.opn.getD k 0) z q)))] (Code.at [1,1,1,0,1,0,0] (body Tryd.f182)) (planB_S0 x m th wr on k y r) planB_K0 =
   some ([decide ((k : Int) < (List.length (FBook.opn x) : Int)) = true,(0 : Int) ≤ (k : Int) ∧ (k : Int) < (List.length (FBook.opn x) : Int),0 + 1 ≤ 1,LF 45 (Code.at [1,1,1,0,1,0,0,1,1,0,0,1,1] (body Tryd.f182)) [(.tmp 2,.d (D.ptr 2 0)),(.tmp 3,.d (D.ptr 3 0)),(.tmp 5,.d (D.own 41 (List.length (y :: r)))),(.tmp 6,.d (D.int .i64 (k : Int))),(.tmp 7,.d (D.int .i64 (List.getD (FBook.opn x) (k) (0 : Int)))),(.tmp 15,.d (D.sl false E.int (FBook.opn x))),(.tmp 16,.d (D.int .i64 ((List.length (FBook.opn x) : Int)))),(.tmp 17,.d (D.int .i64 (k : Int))),(.tmp 25,.d (D.int .i64 ((List.length (FBook.feet x) : Int)))),(.tmp 26,.d (D.int .i64 0)),(.box 2,.bx (some (Box.mk false (cellsOf (fbkD x m th wr))))),(.box 3,.bx (some (Box.mk false [D.int .i64 (W4.a on),D.int .i64 (W4.b on),D.int .i64 (W4.c on),D.int .i64 (W4.d on)]))),(.obj 41,.ob (some (Ob.mk E.work (y :: r))))] Ex.normal (planB_S2 x m th wr on k s (List.getD (FBook.opn x) k (0 : Int)) z q),inI64 ((k : Int) + (1 : Int))],Ex.normal,planB_S0 x m th wr on (k + 1) z q) := by kernel_rfl
theorem planB_0_end (x : FBook) (m : Mp) (th : List (List Int)) (wr : List Int) (on : W4) (k : Nat) (y : Work) (r : List Work) :
  runK (MF 45) [(18,false)] [] [] (Code.at [1,1,1,0,1,0,0] (body Tryd.f182)) (planB_S0 x m th wr on k y r) planB_K0 =
   some ([decide ((k : Int) < (List.length (FBook.opn x) : Int)) = false],Ex.exit 0,planB_S0 x m th wr on k y r) := by kernel_rfl
theorem planA_2_yes (x : FBook) (m : Mp) (th : List (List Int)) (wr : List Int) (on : W4) (k s : Nat) (d : Int) :
  runK (MF 45) [(27,true),(35,true)] [] [] (Code.at [1,1,1,0,1,0,0,1,1,0,0,1,1,0,0] (body Tryd.f182)) (planA_S2 x m th wr on k s d) planB_K2 =
   some ([decide ((s : Int) < (List.length (FBook.feet x) : Int)) = true,(0 : Int) ≤ (s : Int) ∧ (s : Int) < (Nat.cast : Nat → Int) 4,0 + s * 1 + 1 ≤ 4,(0 : Int) ≤ (k : Int),(IntKind.wrap .i64 ((Nat.cast : Nat → Int) (BitVec.toNat (BitVec.ofInt 64 (Int.fdiv (List.getD [W4.a on,W4.b on,W4.c on,W4.d on] (0 + s * 1) (0 : Int)) ((2 : Int) ^ Min.min (k) 64)) &&& BitVec.ofInt 64 (1 : Int)))) == (1 : Int)) = true,1 * (16 + 1) ≤ 140737488355328,inI64 ((s : Int) + (1 : Int))],Ex.normal,planB_S2 x m th wr on k (s + 1) d ⟨d,(s : Int)⟩ []) := by kernel_rfl
theorem planA_2_no (x : FBook) (m : Mp) (th : List (List Int)) (wr : List Int) (on : W4) (k s : Nat) (d : Int) :
  runK (MF 45) [(27,true),(35,false)] [] [] (Code.at [1,1,1,0,1,0,0,1,1,0,0,1,1,0,0] (body Tryd.f182)) (planA_S2 x m th wr on k s d) planA_K2 =
   some ([decide ((s : Int) < (List.length (FBook.feet x) : Int)) = true,(0 : Int) ≤ (s : Int) ∧ (s : Int) < (Nat.cast : Nat → Int) 4,0 + s * 1 + 1 ≤ 4,(0 : Int) ≤ (k : Int),(IntKind.wrap .i64 ((Nat.cast : Nat → Int) (BitVec.toNat (BitVec.ofInt 64 (Int.fdiv (List.getD [W4.a on,W4.b on,W4.c on,W4.d on] (0 + s * 1) (0 : Int)) ((2 : Int) ^ Min.min (k) 64)) &&& BitVec.ofInt 64 (1 : Int)))) == (1 : Int)) = false,inI64 ((s : Int) + (1 : Int))],Ex.normal,planA_S2 x m th wr on k (s + 1) d) := by kernel_rfl
theorem planA_2_end (x : FBook) (m : Mp) (th : List (List Int)) (wr : List Int) (on : W4) (k s : Nat) (d : Int) :
  runK (MF 45) [(27,false)] [] [] (Code.at [1,1,1,0,1,0,0,1,1,0,0,1,1,0,0] (body Tryd.f182)) (planA_S2 x m th wr on k s d) planA_K2 =
   some ([decide ((s : Int) < (List.length (FBook.feet x) : Int)) = false],Ex.exit 2,planA_S2 x m th wr on k s d) := by kernel_rfl
theorem planA_0_on (x : FBook) (m : Mp) (th : List (List Int)) (wr : List Int) (on : W4) (k : Nat) (s : Nat) :
  runK (MF 45) [(18,true)] [] [(2,(planA_K2,(.normal,planA_S2 x m th wr on k s (x.opn.getD k 0))))] (Code.at [1,1,1,0,1,0,0] (body Tryd.f182)) (planA_S0 x m th wr on k) planA_K0 =
   some ([decide ((k : Int) < (List.length (FBook.opn x) : Int)) = true,(0 : Int) ≤ (k : Int) ∧ (k : Int) < (List.length (FBook.opn x) : Int),0 + 1 ≤ 1,LF 45 (Code.at [1,1,1,0,1,0,0,1,1,0,0,1,1] (body Tryd.f182)) [(.tmp 2,.d (D.ptr 2 0)),(.tmp 3,.d (D.ptr 3 0)),(.tmp 5,.d (D.sl true E.work [])),(.tmp 6,.d (D.int .i64 (k : Int))),(.tmp 7,.d (D.int .i64 (List.getD (FBook.opn x) (k) (0 : Int)))),(.tmp 15,.d (D.sl false E.int (FBook.opn x))),(.tmp 16,.d (D.int .i64 ((List.length (FBook.opn x) : Int)))),(.tmp 17,.d (D.int .i64 (k : Int))),(.tmp 25,.d (D.int .i64 ((List.length (FBook.feet x) : Int)))),(.tmp 26,.d (D.int .i64 0)),(.box 2,.bx (some (Box.mk false (cellsOf (fbkD x m th wr))))),(.box 3,.bx (some (Box.mk false [D.int .i64 (W4.a on),D.int .i64 (W4.b on),D.int .i64 (W4.c on),D.int .i64 (W4.d on)]))),(.obj 41,.ob Option.none)] Ex.normal (planA_S2 x m th wr on k s (List.getD (FBook.opn x) k (0 : Int))),inI64 ((k : Int) + (1 : Int))],Ex.normal,planA_S0 x m th wr on (k + 1)) := by kernel_rfl
theorem planA_0_end (x : FBook) (m : Mp) (th : List (List Int)) (wr : List Int) (on : W4) (k : Nat) :
  runK (MF 45) [(18,false)] [] [] (Code.at [1,1,1,0,1,0,0] (body Tryd.f182)) (planA_S0 x m th wr on k) planA_K0 =
   some ([decide ((k : Int) < (List.length (FBook.opn x) : Int)) = false],Ex.exit 0,planA_S0 x m th wr on k) := by kernel_rfl
theorem planA_0_new (x : FBook) (m : Mp) (th : List (List Int)) (wr : List Int) (on : W4) (k : Nat) (s : Nat) (y : Work) (r : List Work) :
  runK (MF 45) [(18,true)] [] [(2,(planA_K2,(.normal,planB_S2 x m th wr on k s (x.opn.getD k 0) y r)))] (Code.at [1,1,1,0,1,0,0] (body Tryd.f182)) (planA_S0 x m th wr on k) planB_K0 =
   some ([decide ((k : Int) < (List.length (FBook.opn x) : Int)) = true,(0 : Int) ≤ (k : Int) ∧ (k : Int) < (List.length (FBook.opn x) : Int),0 + 1 ≤ 1,LF 45 (Code.at [1,1,1,0,1,0,0,1,1,0,0,1,1] (body Tryd.f182)) [(.tmp 2,.d (D.ptr 2 0)),(.tmp 3,.d (D.ptr 3 0)),(.tmp 5,.d (D.sl true E.work [])),(.tmp 6,.d (D.int .i64 (k : Int))),(.tmp 7,.d (D.int .i64 (List.getD (FBook.opn x) (k) (0 : Int)))),(.tmp 15,.d (D.sl false E.int (FBook.opn x))),(.tmp 16,.d (D.int .i64 ((List.length (FBook.opn x) : Int)))),(.tmp 17,.d (D.int .i64 (k : Int))),(.tmp 25,.d (D.int .i64 ((List.length (FBook.feet x) : Int)))),(.tmp 26,.d (D.int .i64 0)),(.box 2,.bx (some (Box.mk false (cellsOf (fbkD x m th wr))))),(.box 3,.bx (some (Box.mk false [D.int .i64 (W4.a on),D.int .i64 (W4.b on),D.int .i64 (W4.c on),D.int .i64 (W4.d on)]))),(.obj 41,.ob Option.none)] Ex.normal (planB_S2 x m th wr on k s (List.getD (FBook.opn x) k (0 : Int)) y r),inI64 ((k : Int) + (1 : Int))],Ex.normal,planB_S0 x m th wr on (k + 1) y r) := by kernel_rfl
theorem keeps_0_on (x : FBook) (m : Mp) (th : List (List Int)) (wr : List Int) (s : Nat) (set : Int) (plan : List Work) (i : Nat) (v : Int) :
  runK (MF 36) [(23,true),(34,false)] [(29,.int .i64 v)] [] (Code.at [1,1,1,1,0,1,0,0] (body Tryd.f201)) (keeps_S0 x m th wr s set plan i) keeps_K0 =
   some ([decide ((i : Int) < Book.days (FBook.chain x) + (1 : Int)) = true,CF 143 [fbkD x m th wr,D.sl false E.work plan,D.int .i64 (s : Int),D.int .i64 (i : Int)] (D.int .i64 v),decide (v < Book.rule (FBook.chain x)) = false,inI64 ((i : Int) + (1 : Int))],Ex.normal,keeps_S0 x m th wr s set plan (i + 1)) := by kernel_rfl
theorem keeps_0_hit (x : FBook) (m : Mp) (th : List (List Int)) (wr : List Int) (s : Nat) (set : Int) (plan : List Work) (i : Nat) (v : Int) :
  runK (MF 36) [(23,true),(34,true)] [(29,.int .i64 v)] [] (Code.at [1,1,1,1,0,1,0,0] (body Tryd.f201)) (keeps_S0 x m th wr s set plan i) [.tmp 1,.tmp 3,.tmp 8,.tmp 21,.tmp 22,.box 3,.tmp 6] =
   some ([decide ((i : Int) < Book.days (FBook.chain x) + (1 : Int)) = true,CF 143 [fbkD x m th wr,D.sl false E.work plan,D.int .i64 (s : Int),D.int .i64 (i : Int)] (D.int .i64 v),decide (v < Book.rule (FBook.chain x)) = true],Ex.ret,keeps_T0_hit x m th wr s set plan i v) := by kernel_rfl
theorem keeps_0_end (x : FBook) (m : Mp) (th : List (List Int)) (wr : List Int) (s : Nat) (set : Int) (plan : List Work) (i : Nat) :
  runK (MF 36) [(23,false)] [] [] (Code.at [1,1,1,1,0,1,0,0] (body Tryd.f201)) (keeps_S0 x m th wr s set plan i) keeps_K0 =
   some ([decide ((i : Int) < Book.days (FBook.chain x) + (1 : Int)) = false],Ex.exit 0,keeps_S0 x m th wr s set plan i) := by kernel_rfl
theorem chB_2_on (x : FBook) (m : Mp) (th : List (List Int)) (wr : List Int) (s : Nat) (i j : Nat) (y : Int) (r : List Int) :
  runK (MF 39) [(20,true),(27,false)] [] [] (Code.at [1,0,1,1,0,1,0,0,1,1,0,0,1,0,1,0,0] (body Tryd.f180)) (chB_S2 x m th wr s i j y r) chB_K2 =
   some ([decide ((j : Int) < (List.length (y :: r) : Int)) = true,List.length (y :: r) = List.length ((y :: r)),(0 : Int) ≤ (j : Int) ∧ (j : Int) < (List.length ((y :: r)) : Int),0 + 1 ≤ 1,(IntKind.wrap .i64 ((Nat.cast : Nat → Int) (BitVec.toNat (BitVec.ofInt 64 ((i : Int)) &&& BitVec.ofInt 64 (List.getD ((y :: r)) (j) (E.z (Ob.e (Ob.mk E.int (y :: r)))))))) == List.getD ((y :: r)) (j) (E.z (Ob.e (Ob.mk E.int (y :: r))))) = false,inI64 ((j : Int) + (1 : Int))],Ex.normal,chB_S2 x m th wr s i (j + 1) y r) := by kernel_rfl
theorem chB_2_hit (x : FBook) (m : Mp) (th : List (List Int)) (wr : List Int) (s : Nat) (i j : Nat) (y : Int) (r : List Int) :
  runK (MF 39) [(20,true),(27,true)] [] [] (Code.at [1,0,1,1,0,1,0,0,1,1,0,0,1,0,1,0,0] (body Tryd.f180)) (chB_S2 x m th wr s i j y r) chB_K2 =
   some ([decide ((j : Int) < (List.length (y :: r) : Int)) = true,List.length (y :: r) = List.length ((y :: r)),(0 : Int) ≤ (j : Int) ∧ (j : Int) < (List.length ((y :: r)) : Int),0 + 1 ≤ 1,(IntKind.wrap .i64 ((Nat.cast : Nat → Int) (BitVec.toNat (BitVec.ofInt 64 ((i : Int)) &&& BitVec.ofInt 64 (List.getD ((y :: r)) (j) (E.z (Ob.e (Ob.mk E.int (y :: r)))))))) == List.getD ((y :: r)) (j) (E.z (Ob.e (Ob.mk E.int (y :: r))))) = true],Ex.exit 1,chB_S2 x m th wr s i j y r) := by kernel_rfl
theorem chB_2_end (x : FBook) (m : Mp) (th : List (List Int)) (wr : List Int) (s : Nat) (i j : Nat) (y : Int) (r : List Int) :
  runK (MF 39) [(20,false)] [] [] (Code.at [1,0,1,1,0,1,0,0,1,1,0,0,1,0,1,0,0] (body Tryd.f180)) (chB_S2 x m th wr s i j y r) chB_K2 =
   some ([decide ((j : Int) < (List.length (y :: r) : Int)) = false],Ex.exit 2,chB_S2 x m th wr s i j y r) := by kernel_rfl
theorem chB_0_skip (x : FBook) (m : Mp) (th : List (List Int)) (wr : List Int) (s : Nat) (i : Nat) (y : Int) (r : List Int) (j : Nat) :
  runK (MF 39) [(15,true)] [] [(2,(chB_K2,(.exit 1,chB_S2 x m th wr s i j y r)))] (Code.at [1,0,1,1,0,1,0,0] (body Tryd.f180)) (chB_S0 x m th wr s i y r) chB_K0 =
   some ([decide ((i : Int) < (1 : Int) * (2 : Int) ^ Min.min (Int.toNat ((List.length (FBook.opn x) : Int))) 64) = true,List.length (y :: r) = List.length ((y :: r)),LF 39 (Code.at [1,0,1,1,0,1,0,0,1,1,0,0,1,0,1] (body Tryd.f180)) [(.tmp 1,.d (D.int .i64 (s : Int))),(.tmp 2,.d (D.ptr 2 0)),(.tmp 5,.d (D.own 36 (List.length (y :: r)))),(.tmp 6,.d (D.int .i64 (i : Int))),(.tmp 13,.d (D.int .i64 ((1 : Int) * (2 : Int) ^ Min.min (Int.toNat ((List.length (FBook.opn x) : Int))) 64))),(.tmp 14,.d (D.int .i64 (i : Int))),(.tmp 17,.d (D.own 36 (List.length (y :: r)))),(.tmp 18,.d (D.int .i64 ((List.length ((y :: r)) : Int)))),(.tmp 19,.d (D.int .i64 0)),(.box 2,.bx (some (Box.mk false (cellsOf (fbkD x m th wr))))),(.obj 36,.ob (some (Ob.mk E.int (y :: r))))] (Ex.exit 1) (chB_S2 x m th wr s i j y r),inI64 ((i : Int) + (1 : Int))],Ex.normal,chB_S0 x m th wr s (i + 1) y r) := by kernel_rfl
theorem chB_0_no (x : FBook) (m : Mp) (th : List (List Int)) (wr : List Int) (s : Nat) (i : Nat) (y : Int) (r : List Int) (j : Nat) (b : Bool) :
  runK (MF 39) [(15,true),(32,false)] [(32,.bool b)] [(2,(chB_K2,(.normal,chB_S2 x m th wr s i j y r)))] (Code.at [1,0,1,1,0,1,0,0] (body Tryd.f180)) (chB_S0 x m th wr s i y r) chB_K0 =
   some ([decide ((i : Int) < (1 : Int) * (2 : Int) ^ Min.min (Int.toNat ((List.length (FBook.opn x) : Int))) 64) = true,List.length (y :: r) = List.length ((y :: r)),LF 39 (Code.at [1,0,1,1,0,1,0,0,1,1,0,0,1,0,1] (body Tryd.f180)) [(.tmp 1,.d (D.int .i64 (s : Int))),(.tmp 2,.d (D.ptr 2 0)),(.tmp 5,.d (D.own 36 (List.length (y :: r)))),(.tmp 6,.d (D.int .i64 (i : Int))),(.tmp 13,.d (D.int .i64 ((1 : Int) * (2 : Int) ^ Min.min (Int.toNat ((List.length (FBook.opn x) : Int))) 64))),(.tmp 14,.d (D.int .i64 (i : Int))),(.tmp 17,.d (D.own 36 (List.length (y :: r)))),(.tmp 18,.d (D.int .i64 ((List.length ((y :: r)) : Int)))),(.tmp 19,.d (D.int .i64 0)),(.box 2,.bx (some (Box.mk false (cellsOf (fbkD x m th wr))))),(.obj 36,.ob (some (Ob.mk E.int (y :: r))))] Ex.normal (chB_S2 x m th wr s i j y r),CF 201 [fbkD x m th wr,D.int .i64 (s : Int),D.int .i64 (i : Int)] (D.bool b),b = false,inI64 ((i : Int) + (1 : Int))],Ex.normal,chB_S0 x m th wr s (i + 1) y r) := by kernel_rfl
theorem chB_0_yes (x : FBook) (m : Mp) (th : List (List Int)) (wr : List Int) (s : Nat) (i : Nat) (y : Int) (r : List Int) (j : Nat) (b : Bool) :
  runK (MF 39) [(15,true),(32,true)] [(32,.bool b)] [(2,(chB_K2,(.normal,chB_S2 x m th wr s i j y r)))] (Code.at [1,0,1,1,0,1,0,0] (body Tryd.f180)) (chB_S0 x m th wr s i y r) chB_K0 =
   some ([decide ((i : Int) < (1 : Int) * (2 : Int) ^ Min.min (Int.toNat ((List.length (FBook.opn x) : Int))) 64) = true,List.length (y :: r) = List.length ((y :: r)),LF 39 (Code.at [1,0,1,1,0,1,0,0,1,1,0,0,1,0,1] (body Tryd.f180)) [(.tmp 1,.d (D.int .i64 (s : Int))),(.tmp 2,.d (D.ptr 2 0)),(.tmp 5,.d (D.own 36 (List.length (y :: r)))),(.tmp 6,.d (D.int .i64 (i : Int))),(.tmp 13,.d (D.int .i64 ((1 : Int) * (2 : Int) ^ Min.min (Int.toNat ((List.length (FBook.opn x) : Int))) 64))),(.tmp 14,.d (D.int .i64 (i : Int))),(.tmp 17,.d (D.own 36 (List.length (y :: r)))),(.tmp 18,.d (D.int .i64 ((List.length ((y :: r)) : Int)))),(.tmp 19,.d (D.int .i64 0)),(.box 2,.bx (some (Box.mk false (cellsOf (fbkD x m th wr))))),(.obj 36,.ob (some (Ob.mk E.int (y :: r))))] Ex.normal (chB_S2 x m th wr s i j y r),CF 201 [fbkD x m th wr,D.int .i64 (s : Int),D.int .i64 (i : Int)] (D.bool b),b = true,List.length (y :: r) = List.length ((y :: r)),List.length ((y :: r) ++ [(i : Int)]) * (8 + 1) ≤ 140737488355328,inI64 ((i : Int) + (1 : Int))],Ex.normal,chB_S0 x m th wr s (i + 1) y (r ++ [(i : Int)])) := by kernel_rfl
theorem chB_0_end (x : FBook) (m : Mp) (th : List (List Int)) (wr : List Int) (s : Nat) (i : Nat) (y : Int) (r : List Int) :
  runK (MF 39) [(15,false)] [] [] (Code.at [1,0,1,1,0,1,0,0] (body Tryd.f180)) (chB_S0 x m th wr s i y r) chB_K0 =
   some ([decide ((i : Int) < (1 : Int) * (2 : Int) ^ Min.min (Int.toNat ((List.length (FBook.opn x) : Int))) 64) = false],Ex.exit 0,chB_S0 x m th wr s i y r) := by kernel_rfl
theorem chA_2_end (x : FBook) (m : Mp) (th : List (List Int)) (wr : List Int) (s : Nat) (i : Nat) :
  runK (MF 39) [(20,false)] [] [] (Code.at [1,0,1,1,0,1,0,0,1,1,0,0,1,0,1,0,0] (body Tryd.f180)) (chA_S2 x m th wr s i) chA_K2 =
   some ([decide ((0 : Int) < (0 : Int)) = false],Ex.exit 2,chA_S2 x m th wr s i) := by kernel_rfl
theorem chA_0_no (x : FBook) (m : Mp) (th : List (List Int)) (wr : List Int) (s : Nat) (i : Nat) (b : Bool) :
  runK (MF 39) [(15,true),(32,false)] [(32,.bool b)] [(2,(chA_K2,(.normal,chA_S2 x m th wr s i)))] (Code.at [1,0,1,1,0,1,0,0] (body Tryd.f180)) (chA_S0 x m th wr s i) chA_K0 =
   some ([decide ((i : Int) < (1 : Int) * (2 : Int) ^ Min.min (Int.toNat ((List.length (FBook.opn x) : Int))) 64) = true,LF 39 (Code.at [1,0,1,1,0,1,0,0,1,1,0,0,1,0,1] (body Tryd.f180)) [(.tmp 1,.d (D.int .i64 (s : Int))),(.tmp 2,.d (D.ptr 2 0)),(.tmp 5,.d (D.sl true E.int [])),(.tmp 6,.d (D.int .i64 (i : Int))),(.tmp 13,.d (D.int .i64 ((1 : Int) * (2 : Int) ^ Min.min (Int.toNat ((List.length (FBook.opn x) : Int))) 64))),(.tmp 14,.d (D.int .i64 (i : Int))),(.tmp 17,.d (D.sl true E.int [])),(.tmp 18,.d (D.int .i64 ((Nat.cast : Nat → Int) 0))),(.tmp 19,.d (D.int .i64 0)),(.box 2,.bx (some (Box.mk false (cellsOf (fbkD x m th wr))))),(.obj 36,.ob Option.none)] Ex.normal (chA_S2 x m th wr s i),CF 201 [fbkD x m th wr,D.int .i64 (s : Int),D.int .i64 (i : Int)] (D.bool b),b = false,inI64 ((i : Int) + (1 : Int))],Ex.normal,chA_S0 x m th wr s (i + 1)) := by kernel_rfl
theorem chA_0_yes (x : FBook) (m : Mp) (th : List (List Int)) (wr : List Int) (s : Nat) (i : Nat) (b : Bool) :
  runK (MF 39) [(15,true),(32,true)] [(32,.bool b)] [(2,(chA_K2,(.normal,chA_S2 x m th wr s i)))] (Code.at [1,0,1,1,0,1,0,0] (body Tryd.f180)) (chA_S0 x m th wr s i) chB_K0 =
   some ([decide ((i : Int) < (1 : Int) * (2 : Int) ^ Min.min (Int.toNat ((List.length (FBook.opn x) : Int))) 64) = true,LF 39 (Code.at [1,0,1,1,0,1,0,0,1,1,0,0,1,0,1] (body Tryd.f180)) [(.tmp 1,.d (D.int .i64 (s : Int))),(.tmp 2,.d (D.ptr 2 0)),(.tmp 5,.d (D.sl true E.int [])),(.tmp 6,.d (D.int .i64 (i : Int))),(.tmp 13,.d (D.int .i64 ((1 : Int) * (2 : Int) ^ Min.min (Int.toNat ((List.length (FBook.opn x) : Int))) 64))),(.tmp 14,.d (D.int .i64 (i : Int))),(.tmp 17,.d (D.sl true E.int [])),(.tmp 18,.d (D.int .i64 ((Nat.cast : Nat → Int) 0))),(.tmp 19,.d (D.int .i64 0)),(.box 2,.bx (some (Box.mk false (cellsOf (fbkD x m th wr))))),(.obj 36,.ob Option.none)] Ex.normal (chA_S2 x m th wr s i),CF 201 [fbkD x m th wr,D.int .i64 (s : Int),D.int .i64 (i : Int)] (D.bool b),b = true,1 * (8 + 1) ≤ 140737488355328,inI64 ((i : Int) + (1 : Int))],Ex.normal,chB_S0 x m th wr s (i + 1) (i : Int) []) := by kernel_rfl
theorem chA_0_end (x : FBook) (m : Mp) (th : List (List Int)) (wr : List Int) (s : Nat) (i : Nat) :
  runK (MF 39) [(15,false)] [] [] (Code.at [1,0,1,1,0,1,0,0] (body Tryd.f180)) (chA_S0 x m th wr s i) chA_K0 =
   some ([decide ((i : Int) < (1 : Int) * (2 : Int) ^ Min.min (Int.toNat ((List.length (FBook.opn x) : Int))) 64) = false],Ex.exit 0,chA_S0 x m th wr s i) := by kernel_rfl
theorem cmpW_0_on (p q : List Work) (i : Nat) (c : Int) :
  runK (MF 39) [(14,true),(21,false),(31,false)] [(29,.int .i64 c)] [] (Code.at [1,0,1,0,0] (body Tryd.f200)) (cmpW_S0 p q i) cmpW_K0 =
   some ([decide ((i : Int) < (List.length p : Int)) = true,(0 : Int) ≤ (i : Int) ∧ (i : Int) < (List.length p : Int),0 + 2 ≤ 2,decide ((i : Int) ≥ (List.length q : Int)) = false,(0 : Int) ≤ (i : Int) ∧ (i : Int) < (List.length q : Int),0 + 2 ≤ 2,0 + 2 ≤ 2,0 + 2 ≤ 2,CF 177 [D.agg [D.int .i64 (Work.d (List.getD p (i) work0)),D.int .i64 (Work.s (List.getD p (i) work0))],D.agg [D.int .i64 (Work.d (List.getD q (i) work0)),D.int .i64 (Work.s (List.getD q (i) work0))]] (D.int .i64 c),(c != (0 : Int)) = false,inI64 ((i : Int) + (1 : Int))],Ex.normal,cmpW_S0 p q (i + 1)) := by kernel_rfl
theorem cmpW_0_long (p q : List Work) (i : Nat) :
  runK (MF 39) [(14,true),(21,true)] [] [] (Code.at [1,0,1,0,0] (body Tryd.f200)) (cmpW_S0 p q i) [.tmp 0,.tmp 1,.tmp 2,.tmp 11,.tmp 12,.tmp 13,.tmp 6] =
   some ([decide ((i : Int) < (List.length p : Int)) = true,(0 : Int) ≤ (i : Int) ∧ (i : Int) < (List.length p : Int),0 + 2 ≤ 2,decide ((i : Int) ≥ (List.length q : Int)) = true],Ex.ret,cmpW_T0_long p q i ) := by kernel_rfl
theorem cmpW_0_ne (p q : List Work) (i : Nat) (c : Int) :
  runK (MF 39) [(14,true),(21,false),(31,true)] [(29,.int .i64 c)] [] (Code.at [1,0,1,0,0] (body Tryd.f200)) (cmpW_S0 p q i) [.tmp 0,.tmp 1,.tmp 2,.tmp 11,.tmp 12,.tmp 13,.tmp 6] =
   some ([decide ((i : Int) < (List.length p : Int)) = true,(0 : Int) ≤ (i : Int) ∧ (i : Int) < (List.length p : Int),0 + 2 ≤ 2,decide ((i : Int) ≥ (List.length q : Int)) = false,(0 : Int) ≤ (i : Int) ∧ (i : Int) < (List.length q : Int),0 + 2 ≤ 2,0 + 2 ≤ 2,0 + 2 ≤ 2,CF 177 [D.agg [D.int .i64 (Work.d (List.getD p (i) work0)),D.int .i64 (Work.s (List.getD p (i) work0))],D.agg [D.int .i64 (Work.d (List.getD q (i) work0)),D.int .i64 (Work.s (List.getD q (i) work0))]] (D.int .i64 c),(c != (0 : Int)) = true],Ex.ret,cmpW_T0_ne p q i c) := by kernel_rfl
theorem cmpW_0_end (p q : List Work) (i : Nat) :
  runK (MF 39) [(14,false)] [] [] (Code.at [1,0,1,0,0] (body Tryd.f200)) (cmpW_S0 p q i) cmpW_K0 =
   some ([decide ((i : Int) < (List.length p : Int)) = false],Ex.exit 0,cmpW_S0 p q i) := by kernel_rfl
theorem planA_zero (x : FBook) (m : Mp) (th : List (List Int)) (wr : List Int) (on : W4) :
  callF (MF 45) [(11,true)] [(10,wD 0 0 0 0)] [] (body Tryd.f182) [.tmp 4] [fbkD x m th wr,setsD on] =
   some ([0 + 4 ≤ 4,CF 183 [] (D.agg [D.int .i64 0,D.int .i64 0,D.int .i64 0,D.int .i64 0]),eqI [W4.a on,W4.b on,W4.c on,W4.d on] [(0 : Int),(0 : Int),(0 : Int),(0 : Int)] = true],D.sl true E.work []) := by kernel_rfl
theorem planA_none (x : FBook) (m : Mp) (th : List (List Int)) (wr : List Int) (on : W4) (k : Nat) :
  callF (MF 45) [(11,false)] [(10,wD 0 0 0 0)] [(0,(planA_K0,(.normal,planA_S0 x m th wr on k)))] (body Tryd.f182) [.tmp 4] [fbkD x m th wr,setsD on] =
   some ([0 + 4 ≤ 4,CF 183 [] (D.agg [D.int .i64 0,D.int .i64 0,D.int .i64 0,D.int .i64 0]),eqI [W4.a on,W4.b on,W4.c on,W4.d on] [(0 : Int),(0 : Int),(0 : Int),(0 : Int)] = false,LF 45 (Code.at [1,1,1,0,1] (body Tryd.f182)) [(.tmp 2,.d (D.ptr 2 0)),(.tmp 3,.d (D.ptr 3 0)),(.tmp 5,.d (D.sl true E.work [])),(.tmp 15,.d (D.sl false E.int (FBook.opn x))),(.tmp 16,.d (D.int .i64 ((List.length (FBook.opn x) : Int)))),(.tmp 17,.d (D.int .i64 0)),(.box 2,.bx (some (Box.mk false (cellsOf (fbkD x m th wr))))),(.box 3,.bx (some (Box.mk false [D.int .i64 (W4.a on),D.int .i64 (W4.b on),D.int .i64 (W4.c on),D.int .i64 (W4.d on)]))),(.obj 41,.ob Option.none)] Ex.normal (planA_S0 x m th wr on k)],D.sl true E.work []) := by kernel_rfl
theorem planA_some (x : FBook) (m : Mp) (th : List (List Int)) (wr : List Int) (on : W4) (k : Nat) (y : Work) (r : List Work) :
  callF (MF 45) [(11,false)] [(10,wD 0 0 0 0)] [(0,(planA_K0,(.normal,planB_S0 x m th wr on k y r)))] (body Tryd.f182) [.tmp 4] [fbkD x m th wr,setsD on] =
   some ([0 + 4 ≤ 4,CF 183 [] (D.agg [D.int .i64 0,D.int .i64 0,D.int .i64 0,D.int .i64 0]),eqI [W4.a on,W4.b on,W4.c on,W4.d on] [(0 : Int),(0 : Int),(0 : Int),(0 : Int)] = false,LF 45 (Code.at [1,1,1,0,1] (body Tryd.f182)) [(.tmp 2,.d (D.ptr 2 0)),(.tmp 3,.d (D.ptr 3 0)),(.tmp 5,.d (D.sl true E.work [])),(.tmp 15,.d (D.sl false E.int (FBook.opn x))),(.tmp 16,.d (D.int .i64 ((List.length (FBook.opn x) : Int)))),(.tmp 17,.d (D.int .i64 0)),(.box 2,.bx (some (Box.mk false (cellsOf (fbkD x m th wr))))),(.box 3,.bx (some (Box.mk false [D.int .i64 (W4.a on),D.int .i64 (W4.b on),D.int .i64 (W4.c on),D.int .i64 (W4.d on)]))),(.obj 41,.ob Option.none)] Ex.normal (planB_S0 x m th wr on k y r),List.length (y :: r) = List.length ((y :: r))],D.sl false E.work ((y :: r))) := by kernel_rfl
theorem keeps_yes (x : FBook) (m : Mp) (th : List (List Int)) (wr : List Int) (s : Nat) (set : Int) (plan : List Work) (i : Nat) :
  callF (MF 36) [] [(10,wD 0 0 0 0),(16,.sl false .work plan)] [(1002,(keeps_RK2,(.normal,keeps_RS2 x m th wr s set))),(0,(keeps_K0,(.normal,keeps_S0 x m th wr s set plan i)))] (body Tryd.f201) [.tmp 6] [fbkD x m th wr,.int .i64 (s : Int),.int .i64 set] =
   some ([CF 183 [] (D.agg [D.int .i64 0,D.int .i64 0,D.int .i64 0,D.int .i64 0]),LF 36 (Code.at [1,1,0] (body Tryd.f201)) [(.tmp 1,.d (D.int .i64 (s : Int))),(.tmp 2,.d (D.int .i64 set)),(.tmp 3,.d (D.ptr 3 0)),(.tmp 7,.d (D.ptr 7 0)),(.box 3,.bx (some (Box.mk false (cellsOf (fbkD x m th wr))))),(.box 7,.bx (some (Box.mk false [D.int .i64 0,D.int .i64 0,D.int .i64 0,D.int .i64 0])))] Ex.normal (keeps_RS2 x m th wr s set),0 + 4 ≤ 4,CF 182 [fbkD x m th wr,D.agg [D.int .i64 (W4.a (W4.set zeroW s set)),D.int .i64 (W4.b (W4.set zeroW s set)),D.int .i64 (W4.c (W4.set zeroW s set)),D.int .i64 (W4.d (W4.set zeroW s set))]] (D.sl false E.work plan),inI64 (Book.days (FBook.chain x) + (1 : Int)),LF 36 (Code.at [1,1,1,1,0,1] (body Tryd.f201)) [(.tmp 1,.d (D.int .i64 (s : Int))),(.tmp 3,.d (D.ptr 3 0)),(.tmp 8,.d (D.sl false E.work plan)),(.tmp 21,.d (D.int .i64 (Book.days (FBook.chain x) + (1 : Int)))),(.tmp 22,.d (D.int .i64 0)),(.box 3,.bx (some (Box.mk false (cellsOf (fbkD x m th wr)))))] Ex.normal (keeps_S0 x m th wr s set plan i)],D.bool true) := by kernel_rfl
theorem keeps_no (x : FBook) (m : Mp) (th : List (List Int)) (wr : List Int) (s : Nat) (set : Int) (plan : List Work) (i : Nat) (v : Int) :
  callF (MF 36) [] [(10,wD 0 0 0 0),(16,.sl false .work plan)] [(1002,(keeps_RK2,(.normal,keeps_RS2 x m th wr s set))),(0,(keeps_K0,(.ret,keeps_T0_hit x m th wr s set plan i v)))] (body Tryd.f201) [.tmp 6] [fbkD x m th wr,.int .i64 (s : Int),.int .i64 set] =
   some ([CF 183 [] (D.agg [D.int .i64 0,D.int .i64 0,D.int .i64 0,D.int .i64 0]),LF 36 (Code.at [1,1,0] (body Tryd.f201)) [(.tmp 1,.d (D.int .i64 (s : Int))),(.tmp 2,.d (D.int .i64 set)),(.tmp 3,.d (D.ptr 3 0)),(.tmp 7,.d (D.ptr 7 0)),(.box 3,.bx (some (Box.mk false (cellsOf (fbkD x m th wr))))),(.box 7,.bx (some (Box.mk false [D.int .i64 0,D.int .i64 0,D.int .i64 0,D.int .i64 0])))] Ex.normal (keeps_RS2 x m th wr s set),0 + 4 ≤ 4,CF 182 [fbkD x m th wr,D.agg [D.int .i64 (W4.a (W4.set zeroW s set)),D.int .i64 (W4.b (W4.set zeroW s set)),D.int .i64 (W4.c (W4.set zeroW s set)),D.int .i64 (W4.d (W4.set zeroW s set))]] (D.sl false E.work plan),inI64 (Book.days (FBook.chain x) + (1 : Int)),LF 36 (Code.at [1,1,1,1,0,1] (body Tryd.f201)) [(.tmp 1,.d (D.int .i64 (s : Int))),(.tmp 3,.d (D.ptr 3 0)),(.tmp 8,.d (D.sl false E.work plan)),(.tmp 21,.d (D.int .i64 (Book.days (FBook.chain x) + (1 : Int)))),(.tmp 22,.d (D.int .i64 0)),(.box 3,.bx (some (Box.mk false (cellsOf (fbkD x m th wr)))))] Ex.ret (keeps_T0_hit x m th wr s set plan i v)],D.bool false) := by kernel_rfl
theorem chA_none (x : FBook) (m : Mp) (th : List (List Int)) (wr : List Int) (s : Nat) (i : Nat) :
  callF (MF 39) [] [] [(0,(chA_K0,(.normal,chA_S0 x m th wr s i)))] (body Tryd.f180) [.tmp 4] [fbkD x m th wr,.int .i64 (s : Int)] =
   some ([(0 : Int) ≤ (List.length (FBook.opn x) : Int) ∧ inI64 ((1 : Int) * (2 : Int) ^ Min.min (Int.toNat ((List.length (FBook.opn x) : Int))) 64),LF 39 (Code.at [1,0,1,1,0,1] (body Tryd.f180)) [(.tmp 1,.d (D.int .i64 (s : Int))),(.tmp 2,.d (D.ptr 2 0)),(.tmp 5,.d (D.sl true E.int [])),(.tmp 13,.d (D.int .i64 ((1 : Int) * (2 : Int) ^ Min.min (Int.toNat ((List.length (FBook.opn x) : Int))) 64))),(.tmp 14,.d (D.int .i64 0)),(.box 2,.bx (some (Box.mk false (cellsOf (fbkD x m th wr))))),(.obj 36,.ob Option.none)] Ex.normal (chA_S0 x m th wr s i)],D.sl true E.int []) := by kernel_rfl
theorem chA_some (x : FBook) (m : Mp) (th : List (List Int)) (wr : List Int) (s : Nat) (i : Nat) (y : Int) (r : List Int) :
  callF (MF 39) [] [] [(0,(chA_K0,(.normal,chB_S0 x m th wr s i y r)))] (body Tryd.f180) [.tmp 4] [fbkD x m th wr,.int .i64 (s : Int)] =
   some ([(0 : Int) ≤ (List.length (FBook.opn x) : Int) ∧ inI64 ((1 : Int) * (2 : Int) ^ Min.min (Int.toNat ((List.length (FBook.opn x) : Int))) 64),LF 39 (Code.at [1,0,1,1,0,1] (body Tryd.f180)) [(.tmp 1,.d (D.int .i64 (s : Int))),(.tmp 2,.d (D.ptr 2 0)),(.tmp 5,.d (D.sl true E.int [])),(.tmp 13,.d (D.int .i64 ((1 : Int) * (2 : Int) ^ Min.min (Int.toNat ((List.length (FBook.opn x) : Int))) 64))),(.tmp 14,.d (D.int .i64 0)),(.box 2,.bx (some (Box.mk false (cellsOf (fbkD x m th wr))))),(.obj 36,.ob Option.none)] Ex.normal (chB_S0 x m th wr s i y r),List.length (y :: r) = List.length ((y :: r))],D.sl false E.int ((y :: r))) := by kernel_rfl
theorem cmpW_less (p q : List Work) (i : Nat) :
  callF (MF 39) [(38,true)] [] [(0,(cmpW_K0,(.normal,cmpW_S0 p q i)))] (body Tryd.f200) [.tmp 6] [.sl false .work p,.sl false .work q,.fn 177 [] []] =
   some ([LF 39 (Code.at [1,0,1] (body Tryd.f200)) [(.tmp 0,.d (D.sl false E.work p)),(.tmp 1,.d (D.sl false E.work q)),(.tmp 2,.d (D.fn 177 [] [])),(.tmp 11,.d (D.sl false E.work p)),(.tmp 12,.d (D.int .i64 ((List.length p : Int)))),(.tmp 13,.d (D.int .i64 0))] Ex.normal (cmpW_S0 p q i),decide ((List.length p : Int) < (List.length q : Int)) = true],D.int .i64 (-(1 : Int))) := by kernel_rfl
theorem cmpW_same (p q : List Work) (i : Nat) :
  callF (MF 39) [(38,false)] [] [(0,(cmpW_K0,(.normal,cmpW_S0 p q i)))] (body Tryd.f200) [.tmp 6] [.sl false .work p,.sl false .work q,.fn 177 [] []] =
   some ([LF 39 (Code.at [1,0,1] (body Tryd.f200)) [(.tmp 0,.d (D.sl false E.work p)),(.tmp 1,.d (D.sl false E.work q)),(.tmp 2,.d (D.fn 177 [] [])),(.tmp 11,.d (D.sl false E.work p)),(.tmp 12,.d (D.int .i64 ((List.length p : Int)))),(.tmp 13,.d (D.int .i64 0))] Ex.normal (cmpW_S0 p q i),decide ((List.length p : Int) < (List.length q : Int)) = false],D.int .i64 0) := by kernel_rfl
theorem cmpW_long (p q : List Work) (i : Nat) :
  callF (MF 39) [] [] [(0,(cmpW_K0,(.ret,cmpW_T0_long p q i)))] (body Tryd.f200) [.tmp 6] [.sl false .work p,.sl false .work q,.fn 177 [] []] =
   some ([LF 39 (Code.at [1,0,1] (body Tryd.f200)) [(.tmp 0,.d (D.sl false E.work p)),(.tmp 1,.d (D.sl false E.work q)),(.tmp 2,.d (D.fn 177 [] [])),(.tmp 11,.d (D.sl false E.work p)),(.tmp 12,.d (D.int .i64 ((List.length p : Int)))),(.tmp 13,.d (D.int .i64 0))] Ex.ret (cmpW_T0_long p q i)],D.int .i64 1) := by kernel_rfl
theorem cmpW_ne (p q : List Work) (i : Nat) (c : Int) :
  callF (MF 39) [] [] [(0,(cmpW_K0,(.ret,cmpW_T0_ne p q i c)))] (body Tryd.f200) [.tmp 6] [.sl false .work p,.sl false .work q,.fn 177 [] []] =
   some ([LF 39 (Code.at [1,0,1] (body Tryd.f200)) [(.tmp 0,.d (D.sl false E.work p)),(.tmp 1,.d (D.sl false E.work q)),(.tmp 2,.d (D.fn 177 [] [])),(.tmp 11,.d (D.sl false E.work p)),(.tmp 12,.d (D.int .i64 ((List.length p : Int)))),(.tmp 13,.d (D.int .i64 0))] Ex.ret (cmpW_T0_ne p q i c)],D.int .i64 c) := by kernel_rfl
theorem fewest_all (x : FBook) (m : Mp) (th : List (List Int)) (wr : List Int) :
  callF (MF 5) [] [] [] (body Tryd.f176) [.cell 2 188] [fbkD x m th wr] =
   some ([],D.agg [D.fn 199 [] [(cellsOf (fbkD x m th wr))]]) := by kernel_rfl
theorem fewest1_lt (x : FBook) (m : Mp) (th : List (List Int)) (wr : List Int) (p q : List Work) (a b c : Int) :
  callF (MF 28) [(17,true)] [(10,.int .i64 a),(13,.int .i64 b),(24,.int .i64 c)] [] (body Tryd.f199) [.tmp 5] [.sl false .work p,.sl false .work q,.ref (cellsOf (fbkD x m th wr)) 0] =
   some ([CF 147 [fbkD x m th wr,D.sl false E.work p] (D.int .i64 a),CF 147 [fbkD x m th wr,D.sl false E.work q] (D.int .i64 b),decide (a < b) = true,decide (a < b) = true,decide (a < b) = true,decide (a < b) = true,decide (a < b) = true,decide (a < b) = true],D.bool true) := by kernel_rfl
theorem fewest1_gt (x : FBook) (m : Mp) (th : List (List Int)) (wr : List Int) (p q : List Work) (a b c : Int) :
  callF (MF 28) [(17,false),(21,false)] [(10,.int .i64 a),(13,.int .i64 b),(24,.int .i64 c)] [] (body Tryd.f199) [.tmp 5] [.sl false .work p,.sl false .work q,.ref (cellsOf (fbkD x m th wr)) 0] =
   some ([CF 147 [fbkD x m th wr,D.sl false E.work p] (D.int .i64 a),CF 147 [fbkD x m th wr,D.sl false E.work q] (D.int .i64 b),decide (a < b) = false,decide (a < b) = false,decide (a < b) = false,decide (a < b) = false,(a == b) = false,(a == b) = false,(a == b) = false,(a == b) = false,decide (a < b) = false,(a == b) = false,decide (a < b) = false],D.bool false) := by kernel_rfl
theorem fewest1_eq (x : FBook) (m : Mp) (th : List (List Int)) (wr : List Int) (p q : List Work) (a b c : Int) :
  callF (MF 28) [(17,false),(21,true)] [(10,.int .i64 a),(13,.int .i64 b),(24,.int .i64 c)] [] (body Tryd.f199) [.tmp 5] [.sl false .work p,.sl false .work q,.ref (cellsOf (fbkD x m th wr)) 0] =
   some ([CF 147 [fbkD x m th wr,D.sl false E.work p] (D.int .i64 a),CF 147 [fbkD x m th wr,D.sl false E.work q] (D.int .i64 b),decide (a < b) = false,decide (a < b) = false,decide (a < b) = false,decide (a < b) = false,(a == b) = true,(a == b) = true,(a == b) = true,CF 200 [D.sl false E.work p,D.sl false E.work q,D.fn 177 [] []] (D.int .i64 c),(a == b) = true,decide (a < b) = false,(a == b) = true,decide (a < b) = false],D.bool (decide (c < (0 : Int)))) := by kernel_rfl
theorem fplans_all (x : FBook) (m : Mp) (th : List (List Int)) (wr : List Int) :
  callF (MF 4) [] [] [] (body Tryd.f149) [.tmp 2] [fbkD x m th wr] =
   some ([],D.fn 179 [] [(cellsOf (fbkD x m th wr))]) := by kernel_rfl
theorem keeps_r0 (x : FBook) (m : Mp) (th : List (List Int)) (wr : List Int) (set : Int) :
  runK (MF 36) [] [] [] (Code.at [1,1,0] (body Tryd.f201)) (keeps_R2 x m th wr 0 set) keeps_RO2 =
   some ([(0 : Int) ≤ (Nat.cast : Nat → Int) 0 ∧ (Nat.cast : Nat → Int) 0 < (Nat.cast : Nat → Int) 4],.normal,keeps_RS2 x m th wr 0 set) := by kernel_rfl
theorem keeps_r1 (x : FBook) (m : Mp) (th : List (List Int)) (wr : List Int) (set : Int) :
  runK (MF 36) [] [] [] (Code.at [1,1,0] (body Tryd.f201)) (keeps_R2 x m th wr 1 set) keeps_RO2 =
   some ([(0 : Int) ≤ (Nat.cast : Nat → Int) 1 ∧ (Nat.cast : Nat → Int) 1 < (Nat.cast : Nat → Int) 4],.normal,keeps_RS2 x m th wr 1 set) := by kernel_rfl
theorem keeps_r2 (x : FBook) (m : Mp) (th : List (List Int)) (wr : List Int) (set : Int) :
  runK (MF 36) [] [] [] (Code.at [1,1,0] (body Tryd.f201)) (keeps_R2 x m th wr 2 set) keeps_RO2 =
   some ([(0 : Int) ≤ (Nat.cast : Nat → Int) 2 ∧ (Nat.cast : Nat → Int) 2 < (Nat.cast : Nat → Int) 4],.normal,keeps_RS2 x m th wr 2 set) := by kernel_rfl
theorem keeps_r3 (x : FBook) (m : Mp) (th : List (List Int)) (wr : List Int) (set : Int) :
  runK (MF 36) [] [] [] (Code.at [1,1,0] (body Tryd.f201)) (keeps_R2 x m th wr 3 set) keeps_RO2 =
   some ([(0 : Int) ≤ (Nat.cast : Nat → Int) 3 ∧ (Nat.cast : Nat → Int) 3 < (Nat.cast : Nat → Int) 4],.normal,keeps_RS2 x m th wr 3 set) := by kernel_rfl
end Go.Di

namespace Go.Di
open Proofs

theorem LF.leaves {n id k : Nat} {b c : Code} (hk : k ≠ id) (hb : b = .block id (.loop c)) (N : Nat) (S : Nat → List (Key × Val)) {L' : List (Key × Val)}
  (on : ∀ i,i < N → ∃ dec orc lorc ks ps L1,runK (MF n) dec orc lorc c (S i) ks = some (ps,.normal,L1) ∧ allP ps ∧ L1 = S (i + 1))
  (fin : ∃ dec orc lorc ks ps L1,runK (MF n) dec orc lorc c (S N) ks = some (ps,.exit k,L1) ∧ allP ps ∧ L1 = L') : LF n b (S 0) (.exit k) L' := by
 subst hb
 refine LoopT.rounds (tt := lookN typesF) (S := fun i : {i : Nat // i ≤ N} => S i.1) (fun i => N - i.1) ?_ ⟨0,Nat.zero_le _⟩
 rintro ⟨i,hi⟩
 by_cases hlt : i < N
 ·obtain ⟨dec,orc,lorc,ks,ps,L1,h1,h2,h3⟩ := on i hlt
  exact WpL.path (GF n) h1 h2 ⟨⟨i + 1,hlt⟩,h3,by dsimp only; omega⟩
 ·obtain rfl : i = N := by omega
  obtain ⟨dec,orc,lorc,ks,ps,L1,h1,h2,h3⟩ := fin
  refine WpL.path (GF n) h1 h2 ?_
  show if k = id then _ else _
  rw [if_neg hk]
  exact ⟨rfl,h3⟩

/-! ### planned -/
def plS0 (x : FBook) (m : Mp) (th : List (List Int)) (wr : List Int) (on : W4) (k : Nat) : List Work → List (Key × Val)
 | [] => planA_S0 x m th wr on k
 | y :: r => planB_S0 x m th wr on k y r
def plS2 (x : FBook) (m : Mp) (th : List (List Int)) (wr : List Int) (on : W4) (k s : Nat) (d : Int) : List Work → List (Key × Val)
 | [] => planA_S2 x m th wr on k s d
 | y :: r => planB_S2 x m th wr on k s d y r
theorem plannedDay_len (x : FBook) (on : W4) (k : Nat) (l : List Work) : ∀ s,(plannedDay x on k l s).length ≤ l.length + s
 | 0 => Nat.le_refl _
 | s + 1 => by
  have := plannedDay_len x on k l s
  simp only [plannedDay]
  split
  ·rw [List.length_append,List.length_singleton]; omega
  ·omega
theorem plannedTo_len (x : FBook) (on : W4) : ∀ k,(plannedTo x on k).length ≤ k * x.feet.length
 | 0 => by simp [plannedTo]
 | k + 1 => by
  have h1 := plannedTo_len x on k
  have h2 := plannedDay_len x on k (plannedTo x on k) x.feet.length
  simp only [plannedTo]
  rw [Nat.succ_mul]
  omega
theorem fdiv_zero (k : Nat) : bitF 0 k = false := by
 unfold bitF
 rw [Int.zero_fdiv]
 rfl
theorem get_zero (s : Nat) : W4.get ⟨0,0,0,0⟩ s = 0 := by
 match s with
 | 0 => rfl
 | 1 => rfl
 | 2 => rfl
 | 3 => rfl
 | _ + 4 => rfl
theorem plannedDay_zero (x : FBook) (k : Nat) (l : List Work) : ∀ s,plannedDay x ⟨0,0,0,0⟩ k l s = l
 | 0 => rfl
 | s + 1 => by simp only [plannedDay,get_zero,fdiv_zero,Bool.false_eq_true,if_false]; exact plannedDay_zero x k l s
theorem planned_zero (x : FBook) : ∀ k,plannedTo x ⟨0,0,0,0⟩ k = []
 | 0 => rfl
 | k + 1 => by simp only [plannedTo,plannedDay_zero,planned_zero x k]
theorem Contract.weaken {f : FuncId} {args : List D} {e : E} {xs : List e.α} (h : CF f args (.sl true e xs)) : CF f args (.sl false e xs) :=
 h.toRes fun R w v hr => relA_weaken hr
theorem planned_con {x : FBook} (hx : FIn x) (m : Mp) (th : List (List Int)) (wr : List Int) (on : W4) : CF 182 [fbkD x m th wr,setsD on] (.sl false .work (plannedF x on)) := by
 have hn := hx.n
 have ho := hx.opnl
 cases hz : eqI [on.a,on.b,on.c,on.d] [0,0,0,0] with
 | true =>
  have h0 := (eqI_iff _ _).1 hz
  simp only [List.cons.injEq,and_true] at h0
  have hon : on = ⟨0,0,0,0⟩ := by cases on; simp only at h0; simp [h0]
  have he : plannedF x on = [] := by rw [hon]; exact planned_zero x _
  rw [he]
  exact Contract.weaken (contract_of_path (GF 45) planA_fn (planA_zero x m th wr on) ⟨by omega,fnever_con,hz,trivial⟩)
 | false =>
  have hloop : LF 45 (Code.at [1,1,1,0,1] (body Tryd.f182)) (plS0 x m th wr on 0 (plannedTo x on 0)) .normal (plS0 x m th wr on x.opn.length (plannedF x on)) := by
   refine LF.each (id := 0) (c := Code.at [1,1,1,0,1,0,0] (body Tryd.f182)) (by kernel_rfl) x.opn.length (fun k => plS0 x m th wr on k (plannedTo x on k)) (fun k hk => ?_) ?_
   ·have hlen := plannedTo_len x on k
    have hlen' : (plannedTo x on k).length ≤ 20 := Nat.le_trans hlen (Nat.le_trans (Nat.mul_le_mul (show k ≤ 5 by omega) hn.2) (by decide))
    have hin : ∀ l,l.length ≤ 20 → LF 45 (Code.at [1,1,1,0,1,0,0,1,1,0,0,1,1] (body Tryd.f182)) (plS2 x m th wr on k 0 (x.opn.getD k 0) l) .normal (plS2 x m th wr on k x.feet.length (x.opn.getD k 0) (plannedDay x on k l x.feet.length)) := by
     intro l hl
     refine LF.each (id := 2) (c := Code.at [1,1,1,0,1,0,0,1,1,0,0,1,1,0,0] (body Tryd.f182)) (by kernel_rfl) x.feet.length (fun s => plS2 x m th wr on k s (x.opn.getD k 0) (plannedDay x on k l s)) (fun s hs => ?_) ?_
     ·have hl2 := plannedDay_len x on k l s
      have hix : 0 + s * 1 = s := by omega
      have hi1 : 0 + s * 1 + 1 ≤ 4 := by omega
      cases hb : bitF (on.get s) k with
      | true =>
       have hb' : (IntKind.wrap .i64 ((BitVec.toNat (BitVec.ofInt 64 (Int.fdiv (List.getD [W4.a on,W4.b on,W4.c on,W4.d on] (0 + s * 1) (0 : Int)) ((2 : Int) ^ Min.min k 64)) &&& BitVec.ofInt 64 (1 : Int)) : Nat) : Int) == (1 : Int)) = true := by rw [hix]; exact hb
       have hn2 : plannedDay x on k l (s + 1) = plannedDay x on k l s ++ [⟨x.opn.getD k 0,(s : Int)⟩] := by simp only [plannedDay,hb,if_true]
       simp only [hn2]
       cases he : plannedDay x on k l s with
       | nil => exact ⟨_,_,_,_,_,_,planA_2_yes x m th wr on k s (x.opn.getD k 0),⟨lt_true hs,⟨by omega,by omega⟩,hi1,by omega,hb',by omega,i64_of (by omega) (by omega),trivial⟩,rfl⟩
       | cons y r =>
        rw [he] at hl2
        exact ⟨_,_,_,_,_,_,planB_2_yes x m th wr on k s (x.opn.getD k 0) y r,⟨lt_true hs,⟨by omega,by omega⟩,hi1,by omega,hb',rfl,by rw [List.length_append,List.length_singleton]; omega,i64_of (by omega) (by omega),trivial⟩,rfl⟩
      | false =>
       have hb' : (IntKind.wrap .i64 ((BitVec.toNat (BitVec.ofInt 64 (Int.fdiv (List.getD [W4.a on,W4.b on,W4.c on,W4.d on] (0 + s * 1) (0 : Int)) ((2 : Int) ^ Min.min k 64)) &&& BitVec.ofInt 64 (1 : Int)) : Nat) : Int) == (1 : Int)) = false := by rw [hix]; exact hb
       have hn2 : plannedDay x on k l (s + 1) = plannedDay x on k l s := by simp only [plannedDay,hb,Bool.false_eq_true,if_false]
       simp only [hn2]
       cases he : plannedDay x on k l s with
       | nil => exact ⟨_,_,_,_,_,_,planA_2_no x m th wr on k s (x.opn.getD k 0),⟨lt_true hs,⟨by omega,by omega⟩,hi1,by omega,hb',i64_of (by omega) (by omega),trivial⟩,rfl⟩
       | cons y r => exact ⟨_,_,_,_,_,_,planB_2_no x m th wr on k s (x.opn.getD k 0) y r,⟨lt_true hs,⟨by omega,by omega⟩,hi1,by omega,hb',i64_of (by omega) (by omega),trivial⟩,rfl⟩
     ·cases plannedDay x on k l x.feet.length with
      | nil => exact ⟨_,_,_,_,_,_,_,planA_2_end x m th wr on k _ _,⟨lt_false,trivial⟩,.inl ⟨rfl,rfl⟩,rfl⟩
      | cons y r => exact ⟨_,_,_,_,_,_,_,planB_2_end x m th wr on k _ _ y r,⟨lt_false,trivial⟩,.inl ⟨rfl,rfl⟩,rfl⟩
    have hin := hin _ hlen'
    have he : plannedTo x on (k + 1) = plannedDay x on k (plannedTo x on k) x.feet.length := rfl
    simp only [he]
    cases h1 : plannedTo x on k with
    | nil =>
     rw [h1] at hin
     cases h2 : plannedDay x on k [] x.feet.length with
     | nil =>
      rw [h2] at hin
      exact ⟨_,_,_,_,_,_,planA_0_on x m th wr on k x.feet.length,⟨lt_true hk,⟨by omega,by omega⟩,by omega,hin,i64_of (by omega) (by omega),trivial⟩,rfl⟩
     | cons y r =>
      rw [h2] at hin
      exact ⟨_,_,_,_,_,_,planA_0_new x m th wr on k x.feet.length y r,⟨lt_true hk,⟨by omega,by omega⟩,by omega,hin,i64_of (by omega) (by omega),trivial⟩,rfl⟩
    | cons y r =>
     rw [h1] at hin
     obtain ⟨y',r',h2⟩ : ∃ y' r',plannedDay x on k (y :: r) x.feet.length = y' :: r' := by
      have hpre : ∀ s,∃ z,plannedDay x on k (y :: r) s = (y :: r) ++ z := by
       intro s
       induction s with
       | zero => exact ⟨[],by simp [plannedDay]⟩
       | succ s ih =>
        obtain ⟨z,hz⟩ := ih
        simp only [plannedDay,hz]
        split
        ·exact ⟨z ++ [⟨x.opn.getD k 0,(s : Int)⟩],by rw [List.append_assoc]⟩
        ·exact ⟨z,rfl⟩
      obtain ⟨z,hz⟩ := hpre x.feet.length
      exact ⟨y,r ++ z,by rw [hz]; rfl⟩
     rw [h2] at hin ⊢
     exact ⟨_,_,_,_,_,_,planB_0_on x m th wr on k y r x.feet.length y' r',⟨lt_true hk,⟨by omega,by omega⟩,by omega,hin,i64_of (by omega) (by omega),trivial⟩,rfl⟩
   ·rw [show plannedF x on = plannedTo x on x.opn.length from rfl]
    cases plannedTo x on x.opn.length with
    | nil => exact ⟨_,_,_,_,_,_,_,planA_0_end x m th wr on _,⟨lt_false,trivial⟩,.inl ⟨rfl,rfl⟩,rfl⟩
    | cons y r => exact ⟨_,_,_,_,_,_,_,planB_0_end x m th wr on _ y r,⟨lt_false,trivial⟩,.inl ⟨rfl,rfl⟩,rfl⟩
  cases hp : plannedF x on with
  | nil =>
   rw [hp] at hloop
   exact Contract.weaken (contract_of_path (GF 45) planA_fn (planA_none x m th wr on x.opn.length) ⟨by omega,fnever_con,hz,hloop,trivial⟩)
  | cons y r =>
   rw [hp] at hloop
   exact contract_of_path (GF 45) planA_fn (planA_some x m th wr on x.opn.length y r) ⟨by omega,fnever_con,hz,hloop,rfl,trivial⟩
end Go.Di

