/- Part 22: contracts are proved. No condition. -/
import Derived.Test.YtfkmodcjddfeiaaGreatDoorDi21
set_option linter.unusedVariables false
set_option linter.unusedSimpArgs false
namespace Go.Di
open Proofs
noncomputable abbrev Ygp (p:List Nat):Code:=Code.at p (body Proofs.Tryz.f100)
noncomputable abbrev k_124 (p:List Nat):Code:=Code.at p (body Proofs.Tryz.f124)
noncomputable abbrev k_98 (p:List Nat):Code:=Code.at p (body Proofs.Tryz.f98)
noncomputable abbrev k_123 (p:List Nat):Code:=Code.at p (body Proofs.Tryz.f123)
theorem planA_fn:FnOk PRG (MF 45) 100 (body Tryz.f100) [.tmp 4]:=by refine⟨Tryz.f100,?_,?_,?_,?_,?_⟩<;>kernel_rfl
theorem keeps_fn:FnOk PRG (MF 36) 124 (body Tryz.f124) [.tmp 6]:=by refine⟨Tryz.f124,?_,?_,?_,?_,?_⟩<;>kernel_rfl
theorem chA_fn:FnOk PRG (MF 39) 98 (body Tryz.f98) [.tmp 4]:=by refine⟨Tryz.f98,?_,?_,?_,?_,?_⟩<;>kernel_rfl
theorem cmpW_fn:FnOk PRG (MF 39) 123 (body Tryz.f123) [.tmp 6]:=by refine⟨Tryz.f123,?_,?_,?_,?_,?_⟩<;>kernel_rfl
theorem fewest_fn:FnOk PRG (MF 5) 96 (body Tryz.f96) [.cell 2 124]:=by refine⟨Tryz.f96,?_,?_,?_,?_,?_⟩<;>kernel_rfl
theorem fewest1_fn:FnOk PRG (MF 28) 122 (body Tryz.f122) [.tmp 5]:=by refine⟨Tryz.f122,?_,?_,?_,?_,?_⟩<;>kernel_rfl
theorem fplans_fn:FnOk PRG (MF 4) 70 (body Tryz.f70) [.tmp 2]:=by refine⟨Tryz.f70,?_,?_,?_,?_,?_⟩<;>kernel_rfl
def Ydg (x:FBook)(m:Mp)(th:List (List Int))(wr:List Int)(on:W4)(k s:Nat)(d:Int)(y:Work)(r:List Work):List (Key×Val) :=
 [(.tmp 2,.d (D.ptr 2 0)),
  (.tmp 3,.d (D.ptr 3 0)),
  (.tmp 5,.d (.own 41 (y::r).length)),
  (.tmp 6,.d (.I k)),
  (.tmp 7,.d (.I d)),
  (.tmp 15,.d (D.sl false E.int (FBook.opn x))),
  (.tmp 16,.d (D.I ((List.length (FBook.opn x):Int)))),
  (.tmp 17,.d (.I k)),
  (.tmp 25,.d (D.I ((List.length (FBook.feet x):Int)))),
  (.tmp 26,.d (.I s)),
  (.box 2,.bx (some (Box.mk false (cellsOf (fbkD x m th wr))))),
  (.box 3,.bx (some (Box.mk false [D.I (W4.a on),D.I (W4.b on),D.I (W4.c on),D.I (W4.d on)]))),
  (.obj 41,.ob (some ⟨.work,y::r⟩))]
def planB_K2:List Key:=[.tmp 2,.tmp 3,.tmp 5,.tmp 6,.tmp 7,.tmp 15,.tmp 16,.tmp 17,.tmp 25,.tmp 26,.box 2,.box 3,.obj 41]
def Yfz (x:FBook)(m:Mp)(th:List (List Int))(wr:List Int)(on:W4)(k:Nat)(y:Work)(r:List Work):List (Key×Val) :=
 [(.tmp 2,.d (D.ptr 2 0)),
  (.tmp 3,.d (D.ptr 3 0)),
  (.tmp 5,.d (.own 41 (y::r).length)),
  (.tmp 15,.d (D.sl false E.int (FBook.opn x))),
  (.tmp 16,.d (D.I ((List.length (FBook.opn x):Int)))),
  (.tmp 17,.d (.I k)),
  (.box 2,.bx (some (Box.mk false (cellsOf (fbkD x m th wr))))),
  (.box 3,.bx (some (Box.mk false [D.I (W4.a on),D.I (W4.b on),D.I (W4.c on),D.I (W4.d on)]))),
  (.obj 41,.ob (some ⟨.work,y::r⟩))]
def planB_K0:List Key:=[.tmp 2,.tmp 3,.tmp 5,.tmp 15,.tmp 16,.tmp 17,.box 2,.box 3,.obj 41]
def Yf0 (x:FBook)(m:Mp)(th:List (List Int))(wr:List Int)(on:W4)(k s:Nat)(d:Int):List (Key×Val) :=
 [(.tmp 2,.d (D.ptr 2 0)),
  (.tmp 3,.d (D.ptr 3 0)),
  (.tmp 5,.d (.sl true .work [])),
  (.tmp 6,.d (.I k)),
  (.tmp 7,.d (.I d)),
  (.tmp 15,.d (D.sl false E.int (FBook.opn x))),
  (.tmp 16,.d (D.I ((List.length (FBook.opn x):Int)))),
  (.tmp 17,.d (.I k)),
  (.tmp 25,.d (D.I ((List.length (FBook.feet x):Int)))),
  (.tmp 26,.d (.I s)),
  (.box 2,.bx (some (Box.mk false (cellsOf (fbkD x m th wr))))),
  (.box 3,.bx (some (Box.mk false [D.I (W4.a on),D.I (W4.b on),D.I (W4.c on),D.I (W4.d on)]))),
  (.obj 41,.ob none)]
def planA_K2:List Key:=[.tmp 2,.tmp 3,.tmp 5,.tmp 6,.tmp 7,.tmp 15,.tmp 16,.tmp 17,.tmp 25,.tmp 26,.box 2,.box 3,.obj 41]
def Yef (x:FBook)(m:Mp)(th:List (List Int))(wr:List Int)(on:W4)(k:Nat):List (Key×Val) :=
 [(.tmp 2,.d (D.ptr 2 0)),
  (.tmp 3,.d (D.ptr 3 0)),
  (.tmp 5,.d (.sl true .work [])),
  (.tmp 15,.d (D.sl false E.int (FBook.opn x))),
  (.tmp 16,.d (D.I ((List.length (FBook.opn x):Int)))),
  (.tmp 17,.d (.I k)),
  (.box 2,.bx (some (Box.mk false (cellsOf (fbkD x m th wr))))),
  (.box 3,.bx (some (Box.mk false [D.I (W4.a on),D.I (W4.b on),D.I (W4.c on),D.I (W4.d on)]))),
  (.obj 41,.ob none)]
def planA_K0:List Key:=[.tmp 2,.tmp 3,.tmp 5,.tmp 15,.tmp 16,.tmp 17,.box 2,.box 3,.obj 41]
def keeps_R2 (x:FBook)(m:Mp)(th:List (List Int))(wr:List Int)(s:Nat)(set:Int)  : List (Key×Val) :=
 [(.tmp 1,.d (D.I (s:Int))),
  (.tmp 2,.d (D.I set)),
  (.tmp 3,.d (D.ptr 3 0)),
  (.tmp 7,.d (D.ptr 7 0)),
  (.box 3,.bx (some (Box.mk false (cellsOf (fbkD x m th wr))))),
  (.box 7,.bx (some (Box.mk false [D.I 0,D.I 0,D.I 0,D.I 0])))]
def keeps_RK2:List Key:=[.tmp 1,.tmp 2,.tmp 3,.tmp 7,.box 3,.box 7]
def keeps_RO2:List Key:=[.tmp 1,.tmp 3,.tmp 7,.box 3,.box 7]
def Ydy (x:FBook)(m:Mp)(th:List (List Int))(wr:List Int)(s:Nat)(set:Int)   : List (Key×Val) :=
 [(.tmp 1,.d (D.I (s:Int))),
  (.tmp 3,.d (D.ptr 3 0)),
  (.tmp 7,.d (D.ptr 7 0)),
  (.box 3,.bx (some (Box.mk false (cellsOf (fbkD x m th wr))))),
  (.box 7,.bx (some ⟨false,cellsOf (setsD (zeroW.set s set))⟩))]
def Ydu (x:FBook)(m:Mp)(th:List (List Int))(wr:List Int)(s:Nat)(i j:Nat)(y:Int)(r:List Int):List (Key×Val) :=
 [(.tmp 1,.d (D.I (s:Int))),
  (.tmp 2,.d (D.ptr 2 0)),
  (.tmp 5,.d (.own 36 (y::r).length)),
  (.tmp 6,.d (.I i)),
  (.tmp 13,.d (D.I ((1:Int)*(2:Int) ^ Min.min (Int.toNat ((List.length (FBook.opn x):Int))) 64))),
  (.tmp 14,.d (.I i)),
  (.tmp 17,.d (.own 36 (y::r).length)),
  (.tmp 18,.d (.I (y::r).length)),
  (.tmp 19,.d (.I j)),
  (.box 2,.bx (some (Box.mk false (cellsOf (fbkD x m th wr))))),
  (.obj 36,.ob (some ⟨.int,y::r⟩))]
def chB_K2:List Key:=[.tmp 1,.tmp 2,.tmp 5,.tmp 6,.tmp 13,.tmp 14,.tmp 17,.tmp 18,.tmp 19,.box 2,.obj 36]
def chB_S0 (x:FBook)(m:Mp)(th:List (List Int))(wr:List Int)(s:Nat)(i:Nat)(y:Int)(r:List Int):List (Key×Val) :=
 [(.tmp 1,.d (D.I (s:Int))),
  (.tmp 2,.d (D.ptr 2 0)),
  (.tmp 5,.d (.own 36 (y::r).length)),
  (.tmp 13,.d (D.I ((1:Int)*(2:Int) ^ Min.min (Int.toNat ((List.length (FBook.opn x):Int))) 64))),
  (.tmp 14,.d (.I i)),
  (.box 2,.bx (some (Box.mk false (cellsOf (fbkD x m th wr))))),
  (.obj 36,.ob (some ⟨.int,y::r⟩))]
def chB_K0:List Key:=[.tmp 1,.tmp 2,.tmp 5,.tmp 13,.tmp 14,.box 2,.obj 36]
def chA_S2 (x:FBook)(m:Mp)(th:List (List Int))(wr:List Int)(s:Nat)(i:Nat):List (Key×Val) :=
 [(.tmp 1,.d (D.I (s:Int))),
  (.tmp 2,.d (D.ptr 2 0)),
  (.tmp 5,.d (.sl true .int [])),
  (.tmp 6,.d (.I i)),
  (.tmp 13,.d (D.I ((1:Int)*(2:Int) ^ Min.min (Int.toNat ((List.length (FBook.opn x):Int))) 64))),
  (.tmp 14,.d (.I i)),
  (.tmp 17,.d (.sl true .int [])),
  (.tmp 18,.d (.I 0)),
  (.tmp 19,.d (.I 0)),
  (.box 2,.bx (some (Box.mk false (cellsOf (fbkD x m th wr))))),
  (.obj 36,.ob none)]
def chA_K2:List Key:=[.tmp 1,.tmp 2,.tmp 5,.tmp 6,.tmp 13,.tmp 14,.tmp 17,.tmp 18,.tmp 19,.box 2,.obj 36]
def chA_S0 (x:FBook)(m:Mp)(th:List (List Int))(wr:List Int)(s:Nat)(i:Nat):List (Key×Val) :=
 [(.tmp 1,.d (D.I (s:Int))),
  (.tmp 2,.d (D.ptr 2 0)),
  (.tmp 5,.d (.sl true .int [])),
  (.tmp 13,.d (D.I ((1:Int)*(2:Int) ^ Min.min (Int.toNat ((List.length (FBook.opn x):Int))) 64))),
  (.tmp 14,.d (.I i)),
  (.box 2,.bx (some (Box.mk false (cellsOf (fbkD x m th wr))))),
  (.obj 36,.ob none)]
def chA_K0:List Key:=[.tmp 1,.tmp 2,.tmp 5,.tmp 13,.tmp 14,.box 2,.obj 36]
def Ycn (p q:List Work)(i:Nat):List (Key×Val) :=
 [(.tmp 0,.d (D.sl false E.work p)),
  (.tmp 1,.d (D.sl false E.work q)),
  (.tmp 2,.d (D.fn 82 [] [])),
  (.tmp 11,.d (D.sl false E.work p)),
  (.tmp 12,.d (D.I ((List.length p:Int)))),
  (.tmp 13,.d (.I i))]
def cmpW_K0:List Key:=[.tmp 0,.tmp 1,.tmp 2,.tmp 11,.tmp 12,.tmp 13]
def Yc8 (x:FBook)(m:Mp)(th:List (List Int))(wr:List Int)(s:Nat)(set:Int)(plan:List Work)(i:Nat):List (Key×Val) :=
 [(.tmp 1,.d (D.I (s:Int))),
  (.tmp 3,.d (D.ptr 3 0)),
  (.tmp 8,.d (D.sl false E.work plan)),
  (.tmp 21,.d (D.I (Book.days (FBook.chain x)+(1:Int)))),
  (.tmp 22,.d (.I i)),
  (.box 3,.bx (some (Box.mk false (cellsOf (fbkD x m th wr)))))]
def keeps_K0:List Key:=[.tmp 1,.tmp 3,.tmp 8,.tmp 21,.tmp 22,.box 3]
def keeps_T0_hit (x:FBook)(m:Mp)(th:List (List Int))(wr:List Int)(s:Nat)(set:Int)(plan:List Work)(i:Nat)(v:Int):List (Key×Val) :=
 [(.tmp 1,.d (D.I (s:Int))),(.tmp 3,.d (D.ptr 3 0)),(.tmp 8,.d (D.sl false E.work plan)),(.tmp 21,.d (D.I (Book.days (FBook.chain x)+(1:Int)))),(.tmp 22,.d (D.I (i:Int))),(.box 3,.bx (some (Box.mk false (cellsOf (fbkD x m th wr))))),(.tmp 6,.d (D.bool false))]
def cmpW_T0_long (p q:List Work)(i:Nat)  : List (Key×Val) :=
 [(.tmp 0,.d (D.sl false E.work p)),(.tmp 1,.d (D.sl false E.work q)),(.tmp 2,.d (D.fn 82 [] [])),(.tmp 11,.d (D.sl false E.work p)),(.tmp 12,.d (D.I ((List.length p:Int)))),(.tmp 13,.d (D.I (i:Int))),(.tmp 6,.d (D.I 1))]
def cmpW_T0_ne (p q:List Work)(i:Nat)(c:Int):List (Key×Val) :=
 [(.tmp 0,.d (D.sl false E.work p)),(.tmp 1,.d (D.sl false E.work q)),(.tmp 2,.d (D.fn 82 [] [])),(.tmp 11,.d (D.sl false E.work p)),(.tmp 12,.d (D.I ((List.length p:Int)))),(.tmp 13,.d (D.I (i:Int))),(.tmp 6,.d (D.I c))]
theorem planB_2_yes (x:FBook)(m:Mp)(th:List (List Int))(wr:List Int)(on:W4)(k s:Nat)(d:Int)(y:Work)(r:List Work) :
  runK (MF 45) [(27,true),(35,true)] [] [] (Ygp [1,1,1,0,1,0,0,1,1,0,0,1,1,0,0]) (Ydg x m th wr on k s d y r) planB_K2 =
   some ([decide ((s:Int)<(x.feet.length:Int))=true,(0:Int)≤(s:Int)∧(s:Int)<(Nat.cast:Nat→Int) 4,0+s*1+1≤4,(0:Int)≤(k:Int),(IntKind.wrap .i64 ((Nat.cast:Nat→Int) (BitVec.toNat (BitVec.ofInt 64 (Int.fdiv (List.getD [W4.a on,W4.b on,W4.c on,W4.d on] (0+s*1) (0:Int)) ((2:Int) ^ Min.min (k) 64))&&& BitVec.ofInt 64 (1:Int))))==(1:Int))=true,(y::r).length=List.length ((y::r)),List.length ((y::r)++[Work.mk d ((s:Int))])*(16+1)≤140737488355328,Yae ((s:Int)+(1:Int))],Ex.normal,Ydg x m th wr on k (s+1) d y (r++[⟨d,(s:Int)⟩])):=by kernel_rfl
theorem planB_2_no (x:FBook)(m:Mp)(th:List (List Int))(wr:List Int)(on:W4)(k s:Nat)(d:Int)(y:Work)(r:List Work) :
  runK (MF 45) [(27,true),(35,false)] [] [] (Ygp [1,1,1,0,1,0,0,1,1,0,0,1,1,0,0]) (Ydg x m th wr on k s d y r) planB_K2 =
   some ([decide ((s:Int)<(x.feet.length:Int))=true,(0:Int)≤(s:Int)∧(s:Int)<(Nat.cast:Nat→Int) 4,0+s*1+1≤4,(0:Int)≤(k:Int),(IntKind.wrap .i64 ((Nat.cast:Nat→Int) (BitVec.toNat (BitVec.ofInt 64 (Int.fdiv (List.getD [W4.a on,W4.b on,W4.c on,W4.d on] (0+s*1) (0:Int)) ((2:Int) ^ Min.min (k) 64))&&& BitVec.ofInt 64 (1:Int))))==(1:Int))=false,Yae ((s:Int)+(1:Int))],Ex.normal,Ydg x m th wr on k (s+1) d y r):=by kernel_rfl
theorem planB_2_end (x:FBook)(m:Mp)(th:List (List Int))(wr:List Int)(on:W4)(k s:Nat)(d:Int)(y:Work)(r:List Work) :
  runK (MF 45) [(27,false)] [] [] (Ygp [1,1,1,0,1,0,0,1,1,0,0,1,1,0,0]) (Ydg x m th wr on k s d y r) planB_K2 =
   some ([decide ((s:Int)<(x.feet.length:Int))=false],Ex.exit 2,Ydg x m th wr on k s d y r):=by kernel_rfl
theorem planB_0_on (x:FBook)(m:Mp)(th:List (List Int))(wr:List Int)(on:W4)(k:Nat)(y:Work)(r:List Work)(s:Nat)(z:Work)(q:List Work) :
  runK (MF 45) [(18,true)] [] [(2,(planB_K2,(.normal,Ydg x m th wr on k s (x.opn.getD k 0) z q)))] (Ygp [1,1,1,0,1,0,0]) (Yfz x m th wr on k y r) planB_K0 =
   some ([decide ((k:Int)<(x.opn.length:Int))=true,(0:Int)≤(k:Int)∧(k:Int)<(x.opn.length:Int),0+1≤1,LF 45 (Ygp [1,1,1,0,1,0,0,1,1,0,0,1,1]) [(.tmp 2,.d (D.ptr 2 0)),(.tmp 3,.d (D.ptr 3 0)),(.tmp 5,.d (D.own 41 ((y::r).length))),(.tmp 6,.d (D.I (k:Int))),(.tmp 7,.d (D.I (List.getD x.opn (k) (0:Int)))),(.tmp 15,.d (D.sl false E.int x.opn)),(.tmp 16,.d (D.I ((x.opn.length:Int)))),(.tmp 17,.d (D.I (k:Int))),(.tmp 25,.d (D.I ((x.feet.length:Int)))),(.tmp 26,.d (D.I 0)),(.box 2,.bx (some (Box.mk false (cellsOf (fbkD x m th wr))))),(.box 3,.bx (some (Box.mk false [D.I (W4.a on),D.I (W4.b on),D.I (W4.c on),D.I (W4.d on)]))),(.obj 41,.ob (some (Ob.mk E.work (y::r))))] Ex.normal (Ydg x m th wr on k s (List.getD x.opn k (0:Int)) z q),Yae ((k:Int)+(1:Int))],Ex.normal,Yfz x m th wr on (k+1) z q):=by kernel_rfl
theorem planB_0_end (x:FBook)(m:Mp)(th:List (List Int))(wr:List Int)(on:W4)(k:Nat)(y:Work)(r:List Work) :
  runK (MF 45) [(18,false)] [] [] (Ygp [1,1,1,0,1,0,0]) (Yfz x m th wr on k y r) planB_K0 =
   some ([decide ((k:Int)<(x.opn.length:Int))=false],Ex.exit 0,Yfz x m th wr on k y r):=by kernel_rfl
theorem planA_2_yes (x:FBook)(m:Mp)(th:List (List Int))(wr:List Int)(on:W4)(k s:Nat)(d:Int) :
  runK (MF 45) [(27,true),(35,true)] [] [] (Ygp [1,1,1,0,1,0,0,1,1,0,0,1,1,0,0]) (Yf0 x m th wr on k s d) planB_K2 =
   some ([decide ((s:Int)<(x.feet.length:Int))=true,(0:Int)≤(s:Int)∧(s:Int)<(Nat.cast:Nat→Int) 4,0+s*1+1≤4,(0:Int)≤(k:Int),(IntKind.wrap .i64 ((Nat.cast:Nat→Int) (BitVec.toNat (BitVec.ofInt 64 (Int.fdiv (List.getD [W4.a on,W4.b on,W4.c on,W4.d on] (0+s*1) (0:Int)) ((2:Int) ^ Min.min (k) 64))&&& BitVec.ofInt 64 (1:Int))))==(1:Int))=true,1*(16+1)≤140737488355328,Yae ((s:Int)+(1:Int))],Ex.normal,Ydg x m th wr on k (s+1) d ⟨d,(s:Int)⟩ []):=by kernel_rfl
theorem planA_2_no (x:FBook)(m:Mp)(th:List (List Int))(wr:List Int)(on:W4)(k s:Nat)(d:Int) :
  runK (MF 45) [(27,true),(35,false)] [] [] (Ygp [1,1,1,0,1,0,0,1,1,0,0,1,1,0,0]) (Yf0 x m th wr on k s d) planA_K2 =
   some ([decide ((s:Int)<(x.feet.length:Int))=true,(0:Int)≤(s:Int)∧(s:Int)<(Nat.cast:Nat→Int) 4,0+s*1+1≤4,(0:Int)≤(k:Int),(IntKind.wrap .i64 ((Nat.cast:Nat→Int) (BitVec.toNat (BitVec.ofInt 64 (Int.fdiv (List.getD [W4.a on,W4.b on,W4.c on,W4.d on] (0+s*1) (0:Int)) ((2:Int) ^ Min.min (k) 64))&&& BitVec.ofInt 64 (1:Int))))==(1:Int))=false,Yae ((s:Int)+(1:Int))],Ex.normal,Yf0 x m th wr on k (s+1) d):=by kernel_rfl
theorem planA_2_end (x:FBook)(m:Mp)(th:List (List Int))(wr:List Int)(on:W4)(k s:Nat)(d:Int) :
  runK (MF 45) [(27,false)] [] [] (Ygp [1,1,1,0,1,0,0,1,1,0,0,1,1,0,0]) (Yf0 x m th wr on k s d) planA_K2 =
   some ([decide ((s:Int)<(x.feet.length:Int))=false],Ex.exit 2,Yf0 x m th wr on k s d):=by kernel_rfl
theorem planA_0_on (x:FBook)(m:Mp)(th:List (List Int))(wr:List Int)(on:W4)(k:Nat)(s:Nat) :
  runK (MF 45) [(18,true)] [] [(2,(planA_K2,(.normal,Yf0 x m th wr on k s (x.opn.getD k 0))))] (Ygp [1,1,1,0,1,0,0]) (Yef x m th wr on k) planA_K0 =
   some ([decide ((k:Int)<(x.opn.length:Int))=true,(0:Int)≤(k:Int)∧(k:Int)<(x.opn.length:Int),0+1≤1,LF 45 (Ygp [1,1,1,0,1,0,0,1,1,0,0,1,1]) [(.tmp 2,.d (D.ptr 2 0)),(.tmp 3,.d (D.ptr 3 0)),(.tmp 5,.d (D.sl true E.work [])),(.tmp 6,.d (D.I (k:Int))),(.tmp 7,.d (D.I (List.getD x.opn (k) (0:Int)))),(.tmp 15,.d (D.sl false E.int x.opn)),(.tmp 16,.d (D.I ((x.opn.length:Int)))),(.tmp 17,.d (D.I (k:Int))),(.tmp 25,.d (D.I ((x.feet.length:Int)))),(.tmp 26,.d (D.I 0)),(.box 2,.bx (some (Box.mk false (cellsOf (fbkD x m th wr))))),(.box 3,.bx (some (Box.mk false [D.I (W4.a on),D.I (W4.b on),D.I (W4.c on),D.I (W4.d on)]))),(.obj 41,.ob Option.none)] Ex.normal (Yf0 x m th wr on k s (List.getD x.opn k (0:Int))),Yae ((k:Int)+(1:Int))],Ex.normal,Yef x m th wr on (k+1)):=by kernel_rfl
theorem planA_0_end (x:FBook)(m:Mp)(th:List (List Int))(wr:List Int)(on:W4)(k:Nat) :
  runK (MF 45) [(18,false)] [] [] (Ygp [1,1,1,0,1,0,0]) (Yef x m th wr on k) planA_K0 =
   some ([decide ((k:Int)<(x.opn.length:Int))=false],Ex.exit 0,Yef x m th wr on k):=by kernel_rfl
theorem planA_0_new (x:FBook)(m:Mp)(th:List (List Int))(wr:List Int)(on:W4)(k:Nat)(s:Nat)(y:Work)(r:List Work) :
  runK (MF 45) [(18,true)] [] [(2,(planA_K2,(.normal,Ydg x m th wr on k s (x.opn.getD k 0) y r)))] (Ygp [1,1,1,0,1,0,0]) (Yef x m th wr on k) planB_K0 =
   some ([decide ((k:Int)<(x.opn.length:Int))=true,(0:Int)≤(k:Int)∧(k:Int)<(x.opn.length:Int),0+1≤1,LF 45 (Ygp [1,1,1,0,1,0,0,1,1,0,0,1,1]) [(.tmp 2,.d (D.ptr 2 0)),(.tmp 3,.d (D.ptr 3 0)),(.tmp 5,.d (D.sl true E.work [])),(.tmp 6,.d (D.I (k:Int))),(.tmp 7,.d (D.I (List.getD x.opn (k) (0:Int)))),(.tmp 15,.d (D.sl false E.int x.opn)),(.tmp 16,.d (D.I ((x.opn.length:Int)))),(.tmp 17,.d (D.I (k:Int))),(.tmp 25,.d (D.I ((x.feet.length:Int)))),(.tmp 26,.d (D.I 0)),(.box 2,.bx (some (Box.mk false (cellsOf (fbkD x m th wr))))),(.box 3,.bx (some (Box.mk false [D.I (W4.a on),D.I (W4.b on),D.I (W4.c on),D.I (W4.d on)]))),(.obj 41,.ob Option.none)] Ex.normal (Ydg x m th wr on k s (List.getD x.opn k (0:Int)) y r),Yae ((k:Int)+(1:Int))],Ex.normal,Yfz x m th wr on (k+1) y r):=by kernel_rfl
theorem keeps_0_on (x:FBook)(m:Mp)(th:List (List Int))(wr:List Int)(s:Nat)(set:Int)(plan:List Work)(i:Nat)(v:Int) :
  runK (MF 36) [(23,true),(34,false)] [(29,.I v)] [] (k_124 [1,1,1,1,0,1,0,0]) (Yc8 x m th wr s set plan i) keeps_K0 =
   some ([decide ((i:Int)<x.chain.days+(1:Int))=true,CF 48 [fbkD x m th wr,D.sl false E.work plan,D.I (s:Int),D.I (i:Int)] (D.I v),decide (v<x.chain.rule)=false,Yae ((i:Int)+(1:Int))],Ex.normal,Yc8 x m th wr s set plan (i+1)):=by kernel_rfl
theorem keeps_0_hit (x:FBook)(m:Mp)(th:List (List Int))(wr:List Int)(s:Nat)(set:Int)(plan:List Work)(i:Nat)(v:Int) :
  runK (MF 36) [(23,true),(34,true)] [(29,.I v)] [] (k_124 [1,1,1,1,0,1,0,0]) (Yc8 x m th wr s set plan i) [.tmp 1,.tmp 3,.tmp 8,.tmp 21,.tmp 22,.box 3,.tmp 6] =
   some ([decide ((i:Int)<x.chain.days+(1:Int))=true,CF 48 [fbkD x m th wr,D.sl false E.work plan,D.I (s:Int),D.I (i:Int)] (D.I v),decide (v<x.chain.rule)=true],Ex.ret,keeps_T0_hit x m th wr s set plan i v):=by kernel_rfl
theorem keeps_0_end (x:FBook)(m:Mp)(th:List (List Int))(wr:List Int)(s:Nat)(set:Int)(plan:List Work)(i:Nat) :
  runK (MF 36) [(23,false)] [] [] (k_124 [1,1,1,1,0,1,0,0]) (Yc8 x m th wr s set plan i) keeps_K0 =
   some ([decide ((i:Int)<x.chain.days+(1:Int))=false],Ex.exit 0,Yc8 x m th wr s set plan i):=by kernel_rfl
theorem chB_2_on (x:FBook)(m:Mp)(th:List (List Int))(wr:List Int)(s:Nat)(i j:Nat)(y:Int)(r:List Int) :
  runK (MF 39) [(20,true),(27,false)] [] [] (k_98 [1,0,1,1,0,1,0,0,1,1,0,0,1,0,1,0,0]) (Ydu x m th wr s i j y r) chB_K2 =
   some ([decide ((j:Int)<((y::r).length:Int))=true,(y::r).length=List.length ((y::r)),(0:Int)≤(j:Int)∧(j:Int)<(List.length ((y::r)):Int),0+1≤1,(IntKind.wrap .i64 ((Nat.cast:Nat→Int) (BitVec.toNat (BitVec.ofInt 64 ((i:Int))&&& BitVec.ofInt 64 (List.getD ((y::r)) (j) (E.z (Ob.e (Ob.mk E.int (y::r))))))))==List.getD ((y::r)) (j) (E.z (Ob.e (Ob.mk E.int (y::r)))))=false,Yae ((j:Int)+(1:Int))],Ex.normal,Ydu x m th wr s i (j+1) y r):=by kernel_rfl
theorem chB_2_hit (x:FBook)(m:Mp)(th:List (List Int))(wr:List Int)(s:Nat)(i j:Nat)(y:Int)(r:List Int) :
  runK (MF 39) [(20,true),(27,true)] [] [] (k_98 [1,0,1,1,0,1,0,0,1,1,0,0,1,0,1,0,0]) (Ydu x m th wr s i j y r) chB_K2 =
   some ([decide ((j:Int)<((y::r).length:Int))=true,(y::r).length=List.length ((y::r)),(0:Int)≤(j:Int)∧(j:Int)<(List.length ((y::r)):Int),0+1≤1,(IntKind.wrap .i64 ((Nat.cast:Nat→Int) (BitVec.toNat (BitVec.ofInt 64 ((i:Int))&&& BitVec.ofInt 64 (List.getD ((y::r)) (j) (E.z (Ob.e (Ob.mk E.int (y::r))))))))==List.getD ((y::r)) (j) (E.z (Ob.e (Ob.mk E.int (y::r)))))=true],Ex.exit 1,Ydu x m th wr s i j y r):=by kernel_rfl
theorem chB_2_end (x:FBook)(m:Mp)(th:List (List Int))(wr:List Int)(s:Nat)(i j:Nat)(y:Int)(r:List Int) :
  runK (MF 39) [(20,false)] [] [] (k_98 [1,0,1,1,0,1,0,0,1,1,0,0,1,0,1,0,0]) (Ydu x m th wr s i j y r) chB_K2 =
   some ([decide ((j:Int)<((y::r).length:Int))=false],Ex.exit 2,Ydu x m th wr s i j y r):=by kernel_rfl
theorem chB_0_skip (x:FBook)(m:Mp)(th:List (List Int))(wr:List Int)(s:Nat)(i:Nat)(y:Int)(r:List Int)(j:Nat) :
  runK (MF 39) [(15,true)] [] [(2,(chB_K2,(.exit 1,Ydu x m th wr s i j y r)))] (k_98 [1,0,1,1,0,1,0,0]) (chB_S0 x m th wr s i y r) chB_K0 =
   let Z0:=Int.toNat ((x.opn.length:Int));let Z1:=D.own 36 ((y::r).length);some ([decide ((i:Int)<(1:Int)*(2:Int) ^ Min.min Z0 64)=true,(y::r).length=List.length ((y::r)),LF 39 (k_98 [1,0,1,1,0,1,0,0,1,1,0,0,1,0,1]) [(.tmp 1,.d (D.I (s:Int))),(.tmp 2,.d (D.ptr 2 0)),(.tmp 5,.d Z1),(.tmp 6,.d (D.I (i:Int))),(.tmp 13,.d (D.I ((1:Int)*(2:Int) ^ Min.min Z0 64))),(.tmp 14,.d (D.I (i:Int))),(.tmp 17,.d Z1),(.tmp 18,.d (D.I ((List.length ((y::r)):Int)))),(.tmp 19,.d (D.I 0)),(.box 2,.bx (some (Box.mk false (cellsOf (fbkD x m th wr))))),(.obj 36,.ob (some (Ob.mk E.int (y::r))))] (Ex.exit 1) (Ydu x m th wr s i j y r),Yae ((i:Int)+(1:Int))],Ex.normal,chB_S0 x m th wr s (i+1) y r):=by kernel_rfl
theorem chB_0_no (x:FBook)(m:Mp)(th:List (List Int))(wr:List Int)(s:Nat)(i:Nat)(y:Int)(r:List Int)(j:Nat)(b:Bool) :
  runK (MF 39) [(15,true),(32,false)] [(32,.bool b)] [(2,(chB_K2,(.normal,Ydu x m th wr s i j y r)))] (k_98 [1,0,1,1,0,1,0,0]) (chB_S0 x m th wr s i y r) chB_K0 =
   let Z0:=Int.toNat ((x.opn.length:Int));let Z1:=D.own 36 ((y::r).length);some ([decide ((i:Int)<(1:Int)*(2:Int) ^ Min.min Z0 64)=true,(y::r).length=List.length ((y::r)),LF 39 (k_98 [1,0,1,1,0,1,0,0,1,1,0,0,1,0,1]) [(.tmp 1,.d (D.I (s:Int))),(.tmp 2,.d (D.ptr 2 0)),(.tmp 5,.d Z1),(.tmp 6,.d (D.I (i:Int))),(.tmp 13,.d (D.I ((1:Int)*(2:Int) ^ Min.min Z0 64))),(.tmp 14,.d (D.I (i:Int))),(.tmp 17,.d Z1),(.tmp 18,.d (D.I ((List.length ((y::r)):Int)))),(.tmp 19,.d (D.I 0)),(.box 2,.bx (some (Box.mk false (cellsOf (fbkD x m th wr))))),(.obj 36,.ob (some (Ob.mk E.int (y::r))))] Ex.normal (Ydu x m th wr s i j y r),CF 124 [fbkD x m th wr,D.I (s:Int),D.I (i:Int)] (D.bool b),b=false,Yae ((i:Int)+(1:Int))],Ex.normal,chB_S0 x m th wr s (i+1) y r):=by kernel_rfl
theorem chB_0_yes (x:FBook)(m:Mp)(th:List (List Int))(wr:List Int)(s:Nat)(i:Nat)(y:Int)(r:List Int)(j:Nat)(b:Bool) :
  runK (MF 39) [(15,true),(32,true)] [(32,.bool b)] [(2,(chB_K2,(.normal,Ydu x m th wr s i j y r)))] (k_98 [1,0,1,1,0,1,0,0]) (chB_S0 x m th wr s i y r) chB_K0 =
   let Z0:=Int.toNat ((x.opn.length:Int));let Z1:=D.own 36 ((y::r).length);some ([decide ((i:Int)<(1:Int)*(2:Int) ^ Min.min Z0 64)=true,(y::r).length=List.length ((y::r)),LF 39 (k_98 [1,0,1,1,0,1,0,0,1,1,0,0,1,0,1]) [(.tmp 1,.d (D.I (s:Int))),(.tmp 2,.d (D.ptr 2 0)),(.tmp 5,.d Z1),(.tmp 6,.d (D.I (i:Int))),(.tmp 13,.d (D.I ((1:Int)*(2:Int) ^ Min.min Z0 64))),(.tmp 14,.d (D.I (i:Int))),(.tmp 17,.d Z1),(.tmp 18,.d (D.I ((List.length ((y::r)):Int)))),(.tmp 19,.d (D.I 0)),(.box 2,.bx (some (Box.mk false (cellsOf (fbkD x m th wr))))),(.obj 36,.ob (some (Ob.mk E.int (y::r))))] Ex.normal (Ydu x m th wr s i j y r),CF 124 [fbkD x m th wr,D.I (s:Int),D.I (i:Int)] (D.bool b),b=true,(y::r).length=List.length ((y::r)),List.length ((y::r)++[(i:Int)])*(8+1)≤140737488355328,Yae ((i:Int)+(1:Int))],Ex.normal,chB_S0 x m th wr s (i+1) y (r++[(i:Int)])):=by kernel_rfl
theorem chB_0_end (x:FBook)(m:Mp)(th:List (List Int))(wr:List Int)(s:Nat)(i:Nat)(y:Int)(r:List Int) :
  runK (MF 39) [(15,false)] [] [] (k_98 [1,0,1,1,0,1,0,0]) (chB_S0 x m th wr s i y r) chB_K0 =
   some ([decide ((i:Int)<(1:Int)*(2:Int) ^ Min.min (Int.toNat ((x.opn.length:Int))) 64)=false],Ex.exit 0,chB_S0 x m th wr s i y r):=by kernel_rfl
theorem chA_2_end (x:FBook)(m:Mp)(th:List (List Int))(wr:List Int)(s:Nat)(i:Nat) :
  runK (MF 39) [(20,false)] [] [] (k_98 [1,0,1,1,0,1,0,0,1,1,0,0,1,0,1,0,0]) (chA_S2 x m th wr s i) chA_K2 =
   some ([decide ((0:Int)<(0:Int))=false],Ex.exit 2,chA_S2 x m th wr s i):=by kernel_rfl
theorem chA_0_no (x:FBook)(m:Mp)(th:List (List Int))(wr:List Int)(s:Nat)(i:Nat)(b:Bool) :
  runK (MF 39) [(15,true),(32,false)] [(32,.bool b)] [(2,(chA_K2,(.normal,chA_S2 x m th wr s i)))] (k_98 [1,0,1,1,0,1,0,0]) (chA_S0 x m th wr s i) chA_K0 =
   some ([decide ((i:Int)<(1:Int)*(2:Int) ^ Min.min (Int.toNat ((x.opn.length:Int))) 64)=true,LF 39 (k_98 [1,0,1,1,0,1,0,0,1,1,0,0,1,0,1]) (chA_S2 x m th wr s i) Ex.normal (chA_S2 x m th wr s i),CF 124 [fbkD x m th wr,D.I (s:Int),D.I (i:Int)] (D.bool b),b=false,Yae ((i:Int)+(1:Int))],Ex.normal,chA_S0 x m th wr s (i+1)):=by kernel_rfl
theorem chA_0_yes (x:FBook)(m:Mp)(th:List (List Int))(wr:List Int)(s:Nat)(i:Nat)(b:Bool) :
  runK (MF 39) [(15,true),(32,true)] [(32,.bool b)] [(2,(chA_K2,(.normal,chA_S2 x m th wr s i)))] (k_98 [1,0,1,1,0,1,0,0]) (chA_S0 x m th wr s i) chB_K0 =
   some ([decide ((i:Int)<(1:Int)*(2:Int) ^ Min.min (Int.toNat ((x.opn.length:Int))) 64)=true,LF 39 (k_98 [1,0,1,1,0,1,0,0,1,1,0,0,1,0,1]) (chA_S2 x m th wr s i) Ex.normal (chA_S2 x m th wr s i),CF 124 [fbkD x m th wr,D.I (s:Int),D.I (i:Int)] (D.bool b),b=true,1*(8+1)≤140737488355328,Yae ((i:Int)+(1:Int))],Ex.normal,chB_S0 x m th wr s (i+1) (i:Int) []):=by kernel_rfl
theorem chA_0_end (x:FBook)(m:Mp)(th:List (List Int))(wr:List Int)(s:Nat)(i:Nat) :
  runK (MF 39) [(15,false)] [] [] (k_98 [1,0,1,1,0,1,0,0]) (chA_S0 x m th wr s i) chA_K0 =
   some ([decide ((i:Int)<(1:Int)*(2:Int) ^ Min.min (Int.toNat ((x.opn.length:Int))) 64)=false],Ex.exit 0,chA_S0 x m th wr s i):=by kernel_rfl
theorem cmpW_0_on (p q:List Work)(i:Nat)(c:Int) :
  runK (MF 39) [(14,true),(21,false),(31,false)] [(29,.I c)] [] (k_123 [1,0,1,0,0]) (Ycn p q i) cmpW_K0 =
   some ([decide ((i:Int)<(p.length:Int))=true,(0:Int)≤(i:Int)∧(i:Int)<(p.length:Int),0+2≤2,decide ((i:Int)≥(q.length:Int))=false,(0:Int)≤(i:Int)∧(i:Int)<(q.length:Int),0+2≤2,0+2≤2,0+2≤2,CF 82 [D.agg [D.I (Work.d (List.getD p (i) Yak)),D.I (Work.s (List.getD p (i) Yak))],D.agg [D.I (Work.d (List.getD q (i) Yak)),D.I (Work.s (List.getD q (i) Yak))]] (D.I c),(c != (0:Int))=false,Yae ((i:Int)+(1:Int))],Ex.normal,Ycn p q (i+1)):=by kernel_rfl
theorem cmpW_0_long (p q:List Work)(i:Nat) :
  runK (MF 39) [(14,true),(21,true)] [] [] (k_123 [1,0,1,0,0]) (Ycn p q i) [.tmp 0,.tmp 1,.tmp 2,.tmp 11,.tmp 12,.tmp 13,.tmp 6] =
   some ([decide ((i:Int)<(p.length:Int))=true,(0:Int)≤(i:Int)∧(i:Int)<(p.length:Int),0+2≤2,decide ((i:Int)≥(q.length:Int))=true],Ex.ret,cmpW_T0_long p q i ):=by kernel_rfl
theorem cmpW_0_ne (p q:List Work)(i:Nat)(c:Int) :
  runK (MF 39) [(14,true),(21,false),(31,true)] [(29,.I c)] [] (k_123 [1,0,1,0,0]) (Ycn p q i) [.tmp 0,.tmp 1,.tmp 2,.tmp 11,.tmp 12,.tmp 13,.tmp 6] =
   some ([decide ((i:Int)<(p.length:Int))=true,(0:Int)≤(i:Int)∧(i:Int)<(p.length:Int),0+2≤2,decide ((i:Int)≥(q.length:Int))=false,(0:Int)≤(i:Int)∧(i:Int)<(q.length:Int),0+2≤2,0+2≤2,0+2≤2,CF 82 [D.agg [D.I (Work.d (List.getD p (i) Yak)),D.I (Work.s (List.getD p (i) Yak))],D.agg [D.I (Work.d (List.getD q (i) Yak)),D.I (Work.s (List.getD q (i) Yak))]] (D.I c),(c != (0:Int))=true],Ex.ret,cmpW_T0_ne p q i c):=by kernel_rfl
theorem cmpW_0_end (p q:List Work)(i:Nat) :
  runK (MF 39) [(14,false)] [] [] (k_123 [1,0,1,0,0]) (Ycn p q i) cmpW_K0 =
   some ([decide ((i:Int)<(p.length:Int))=false],Ex.exit 0,Ycn p q i):=by kernel_rfl
theorem planA_zero (x:FBook)(m:Mp)(th:List (List Int))(wr:List Int)(on:W4) :
  Yai (MF 45) [(11,true)] [(10,wD 0 0 0 0)] [] (body Tryz.f100) [.tmp 4] [fbkD x m th wr,setsD on] =
   some ([0+4≤4,CF 101 [] (D.agg [D.I 0,D.I 0,D.I 0,D.I 0]),eqI [W4.a on,W4.b on,W4.c on,W4.d on] [(0:Int),(0:Int),(0:Int),(0:Int)]=true],D.sl true E.work []):=by kernel_rfl
theorem planA_none (x:FBook)(m:Mp)(th:List (List Int))(wr:List Int)(on:W4)(k:Nat) :
  Yai (MF 45) [(11,false)] [(10,wD 0 0 0 0)] [(0,(planA_K0,(.normal,Yef x m th wr on k)))] (body Tryz.f100) [.tmp 4] [fbkD x m th wr,setsD on] =
   some ([0+4≤4,CF 101 [] (D.agg [D.I 0,D.I 0,D.I 0,D.I 0]),eqI [W4.a on,W4.b on,W4.c on,W4.d on] [(0:Int),(0:Int),(0:Int),(0:Int)]=false,LF 45 (Ygp [1,1,1,0,1]) (Yef x m th wr on 0) Ex.normal (Yef x m th wr on k)],D.sl true E.work []):=by kernel_rfl
theorem planA_some (x:FBook)(m:Mp)(th:List (List Int))(wr:List Int)(on:W4)(k:Nat)(y:Work)(r:List Work) :
  Yai (MF 45) [(11,false)] [(10,wD 0 0 0 0)] [(0,(planA_K0,(.normal,Yfz x m th wr on k y r)))] (body Tryz.f100) [.tmp 4] [fbkD x m th wr,setsD on] =
   some ([0+4≤4,CF 101 [] (D.agg [D.I 0,D.I 0,D.I 0,D.I 0]),eqI [W4.a on,W4.b on,W4.c on,W4.d on] [(0:Int),(0:Int),(0:Int),(0:Int)]=false,LF 45 (Ygp [1,1,1,0,1]) (Yef x m th wr on 0) Ex.normal (Yfz x m th wr on k y r),(y::r).length=List.length ((y::r))],D.sl false E.work ((y::r))):=by kernel_rfl
theorem keeps_yes (x:FBook)(m:Mp)(th:List (List Int))(wr:List Int)(s:Nat)(set:Int)(plan:List Work)(i:Nat) :
  Yai (MF 36) [] [(10,wD 0 0 0 0),(16,.sl false .work plan)] [(1002,(keeps_RK2,(.normal,Ydy x m th wr s set))),(0,(keeps_K0,(.normal,Yc8 x m th wr s set plan i)))] (body Tryz.f124) [.tmp 6] [fbkD x m th wr,.I (s:Int),.I set] =
   some ([CF 101 [] (D.agg [D.I 0,D.I 0,D.I 0,D.I 0]),LF 36 (k_124 [1,1,0]) [(.tmp 1,.d (D.I (s:Int))),(.tmp 2,.d (D.I set)),(.tmp 3,.d (D.ptr 3 0)),(.tmp 7,.d (D.ptr 7 0)),(.box 3,.bx (some (Box.mk false (cellsOf (fbkD x m th wr))))),(.box 7,.bx (some (Box.mk false [D.I 0,D.I 0,D.I 0,D.I 0])))] Ex.normal (Ydy x m th wr s set),0+4≤4,CF 100 [fbkD x m th wr,D.agg [D.I (W4.a (W4.set zeroW s set)),D.I (W4.b (W4.set zeroW s set)),D.I (W4.c (W4.set zeroW s set)),D.I (W4.d (W4.set zeroW s set))]] (D.sl false E.work plan),Yae (x.chain.days+(1:Int)),LF 36 (k_124 [1,1,1,1,0,1]) (Yc8 x m th wr s set plan 0) Ex.normal (Yc8 x m th wr s set plan i)],D.bool true):=by kernel_rfl
theorem keeps_no (x:FBook)(m:Mp)(th:List (List Int))(wr:List Int)(s:Nat)(set:Int)(plan:List Work)(i:Nat)(v:Int) :
  Yai (MF 36) [] [(10,wD 0 0 0 0),(16,.sl false .work plan)] [(1002,(keeps_RK2,(.normal,Ydy x m th wr s set))),(0,(keeps_K0,(.ret,keeps_T0_hit x m th wr s set plan i v)))] (body Tryz.f124) [.tmp 6] [fbkD x m th wr,.I (s:Int),.I set] =
   some ([CF 101 [] (D.agg [D.I 0,D.I 0,D.I 0,D.I 0]),LF 36 (k_124 [1,1,0]) [(.tmp 1,.d (D.I (s:Int))),(.tmp 2,.d (D.I set)),(.tmp 3,.d (D.ptr 3 0)),(.tmp 7,.d (D.ptr 7 0)),(.box 3,.bx (some (Box.mk false (cellsOf (fbkD x m th wr))))),(.box 7,.bx (some (Box.mk false [D.I 0,D.I 0,D.I 0,D.I 0])))] Ex.normal (Ydy x m th wr s set),0+4≤4,CF 100 [fbkD x m th wr,D.agg [D.I (W4.a (W4.set zeroW s set)),D.I (W4.b (W4.set zeroW s set)),D.I (W4.c (W4.set zeroW s set)),D.I (W4.d (W4.set zeroW s set))]] (D.sl false E.work plan),Yae (x.chain.days+(1:Int)),LF 36 (k_124 [1,1,1,1,0,1]) (Yc8 x m th wr s set plan 0) Ex.ret (keeps_T0_hit x m th wr s set plan i v)],D.bool false):=by kernel_rfl
theorem chA_none (x:FBook)(m:Mp)(th:List (List Int))(wr:List Int)(s:Nat)(i:Nat) :
  Yai (MF 39) [] [] [(0,(chA_K0,(.normal,chA_S0 x m th wr s i)))] (body Tryz.f98) [.tmp 4] [fbkD x m th wr,.I (s:Int)] =
   some ([(0:Int)≤(x.opn.length:Int)∧Yae ((1:Int)*(2:Int) ^ Min.min (Int.toNat ((x.opn.length:Int))) 64),LF 39 (k_98 [1,0,1,1,0,1]) (chA_S0 x m th wr s 0) Ex.normal (chA_S0 x m th wr s i)],D.sl true E.int []):=by kernel_rfl
theorem chA_some (x:FBook)(m:Mp)(th:List (List Int))(wr:List Int)(s:Nat)(i:Nat)(y:Int)(r:List Int) :
  Yai (MF 39) [] [] [(0,(chA_K0,(.normal,chB_S0 x m th wr s i y r)))] (body Tryz.f98) [.tmp 4] [fbkD x m th wr,.I (s:Int)] =
   some ([(0:Int)≤(x.opn.length:Int)∧Yae ((1:Int)*(2:Int) ^ Min.min (Int.toNat ((x.opn.length:Int))) 64),LF 39 (k_98 [1,0,1,1,0,1]) (chA_S0 x m th wr s 0) Ex.normal (chB_S0 x m th wr s i y r),(y::r).length=List.length ((y::r))],D.sl false E.int ((y::r))):=by kernel_rfl
theorem cmpW_less (p q:List Work)(i:Nat) :
  Yai (MF 39) [(38,true)] [] [(0,(cmpW_K0,(.normal,Ycn p q i)))] (body Tryz.f123) [.tmp 6] [.sl false .work p,.sl false .work q,.fn 82 [] []] =
   some ([LF 39 (k_123 [1,0,1]) (Ycn p q 0) Ex.normal (Ycn p q i),decide ((p.length:Int)<(q.length:Int))=true],D.I (-(1:Int))):=by kernel_rfl
theorem cmpW_same (p q:List Work)(i:Nat) :
  Yai (MF 39) [(38,false)] [] [(0,(cmpW_K0,(.normal,Ycn p q i)))] (body Tryz.f123) [.tmp 6] [.sl false .work p,.sl false .work q,.fn 82 [] []] =
   some ([LF 39 (k_123 [1,0,1]) (Ycn p q 0) Ex.normal (Ycn p q i),decide ((p.length:Int)<(q.length:Int))=false],D.I 0):=by kernel_rfl
theorem cmpW_long (p q:List Work)(i:Nat) :
  Yai (MF 39) [] [] [(0,(cmpW_K0,(.ret,cmpW_T0_long p q i)))] (body Tryz.f123) [.tmp 6] [.sl false .work p,.sl false .work q,.fn 82 [] []] =
   some ([LF 39 (k_123 [1,0,1]) (Ycn p q 0) Ex.ret (cmpW_T0_long p q i)],D.I 1):=by kernel_rfl
theorem cmpW_ne (p q:List Work)(i:Nat)(c:Int) :
  Yai (MF 39) [] [] [(0,(cmpW_K0,(.ret,cmpW_T0_ne p q i c)))] (body Tryz.f123) [.tmp 6] [.sl false .work p,.sl false .work q,.fn 82 [] []] =
   some ([LF 39 (k_123 [1,0,1]) (Ycn p q 0) Ex.ret (cmpW_T0_ne p q i c)],D.I c):=by kernel_rfl
theorem fewest_all (x:FBook)(m:Mp)(th:List (List Int))(wr:List Int) :
  Yai (MF 5) [] [] [] (body Tryz.f96) [.cell 2 124] [fbkD x m th wr] =
   some ([],D.agg [D.fn 122 [] [(cellsOf (fbkD x m th wr))]]):=by kernel_rfl
theorem fewest1_lt (x:FBook)(m:Mp)(th:List (List Int))(wr:List Int)(p q:List Work)(a b c:Int) :
  Yai (MF 28) [(17,true)] [(10,.I a),(13,.I b),(24,.I c)] [] (body Tryz.f122) [.tmp 5] [.sl false .work p,.sl false .work q,.ref (cellsOf (fbkD x m th wr)) 0] =
   let Z0:Prop:=decide (a<b)=true;some ([CF 65 [fbkD x m th wr,D.sl false E.work p] (D.I a),CF 65 [fbkD x m th wr,D.sl false E.work q] (D.I b),Z0,Z0,Z0,Z0,Z0,Z0],D.bool true):=by kernel_rfl
theorem fewest1_gt (x:FBook)(m:Mp)(th:List (List Int))(wr:List Int)(p q:List Work)(a b c:Int) :
  Yai (MF 28) [(17,false),(21,false)] [(10,.I a),(13,.I b),(24,.I c)] [] (body Tryz.f122) [.tmp 5] [.sl false .work p,.sl false .work q,.ref (cellsOf (fbkD x m th wr)) 0] =
   let Z0:Prop:=decide (a<b)=false;some ([CF 65 [fbkD x m th wr,D.sl false E.work p] (D.I a),CF 65 [fbkD x m th wr,D.sl false E.work q] (D.I b),Z0,Z0,Z0,Z0,(a==b)=false,(a==b)=false,(a==b)=false,(a==b)=false,Z0,(a==b)=false,Z0],D.bool false):=by kernel_rfl
theorem fewest1_eq (x:FBook)(m:Mp)(th:List (List Int))(wr:List Int)(p q:List Work)(a b c:Int) :
  Yai (MF 28) [(17,false),(21,true)] [(10,.I a),(13,.I b),(24,.I c)] [] (body Tryz.f122) [.tmp 5] [.sl false .work p,.sl false .work q,.ref (cellsOf (fbkD x m th wr)) 0] =
   let Z0:Prop:=decide (a<b)=false;some ([CF 65 [fbkD x m th wr,D.sl false E.work p] (D.I a),CF 65 [fbkD x m th wr,D.sl false E.work q] (D.I b),Z0,Z0,Z0,Z0,(a==b)=true,(a==b)=true,(a==b)=true,CF 123 [D.sl false E.work p,D.sl false E.work q,D.fn 82 [] []] (D.I c),(a==b)=true,Z0,(a==b)=true,Z0],D.bool (decide (c<(0:Int)))):=by kernel_rfl
theorem fplans_all (x:FBook)(m:Mp)(th:List (List Int))(wr:List Int) :
  Yai (MF 4) [] [] [] (body Tryz.f70) [.tmp 2] [fbkD x m th wr] =
   some ([],D.fn 97 [] [(cellsOf (fbkD x m th wr))]):=by kernel_rfl
theorem keeps_r0 (x:FBook)(m:Mp)(th:List (List Int))(wr:List Int)(set:Int) :
  runK (MF 36) [] [] [] (k_124 [1,1,0]) (keeps_R2 x m th wr 0 set) keeps_RO2 =
   some ([(0:Int)≤(Nat.cast:Nat→Int) 0∧(Nat.cast:Nat→Int) 0<(Nat.cast:Nat→Int) 4],.normal,Ydy x m th wr 0 set):=by kernel_rfl
theorem keeps_r1 (x:FBook)(m:Mp)(th:List (List Int))(wr:List Int)(set:Int) :
  runK (MF 36) [] [] [] (k_124 [1,1,0]) (keeps_R2 x m th wr 1 set) keeps_RO2 =
   some ([(0:Int)≤(Nat.cast:Nat→Int) 1∧(Nat.cast:Nat→Int) 1<(Nat.cast:Nat→Int) 4],.normal,Ydy x m th wr 1 set):=by kernel_rfl
theorem keeps_r2 (x:FBook)(m:Mp)(th:List (List Int))(wr:List Int)(set:Int) :
  runK (MF 36) [] [] [] (k_124 [1,1,0]) (keeps_R2 x m th wr 2 set) keeps_RO2 =
   some ([(0:Int)≤(Nat.cast:Nat→Int) 2∧(Nat.cast:Nat→Int) 2<(Nat.cast:Nat→Int) 4],.normal,Ydy x m th wr 2 set):=by kernel_rfl
theorem keeps_r3 (x:FBook)(m:Mp)(th:List (List Int))(wr:List Int)(set:Int) :
  runK (MF 36) [] [] [] (k_124 [1,1,0]) (keeps_R2 x m th wr 3 set) keeps_RO2 =
   some ([(0:Int)≤(Nat.cast:Nat→Int) 3∧(Nat.cast:Nat→Int) 3<(Nat.cast:Nat→Int) 4],.normal,Ydy x m th wr 3 set):=by kernel_rfl
end Go.Di

namespace Go.Di
open Proofs
theorem LF.leaves {n id k:Nat}{b c:Code}(hk:k≠id)(hb:b=.block id (.loop c))(N:Nat)(S:Nat→List (Key×Val)){L':List (Key×Val)}
  (on:∀ i,i<N→∃ dec orc lorc ks ps L1,runK (MF n) dec orc lorc c (S i) ks=some (ps,.normal,L1)∧allP ps∧L1=S (i+1))
  (fin:∃ dec orc lorc ks ps L1,runK (MF n) dec orc lorc c (S N) ks=some (ps,.exit k,L1)∧allP ps∧L1=L'):LF n b (S 0) (.exit k) L':=by
 subst hb
 refine LoopT.rounds (tt:=Yac Ybb) (S:=fun i:{i:Nat // i≤N}=>S i.1) (fun i=>N-i.1) ?_ ⟨0,Nat.zero_le _⟩
 rintro⟨i,hi⟩
 by_cases hlt:i<N
 ·obtain⟨dec,orc,lorc,ks,ps,L1,h1,h2,h3⟩:=on i hlt
  exact WpL.path (GF n) h1 h2 ⟨⟨i+1,hlt⟩,h3,by dsimp only;omega⟩
 ·obtain rfl:i=N:=by omega
  obtain⟨dec,orc,lorc,ks,ps,L1,h1,h2,h3⟩:=fin
  refine WpL.path (GF n) h1 h2 ?_
  show if k=id then _ else _
  rw[if_neg hk]
  exact⟨rfl,h3⟩
def plS0 (x:FBook)(m:Mp)(th:List (List Int))(wr:List Int)(on:W4)(k:Nat):List Work→List (Key×Val)
 | []=>Yef x m th wr on k
 | y::r=>Yfz x m th wr on k y r
def plS2 (x:FBook)(m:Mp)(th:List (List Int))(wr:List Int)(on:W4)(k s:Nat)(d:Int):List Work→List (Key×Val)
 | []=>Yf0 x m th wr on k s d
 | y::r=>Ydg x m th wr on k s d y r
theorem Ygb (x:FBook)(on:W4)(k:Nat)(l:List Work):∀ s,(Yau x on k l s).length≤l.length+s
 | 0=>Nat.le_refl _
 | s+1=>by
  have:=Ygb x on k l s
  simp only[Yau]
  split
  ·rw[List.length_append,List.length_singleton];omega
  ·omega
theorem Yha (x:FBook)(on:W4):∀ k,(Ybh x on k).length≤k*x.feet.length
 | 0=>by simp[Ybh]
 | k+1=>by
  have h1:=Yha x on k
  have h2:=Ygb x on k (Ybh x on k) x.feet.length
  simp only[Ybh]
  rw[Nat.succ_mul]
  omega
theorem fdiv_zero (k:Nat):bitF 0 k=false:=by
 unfold bitF
 rw[Int.zero_fdiv]
 rfl
theorem get_zero (s:Nat):W4.get ⟨0,0,0,0⟩ s=0:=by
 match s with
 | 0=>rfl
 | 1=>rfl
 | 2=>rfl
 | 3=>rfl
 | _+4=>rfl
theorem plannedDay_zero (x:FBook)(k:Nat)(l:List Work):∀ s,Yau x ⟨0,0,0,0⟩ k l s=l
 | 0=>rfl
 | s+1=>by simp only[Yau,get_zero,fdiv_zero,Bool.false_eq_true,if_false];exact plannedDay_zero x k l s
theorem planned_zero (x:FBook):∀ k,Ybh x ⟨0,0,0,0⟩ k=[]
 | 0=>rfl
 | k+1=>by simp only[Ybh,plannedDay_zero,planned_zero x k]
theorem Contract.weaken {f:FuncId}{args:List D}{e:E}{xs:List e.α}(h:CF f args (.sl true e xs)):CF f args (.sl false e xs) :=
 h.toRes fun R w v hr=>relA_weaken hr
theorem planned_con {x:FBook}(hx:FIn x)(m:Mp)(th:List (List Int))(wr:List Int)(on:W4):CF 100 [fbkD x m th wr,setsD on] (.sl false .work (Ya4 x on)):=by
 have hn:=hx.n
 have ho:=hx.opnl
 cases hz:eqI [on.a,on.b,on.c,on.d] [0,0,0,0] with
 | true =>
  have h0:=(eqI_iff _ _).1 hz
  simp only[List.cons.injEq,and_true]at h0
  have hon:on=⟨0,0,0,0⟩:=by cases on;simp only at h0;simp[h0]
  have he:Ya4 x on=[]:=by rw[hon];exact planned_zero x _
  rw[he]
  exact Contract.weaken (Yaa (GF 45) planA_fn (planA_zero x m th wr on) ⟨by omega,Yfb,hz,trivial⟩)
 | false =>
  have hloop:LF 45 (Ygp [1,1,1,0,1]) (plS0 x m th wr on 0 (Ybh x on 0)) .normal (plS0 x m th wr on x.opn.length (Ya4 x on)):=by
   refine LF.each (id:=0) (c:=Ygp [1,1,1,0,1,0,0]) (by kernel_rfl) x.opn.length (fun k=>plS0 x m th wr on k (Ybh x on k)) (fun k hk=>?_) ?_
   ·have hlen:=Yha x on k
    have hlen':(Ybh x on k).length≤20:=Nat.le_trans hlen (Nat.le_trans (Nat.mul_le_mul (show k≤5 by omega) hn.2) (by decide))
    have hin:∀ l,l.length≤20→LF 45 (Ygp [1,1,1,0,1,0,0,1,1,0,0,1,1]) (plS2 x m th wr on k 0 (x.opn.getD k 0) l) .normal (plS2 x m th wr on k x.feet.length (x.opn.getD k 0) (Yau x on k l x.feet.length)):=by
     intro l hl
     refine LF.each (id:=2) (c:=Ygp [1,1,1,0,1,0,0,1,1,0,0,1,1,0,0]) (by kernel_rfl) x.feet.length (fun s=>plS2 x m th wr on k s (x.opn.getD k 0) (Yau x on k l s)) (fun s hs=>?_) ?_
     ·have hl2:=Ygb x on k l s
      have hix:0+s*1=s:=by omega
      have hi1:0+s*1+1≤4:=by omega
      cases hb:bitF (on.get s) k with
      | true =>
       have hb':(IntKind.wrap .i64 ((BitVec.toNat (BitVec.ofInt 64 (Int.fdiv (List.getD [W4.a on,W4.b on,W4.c on,W4.d on] (0+s*1) (0:Int)) ((2:Int) ^ Min.min k 64))&&& BitVec.ofInt 64 (1:Int)):Nat):Int)==(1:Int))=true:=by rw[hix];exact hb
       have hn2:Yau x on k l (s+1)=Yau x on k l s++[⟨x.opn.getD k 0,(s:Int)⟩]:=by simp only[Yau,hb,if_true]
       simp only[hn2]
       cases he:Yau x on k l s with
       | nil=>exact⟨_,_,_,_,_,_,planA_2_yes x m th wr on k s (x.opn.getD k 0),⟨Yaq hs,⟨by omega,by omega⟩,hi1,by omega,hb',by omega,Yap (by omega) (by omega),trivial⟩,rfl⟩
       | cons y r =>
        rw[he]at hl2
        exact⟨_,_,_,_,_,_,planB_2_yes x m th wr on k s (x.opn.getD k 0) y r,⟨Yaq hs,⟨by omega,by omega⟩,hi1,by omega,hb',rfl,by rw[List.length_append,List.length_singleton];omega,Yap (by omega) (by omega),trivial⟩,rfl⟩
      | false =>
       have hb':(IntKind.wrap .i64 ((BitVec.toNat (BitVec.ofInt 64 (Int.fdiv (List.getD [W4.a on,W4.b on,W4.c on,W4.d on] (0+s*1) (0:Int)) ((2:Int) ^ Min.min k 64))&&& BitVec.ofInt 64 (1:Int)):Nat):Int)==(1:Int))=false:=by rw[hix];exact hb
       have hn2:Yau x on k l (s+1)=Yau x on k l s:=by simp only[Yau,hb,Bool.false_eq_true,if_false]
       simp only[hn2]
       cases he:Yau x on k l s with
       | nil=>exact⟨_,_,_,_,_,_,planA_2_no x m th wr on k s (x.opn.getD k 0),⟨Yaq hs,⟨by omega,by omega⟩,hi1,by omega,hb',Yap (by omega) (by omega),trivial⟩,rfl⟩
       | cons y r=>exact⟨_,_,_,_,_,_,planB_2_no x m th wr on k s (x.opn.getD k 0) y r,⟨Yaq hs,⟨by omega,by omega⟩,hi1,by omega,hb',Yap (by omega) (by omega),trivial⟩,rfl⟩
     ·cases Yau x on k l x.feet.length with
      | nil=>exact⟨_,_,_,_,_,_,_,planA_2_end x m th wr on k _ _,⟨Yaz,trivial⟩,.inl ⟨rfl,rfl⟩,rfl⟩
      | cons y r=>exact⟨_,_,_,_,_,_,_,planB_2_end x m th wr on k _ _ y r,⟨Yaz,trivial⟩,.inl ⟨rfl,rfl⟩,rfl⟩
    have hin:=hin _ hlen'
    have he:Ybh x on (k+1)=Yau x on k (Ybh x on k) x.feet.length:=rfl
    simp only[he]
    cases h1:Ybh x on k with
    | nil =>
     rw[h1]at hin
     cases h2:Yau x on k [] x.feet.length with
     | nil =>
      rw[h2]at hin
      exact⟨_,_,_,_,_,_,planA_0_on x m th wr on k x.feet.length,⟨Yaq hk,⟨by omega,by omega⟩,by omega,hin,Yap (by omega) (by omega),trivial⟩,rfl⟩
     | cons y r =>
      rw[h2]at hin
      exact⟨_,_,_,_,_,_,planA_0_new x m th wr on k x.feet.length y r,⟨Yaq hk,⟨by omega,by omega⟩,by omega,hin,Yap (by omega) (by omega),trivial⟩,rfl⟩
    | cons y r =>
     rw[h1]at hin
     obtain⟨y',r',h2⟩:∃ y' r',Yau x on k (y::r) x.feet.length=y'::r':=by
      have hpre:∀ s,∃ z,Yau x on k (y::r) s=(y::r)++z:=by
       intro s
       induction s with
       | zero=>exact⟨[],by simp[Yau]⟩
       | succ s ih =>
        obtain⟨z,hz⟩:=ih
        simp only[Yau,hz]
        split
        ·exact⟨z++[⟨x.opn.getD k 0,(s:Int)⟩],by rw[List.append_assoc]⟩
        ·exact⟨z,rfl⟩
      obtain⟨z,hz⟩:=hpre x.feet.length
      exact⟨y,r++z,by rw[hz];rfl⟩
     rw[h2]at hin ⊢
     exact⟨_,_,_,_,_,_,planB_0_on x m th wr on k y r x.feet.length y' r',⟨Yaq hk,⟨by omega,by omega⟩,by omega,hin,Yap (by omega) (by omega),trivial⟩,rfl⟩
   ·rw[show Ya4 x on=Ybh x on x.opn.length from rfl]
    cases Ybh x on x.opn.length with
    | nil=>exact⟨_,_,_,_,_,_,_,planA_0_end x m th wr on _,⟨Yaz,trivial⟩,.inl ⟨rfl,rfl⟩,rfl⟩
    | cons y r=>exact⟨_,_,_,_,_,_,_,planB_0_end x m th wr on _ y r,⟨Yaz,trivial⟩,.inl ⟨rfl,rfl⟩,rfl⟩
  cases hp:Ya4 x on with
  | nil =>
   rw[hp]at hloop
   exact Contract.weaken (Yaa (GF 45) planA_fn (planA_none x m th wr on x.opn.length) ⟨by omega,Yfb,hz,hloop,trivial⟩)
  | cons y r =>
   rw[hp]at hloop
   exact Yaa (GF 45) planA_fn (planA_some x m th wr on x.opn.length y r) ⟨by omega,Yfb,hz,hloop,rfl,trivial⟩
end Go.Di

namespace Go.Di
open Proofs
theorem plannedDay_mem (x:FBook)(on:W4)(k:Nat)(l:List Work)(w:Work):∀ s,w∈Yau x on k l s↔w∈l∨∃ j,j<s∧bitF (on.get j) k=true∧w=⟨x.opn.getD k 0,(j:Int)⟩
 | 0=>by
  simp only[Yau]
  exact⟨.inl,fun h=>h.elim id fun⟨j,hj,_⟩=>by omega⟩
 | s+1=>by
  have ih:=plannedDay_mem x on k l w s
  simp only[Yau]
  cases hb:bitF (on.get s) k with
  | true =>
   simp only[if_true,List.mem_append,List.mem_singleton,ih]
   constructor
   ·rintro((h|⟨j,hj,h⟩)|h)
    ·exact .inl h
    ·exact .inr ⟨j,by omega,h⟩
    ·exact .inr ⟨s,by omega,hb,h⟩
   ·rintro(h|⟨j,hj,h1,h2⟩)
    ·exact .inl (.inl h)
    ·by_cases hjs:j=s
     ·subst hjs;exact .inr h2
     ·exact .inl (.inr ⟨j,by omega,h1,h2⟩)
  | false =>
   simp only[Bool.false_eq_true,if_false,ih]
   refine or_congr_right ⟨fun⟨j,hj,h⟩=>⟨j,by omega,h⟩,fun⟨j,hj,h1,h2⟩=>?_⟩
   by_cases hjs:j=s
   ·subst hjs;rw[hb]at h1;cases h1
   ·exact⟨j,by omega,h1,h2⟩
theorem plannedTo_mem (x:FBook)(on:W4)(w:Work):∀ n,w∈Ybh x on n↔∃ k j,k<n∧j<x.feet.length∧bitF (on.get j) k=true∧w=⟨x.opn.getD k 0,(j:Int)⟩
 | 0=>by
  simp only[Ybh]
  exact⟨fun h=>(by cases h),fun⟨k,_,hk,_⟩=>by omega⟩
 | n+1=>by
  simp only[Ybh,plannedDay_mem,plannedTo_mem x on w n]
  constructor
  ·rintro(⟨k,j,h1,h2⟩|⟨j,h1,h2⟩)
   ·exact⟨k,j,by omega,h2⟩
   ·exact⟨n,j,by omega,h1,h2⟩
  ·rintro⟨k,j,h1,h2,h3⟩
   by_cases hk:k=n
   ·subst hk;exact .inr ⟨j,h2,h3⟩
   ·exact .inl ⟨k,j,by omega,h2,h3⟩
theorem planned_mem {x:FBook}{on:W4}{w:Work}:w∈Ya4 x on↔∃ k j,k<x.opn.length∧j<x.feet.length∧bitF (on.get j) k=true∧w=⟨x.opn.getD k 0,(j:Int)⟩:=plannedTo_mem x on w _
theorem planned_ok {x:FBook}(hx:FIn x)(on:W4):PlanOk x (Ya4 x on):=by
 have hn:=hx.n
 have hl:=Yha x on x.opn.length
 refine⟨Nat.le_trans hl (Nat.le_trans (Nat.mul_le_mul hx.opnl hn.2) (by decide)),fun w hw=>?_⟩
 obtain⟨k,j,hk,hj,_,rfl⟩:=planned_mem.1 hw
 exact⟨⟨by show(0:Int)≤(j:Int);omega,by show(j:Int)<_;omega⟩,hx.opn _ (Yc0 0 hk)⟩
theorem keeps_region (x:FBook)(m:Mp)(th:List (List Int))(wr:List Int)(s:Nat)(hs:s<4)(set:Int):LF 36 (k_124 [1,1,0]) (keeps_R2 x m th wr s set) .normal (Ydy x m th wr s set):=by
 have h4:s=0∨s=1∨s=2∨s=3:=by omega
 rcases h4 with rfl|rfl|rfl|rfl
 ·exact joinF (keeps_r0 x m th wr set) ⟨by omega,trivial⟩ rfl
 ·exact joinF (keeps_r1 x m th wr set) ⟨by omega,trivial⟩ rfl
 ·exact joinF (keeps_r2 x m th wr set) ⟨by omega,trivial⟩ rfl
 ·exact joinF (keeps_r3 x m th wr set) ⟨by omega,trivial⟩ rfl
theorem keeps_con {x:FBook}{th:List (List Int)}{wr:List Int}(hx:FIn x)(hk:KnOk x th wr)(m:Mp){s:Nat}(hs:s<x.feet.length)(set:Int):CF 124 [fbkD x m th wr,.int .i64 (s:Int),.int .i64 set] (.bool (keepsF x th wr s set)):=by
 have hn:=hx.n
 have hd:=hx.days
 have hreg:=keeps_region x m th wr s (by omega) set
 have hp:=planned_con hx m th wr (zeroW.set s set)
 have hle:∀ d:Nat,(d:Int)≤x.chain.days→CF 48 [fbkD x m th wr,.sl false .work (Ya4 x (zeroW.set s set)),.int .i64 (s:Int),.int .i64 (d:Int)] (.int .i64 (Yc5 x th wr (Ya4 x (zeroW.set s set)) s d)):=fun d hdd=>fleast_con hx hk m (planned_ok hx _) s d ⟨by omega,by omega⟩ ⟨by omega,hdd⟩
 have hcode:k_124 [1,1,1,1,0,1]=.block 0 (.loop (k_124 [1,1,1,1,0,1,0,0])):=by kernel_rfl
 have hon:∀ d:Nat,(d:Int)≤x.chain.days→(!(decide (Yc5 x th wr (Ya4 x (zeroW.set s set)) s d<x.chain.rule)))=true→∃ dec orc lorc ks ps L1,runK (MF 36) dec orc lorc (k_124 [1,1,1,1,0,1,0,0]) (Yc8 x m th wr s set (Ya4 x (zeroW.set s set)) d) ks=some (ps,.normal,L1)∧allP ps∧L1=Yc8 x m th wr s set (Ya4 x (zeroW.set s set)) (d+1):=fun d hdd hb =>
  ⟨_,_,_,_,_,_,keeps_0_on x m th wr s set _ d _,⟨decide_eq_true (by omega),hle d hdd,by simpa using hb,Yap (by omega) (by omega),trivial⟩,rfl⟩
 unfold keepsF
 rcases all_first (fun d=>!(decide (Yc5 x th wr (Ya4 x (zeroW.set s set)) s d<x.chain.rule))) (x.chain.days+1).toNat with ⟨h1,h2⟩|⟨h1,k,hk,hpk,hb⟩
 ·rw[h1]
  refine Yaa (GF 36) keeps_fn (keeps_yes x m th wr s set _ (x.chain.days+1).toNat) ⟨Yfb,hreg,by omega,hp,Yap (by omega) (by omega),?_,trivial⟩
  exact LF.each (id:=0) hcode _ (fun d=>Yc8 x m th wr s set (Ya4 x (zeroW.set s set)) d) (fun d hdd=>hon d (by omega) (h2 d hdd)) ⟨_,_,_,_,_,_,_,keeps_0_end x m th wr s set _ _,⟨decide_eq_false (by omega),trivial⟩,.inl ⟨rfl,rfl⟩,rfl⟩
 ·rw[h1]
  refine Yaa (GF 36) keeps_fn (keeps_no x m th wr s set _ k (Yc5 x th wr (Ya4 x (zeroW.set s set)) s k)) ⟨Yfb,hreg,by omega,hp,Yap (by omega) (by omega),?_,trivial⟩
  exact LF.each (id:=0) hcode k (fun d=>Yc8 x m th wr s set (Ya4 x (zeroW.set s set)) d) (fun d hdd=>hon d (by omega) (hb d hdd)) ⟨_,_,_,_,_,_,_,keeps_0_hit x m th wr s set _ k _,⟨decide_eq_true (by omega),hle k (by omega),by simpa using hpk,trivial⟩,.inr ⟨rfl,rfl⟩,rfl⟩
theorem pow_cast {n:Nat}(h:n≤5):(1:Int)*(2:Int) ^ Min.min (Int.toNat (n:Int)) 64=((2 ^ n:Nat):Int):=by
 have h5:n=0∨n=1∨n=2∨n=3∨n=4∨n=5:=by omega
 rcases h5 with rfl|rfl|rfl|rfl|rfl|rfl<;>rfl
theorem pow_le {n:Nat}(h:n≤5):2 ^ n≤32:=Nat.pow_le_pow_right (by decide) h
def chS (x:FBook)(m:Mp)(th:List (List Int))(wr:List Int)(s i:Nat):List Int→List (Key×Val)
 | []=>chA_S0 x m th wr s i
 | y::r=>chB_S0 x m th wr s i y r
theorem changesTo_len (x:FBook)(th:List (List Int))(wr:List Int)(s:Nat):∀ k,(Ybi x th wr s k).length≤k
 | 0=>Nat.le_refl _
 | k+1=>by
  have:=changesTo_len x th wr s k
  simp only[Ybi]
  split
  ·omega
  ·split
   ·rw[List.length_append,List.length_singleton];omega
   ·omega
theorem any_getD (p:Int→Bool)(l:List Int):(l.any p=true∧∃ j,j<l.length∧p (l.getD j 0)=true∧∀ i<j,p (l.getD i 0)=false)∨(l.any p=false∧∀ j<l.length,p (l.getD j 0)=false):=by
 rcases Ycz (fun j=>p (l.getD j 0)) l.length with ⟨k,h1,h2,h3⟩|h
 ·exact .inl ⟨List.any_eq_true.2 ⟨_,Yc0 0 h1,h2⟩,k,h1,h2,h3⟩
 ·refine .inr ⟨List.any_eq_false.2 fun z hz=>?_,h⟩
  obtain⟨j,hj,rfl⟩:=mem_iff_getD.1 hz
  simpa using h j hj
theorem changes_con {x:FBook}{th:List (List Int)}{wr:List Int}(hx:FIn x)(hk:KnOk x th wr)(m:Mp){s:Nat}(hs:s<x.feet.length):CF 98 [fbkD x m th wr,.int .i64 (s:Int)] (.sl false .int (Ycl x th wr s)):=by
 have ho:=hx.opnl
 have hc:=pow_cast ho
 have hp:=pow_le ho
 have hN:Yae ((1:Int)*(2:Int) ^ Min.min (Int.toNat (x.opn.length:Int)) 64):=by rw[hc];revert hp;generalize 2 ^ x.opn.length=N;intro hp;exact Yap (by omega) (by omega)
 have hkeep:=fun i:Nat=>keeps_con hx hk m hs (i:Int)
 have hcode2:k_98 [1,0,1,1,0,1,0,0,1,1,0,0,1,0,1]=.block 2 (.loop (k_98 [1,0,1,1,0,1,0,0,1,1,0,0,1,0,1,0,0])):=by kernel_rfl
 have hloop:LF 39 (k_98 [1,0,1,1,0,1]) (chS x m th wr s 0 (Ybi x th wr s 0)) .normal (chS x m th wr s (2 ^ x.opn.length) (Ycl x th wr s)):=by
  refine LF.each (id:=0) (c:=k_98 [1,0,1,1,0,1,0,0]) (by kernel_rfl) (2 ^ x.opn.length) (fun i=>chS x m th wr s i (Ybi x th wr s i)) (fun i hi=>?_) ?_
  ·have hlt:decide ((i:Int)<(1:Int)*(2:Int) ^ Min.min (Int.toNat (x.opn.length:Int)) 64)=true:=by rw[hc];exact Yaq hi
   have hi64:Yae ((i:Int)+1):=Yap (by omega) (by omega)
   have hlen:=changesTo_len x th wr s i
   have he:Ybi x th wr s (i+1)=if ((Ybi x th wr s i).any fun l=>andF i l==l)=true then Ybi x th wr s i else if keepsF x th wr s i=true then Ybi x th wr s i++[(i:Int)] else Ybi x th wr s i:=rfl
   simp only[he]
   cases hl:Ybi x th wr s i with
   | nil =>
    have hin:LF 39 (k_98 [1,0,1,1,0,1,0,0,1,1,0,0,1,0,1]) (chA_S2 x m th wr s i) .normal (chA_S2 x m th wr s i) :=
     LF.each (id:=2) hcode2 0 (fun _=>chA_S2 x m th wr s i) (fun j hj=>by omega) ⟨_,_,_,_,_,_,_,chA_2_end x m th wr s i,⟨rfl,trivial⟩,.inl ⟨rfl,rfl⟩,rfl⟩
    simp only[List.any_nil,Bool.false_eq_true,if_false]
    cases hb:keepsF x th wr s i with
    | true =>
     have:=hkeep i
     rw[hb]at this
     exact⟨_,_,_,_,_,_,chA_0_yes x m th wr s i true,⟨hlt,hin,this,rfl,by omega,hi64,trivial⟩,rfl⟩
    | false =>
     have:=hkeep i
     rw[hb]at this
     exact⟨_,_,_,_,_,_,chA_0_no x m th wr s i false,⟨hlt,hin,this,rfl,hi64,trivial⟩,rfl⟩
   | cons y r =>
    rw[hl]at hlen
    have hj64:∀ j:Nat,j<(y::r).length→Yae ((j:Int)+1):=fun j hj=>Yap (by omega) (by omega)
    have hon:∀ j,j<(y::r).length→(andF i ((y::r).getD j 0)==(y::r).getD j 0)=false→∃ dec orc lorc ks ps L1,runK (MF 39) dec orc lorc (k_98 [1,0,1,1,0,1,0,0,1,1,0,0,1,0,1,0,0]) (Ydu x m th wr s i j y r) ks=some (ps,.normal,L1)∧allP ps∧L1=Ydu x m th wr s i (j+1) y r:=fun j hj hb =>
     ⟨_,_,_,_,_,_,chB_2_on x m th wr s i j y r,⟨Yaq hj,rfl,⟨by omega,by omega⟩,by omega,hb,hj64 j hj,trivial⟩,rfl⟩
    rcases any_getD (fun l=>andF i l==l) (y::r) with ⟨h1,j,h2,h3,h4⟩|⟨h1,h2⟩
    ·rw[h1,if_pos rfl]
     have hin:LF 39 (k_98 [1,0,1,1,0,1,0,0,1,1,0,0,1,0,1]) (Ydu x m th wr s i 0 y r) (.exit 1) (Ydu x m th wr s i j y r) :=
      LF.leaves (id:=2) (by decide) hcode2 j (fun j=>Ydu x m th wr s i j y r) (fun j' hj'=>hon j' (by omega) (h4 j' hj')) ⟨_,_,_,_,_,_,chB_2_hit x m th wr s i j y r,⟨Yaq h2,rfl,⟨by omega,by omega⟩,by omega,h3,trivial⟩,rfl⟩
     exact⟨_,_,_,_,_,_,chB_0_skip x m th wr s i y r j,⟨hlt,rfl,hin,hi64,trivial⟩,rfl⟩
    ·rw[h1]
     simp only[Bool.false_eq_true,if_false]
     have hin:LF 39 (k_98 [1,0,1,1,0,1,0,0,1,1,0,0,1,0,1]) (Ydu x m th wr s i 0 y r) .normal (Ydu x m th wr s i (y::r).length y r) :=
      LF.each (id:=2) hcode2 (y::r).length (fun j=>Ydu x m th wr s i j y r) (fun j' hj'=>hon j' hj' (h2 j' hj')) ⟨_,_,_,_,_,_,_,chB_2_end x m th wr s i _ y r,⟨Yaz,trivial⟩,.inl ⟨rfl,rfl⟩,rfl⟩
     cases hb:keepsF x th wr s i with
     | true =>
      have:=hkeep i
      rw[hb]at this
      exact⟨_,_,_,_,_,_,chB_0_yes x m th wr s i y r _ true,⟨hlt,rfl,hin,this,rfl,rfl,by rw[List.length_append,List.length_singleton];omega,hi64,trivial⟩,rfl⟩
     | false =>
      have:=hkeep i
      rw[hb]at this
      exact⟨_,_,_,_,_,_,chB_0_no x m th wr s i y r _ false,⟨hlt,rfl,hin,this,rfl,hi64,trivial⟩,rfl⟩
  ·have hlt:decide ((((2 ^ x.opn.length:Nat)):Int)<(1:Int)*(2:Int) ^ Min.min (Int.toNat (x.opn.length:Int)) 64)=false:=by rw[hc];exact Yaz
   rw[show Ycl x th wr s=Ybi x th wr s (2 ^ x.opn.length) from rfl]
   cases Ybi x th wr s (2 ^ x.opn.length) with
   | nil=>exact⟨_,_,_,_,_,_,_,chA_0_end x m th wr s _,⟨hlt,trivial⟩,.inl ⟨rfl,rfl⟩,rfl⟩
   | cons y r=>exact⟨_,_,_,_,_,_,_,chB_0_end x m th wr s _ y r,⟨hlt,trivial⟩,.inl ⟨rfl,rfl⟩,rfl⟩
 cases hl:Ycl x th wr s with
 | nil =>
  rw[hl]at hloop
  exact Contract.weaken (Yaa (GF 39) chA_fn (chA_none x m th wr s (2 ^ x.opn.length)) ⟨⟨by omega,hN⟩,hloop,trivial⟩)
 | cons y r =>
  rw[hl]at hloop
  exact Yaa (GF 39) chA_fn (chA_some x m th wr s (2 ^ x.opn.length) y r) ⟨⟨by omega,hN⟩,hloop,rfl,trivial⟩
end Go.Di

