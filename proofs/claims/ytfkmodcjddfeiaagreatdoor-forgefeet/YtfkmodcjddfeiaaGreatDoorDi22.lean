/- Part 22: an interpreter over plain data for this code, with the proof that it says what the model does, and the contracts of the functions. No condition. -/
import Derived.Test.YtfkmodcjddfeiaaGreatDoorDi21
set_option linter.unusedVariables false
set_option linter.unusedSimpArgs false
namespace Go.Di
open Proofs
theorem oSec_fn : FnOk PR (mk PR (lookN types) glob 7) 42 (body Tryz.f42) [.tmp 2] := by refine ⟨Tryz.f42,?_,?_,?_,?_,?_⟩ <;> kernel_rfl
theorem oInt_fn : FnOk PR (mk PR (lookN types) glob 7) 15 (body Tryz.f15) [.tmp 2] := by refine ⟨Tryz.f15,?_,?_,?_,?_,?_⟩ <;> kernel_rfl
theorem oSv_fn : FnOk PR (mk PR (lookN types) glob 7) 43 (body Tryz.f43) [.tmp 2] := by refine ⟨Tryz.f43,?_,?_,?_,?_,?_⟩ <;> kernel_rfl
theorem oChain_fn : FnOk PR (mk PR (lookN types) glob 16) 14 (body Tryz.f14) [.cell 2 26] := by refine ⟨Tryz.f14,?_,?_,?_,?_,?_⟩ <;> kernel_rfl
theorem kSec_fn : FnOk PR (mk PR (lookN types) glob 31) 61 (body Tryz.f61) [.tmp 4] := by refine ⟨Tryz.f61,?_,?_,?_,?_,?_⟩ <;> kernel_rfl
theorem kSv_fn : FnOk PR (mk PR (lookN types) glob 31) 62 (body Tryz.f62) [.tmp 4] := by refine ⟨Tryz.f62,?_,?_,?_,?_,?_⟩ <;> kernel_rfl
theorem kChain_fn : FnOk PR (mk PR (lookN types) glob 38) 24 (body Tryz.f24) [.tmp 4] := by refine ⟨Tryz.f24,?_,?_,?_,?_,?_⟩ <;> kernel_rfl
theorem rSection_fn : FnOk PR (mk PR (lookN types) glob 11) 114 (body Tryz.f114) [.tmp 4] := by refine ⟨Tryz.f114,?_,?_,?_,?_,?_⟩ <;> kernel_rfl
theorem rDay_fn : FnOk PR (mk PR (lookN types) glob 9) 118 (body Tryz.f118) [.tmp 4] := by refine ⟨Tryz.f118,?_,?_,?_,?_,?_⟩ <;> kernel_rfl
theorem rSurvey_fn : FnOk PR (mk PR (lookN types) glob 25) 92 (body Tryz.f92) [.tmp 4] := by refine ⟨Tryz.f92,?_,?_,?_,?_,?_⟩ <;> kernel_rfl
theorem rCheck_fn : FnOk PR (mk PR (lookN types) glob 161) 56 (body Tryz.f56) [.tmp 2] := by refine ⟨Tryz.f56,?_,?_,?_,?_,?_⟩ <;> kernel_rfl
def kSec_S0 (xs : List Sec) (ok : Bool) (i : Nat) : List (Key × Val) :=
 [(.tmp 0,.d (D.sl false E.sec xs)),
  (.tmp 1,.d (D.sl false E.sec xs)),
  (.tmp 5,.d (.bool ok)),
  (.tmp 6,.d (.int .i64 i))]
def kSec_K0 : List Key := [.tmp 0,.tmp 1,.tmp 5,.tmp 6]
def kSv_S0 (xs : List Sv) (ok : Bool) (i : Nat) : List (Key × Val) :=
 [(.tmp 0,.d (D.sl false E.sv xs)),
  (.tmp 1,.d (D.sl false E.sv xs)),
  (.tmp 5,.d (.bool ok)),
  (.tmp 6,.d (.int .i64 i))]
def kSv_K0 : List Key := [.tmp 0,.tmp 1,.tmp 5,.tmp 6]
def rCheck_R1 (b : Book)  : List (Key × Val) :=
 [(.tmp 1,.d (D.ptr 1 0)),
  (.box 1,.bx (some (Box.mk false (cellsOf (bookD b)))))]
def rCheck_RK1 : List Key := [.tmp 1,.box 1]
def rCheck_RO1 : List Key := [.tmp 1,.tmp 3,.box 1]
def rCheck_RS1 (b : Book)  (ok : Bool) : List (Key × Val) :=
 [(.tmp 1,.d (D.ptr 1 0)),
  (.tmp 3,.d (.bool ok)),
  (.box 1,.bx (some (Box.mk false (cellsOf (bookD b)))))]
def rCheck_S0 (b : Book) (ok : Bool) (most : Int) (i : Nat) : List (Key × Val) :=
 [(.tmp 1,.d (D.ptr 1 0)),
  (.tmp 3,.d (.bool ok)),
  (.tmp 4,.d (.int .i64 most)),
  (.tmp 5,.d (.int .i64 i)),
  (.box 1,.bx (some (Box.mk false (cellsOf (bookD b)))))]
def rCheck_K0 : List Key := [.tmp 1,.tmp 3,.tmp 4,.tmp 5,.box 1]
def rCheck_R7 (b : Book) (ok : Bool) (most : Int) (i : Nat) : List (Key × Val) :=
 [(.tmp 1,.d (D.ptr 1 0)),
  (.tmp 4,.d (.int .i64 most)),
  (.tmp 5,.d (.int .i64 i)),
  (.tmp 6,.d (D.ptr 6 0)),
  (.box 1,.bx (some (Box.mk false (cellsOf (bookD b))))),
  (.box 6,.bx (some ⟨false,E.enc .sec (b.secs.getD i sec0)⟩))]
def rCheck_RK7 : List Key := [.tmp 1,.tmp 4,.tmp 5,.tmp 6,.box 1,.box 6]
def rCheck_RO7 : List Key := [.tmp 1,.tmp 3,.tmp 4,.tmp 5,.tmp 6,.box 1,.box 6]
def rCheck_RS7 (b : Book) (ok : Bool) (most : Int) (i : Nat) (ok2 : Bool) : List (Key × Val) :=
 [(.tmp 1,.d (D.ptr 1 0)),
  (.tmp 3,.d (.bool ok2)),
  (.tmp 4,.d (.int .i64 most)),
  (.tmp 5,.d (.int .i64 i)),
  (.tmp 6,.d (D.ptr 6 0)),
  (.box 1,.bx (some (Box.mk false (cellsOf (bookD b))))),
  (.box 6,.bx (some ⟨false,E.enc .sec (b.secs.getD i sec0)⟩))]
def rCheck_S2 (b : Book) (ok : Bool) (most : Int) (i : Nat) : List (Key × Val) :=
 [(.tmp 1,.d (D.ptr 1 0)),
  (.tmp 3,.d (.bool ok)),
  (.tmp 4,.d (.int .i64 most)),
  (.tmp 7,.d (.int .i64 i)),
  (.box 1,.bx (some (Box.mk false (cellsOf (bookD b)))))]
def rCheck_K2 : List Key := [.tmp 1,.tmp 3,.tmp 4,.tmp 7,.box 1]
def rCheck_S4 (b : Book) (ok : Bool) (i : Nat) : List (Key × Val) :=
 [(.tmp 1,.d (D.ptr 1 0)),
  (.tmp 3,.d (.bool ok)),
  (.tmp 8,.d (.int .i64 i)),
  (.box 1,.bx (some (Box.mk false (cellsOf (bookD b)))))]
def rCheck_K4 : List Key := [.tmp 1,.tmp 3,.tmp 8,.box 1]
def rCheck_S6 (b : Book) (ok : Bool) (i : Nat) : List (Key × Val) :=
 [(.tmp 1,.d (D.ptr 1 0)),
  (.tmp 3,.d (.bool ok)),
  (.tmp 9,.d (.int .i64 i)),
  (.box 1,.bx (some (Box.mk false (cellsOf (bookD b)))))]
def rCheck_K6 : List Key := [.tmp 1,.tmp 3,.tmp 9,.box 1]
theorem kSec_0_on (xs : List Sec) (ok : Bool) (i : Nat) :
  runK (mk PR (lookN types) glob 31) [(13,true),(18,true)] [] [] (Code.at [1,1,0,1,0,0] (body Tryz.f61)) (kSec_S0 xs ok i) kSec_K0 =
   some ([ok = true,ok = true,ok = true,ok = true,ok = true,decide ((i : Int) < ((List.length xs : Nat) : Int)) = true,(0 : Int) ≤ (i : Int) ∧ (i : Int) < ((List.length xs : Nat) : Int),0 + 4 ≤ 4,(0 : Int) ≤ (i : Int) ∧ (i : Int) < ((List.length xs : Nat) : Int),0 + 4 ≤ 4,inI64 ((i : Int) + (1 : Int))],Ex.normal,[(.tmp 0,.d (D.sl false E.sec xs)),(.tmp 1,.d (D.sl false E.sec xs)),(.tmp 5,.d (D.bool (eqI [Span.lo (Sec.t (List.getD xs (Int.toNat ((i : Int))) (E.z E.sec))),Span.hi (Sec.t (List.getD xs (Int.toNat ((i : Int))) (E.z E.sec))),Span.lo (Sec.w (List.getD xs (Int.toNat ((i : Int))) (E.z E.sec))),Span.hi (Sec.w (List.getD xs (Int.toNat ((i : Int))) (E.z E.sec)))] [Span.lo (Sec.t (List.getD xs (Int.toNat ((i : Int))) (E.z E.sec))),Span.hi (Sec.t (List.getD xs (Int.toNat ((i : Int))) (E.z E.sec))),Span.lo (Sec.w (List.getD xs (Int.toNat ((i : Int))) (E.z E.sec))),Span.hi (Sec.w (List.getD xs (Int.toNat ((i : Int))) (E.z E.sec)))]))),(.tmp 6,.d (D.int .i64 ((i : Int) + (1 : Int))))]) := by kernel_rfl
theorem kSec_0_end (xs : List Sec) (ok : Bool) (i : Nat) :
  runK (mk PR (lookN types) glob 31) [(13,true),(18,false)] [] [] (Code.at [1,1,0,1,0,0] (body Tryz.f61)) (kSec_S0 xs ok i) kSec_K0 =
   some ([ok = true,ok = true,ok = true,ok = true,ok = true,decide ((i : Int) < ((List.length xs : Nat) : Int)) = false],Ex.exit 0,[(.tmp 0,.d (D.sl false E.sec xs)),(.tmp 1,.d (D.sl false E.sec xs)),(.tmp 5,.d (D.bool ok)),(.tmp 6,.d (D.int .i64 ((i : Int))))]) := by kernel_rfl
theorem kSv_0_on (xs : List Sv) (ok : Bool) (i : Nat) :
  runK (mk PR (lookN types) glob 31) [(13,true),(18,true)] [] [] (Code.at [1,1,0,1,0,0] (body Tryz.f62)) (kSv_S0 xs ok i) kSv_K0 =
   some ([ok = true,ok = true,ok = true,ok = true,ok = true,decide ((i : Int) < ((List.length xs : Nat) : Int)) = true,(0 : Int) ≤ (i : Int) ∧ (i : Int) < ((List.length xs : Nat) : Int),0 + 4 ≤ 4,(0 : Int) ≤ (i : Int) ∧ (i : Int) < ((List.length xs : Nat) : Int),0 + 4 ≤ 4,inI64 ((i : Int) + (1 : Int))],Ex.normal,[(.tmp 0,.d (D.sl false E.sv xs)),(.tmp 1,.d (D.sl false E.sv xs)),(.tmp 5,.d (D.bool (eqI [Sv.s (List.getD xs (Int.toNat ((i : Int))) (E.z E.sv)),Sv.d (List.getD xs (Int.toNat ((i : Int))) (E.z E.sv)),Sv.r (List.getD xs (Int.toNat ((i : Int))) (E.z E.sv)),Sv.e (List.getD xs (Int.toNat ((i : Int))) (E.z E.sv))] [Sv.s (List.getD xs (Int.toNat ((i : Int))) (E.z E.sv)),Sv.d (List.getD xs (Int.toNat ((i : Int))) (E.z E.sv)),Sv.r (List.getD xs (Int.toNat ((i : Int))) (E.z E.sv)),Sv.e (List.getD xs (Int.toNat ((i : Int))) (E.z E.sv))]))),(.tmp 6,.d (D.int .i64 ((i : Int) + (1 : Int))))]) := by kernel_rfl
theorem kSv_0_end (xs : List Sv) (ok : Bool) (i : Nat) :
  runK (mk PR (lookN types) glob 31) [(13,true),(18,false)] [] [] (Code.at [1,1,0,1,0,0] (body Tryz.f62)) (kSv_S0 xs ok i) kSv_K0 =
   some ([ok = true,ok = true,ok = true,ok = true,ok = true,decide ((i : Int) < ((List.length xs : Nat) : Int)) = false],Ex.exit 0,[(.tmp 0,.d (D.sl false E.sv xs)),(.tmp 1,.d (D.sl false E.sv xs)),(.tmp 5,.d (D.bool ok)),(.tmp 6,.d (D.int .i64 ((i : Int))))]) := by kernel_rfl
theorem rCheck_R1_a (b : Book) :
  runK (mk PR (lookN types) glob 161) [(14,false)] [(13,.bool (withinF b.secs.length 1 4)),(17,.bool (withinF b.days 1 30)),(22,.bool (withinF b.rule 0 200))] [] (Code.at [1,0] (body Tryz.f56)) (rCheck_R1 b ) rCheck_RO1 =
   some ([Contract PR glob 51 [D.int .i64 (((List.length (Book.secs b) : Nat) : Int)),D.int .i64 1,D.int .i64 4] (D.bool (withinF (((List.length (Book.secs b) : Nat) : Int)) (1 : Int) (4 : Int))),withinF (((List.length (Book.secs b) : Nat) : Int)) (1 : Int) (4 : Int) = false,withinF (((List.length (Book.secs b) : Nat) : Int)) (1 : Int) (4 : Int) = false,withinF (((List.length (Book.secs b) : Nat) : Int)) (1 : Int) (4 : Int) = false,withinF (((List.length (Book.secs b) : Nat) : Int)) (1 : Int) (4 : Int) = false],Ex.normal,[(.tmp 1,.d (D.ptr 1 0)),(.tmp 3,.d (D.bool false)),(.box 1,.bx (some (Box.mk false (cellsOf (bookD b)))))]) := by kernel_rfl
theorem rCheck_R1_b (b : Book) :
  runK (mk PR (lookN types) glob 161) [(14,true),(19,false)] [(13,.bool (withinF b.secs.length 1 4)),(17,.bool (withinF b.days 1 30)),(22,.bool (withinF b.rule 0 200))] [] (Code.at [1,0] (body Tryz.f56)) (rCheck_R1 b ) rCheck_RO1 =
   some ([Contract PR glob 51 [D.int .i64 (((List.length (Book.secs b) : Nat) : Int)),D.int .i64 1,D.int .i64 4] (D.bool (withinF (((List.length (Book.secs b) : Nat) : Int)) (1 : Int) (4 : Int))),withinF (((List.length (Book.secs b) : Nat) : Int)) (1 : Int) (4 : Int) = true,withinF (((List.length (Book.secs b) : Nat) : Int)) (1 : Int) (4 : Int) = true,withinF (((List.length (Book.secs b) : Nat) : Int)) (1 : Int) (4 : Int) = true,Contract PR glob 51 [D.int .i64 (Book.days b),D.int .i64 1,D.int .i64 30] (D.bool (withinF (Book.days b) (1 : Int) (30 : Int))),withinF (((List.length (Book.secs b) : Nat) : Int)) (1 : Int) (4 : Int) = true,withinF (Book.days b) (1 : Int) (30 : Int) = false,withinF (Book.days b) (1 : Int) (30 : Int) = false,withinF (Book.days b) (1 : Int) (30 : Int) = false,withinF (Book.days b) (1 : Int) (30 : Int) = false],Ex.normal,[(.tmp 1,.d (D.ptr 1 0)),(.tmp 3,.d (D.bool false)),(.box 1,.bx (some (Box.mk false (cellsOf (bookD b)))))]) := by kernel_rfl
theorem rCheck_R1_c (b : Book) :
  runK (mk PR (lookN types) glob 161) [(14,true),(19,true),(24,false)] [(13,.bool (withinF b.secs.length 1 4)),(17,.bool (withinF b.days 1 30)),(22,.bool (withinF b.rule 0 200))] [] (Code.at [1,0] (body Tryz.f56)) (rCheck_R1 b ) rCheck_RO1 =
   some ([Contract PR glob 51 [D.int .i64 (((List.length (Book.secs b) : Nat) : Int)),D.int .i64 1,D.int .i64 4] (D.bool (withinF (((List.length (Book.secs b) : Nat) : Int)) (1 : Int) (4 : Int))),withinF (((List.length (Book.secs b) : Nat) : Int)) (1 : Int) (4 : Int) = true,withinF (((List.length (Book.secs b) : Nat) : Int)) (1 : Int) (4 : Int) = true,withinF (((List.length (Book.secs b) : Nat) : Int)) (1 : Int) (4 : Int) = true,Contract PR glob 51 [D.int .i64 (Book.days b),D.int .i64 1,D.int .i64 30] (D.bool (withinF (Book.days b) (1 : Int) (30 : Int))),withinF (((List.length (Book.secs b) : Nat) : Int)) (1 : Int) (4 : Int) = true,withinF (Book.days b) (1 : Int) (30 : Int) = true,withinF (Book.days b) (1 : Int) (30 : Int) = true,withinF (Book.days b) (1 : Int) (30 : Int) = true,Contract PR glob 51 [D.int .i64 (Book.rule b),D.int .i64 0,D.int .i64 200] (D.bool (withinF (Book.rule b) (0 : Int) (200 : Int))),withinF (Book.days b) (1 : Int) (30 : Int) = true,withinF (Book.rule b) (0 : Int) (200 : Int) = false,withinF (Book.rule b) (0 : Int) (200 : Int) = false,withinF (Book.rule b) (0 : Int) (200 : Int) = false,withinF (Book.rule b) (0 : Int) (200 : Int) = false,withinF (Book.rule b) (0 : Int) (200 : Int) = false],Ex.normal,[(.tmp 1,.d (D.ptr 1 0)),(.tmp 3,.d (D.bool false)),(.box 1,.bx (some (Box.mk false (cellsOf (bookD b)))))]) := by kernel_rfl
theorem rCheck_R1_d (b : Book) :
  runK (mk PR (lookN types) glob 161) [(14,true),(19,true),(24,true),(30,false)] [(13,.bool (withinF b.secs.length 1 4)),(17,.bool (withinF b.days 1 30)),(22,.bool (withinF b.rule 0 200))] [] (Code.at [1,0] (body Tryz.f56)) (rCheck_R1 b ) rCheck_RO1 =
   some ([Contract PR glob 51 [D.int .i64 (((List.length (Book.secs b) : Nat) : Int)),D.int .i64 1,D.int .i64 4] (D.bool (withinF (((List.length (Book.secs b) : Nat) : Int)) (1 : Int) (4 : Int))),withinF (((List.length (Book.secs b) : Nat) : Int)) (1 : Int) (4 : Int) = true,withinF (((List.length (Book.secs b) : Nat) : Int)) (1 : Int) (4 : Int) = true,withinF (((List.length (Book.secs b) : Nat) : Int)) (1 : Int) (4 : Int) = true,Contract PR glob 51 [D.int .i64 (Book.days b),D.int .i64 1,D.int .i64 30] (D.bool (withinF (Book.days b) (1 : Int) (30 : Int))),withinF (((List.length (Book.secs b) : Nat) : Int)) (1 : Int) (4 : Int) = true,withinF (Book.days b) (1 : Int) (30 : Int) = true,withinF (Book.days b) (1 : Int) (30 : Int) = true,withinF (Book.days b) (1 : Int) (30 : Int) = true,Contract PR glob 51 [D.int .i64 (Book.rule b),D.int .i64 0,D.int .i64 200] (D.bool (withinF (Book.rule b) (0 : Int) (200 : Int))),withinF (Book.days b) (1 : Int) (30 : Int) = true,withinF (Book.rule b) (0 : Int) (200 : Int) = true,withinF (Book.rule b) (0 : Int) (200 : Int) = true,withinF (Book.rule b) (0 : Int) (200 : Int) = true,withinF (Book.rule b) (0 : Int) (200 : Int) = true,withinF (Book.rule b) (0 : Int) (200 : Int) = true,decide (((List.length (Book.turns b) : Nat) : Int) ≤ (4 : Int)) = false,decide (((List.length (Book.turns b) : Nat) : Int) ≤ (4 : Int)) = false,decide (((List.length (Book.turns b) : Nat) : Int) ≤ (4 : Int)) = false,decide (((List.length (Book.turns b) : Nat) : Int) ≤ (4 : Int)) = false,decide (((List.length (Book.turns b) : Nat) : Int) ≤ (4 : Int)) = false],Ex.normal,[(.tmp 1,.d (D.ptr 1 0)),(.tmp 3,.d (D.bool false)),(.box 1,.bx (some (Box.mk false (cellsOf (bookD b)))))]) := by kernel_rfl
theorem rCheck_R1_e (b : Book) :
  runK (mk PR (lookN types) glob 161) [(14,true),(19,true),(24,true),(30,true)] [(13,.bool (withinF b.secs.length 1 4)),(17,.bool (withinF b.days 1 30)),(22,.bool (withinF b.rule 0 200))] [] (Code.at [1,0] (body Tryz.f56)) (rCheck_R1 b ) rCheck_RO1 =
   some ([Contract PR glob 51 [D.int .i64 (((List.length (Book.secs b) : Nat) : Int)),D.int .i64 1,D.int .i64 4] (D.bool (withinF (((List.length (Book.secs b) : Nat) : Int)) (1 : Int) (4 : Int))),withinF (((List.length (Book.secs b) : Nat) : Int)) (1 : Int) (4 : Int) = true,withinF (((List.length (Book.secs b) : Nat) : Int)) (1 : Int) (4 : Int) = true,withinF (((List.length (Book.secs b) : Nat) : Int)) (1 : Int) (4 : Int) = true,Contract PR glob 51 [D.int .i64 (Book.days b),D.int .i64 1,D.int .i64 30] (D.bool (withinF (Book.days b) (1 : Int) (30 : Int))),withinF (((List.length (Book.secs b) : Nat) : Int)) (1 : Int) (4 : Int) = true,withinF (Book.days b) (1 : Int) (30 : Int) = true,withinF (Book.days b) (1 : Int) (30 : Int) = true,withinF (Book.days b) (1 : Int) (30 : Int) = true,Contract PR glob 51 [D.int .i64 (Book.rule b),D.int .i64 0,D.int .i64 200] (D.bool (withinF (Book.rule b) (0 : Int) (200 : Int))),withinF (Book.days b) (1 : Int) (30 : Int) = true,withinF (Book.rule b) (0 : Int) (200 : Int) = true,withinF (Book.rule b) (0 : Int) (200 : Int) = true,withinF (Book.rule b) (0 : Int) (200 : Int) = true,withinF (Book.rule b) (0 : Int) (200 : Int) = true,withinF (Book.rule b) (0 : Int) (200 : Int) = true,decide (((List.length (Book.turns b) : Nat) : Int) ≤ (4 : Int)) = true,decide (((List.length (Book.turns b) : Nat) : Int) ≤ (4 : Int)) = true,decide (((List.length (Book.turns b) : Nat) : Int) ≤ (4 : Int)) = true,decide (((List.length (Book.turns b) : Nat) : Int) ≤ (4 : Int)) = true,decide (((List.length (Book.turns b) : Nat) : Int) ≤ (4 : Int)) = true],Ex.normal,[(.tmp 1,.d (D.ptr 1 0)),(.tmp 3,.d (D.bool (decide (((List.length (Book.svs b) : Nat) : Int) ≤ (8 : Int))))),(.box 1,.bx (some (Box.mk false (cellsOf (bookD b)))))]) := by kernel_rfl
theorem rCheck_R7_a (b : Book) (ok : Bool) (most : Int) (i : Nat) :
  runK (mk PR (lookN types) glob 161) [(54,false)] [(53,.bool (validSF (b.secs.getD i sec0).t 0 200)),(67,.bool (validSF (b.secs.getD i sec0).w 0 3))] [] (Code.at [1,1,1,0,1,0,0,1,0,0,1,0] (body Tryz.f56)) (rCheck_R7 b ok most i) rCheck_RO7 =
   some ([0 + 0 + 2 ≤ 4,Contract PR glob 91 [D.agg [D.int .i64 (Span.lo (Sec.t (List.getD (Book.secs b) i sec0))),D.int .i64 (Span.hi (Sec.t (List.getD (Book.secs b) i sec0)))],D.int .i64 0,D.int .i64 200] (D.bool (validSF (Sec.t (List.getD (Book.secs b) i sec0)) (0 : Int) (200 : Int))),validSF (Sec.t (List.getD (Book.secs b) i sec0)) (0 : Int) (200 : Int) = false,validSF (Sec.t (List.getD (Book.secs b) i sec0)) (0 : Int) (200 : Int) = false,validSF (Sec.t (List.getD (Book.secs b) i sec0)) (0 : Int) (200 : Int) = false,validSF (Sec.t (List.getD (Book.secs b) i sec0)) (0 : Int) (200 : Int) = false,validSF (Sec.t (List.getD (Book.secs b) i sec0)) (0 : Int) (200 : Int) = false,validSF (Sec.t (List.getD (Book.secs b) i sec0)) (0 : Int) (200 : Int) = false,validSF (Sec.t (List.getD (Book.secs b) i sec0)) (0 : Int) (200 : Int) = false,validSF (Sec.t (List.getD (Book.secs b) i sec0)) (0 : Int) (200 : Int) = false,validSF (Sec.t (List.getD (Book.secs b) i sec0)) (0 : Int) (200 : Int) = false],Ex.normal,[(.tmp 1,.d (D.ptr 1 0)),(.tmp 3,.d (D.bool false)),(.tmp 4,.d (D.int .i64 most)),(.tmp 5,.d (D.int .i64 ((i : Int)))),(.tmp 6,.d (D.ptr 6 0)),(.box 1,.bx (some (Box.mk false (cellsOf (bookD b))))),(.box 6,.bx (some (Box.mk false [D.int .i64 (Span.lo (Sec.t (List.getD (Book.secs b) i sec0))),D.int .i64 (Span.hi (Sec.t (List.getD (Book.secs b) i sec0))),D.int .i64 (Span.lo (Sec.w (List.getD (Book.secs b) i sec0))),D.int .i64 (Span.hi (Sec.w (List.getD (Book.secs b) i sec0)))])))]) := by kernel_rfl
theorem rCheck_R7_b (b : Book) (ok : Bool) (most : Int) (i : Nat) :
  runK (mk PR (lookN types) glob 161) [(54,true),(64,false)] [(53,.bool (validSF (b.secs.getD i sec0).t 0 200)),(67,.bool (validSF (b.secs.getD i sec0).w 0 3))] [] (Code.at [1,1,1,0,1,0,0,1,0,0,1,0] (body Tryz.f56)) (rCheck_R7 b ok most i) rCheck_RO7 =
   some ([0 + 0 + 2 ≤ 4,Contract PR glob 91 [D.agg [D.int .i64 (Span.lo (Sec.t (List.getD (Book.secs b) i sec0))),D.int .i64 (Span.hi (Sec.t (List.getD (Book.secs b) i sec0)))],D.int .i64 0,D.int .i64 200] (D.bool (validSF (Sec.t (List.getD (Book.secs b) i sec0)) (0 : Int) (200 : Int))),validSF (Sec.t (List.getD (Book.secs b) i sec0)) (0 : Int) (200 : Int) = true,validSF (Sec.t (List.getD (Book.secs b) i sec0)) (0 : Int) (200 : Int) = true,validSF (Sec.t (List.getD (Book.secs b) i sec0)) (0 : Int) (200 : Int) = true,0 + 0 + 1 + 1 ≤ 4,validSF (Sec.t (List.getD (Book.secs b) i sec0)) (0 : Int) (200 : Int) = true,validSF (Sec.t (List.getD (Book.secs b) i sec0)) (0 : Int) (200 : Int) = true,validSF (Sec.t (List.getD (Book.secs b) i sec0)) (0 : Int) (200 : Int) = true,0 + 0 + 0 + 1 ≤ 4,validSF (Sec.t (List.getD (Book.secs b) i sec0)) (0 : Int) (200 : Int) = true,inI64 (Span.hi (Sec.t (List.getD (Book.secs b) i sec0)) - Span.lo (Sec.t (List.getD (Book.secs b) i sec0))),validSF (Sec.t (List.getD (Book.secs b) i sec0)) (0 : Int) (200 : Int) = true,validSF (Sec.t (List.getD (Book.secs b) i sec0)) (0 : Int) (200 : Int) = true,decide (Span.hi (Sec.t (List.getD (Book.secs b) i sec0)) - Span.lo (Sec.t (List.getD (Book.secs b) i sec0)) ≤ (3 : Int)) = false,decide (Span.hi (Sec.t (List.getD (Book.secs b) i sec0)) - Span.lo (Sec.t (List.getD (Book.secs b) i sec0)) ≤ (3 : Int)) = false,decide (Span.hi (Sec.t (List.getD (Book.secs b) i sec0)) - Span.lo (Sec.t (List.getD (Book.secs b) i sec0)) ≤ (3 : Int)) = false,decide (Span.hi (Sec.t (List.getD (Book.secs b) i sec0)) - Span.lo (Sec.t (List.getD (Book.secs b) i sec0)) ≤ (3 : Int)) = false],Ex.normal,[(.tmp 1,.d (D.ptr 1 0)),(.tmp 3,.d (D.bool false)),(.tmp 4,.d (D.int .i64 most)),(.tmp 5,.d (D.int .i64 ((i : Int)))),(.tmp 6,.d (D.ptr 6 0)),(.box 1,.bx (some (Box.mk false (cellsOf (bookD b))))),(.box 6,.bx (some (Box.mk false [D.int .i64 (Span.lo (Sec.t (List.getD (Book.secs b) i sec0))),D.int .i64 (Span.hi (Sec.t (List.getD (Book.secs b) i sec0))),D.int .i64 (Span.lo (Sec.w (List.getD (Book.secs b) i sec0))),D.int .i64 (Span.hi (Sec.w (List.getD (Book.secs b) i sec0)))])))]) := by kernel_rfl
theorem rCheck_R7_c (b : Book) (ok : Bool) (most : Int) (i : Nat) :
  runK (mk PR (lookN types) glob 161) [(54,true),(64,true),(69,false)] [(53,.bool (validSF (b.secs.getD i sec0).t 0 200)),(67,.bool (validSF (b.secs.getD i sec0).w 0 3))] [] (Code.at [1,1,1,0,1,0,0,1,0,0,1,0] (body Tryz.f56)) (rCheck_R7 b ok most i) rCheck_RO7 =
   some ([0 + 0 + 2 ≤ 4,Contract PR glob 91 [D.agg [D.int .i64 (Span.lo (Sec.t (List.getD (Book.secs b) i sec0))),D.int .i64 (Span.hi (Sec.t (List.getD (Book.secs b) i sec0)))],D.int .i64 0,D.int .i64 200] (D.bool (validSF (Sec.t (List.getD (Book.secs b) i sec0)) (0 : Int) (200 : Int))),validSF (Sec.t (List.getD (Book.secs b) i sec0)) (0 : Int) (200 : Int) = true,validSF (Sec.t (List.getD (Book.secs b) i sec0)) (0 : Int) (200 : Int) = true,validSF (Sec.t (List.getD (Book.secs b) i sec0)) (0 : Int) (200 : Int) = true,0 + 0 + 1 + 1 ≤ 4,validSF (Sec.t (List.getD (Book.secs b) i sec0)) (0 : Int) (200 : Int) = true,validSF (Sec.t (List.getD (Book.secs b) i sec0)) (0 : Int) (200 : Int) = true,validSF (Sec.t (List.getD (Book.secs b) i sec0)) (0 : Int) (200 : Int) = true,0 + 0 + 0 + 1 ≤ 4,validSF (Sec.t (List.getD (Book.secs b) i sec0)) (0 : Int) (200 : Int) = true,inI64 (Span.hi (Sec.t (List.getD (Book.secs b) i sec0)) - Span.lo (Sec.t (List.getD (Book.secs b) i sec0))),validSF (Sec.t (List.getD (Book.secs b) i sec0)) (0 : Int) (200 : Int) = true,validSF (Sec.t (List.getD (Book.secs b) i sec0)) (0 : Int) (200 : Int) = true,decide (Span.hi (Sec.t (List.getD (Book.secs b) i sec0)) - Span.lo (Sec.t (List.getD (Book.secs b) i sec0)) ≤ (3 : Int)) = true,decide (Span.hi (Sec.t (List.getD (Book.secs b) i sec0)) - Span.lo (Sec.t (List.getD (Book.secs b) i sec0)) ≤ (3 : Int)) = true,0 + 2 + 2 ≤ 4,decide (Span.hi (Sec.t (List.getD (Book.secs b) i sec0)) - Span.lo (Sec.t (List.getD (Book.secs b) i sec0)) ≤ (3 : Int)) = true,Contract PR glob 91 [D.agg [D.int .i64 (Span.lo (Sec.w (List.getD (Book.secs b) i sec0))),D.int .i64 (Span.hi (Sec.w (List.getD (Book.secs b) i sec0)))],D.int .i64 0,D.int .i64 3] (D.bool (validSF (Sec.w (List.getD (Book.secs b) i sec0)) (0 : Int) (3 : Int))),decide (Span.hi (Sec.t (List.getD (Book.secs b) i sec0)) - Span.lo (Sec.t (List.getD (Book.secs b) i sec0)) ≤ (3 : Int)) = true,validSF (Sec.w (List.getD (Book.secs b) i sec0)) (0 : Int) (3 : Int) = false,validSF (Sec.w (List.getD (Book.secs b) i sec0)) (0 : Int) (3 : Int) = false,validSF (Sec.w (List.getD (Book.secs b) i sec0)) (0 : Int) (3 : Int) = false,validSF (Sec.w (List.getD (Book.secs b) i sec0)) (0 : Int) (3 : Int) = false,validSF (Sec.w (List.getD (Book.secs b) i sec0)) (0 : Int) (3 : Int) = false,validSF (Sec.w (List.getD (Book.secs b) i sec0)) (0 : Int) (3 : Int) = false,validSF (Sec.w (List.getD (Book.secs b) i sec0)) (0 : Int) (3 : Int) = false,validSF (Sec.w (List.getD (Book.secs b) i sec0)) (0 : Int) (3 : Int) = false,validSF (Sec.w (List.getD (Book.secs b) i sec0)) (0 : Int) (3 : Int) = false],Ex.normal,[(.tmp 1,.d (D.ptr 1 0)),(.tmp 3,.d (D.bool false)),(.tmp 4,.d (D.int .i64 most)),(.tmp 5,.d (D.int .i64 ((i : Int)))),(.tmp 6,.d (D.ptr 6 0)),(.box 1,.bx (some (Box.mk false (cellsOf (bookD b))))),(.box 6,.bx (some (Box.mk false [D.int .i64 (Span.lo (Sec.t (List.getD (Book.secs b) i sec0))),D.int .i64 (Span.hi (Sec.t (List.getD (Book.secs b) i sec0))),D.int .i64 (Span.lo (Sec.w (List.getD (Book.secs b) i sec0))),D.int .i64 (Span.hi (Sec.w (List.getD (Book.secs b) i sec0)))])))]) := by kernel_rfl
theorem rCheck_R7_e (b : Book) (ok : Bool) (most : Int) (i : Nat) :
  runK (mk PR (lookN types) glob 161) [(54,true),(64,true),(69,true)] [(53,.bool (validSF (b.secs.getD i sec0).t 0 200)),(67,.bool (validSF (b.secs.getD i sec0).w 0 3))] [] (Code.at [1,1,1,0,1,0,0,1,0,0,1,0] (body Tryz.f56)) (rCheck_R7 b ok most i) rCheck_RO7 =
   some ([0 + 0 + 2 ≤ 4,Contract PR glob 91 [D.agg [D.int .i64 (Span.lo (Sec.t (List.getD (Book.secs b) i sec0))),D.int .i64 (Span.hi (Sec.t (List.getD (Book.secs b) i sec0)))],D.int .i64 0,D.int .i64 200] (D.bool (validSF (Sec.t (List.getD (Book.secs b) i sec0)) (0 : Int) (200 : Int))),validSF (Sec.t (List.getD (Book.secs b) i sec0)) (0 : Int) (200 : Int) = true,validSF (Sec.t (List.getD (Book.secs b) i sec0)) (0 : Int) (200 : Int) = true,validSF (Sec.t (List.getD (Book.secs b) i sec0)) (0 : Int) (200 : Int) = true,0 + 0 + 1 + 1 ≤ 4,validSF (Sec.t (List.getD (Book.secs b) i sec0)) (0 : Int) (200 : Int) = true,validSF (Sec.t (List.getD (Book.secs b) i sec0)) (0 : Int) (200 : Int) = true,validSF (Sec.t (List.getD (Book.secs b) i sec0)) (0 : Int) (200 : Int) = true,0 + 0 + 0 + 1 ≤ 4,validSF (Sec.t (List.getD (Book.secs b) i sec0)) (0 : Int) (200 : Int) = true,inI64 (Span.hi (Sec.t (List.getD (Book.secs b) i sec0)) - Span.lo (Sec.t (List.getD (Book.secs b) i sec0))),validSF (Sec.t (List.getD (Book.secs b) i sec0)) (0 : Int) (200 : Int) = true,validSF (Sec.t (List.getD (Book.secs b) i sec0)) (0 : Int) (200 : Int) = true,decide (Span.hi (Sec.t (List.getD (Book.secs b) i sec0)) - Span.lo (Sec.t (List.getD (Book.secs b) i sec0)) ≤ (3 : Int)) = true,decide (Span.hi (Sec.t (List.getD (Book.secs b) i sec0)) - Span.lo (Sec.t (List.getD (Book.secs b) i sec0)) ≤ (3 : Int)) = true,0 + 2 + 2 ≤ 4,decide (Span.hi (Sec.t (List.getD (Book.secs b) i sec0)) - Span.lo (Sec.t (List.getD (Book.secs b) i sec0)) ≤ (3 : Int)) = true,Contract PR glob 91 [D.agg [D.int .i64 (Span.lo (Sec.w (List.getD (Book.secs b) i sec0))),D.int .i64 (Span.hi (Sec.w (List.getD (Book.secs b) i sec0)))],D.int .i64 0,D.int .i64 3] (D.bool (validSF (Sec.w (List.getD (Book.secs b) i sec0)) (0 : Int) (3 : Int))),decide (Span.hi (Sec.t (List.getD (Book.secs b) i sec0)) - Span.lo (Sec.t (List.getD (Book.secs b) i sec0)) ≤ (3 : Int)) = true,validSF (Sec.w (List.getD (Book.secs b) i sec0)) (0 : Int) (3 : Int) = true,validSF (Sec.w (List.getD (Book.secs b) i sec0)) (0 : Int) (3 : Int) = true,validSF (Sec.w (List.getD (Book.secs b) i sec0)) (0 : Int) (3 : Int) = true,0 + 2 + 1 + 1 ≤ 4,validSF (Sec.w (List.getD (Book.secs b) i sec0)) (0 : Int) (3 : Int) = true,validSF (Sec.w (List.getD (Book.secs b) i sec0)) (0 : Int) (3 : Int) = true,validSF (Sec.w (List.getD (Book.secs b) i sec0)) (0 : Int) (3 : Int) = true,0 + 2 + 0 + 1 ≤ 4,validSF (Sec.w (List.getD (Book.secs b) i sec0)) (0 : Int) (3 : Int) = true,inI64 (Span.hi (Sec.w (List.getD (Book.secs b) i sec0)) - Span.lo (Sec.w (List.getD (Book.secs b) i sec0))),validSF (Sec.w (List.getD (Book.secs b) i sec0)) (0 : Int) (3 : Int) = true,validSF (Sec.w (List.getD (Book.secs b) i sec0)) (0 : Int) (3 : Int) = true],Ex.normal,[(.tmp 1,.d (D.ptr 1 0)),(.tmp 3,.d (D.bool (decide (Span.hi (Sec.w (List.getD (Book.secs b) i sec0)) - Span.lo (Sec.w (List.getD (Book.secs b) i sec0)) ≤ (2 : Int))))),(.tmp 4,.d (D.int .i64 most)),(.tmp 5,.d (D.int .i64 ((i : Int)))),(.tmp 6,.d (D.ptr 6 0)),(.box 1,.bx (some (Box.mk false (cellsOf (bookD b))))),(.box 6,.bx (some (Box.mk false [D.int .i64 (Span.lo (Sec.t (List.getD (Book.secs b) i sec0))),D.int .i64 (Span.hi (Sec.t (List.getD (Book.secs b) i sec0))),D.int .i64 (Span.lo (Sec.w (List.getD (Book.secs b) i sec0))),D.int .i64 (Span.hi (Sec.w (List.getD (Book.secs b) i sec0)))])))]) := by kernel_rfl
theorem rCheck_0_on (b : Book) (ok : Bool) (most : Int) (i : Nat) (ok2 : Bool) :
  runK (mk PR (lookN types) glob 161) [(37,true),(43,true)] [] [(1007,(rCheck_RK7,(.normal,rCheck_RS7 b ok most i ok2)))] (Code.at [1,1,1,0,1,0,0] (body Tryz.f56)) (rCheck_S0 b ok most i) rCheck_K0 =
   some ([ok = true,ok = true,ok = true,ok = true,ok = true,ok = true,decide ((i : Int) < ((List.length (Book.secs b) : Nat) : Int)) = true,(0 : Int) ≤ (i : Int) ∧ (i : Int) < ((List.length (Book.secs b) : Nat) : Int),0 + 4 ≤ 4,LoopT PR glob 161 (Code.at [1,1,1,0,1,0,0,1,0,0,1,0] (body Tryz.f56)) [(.tmp 1,.d (D.ptr 1 0)),(.tmp 4,.d (D.int .i64 most)),(.tmp 5,.d (D.int .i64 ((i : Int)))),(.tmp 6,.d (D.ptr 6 0)),(.box 1,.bx (some (Box.mk false (cellsOf (bookD b))))),(.box 6,.bx (some (Box.mk false [D.int .i64 (Span.lo (Sec.t (List.getD (Book.secs b) (Int.toNat ((i : Int))) (E.z E.sec)))),D.int .i64 (Span.hi (Sec.t (List.getD (Book.secs b) (Int.toNat ((i : Int))) (E.z E.sec)))),D.int .i64 (Span.lo (Sec.w (List.getD (Book.secs b) (Int.toNat ((i : Int))) (E.z E.sec)))),D.int .i64 (Span.hi (Sec.w (List.getD (Book.secs b) (Int.toNat ((i : Int))) (E.z E.sec))))])))] Ex.normal (rCheck_RS7 b ok most i ok2),0 + 2 + 1 + 1 ≤ 4,inI64 ((i : Int) + (1 : Int))],Ex.normal,[(.tmp 1,.d (D.ptr 1 0)),(.tmp 3,.d (D.bool ok2)),(.tmp 4,.d (D.int .i64 (List.foldl mx most [Span.hi (Sec.w (List.getD (Book.secs b) i sec0))]))),(.tmp 5,.d (D.int .i64 ((i : Int) + (1 : Int)))),(.box 1,.bx (some (Box.mk false (cellsOf (bookD b)))))]) := by kernel_rfl
theorem rCheck_0_no (b : Book) (ok : Bool) (most : Int) (i : Nat) :
  runK (mk PR (lookN types) glob 161) [(37,false)] [] [] (Code.at [1,1,1,0,1,0,0] (body Tryz.f56)) (rCheck_S0 b ok most i) rCheck_K0 =
   some ([ok = false,ok = false,ok = false,ok = false,ok = false,ok = false],Ex.exit 0,[(.tmp 1,.d (D.ptr 1 0)),(.tmp 3,.d (D.bool ok)),(.tmp 4,.d (D.int .i64 most)),(.tmp 5,.d (D.int .i64 ((i : Int)))),(.box 1,.bx (some (Box.mk false (cellsOf (bookD b)))))]) := by kernel_rfl
theorem rCheck_0_end (b : Book) (ok : Bool) (most : Int) (i : Nat) :
  runK (mk PR (lookN types) glob 161) [(37,true),(43,false)] [] [] (Code.at [1,1,1,0,1,0,0] (body Tryz.f56)) (rCheck_S0 b ok most i) rCheck_K0 =
   some ([ok = true,ok = true,ok = true,ok = true,ok = true,ok = true,decide ((i : Int) < ((List.length (Book.secs b) : Nat) : Int)) = false],Ex.exit 0,[(.tmp 1,.d (D.ptr 1 0)),(.tmp 3,.d (D.bool ok)),(.tmp 4,.d (D.int .i64 most)),(.tmp 5,.d (D.int .i64 ((i : Int)))),(.box 1,.bx (some (Box.mk false (cellsOf (bookD b)))))]) := by kernel_rfl
theorem rCheck_2_on (b : Book) (ok : Bool) (most : Int) (i : Nat) :
  runK (mk PR (lookN types) glob 161) [(85,true),(91,true)] [] [] (Code.at [1,1,1,1,0,1,0,0] (body Tryz.f56)) (rCheck_S2 b ok most i) rCheck_K2 =
   some ([ok = true,ok = true,ok = true,ok = true,ok = true,ok = true,decide ((i : Int) < ((List.length (Book.secs b) : Nat) : Int)) = true,(0 : Int) ≤ (i : Int) ∧ (i : Int) < ((List.length (Book.secs b) : Nat) : Int),0 + 0 + 0 + 1 ≤ 4,inI64 (Book.days b * most),inI64 ((i : Int) + (1 : Int))],Ex.normal,[(.tmp 1,.d (D.ptr 1 0)),(.tmp 3,.d (D.bool (decide (Span.lo (Sec.t (List.getD (Book.secs b) (Int.toNat ((i : Int))) (E.z E.sec))) ≥ Book.days b * most)))),(.tmp 4,.d (D.int .i64 most)),(.tmp 7,.d (D.int .i64 ((i : Int) + (1 : Int)))),(.box 1,.bx (some (Box.mk false (cellsOf (bookD b)))))]) := by kernel_rfl
theorem rCheck_2_no (b : Book) (ok : Bool) (most : Int) (i : Nat) :
  runK (mk PR (lookN types) glob 161) [(85,false)] [] [] (Code.at [1,1,1,1,0,1,0,0] (body Tryz.f56)) (rCheck_S2 b ok most i) rCheck_K2 =
   some ([ok = false,ok = false,ok = false,ok = false,ok = false,ok = false],Ex.exit 2,[(.tmp 1,.d (D.ptr 1 0)),(.tmp 3,.d (D.bool ok)),(.tmp 4,.d (D.int .i64 most)),(.tmp 7,.d (D.int .i64 ((i : Int)))),(.box 1,.bx (some (Box.mk false (cellsOf (bookD b)))))]) := by kernel_rfl
theorem rCheck_2_end (b : Book) (ok : Bool) (most : Int) (i : Nat) :
  runK (mk PR (lookN types) glob 161) [(85,true),(91,false)] [] [] (Code.at [1,1,1,1,0,1,0,0] (body Tryz.f56)) (rCheck_S2 b ok most i) rCheck_K2 =
   some ([ok = true,ok = true,ok = true,ok = true,ok = true,ok = true,decide ((i : Int) < ((List.length (Book.secs b) : Nat) : Int)) = false],Ex.exit 2,[(.tmp 1,.d (D.ptr 1 0)),(.tmp 3,.d (D.bool ok)),(.tmp 4,.d (D.int .i64 most)),(.tmp 7,.d (D.int .i64 ((i : Int)))),(.box 1,.bx (some (Box.mk false (cellsOf (bookD b)))))]) := by kernel_rfl
theorem rCheck_4_a (b : Book) (ok : Bool) (i : Nat) :
  runK (mk PR (lookN types) glob 161) [(107,true),(113,true),(124,false)] [(123,.bool (withinF (b.turns.getD i 0) 1 b.days))] [] (Code.at [1,1,1,1,1,0,1,0,0] (body Tryz.f56)) (rCheck_S4 b ok i) rCheck_K4 =
   some ([ok = true,ok = true,ok = true,ok = true,ok = true,ok = true,decide ((i : Int) < ((List.length (Book.turns b) : Nat) : Int)) = true,(0 : Int) ≤ (i : Int) ∧ (i : Int) < ((List.length (Book.turns b) : Nat) : Int),0 + 1 ≤ 1,Contract PR glob 51 [D.int .i64 (List.getD (Book.turns b) (Int.toNat ((i : Int))) (E.z E.int)),D.int .i64 1,D.int .i64 (Book.days b)] (D.bool (withinF (List.getD (Book.turns b) i (0 : Int)) (1 : Int) (Book.days b))),withinF (List.getD (Book.turns b) i (0 : Int)) (1 : Int) (Book.days b) = false,withinF (List.getD (Book.turns b) i (0 : Int)) (1 : Int) (Book.days b) = false,withinF (List.getD (Book.turns b) i (0 : Int)) (1 : Int) (Book.days b) = false,withinF (List.getD (Book.turns b) i (0 : Int)) (1 : Int) (Book.days b) = false,withinF (List.getD (Book.turns b) i (0 : Int)) (1 : Int) (Book.days b) = false,inI64 ((i : Int) + (1 : Int))],Ex.normal,[(.tmp 1,.d (D.ptr 1 0)),(.tmp 3,.d (D.bool false)),(.tmp 8,.d (D.int .i64 ((i : Int) + (1 : Int)))),(.box 1,.bx (some (Box.mk false (cellsOf (bookD b)))))]) := by kernel_rfl
theorem rCheck_4_b (b : Book) (ok : Bool) (i : Nat) :
  runK (mk PR (lookN types) glob 161) [(107,true),(113,true),(124,true),(127,true)] [(123,.bool (withinF (b.turns.getD i 0) 1 b.days))] [] (Code.at [1,1,1,1,1,0,1,0,0] (body Tryz.f56)) (rCheck_S4 b ok i) rCheck_K4 =
   some ([ok = true,ok = true,ok = true,ok = true,ok = true,ok = true,decide ((i : Int) < ((List.length (Book.turns b) : Nat) : Int)) = true,(0 : Int) ≤ (i : Int) ∧ (i : Int) < ((List.length (Book.turns b) : Nat) : Int),0 + 1 ≤ 1,Contract PR glob 51 [D.int .i64 (List.getD (Book.turns b) (Int.toNat ((i : Int))) (E.z E.int)),D.int .i64 1,D.int .i64 (Book.days b)] (D.bool (withinF (List.getD (Book.turns b) i (0 : Int)) (1 : Int) (Book.days b))),withinF (List.getD (Book.turns b) i (0 : Int)) (1 : Int) (Book.days b) = true,withinF (List.getD (Book.turns b) i (0 : Int)) (1 : Int) (Book.days b) = true,withinF (List.getD (Book.turns b) i (0 : Int)) (1 : Int) (Book.days b) = true,((i : Int) == (0 : Int)) = true,((i : Int) == (0 : Int)) = true,((i : Int) == (0 : Int)) = true,((i : Int) == (0 : Int)) = true,((i : Int) == (0 : Int)) = true,((i : Int) == (0 : Int)) = true,((i : Int) == (0 : Int)) = true,((i : Int) == (0 : Int)) = true,((i : Int) == (0 : Int)) = true,((i : Int) == (0 : Int)) = true,((i : Int) == (0 : Int)) = true,((i : Int) == (0 : Int)) = true,withinF (List.getD (Book.turns b) i (0 : Int)) (1 : Int) (Book.days b) = true,((i : Int) == (0 : Int)) = true,withinF (List.getD (Book.turns b) i (0 : Int)) (1 : Int) (Book.days b) = true,inI64 ((i : Int) + (1 : Int))],Ex.normal,[(.tmp 1,.d (D.ptr 1 0)),(.tmp 3,.d (D.bool true)),(.tmp 8,.d (D.int .i64 ((i : Int) + (1 : Int)))),(.box 1,.bx (some (Box.mk false (cellsOf (bookD b)))))]) := by kernel_rfl
theorem rCheck_4_c (b : Book) (ok : Bool) (i : Nat) :
  runK (mk PR (lookN types) glob 161) [(107,true),(113,true),(124,true),(127,false)] [(123,.bool (withinF (b.turns.getD i 0) 1 b.days))] [] (Code.at [1,1,1,1,1,0,1,0,0] (body Tryz.f56)) (rCheck_S4 b ok i) rCheck_K4 =
   some ([ok = true,ok = true,ok = true,ok = true,ok = true,ok = true,decide ((i : Int) < ((List.length (Book.turns b) : Nat) : Int)) = true,(0 : Int) ≤ (i : Int) ∧ (i : Int) < ((List.length (Book.turns b) : Nat) : Int),0 + 1 ≤ 1,Contract PR glob 51 [D.int .i64 (List.getD (Book.turns b) (Int.toNat ((i : Int))) (E.z E.int)),D.int .i64 1,D.int .i64 (Book.days b)] (D.bool (withinF (List.getD (Book.turns b) i (0 : Int)) (1 : Int) (Book.days b))),withinF (List.getD (Book.turns b) i (0 : Int)) (1 : Int) (Book.days b) = true,withinF (List.getD (Book.turns b) i (0 : Int)) (1 : Int) (Book.days b) = true,withinF (List.getD (Book.turns b) i (0 : Int)) (1 : Int) (Book.days b) = true,((i : Int) == (0 : Int)) = false,((i : Int) == (0 : Int)) = false,((i : Int) == (0 : Int)) = false,((i : Int) == (0 : Int)) = false,(0 : Int) ≤ (i : Int) ∧ (i : Int) < ((List.length (Book.turns b) : Nat) : Int),((i : Int) == (0 : Int)) = false,0 + 1 ≤ 1,((i : Int) == (0 : Int)) = false,((i : Int) == (0 : Int)) = false,((i : Int) == (0 : Int)) = false,((i : Int) == (0 : Int)) = false,inI64 ((i : Int) - (1 : Int)),((i : Int) == (0 : Int)) = false,(0 : Int) ≤ (i : Int) - (1 : Int) ∧ (i : Int) - (1 : Int) < ((List.length (Book.turns b) : Nat) : Int),((i : Int) == (0 : Int)) = false,0 + 1 ≤ 1,((i : Int) == (0 : Int)) = false,withinF (List.getD (Book.turns b) i (0 : Int)) (1 : Int) (Book.days b) = true,((i : Int) == (0 : Int)) = false,withinF (List.getD (Book.turns b) i (0 : Int)) (1 : Int) (Book.days b) = true,inI64 ((i : Int) + (1 : Int))],Ex.normal,[(.tmp 1,.d (D.ptr 1 0)),(.tmp 3,.d (D.bool (decide (List.getD (Book.turns b) (Int.toNat ((i : Int))) (E.z E.int) > List.getD (Book.turns b) (Int.toNat ((i : Int) - (1 : Int))) (E.z E.int))))),(.tmp 8,.d (D.int .i64 ((i : Int) + (1 : Int)))),(.box 1,.bx (some (Box.mk false (cellsOf (bookD b)))))]) := by kernel_rfl
theorem rCheck_4_no (b : Book) (ok : Bool) (i : Nat) :
  runK (mk PR (lookN types) glob 161) [(107,false)] [] [] (Code.at [1,1,1,1,1,0,1,0,0] (body Tryz.f56)) (rCheck_S4 b ok i) rCheck_K4 =
   some ([ok = false,ok = false,ok = false,ok = false,ok = false,ok = false],Ex.exit 4,[(.tmp 1,.d (D.ptr 1 0)),(.tmp 3,.d (D.bool ok)),(.tmp 8,.d (D.int .i64 ((i : Int)))),(.box 1,.bx (some (Box.mk false (cellsOf (bookD b)))))]) := by kernel_rfl
theorem rCheck_4_end (b : Book) (ok : Bool) (i : Nat) :
  runK (mk PR (lookN types) glob 161) [(107,true),(113,false)] [] [] (Code.at [1,1,1,1,1,0,1,0,0] (body Tryz.f56)) (rCheck_S4 b ok i) rCheck_K4 =
   some ([ok = true,ok = true,ok = true,ok = true,ok = true,ok = true,decide ((i : Int) < ((List.length (Book.turns b) : Nat) : Int)) = false],Ex.exit 4,[(.tmp 1,.d (D.ptr 1 0)),(.tmp 3,.d (D.bool ok)),(.tmp 8,.d (D.int .i64 ((i : Int)))),(.box 1,.bx (some (Box.mk false (cellsOf (bookD b)))))]) := by kernel_rfl
theorem rCheck_6_on (b : Book) (ok : Bool) (i : Nat) (ok2 : Bool) :
  runK (mk PR (lookN types) glob 161) [(143,true),(149,true)] [(158,.bool ok2)] [] (Code.at [1,1,1,1,1,1,0,1,0,0] (body Tryz.f56)) (rCheck_S6 b ok i) rCheck_K6 =
   some ([ok = true,ok = true,ok = true,ok = true,ok = true,ok = true,decide ((i : Int) < ((List.length (Book.svs b) : Nat) : Int)) = true,(0 : Int) ≤ (i : Int) ∧ (i : Int) < ((List.length (Book.svs b) : Nat) : Int),0 + 4 ≤ 4,Contract PR glob 92 [bookD b,D.agg [D.int .i64 (Sv.s (List.getD (Book.svs b) (Int.toNat ((i : Int))) (E.z E.sv))),D.int .i64 (Sv.d (List.getD (Book.svs b) (Int.toNat ((i : Int))) (E.z E.sv))),D.int .i64 (Sv.r (List.getD (Book.svs b) (Int.toNat ((i : Int))) (E.z E.sv))),D.int .i64 (Sv.e (List.getD (Book.svs b) (Int.toNat ((i : Int))) (E.z E.sv)))]] (D.bool ok2),inI64 ((i : Int) + (1 : Int))],Ex.normal,[(.tmp 1,.d (D.ptr 1 0)),(.tmp 3,.d (D.bool ok2)),(.tmp 9,.d (D.int .i64 ((i : Int) + (1 : Int)))),(.box 1,.bx (some (Box.mk false (cellsOf (bookD b)))))]) := by kernel_rfl
theorem rCheck_6_no (b : Book) (ok : Bool) (i : Nat) :
  runK (mk PR (lookN types) glob 161) [(143,false)] [] [] (Code.at [1,1,1,1,1,1,0,1,0,0] (body Tryz.f56)) (rCheck_S6 b ok i) rCheck_K6 =
   some ([ok = false,ok = false,ok = false,ok = false,ok = false,ok = false],Ex.exit 6,[(.tmp 1,.d (D.ptr 1 0)),(.tmp 3,.d (D.bool ok)),(.tmp 9,.d (D.int .i64 ((i : Int)))),(.box 1,.bx (some (Box.mk false (cellsOf (bookD b)))))]) := by kernel_rfl
theorem rCheck_6_end (b : Book) (ok : Bool) (i : Nat) :
  runK (mk PR (lookN types) glob 161) [(143,true),(149,false)] [] [] (Code.at [1,1,1,1,1,1,0,1,0,0] (body Tryz.f56)) (rCheck_S6 b ok i) rCheck_K6 =
   some ([ok = true,ok = true,ok = true,ok = true,ok = true,ok = true,decide ((i : Int) < ((List.length (Book.svs b) : Nat) : Int)) = false],Ex.exit 6,[(.tmp 1,.d (D.ptr 1 0)),(.tmp 3,.d (D.bool ok)),(.tmp 9,.d (D.int .i64 ((i : Int)))),(.box 1,.bx (some (Box.mk false (cellsOf (bookD b)))))]) := by kernel_rfl
theorem oSec_all (xs : List Sec) :
  callF (mk PR (lookN types) glob 7) [] [(6,.nil)] [] (body Tryz.f42) [.tmp 2] [.sl false .sec xs] =
   some ([(0 : Int) ≤ (0 : Int) ∧ (0 : Int) ≤ (0 : Int) ∧ (0 : Int) ≤ ((List.length xs : Nat) : Int) ∧ (0 : Int) = (0 : Int),List.length xs * 32 ≤ 140737488355328 ∧ List.length xs ≤ 140737488355328,List.length xs = List.length (xs)],D.sl false E.sec (xs)) := by kernel_rfl
theorem oInt_all (xs : List Int) :
  callF (mk PR (lookN types) glob 7) [] [(6,.nil)] [] (body Tryz.f15) [.tmp 2] [.sl false .int xs] =
   some ([(0 : Int) ≤ (0 : Int) ∧ (0 : Int) ≤ (0 : Int) ∧ (0 : Int) ≤ ((List.length xs : Nat) : Int) ∧ (0 : Int) = (0 : Int),List.length xs * 8 ≤ 140737488355328 ∧ List.length xs ≤ 140737488355328,List.length xs = List.length (xs)],D.sl false E.int (xs)) := by kernel_rfl
theorem oSv_all (xs : List Sv) :
  callF (mk PR (lookN types) glob 7) [] [(6,.nil)] [] (body Tryz.f43) [.tmp 2] [.sl false .sv xs] =
   some ([(0 : Int) ≤ (0 : Int) ∧ (0 : Int) ≤ (0 : Int) ∧ (0 : Int) ≤ ((List.length xs : Nat) : Int) ∧ (0 : Int) = (0 : Int),List.length xs * 32 ≤ 140737488355328 ∧ List.length xs ≤ 140737488355328,List.length xs = List.length (xs)],D.sl false E.sv (xs)) := by kernel_rfl
theorem oChain_all (b : Book) :
  callF (mk PR (lookN types) glob 16) [] [(5,.sl false .sec b.secs),(8,.sl false .int b.turns),(11,.sl false .sv b.svs)] [] (body Tryz.f14) [.cell 2 26] [bookD b] =
   some ([Contract PR glob 42 [D.sl false E.sec (Book.secs b)] (D.sl false E.sec (Book.secs b)),Contract PR glob 15 [D.sl false E.int (Book.turns b)] (D.sl false E.int (Book.turns b)),Contract PR glob 43 [D.sl false E.sv (Book.svs b)] (D.sl false E.sv (Book.svs b))],bookD b) := by kernel_rfl
theorem kSec_all (xs : List Sec) (i : Nat) :
  callF (mk PR (lookN types) glob 31) [] [] [(0,(kSec_K0,(.normal,kSec_S0 xs true i)))] (body Tryz.f61) [.tmp 4] [.sl false .sec xs,.sl false .sec xs] =
   some ([LoopT PR glob 31 (Code.at [1,1,0,1] (body Tryz.f61)) [(.tmp 0,.d (D.sl false E.sec xs)),(.tmp 1,.d (D.sl false E.sec xs)),(.tmp 5,.d (D.bool (((List.length xs : Nat) : Int) == ((List.length xs : Nat) : Int)))),(.tmp 6,.d (D.int .i64 0))] Ex.normal (kSec_S0 xs true i)],D.bool true) := by kernel_rfl
theorem kSv_all (xs : List Sv) (i : Nat) :
  callF (mk PR (lookN types) glob 31) [] [] [(0,(kSv_K0,(.normal,kSv_S0 xs true i)))] (body Tryz.f62) [.tmp 4] [.sl false .sv xs,.sl false .sv xs] =
   some ([LoopT PR glob 31 (Code.at [1,1,0,1] (body Tryz.f62)) [(.tmp 0,.d (D.sl false E.sv xs)),(.tmp 1,.d (D.sl false E.sv xs)),(.tmp 5,.d (D.bool (((List.length xs : Nat) : Int) == ((List.length xs : Nat) : Int)))),(.tmp 6,.d (D.int .i64 0))] Ex.normal (kSv_S0 xs true i)],D.bool true) := by kernel_rfl
theorem kChain_all (b : Book) :
  callF (mk PR (lookN types) glob 38) [(31,true)] [(9,.bool true),(15,.bool true),(22,.bool true)] [] (body Tryz.f24) [.tmp 4] [bookD b,bookD b] =
   some ([Contract PR glob 61 [D.sl false E.sec (Book.secs b),D.sl false E.sec (Book.secs b)] (D.bool true),Contract PR glob 25 [D.sl false E.int (Book.turns b),D.sl false E.int (Book.turns b)] (D.bool true),Contract PR glob 62 [D.sl false E.sv (Book.svs b),D.sl false E.sv (Book.svs b)] (D.bool true),(Book.rule b == Book.rule b) = true,(Book.rule b == Book.rule b) = true,(Book.rule b == Book.rule b) = true,(Book.rule b == Book.rule b) = true,(Book.rule b == Book.rule b) = true,(Book.rule b == Book.rule b) = true],D.bool (Book.days b == Book.days b)) := by kernel_rfl
theorem rSection_all (b : Book) (n : Int) :
  callF (mk PR (lookN types) glob 11) [] [(10,.bool (isSectionF b n))] [] (body Tryz.f114) [.tmp 4] [bookD b,.int .i64 n] =
   some ([inI64 (((List.length (Book.secs b) : Nat) : Int) - (1 : Int)),Contract PR glob 51 [D.int .i64 n,D.int .i64 0,D.int .i64 (((List.length (Book.secs b) : Nat) : Int) - (1 : Int))] (D.bool (isSectionF b n))],D.bool (isSectionF b n)) := by kernel_rfl
theorem rDay_all (b : Book) (n : Int) :
  callF (mk PR (lookN types) glob 9) [] [(8,.bool (isDayF b n))] [] (body Tryz.f118) [.tmp 4] [bookD b,.int .i64 n] =
   some ([Contract PR glob 51 [D.int .i64 n,D.int .i64 0,D.int .i64 (Book.days b)] (D.bool (isDayF b n))],D.bool (isDayF b n)) := by kernel_rfl
theorem rSurvey_a (b : Book) (x : Sv) :
  callF (mk PR (lookN types) glob 25) [(9,false)] [(8,.bool (isSectionF b x.s)),(13,.bool (isDayF b x.d)),(18,.bool (withinF x.r 0 200)),(23,.bool (withinF x.e 0 5))] [] (body Tryz.f92) [.tmp 4] [bookD b,svD x] =
   some ([0 + 0 + 1 ≤ 4,Contract PR glob 114 [bookD b,D.int .i64 (Sv.s x)] (D.bool (isSectionF b (Sv.s x))),isSectionF b (Sv.s x) = false,isSectionF b (Sv.s x) = false,isSectionF b (Sv.s x) = false,isSectionF b (Sv.s x) = false,isSectionF b (Sv.s x) = false],D.bool false) := by kernel_rfl
theorem rSurvey_b (b : Book) (x : Sv) :
  callF (mk PR (lookN types) glob 25) [(9,true),(15,false)] [(8,.bool (isSectionF b x.s)),(13,.bool (isDayF b x.d)),(18,.bool (withinF x.r 0 200)),(23,.bool (withinF x.e 0 5))] [] (body Tryz.f92) [.tmp 4] [bookD b,svD x] =
   some ([0 + 0 + 1 ≤ 4,Contract PR glob 114 [bookD b,D.int .i64 (Sv.s x)] (D.bool (isSectionF b (Sv.s x))),isSectionF b (Sv.s x) = true,isSectionF b (Sv.s x) = true,isSectionF b (Sv.s x) = true,0 + 1 + 1 ≤ 4,isSectionF b (Sv.s x) = true,Contract PR glob 118 [bookD b,D.int .i64 (Sv.d x)] (D.bool (isDayF b (Sv.d x))),isSectionF b (Sv.s x) = true,isDayF b (Sv.d x) = false,isDayF b (Sv.d x) = false,isDayF b (Sv.d x) = false,isDayF b (Sv.d x) = false],D.bool false) := by kernel_rfl
theorem rSurvey_c (b : Book) (x : Sv) :
  callF (mk PR (lookN types) glob 25) [(9,true),(15,true),(20,false)] [(8,.bool (isSectionF b x.s)),(13,.bool (isDayF b x.d)),(18,.bool (withinF x.r 0 200)),(23,.bool (withinF x.e 0 5))] [] (body Tryz.f92) [.tmp 4] [bookD b,svD x] =
   some ([0 + 0 + 1 ≤ 4,Contract PR glob 114 [bookD b,D.int .i64 (Sv.s x)] (D.bool (isSectionF b (Sv.s x))),isSectionF b (Sv.s x) = true,isSectionF b (Sv.s x) = true,isSectionF b (Sv.s x) = true,0 + 1 + 1 ≤ 4,isSectionF b (Sv.s x) = true,Contract PR glob 118 [bookD b,D.int .i64 (Sv.d x)] (D.bool (isDayF b (Sv.d x))),isSectionF b (Sv.s x) = true,isDayF b (Sv.d x) = true,isDayF b (Sv.d x) = true,0 + 2 + 1 ≤ 4,isDayF b (Sv.d x) = true,Contract PR glob 51 [D.int .i64 (Sv.r x),D.int .i64 0,D.int .i64 200] (D.bool (withinF (Sv.r x) (0 : Int) (200 : Int))),isDayF b (Sv.d x) = true,withinF (Sv.r x) (0 : Int) (200 : Int) = false,withinF (Sv.r x) (0 : Int) (200 : Int) = false,withinF (Sv.r x) (0 : Int) (200 : Int) = false,withinF (Sv.r x) (0 : Int) (200 : Int) = false],D.bool false) := by kernel_rfl
theorem rSurvey_d (b : Book) (x : Sv) :
  callF (mk PR (lookN types) glob 25) [(9,true),(15,true),(20,true)] [(8,.bool (isSectionF b x.s)),(13,.bool (isDayF b x.d)),(18,.bool (withinF x.r 0 200)),(23,.bool (withinF x.e 0 5))] [] (body Tryz.f92) [.tmp 4] [bookD b,svD x] =
   some ([0 + 0 + 1 ≤ 4,Contract PR glob 114 [bookD b,D.int .i64 (Sv.s x)] (D.bool (isSectionF b (Sv.s x))),isSectionF b (Sv.s x) = true,isSectionF b (Sv.s x) = true,isSectionF b (Sv.s x) = true,0 + 1 + 1 ≤ 4,isSectionF b (Sv.s x) = true,Contract PR glob 118 [bookD b,D.int .i64 (Sv.d x)] (D.bool (isDayF b (Sv.d x))),isSectionF b (Sv.s x) = true,isDayF b (Sv.d x) = true,isDayF b (Sv.d x) = true,0 + 2 + 1 ≤ 4,isDayF b (Sv.d x) = true,Contract PR glob 51 [D.int .i64 (Sv.r x),D.int .i64 0,D.int .i64 200] (D.bool (withinF (Sv.r x) (0 : Int) (200 : Int))),isDayF b (Sv.d x) = true,withinF (Sv.r x) (0 : Int) (200 : Int) = true,withinF (Sv.r x) (0 : Int) (200 : Int) = true,0 + 3 + 1 ≤ 4,withinF (Sv.r x) (0 : Int) (200 : Int) = true,Contract PR glob 51 [D.int .i64 (Sv.e x),D.int .i64 0,D.int .i64 5] (D.bool (withinF (Sv.e x) (0 : Int) (5 : Int))),withinF (Sv.r x) (0 : Int) (200 : Int) = true],D.bool (withinF (Sv.e x) (0 : Int) (5 : Int))) := by kernel_rfl
theorem rCheck_bad (b : Book) (ok0 ok1 ok2 ok3 ok4 : Bool) (most : Int) (i1 i2 i3 i4 : Nat) :
  callF (mk PR (lookN types) glob 161) [(160,true)] [] [(1001,(rCheck_RK1,(.normal,rCheck_RS1 b ok0))),(0,(rCheck_K0,(.normal,rCheck_S0 b ok1 most i1))),(2,(rCheck_K2,(.normal,rCheck_S2 b ok2 most i2))),(4,(rCheck_K4,(.normal,rCheck_S4 b ok3 i3))),(6,(rCheck_K6,(.normal,rCheck_S6 b ok4 i4)))] (body Tryz.f56) [.tmp 2] [bookD b] =
   some ([LoopT PR glob 161 (Code.at [1,0] (body Tryz.f56)) [(.tmp 1,.d (D.ptr 1 0)),(.box 1,.bx (some (Box.mk false (cellsOf (bookD b)))))] Ex.normal (rCheck_RS1 b ok0),LoopT PR glob 161 (Code.at [1,1,1,0,1] (body Tryz.f56)) [(.tmp 1,.d (D.ptr 1 0)),(.tmp 3,.d (D.bool ok0)),(.tmp 4,.d (D.int .i64 0)),(.tmp 5,.d (D.int .i64 0)),(.box 1,.bx (some (Box.mk false (cellsOf (bookD b)))))] Ex.normal (rCheck_S0 b ok1 most i1),LoopT PR glob 161 (Code.at [1,1,1,1,0,1] (body Tryz.f56)) [(.tmp 1,.d (D.ptr 1 0)),(.tmp 3,.d (D.bool ok1)),(.tmp 4,.d (D.int .i64 most)),(.tmp 7,.d (D.int .i64 0)),(.box 1,.bx (some (Box.mk false (cellsOf (bookD b)))))] Ex.normal (rCheck_S2 b ok2 most i2),LoopT PR glob 161 (Code.at [1,1,1,1,1,0,1] (body Tryz.f56)) [(.tmp 1,.d (D.ptr 1 0)),(.tmp 3,.d (D.bool ok2)),(.tmp 8,.d (D.int .i64 0)),(.box 1,.bx (some (Box.mk false (cellsOf (bookD b)))))] Ex.normal (rCheck_S4 b ok3 i3),LoopT PR glob 161 (Code.at [1,1,1,1,1,1,0,1] (body Tryz.f56)) [(.tmp 1,.d (D.ptr 1 0)),(.tmp 3,.d (D.bool ok3)),(.tmp 9,.d (D.int .i64 0)),(.box 1,.bx (some (Box.mk false (cellsOf (bookD b)))))] Ex.normal (rCheck_S6 b ok4 i4),(!ok4) = true],D.int .i64 10) := by kernel_rfl
theorem rCheck_good (b : Book) (ok0 ok1 ok2 ok3 ok4 : Bool) (most : Int) (i1 i2 i3 i4 : Nat) :
  callF (mk PR (lookN types) glob 161) [(160,false)] [] [(1001,(rCheck_RK1,(.normal,rCheck_RS1 b ok0))),(0,(rCheck_K0,(.normal,rCheck_S0 b ok1 most i1))),(2,(rCheck_K2,(.normal,rCheck_S2 b ok2 most i2))),(4,(rCheck_K4,(.normal,rCheck_S4 b ok3 i3))),(6,(rCheck_K6,(.normal,rCheck_S6 b ok4 i4)))] (body Tryz.f56) [.tmp 2] [bookD b] =
   some ([LoopT PR glob 161 (Code.at [1,0] (body Tryz.f56)) [(.tmp 1,.d (D.ptr 1 0)),(.box 1,.bx (some (Box.mk false (cellsOf (bookD b)))))] Ex.normal (rCheck_RS1 b ok0),LoopT PR glob 161 (Code.at [1,1,1,0,1] (body Tryz.f56)) [(.tmp 1,.d (D.ptr 1 0)),(.tmp 3,.d (D.bool ok0)),(.tmp 4,.d (D.int .i64 0)),(.tmp 5,.d (D.int .i64 0)),(.box 1,.bx (some (Box.mk false (cellsOf (bookD b)))))] Ex.normal (rCheck_S0 b ok1 most i1),LoopT PR glob 161 (Code.at [1,1,1,1,0,1] (body Tryz.f56)) [(.tmp 1,.d (D.ptr 1 0)),(.tmp 3,.d (D.bool ok1)),(.tmp 4,.d (D.int .i64 most)),(.tmp 7,.d (D.int .i64 0)),(.box 1,.bx (some (Box.mk false (cellsOf (bookD b)))))] Ex.normal (rCheck_S2 b ok2 most i2),LoopT PR glob 161 (Code.at [1,1,1,1,1,0,1] (body Tryz.f56)) [(.tmp 1,.d (D.ptr 1 0)),(.tmp 3,.d (D.bool ok2)),(.tmp 8,.d (D.int .i64 0)),(.box 1,.bx (some (Box.mk false (cellsOf (bookD b)))))] Ex.normal (rCheck_S4 b ok3 i3),LoopT PR glob 161 (Code.at [1,1,1,1,1,1,0,1] (body Tryz.f56)) [(.tmp 1,.d (D.ptr 1 0)),(.tmp 3,.d (D.bool ok3)),(.tmp 9,.d (D.int .i64 0)),(.box 1,.bx (some (Box.mk false (cellsOf (bookD b)))))] Ex.normal (rCheck_S6 b ok4 i4),(!ok4) = false],D.int .i64 0) := by kernel_rfl
end Go.Di

namespace Go.Di
open Proofs

/-! ### Copies,and books that are the same -/
structure Room (b : Book) : Prop where
 secs : b.secs.length * 32 ≤ 140737488355328
 turns : b.turns.length * 8 ≤ 140737488355328
 svs : b.svs.length * 32 ≤ 140737488355328
theorem oSec_con (xs : List Sec) (h : xs.length * 32 ≤ 140737488355328) : Contract PR glob 42 [.sl false .sec xs] (.sl false .sec xs) := by
 refine (contract_of_path (G 7) oSec_fn (oSec_all xs) ?_).toWeak
 have h1 : xs.length * 32 ≤ 140737488355328 ∧ xs.length ≤ 140737488355328 := ⟨h,by omega⟩
 repeat (first | exact trivial | refine ⟨by first | exact h1 | rfl | omega,?_⟩)
theorem oInt_con (xs : List Int) (h : xs.length * 8 ≤ 140737488355328) : Contract PR glob 15 [.sl false .int xs] (.sl false .int xs) := by
 refine (contract_of_path (G 7) oInt_fn (oInt_all xs) ?_).toWeak
 have h1 : xs.length * 8 ≤ 140737488355328 ∧ xs.length ≤ 140737488355328 := ⟨h,by omega⟩
 repeat (first | exact trivial | refine ⟨by first | exact h1 | rfl | omega,?_⟩)
theorem oSv_con (xs : List Sv) (h : xs.length * 32 ≤ 140737488355328) : Contract PR glob 43 [.sl false .sv xs] (.sl false .sv xs) := by
 refine (contract_of_path (G 7) oSv_fn (oSv_all xs) ?_).toWeak
 have h1 : xs.length * 32 ≤ 140737488355328 ∧ xs.length ≤ 140737488355328 := ⟨h,by omega⟩
 repeat (first | exact trivial | refine ⟨by first | exact h1 | rfl | omega,?_⟩)
theorem oChain_con {b : Book} (hr : Room b) : Contract PR glob 14 [bookD b] (bookD b) := by
 have c1 := oSec_con b.secs hr.secs
 have c2 := oInt_con b.turns hr.turns
 have c3 := oSv_con b.svs hr.svs
 refine contract_of_path (G 16) oChain_fn (oChain_all b) ?_
 repeat (first | exact trivial | refine ⟨by first | exact c1 | exact c2 | exact c3 | rfl | omega,?_⟩)
theorem eqI_self : ∀ l : List Int,eqI l l = true
 | [] => rfl
 | x :: l => by simp [eqI,eqI_self l]
theorem kSec_con (xs : List Sec) (hl : xs.length ≤ 9223372036854775807) : Contract PR glob 61 [.sl false .sec xs,.sl false .sec xs] (.bool true) := by
 have hloop : LoopT PR glob 31 (Code.at [1,1,0,1] (body Tryz.f61)) (kSec_S0 xs true 0) .normal (kSec_S0 xs true xs.length) := by
  refine LoopT.count (tt := lookN types) (id := 0) (c := Code.at [1,1,0,1,0,0] (body Tryz.f61)) (by kernel_rfl) xs.length (fun i => kSec_S0 xs true i) (fun i hi => ?_) (WpL.path (G 31) (kSec_0_end xs true _) ⟨rfl,rfl,rfl,rfl,rfl,decide_eq_false (Int.lt_irrefl _),trivial⟩ ⟨.inl ⟨rfl,rfl⟩,rfl⟩)
  have hlt : decide ((i : Int) < xs.length) = true := decide_eq_true (by omega)
  have hi64 : inI64 ((i : Int) + 1) := by simp only [inI64]; omega
  refine WpL.path (G 31) (kSec_0_on xs true i) ?_ ⟨rfl,by unfold kSec_S0; rw [eqI_self]; rfl⟩
  repeat (first | exact trivial | refine ⟨by first | exact hlt | exact hi64 | rfl | omega | simp,?_⟩)
 have hany : ∀ ok,ok = true → LoopT PR glob 31 (Code.at [1,1,0,1] (body Tryz.f61)) (kSec_S0 xs ok 0) .normal (kSec_S0 xs true xs.length) := by rintro _ rfl; exact hloop
 have hb : ((xs.length : Int) == xs.length) = true := by simp
 refine contract_of_path (G 31) kSec_fn (kSec_all xs xs.length) ?_
 repeat (first | exact trivial | refine ⟨by first | exact hany _ hb | rfl | omega | simp,?_⟩)
theorem kSv_con (xs : List Sv) (hl : xs.length ≤ 9223372036854775807) : Contract PR glob 62 [.sl false .sv xs,.sl false .sv xs] (.bool true) := by
 have hloop : LoopT PR glob 31 (Code.at [1,1,0,1] (body Tryz.f62)) (kSv_S0 xs true 0) .normal (kSv_S0 xs true xs.length) := by
  refine LoopT.count (tt := lookN types) (id := 0) (c := Code.at [1,1,0,1,0,0] (body Tryz.f62)) (by kernel_rfl) xs.length (fun i => kSv_S0 xs true i) (fun i hi => ?_) (WpL.path (G 31) (kSv_0_end xs true _) ⟨rfl,rfl,rfl,rfl,rfl,decide_eq_false (Int.lt_irrefl _),trivial⟩ ⟨.inl ⟨rfl,rfl⟩,rfl⟩)
  have hlt : decide ((i : Int) < xs.length) = true := decide_eq_true (by omega)
  have hi64 : inI64 ((i : Int) + 1) := by simp only [inI64]; omega
  refine WpL.path (G 31) (kSv_0_on xs true i) ?_ ⟨rfl,by unfold kSv_S0; rw [eqI_self]; rfl⟩
  repeat (first | exact trivial | refine ⟨by first | exact hlt | exact hi64 | rfl | omega | simp,?_⟩)
 have hany : ∀ ok,ok = true → LoopT PR glob 31 (Code.at [1,1,0,1] (body Tryz.f62)) (kSv_S0 xs ok 0) .normal (kSv_S0 xs true xs.length) := by rintro _ rfl; exact hloop
 have hb : ((xs.length : Int) == xs.length) = true := by simp
 refine contract_of_path (G 31) kSv_fn (kSv_all xs xs.length) ?_
 repeat (first | exact trivial | refine ⟨by first | exact hany _ hb | rfl | omega | simp,?_⟩)
theorem kChain_con {b : Book} (hs : Small b) : Contract PR glob 24 [bookD b,bookD b] (.bool true) := by
 have c1 := kSec_con b.secs hs.secs
 have c2 := alike_con b.turns b.turns hs.turns
 have c3 := kSv_con b.svs hs.svs
 rw [decide_eq_true rfl] at c2
 have e1 : (b.rule == b.rule) = true := by simp
 have e2 : (b.days == b.days) = true := by simp
 rw [← e2]
 refine contract_of_path (G 38) kChain_fn (kChain_all b) ?_
 repeat (first | exact trivial | refine ⟨by first | exact c1 | exact c2 | exact c3 | exact e1 | rfl | omega,?_⟩)

/-! ### Small things -/
theorem inside_within {n lo hi : Int} : insideF n lo hi = withinF n lo hi := by simp [insideF,withinF]
theorem inside_con' (n lo hi : Int) : Contract PR glob 51 [.int .i64 n,.int .i64 lo,.int .i64 hi] (.bool (withinF n lo hi)) := by
 rw [← inside_within]
 exact inside_con n lo hi
theorem rSection_con (b : Book) (n : Int) (hs : b.secs.length ≤ 9223372036854775807) : Contract PR glob 114 [bookD b,.int .i64 n] (.bool (isSectionF b n)) := by
 have c := inside_con' n 0 (b.secs.length - 1)
 have h1 : inI64 ((b.secs.length : Int) - 1) := by simp only [inI64]; omega
 refine contract_of_path (G 11) rSection_fn (rSection_all b n) ?_
 repeat (first | exact trivial | refine ⟨by first | exact c | exact h1 | rfl | omega,?_⟩)
theorem rDay_con (b : Book) (n : Int) : Contract PR glob 118 [bookD b,.int .i64 n] (.bool (isDayF b n)) := by
 have c := inside_con' n 0 b.days
 refine contract_of_path (G 9) rDay_fn (rDay_all b n) ?_
 repeat (first | exact trivial | refine ⟨by first | exact c | rfl | omega,?_⟩)
theorem rSurvey_con (b : Book) (x : Sv) (hs : b.secs.length ≤ 9223372036854775807) : Contract PR glob 92 [bookD b,svD x] (.bool (isSurveyF b x)) := by
 have c1 := rSection_con b x.s hs
 have c2 := rDay_con b x.d
 have c3 := inside_con' x.r 0 200
 have c4 := inside_con' x.e 0 5
 unfold isSurveyF
 cases h1 : isSectionF b x.s with
 | false =>
  refine contract_of_path (G 25) rSurvey_fn (rSurvey_a b x) ?_
  repeat (first | exact trivial | refine ⟨by first | exact c1 | exact h1 | rfl | omega,?_⟩)
 | true =>
  cases h2 : isDayF b x.d with
  | false =>
   refine contract_of_path (G 25) rSurvey_fn (rSurvey_b b x) ?_
   repeat (first | exact trivial | refine ⟨by first | exact c1 | exact c2 | exact h1 | exact h2 | rfl | omega,?_⟩)
  | true =>
   cases h3 : withinF x.r 0 200 with
   | false =>
    refine contract_of_path (G 25) rSurvey_fn (rSurvey_c b x) ?_
    repeat (first | exact trivial | refine ⟨by first | exact c1 | exact c2 | exact c3 | exact h1 | exact h2 | exact h3 | rfl | omega,?_⟩)
   | true =>
    refine contract_of_path (G 25) rSurvey_fn (rSurvey_d b x) ?_
    repeat (first | exact trivial | refine ⟨by first | exact c1 | exact c2 | exact c3 | exact c4 | exact h1 | exact h2 | exact h3 | rfl | omega,?_⟩)
/-- What a pair's truth keeps to. -/
structure Tame (u : Tr1) : Prop where
 t0 : 0 ≤ u.t0 ∧ u.t0 ≤ 200
 t1 : 0 ≤ u.t1 ∧ u.t1 ≤ 200
 w0 : 0 ≤ u.w0 ∧ u.w0 ≤ 3
 w1 : 0 ≤ u.w1 ∧ u.w1 ≤ 3
end Go.Di

namespace Go.Di
open Proofs

/-! ### The truths of a pair: four loops -/
section
variable {b : Book} {k : Nat}
end
end Go.Di

