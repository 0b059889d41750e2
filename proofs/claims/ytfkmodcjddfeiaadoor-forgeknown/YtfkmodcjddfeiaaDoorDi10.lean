/- Part 10: an interpreter over plain data for this code, with the proof that it says what the model does, and the contracts of the functions. No condition. -/
import Derived.Test.YtfkmodcjddfeiaaDoorDi09
set_option linter.unusedVariables false
set_option linter.unusedSimpArgs false
namespace Go.Di
open Proofs
theorem within_fn : FnOk PR (mk PR (lookN types) glob 15) 133 (body Tryd.f133) [.tmp 6] := by refine ⟨Tryd.f133,?_,?_,?_,?_,?_⟩ <;> kernel_rfl
theorem isSpan_fn : FnOk PR (mk PR (lookN types) glob 32) 134 (body Tryd.f134) [.tmp 6] := by refine ⟨Tryd.f134,?_,?_,?_,?_,?_⟩ <;> kernel_rfl
theorem isSection_fn : FnOk PR (mk PR (lookN types) glob 11) 124 (body Tryd.f124) [.tmp 4] := by refine ⟨Tryd.f124,?_,?_,?_,?_,?_⟩ <;> kernel_rfl
theorem isDay_fn : FnOk PR (mk PR (lookN types) glob 9) 122 (body Tryd.f122) [.tmp 4] := by refine ⟨Tryd.f122,?_,?_,?_,?_,?_⟩ <;> kernel_rfl
theorem isSurvey_fn : FnOk PR (mk PR (lookN types) glob 25) 128 (body Tryd.f128) [.tmp 4] := by refine ⟨Tryd.f128,?_,?_,?_,?_,?_⟩ <;> kernel_rfl
theorem index_fn : FnOk PR (mk PR (lookN types) glob 19) 173 (body Tryd.f173) [.tmp 4] := by refine ⟨Tryd.f173,?_,?_,?_,?_,?_⟩ <;> kernel_rfl
theorem check_fn : FnOk PR (mk PR (lookN types) glob 119) 64 (body Tryd.f64) [.tmp 2] := by refine ⟨Tryd.f64,?_,?_,?_,?_,?_⟩ <;> kernel_rfl
theorem contains_fn : FnOk PR (mk PR (lookN types) glob 9) 130 (body Tryd.f130) [.tmp 4] := by refine ⟨Tryd.f130,?_,?_,?_,?_,?_⟩ <;> kernel_rfl
def index_S0 (xs : List Int) (v : Int) (i : Nat) : List (Key × Val) :=
 [(.tmp 0,.d (D.sl false E.int xs)),
  (.tmp 1,.d (D.int .i64 v)),
  (.tmp 7,.d (D.int .i64 (((List.length xs : Nat) : Int)))),
  (.tmp 8,.d (.int .i64 i))]
def index_K0 : List Key := [.tmp 0,.tmp 1,.tmp 7,.tmp 8]
def check_R1 (b : Book)  : List (Key × Val) :=
 [(.tmp 1,.d (D.ptr 1 0)),
  (.box 1,.bx (some (Box.mk false (bkCells b))))]
def check_RK1 : List Key := [.tmp 1,.box 1]
def check_RO1 : List Key := [.tmp 1,.tmp 3,.box 1]
def check_RS1 (b : Book)  (ok : Bool) : List (Key × Val) :=
 [(.tmp 1,.d (D.ptr 1 0)),
  (.tmp 3,.d (.bool ok)),
  (.box 1,.bx (some (Box.mk false (bkCells b))))]
def check_S0 (b : Book) (ok : Bool) (most : Int) (i : Nat) : List (Key × Val) :=
 [(.tmp 1,.d (D.ptr 1 0)),
  (.tmp 3,.d (.bool ok)),
  (.tmp 4,.d (.int .i64 most)),
  (.tmp 41,.d (D.sl false E.sec (Book.secs b))),
  (.tmp 42,.d (D.int .i64 (((List.length (Book.secs b) : Nat) : Int)))),
  (.tmp 43,.d (.int .i64 i)),
  (.box 1,.bx (some (Box.mk false (bkCells b))))]
def check_K0 : List Key := [.tmp 1,.tmp 3,.tmp 4,.tmp 41,.tmp 42,.tmp 43,.box 1]
def check_R6 (b : Book) (ok : Bool) (most : Int) (i : Nat) : List (Key × Val) :=
 [(.tmp 1,.d (D.ptr 1 0)),
  (.tmp 3,.d (.bool ok)),
  (.tmp 4,.d (.int .i64 most)),
  (.tmp 6,.d (D.ptr 6 0)),
  (.tmp 41,.d (D.sl false E.sec (Book.secs b))),
  (.tmp 42,.d (D.int .i64 (((List.length (Book.secs b) : Nat) : Int)))),
  (.tmp 43,.d (.int .i64 i)),
  (.box 1,.bx (some (Box.mk false (bkCells b)))),
  (.box 6,.bx (some ⟨false,E.enc .sec (b.secs.getD i sec0)⟩))]
def check_RK6 : List Key := [.tmp 1,.tmp 3,.tmp 4,.tmp 6,.tmp 41,.tmp 42,.tmp 43,.box 1,.box 6]
def check_RO6 : List Key := [.tmp 1,.tmp 3,.tmp 4,.tmp 6,.tmp 41,.tmp 42,.tmp 43,.box 1,.box 6]
def check_RS6 (b : Book) (ok : Bool) (most : Int) (i : Nat) (ok2 : Bool) : List (Key × Val) :=
 [(.tmp 1,.d (D.ptr 1 0)),
  (.tmp 3,.d (.bool ok2)),
  (.tmp 4,.d (.int .i64 most)),
  (.tmp 6,.d (D.ptr 6 0)),
  (.tmp 41,.d (D.sl false E.sec (Book.secs b))),
  (.tmp 42,.d (D.int .i64 (((List.length (Book.secs b) : Nat) : Int)))),
  (.tmp 43,.d (.int .i64 i)),
  (.box 1,.bx (some (Box.mk false (bkCells b)))),
  (.box 6,.bx (some ⟨false,E.enc .sec (b.secs.getD i sec0)⟩))]
def check_S2 (b : Book) (ok : Bool) (most : Int) (i : Nat) : List (Key × Val) :=
 [(.tmp 1,.d (D.ptr 1 0)),
  (.tmp 3,.d (.bool ok)),
  (.tmp 4,.d (.int .i64 most)),
  (.tmp 67,.d (D.sl false E.sec (Book.secs b))),
  (.tmp 68,.d (D.int .i64 (((List.length (Book.secs b) : Nat) : Int)))),
  (.tmp 69,.d (.int .i64 i)),
  (.box 1,.bx (some (Box.mk false (bkCells b))))]
def check_K2 : List Key := [.tmp 1,.tmp 3,.tmp 4,.tmp 67,.tmp 68,.tmp 69,.box 1]
def check_R14 (b : Book) (ok : Bool) (most : Int) (i : Nat) : List (Key × Val) :=
 [(.tmp 1,.d (D.ptr 1 0)),
  (.tmp 3,.d (.bool ok)),
  (.tmp 4,.d (.int .i64 most)),
  (.tmp 8,.d (D.ptr 8 0)),
  (.tmp 67,.d (D.sl false E.sec (Book.secs b))),
  (.tmp 68,.d (D.int .i64 (((List.length (Book.secs b) : Nat) : Int)))),
  (.tmp 69,.d (.int .i64 i)),
  (.box 1,.bx (some (Box.mk false (bkCells b)))),
  (.box 8,.bx (some ⟨false,E.enc .sec (b.secs.getD i sec0)⟩))]
def check_RK14 : List Key := [.tmp 1,.tmp 3,.tmp 4,.tmp 8,.tmp 67,.tmp 68,.tmp 69,.box 1,.box 8]
def check_RO14 : List Key := [.tmp 1,.tmp 3,.tmp 4,.tmp 67,.tmp 68,.tmp 69,.box 1]
def check_RS14 (b : Book) (ok : Bool) (most : Int) (i : Nat) (ok2 : Bool) : List (Key × Val) :=
 [(.tmp 1,.d (D.ptr 1 0)),
  (.tmp 3,.d (.bool ok2)),
  (.tmp 4,.d (.int .i64 most)),
  (.tmp 67,.d (D.sl false E.sec (Book.secs b))),
  (.tmp 68,.d (D.int .i64 (((List.length (Book.secs b) : Nat) : Int)))),
  (.tmp 69,.d (.int .i64 i)),
  (.box 1,.bx (some (Box.mk false (bkCells b))))]
def check_S4 (b : Book) (ok : Bool) (last : Int) (i : Nat) : List (Key × Val) :=
 [(.tmp 1,.d (D.ptr 1 0)),
  (.tmp 3,.d (.bool ok)),
  (.tmp 9,.d (.int .i64 last)),
  (.tmp 86,.d (D.sl false E.int (Book.turns b))),
  (.tmp 87,.d (D.int .i64 (((List.length (Book.turns b) : Nat) : Int)))),
  (.tmp 88,.d (.int .i64 i)),
  (.box 1,.bx (some (Box.mk false (bkCells b))))]
def check_K4 : List Key := [.tmp 1,.tmp 3,.tmp 9,.tmp 86,.tmp 87,.tmp 88,.box 1]
def check_R20 (b : Book) (ok : Bool) (last : Int) (i : Nat) : List (Key × Val) :=
 [(.tmp 1,.d (D.ptr 1 0)),
  (.tmp 3,.d (.bool ok)),
  (.tmp 9,.d (.int .i64 last)),
  (.tmp 11,.d (.int .i64 (b.turns.getD i 0))),
  (.tmp 86,.d (D.sl false E.int (Book.turns b))),
  (.tmp 87,.d (D.int .i64 (((List.length (Book.turns b) : Nat) : Int)))),
  (.tmp 88,.d (.int .i64 i)),
  (.box 1,.bx (some (Box.mk false (bkCells b))))]
def check_RK20 : List Key := [.tmp 1,.tmp 3,.tmp 9,.tmp 11,.tmp 86,.tmp 87,.tmp 88,.box 1]
def check_RO20 : List Key := [.tmp 1,.tmp 3,.tmp 11,.tmp 86,.tmp 87,.tmp 88,.box 1]
def check_RS20 (b : Book) (ok : Bool) (last : Int) (i : Nat) (ok2 : Bool) : List (Key × Val) :=
 [(.tmp 1,.d (D.ptr 1 0)),
  (.tmp 3,.d (.bool ok2)),
  (.tmp 11,.d (.int .i64 (b.turns.getD i 0))),
  (.tmp 86,.d (D.sl false E.int (Book.turns b))),
  (.tmp 87,.d (D.int .i64 (((List.length (Book.turns b) : Nat) : Int)))),
  (.tmp 88,.d (.int .i64 i)),
  (.box 1,.bx (some (Box.mk false (bkCells b))))]
def check_S6 (b : Book) (ok : Bool) (i : Nat) : List (Key × Val) :=
 [(.tmp 1,.d (D.ptr 1 0)),
  (.tmp 3,.d (.bool ok)),
  (.tmp 104,.d (D.sl false E.sv (Book.svs b))),
  (.tmp 105,.d (D.int .i64 (((List.length (Book.svs b) : Nat) : Int)))),
  (.tmp 106,.d (.int .i64 i)),
  (.box 1,.bx (some (Box.mk false (bkCells b))))]
def check_K6 : List Key := [.tmp 1,.tmp 3,.tmp 104,.tmp 105,.tmp 106,.box 1]
def check_R26 (b : Book) (ok : Bool) (i : Nat) : List (Key × Val) :=
 [(.tmp 1,.d (D.ptr 1 0)),
  (.tmp 3,.d (.bool ok)),
  (.tmp 13,.d (D.ptr 13 0)),
  (.tmp 104,.d (D.sl false E.sv (Book.svs b))),
  (.tmp 105,.d (D.int .i64 (((List.length (Book.svs b) : Nat) : Int)))),
  (.tmp 106,.d (.int .i64 i)),
  (.box 1,.bx (some (Box.mk false (bkCells b)))),
  (.box 13,.bx (some ⟨false,E.enc .sv (b.svs.getD i sv0)⟩))]
def check_RK26 : List Key := [.tmp 1,.tmp 3,.tmp 13,.tmp 104,.tmp 105,.tmp 106,.box 1,.box 13]
def check_RO26 : List Key := [.tmp 1,.tmp 3,.tmp 104,.tmp 105,.tmp 106,.box 1]
def check_RS26 (b : Book) (ok : Bool) (i : Nat) (ok2 : Bool) : List (Key × Val) :=
 [(.tmp 1,.d (D.ptr 1 0)),
  (.tmp 3,.d (.bool ok2)),
  (.tmp 104,.d (D.sl false E.sv (Book.svs b))),
  (.tmp 105,.d (D.int .i64 (((List.length (Book.svs b) : Nat) : Int)))),
  (.tmp 106,.d (.int .i64 i)),
  (.box 1,.bx (some (Box.mk false (bkCells b))))]
theorem index_0_on (xs : List Int) (v : Int) (i : Nat) :
  runK (mk PR (lookN types) glob 19) [(9,true),(16,false)] [] [] (Code.at [1,0,1,0,0] (body Tryd.f173)) (index_S0 xs v i) index_K0 =
   some ([decide ((i : Int) < ((List.length xs : Nat) : Int)) = true,(0 : Int) ≤ (i : Int) ∧ (i : Int) < ((List.length xs : Nat) : Int),0 + 1 ≤ 1,(v == List.getD xs (Int.toNat ((i : Int))) (E.z E.int)) = false,inI64 ((i : Int) + (1 : Int))],Ex.normal,[(.tmp 0,.d (D.sl false E.int xs)),(.tmp 1,.d (D.int .i64 v)),(.tmp 7,.d (D.int .i64 (((List.length xs : Nat) : Int)))),(.tmp 8,.d (D.int .i64 ((i : Int) + (1 : Int))))]) := by kernel_rfl
theorem index_0_hit (xs : List Int) (v : Int) (i : Nat) :
  runK (mk PR (lookN types) glob 19) [(9,true),(16,true)] [] [] (Code.at [1,0,1,0,0] (body Tryd.f173)) (index_S0 xs v i) [.tmp 0,.tmp 1,.tmp 7,.tmp 8,.tmp 4] =
   some ([decide ((i : Int) < ((List.length xs : Nat) : Int)) = true,(0 : Int) ≤ (i : Int) ∧ (i : Int) < ((List.length xs : Nat) : Int),0 + 1 ≤ 1,(v == List.getD xs (Int.toNat ((i : Int))) (E.z E.int)) = true],Ex.ret,[(.tmp 0,.d (D.sl false E.int xs)),(.tmp 1,.d (D.int .i64 v)),(.tmp 7,.d (D.int .i64 (((List.length xs : Nat) : Int)))),(.tmp 8,.d (D.int .i64 ((i : Int)))),(.tmp 4,.d (D.int .i64 ((i : Int))))]) := by kernel_rfl
theorem index_0_end (xs : List Int) (v : Int) (i : Nat) :
  runK (mk PR (lookN types) glob 19) [(9,false)] [] [] (Code.at [1,0,1,0,0] (body Tryd.f173)) (index_S0 xs v i) index_K0 =
   some ([decide ((i : Int) < ((List.length xs : Nat) : Int)) = false],Ex.exit 0,[(.tmp 0,.d (D.sl false E.int xs)),(.tmp 1,.d (D.int .i64 v)),(.tmp 7,.d (D.int .i64 (((List.length xs : Nat) : Int)))),(.tmp 8,.d (D.int .i64 ((i : Int))))]) := by kernel_rfl
theorem check_R1_a (b : Book) :
  runK (mk PR (lookN types) glob 119) [(18,false)] [(17,.bool (withinF b.secs.length 1 4)),(21,.bool (withinF b.days 1 30)),(26,.bool (withinF b.rule 0 200))] [] (Code.at [1,0] (body Tryd.f64)) (check_R1 b ) check_RO1 =
   some ([Contract PR glob 133 [D.int .i64 (((List.length (Book.secs b) : Nat) : Int)),D.int .i64 1,D.int .i64 4] (D.bool (withinF (((List.length (Book.secs b) : Nat) : Int)) (1 : Int) (4 : Int))),withinF (((List.length (Book.secs b) : Nat) : Int)) (1 : Int) (4 : Int) = false,withinF (((List.length (Book.secs b) : Nat) : Int)) (1 : Int) (4 : Int) = false,withinF (((List.length (Book.secs b) : Nat) : Int)) (1 : Int) (4 : Int) = false,withinF (((List.length (Book.secs b) : Nat) : Int)) (1 : Int) (4 : Int) = false],Ex.normal,[(.tmp 1,.d (D.ptr 1 0)),(.tmp 3,.d (D.bool false)),(.box 1,.bx (some (Box.mk false (bkCells b))))]) := by kernel_rfl
theorem check_R1_b (b : Book) :
  runK (mk PR (lookN types) glob 119) [(18,true),(23,false)] [(17,.bool (withinF b.secs.length 1 4)),(21,.bool (withinF b.days 1 30)),(26,.bool (withinF b.rule 0 200))] [] (Code.at [1,0] (body Tryd.f64)) (check_R1 b ) check_RO1 =
   some ([Contract PR glob 133 [D.int .i64 (((List.length (Book.secs b) : Nat) : Int)),D.int .i64 1,D.int .i64 4] (D.bool (withinF (((List.length (Book.secs b) : Nat) : Int)) (1 : Int) (4 : Int))),withinF (((List.length (Book.secs b) : Nat) : Int)) (1 : Int) (4 : Int) = true,withinF (((List.length (Book.secs b) : Nat) : Int)) (1 : Int) (4 : Int) = true,withinF (((List.length (Book.secs b) : Nat) : Int)) (1 : Int) (4 : Int) = true,Contract PR glob 133 [D.int .i64 (Book.days b),D.int .i64 1,D.int .i64 30] (D.bool (withinF (Book.days b) (1 : Int) (30 : Int))),withinF (((List.length (Book.secs b) : Nat) : Int)) (1 : Int) (4 : Int) = true,withinF (Book.days b) (1 : Int) (30 : Int) = false,withinF (Book.days b) (1 : Int) (30 : Int) = false,withinF (Book.days b) (1 : Int) (30 : Int) = false,withinF (Book.days b) (1 : Int) (30 : Int) = false],Ex.normal,[(.tmp 1,.d (D.ptr 1 0)),(.tmp 3,.d (D.bool false)),(.box 1,.bx (some (Box.mk false (bkCells b))))]) := by kernel_rfl
theorem check_R1_c (b : Book) :
  runK (mk PR (lookN types) glob 119) [(18,true),(23,true),(28,false)] [(17,.bool (withinF b.secs.length 1 4)),(21,.bool (withinF b.days 1 30)),(26,.bool (withinF b.rule 0 200))] [] (Code.at [1,0] (body Tryd.f64)) (check_R1 b ) check_RO1 =
   some ([Contract PR glob 133 [D.int .i64 (((List.length (Book.secs b) : Nat) : Int)),D.int .i64 1,D.int .i64 4] (D.bool (withinF (((List.length (Book.secs b) : Nat) : Int)) (1 : Int) (4 : Int))),withinF (((List.length (Book.secs b) : Nat) : Int)) (1 : Int) (4 : Int) = true,withinF (((List.length (Book.secs b) : Nat) : Int)) (1 : Int) (4 : Int) = true,withinF (((List.length (Book.secs b) : Nat) : Int)) (1 : Int) (4 : Int) = true,Contract PR glob 133 [D.int .i64 (Book.days b),D.int .i64 1,D.int .i64 30] (D.bool (withinF (Book.days b) (1 : Int) (30 : Int))),withinF (((List.length (Book.secs b) : Nat) : Int)) (1 : Int) (4 : Int) = true,withinF (Book.days b) (1 : Int) (30 : Int) = true,withinF (Book.days b) (1 : Int) (30 : Int) = true,withinF (Book.days b) (1 : Int) (30 : Int) = true,Contract PR glob 133 [D.int .i64 (Book.rule b),D.int .i64 0,D.int .i64 200] (D.bool (withinF (Book.rule b) (0 : Int) (200 : Int))),withinF (Book.days b) (1 : Int) (30 : Int) = true,withinF (Book.rule b) (0 : Int) (200 : Int) = false,withinF (Book.rule b) (0 : Int) (200 : Int) = false,withinF (Book.rule b) (0 : Int) (200 : Int) = false,withinF (Book.rule b) (0 : Int) (200 : Int) = false,withinF (Book.rule b) (0 : Int) (200 : Int) = false],Ex.normal,[(.tmp 1,.d (D.ptr 1 0)),(.tmp 3,.d (D.bool false)),(.box 1,.bx (some (Box.mk false (bkCells b))))]) := by kernel_rfl
theorem check_R1_d (b : Book) :
  runK (mk PR (lookN types) glob 119) [(18,true),(23,true),(28,true),(34,false)] [(17,.bool (withinF b.secs.length 1 4)),(21,.bool (withinF b.days 1 30)),(26,.bool (withinF b.rule 0 200))] [] (Code.at [1,0] (body Tryd.f64)) (check_R1 b ) check_RO1 =
   some ([Contract PR glob 133 [D.int .i64 (((List.length (Book.secs b) : Nat) : Int)),D.int .i64 1,D.int .i64 4] (D.bool (withinF (((List.length (Book.secs b) : Nat) : Int)) (1 : Int) (4 : Int))),withinF (((List.length (Book.secs b) : Nat) : Int)) (1 : Int) (4 : Int) = true,withinF (((List.length (Book.secs b) : Nat) : Int)) (1 : Int) (4 : Int) = true,withinF (((List.length (Book.secs b) : Nat) : Int)) (1 : Int) (4 : Int) = true,Contract PR glob 133 [D.int .i64 (Book.days b),D.int .i64 1,D.int .i64 30] (D.bool (withinF (Book.days b) (1 : Int) (30 : Int))),withinF (((List.length (Book.secs b) : Nat) : Int)) (1 : Int) (4 : Int) = true,withinF (Book.days b) (1 : Int) (30 : Int) = true,withinF (Book.days b) (1 : Int) (30 : Int) = true,withinF (Book.days b) (1 : Int) (30 : Int) = true,Contract PR glob 133 [D.int .i64 (Book.rule b),D.int .i64 0,D.int .i64 200] (D.bool (withinF (Book.rule b) (0 : Int) (200 : Int))),withinF (Book.days b) (1 : Int) (30 : Int) = true,withinF (Book.rule b) (0 : Int) (200 : Int) = true,withinF (Book.rule b) (0 : Int) (200 : Int) = true,withinF (Book.rule b) (0 : Int) (200 : Int) = true,withinF (Book.rule b) (0 : Int) (200 : Int) = true,withinF (Book.rule b) (0 : Int) (200 : Int) = true,decide (((List.length (Book.turns b) : Nat) : Int) ≤ (4 : Int)) = false,decide (((List.length (Book.turns b) : Nat) : Int) ≤ (4 : Int)) = false,decide (((List.length (Book.turns b) : Nat) : Int) ≤ (4 : Int)) = false,decide (((List.length (Book.turns b) : Nat) : Int) ≤ (4 : Int)) = false,decide (((List.length (Book.turns b) : Nat) : Int) ≤ (4 : Int)) = false],Ex.normal,[(.tmp 1,.d (D.ptr 1 0)),(.tmp 3,.d (D.bool false)),(.box 1,.bx (some (Box.mk false (bkCells b))))]) := by kernel_rfl
theorem check_R1_e (b : Book) :
  runK (mk PR (lookN types) glob 119) [(18,true),(23,true),(28,true),(34,true)] [(17,.bool (withinF b.secs.length 1 4)),(21,.bool (withinF b.days 1 30)),(26,.bool (withinF b.rule 0 200))] [] (Code.at [1,0] (body Tryd.f64)) (check_R1 b ) check_RO1 =
   some ([Contract PR glob 133 [D.int .i64 (((List.length (Book.secs b) : Nat) : Int)),D.int .i64 1,D.int .i64 4] (D.bool (withinF (((List.length (Book.secs b) : Nat) : Int)) (1 : Int) (4 : Int))),withinF (((List.length (Book.secs b) : Nat) : Int)) (1 : Int) (4 : Int) = true,withinF (((List.length (Book.secs b) : Nat) : Int)) (1 : Int) (4 : Int) = true,withinF (((List.length (Book.secs b) : Nat) : Int)) (1 : Int) (4 : Int) = true,Contract PR glob 133 [D.int .i64 (Book.days b),D.int .i64 1,D.int .i64 30] (D.bool (withinF (Book.days b) (1 : Int) (30 : Int))),withinF (((List.length (Book.secs b) : Nat) : Int)) (1 : Int) (4 : Int) = true,withinF (Book.days b) (1 : Int) (30 : Int) = true,withinF (Book.days b) (1 : Int) (30 : Int) = true,withinF (Book.days b) (1 : Int) (30 : Int) = true,Contract PR glob 133 [D.int .i64 (Book.rule b),D.int .i64 0,D.int .i64 200] (D.bool (withinF (Book.rule b) (0 : Int) (200 : Int))),withinF (Book.days b) (1 : Int) (30 : Int) = true,withinF (Book.rule b) (0 : Int) (200 : Int) = true,withinF (Book.rule b) (0 : Int) (200 : Int) = true,withinF (Book.rule b) (0 : Int) (200 : Int) = true,withinF (Book.rule b) (0 : Int) (200 : Int) = true,withinF (Book.rule b) (0 : Int) (200 : Int) = true,decide (((List.length (Book.turns b) : Nat) : Int) ≤ (4 : Int)) = true,decide (((List.length (Book.turns b) : Nat) : Int) ≤ (4 : Int)) = true,decide (((List.length (Book.turns b) : Nat) : Int) ≤ (4 : Int)) = true,decide (((List.length (Book.turns b) : Nat) : Int) ≤ (4 : Int)) = true,decide (((List.length (Book.turns b) : Nat) : Int) ≤ (4 : Int)) = true],Ex.normal,[(.tmp 1,.d (D.ptr 1 0)),(.tmp 3,.d (D.bool (decide (((List.length (Book.svs b) : Nat) : Int) ≤ (8 : Int))))),(.box 1,.bx (some (Box.mk false (bkCells b))))]) := by kernel_rfl
theorem check_R6_a (b : Book) (ok : Bool) (most : Int) (i : Nat) :
  runK (mk PR (lookN types) glob 119) [(48,false)] [(51,.bool (isSpanF (b.secs.getD i sec0).t 200 3)),(56,.bool (isSpanF (b.secs.getD i sec0).w 3 2))] [] (Code.at [1,1,1,0,1,0,0,1,1,0,0,1,0] (body Tryd.f64)) (check_R6 b ok most i) check_RO6 =
   some ([ok = false,ok = false,ok = false,ok = false],Ex.normal,[(.tmp 1,.d (D.ptr 1 0)),(.tmp 3,.d (D.bool false)),(.tmp 4,.d (D.int .i64 most)),(.tmp 6,.d (D.ptr 6 0)),(.tmp 41,.d (D.sl false E.sec (Book.secs b))),(.tmp 42,.d (D.int .i64 (((List.length (Book.secs b) : Nat) : Int)))),(.tmp 43,.d (D.int .i64 ((i : Int)))),(.box 1,.bx (some (Box.mk false (bkCells b)))),(.box 6,.bx (some (Box.mk false [D.int .i64 (Span.lo (Sec.t (List.getD (Book.secs b) i sec0))),D.int .i64 (Span.hi (Sec.t (List.getD (Book.secs b) i sec0))),D.int .i64 (Span.lo (Sec.w (List.getD (Book.secs b) i sec0))),D.int .i64 (Span.hi (Sec.w (List.getD (Book.secs b) i sec0)))])))]) := by kernel_rfl
theorem check_R6_b (b : Book) (ok : Bool) (most : Int) (i : Nat) :
  runK (mk PR (lookN types) glob 119) [(48,true),(53,false)] [(51,.bool (isSpanF (b.secs.getD i sec0).t 200 3)),(56,.bool (isSpanF (b.secs.getD i sec0).w 3 2))] [] (Code.at [1,1,1,0,1,0,0,1,1,0,0,1,0] (body Tryd.f64)) (check_R6 b ok most i) check_RO6 =
   some ([ok = true,ok = true,0 + 0 + 2 ≤ 4,ok = true,Contract PR glob 134 [D.agg [D.int .i64 (Span.lo (Sec.t (List.getD (Book.secs b) i sec0))),D.int .i64 (Span.hi (Sec.t (List.getD (Book.secs b) i sec0)))],D.int .i64 200,D.int .i64 3] (D.bool (isSpanF (Sec.t (List.getD (Book.secs b) i sec0)) (200 : Int) (3 : Int))),ok = true,isSpanF (Sec.t (List.getD (Book.secs b) i sec0)) (200 : Int) (3 : Int) = false,isSpanF (Sec.t (List.getD (Book.secs b) i sec0)) (200 : Int) (3 : Int) = false,isSpanF (Sec.t (List.getD (Book.secs b) i sec0)) (200 : Int) (3 : Int) = false,isSpanF (Sec.t (List.getD (Book.secs b) i sec0)) (200 : Int) (3 : Int) = false],Ex.normal,[(.tmp 1,.d (D.ptr 1 0)),(.tmp 3,.d (D.bool false)),(.tmp 4,.d (D.int .i64 most)),(.tmp 6,.d (D.ptr 6 0)),(.tmp 41,.d (D.sl false E.sec (Book.secs b))),(.tmp 42,.d (D.int .i64 (((List.length (Book.secs b) : Nat) : Int)))),(.tmp 43,.d (D.int .i64 ((i : Int)))),(.box 1,.bx (some (Box.mk false (bkCells b)))),(.box 6,.bx (some (Box.mk false [D.int .i64 (Span.lo (Sec.t (List.getD (Book.secs b) i sec0))),D.int .i64 (Span.hi (Sec.t (List.getD (Book.secs b) i sec0))),D.int .i64 (Span.lo (Sec.w (List.getD (Book.secs b) i sec0))),D.int .i64 (Span.hi (Sec.w (List.getD (Book.secs b) i sec0)))])))]) := by kernel_rfl
theorem check_R6_c (b : Book) (ok : Bool) (most : Int) (i : Nat) :
  runK (mk PR (lookN types) glob 119) [(48,true),(53,true)] [(51,.bool (isSpanF (b.secs.getD i sec0).t 200 3)),(56,.bool (isSpanF (b.secs.getD i sec0).w 3 2))] [] (Code.at [1,1,1,0,1,0,0,1,1,0,0,1,0] (body Tryd.f64)) (check_R6 b ok most i) check_RO6 =
   some ([ok = true,ok = true,0 + 0 + 2 ≤ 4,ok = true,Contract PR glob 134 [D.agg [D.int .i64 (Span.lo (Sec.t (List.getD (Book.secs b) i sec0))),D.int .i64 (Span.hi (Sec.t (List.getD (Book.secs b) i sec0)))],D.int .i64 200,D.int .i64 3] (D.bool (isSpanF (Sec.t (List.getD (Book.secs b) i sec0)) (200 : Int) (3 : Int))),ok = true,isSpanF (Sec.t (List.getD (Book.secs b) i sec0)) (200 : Int) (3 : Int) = true,isSpanF (Sec.t (List.getD (Book.secs b) i sec0)) (200 : Int) (3 : Int) = true,0 + 2 + 2 ≤ 4,isSpanF (Sec.t (List.getD (Book.secs b) i sec0)) (200 : Int) (3 : Int) = true,Contract PR glob 134 [D.agg [D.int .i64 (Span.lo (Sec.w (List.getD (Book.secs b) i sec0))),D.int .i64 (Span.hi (Sec.w (List.getD (Book.secs b) i sec0)))],D.int .i64 3,D.int .i64 2] (D.bool (isSpanF (Sec.w (List.getD (Book.secs b) i sec0)) (3 : Int) (2 : Int))),isSpanF (Sec.t (List.getD (Book.secs b) i sec0)) (200 : Int) (3 : Int) = true],Ex.normal,[(.tmp 1,.d (D.ptr 1 0)),(.tmp 3,.d (D.bool (isSpanF (Sec.w (List.getD (Book.secs b) i sec0)) (3 : Int) (2 : Int)))),(.tmp 4,.d (D.int .i64 most)),(.tmp 6,.d (D.ptr 6 0)),(.tmp 41,.d (D.sl false E.sec (Book.secs b))),(.tmp 42,.d (D.int .i64 (((List.length (Book.secs b) : Nat) : Int)))),(.tmp 43,.d (D.int .i64 ((i : Int)))),(.box 1,.bx (some (Box.mk false (bkCells b)))),(.box 6,.bx (some (Box.mk false [D.int .i64 (Span.lo (Sec.t (List.getD (Book.secs b) i sec0))),D.int .i64 (Span.hi (Sec.t (List.getD (Book.secs b) i sec0))),D.int .i64 (Span.lo (Sec.w (List.getD (Book.secs b) i sec0))),D.int .i64 (Span.hi (Sec.w (List.getD (Book.secs b) i sec0)))])))]) := by kernel_rfl
theorem check_R14_a (b : Book) (ok : Bool) (most : Int) (i : Nat) :
  runK (mk PR (lookN types) glob 119) [(74,false)] [] [] (Code.at [1,1,1,1,1,0,1,0,0,1,1,0,0,1] (body Tryd.f64)) (check_R14 b ok most i) check_RO14 =
   some ([ok = false,ok = false,ok = false,ok = false,ok = false,ok = false,ok = false,ok = false,ok = false],Ex.normal,[(.tmp 1,.d (D.ptr 1 0)),(.tmp 3,.d (D.bool false)),(.tmp 4,.d (D.int .i64 most)),(.tmp 67,.d (D.sl false E.sec (Book.secs b))),(.tmp 68,.d (D.int .i64 (((List.length (Book.secs b) : Nat) : Int)))),(.tmp 69,.d (D.int .i64 ((i : Int)))),(.box 1,.bx (some (Box.mk false (bkCells b))))]) := by kernel_rfl
theorem check_R14_b (b : Book) (ok : Bool) (most : Int) (i : Nat) :
  runK (mk PR (lookN types) glob 119) [(74,true)] [] [] (Code.at [1,1,1,1,1,0,1,0,0,1,1,0,0,1] (body Tryd.f64)) (check_R14 b ok most i) check_RO14 =
   some ([ok = true,ok = true,ok = true,0 + 0 + 0 + 1 ≤ 4,ok = true,ok = true,ok = true,ok = true,inI64 (most * Book.days b),ok = true,ok = true],Ex.normal,[(.tmp 1,.d (D.ptr 1 0)),(.tmp 3,.d (D.bool (decide (Span.lo (Sec.t (List.getD (Book.secs b) i sec0)) ≥ most * Book.days b)))),(.tmp 4,.d (D.int .i64 most)),(.tmp 67,.d (D.sl false E.sec (Book.secs b))),(.tmp 68,.d (D.int .i64 (((List.length (Book.secs b) : Nat) : Int)))),(.tmp 69,.d (D.int .i64 ((i : Int)))),(.box 1,.bx (some (Box.mk false (bkCells b))))]) := by kernel_rfl
theorem check_R20_a (b : Book) (ok : Bool) (last : Int) (i : Nat) :
  runK (mk PR (lookN types) glob 119) [(93,false)] [] [] (Code.at [1,1,1,1,1,1,1,0,1,0,0,1,1,0,0,1,0] (body Tryd.f64)) (check_R20 b ok last i) check_RO20 =
   some ([ok = false,ok = false,ok = false,ok = false,ok = false,ok = false,ok = false],Ex.normal,[(.tmp 1,.d (D.ptr 1 0)),(.tmp 3,.d (D.bool false)),(.tmp 11,.d (D.int .i64 (List.getD (Book.turns b) i (0 : Int)))),(.tmp 86,.d (D.sl false E.int (Book.turns b))),(.tmp 87,.d (D.int .i64 (((List.length (Book.turns b) : Nat) : Int)))),(.tmp 88,.d (D.int .i64 ((i : Int)))),(.box 1,.bx (some (Box.mk false (bkCells b))))]) := by kernel_rfl
theorem check_R20_b (b : Book) (ok : Bool) (last : Int) (i : Nat) :
  runK (mk PR (lookN types) glob 119) [(93,true)] [(99,.bool (withinF (b.turns.getD i 0) (last + 1) b.days))] [] (Code.at [1,1,1,1,1,1,1,0,1,0,0,1,1,0,0,1,0] (body Tryd.f64)) (check_R20 b ok last i) check_RO20 =
   some ([ok = true,ok = true,ok = true,inI64 (last + (1 : Int)),ok = true,ok = true,ok = true,Contract PR glob 133 [D.int .i64 (List.getD (Book.turns b) i (0 : Int)),D.int .i64 (last + (1 : Int)),D.int .i64 (Book.days b)] (D.bool (withinF (List.getD (Book.turns b) i (0 : Int)) (last + (1 : Int)) (Book.days b))),ok = true],Ex.normal,[(.tmp 1,.d (D.ptr 1 0)),(.tmp 3,.d (D.bool (withinF (List.getD (Book.turns b) i (0 : Int)) (last + (1 : Int)) (Book.days b)))),(.tmp 11,.d (D.int .i64 (List.getD (Book.turns b) i (0 : Int)))),(.tmp 86,.d (D.sl false E.int (Book.turns b))),(.tmp 87,.d (D.int .i64 (((List.length (Book.turns b) : Nat) : Int)))),(.tmp 88,.d (D.int .i64 ((i : Int)))),(.box 1,.bx (some (Box.mk false (bkCells b))))]) := by kernel_rfl
theorem check_R26_a (b : Book) (ok : Bool) (i : Nat) :
  runK (mk PR (lookN types) glob 119) [(111,false)] [] [] (Code.at [1,1,1,1,1,1,1,1,0,1,0,0,1,1,0,0,1] (body Tryd.f64)) (check_R26 b ok i) check_RO26 =
   some ([ok = false,ok = false,ok = false,ok = false],Ex.normal,[(.tmp 1,.d (D.ptr 1 0)),(.tmp 3,.d (D.bool false)),(.tmp 104,.d (D.sl false E.sv (Book.svs b))),(.tmp 105,.d (D.int .i64 (((List.length (Book.svs b) : Nat) : Int)))),(.tmp 106,.d (D.int .i64 ((i : Int)))),(.box 1,.bx (some (Box.mk false (bkCells b))))]) := by kernel_rfl
theorem check_R26_b (b : Book) (ok : Bool) (i : Nat) :
  runK (mk PR (lookN types) glob 119) [(111,true)] [(114,.bool (isSurveyF b (b.svs.getD i sv0)))] [] (Code.at [1,1,1,1,1,1,1,1,0,1,0,0,1,1,0,0,1] (body Tryd.f64)) (check_R26 b ok i) check_RO26 =
   some ([ok = true,ok = true,0 + 4 ≤ 4,ok = true,Contract PR glob 128 [D.agg (bkCells b),D.agg [D.int .i64 (Sv.s (List.getD (Book.svs b) i sv0)),D.int .i64 (Sv.d (List.getD (Book.svs b) i sv0)),D.int .i64 (Sv.r (List.getD (Book.svs b) i sv0)),D.int .i64 (Sv.e (List.getD (Book.svs b) i sv0))]] (D.bool (isSurveyF b (List.getD (Book.svs b) i sv0))),ok = true],Ex.normal,[(.tmp 1,.d (D.ptr 1 0)),(.tmp 3,.d (D.bool (isSurveyF b (List.getD (Book.svs b) i sv0)))),(.tmp 104,.d (D.sl false E.sv (Book.svs b))),(.tmp 105,.d (D.int .i64 (((List.length (Book.svs b) : Nat) : Int)))),(.tmp 106,.d (D.int .i64 ((i : Int)))),(.box 1,.bx (some (Box.mk false (bkCells b))))]) := by kernel_rfl
theorem check_0_on (b : Book) (ok : Bool) (most : Int) (i : Nat) (ok2 : Bool) :
  runK (mk PR (lookN types) glob 119) [(44,true)] [] [(1006,(check_RK6,(.normal,check_RS6 b ok most i ok2)))] (Code.at [1,1,1,0,1,0,0] (body Tryd.f64)) (check_S0 b ok most i) check_K0 =
   some ([decide ((i : Int) < ((List.length (Book.secs b) : Nat) : Int)) = true,(0 : Int) ≤ (i : Int) ∧ (i : Int) < ((List.length (Book.secs b) : Nat) : Int),0 + 4 ≤ 4,LoopT PR glob 119 (Code.at [1,1,1,0,1,0,0,1,1,0,0,1,0] (body Tryd.f64)) [(.tmp 1,.d (D.ptr 1 0)),(.tmp 3,.d (D.bool ok)),(.tmp 4,.d (D.int .i64 most)),(.tmp 6,.d (D.ptr 6 0)),(.tmp 41,.d (D.sl false E.sec (Book.secs b))),(.tmp 42,.d (D.int .i64 (((List.length (Book.secs b) : Nat) : Int)))),(.tmp 43,.d (D.int .i64 ((i : Int)))),(.box 1,.bx (some (Box.mk false (bkCells b)))),(.box 6,.bx (some (Box.mk false [D.int .i64 (Span.lo (Sec.t (List.getD (Book.secs b) (Int.toNat ((i : Int))) (E.z E.sec)))),D.int .i64 (Span.hi (Sec.t (List.getD (Book.secs b) (Int.toNat ((i : Int))) (E.z E.sec)))),D.int .i64 (Span.lo (Sec.w (List.getD (Book.secs b) (Int.toNat ((i : Int))) (E.z E.sec)))),D.int .i64 (Span.hi (Sec.w (List.getD (Book.secs b) (Int.toNat ((i : Int))) (E.z E.sec))))])))] Ex.normal (check_RS6 b ok most i ok2),0 + 2 + 1 + 1 ≤ 4,inI64 ((i : Int) + (1 : Int))],Ex.normal,[(.tmp 1,.d (D.ptr 1 0)),(.tmp 3,.d (D.bool ok2)),(.tmp 4,.d (D.int .i64 (List.foldl mx most [Span.hi (Sec.w (List.getD (Book.secs b) i sec0))]))),(.tmp 41,.d (D.sl false E.sec (Book.secs b))),(.tmp 42,.d (D.int .i64 (((List.length (Book.secs b) : Nat) : Int)))),(.tmp 43,.d (D.int .i64 ((i : Int) + (1 : Int)))),(.box 1,.bx (some (Box.mk false (bkCells b))))]) := by kernel_rfl
theorem check_0_end (b : Book) (ok : Bool) (most : Int) (i : Nat) :
  runK (mk PR (lookN types) glob 119) [(44,false)] [] [] (Code.at [1,1,1,0,1,0,0] (body Tryd.f64)) (check_S0 b ok most i) check_K0 =
   some ([decide ((i : Int) < ((List.length (Book.secs b) : Nat) : Int)) = false],Ex.exit 0,[(.tmp 1,.d (D.ptr 1 0)),(.tmp 3,.d (D.bool ok)),(.tmp 4,.d (D.int .i64 most)),(.tmp 41,.d (D.sl false E.sec (Book.secs b))),(.tmp 42,.d (D.int .i64 (((List.length (Book.secs b) : Nat) : Int)))),(.tmp 43,.d (D.int .i64 ((i : Int)))),(.box 1,.bx (some (Box.mk false (bkCells b))))]) := by kernel_rfl
theorem check_2_on (b : Book) (ok : Bool) (most : Int) (i : Nat) (ok2 : Bool) :
  runK (mk PR (lookN types) glob 119) [(70,true)] [] [(1014,(check_RK14,(.normal,check_RS14 b ok most i ok2)))] (Code.at [1,1,1,1,1,0,1,0,0] (body Tryd.f64)) (check_S2 b ok most i) check_K2 =
   some ([decide ((i : Int) < ((List.length (Book.secs b) : Nat) : Int)) = true,(0 : Int) ≤ (i : Int) ∧ (i : Int) < ((List.length (Book.secs b) : Nat) : Int),0 + 4 ≤ 4,LoopT PR glob 119 (Code.at [1,1,1,1,1,0,1,0,0,1,1,0,0,1] (body Tryd.f64)) [(.tmp 1,.d (D.ptr 1 0)),(.tmp 3,.d (D.bool ok)),(.tmp 4,.d (D.int .i64 most)),(.tmp 8,.d (D.ptr 8 0)),(.tmp 67,.d (D.sl false E.sec (Book.secs b))),(.tmp 68,.d (D.int .i64 (((List.length (Book.secs b) : Nat) : Int)))),(.tmp 69,.d (D.int .i64 ((i : Int)))),(.box 1,.bx (some (Box.mk false (bkCells b)))),(.box 8,.bx (some (Box.mk false [D.int .i64 (Span.lo (Sec.t (List.getD (Book.secs b) (Int.toNat ((i : Int))) (E.z E.sec)))),D.int .i64 (Span.hi (Sec.t (List.getD (Book.secs b) (Int.toNat ((i : Int))) (E.z E.sec)))),D.int .i64 (Span.lo (Sec.w (List.getD (Book.secs b) (Int.toNat ((i : Int))) (E.z E.sec)))),D.int .i64 (Span.hi (Sec.w (List.getD (Book.secs b) (Int.toNat ((i : Int))) (E.z E.sec))))])))] Ex.normal (check_RS14 b ok most i ok2),inI64 ((i : Int) + (1 : Int))],Ex.normal,[(.tmp 1,.d (D.ptr 1 0)),(.tmp 3,.d (D.bool ok2)),(.tmp 4,.d (D.int .i64 most)),(.tmp 67,.d (D.sl false E.sec (Book.secs b))),(.tmp 68,.d (D.int .i64 (((List.length (Book.secs b) : Nat) : Int)))),(.tmp 69,.d (D.int .i64 ((i : Int) + (1 : Int)))),(.box 1,.bx (some (Box.mk false (bkCells b))))]) := by kernel_rfl
theorem check_2_end (b : Book) (ok : Bool) (most : Int) (i : Nat) :
  runK (mk PR (lookN types) glob 119) [(70,false)] [] [] (Code.at [1,1,1,1,1,0,1,0,0] (body Tryd.f64)) (check_S2 b ok most i) check_K2 =
   some ([decide ((i : Int) < ((List.length (Book.secs b) : Nat) : Int)) = false],Ex.exit 2,[(.tmp 1,.d (D.ptr 1 0)),(.tmp 3,.d (D.bool ok)),(.tmp 4,.d (D.int .i64 most)),(.tmp 67,.d (D.sl false E.sec (Book.secs b))),(.tmp 68,.d (D.int .i64 (((List.length (Book.secs b) : Nat) : Int)))),(.tmp 69,.d (D.int .i64 ((i : Int)))),(.box 1,.bx (some (Box.mk false (bkCells b))))]) := by kernel_rfl
theorem check_4_on (b : Book) (ok : Bool) (last : Int) (i : Nat) (ok2 : Bool) :
  runK (mk PR (lookN types) glob 119) [(89,true)] [] [(1020,(check_RK20,(.normal,check_RS20 b ok last i ok2)))] (Code.at [1,1,1,1,1,1,1,0,1,0,0] (body Tryd.f64)) (check_S4 b ok last i) check_K4 =
   some ([decide ((i : Int) < ((List.length (Book.turns b) : Nat) : Int)) = true,(0 : Int) ≤ (i : Int) ∧ (i : Int) < ((List.length (Book.turns b) : Nat) : Int),0 + 1 ≤ 1,LoopT PR glob 119 (Code.at [1,1,1,1,1,1,1,0,1,0,0,1,1,0,0,1,0] (body Tryd.f64)) [(.tmp 1,.d (D.ptr 1 0)),(.tmp 3,.d (D.bool ok)),(.tmp 9,.d (D.int .i64 last)),(.tmp 11,.d (D.int .i64 (List.getD (Book.turns b) (Int.toNat ((i : Int))) (E.z E.int)))),(.tmp 86,.d (D.sl false E.int (Book.turns b))),(.tmp 87,.d (D.int .i64 (((List.length (Book.turns b) : Nat) : Int)))),(.tmp 88,.d (D.int .i64 ((i : Int)))),(.box 1,.bx (some (Box.mk false (bkCells b))))] Ex.normal (check_RS20 b ok last i ok2),inI64 ((i : Int) + (1 : Int))],Ex.normal,[(.tmp 1,.d (D.ptr 1 0)),(.tmp 3,.d (D.bool ok2)),(.tmp 9,.d (D.int .i64 (List.getD (Book.turns b) i (0 : Int)))),(.tmp 86,.d (D.sl false E.int (Book.turns b))),(.tmp 87,.d (D.int .i64 (((List.length (Book.turns b) : Nat) : Int)))),(.tmp 88,.d (D.int .i64 ((i : Int) + (1 : Int)))),(.box 1,.bx (some (Box.mk false (bkCells b))))]) := by kernel_rfl
theorem check_4_end (b : Book) (ok : Bool) (last : Int) (i : Nat) :
  runK (mk PR (lookN types) glob 119) [(89,false)] [] [] (Code.at [1,1,1,1,1,1,1,0,1,0,0] (body Tryd.f64)) (check_S4 b ok last i) check_K4 =
   some ([decide ((i : Int) < ((List.length (Book.turns b) : Nat) : Int)) = false],Ex.exit 4,[(.tmp 1,.d (D.ptr 1 0)),(.tmp 3,.d (D.bool ok)),(.tmp 9,.d (D.int .i64 last)),(.tmp 86,.d (D.sl false E.int (Book.turns b))),(.tmp 87,.d (D.int .i64 (((List.length (Book.turns b) : Nat) : Int)))),(.tmp 88,.d (D.int .i64 ((i : Int)))),(.box 1,.bx (some (Box.mk false (bkCells b))))]) := by kernel_rfl
theorem check_6_on (b : Book) (ok : Bool) (i : Nat) (ok2 : Bool) :
  runK (mk PR (lookN types) glob 119) [(107,true)] [] [(1026,(check_RK26,(.normal,check_RS26 b ok i ok2)))] (Code.at [1,1,1,1,1,1,1,1,0,1,0,0] (body Tryd.f64)) (check_S6 b ok i) check_K6 =
   some ([decide ((i : Int) < ((List.length (Book.svs b) : Nat) : Int)) = true,(0 : Int) ≤ (i : Int) ∧ (i : Int) < ((List.length (Book.svs b) : Nat) : Int),0 + 4 ≤ 4,LoopT PR glob 119 (Code.at [1,1,1,1,1,1,1,1,0,1,0,0,1,1,0,0,1] (body Tryd.f64)) [(.tmp 1,.d (D.ptr 1 0)),(.tmp 3,.d (D.bool ok)),(.tmp 13,.d (D.ptr 13 0)),(.tmp 104,.d (D.sl false E.sv (Book.svs b))),(.tmp 105,.d (D.int .i64 (((List.length (Book.svs b) : Nat) : Int)))),(.tmp 106,.d (D.int .i64 ((i : Int)))),(.box 1,.bx (some (Box.mk false (bkCells b)))),(.box 13,.bx (some (Box.mk false [D.int .i64 (Sv.s (List.getD (Book.svs b) (Int.toNat ((i : Int))) (E.z E.sv))),D.int .i64 (Sv.d (List.getD (Book.svs b) (Int.toNat ((i : Int))) (E.z E.sv))),D.int .i64 (Sv.r (List.getD (Book.svs b) (Int.toNat ((i : Int))) (E.z E.sv))),D.int .i64 (Sv.e (List.getD (Book.svs b) (Int.toNat ((i : Int))) (E.z E.sv)))])))] Ex.normal (check_RS26 b ok i ok2),inI64 ((i : Int) + (1 : Int))],Ex.normal,[(.tmp 1,.d (D.ptr 1 0)),(.tmp 3,.d (D.bool ok2)),(.tmp 104,.d (D.sl false E.sv (Book.svs b))),(.tmp 105,.d (D.int .i64 (((List.length (Book.svs b) : Nat) : Int)))),(.tmp 106,.d (D.int .i64 ((i : Int) + (1 : Int)))),(.box 1,.bx (some (Box.mk false (bkCells b))))]) := by kernel_rfl
theorem check_6_end (b : Book) (ok : Bool) (i : Nat) :
  runK (mk PR (lookN types) glob 119) [(107,false)] [] [] (Code.at [1,1,1,1,1,1,1,1,0,1,0,0] (body Tryd.f64)) (check_S6 b ok i) check_K6 =
   some ([decide ((i : Int) < ((List.length (Book.svs b) : Nat) : Int)) = false],Ex.exit 6,[(.tmp 1,.d (D.ptr 1 0)),(.tmp 3,.d (D.bool ok)),(.tmp 104,.d (D.sl false E.sv (Book.svs b))),(.tmp 105,.d (D.int .i64 (((List.length (Book.svs b) : Nat) : Int)))),(.tmp 106,.d (D.int .i64 ((i : Int)))),(.box 1,.bx (some (Box.mk false (bkCells b))))]) := by kernel_rfl
def index_T0_hit (xs : List Int) (v : Int) (i : Nat)  : List (Key × Val) :=
 [(.tmp 0,.d (D.sl false E.int xs)),(.tmp 1,.d (D.int .i64 v)),(.tmp 7,.d (D.int .i64 (((List.length xs : Nat) : Int)))),(.tmp 8,.d (D.int .i64 ((i : Int)))),(.tmp 4,.d (D.int .i64 ((i : Int))))]
theorem within_no (n lo hi : Int) :
  callF (mk PR (lookN types) glob 15) [(10,false)] [] [] (body Tryd.f133) [.tmp 6] [.int .i64 n,.int .i64 lo,.int .i64 hi] =
   some ([decide (lo ≤ n) = false,decide (lo ≤ n) = false,decide (lo ≤ n) = false,decide (lo ≤ n) = false],D.bool false) := by kernel_rfl
theorem within_yes (n lo hi : Int) :
  callF (mk PR (lookN types) glob 15) [(10,true)] [] [] (body Tryd.f133) [.tmp 6] [.int .i64 n,.int .i64 lo,.int .i64 hi] =
   some ([decide (lo ≤ n) = true,decide (lo ≤ n) = true,decide (lo ≤ n) = true,decide (lo ≤ n) = true],D.bool (decide (n ≤ hi))) := by kernel_rfl
theorem isSpan_a (s : Span) (hi wide : Int) :
  callF (mk PR (lookN types) glob 32) [(10,false)] [] [] (body Tryd.f134) [.tmp 6] [spD s,.int .i64 hi,.int .i64 wide] =
   some ([0 + 0 + 1 ≤ 2,decide ((0 : Int) ≤ Span.lo s) = false,decide ((0 : Int) ≤ Span.lo s) = false,decide ((0 : Int) ≤ Span.lo s) = false,decide ((0 : Int) ≤ Span.lo s) = false,decide ((0 : Int) ≤ Span.lo s) = false,decide ((0 : Int) ≤ Span.lo s) = false],D.bool false) := by kernel_rfl
theorem isSpan_b (s : Span) (hi wide : Int) :
  callF (mk PR (lookN types) glob 32) [(10,true),(17,false)] [] [] (body Tryd.f134) [.tmp 6] [spD s,.int .i64 hi,.int .i64 wide] =
   some ([0 + 0 + 1 ≤ 2,decide ((0 : Int) ≤ Span.lo s) = true,decide ((0 : Int) ≤ Span.lo s) = true,0 + 0 + 1 ≤ 2,decide ((0 : Int) ≤ Span.lo s) = true,decide ((0 : Int) ≤ Span.lo s) = true,0 + 1 + 1 ≤ 2,decide ((0 : Int) ≤ Span.lo s) = true,decide ((0 : Int) ≤ Span.lo s) = true,decide (Span.lo s ≤ Span.hi s) = false,decide (Span.lo s ≤ Span.hi s) = false,decide (Span.lo s ≤ Span.hi s) = false,decide (Span.lo s ≤ Span.hi s) = false,decide (Span.lo s ≤ Span.hi s) = false],D.bool false) := by kernel_rfl
theorem isSpan_c (s : Span) (hi wide : Int) :
  callF (mk PR (lookN types) glob 32) [(10,true),(17,true),(23,false)] [] [] (body Tryd.f134) [.tmp 6] [spD s,.int .i64 hi,.int .i64 wide] =
   some ([0 + 0 + 1 ≤ 2,decide ((0 : Int) ≤ Span.lo s) = true,decide ((0 : Int) ≤ Span.lo s) = true,0 + 0 + 1 ≤ 2,decide ((0 : Int) ≤ Span.lo s) = true,decide ((0 : Int) ≤ Span.lo s) = true,0 + 1 + 1 ≤ 2,decide ((0 : Int) ≤ Span.lo s) = true,decide ((0 : Int) ≤ Span.lo s) = true,decide (Span.lo s ≤ Span.hi s) = true,decide (Span.lo s ≤ Span.hi s) = true,0 + 1 + 1 ≤ 2,decide (Span.lo s ≤ Span.hi s) = true,decide (Span.lo s ≤ Span.hi s) = true,decide (Span.lo s ≤ Span.hi s) = true,decide (Span.hi s ≤ hi) = false,decide (Span.hi s ≤ hi) = false,decide (Span.hi s ≤ hi) = false,decide (Span.hi s ≤ hi) = false,decide (Span.hi s ≤ hi) = false,decide (Span.hi s ≤ hi) = false,decide (Span.hi s ≤ hi) = false,decide (Span.hi s ≤ hi) = false],D.bool false) := by kernel_rfl
theorem isSpan_d (s : Span) (hi wide : Int) :
  callF (mk PR (lookN types) glob 32) [(10,true),(17,true),(23,true)] [] [] (body Tryd.f134) [.tmp 6] [spD s,.int .i64 hi,.int .i64 wide] =
   some ([0 + 0 + 1 ≤ 2,decide ((0 : Int) ≤ Span.lo s) = true,decide ((0 : Int) ≤ Span.lo s) = true,0 + 0 + 1 ≤ 2,decide ((0 : Int) ≤ Span.lo s) = true,decide ((0 : Int) ≤ Span.lo s) = true,0 + 1 + 1 ≤ 2,decide ((0 : Int) ≤ Span.lo s) = true,decide ((0 : Int) ≤ Span.lo s) = true,decide (Span.lo s ≤ Span.hi s) = true,decide (Span.lo s ≤ Span.hi s) = true,0 + 1 + 1 ≤ 2,decide (Span.lo s ≤ Span.hi s) = true,decide (Span.lo s ≤ Span.hi s) = true,decide (Span.lo s ≤ Span.hi s) = true,decide (Span.hi s ≤ hi) = true,decide (Span.hi s ≤ hi) = true,0 + 1 + 1 ≤ 2,decide (Span.hi s ≤ hi) = true,decide (Span.hi s ≤ hi) = true,0 + 0 + 1 ≤ 2,decide (Span.hi s ≤ hi) = true,inI64 (Span.hi s - Span.lo s),decide (Span.hi s ≤ hi) = true,decide (Span.hi s ≤ hi) = true,decide (Span.hi s ≤ hi) = true],D.bool (decide (Span.hi s - Span.lo s ≤ wide))) := by kernel_rfl
theorem isSection_all (b : Book) (n : Int) :
  callF (mk PR (lookN types) glob 11) [] [(10,.bool (isSectionF b n))] [] (body Tryd.f124) [.tmp 4] [bookD b,.int .i64 n] =
   some ([inI64 (((List.length (Book.secs b) : Nat) : Int) - (1 : Int)),Contract PR glob 133 [D.int .i64 n,D.int .i64 0,D.int .i64 (((List.length (Book.secs b) : Nat) : Int) - (1 : Int))] (D.bool (isSectionF b n))],D.bool (isSectionF b n)) := by kernel_rfl
theorem isDay_all (b : Book) (n : Int) :
  callF (mk PR (lookN types) glob 9) [] [(8,.bool (isDayF b n))] [] (body Tryd.f122) [.tmp 4] [bookD b,.int .i64 n] =
   some ([Contract PR glob 133 [D.int .i64 n,D.int .i64 0,D.int .i64 (Book.days b)] (D.bool (isDayF b n))],D.bool (isDayF b n)) := by kernel_rfl
theorem isSurvey_a (b : Book) (x : Sv) :
  callF (mk PR (lookN types) glob 25) [(9,false)] [(8,.bool (isSectionF b x.s)),(13,.bool (isDayF b x.d)),(18,.bool (withinF x.r 0 200)),(23,.bool (withinF x.e 0 5))] [] (body Tryd.f128) [.tmp 4] [bookD b,svD x] =
   some ([0 + 0 + 1 ≤ 4,Contract PR glob 124 [D.agg (bkCells b),D.int .i64 (Sv.s x)] (D.bool (isSectionF b (Sv.s x))),isSectionF b (Sv.s x) = false,isSectionF b (Sv.s x) = false,isSectionF b (Sv.s x) = false,isSectionF b (Sv.s x) = false,isSectionF b (Sv.s x) = false],D.bool false) := by kernel_rfl
theorem isSurvey_b (b : Book) (x : Sv) :
  callF (mk PR (lookN types) glob 25) [(9,true),(15,false)] [(8,.bool (isSectionF b x.s)),(13,.bool (isDayF b x.d)),(18,.bool (withinF x.r 0 200)),(23,.bool (withinF x.e 0 5))] [] (body Tryd.f128) [.tmp 4] [bookD b,svD x] =
   some ([0 + 0 + 1 ≤ 4,Contract PR glob 124 [D.agg (bkCells b),D.int .i64 (Sv.s x)] (D.bool (isSectionF b (Sv.s x))),isSectionF b (Sv.s x) = true,isSectionF b (Sv.s x) = true,isSectionF b (Sv.s x) = true,0 + 1 + 1 ≤ 4,isSectionF b (Sv.s x) = true,Contract PR glob 122 [D.agg (bkCells b),D.int .i64 (Sv.d x)] (D.bool (isDayF b (Sv.d x))),isSectionF b (Sv.s x) = true,isDayF b (Sv.d x) = false,isDayF b (Sv.d x) = false,isDayF b (Sv.d x) = false,isDayF b (Sv.d x) = false],D.bool false) := by kernel_rfl
theorem isSurvey_c (b : Book) (x : Sv) :
  callF (mk PR (lookN types) glob 25) [(9,true),(15,true),(20,false)] [(8,.bool (isSectionF b x.s)),(13,.bool (isDayF b x.d)),(18,.bool (withinF x.r 0 200)),(23,.bool (withinF x.e 0 5))] [] (body Tryd.f128) [.tmp 4] [bookD b,svD x] =
   some ([0 + 0 + 1 ≤ 4,Contract PR glob 124 [D.agg (bkCells b),D.int .i64 (Sv.s x)] (D.bool (isSectionF b (Sv.s x))),isSectionF b (Sv.s x) = true,isSectionF b (Sv.s x) = true,isSectionF b (Sv.s x) = true,0 + 1 + 1 ≤ 4,isSectionF b (Sv.s x) = true,Contract PR glob 122 [D.agg (bkCells b),D.int .i64 (Sv.d x)] (D.bool (isDayF b (Sv.d x))),isSectionF b (Sv.s x) = true,isDayF b (Sv.d x) = true,isDayF b (Sv.d x) = true,0 + 2 + 1 ≤ 4,isDayF b (Sv.d x) = true,Contract PR glob 133 [D.int .i64 (Sv.r x),D.int .i64 0,D.int .i64 200] (D.bool (withinF (Sv.r x) (0 : Int) (200 : Int))),isDayF b (Sv.d x) = true,withinF (Sv.r x) (0 : Int) (200 : Int) = false,withinF (Sv.r x) (0 : Int) (200 : Int) = false,withinF (Sv.r x) (0 : Int) (200 : Int) = false,withinF (Sv.r x) (0 : Int) (200 : Int) = false],D.bool false) := by kernel_rfl
theorem isSurvey_d (b : Book) (x : Sv) :
  callF (mk PR (lookN types) glob 25) [(9,true),(15,true),(20,true)] [(8,.bool (isSectionF b x.s)),(13,.bool (isDayF b x.d)),(18,.bool (withinF x.r 0 200)),(23,.bool (withinF x.e 0 5))] [] (body Tryd.f128) [.tmp 4] [bookD b,svD x] =
   some ([0 + 0 + 1 ≤ 4,Contract PR glob 124 [D.agg (bkCells b),D.int .i64 (Sv.s x)] (D.bool (isSectionF b (Sv.s x))),isSectionF b (Sv.s x) = true,isSectionF b (Sv.s x) = true,isSectionF b (Sv.s x) = true,0 + 1 + 1 ≤ 4,isSectionF b (Sv.s x) = true,Contract PR glob 122 [D.agg (bkCells b),D.int .i64 (Sv.d x)] (D.bool (isDayF b (Sv.d x))),isSectionF b (Sv.s x) = true,isDayF b (Sv.d x) = true,isDayF b (Sv.d x) = true,0 + 2 + 1 ≤ 4,isDayF b (Sv.d x) = true,Contract PR glob 133 [D.int .i64 (Sv.r x),D.int .i64 0,D.int .i64 200] (D.bool (withinF (Sv.r x) (0 : Int) (200 : Int))),isDayF b (Sv.d x) = true,withinF (Sv.r x) (0 : Int) (200 : Int) = true,withinF (Sv.r x) (0 : Int) (200 : Int) = true,0 + 3 + 1 ≤ 4,withinF (Sv.r x) (0 : Int) (200 : Int) = true,Contract PR glob 133 [D.int .i64 (Sv.e x),D.int .i64 0,D.int .i64 5] (D.bool (withinF (Sv.e x) (0 : Int) (5 : Int))),withinF (Sv.r x) (0 : Int) (200 : Int) = true],D.bool (withinF (Sv.e x) (0 : Int) (5 : Int))) := by kernel_rfl
theorem index_end (xs : List Int) (v : Int) :
  callF (mk PR (lookN types) glob 19) [] [] [(0,(index_K0,(.normal,index_S0 xs v xs.length)))] (body Tryd.f173) [.tmp 4] [.sl false .int xs,.int .i64 v] =
   some ([LoopT PR glob 19 (Code.at [1,0,1] (body Tryd.f173)) [(.tmp 0,.d (D.sl false E.int xs)),(.tmp 1,.d (D.int .i64 v)),(.tmp 7,.d (D.int .i64 (((List.length xs : Nat) : Int)))),(.tmp 8,.d (D.int .i64 0))] Ex.normal (index_S0 xs v (List.length xs))],D.int .i64 (-(1 : Int))) := by kernel_rfl
theorem index_hit (xs : List Int) (v : Int) (i : Nat) :
  callF (mk PR (lookN types) glob 19) [] [] [(0,(index_K0,(.ret,index_T0_hit xs v i)))] (body Tryd.f173) [.tmp 4] [.sl false .int xs,.int .i64 v] =
   some ([LoopT PR glob 19 (Code.at [1,0,1] (body Tryd.f173)) [(.tmp 0,.d (D.sl false E.int xs)),(.tmp 1,.d (D.int .i64 v)),(.tmp 7,.d (D.int .i64 (((List.length xs : Nat) : Int)))),(.tmp 8,.d (D.int .i64 0))] Ex.ret (index_T0_hit xs v i)],D.int .i64 ((i : Int))) := by kernel_rfl
theorem check_bad1 (b : Book) (ok0 ok1 ok2 ok3 ok4 : Bool) (most last : Int) :
  callF (mk PR (lookN types) glob 119) [(65,true)] [] [(1001,(check_RK1,(.normal,check_RS1 b ok0))),(0,(check_K0,(.normal,check_S0 b ok1 most b.secs.length))),(2,(check_K2,(.normal,check_S2 b ok2 most b.secs.length))),(4,(check_K4,(.normal,check_S4 b ok3 last b.turns.length))),(6,(check_K6,(.normal,check_S6 b ok4 b.svs.length)))] (body Tryd.f64) [.tmp 2] [bookD b] =
   some ([LoopT PR glob 119 (Code.at [1,0] (body Tryd.f64)) [(.tmp 1,.d (D.ptr 1 0)),(.box 1,.bx (some (Box.mk false (bkCells b))))] Ex.normal (check_RS1 b ok0),LoopT PR glob 119 (Code.at [1,1,1,0,1] (body Tryd.f64)) [(.tmp 1,.d (D.ptr 1 0)),(.tmp 3,.d (D.bool ok0)),(.tmp 4,.d (D.int .i64 0)),(.tmp 41,.d (D.sl false E.sec (Book.secs b))),(.tmp 42,.d (D.int .i64 (((List.length (Book.secs b) : Nat) : Int)))),(.tmp 43,.d (D.int .i64 0)),(.box 1,.bx (some (Box.mk false (bkCells b))))] Ex.normal (check_S0 b ok1 most (List.length (Book.secs b))),(!ok1) = true],D.int .i64 10) := by kernel_rfl
theorem check_bad2 (b : Book) (ok0 ok1 ok2 ok3 ok4 : Bool) (most last : Int) :
  callF (mk PR (lookN types) glob 119) [(65,false),(118,true)] [] [(1001,(check_RK1,(.normal,check_RS1 b ok0))),(0,(check_K0,(.normal,check_S0 b ok1 most b.secs.length))),(2,(check_K2,(.normal,check_S2 b ok2 most b.secs.length))),(4,(check_K4,(.normal,check_S4 b ok3 last b.turns.length))),(6,(check_K6,(.normal,check_S6 b ok4 b.svs.length)))] (body Tryd.f64) [.tmp 2] [bookD b] =
   some ([LoopT PR glob 119 (Code.at [1,0] (body Tryd.f64)) [(.tmp 1,.d (D.ptr 1 0)),(.box 1,.bx (some (Box.mk false (bkCells b))))] Ex.normal (check_RS1 b ok0),LoopT PR glob 119 (Code.at [1,1,1,0,1] (body Tryd.f64)) [(.tmp 1,.d (D.ptr 1 0)),(.tmp 3,.d (D.bool ok0)),(.tmp 4,.d (D.int .i64 0)),(.tmp 41,.d (D.sl false E.sec (Book.secs b))),(.tmp 42,.d (D.int .i64 (((List.length (Book.secs b) : Nat) : Int)))),(.tmp 43,.d (D.int .i64 0)),(.box 1,.bx (some (Box.mk false (bkCells b))))] Ex.normal (check_S0 b ok1 most (List.length (Book.secs b))),(!ok1) = false,LoopT PR glob 119 (Code.at [1,1,1,1,1,0,1] (body Tryd.f64)) [(.tmp 1,.d (D.ptr 1 0)),(.tmp 3,.d (D.bool ok1)),(.tmp 4,.d (D.int .i64 most)),(.tmp 67,.d (D.sl false E.sec (Book.secs b))),(.tmp 68,.d (D.int .i64 (((List.length (Book.secs b) : Nat) : Int)))),(.tmp 69,.d (D.int .i64 0)),(.box 1,.bx (some (Box.mk false (bkCells b))))] Ex.normal (check_S2 b ok2 most (List.length (Book.secs b))),LoopT PR glob 119 (Code.at [1,1,1,1,1,1,1,0,1] (body Tryd.f64)) [(.tmp 1,.d (D.ptr 1 0)),(.tmp 3,.d (D.bool ok2)),(.tmp 9,.d (D.int .i64 0)),(.tmp 86,.d (D.sl false E.int (Book.turns b))),(.tmp 87,.d (D.int .i64 (((List.length (Book.turns b) : Nat) : Int)))),(.tmp 88,.d (D.int .i64 0)),(.box 1,.bx (some (Box.mk false (bkCells b))))] Ex.normal (check_S4 b ok3 last (List.length (Book.turns b))),LoopT PR glob 119 (Code.at [1,1,1,1,1,1,1,1,0,1] (body Tryd.f64)) [(.tmp 1,.d (D.ptr 1 0)),(.tmp 3,.d (D.bool ok3)),(.tmp 104,.d (D.sl false E.sv (Book.svs b))),(.tmp 105,.d (D.int .i64 (((List.length (Book.svs b) : Nat) : Int)))),(.tmp 106,.d (D.int .i64 0)),(.box 1,.bx (some (Box.mk false (bkCells b))))] Ex.normal (check_S6 b ok4 (List.length (Book.svs b))),(!ok4) = true],D.int .i64 10) := by kernel_rfl
theorem check_good (b : Book) (ok0 ok1 ok2 ok3 ok4 : Bool) (most last : Int) :
  callF (mk PR (lookN types) glob 119) [(65,false),(118,false)] [] [(1001,(check_RK1,(.normal,check_RS1 b ok0))),(0,(check_K0,(.normal,check_S0 b ok1 most b.secs.length))),(2,(check_K2,(.normal,check_S2 b ok2 most b.secs.length))),(4,(check_K4,(.normal,check_S4 b ok3 last b.turns.length))),(6,(check_K6,(.normal,check_S6 b ok4 b.svs.length)))] (body Tryd.f64) [.tmp 2] [bookD b] =
   some ([LoopT PR glob 119 (Code.at [1,0] (body Tryd.f64)) [(.tmp 1,.d (D.ptr 1 0)),(.box 1,.bx (some (Box.mk false (bkCells b))))] Ex.normal (check_RS1 b ok0),LoopT PR glob 119 (Code.at [1,1,1,0,1] (body Tryd.f64)) [(.tmp 1,.d (D.ptr 1 0)),(.tmp 3,.d (D.bool ok0)),(.tmp 4,.d (D.int .i64 0)),(.tmp 41,.d (D.sl false E.sec (Book.secs b))),(.tmp 42,.d (D.int .i64 (((List.length (Book.secs b) : Nat) : Int)))),(.tmp 43,.d (D.int .i64 0)),(.box 1,.bx (some (Box.mk false (bkCells b))))] Ex.normal (check_S0 b ok1 most (List.length (Book.secs b))),(!ok1) = false,LoopT PR glob 119 (Code.at [1,1,1,1,1,0,1] (body Tryd.f64)) [(.tmp 1,.d (D.ptr 1 0)),(.tmp 3,.d (D.bool ok1)),(.tmp 4,.d (D.int .i64 most)),(.tmp 67,.d (D.sl false E.sec (Book.secs b))),(.tmp 68,.d (D.int .i64 (((List.length (Book.secs b) : Nat) : Int)))),(.tmp 69,.d (D.int .i64 0)),(.box 1,.bx (some (Box.mk false (bkCells b))))] Ex.normal (check_S2 b ok2 most (List.length (Book.secs b))),LoopT PR glob 119 (Code.at [1,1,1,1,1,1,1,0,1] (body Tryd.f64)) [(.tmp 1,.d (D.ptr 1 0)),(.tmp 3,.d (D.bool ok2)),(.tmp 9,.d (D.int .i64 0)),(.tmp 86,.d (D.sl false E.int (Book.turns b))),(.tmp 87,.d (D.int .i64 (((List.length (Book.turns b) : Nat) : Int)))),(.tmp 88,.d (D.int .i64 0)),(.box 1,.bx (some (Box.mk false (bkCells b))))] Ex.normal (check_S4 b ok3 last (List.length (Book.turns b))),LoopT PR glob 119 (Code.at [1,1,1,1,1,1,1,1,0,1] (body Tryd.f64)) [(.tmp 1,.d (D.ptr 1 0)),(.tmp 3,.d (D.bool ok3)),(.tmp 104,.d (D.sl false E.sv (Book.svs b))),(.tmp 105,.d (D.int .i64 (((List.length (Book.svs b) : Nat) : Int)))),(.tmp 106,.d (D.int .i64 0)),(.box 1,.bx (some (Box.mk false (bkCells b))))] Ex.normal (check_S6 b ok4 (List.length (Book.svs b))),(!ok4) = false],D.int .i64 0) := by kernel_rfl
theorem contains_all (xs : List Int) (v : Int) (n : Int) :
  callF (mk PR (lookN types) glob 9) [] [(7,.int .i64 n)] [] (body Tryd.f130) [.tmp 4] [.sl false .int xs,.int .i64 v] =
   some ([Contract PR glob 173 [D.sl false E.int xs,D.int .i64 v] (D.int .i64 n)],D.bool (decide (n ≥ (0 : Int)))) := by kernel_rfl
end Go.Di

namespace Go.Di
open Proofs

theorem joinT {n : Nat} {dec : List (Nat × Bool)} {orc : List (Nat × D)} {lorc : Lorc} {c : Code} {L L' L2 : List (Key × Val)} {ks : List Key} {ps : List Prop}
  (h : Di.runK (mk PR (lookN types) glob n) dec orc lorc c L ks = some (ps,.normal,L')) (hp : allP ps) (he : L' = L2) : LoopT PR glob n c L .normal L2 :=
 LoopT.of (tt := lookN types) (WpL.path (G n) h hp ⟨rfl,he⟩)

theorem within_con (n lo hi : Int) : Contract PR glob 133 [.int .i64 n,.int .i64 lo,.int .i64 hi] (.bool (withinF n lo hi)) := by
 unfold withinF
 cases h : decide (lo ≤ n) with
 | false =>
  refine contract_of_path (G 15) within_fn (within_no n lo hi) ?_
  repeat (first | exact trivial | refine ⟨by first | assumption | omega | rfl,?_⟩)
 | true =>
  refine contract_of_path (G 15) within_fn (within_yes n lo hi) ?_
  repeat (first | exact trivial | refine ⟨by first | assumption | omega | rfl,?_⟩)

theorem isSpan_con (s : Span) (hi wide : Int) (hh : hi ≤ 1000000) : Contract PR glob 134 [spD s,.int .i64 hi,.int .i64 wide] (.bool (isSpanF s hi wide)) := by
 unfold isSpanF
 cases h1 : decide (0 ≤ s.lo) with
 | false =>
  refine contract_of_path (G 32) isSpan_fn (isSpan_a s hi wide) ?_
  repeat (first | exact trivial | refine ⟨by first | assumption | omega | rfl,?_⟩)
 | true =>
  cases h2 : decide (s.lo ≤ s.hi) with
  | false =>
   refine contract_of_path (G 32) isSpan_fn (isSpan_b s hi wide) ?_
   repeat (first | exact trivial | refine ⟨by first | assumption | omega | rfl,?_⟩)
  | true =>
   cases h3 : decide (s.hi ≤ hi) with
   | false =>
    refine contract_of_path (G 32) isSpan_fn (isSpan_c s hi wide) ?_
    repeat (first | exact trivial | refine ⟨by first | assumption | omega | rfl,?_⟩)
   | true =>
    have e1 := of_decide_eq_true h1
    have e2 := of_decide_eq_true h2
    have e3 := of_decide_eq_true h3
    refine contract_of_path (G 32) isSpan_fn (isSpan_d s hi wide) ?_
    repeat (first | exact trivial | refine ⟨by first | assumption | omega | rfl | (simp only [inI64]; omega),?_⟩)

theorem isSection_con (b : Book) (n : Int) (hl : b.secs.length ≤ 9223372036854775807) : Contract PR glob 124 [bookD b,.int .i64 n] (.bool (isSectionF b n)) := by
 refine contract_of_path (G 11) isSection_fn (isSection_all b n) ?_
 repeat (first | exact trivial | refine ⟨by first | assumption | omega | (simp only [inI64]; omega) | exact within_con _ _ _,?_⟩)
theorem isDay_con (b : Book) (n : Int) : Contract PR glob 122 [bookD b,.int .i64 n] (.bool (isDayF b n)) := by
 refine contract_of_path (G 9) isDay_fn (isDay_all b n) ?_
 repeat (first | exact trivial | refine ⟨by first | assumption | omega | (simp only [inI64]; omega) | exact within_con _ _ _,?_⟩)
theorem isSurvey_con (b : Book) (x : Sv) (hl : b.secs.length ≤ 9223372036854775807) : Contract PR glob 128 [bookD b,svD x] (.bool (isSurveyF b x)) := by
 unfold isSurveyF
 have hs := isSection_con b x.s hl
 have hd := isDay_con b x.d
 cases h1 : isSectionF b x.s with
 | false =>
  rw [h1] at hs
  have := isSurvey_a b x
  rw [h1] at this
  refine contract_of_path (G 25) isSurvey_fn this ?_
  repeat (first | exact trivial | refine ⟨by first | exact within_con _ _ _ | assumption | omega | rfl,?_⟩)
 | true =>
  rw [h1] at hs
  cases h2 : isDayF b x.d with
  | false =>
   rw [h2] at hd
   have := isSurvey_b b x
   rw [h1,h2] at this
   refine contract_of_path (G 25) isSurvey_fn this ?_
   repeat (first | exact trivial | refine ⟨by first | exact within_con _ _ _ | assumption | omega | rfl,?_⟩)
  | true =>
   rw [h2] at hd
   cases h3 : withinF x.r 0 200 with
   | false =>
    have := isSurvey_c b x
    rw [h1,h2] at this
    refine contract_of_path (G 25) isSurvey_fn this ?_
    repeat (first | exact trivial | refine ⟨by first | exact within_con _ _ _ | assumption | omega | rfl,?_⟩)
   | true =>
    have := isSurvey_d b x
    rw [h1,h2] at this
    refine contract_of_path (G 25) isSurvey_fn this ?_
    repeat (first | exact trivial | refine ⟨by first | exact within_con _ _ _ | assumption | omega | rfl,?_⟩)

/-! ### slices.Index,slices.Contains -/
def indexF (v : Int) : List Int → Nat → Int
 | [],_ => -1
 | x :: l,i => if v == x then i else indexF v l (i + 1)

theorem indexF_ge (v : Int) : ∀ (l : List Int) (i : Nat),(indexF v l i ≥ 0 ↔ v ∈ l)
 | [],i => by simp [indexF]
 | x :: l,i => by
  simp only [indexF]
  by_cases h : v = x
  ·subst h
   simp
  ·have hb : (v == x) = false := by simpa using h
   rw [hb]
   simp only [Bool.false_eq_true,if_false]
   rw [indexF_ge v l (i + 1)]
   simp [h]

theorem drop_getD {α : Type} (l : List α) (i : Nat) (d : α) (h : i < l.length) : l.drop i = l.getD i d :: l.drop (i + 1) := by
 rw [List.drop_eq_getElem_cons h,List.getD_eq_getElem?_getD,List.getElem?_eq_getElem h]
 rfl

theorem indexF_cases (v : Int) (xs : List Int) : (∃ i : Nat,i < xs.length ∧ indexF v xs 0 = i ∧ (v == xs.getD i 0) = true ∧ ∀ j,j < i → (v == xs.getD j 0) = false) ∨ (indexF v xs 0 = -1 ∧ ∀ j,j < xs.length → (v == xs.getD j 0) = false) := by
 have key : ∀ (k i : Nat),xs.length - i = k → i ≤ xs.length → (∀ j,j < i → (v == xs.getD j 0) = false) → (∃ i' : Nat,i' < xs.length ∧ indexF v (xs.drop i) i = i' ∧ (v == xs.getD i' 0) = true ∧ ∀ j,j < i' → (v == xs.getD j 0) = false) ∨ (indexF v (xs.drop i) i = -1 ∧ ∀ j,j < xs.length → (v == xs.getD j 0) = false) := by
  intro k
  induction k with
  | zero =>
   intro i hk hi hj
   have : i = xs.length := by omega
   subst this
   right
   rw [List.drop_length]
   exact ⟨rfl,hj⟩
  | succ k ih =>
   intro i hk hi hj
   have hlt : i < xs.length := by omega
   rw [drop_getD xs i 0 hlt]
   simp only [indexF]
   cases hq : (v == xs.getD i 0) with
   | true =>
    left
    exact ⟨i,hlt,by simp,hq,hj⟩
   | false =>
    simp only [Bool.false_eq_true,if_false]
    refine ih (i + 1) (by omega) (by omega) (fun j hji => ?_)
    by_cases e : j = i
    ·subst e; exact hq
    ·exact hj j (by omega)
 simpa using key xs.length 0 (by omega) (by omega) (fun j hj => by omega)

theorem index_con (xs : List Int) (v : Int) (hl : xs.length ≤ 9223372036854775807) : Contract PR glob 173 [.sl false .int xs,.int .i64 v] (.int .i64 (indexF v xs 0)) := by
 rcases indexF_cases v xs with ⟨i0,h1,h2,h3,h4⟩ | ⟨h2,h4⟩
 ·rw [h2]
  refine contract_of_path (G 19) index_fn (index_hit xs v i0) ⟨?_,trivial⟩
  rw [show Code.at [1,0,1] (body Tryd.f173) = .block 0 (.loop (Code.at [1,0,1,0,0] (body Tryd.f173))) from by kernel_rfl]
  refine LoopT.rounds (tt := lookN types) (S := fun i : {i : Nat // i ≤ i0} => index_S0 xs v i.1) (fun i => i0 - i.1) ?_ ⟨0,Nat.zero_le _⟩
  intro ⟨i,hi⟩
  by_cases hlt : i < i0
  ·refine WpL.path (G 19) (index_0_on xs v i) ?_ ⟨⟨i + 1,hlt⟩,rfl,by dsimp only; omega⟩
   exact ⟨decide_eq_true (by omega),by omega,by omega,h4 i hlt,by simp only [inI64]; omega,trivial⟩
  ·have : i = i0 := by omega
   subst this
   exact WpL.path (G 19) (index_0_hit xs v i) ⟨decide_eq_true (by omega),by omega,by omega,h3,trivial⟩ ⟨rfl,rfl⟩
 ·rw [h2]
  refine contract_of_path (G 19) index_fn (index_end xs v) ⟨?_,trivial⟩
  rw [show Code.at [1,0,1] (body Tryd.f173) = .block 0 (.loop (Code.at [1,0,1,0,0] (body Tryd.f173))) from by kernel_rfl]
  refine LoopT.rounds (tt := lookN types) (S := fun i : {i : Nat // i ≤ xs.length} => index_S0 xs v i.1) (fun i => xs.length - i.1) ?_ ⟨0,Nat.zero_le _⟩
  intro ⟨i,hi⟩
  by_cases hlt : i < xs.length
  ·refine WpL.path (G 19) (index_0_on xs v i) ?_ ⟨⟨i + 1,hlt⟩,rfl,by dsimp only; omega⟩
   exact ⟨decide_eq_true (by omega),by omega,by omega,h4 i hlt,by simp only [inI64]; omega,trivial⟩
  ·have : i = xs.length := by omega
   subst this
   exact WpL.path (G 19) (index_0_end xs v _) ⟨decide_eq_false (Int.lt_irrefl _),trivial⟩ ⟨rfl,rfl⟩

theorem contains_con (xs : List Int) (v : Int) (hl : xs.length ≤ 9223372036854775807) : Contract PR glob 130 [.sl false .int xs,.int .i64 v] (.bool (decide (v ∈ xs))) := by
 have := contract_of_path (G 9) contains_fn (contains_all xs v (indexF v xs 0)) ⟨index_con xs v hl,trivial⟩
 rw [show decide (v ∈ xs) = decide (indexF v xs 0 ≥ 0) from by simp only [indexF_ge]]
 exact this
end Go.Di

