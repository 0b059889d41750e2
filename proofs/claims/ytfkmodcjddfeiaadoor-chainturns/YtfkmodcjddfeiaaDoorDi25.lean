/- Part 25: an interpreter over plain data for this code, with the proof that it says what the model does, and the contracts of the functions. No condition. -/
import Derived.Test.YtfkmodcjddfeiaaDoorDi24
set_option linter.unusedVariables false
set_option linter.unusedSimpArgs false
namespace Go.Di
theorem rSoon_fn : FnOk PR (mk PR (lookN types) glob 25) 163 (body Proofs.Tryd.f163) [.tmp 4] := ⟨Proofs.Tryd.f163, by kernel_rfl, by kernel_rfl, by kernel_rfl, by kernel_rfl, by kernel_rfl⟩
theorem rwiA_fn : FnOk PR (mk PR (lookN types) glob 32) 164 (body Proofs.Tryd.f164) [.cell 4 26] := ⟨Proofs.Tryd.f164, by kernel_rfl, by kernel_rfl, by kernel_rfl, by kernel_rfl, by kernel_rfl⟩
theorem rwoA_fn : FnOk PR (mk PR (lookN types) glob 31) 165 (body Proofs.Tryd.f165) [.cell 4 26] := ⟨Proofs.Tryd.f165, by kernel_rfl, by kernel_rfl, by kernel_rfl, by kernel_rfl, by kernel_rfl⟩
theorem rTurnA_fn : FnOk PR (mk PR (lookN types) glob 59) 115 (body Proofs.Tryd.f115) [.tmp 2, .tmp 3] := ⟨Proofs.Tryd.f115, by kernel_rfl, by kernel_rfl, by kernel_rfl, by kernel_rfl, by kernel_rfl⟩
theorem rWrongA_fn : FnOk PR (mk PR (lookN types) glob 42) 116 (body Proofs.Tryd.f116) [.tmp 2, .tmp 3] := ⟨Proofs.Tryd.f116, by kernel_rfl, by kernel_rfl, by kernel_rfl, by kernel_rfl, by kernel_rfl⟩
theorem cturns__fn : FnOk PR (mk PR (lookN types) glob 47) 32 (body Proofs.Tryd.f32) [.tmp 4] := ⟨Proofs.Tryd.f32, by kernel_rfl, by kernel_rfl, by kernel_rfl, by kernel_rfl, by kernel_rfl⟩
theorem cturns_fn : FnOk PR (mk PR (lookN types) glob 17) 5 (body Proofs.Tryd.f5) [.tmp 2] := ⟨Proofs.Tryd.f5, by kernel_rfl, by kernel_rfl, by kernel_rfl, by kernel_rfl, by kernel_rfl⟩
def rSoon_S0 (b b2 : Book) (i : Nat) (day : Int) : List (Key × Val) :=
 [(.tmp 2, .d (D.ptr 2 0)),
  (.tmp 3, .d (D.ptr 3 0)),
  (.tmp 5, .d (.int .i64 day)),
  (.tmp 6, .d (.int .i64 i)),
  (.box 2, .bx (some (Box.mk false (cellsOf (bookD b))))),
  (.box 3, .bx (some (Box.mk false (cellsOf (bookD b2)))))]
def rSoon_K0 : List Key := [.tmp 2, .tmp 3, .tmp 5, .tmp 6, .box 2, .box 3]
def rwiB_S0 (b : Book) (day : Int) (i : Nat) (y : Int) (r : List Int) : List (Key × Val) :=
 [(.tmp 1, .d (D.int .i64 day)),
  (.tmp 2, .d (D.ptr 2 0)),
  (.tmp 4, .d (D.ptr 4 0)),
  (.tmp 5, .d (D.ptr 5 0)),
  (.tmp 6, .d (.int .i64 ((i : Int) + 1))),
  (.box 2, .bx (some (Box.mk false (cellsOf (bookD b))))),
  (.box 4, .bx (some (Box.mk false [D.nil, D.nil, D.nil, D.int .i64 (0 : Int), D.int .i64 (0 : Int)]))),
  (.box 5, .bx (some ⟨false, [.sl false .sec b.secs, .own 29 (y :: r).length, .sl false .sv b.svs, .int .i64 b.rule, .int .i64 b.days]⟩)),
  (.obj 29, .ob (some ⟨.int, y :: r⟩))]
def rwiB_K0 : List Key := [.tmp 1, .tmp 2, .tmp 4, .tmp 5, .tmp 6, .box 2, .box 4, .box 5, .obj 29]
def rwiA_S0 (b : Book) (day : Int) (i : Nat) : List (Key × Val) :=
 [(.tmp 1, .d (D.int .i64 day)),
  (.tmp 2, .d (D.ptr 2 0)),
  (.tmp 4, .d (D.ptr 4 0)),
  (.tmp 5, .d (D.ptr 5 0)),
  (.tmp 6, .d (.int .i64 ((i : Int) + 1))),
  (.box 2, .bx (some (Box.mk false (cellsOf (bookD b))))),
  (.box 4, .bx (some (Box.mk false [D.nil, D.nil, D.nil, D.int .i64 (0 : Int), D.int .i64 (0 : Int)]))),
  (.box 5, .bx (some (Box.mk false [D.sl false E.sec (Book.secs b), D.sl true E.int [], D.sl false E.sv (Book.svs b), D.int .i64 (Book.rule b), D.int .i64 (Book.days b)]))),
  (.obj 29, .ob none)]
def rwiA_K0 : List Key := [.tmp 1, .tmp 2, .tmp 4, .tmp 5, .tmp 6, .box 2, .box 4, .box 5, .obj 29]
def rwoB_S0 (b : Book) (set : Int) (i : Nat) (y : Sv) (r : List Sv) : List (Key × Val) :=
 [(.tmp 1, .d (D.int .i64 set)),
  (.tmp 2, .d (D.ptr 2 0)),
  (.tmp 4, .d (D.ptr 4 0)),
  (.tmp 5, .d (D.ptr 5 0)),
  (.tmp 6, .d (.int .i64 i)),
  (.box 2, .bx (some (Box.mk false (cellsOf (bookD b))))),
  (.box 4, .bx (some (Box.mk false [D.nil, D.nil, D.nil, D.int .i64 (0 : Int), D.int .i64 (0 : Int)]))),
  (.box 5, .bx (some ⟨false, [.sl false .sec b.secs, .sl false .int b.turns, .own 28 (y :: r).length, .int .i64 b.rule, .int .i64 b.days]⟩)),
  (.obj 28, .ob (some ⟨.sv, y :: r⟩))]
def rwoB_K0 : List Key := [.tmp 1, .tmp 2, .tmp 4, .tmp 5, .tmp 6, .box 2, .box 4, .box 5, .obj 28]
def rwoA_S0 (b : Book) (set : Int) (i : Nat) : List (Key × Val) :=
 [(.tmp 1, .d (D.int .i64 set)),
  (.tmp 2, .d (D.ptr 2 0)),
  (.tmp 4, .d (D.ptr 4 0)),
  (.tmp 5, .d (D.ptr 5 0)),
  (.tmp 6, .d (.int .i64 i)),
  (.box 2, .bx (some (Box.mk false (cellsOf (bookD b))))),
  (.box 4, .bx (some (Box.mk false [D.nil, D.nil, D.nil, D.int .i64 (0 : Int), D.int .i64 (0 : Int)]))),
  (.box 5, .bx (some (Box.mk false [D.sl false E.sec (Book.secs b), D.sl false E.int (Book.turns b), D.sl true E.sv [], D.int .i64 (Book.rule b), D.int .i64 (Book.days b)]))),
  (.obj 28, .ob none)]
def rwoA_K0 : List Key := [.tmp 1, .tmp 2, .tmp 4, .tmp 5, .tmp 6, .box 2, .box 4, .box 5, .obj 28]
def rTurnA_S0 (b : Book) (fr : Int) (i : Nat) : List (Key × Val) :=
 [(.tmp 1, .d (D.ptr 1 0)),
  (.tmp 5, .d (.int .i64 fr)),
  (.tmp 6, .d (.int .i64 i)),
  (.box 1, .bx (some (Box.mk false (cellsOf (bookD b)))))]
def rTurnA_K0 : List Key := [.tmp 1, .tmp 5, .tmp 6, .box 1]
def rWrongA_S0 (b : Book) (s : Nat) (l : List Int) : List (Key × Val) :=
 [(.tmp 1, .d (D.ptr 1 0)),
  (.tmp 5, .d (D.int .i64 ((Nat.cast : Nat → Int) (List.length (Book.svs b))))),
  (.tmp 6, .d (.sl false .int l)),
  (.tmp 7, .d (.int .i64 s)),
  (.box 1, .bx (some (Box.mk false (cellsOf (bookD b)))))]
def rWrongA_K0 : List Key := [.tmp 1, .tmp 5, .tmp 6, .tmp 7, .box 1]
def rTurnA_S2 (b : Book) (d best when : Int) : List (Key × Val) :=
 [(.tmp 1, .d (D.ptr 1 0)),
  (.tmp 7, .d (.int .i64 best)),
  (.tmp 8, .d (.int .i64 when)),
  (.tmp 9, .d (.int .i64 d)),
  (.box 1, .bx (some (Box.mk false (cellsOf (bookD b)))))]
def rTurnA_K2 : List Key := [.tmp 1, .tmp 7, .tmp 8, .tmp 9, .box 1]
theorem rSoon_0_on (b b2 : Book) (i : Nat) (day : Int) (ts : List Tr1) (k : Int) :
  runK (mk PR (lookN types) glob 25) [(14, true)] [(21, .sl false .tr1 ts), (22, .int .i64 k)] [] (Code.at [1, 1, 0, 1, 0, 0] (body Proofs.Tryd.f163)) (rSoon_S0 b b2 i day) rSoon_K0 =
   some ([decide ((i : Int) < (Nat.cast : Nat → Int) (List.length (Book.secs b))) = true, Contract PR glob 160 [bookD b, D.int .i64 ((i : Int))] (D.sl false E.tr1 ts), Contract PR glob 191 [bookD b2, D.sl false E.tr1 ts, D.bool false] (D.int .i64 k), inI64 ((i : Int) + (1 : Int))], Ex.normal, [(.tmp 2, .d (D.ptr 2 0)), (.tmp 3, .d (D.ptr 3 0)), (.tmp 5, .d (D.int .i64 (List.foldl mn day [k]))), (.tmp 6, .d (D.int .i64 ((i : Int) + (1 : Int)))), (.box 2, .bx (some (Box.mk false (cellsOf (bookD b))))), (.box 3, .bx (some (Box.mk false (cellsOf (bookD b2)))))]) := by kernel_rfl
theorem rSoon_0_end (b b2 : Book) (i : Nat) (day : Int) :
  runK (mk PR (lookN types) glob 25) [(14, false)] [] [] (Code.at [1, 1, 0, 1, 0, 0] (body Proofs.Tryd.f163)) (rSoon_S0 b b2 i day) rSoon_K0 =
   some ([decide ((i : Int) < (Nat.cast : Nat → Int) (List.length (Book.secs b))) = false], Ex.exit 0, [(.tmp 2, .d (D.ptr 2 0)), (.tmp 3, .d (D.ptr 3 0)), (.tmp 5, .d (D.int .i64 day)), (.tmp 6, .d (D.int .i64 ((i : Int)))), (.box 2, .bx (some (Box.mk false (cellsOf (bookD b))))), (.box 3, .bx (some (Box.mk false (cellsOf (bookD b2)))))]) := by kernel_rfl
theorem rwiB_0_eq (b : Book) (day : Int) (i : Nat) (y : Int) (r : List Int) (z : Int) :
  runK (mk PR (lookN types) glob 32) [(12, true), (18, true)] [(22, .int .i64 z)] [] (Code.at [1, 1, 1, 0, 1, 0, 0] (body Proofs.Tryd.f164)) (rwiB_S0 b day i y r) rwiB_K0 =
   some ([decide ((i : Int) + (1 : Int) ≤ Book.days b) = true, ((i : Int) + (1 : Int) == day) = true, ((i : Int) + (1 : Int) == day) = true, ((i : Int) + (1 : Int) == day) = true, ((i : Int) + (1 : Int) == day) = true, ((i : Int) + (1 : Int) == day) = true, ((i : Int) + (1 : Int) == day) = true, List.length (y :: r) = List.length ((y :: r)), List.length ((y :: r) ++ [(i : Int) + (1 : Int)]) * (8 + 1) ≤ 140737488355328, List.length ((y :: r) ++ [(i : Int) + (1 : Int)]) = List.length (((y :: r) ++ [(i : Int) + (1 : Int)])), inI64 ((i : Int) + (1 : Int) + (1 : Int))], Ex.normal, [(.tmp 1, .d (D.int .i64 day)), (.tmp 2, .d (D.ptr 2 0)), (.tmp 4, .d (D.ptr 4 0)), (.tmp 5, .d (D.ptr 5 0)), (.tmp 6, .d (D.int .i64 ((i : Int) + (1 : Int) + (1 : Int)))), (.box 2, .bx (some (Box.mk false (cellsOf (bookD b))))), (.box 4, .bx (some (Box.mk false [D.nil, D.nil, D.nil, D.int .i64 (0 : Int), D.int .i64 (0 : Int)]))), (.box 5, .bx (some (Box.mk false [D.sl false E.sec (Book.secs b), D.own 29 (List.length ((y :: r) ++ [(i : Int) + (1 : Int)])), D.sl false E.sv (Book.svs b), D.int .i64 (Book.rule b), D.int .i64 (Book.days b)]))), (.obj 29, .ob (some (Ob.mk E.int ((y :: r) ++ [(i : Int) + (1 : Int)]))))]) := by kernel_rfl
theorem rwiB_0_at (b : Book) (day : Int) (i : Nat) (y : Int) (r : List Int) (z : Int) :
  runK (mk PR (lookN types) glob 32) [(12, true), (18, false), (24, true)] [(22, .int .i64 z)] [] (Code.at [1, 1, 1, 0, 1, 0, 0] (body Proofs.Tryd.f164)) (rwiB_S0 b day i y r) rwiB_K0 =
   some ([decide ((i : Int) + (1 : Int) ≤ Book.days b) = true, ((i : Int) + (1 : Int) == day) = false, ((i : Int) + (1 : Int) == day) = false, ((i : Int) + (1 : Int) == day) = false, ((i : Int) + (1 : Int) == day) = false, Contract PR glob 46 [D.sl false E.int (Book.turns b), D.int .i64 ((i : Int) + (1 : Int))] (D.int .i64 z), ((i : Int) + (1 : Int) == day) = false, ((i : Int) + (1 : Int) == day) = false, decide (z ≥ (0 : Int)) = true, List.length (y :: r) = List.length ((y :: r)), List.length ((y :: r) ++ [(i : Int) + (1 : Int)]) * (8 + 1) ≤ 140737488355328, List.length ((y :: r) ++ [(i : Int) + (1 : Int)]) = List.length (((y :: r) ++ [(i : Int) + (1 : Int)])), inI64 ((i : Int) + (1 : Int) + (1 : Int))], Ex.normal, [(.tmp 1, .d (D.int .i64 day)), (.tmp 2, .d (D.ptr 2 0)), (.tmp 4, .d (D.ptr 4 0)), (.tmp 5, .d (D.ptr 5 0)), (.tmp 6, .d (D.int .i64 ((i : Int) + (1 : Int) + (1 : Int)))), (.box 2, .bx (some (Box.mk false (cellsOf (bookD b))))), (.box 4, .bx (some (Box.mk false [D.nil, D.nil, D.nil, D.int .i64 (0 : Int), D.int .i64 (0 : Int)]))), (.box 5, .bx (some (Box.mk false [D.sl false E.sec (Book.secs b), D.own 29 (List.length ((y :: r) ++ [(i : Int) + (1 : Int)])), D.sl false E.sv (Book.svs b), D.int .i64 (Book.rule b), D.int .i64 (Book.days b)]))), (.obj 29, .ob (some (Ob.mk E.int ((y :: r) ++ [(i : Int) + (1 : Int)]))))]) := by kernel_rfl
theorem rwiB_0_no (b : Book) (day : Int) (i : Nat) (y : Int) (r : List Int) (z : Int) :
  runK (mk PR (lookN types) glob 32) [(12, true), (18, false), (24, false)] [(22, .int .i64 z)] [] (Code.at [1, 1, 1, 0, 1, 0, 0] (body Proofs.Tryd.f164)) (rwiB_S0 b day i y r) rwiB_K0 =
   some ([decide ((i : Int) + (1 : Int) ≤ Book.days b) = true, ((i : Int) + (1 : Int) == day) = false, ((i : Int) + (1 : Int) == day) = false, ((i : Int) + (1 : Int) == day) = false, ((i : Int) + (1 : Int) == day) = false, Contract PR glob 46 [D.sl false E.int (Book.turns b), D.int .i64 ((i : Int) + (1 : Int))] (D.int .i64 z), ((i : Int) + (1 : Int) == day) = false, ((i : Int) + (1 : Int) == day) = false, decide (z ≥ (0 : Int)) = false, inI64 ((i : Int) + (1 : Int) + (1 : Int))], Ex.normal, [(.tmp 1, .d (D.int .i64 day)), (.tmp 2, .d (D.ptr 2 0)), (.tmp 4, .d (D.ptr 4 0)), (.tmp 5, .d (D.ptr 5 0)), (.tmp 6, .d (D.int .i64 ((i : Int) + (1 : Int) + (1 : Int)))), (.box 2, .bx (some (Box.mk false (cellsOf (bookD b))))), (.box 4, .bx (some (Box.mk false [D.nil, D.nil, D.nil, D.int .i64 (0 : Int), D.int .i64 (0 : Int)]))), (.box 5, .bx (some (Box.mk false [D.sl false E.sec (Book.secs b), D.own 29 (List.length (y :: r)), D.sl false E.sv (Book.svs b), D.int .i64 (Book.rule b), D.int .i64 (Book.days b)]))), (.obj 29, .ob (some (Ob.mk E.int (y :: r))))]) := by kernel_rfl
theorem rwiB_0_end (b : Book) (day : Int) (i : Nat) (y : Int) (r : List Int) :
  runK (mk PR (lookN types) glob 32) [(12, false)] [] [] (Code.at [1, 1, 1, 0, 1, 0, 0] (body Proofs.Tryd.f164)) (rwiB_S0 b day i y r) rwiB_K0 =
   some ([decide ((i : Int) + (1 : Int) ≤ Book.days b) = false], Ex.exit 0, [(.tmp 1, .d (D.int .i64 day)), (.tmp 2, .d (D.ptr 2 0)), (.tmp 4, .d (D.ptr 4 0)), (.tmp 5, .d (D.ptr 5 0)), (.tmp 6, .d (D.int .i64 ((i : Int) + (1 : Int)))), (.box 2, .bx (some (Box.mk false (cellsOf (bookD b))))), (.box 4, .bx (some (Box.mk false [D.nil, D.nil, D.nil, D.int .i64 (0 : Int), D.int .i64 (0 : Int)]))), (.box 5, .bx (some (Box.mk false [D.sl false E.sec (Book.secs b), D.own 29 (List.length (y :: r)), D.sl false E.sv (Book.svs b), D.int .i64 (Book.rule b), D.int .i64 (Book.days b)]))), (.obj 29, .ob (some (Ob.mk E.int (y :: r))))]) := by kernel_rfl
theorem rwiA_0_eq (b : Book) (day : Int) (i : Nat) (z : Int) :
  runK (mk PR (lookN types) glob 32) [(12, true), (18, true)] [(22, .int .i64 z)] [] (Code.at [1, 1, 1, 0, 1, 0, 0] (body Proofs.Tryd.f164)) (rwiA_S0 b day i) rwiB_K0 =
   some ([decide ((i : Int) + (1 : Int) ≤ Book.days b) = true, ((i : Int) + (1 : Int) == day) = true, ((i : Int) + (1 : Int) == day) = true, ((i : Int) + (1 : Int) == day) = true, ((i : Int) + (1 : Int) == day) = true, ((i : Int) + (1 : Int) == day) = true, ((i : Int) + (1 : Int) == day) = true, 1 * (8 + 1) ≤ 140737488355328, 1 = 1, inI64 ((i : Int) + (1 : Int) + (1 : Int))], Ex.normal, [(.tmp 1, .d (D.int .i64 day)), (.tmp 2, .d (D.ptr 2 0)), (.tmp 4, .d (D.ptr 4 0)), (.tmp 5, .d (D.ptr 5 0)), (.tmp 6, .d (D.int .i64 ((i : Int) + (1 : Int) + (1 : Int)))), (.box 2, .bx (some (Box.mk false (cellsOf (bookD b))))), (.box 4, .bx (some (Box.mk false [D.nil, D.nil, D.nil, D.int .i64 (0 : Int), D.int .i64 (0 : Int)]))), (.box 5, .bx (some (Box.mk false [D.sl false E.sec (Book.secs b), D.own 29 1, D.sl false E.sv (Book.svs b), D.int .i64 (Book.rule b), D.int .i64 (Book.days b)]))), (.obj 29, .ob (some (Ob.mk E.int ([] ++ [(i : Int) + (1 : Int)]))))]) := by kernel_rfl
theorem rwiA_0_at (b : Book) (day : Int) (i : Nat) (z : Int) :
  runK (mk PR (lookN types) glob 32) [(12, true), (18, false), (24, true)] [(22, .int .i64 z)] [] (Code.at [1, 1, 1, 0, 1, 0, 0] (body Proofs.Tryd.f164)) (rwiA_S0 b day i) rwiB_K0 =
   some ([decide ((i : Int) + (1 : Int) ≤ Book.days b) = true, ((i : Int) + (1 : Int) == day) = false, ((i : Int) + (1 : Int) == day) = false, ((i : Int) + (1 : Int) == day) = false, ((i : Int) + (1 : Int) == day) = false, Contract PR glob 46 [D.sl false E.int (Book.turns b), D.int .i64 ((i : Int) + (1 : Int))] (D.int .i64 z), ((i : Int) + (1 : Int) == day) = false, ((i : Int) + (1 : Int) == day) = false, decide (z ≥ (0 : Int)) = true, 1 * (8 + 1) ≤ 140737488355328, 1 = 1, inI64 ((i : Int) + (1 : Int) + (1 : Int))], Ex.normal, [(.tmp 1, .d (D.int .i64 day)), (.tmp 2, .d (D.ptr 2 0)), (.tmp 4, .d (D.ptr 4 0)), (.tmp 5, .d (D.ptr 5 0)), (.tmp 6, .d (D.int .i64 ((i : Int) + (1 : Int) + (1 : Int)))), (.box 2, .bx (some (Box.mk false (cellsOf (bookD b))))), (.box 4, .bx (some (Box.mk false [D.nil, D.nil, D.nil, D.int .i64 (0 : Int), D.int .i64 (0 : Int)]))), (.box 5, .bx (some (Box.mk false [D.sl false E.sec (Book.secs b), D.own 29 1, D.sl false E.sv (Book.svs b), D.int .i64 (Book.rule b), D.int .i64 (Book.days b)]))), (.obj 29, .ob (some (Ob.mk E.int ([] ++ [(i : Int) + (1 : Int)]))))]) := by kernel_rfl
theorem rwiA_0_no (b : Book) (day : Int) (i : Nat) (z : Int) :
  runK (mk PR (lookN types) glob 32) [(12, true), (18, false), (24, false)] [(22, .int .i64 z)] [] (Code.at [1, 1, 1, 0, 1, 0, 0] (body Proofs.Tryd.f164)) (rwiA_S0 b day i) rwiA_K0 =
   some ([decide ((i : Int) + (1 : Int) ≤ Book.days b) = true, ((i : Int) + (1 : Int) == day) = false, ((i : Int) + (1 : Int) == day) = false, ((i : Int) + (1 : Int) == day) = false, ((i : Int) + (1 : Int) == day) = false, Contract PR glob 46 [D.sl false E.int (Book.turns b), D.int .i64 ((i : Int) + (1 : Int))] (D.int .i64 z), ((i : Int) + (1 : Int) == day) = false, ((i : Int) + (1 : Int) == day) = false, decide (z ≥ (0 : Int)) = false, inI64 ((i : Int) + (1 : Int) + (1 : Int))], Ex.normal, [(.tmp 1, .d (D.int .i64 day)), (.tmp 2, .d (D.ptr 2 0)), (.tmp 4, .d (D.ptr 4 0)), (.tmp 5, .d (D.ptr 5 0)), (.tmp 6, .d (D.int .i64 ((i : Int) + (1 : Int) + (1 : Int)))), (.box 2, .bx (some (Box.mk false (cellsOf (bookD b))))), (.box 4, .bx (some (Box.mk false [D.nil, D.nil, D.nil, D.int .i64 (0 : Int), D.int .i64 (0 : Int)]))), (.box 5, .bx (some (Box.mk false [D.sl false E.sec (Book.secs b), D.sl true E.int [], D.sl false E.sv (Book.svs b), D.int .i64 (Book.rule b), D.int .i64 (Book.days b)]))), (.obj 29, .ob Option.none)]) := by kernel_rfl
theorem rwiA_0_end (b : Book) (day : Int) (i : Nat) :
  runK (mk PR (lookN types) glob 32) [(12, false)] [] [] (Code.at [1, 1, 1, 0, 1, 0, 0] (body Proofs.Tryd.f164)) (rwiA_S0 b day i) rwiA_K0 =
   some ([decide ((i : Int) + (1 : Int) ≤ Book.days b) = false], Ex.exit 0, [(.tmp 1, .d (D.int .i64 day)), (.tmp 2, .d (D.ptr 2 0)), (.tmp 4, .d (D.ptr 4 0)), (.tmp 5, .d (D.ptr 5 0)), (.tmp 6, .d (D.int .i64 ((i : Int) + (1 : Int)))), (.box 2, .bx (some (Box.mk false (cellsOf (bookD b))))), (.box 4, .bx (some (Box.mk false [D.nil, D.nil, D.nil, D.int .i64 (0 : Int), D.int .i64 (0 : Int)]))), (.box 5, .bx (some (Box.mk false [D.sl false E.sec (Book.secs b), D.sl true E.int [], D.sl false E.sv (Book.svs b), D.int .i64 (Book.rule b), D.int .i64 (Book.days b)]))), (.obj 29, .ob Option.none)]) := by kernel_rfl
theorem rwoB_0_no (b : Book) (set : Int) (i : Nat) (y : Sv) (r : List Sv) :
  runK (mk PR (lookN types) glob 31) [(13, true)] [(18, .bool true)] [] (Code.at [1, 1, 1, 0, 1, 0, 0] (body Proofs.Tryd.f165)) (rwoB_S0 b set i y r) rwoB_K0 =
   some ([decide ((i : Int) < (Nat.cast : Nat → Int) (List.length (Book.svs b))) = true, Contract PR glob 131 [D.int .i64 set, D.int .i64 ((i : Int))] (D.bool true), inI64 ((i : Int) + (1 : Int))], Ex.normal, [(.tmp 1, .d (D.int .i64 set)), (.tmp 2, .d (D.ptr 2 0)), (.tmp 4, .d (D.ptr 4 0)), (.tmp 5, .d (D.ptr 5 0)), (.tmp 6, .d (D.int .i64 ((i : Int) + (1 : Int)))), (.box 2, .bx (some (Box.mk false (cellsOf (bookD b))))), (.box 4, .bx (some (Box.mk false [D.nil, D.nil, D.nil, D.int .i64 (0 : Int), D.int .i64 (0 : Int)]))), (.box 5, .bx (some (Box.mk false [D.sl false E.sec (Book.secs b), D.sl false E.int (Book.turns b), D.own 28 (List.length (y :: r)), D.int .i64 (Book.rule b), D.int .i64 (Book.days b)]))), (.obj 28, .ob (some (Ob.mk E.sv (y :: r))))]) := by kernel_rfl
theorem rwoB_0_yes (b : Book) (set : Int) (i : Nat) (y : Sv) (r : List Sv) :
  runK (mk PR (lookN types) glob 31) [(13, true)] [(18, .bool false)] [] (Code.at [1, 1, 1, 0, 1, 0, 0] (body Proofs.Tryd.f165)) (rwoB_S0 b set i y r) rwoB_K0 =
   some ([decide ((i : Int) < (Nat.cast : Nat → Int) (List.length (Book.svs b))) = true, Contract PR glob 131 [D.int .i64 set, D.int .i64 ((i : Int))] (D.bool false), (0 : Int) ≤ (i : Int) ∧ (i : Int) < (Nat.cast : Nat → Int) (List.length (Book.svs b)), 0 + 4 ≤ 4, List.length (y :: r) = List.length ((y :: r)), List.length ((y :: r) ++ [Sv.mk (Sv.s (List.getD (Book.svs b) (Int.toNat ((i : Int))) (E.z E.sv))) (Sv.d (List.getD (Book.svs b) (Int.toNat ((i : Int))) (E.z E.sv))) (Sv.r (List.getD (Book.svs b) (Int.toNat ((i : Int))) (E.z E.sv))) (Sv.e (List.getD (Book.svs b) (Int.toNat ((i : Int))) (E.z E.sv)))]) * (32 + 1) ≤ 140737488355328, List.length ((y :: r) ++ [Sv.mk (Sv.s (List.getD (Book.svs b) (Int.toNat ((i : Int))) (E.z E.sv))) (Sv.d (List.getD (Book.svs b) (Int.toNat ((i : Int))) (E.z E.sv))) (Sv.r (List.getD (Book.svs b) (Int.toNat ((i : Int))) (E.z E.sv))) (Sv.e (List.getD (Book.svs b) (Int.toNat ((i : Int))) (E.z E.sv)))]) = List.length (((y :: r) ++ [Sv.mk (Sv.s (List.getD (Book.svs b) (Int.toNat ((i : Int))) (E.z E.sv))) (Sv.d (List.getD (Book.svs b) (Int.toNat ((i : Int))) (E.z E.sv))) (Sv.r (List.getD (Book.svs b) (Int.toNat ((i : Int))) (E.z E.sv))) (Sv.e (List.getD (Book.svs b) (Int.toNat ((i : Int))) (E.z E.sv)))])), inI64 ((i : Int) + (1 : Int))], Ex.normal, [(.tmp 1, .d (D.int .i64 set)), (.tmp 2, .d (D.ptr 2 0)), (.tmp 4, .d (D.ptr 4 0)), (.tmp 5, .d (D.ptr 5 0)), (.tmp 6, .d (D.int .i64 ((i : Int) + (1 : Int)))), (.box 2, .bx (some (Box.mk false (cellsOf (bookD b))))), (.box 4, .bx (some (Box.mk false [D.nil, D.nil, D.nil, D.int .i64 (0 : Int), D.int .i64 (0 : Int)]))), (.box 5, .bx (some (Box.mk false [D.sl false E.sec (Book.secs b), D.sl false E.int (Book.turns b), D.own 28 (List.length ((y :: r) ++ [Sv.mk (Sv.s (List.getD (Book.svs b) (Int.toNat ((i : Int))) (E.z E.sv))) (Sv.d (List.getD (Book.svs b) (Int.toNat ((i : Int))) (E.z E.sv))) (Sv.r (List.getD (Book.svs b) (Int.toNat ((i : Int))) (E.z E.sv))) (Sv.e (List.getD (Book.svs b) (Int.toNat ((i : Int))) (E.z E.sv)))])), D.int .i64 (Book.rule b), D.int .i64 (Book.days b)]))), (.obj 28, .ob (some (Ob.mk E.sv ((y :: r) ++ [Sv.mk (Sv.s (List.getD (Book.svs b) (Int.toNat ((i : Int))) (E.z E.sv))) (Sv.d (List.getD (Book.svs b) (Int.toNat ((i : Int))) (E.z E.sv))) (Sv.r (List.getD (Book.svs b) (Int.toNat ((i : Int))) (E.z E.sv))) (Sv.e (List.getD (Book.svs b) (Int.toNat ((i : Int))) (E.z E.sv)))]))))]) := by kernel_rfl
theorem rwoB_0_end (b : Book) (set : Int) (i : Nat) (y : Sv) (r : List Sv) :
  runK (mk PR (lookN types) glob 31) [(13, false)] [] [] (Code.at [1, 1, 1, 0, 1, 0, 0] (body Proofs.Tryd.f165)) (rwoB_S0 b set i y r) rwoB_K0 =
   some ([decide ((i : Int) < (Nat.cast : Nat → Int) (List.length (Book.svs b))) = false], Ex.exit 0, [(.tmp 1, .d (D.int .i64 set)), (.tmp 2, .d (D.ptr 2 0)), (.tmp 4, .d (D.ptr 4 0)), (.tmp 5, .d (D.ptr 5 0)), (.tmp 6, .d (D.int .i64 ((i : Int)))), (.box 2, .bx (some (Box.mk false (cellsOf (bookD b))))), (.box 4, .bx (some (Box.mk false [D.nil, D.nil, D.nil, D.int .i64 (0 : Int), D.int .i64 (0 : Int)]))), (.box 5, .bx (some (Box.mk false [D.sl false E.sec (Book.secs b), D.sl false E.int (Book.turns b), D.own 28 (List.length (y :: r)), D.int .i64 (Book.rule b), D.int .i64 (Book.days b)]))), (.obj 28, .ob (some (Ob.mk E.sv (y :: r))))]) := by kernel_rfl
theorem rwoA_0_no (b : Book) (set : Int) (i : Nat) :
  runK (mk PR (lookN types) glob 31) [(13, true)] [(18, .bool true)] [] (Code.at [1, 1, 1, 0, 1, 0, 0] (body Proofs.Tryd.f165)) (rwoA_S0 b set i) rwoA_K0 =
   some ([decide ((i : Int) < (Nat.cast : Nat → Int) (List.length (Book.svs b))) = true, Contract PR glob 131 [D.int .i64 set, D.int .i64 ((i : Int))] (D.bool true), inI64 ((i : Int) + (1 : Int))], Ex.normal, [(.tmp 1, .d (D.int .i64 set)), (.tmp 2, .d (D.ptr 2 0)), (.tmp 4, .d (D.ptr 4 0)), (.tmp 5, .d (D.ptr 5 0)), (.tmp 6, .d (D.int .i64 ((i : Int) + (1 : Int)))), (.box 2, .bx (some (Box.mk false (cellsOf (bookD b))))), (.box 4, .bx (some (Box.mk false [D.nil, D.nil, D.nil, D.int .i64 (0 : Int), D.int .i64 (0 : Int)]))), (.box 5, .bx (some (Box.mk false [D.sl false E.sec (Book.secs b), D.sl false E.int (Book.turns b), D.sl true E.sv [], D.int .i64 (Book.rule b), D.int .i64 (Book.days b)]))), (.obj 28, .ob Option.none)]) := by kernel_rfl
theorem rwoA_0_yes (b : Book) (set : Int) (i : Nat) :
  runK (mk PR (lookN types) glob 31) [(13, true)] [(18, .bool false)] [] (Code.at [1, 1, 1, 0, 1, 0, 0] (body Proofs.Tryd.f165)) (rwoA_S0 b set i) rwoB_K0 =
   some ([decide ((i : Int) < (Nat.cast : Nat → Int) (List.length (Book.svs b))) = true, Contract PR glob 131 [D.int .i64 set, D.int .i64 ((i : Int))] (D.bool false), (0 : Int) ≤ (i : Int) ∧ (i : Int) < (Nat.cast : Nat → Int) (List.length (Book.svs b)), 0 + 4 ≤ 4, 1 * (32 + 1) ≤ 140737488355328, 1 = 1, inI64 ((i : Int) + (1 : Int))], Ex.normal, [(.tmp 1, .d (D.int .i64 set)), (.tmp 2, .d (D.ptr 2 0)), (.tmp 4, .d (D.ptr 4 0)), (.tmp 5, .d (D.ptr 5 0)), (.tmp 6, .d (D.int .i64 ((i : Int) + (1 : Int)))), (.box 2, .bx (some (Box.mk false (cellsOf (bookD b))))), (.box 4, .bx (some (Box.mk false [D.nil, D.nil, D.nil, D.int .i64 (0 : Int), D.int .i64 (0 : Int)]))), (.box 5, .bx (some (Box.mk false [D.sl false E.sec (Book.secs b), D.sl false E.int (Book.turns b), D.own 28 1, D.int .i64 (Book.rule b), D.int .i64 (Book.days b)]))), (.obj 28, .ob (some (Ob.mk E.sv ([] ++ [Sv.mk (Sv.s (List.getD (Book.svs b) (Int.toNat ((i : Int))) (E.z E.sv))) (Sv.d (List.getD (Book.svs b) (Int.toNat ((i : Int))) (E.z E.sv))) (Sv.r (List.getD (Book.svs b) (Int.toNat ((i : Int))) (E.z E.sv))) (Sv.e (List.getD (Book.svs b) (Int.toNat ((i : Int))) (E.z E.sv)))]))))]) := by kernel_rfl
theorem rwoA_0_end (b : Book) (set : Int) (i : Nat) :
  runK (mk PR (lookN types) glob 31) [(13, false)] [] [] (Code.at [1, 1, 1, 0, 1, 0, 0] (body Proofs.Tryd.f165)) (rwoA_S0 b set i) rwoA_K0 =
   some ([decide ((i : Int) < (Nat.cast : Nat → Int) (List.length (Book.svs b))) = false], Ex.exit 0, [(.tmp 1, .d (D.int .i64 set)), (.tmp 2, .d (D.ptr 2 0)), (.tmp 4, .d (D.ptr 4 0)), (.tmp 5, .d (D.ptr 5 0)), (.tmp 6, .d (D.int .i64 ((i : Int)))), (.box 2, .bx (some (Box.mk false (cellsOf (bookD b))))), (.box 4, .bx (some (Box.mk false [D.nil, D.nil, D.nil, D.int .i64 (0 : Int), D.int .i64 (0 : Int)]))), (.box 5, .bx (some (Box.mk false [D.sl false E.sec (Book.secs b), D.sl false E.int (Book.turns b), D.sl true E.sv [], D.int .i64 (Book.rule b), D.int .i64 (Book.days b)]))), (.obj 28, .ob Option.none)]) := by kernel_rfl
theorem rTurnA_0_on (b : Book) (fr : Int) (i : Nat) :
  runK (mk PR (lookN types) glob 59) [(20, true)] [] [] (Code.at [1, 1, 1, 0, 1, 0, 0] (body Proofs.Tryd.f115)) (rTurnA_S0 b fr i) rTurnA_K0 =
   some ([decide ((i : Int) < (Nat.cast : Nat → Int) (List.length (Book.svs b))) = true, (0 : Int) ≤ (i : Int) ∧ (i : Int) < (Nat.cast : Nat → Int) (List.length (Book.svs b)), 0 + 1 + 1 ≤ 4, inI64 ((i : Int) + (1 : Int))], Ex.normal, [(.tmp 1, .d (D.ptr 1 0)), (.tmp 5, .d (D.int .i64 (List.foldl mx fr [Sv.d (List.getD (Book.svs b) (Int.toNat ((i : Int))) (E.z E.sv))]))), (.tmp 6, .d (D.int .i64 ((i : Int) + (1 : Int)))), (.box 1, .bx (some (Box.mk false (cellsOf (bookD b)))))]) := by kernel_rfl
theorem rTurnA_0_end (b : Book) (fr : Int) (i : Nat) :
  runK (mk PR (lookN types) glob 59) [(20, false)] [] [] (Code.at [1, 1, 1, 0, 1, 0, 0] (body Proofs.Tryd.f115)) (rTurnA_S0 b fr i) rTurnA_K0 =
   some ([decide ((i : Int) < (Nat.cast : Nat → Int) (List.length (Book.svs b))) = false], Ex.exit 0, [(.tmp 1, .d (D.ptr 1 0)), (.tmp 5, .d (D.int .i64 fr)), (.tmp 6, .d (D.int .i64 ((i : Int)))), (.box 1, .bx (some (Box.mk false (cellsOf (bookD b)))))]) := by kernel_rfl
theorem rTurnA_2_has (b : Book) (d best when : Int) (z : Int) :
  runK (mk PR (lookN types) glob 59) [(38, true), (45, true)] [(44, .int .i64 z)] [] (Code.at [1, 1, 1, 1, 1, 0, 1, 0, 0] (body Proofs.Tryd.f115)) (rTurnA_S2 b d best when) rTurnA_K2 =
   some ([decide (d ≤ Book.days b) = true, Contract PR glob 46 [D.sl false E.int (Book.turns b), D.int .i64 d] (D.int .i64 z), decide (z ≥ (0 : Int)) = true, inI64 (d + (1 : Int))], Ex.normal, [(.tmp 1, .d (D.ptr 1 0)), (.tmp 7, .d (D.int .i64 best)), (.tmp 8, .d (D.int .i64 when)), (.tmp 9, .d (D.int .i64 (d + (1 : Int)))), (.box 1, .bx (some (Box.mk false (cellsOf (bookD b)))))]) := by kernel_rfl
theorem rTurnA_2_less (b : Book) (d best when : Int) (z k : Int) (b2 : Book) :
  runK (mk PR (lookN types) glob 59) [(38, true), (45, false), (53, false)] [(44, .int .i64 z), (49, bookD b2), (50, .int .i64 k)] [] (Code.at [1, 1, 1, 1, 1, 0, 1, 0, 0] (body Proofs.Tryd.f115)) (rTurnA_S2 b d best when) rTurnA_K2 =
   some ([decide (d ≤ Book.days b) = true, Contract PR glob 46 [D.sl false E.int (Book.turns b), D.int .i64 d] (D.int .i64 z), decide (z ≥ (0 : Int)) = false, Contract PR glob 164 [bookD b, D.int .i64 d] (bookD b2), Contract PR glob 163 [bookD b, bookD b2] (D.int .i64 k), decide (k > when) = false, inI64 (d + (1 : Int))], Ex.normal, [(.tmp 1, .d (D.ptr 1 0)), (.tmp 7, .d (D.int .i64 best)), (.tmp 8, .d (D.int .i64 when)), (.tmp 9, .d (D.int .i64 (d + (1 : Int)))), (.box 1, .bx (some (Box.mk false (cellsOf (bookD b)))))]) := by kernel_rfl
theorem rTurnA_2_more (b : Book) (d best when : Int) (z k : Int) (b2 : Book) :
  runK (mk PR (lookN types) glob 59) [(38, true), (45, false), (53, true)] [(44, .int .i64 z), (49, bookD b2), (50, .int .i64 k)] [] (Code.at [1, 1, 1, 1, 1, 0, 1, 0, 0] (body Proofs.Tryd.f115)) (rTurnA_S2 b d best when) rTurnA_K2 =
   some ([decide (d ≤ Book.days b) = true, Contract PR glob 46 [D.sl false E.int (Book.turns b), D.int .i64 d] (D.int .i64 z), decide (z ≥ (0 : Int)) = false, Contract PR glob 164 [bookD b, D.int .i64 d] (bookD b2), Contract PR glob 163 [bookD b, bookD b2] (D.int .i64 k), decide (k > when) = true, inI64 (d + (1 : Int))], Ex.normal, [(.tmp 1, .d (D.ptr 1 0)), (.tmp 7, .d (D.int .i64 d)), (.tmp 8, .d (D.int .i64 k)), (.tmp 9, .d (D.int .i64 (d + (1 : Int)))), (.box 1, .bx (some (Box.mk false (cellsOf (bookD b)))))]) := by kernel_rfl
theorem rTurnA_2_end (b : Book) (d best when : Int) :
  runK (mk PR (lookN types) glob 59) [(38, false)] [] [] (Code.at [1, 1, 1, 1, 1, 0, 1, 0, 0] (body Proofs.Tryd.f115)) (rTurnA_S2 b d best when) rTurnA_K2 =
   some ([decide (d ≤ Book.days b) = false], Ex.exit 2, [(.tmp 1, .d (D.ptr 1 0)), (.tmp 7, .d (D.int .i64 best)), (.tmp 8, .d (D.int .i64 when)), (.tmp 9, .d (D.int .i64 d)), (.box 1, .bx (some (Box.mk false (cellsOf (bookD b)))))]) := by kernel_rfl
theorem rWrongA_0_nb (b : Book) (s : Nat) (l : List Int) (m : List Int) :
  runK (mk PR (lookN types) glob 42) [(25, true)] [(30, .sl false .int m), (33, .bool false)] [] (Code.at [1, 1, 1, 1, 0, 1, 0, 0] (body Proofs.Tryd.f116)) (rWrongA_S0 b s l) rWrongA_K0 =
   some ([(0 : Int) ≤ (Nat.cast : Nat → Int) (List.length (Book.svs b)) ∧ inI64 ((1 : Int) * (2 : Int) ^ Min.min (Int.toNat ((Nat.cast : Nat → Int) (List.length (Book.svs b)))) 64), decide ((s : Int) < (1 : Int) * (2 : Int) ^ Min.min (Int.toNat ((Nat.cast : Nat → Int) (List.length (Book.svs b)))) 64) = true, Contract PR glob 58 [D.int .i64 ((s : Int)), D.int .i64 ((Nat.cast : Nat → Int) (List.length (Book.svs b)))] (D.sl false E.int m), Contract PR glob 60 [D.sl false E.int m, D.sl false E.int l] (D.bool false), inI64 ((s : Int) + (1 : Int))], Ex.normal, [(.tmp 1, .d (D.ptr 1 0)), (.tmp 5, .d (D.int .i64 ((Nat.cast : Nat → Int) (List.length (Book.svs b))))), (.tmp 6, .d (D.sl false E.int l)), (.tmp 7, .d (D.int .i64 ((s : Int) + (1 : Int)))), (.box 1, .bx (some (Box.mk false (cellsOf (bookD b)))))]) := by kernel_rfl
theorem rWrongA_0_bn (b : Book) (s : Nat) (l : List Int) (m : List Int) (b2 : Book) :
  runK (mk PR (lookN types) glob 42) [(25, true)] [(30, .sl false .int m), (33, .bool true), (37, bookD b2), (38, .bool false)] [] (Code.at [1, 1, 1, 1, 0, 1, 0, 0] (body Proofs.Tryd.f116)) (rWrongA_S0 b s l) rWrongA_K0 =
   some ([(0 : Int) ≤ (Nat.cast : Nat → Int) (List.length (Book.svs b)) ∧ inI64 ((1 : Int) * (2 : Int) ^ Min.min (Int.toNat ((Nat.cast : Nat → Int) (List.length (Book.svs b)))) 64), decide ((s : Int) < (1 : Int) * (2 : Int) ^ Min.min (Int.toNat ((Nat.cast : Nat → Int) (List.length (Book.svs b)))) 64) = true, Contract PR glob 58 [D.int .i64 ((s : Int)), D.int .i64 ((Nat.cast : Nat → Int) (List.length (Book.svs b)))] (D.sl false E.int m), Contract PR glob 60 [D.sl false E.int m, D.sl false E.int l] (D.bool true), Contract PR glob 165 [bookD b, D.int .i64 ((s : Int))] (bookD b2), Contract PR glob 154 [bookD b2] (D.bool false), inI64 ((s : Int) + (1 : Int))], Ex.normal, [(.tmp 1, .d (D.ptr 1 0)), (.tmp 5, .d (D.int .i64 ((Nat.cast : Nat → Int) (List.length (Book.svs b))))), (.tmp 6, .d (D.sl false E.int l)), (.tmp 7, .d (D.int .i64 ((s : Int) + (1 : Int)))), (.box 1, .bx (some (Box.mk false (cellsOf (bookD b)))))]) := by kernel_rfl
theorem rWrongA_0_bb (b : Book) (s : Nat) (l : List Int) (m : List Int) (b2 : Book) :
  runK (mk PR (lookN types) glob 42) [(25, true)] [(30, .sl false .int m), (33, .bool true), (37, bookD b2), (38, .bool true)] [] (Code.at [1, 1, 1, 1, 0, 1, 0, 0] (body Proofs.Tryd.f116)) (rWrongA_S0 b s l) rWrongA_K0 =
   some ([(0 : Int) ≤ (Nat.cast : Nat → Int) (List.length (Book.svs b)) ∧ inI64 ((1 : Int) * (2 : Int) ^ Min.min (Int.toNat ((Nat.cast : Nat → Int) (List.length (Book.svs b)))) 64), decide ((s : Int) < (1 : Int) * (2 : Int) ^ Min.min (Int.toNat ((Nat.cast : Nat → Int) (List.length (Book.svs b)))) 64) = true, Contract PR glob 58 [D.int .i64 ((s : Int)), D.int .i64 ((Nat.cast : Nat → Int) (List.length (Book.svs b)))] (D.sl false E.int m), Contract PR glob 60 [D.sl false E.int m, D.sl false E.int l] (D.bool true), Contract PR glob 165 [bookD b, D.int .i64 ((s : Int))] (bookD b2), Contract PR glob 154 [bookD b2] (D.bool true), inI64 ((s : Int) + (1 : Int))], Ex.normal, [(.tmp 1, .d (D.ptr 1 0)), (.tmp 5, .d (D.int .i64 ((Nat.cast : Nat → Int) (List.length (Book.svs b))))), (.tmp 6, .d (D.sl false E.int m)), (.tmp 7, .d (D.int .i64 ((s : Int) + (1 : Int)))), (.box 1, .bx (some (Box.mk false (cellsOf (bookD b)))))]) := by kernel_rfl
theorem rWrongA_0_end (b : Book) (s : Nat) (l : List Int) :
  runK (mk PR (lookN types) glob 42) [(25, false)] [] [] (Code.at [1, 1, 1, 1, 0, 1, 0, 0] (body Proofs.Tryd.f116)) (rWrongA_S0 b s l) rWrongA_K0 =
   some ([(0 : Int) ≤ (Nat.cast : Nat → Int) (List.length (Book.svs b)) ∧ inI64 ((1 : Int) * (2 : Int) ^ Min.min (Int.toNat ((Nat.cast : Nat → Int) (List.length (Book.svs b)))) 64), decide ((s : Int) < (1 : Int) * (2 : Int) ^ Min.min (Int.toNat ((Nat.cast : Nat → Int) (List.length (Book.svs b)))) 64) = false], Ex.exit 0, [(.tmp 1, .d (D.ptr 1 0)), (.tmp 5, .d (D.int .i64 ((Nat.cast : Nat → Int) (List.length (Book.svs b))))), (.tmp 6, .d (D.sl false E.int l)), (.tmp 7, .d (D.int .i64 ((s : Int)))), (.box 1, .bx (some (Box.mk false (cellsOf (bookD b)))))]) := by kernel_rfl
theorem rSoon_all (b b2 : Book) (i : Nat) (day : Int) :
  callF (mk PR (lookN types) glob 25) [] [] [(0, (rSoon_K0, (.normal, rSoon_S0 b b2 i day)))] (body Proofs.Tryd.f163) [.tmp 4] [bookD b, bookD b2] =
   some ([inI64 (Book.days b + (1 : Int)), LoopT PR glob 25 (Code.at [1, 1, 0, 1] (body Proofs.Tryd.f163)) [(.tmp 2, .d (D.ptr 2 0)), (.tmp 3, .d (D.ptr 3 0)), (.tmp 5, .d (D.int .i64 (Book.days b + (1 : Int)))), (.tmp 6, .d (D.int .i64 (0 : Int))), (.box 2, .bx (some (Box.mk false (cellsOf (bookD b))))), (.box 3, .bx (some (Box.mk false (cellsOf (bookD b2)))))] Ex.normal (rSoon_S0 b b2 i day)], D.int .i64 day) := by kernel_rfl
theorem rwiA_none (b : Book) (day : Int) (i : Nat) :
  callF (mk PR (lookN types) glob 32) [] [] [(0, (rwiA_K0, (.normal, rwiA_S0 b day i)))] (body Proofs.Tryd.f164) [.cell 4 26] [bookD b, .int .i64 day] =
   some ([LoopT PR glob 32 (Code.at [1, 1, 1, 0, 1] (body Proofs.Tryd.f164)) [(.tmp 1, .d (D.int .i64 day)), (.tmp 2, .d (D.ptr 2 0)), (.tmp 4, .d (D.ptr 4 0)), (.tmp 5, .d (D.ptr 5 0)), (.tmp 6, .d (D.int .i64 (1 : Int))), (.box 2, .bx (some (Box.mk false (cellsOf (bookD b))))), (.box 4, .bx (some (Box.mk false [D.nil, D.nil, D.nil, D.int .i64 (0 : Int), D.int .i64 (0 : Int)]))), (.box 5, .bx (some (Box.mk false [D.sl false E.sec (Book.secs b), D.sl true E.int [], D.sl false E.sv (Book.svs b), D.int .i64 (Book.rule b), D.int .i64 (Book.days b)]))), (.obj 29, .ob Option.none)] Ex.normal (rwiA_S0 b day i)], D.agg [D.sl false E.sec (Book.secs b), D.sl true E.int [], D.sl false E.sv (Book.svs b), D.int .i64 (Book.rule b), D.int .i64 (Book.days b)]) := by kernel_rfl
theorem rwiA_some (b : Book) (day : Int) (i : Nat) (y : Int) (r : List Int) :
  callF (mk PR (lookN types) glob 32) [] [] [(0, (rwiB_K0, (.normal, rwiB_S0 b day i y r)))] (body Proofs.Tryd.f164) [.cell 4 26] [bookD b, .int .i64 day] =
   some ([LoopT PR glob 32 (Code.at [1, 1, 1, 0, 1] (body Proofs.Tryd.f164)) [(.tmp 1, .d (D.int .i64 day)), (.tmp 2, .d (D.ptr 2 0)), (.tmp 4, .d (D.ptr 4 0)), (.tmp 5, .d (D.ptr 5 0)), (.tmp 6, .d (D.int .i64 (1 : Int))), (.box 2, .bx (some (Box.mk false (cellsOf (bookD b))))), (.box 4, .bx (some (Box.mk false [D.nil, D.nil, D.nil, D.int .i64 (0 : Int), D.int .i64 (0 : Int)]))), (.box 5, .bx (some (Box.mk false [D.sl false E.sec (Book.secs b), D.sl true E.int [], D.sl false E.sv (Book.svs b), D.int .i64 (Book.rule b), D.int .i64 (Book.days b)]))), (.obj 29, .ob Option.none)] Ex.normal (rwiB_S0 b day i y r), List.length (y :: r) = List.length ((y :: r)), List.length (y :: r) = List.length ((y :: r))], D.agg [D.sl false E.sec (Book.secs b), D.sl false E.int ((y :: r)), D.sl false E.sv (Book.svs b), D.int .i64 (Book.rule b), D.int .i64 (Book.days b)]) := by kernel_rfl
theorem rwoA_none (b : Book) (set : Int) (i : Nat) :
  callF (mk PR (lookN types) glob 31) [] [] [(0, (rwoA_K0, (.normal, rwoA_S0 b set i)))] (body Proofs.Tryd.f165) [.cell 4 26] [bookD b, .int .i64 set] =
   some ([LoopT PR glob 31 (Code.at [1, 1, 1, 0, 1] (body Proofs.Tryd.f165)) [(.tmp 1, .d (D.int .i64 set)), (.tmp 2, .d (D.ptr 2 0)), (.tmp 4, .d (D.ptr 4 0)), (.tmp 5, .d (D.ptr 5 0)), (.tmp 6, .d (D.int .i64 (0 : Int))), (.box 2, .bx (some (Box.mk false (cellsOf (bookD b))))), (.box 4, .bx (some (Box.mk false [D.nil, D.nil, D.nil, D.int .i64 (0 : Int), D.int .i64 (0 : Int)]))), (.box 5, .bx (some (Box.mk false [D.sl false E.sec (Book.secs b), D.sl false E.int (Book.turns b), D.sl true E.sv [], D.int .i64 (Book.rule b), D.int .i64 (Book.days b)]))), (.obj 28, .ob Option.none)] Ex.normal (rwoA_S0 b set i)], D.agg [D.sl false E.sec (Book.secs b), D.sl false E.int (Book.turns b), D.sl true E.sv [], D.int .i64 (Book.rule b), D.int .i64 (Book.days b)]) := by kernel_rfl
theorem rwoA_some (b : Book) (set : Int) (i : Nat) (y : Sv) (r : List Sv) :
  callF (mk PR (lookN types) glob 31) [] [] [(0, (rwoB_K0, (.normal, rwoB_S0 b set i y r)))] (body Proofs.Tryd.f165) [.cell 4 26] [bookD b, .int .i64 set] =
   some ([LoopT PR glob 31 (Code.at [1, 1, 1, 0, 1] (body Proofs.Tryd.f165)) [(.tmp 1, .d (D.int .i64 set)), (.tmp 2, .d (D.ptr 2 0)), (.tmp 4, .d (D.ptr 4 0)), (.tmp 5, .d (D.ptr 5 0)), (.tmp 6, .d (D.int .i64 (0 : Int))), (.box 2, .bx (some (Box.mk false (cellsOf (bookD b))))), (.box 4, .bx (some (Box.mk false [D.nil, D.nil, D.nil, D.int .i64 (0 : Int), D.int .i64 (0 : Int)]))), (.box 5, .bx (some (Box.mk false [D.sl false E.sec (Book.secs b), D.sl false E.int (Book.turns b), D.sl true E.sv [], D.int .i64 (Book.rule b), D.int .i64 (Book.days b)]))), (.obj 28, .ob Option.none)] Ex.normal (rwoB_S0 b set i y r), List.length (y :: r) = List.length ((y :: r)), List.length (y :: r) = List.length ((y :: r))], D.agg [D.sl false E.sec (Book.secs b), D.sl false E.int (Book.turns b), D.sl false E.sv ((y :: r)), D.int .i64 (Book.rule b), D.int .i64 (Book.days b)]) := by kernel_rfl
theorem rTurnA_err (b : Book) (e : Int) :
  callF (mk PR (lookN types) glob 59) [(14, true)] [(12, .int .i64 e)] [] (body Proofs.Tryd.f115) [.tmp 2, .tmp 3] [bookD b] =
   some ([Contract PR glob 156 [bookD b, D.bool true] (D.int .i64 e), (e != (0 : Int)) = true], D.tup [D.int .i64 (0 : Int), D.int .i64 e]) := by kernel_rfl
theorem rTurnA_none (b : Book) (fr was : Int) (i : Nat) (d best when : Int) :
  callF (mk PR (lookN types) glob 59) [(57, true)] [(12, .int .i64 0), (33, .int .i64 was)] [(0, (rTurnA_K0, (.normal, rTurnA_S0 b fr i))), (2, (rTurnA_K2, (.normal, rTurnA_S2 b d best when)))] (body Proofs.Tryd.f115) [.tmp 2, .tmp 3] [bookD b] =
   some ([Contract PR glob 156 [bookD b, D.bool true] (D.int .i64 (0 : Int)), LoopT PR glob 59 (Code.at [1, 1, 1, 0, 1] (body Proofs.Tryd.f115)) [(.tmp 1, .d (D.ptr 1 0)), (.tmp 5, .d (D.int .i64 (1 : Int))), (.tmp 6, .d (D.int .i64 (0 : Int))), (.box 1, .bx (some (Box.mk false (cellsOf (bookD b)))))] Ex.normal (rTurnA_S0 b fr i), Contract PR glob 163 [bookD b, bookD b] (D.int .i64 was), LoopT PR glob 59 (Code.at [1, 1, 1, 1, 1, 0, 1] (body Proofs.Tryd.f115)) [(.tmp 1, .d (D.ptr 1 0)), (.tmp 7, .d (D.int .i64 (0 : Int))), (.tmp 8, .d (D.int .i64 was)), (.tmp 9, .d (D.int .i64 fr)), (.box 1, .bx (some (Box.mk false (cellsOf (bookD b)))))] Ex.normal (rTurnA_S2 b d best when), (best == (0 : Int)) = true], D.tup [D.int .i64 (0 : Int), D.int .i64 (4 : Int)]) := by kernel_rfl
theorem rTurnA_ok (b : Book) (fr was : Int) (i : Nat) (d best when : Int) :
  callF (mk PR (lookN types) glob 59) [(57, false)] [(12, .int .i64 0), (33, .int .i64 was)] [(0, (rTurnA_K0, (.normal, rTurnA_S0 b fr i))), (2, (rTurnA_K2, (.normal, rTurnA_S2 b d best when)))] (body Proofs.Tryd.f115) [.tmp 2, .tmp 3] [bookD b] =
   some ([Contract PR glob 156 [bookD b, D.bool true] (D.int .i64 (0 : Int)), LoopT PR glob 59 (Code.at [1, 1, 1, 0, 1] (body Proofs.Tryd.f115)) [(.tmp 1, .d (D.ptr 1 0)), (.tmp 5, .d (D.int .i64 (1 : Int))), (.tmp 6, .d (D.int .i64 (0 : Int))), (.box 1, .bx (some (Box.mk false (cellsOf (bookD b)))))] Ex.normal (rTurnA_S0 b fr i), Contract PR glob 163 [bookD b, bookD b] (D.int .i64 was), LoopT PR glob 59 (Code.at [1, 1, 1, 1, 1, 0, 1] (body Proofs.Tryd.f115)) [(.tmp 1, .d (D.ptr 1 0)), (.tmp 7, .d (D.int .i64 (0 : Int))), (.tmp 8, .d (D.int .i64 was)), (.tmp 9, .d (D.int .i64 fr)), (.box 1, .bx (some (Box.mk false (cellsOf (bookD b)))))] Ex.normal (rTurnA_S2 b d best when), (best == (0 : Int)) = false], D.tup [D.int .i64 best, D.int .i64 (0 : Int)]) := by kernel_rfl
theorem rWrongA_bad (b : Book) :
  callF (mk PR (lookN types) glob 42) [] [(10, .int .i64 10)] [] (body Proofs.Tryd.f116) [.tmp 2, .tmp 3] [bookD b] =
   some ([Contract PR glob 105 [bookD b] (D.int .i64 (10 : Int))], D.tup [D.sl true E.int [], D.int .i64 (10 : Int)]) := by kernel_rfl
theorem rWrongA_ok (b : Book) (w : List Int) (s : Nat) (l : List Int) :
  callF (mk PR (lookN types) glob 42) [] [(10, .int .i64 0), (21, .sl false .int w)] [(0, (rWrongA_K0, (.normal, rWrongA_S0 b s l)))] (body Proofs.Tryd.f116) [.tmp 2, .tmp 3] [bookD b] =
   some ([Contract PR glob 105 [bookD b] (D.int .i64 (0 : Int)), (0 : Int) ≤ (Nat.cast : Nat → Int) (List.length (Book.svs b)) ∧ inI64 ((1 : Int) * (2 : Int) ^ Min.min (Int.toNat ((Nat.cast : Nat → Int) (List.length (Book.svs b)))) 64), inI64 ((1 : Int) * (2 : Int) ^ Min.min (Int.toNat ((Nat.cast : Nat → Int) (List.length (Book.svs b)))) 64 - (1 : Int)), Contract PR glob 58 [D.int .i64 ((1 : Int) * (2 : Int) ^ Min.min (Int.toNat ((Nat.cast : Nat → Int) (List.length (Book.svs b)))) 64 - (1 : Int)), D.int .i64 ((Nat.cast : Nat → Int) (List.length (Book.svs b)))] (D.sl false E.int w), LoopT PR glob 42 (Code.at [1, 1, 1, 1, 0, 1] (body Proofs.Tryd.f116)) [(.tmp 1, .d (D.ptr 1 0)), (.tmp 5, .d (D.int .i64 ((Nat.cast : Nat → Int) (List.length (Book.svs b))))), (.tmp 6, .d (D.sl false E.int w)), (.tmp 7, .d (D.int .i64 (0 : Int))), (.box 1, .bx (some (Box.mk false (cellsOf (bookD b)))))] Ex.normal (rWrongA_S0 b s l)], D.tup [D.sl false E.int l, D.int .i64 (0 : Int)]) := by kernel_rfl
theorem cturns__all (b : Book) (k1 e1 e2 : Int) (w : List Int) :
  callF (mk PR (lookN types) glob 47) [(24, false), (28, false)] [(13, .tup [.int .i64 k1, .int .i64 e1]), (18, .tup [.int .i64 k1, .int .i64 e1]), (31, .tup [.sl true .int w, .int .i64 e2]), (36, .tup [.sl false .int w, .int .i64 e2]), (41, .bool true)] [] (body Proofs.Tryd.f32) [.tmp 4] [bookD b, bookD b] =
   some ([Contract PR glob 54 [bookD b] (D.tup [D.int .i64 k1, D.int .i64 e1]), Contract PR glob 115 [bookD b] (D.tup [D.int .i64 k1, D.int .i64 e1]), (k1 != k1) = false, (k1 != k1) = false, (k1 != k1) = false, (k1 != k1) = false, (e1 != e1) = false, Contract PR glob 38 [bookD b] (D.tup [D.sl true E.int w, D.int .i64 e2]), Contract PR glob 116 [bookD b] (D.tup [D.sl false E.int w, D.int .i64 e2]), Contract PR glob 55 [D.sl false E.int w, D.sl false E.int w] (D.bool true)], D.bool (e2 == e2)) := by kernel_rfl
theorem cturns_all (b : Book) :
  callF (mk PR (lookN types) glob 17) [] [(5, bookD b), (8, .bool true), (12, .bool true), (15, .bool true)] [] (body Proofs.Tryd.f5) [.tmp 2] [bookD b] =
   some ([Contract PR glob 27 [bookD b] (bookD b), Contract PR glob 32 [bookD b, bookD b] (D.bool true), Contract PR glob 29 [bookD b, bookD b] (D.bool true), Contract PR glob 30 [] (D.bool true)], D.bool true) := by kernel_rfl
end Go.Di

namespace Go.Di

/-! ### The order of lists is total -/
theorem before_trans : ∀ l m k : List Int, beforeF l m = true → beforeF m k = true → beforeF l k = true
 | [], [], _, h, _ => by cases h
 | [], _ :: _, [], _, h => by cases h
 | [], _ :: _, _ :: _, _, _ => rfl
 | _ :: _, [], _, h, _ => by cases h
 | _ :: _, _ :: _, [], _, h => by cases h
 | a :: l, b :: m, c :: k, h, h' => by
  simp only [beforeF] at h h' ⊢
  by_cases e : a = b
  ·rw [if_pos e] at h
   by_cases e' : b = c
   ·rw [if_pos e'] at h'
    rw [if_pos (e.trans e')]
    exact before_trans l m k h h'
   ·rw [if_neg e'] at h'
    rw [if_neg (by omega)]
    simp only [decide_eq_true_eq] at h' ⊢
    omega
  ·rw [if_neg e] at h
   simp only [decide_eq_true_eq] at h
   by_cases e' : b = c
   ·rw [if_neg (by omega)]
    simp only [decide_eq_true_eq]
    omega
   ·rw [if_neg e'] at h'
    simp only [decide_eq_true_eq] at h'
    rw [if_neg (by omega)]
    simp only [decide_eq_true_eq]
    omega
theorem before_total : ∀ l m : List Int, l ≠ m → beforeF l m = true ∨ beforeF m l = true
 | [], [], h => absurd rfl h
 | [], _ :: _, _ => .inl rfl
 | _ :: _, [], _ => .inr rfl
 | a :: l, b :: m, h => by
  simp only [beforeF]
  by_cases e : a = b
  ·rw [if_pos e, if_pos e.symm]
   exact before_total l m fun e' => h (by rw [e, e'])
  ·rw [if_neg e, if_neg (fun e' => e e'.symm)]
   simp only [decide_eq_true_eq]
   omega
theorem better_iff {l m : List Int} : betterF l m = true ↔ l.length < m.length ∨ (l.length = m.length ∧ beforeF l m = true) := by
 simp only [betterF, Bool.or_eq_true, Bool.and_eq_true, decide_eq_true_eq]
theorem better_trans {l m k : List Int} (h : betterF l m = true) (h' : betterF m k = true) : betterF l k = true := by
 rw [better_iff] at h h' ⊢
 rcases h with h | ⟨h, g⟩ <;> rcases h' with h' | ⟨h', g'⟩
 ·exact .inl (by omega)
 ·exact .inl (by omega)
 ·exact .inl (by omega)
 ·exact .inr ⟨by omega, before_trans _ _ _ g g'⟩
theorem better_self (l : List Int) : betterF l l = false := by
 rw [Bool.eq_false_iff]
 intro h
 rw [better_iff] at h
 rcases h with h | ⟨_, h⟩
 ·omega
 ·rw [before_self] at h
  cases h
theorem better_total {l m : List Int} (h : l ≠ m) : betterF l m = true ∨ betterF m l = true := by
 rw [better_iff, better_iff]
 rcases Nat.lt_trichotomy l.length m.length with c | c | c
 ·exact .inl (.inl c)
 ·rcases before_total l m h with g | g
  ·exact .inl (.inr ⟨c, g⟩)
  ·exact .inr (.inr ⟨c.symm, g⟩)
 ·exact .inr (.inl c)

/-! ### Every choice has a number -/
theorem memQ_bits : ∀ s < 256, ∀ i < 8, memQ (s : Nat) (i : Nat) = Nat.testBit s i := by decide +kernel
def codeF (p : Nat → Bool) : Nat → Nat
 | 0 => 0
 | k + 1 => if p k = true then 2 ^ k + codeF p k else codeF p k
theorem codeF_lt (p : Nat → Bool) : ∀ k, codeF p k < 2 ^ k
 | 0 => by simp [codeF]
 | k + 1 => by
  have := codeF_lt p k
  simp only [codeF]
  rw [Nat.pow_succ]
  split <;> omega
theorem codeF_bit (p : Nat → Bool) : ∀ k i, i < k → (codeF p k).testBit i = p i
 | k + 1, i, h => by
  have hlt := codeF_lt p k
  simp only [codeF]
  by_cases e : i = k
  ·subst e
   cases hp : p i with
   | true => rw [if_pos rfl, Nat.testBit_two_pow_add_eq, Nat.testBit_lt_two_pow hlt]; rfl
   | false => rw [if_neg (by simp), Nat.testBit_lt_two_pow hlt]
  ·have ih := codeF_bit p k i (by omega)
   split
   ·rw [Nat.testBit_two_pow_add_gt (by omega), ih]
   ·exact ih
theorem mem_membTo (set : Int) : ∀ (n : Nat) (x : Int), x ∈ membTo set n ↔ ∃ i : Nat, i < n ∧ x = i ∧ memQ set i = true
 | 0, x => ⟨fun h => by simp [membTo] at h, fun ⟨i, h, _⟩ => by omega⟩
 | n + 1, x => by
  have ih := mem_membTo set n x
  simp only [membTo]
  by_cases h : memQ set n = true
  ·rw [if_pos h, List.mem_append, ih, List.mem_singleton]
   constructor
   ·rintro (⟨i, h1, h2⟩ | h1)
    ·exact ⟨i, by omega, h2⟩
    ·exact ⟨n, by omega, h1, h⟩
   ·rintro ⟨i, h1, h2, h3⟩
    by_cases e : i = n
    ·exact .inr (by rw [h2, e])
    ·exact .inl ⟨i, by omega, h2, h3⟩
  ·rw [if_neg h, ih]
   constructor
   ·rintro ⟨i, h1, h2⟩
    exact ⟨i, by omega, h2⟩
   ·rintro ⟨i, h1, h2, h3⟩
    by_cases e : i = n
    ·subst e
     exact absurd h3 h
    ·exact ⟨i, by omega, h2, h3⟩
theorem memb_code {n : Nat} (hn : n ≤ 8) {l : List Int} (hl : Up n 0 l) : ∃ s : Nat, s < 2 ^ n ∧ membTo (s : Int) n = l := by
 have h256 : (2 : Nat) ^ n ≤ 256 := Nat.pow_le_pow_right (by omega) hn
 have hlt := codeF_lt (fun i => decide ((i : Int) ∈ l)) n
 refine ⟨codeF (fun i => decide ((i : Int) ∈ l)) n, hlt, up_same (membTo_up _ n) hl fun x => ?_⟩
 rw [mem_membTo]
 constructor
 ·rintro ⟨i, h1, rfl, h3⟩
  rw [memQ_bits _ (by omega) i (by omega), codeF_bit _ n i h1, decide_eq_true_eq] at h3
  exact h3
 ·intro hx
  have := hl.mem hx
  obtain ⟨i, rfl⟩ : ∃ i : Nat, x = i := ⟨x.toNat, by omega⟩
  exact ⟨i, by omega, rfl, by rw [memQ_bits _ (by omega) i (by omega), codeF_bit _ n i (by omega)]; exact decide_eq_true hx⟩

/-! ### The best of all choices -/
def rwStep (b : Book) (l : List Int) (s : Nat) : List Int := if betterF (membTo s b.svs.length) l = true ∧ canF (withoutF b (membTo s b.svs.length)) = true then membTo s b.svs.length else l
def rwGo (b : Book) : Nat → List Int
 | 0 => membTo ((2 ^ b.svs.length - 1 : Nat) : Int) b.svs.length
 | s + 1 => rwStep b (rwGo b s) s
theorem can_without {b : Book} (hV : Valid b) (l : List Int) : canF (withoutF b l) = true ↔ truthsF b l ≠ [] := by
 rw [← without_can hV]
 unfold canF
 cases truthsF (withoutF b l) [] <;> simp
theorem rw_len (b : Book) : ∀ s, (rwGo b s).length ≤ b.svs.length
 | 0 => membTo_len _ _
 | s + 1 => by
  simp only [rwGo, rwStep]
  split
  ·exact membTo_len _ _
  ·exact rw_len b s
theorem rw_inv {b : Book} (hV : Valid b) : ∀ s, Up b.svs.length 0 (rwGo b s) ∧ truthsF b (rwGo b s) ≠ [] ∧ ∀ t < s, truthsF b (membTo t b.svs.length) ≠ [] → betterF (membTo t b.svs.length) (rwGo b s) = false
 | 0 => by
  refine ⟨membTo_up _ _, ?_, fun t h => absurd h (by omega)⟩
  have h00 := feas0_by hV (f := fun x => x.w.lo) (g := fun x => x.t.lo) rfl (fun x hx => ⟨Int.le_refl _, (hV.sec x hx).w.2.1⟩) (fun x hx => ⟨Int.le_refl _, (hV.sec x hx).t.2.1⟩)
  have h8 := hV.svs
  have h256 : (2 : Nat) ^ b.svs.length ≤ 256 := Nat.pow_le_pow_right (n := 2) (by omega) h8
  have hpos : 0 < (2 : Nat) ^ b.svs.length := Nat.two_pow_pos _
  refine (can_iff hV.base _).2 ⟨_, _, h00.wear, h00.zero, h00.thick, fun i hi hn => absurd ?_ hn⟩
  show (i : Int) ∈ membTo ((2 ^ b.svs.length - 1 : Nat) : Int) b.svs.length
  rw [mem_membTo]
  exact ⟨i, hi, rfl, by rw [memQ_bits _ (by omega) i (by omega), Nat.testBit_two_pow_sub_one]; exact decide_eq_true hi⟩
 | s + 1 => by
  obtain ⟨h1, h2, h3⟩ := rw_inv hV s
  simp only [rwGo]
  unfold rwStep
  by_cases hc : betterF (membTo s b.svs.length) (rwGo b s) = true ∧ canF (withoutF b (membTo s b.svs.length)) = true
  ·rw [if_pos hc]
   refine ⟨membTo_up _ _, (can_without hV _).1 hc.2, fun t ht hf => ?_⟩
   by_cases e : t = s
   ·subst e
    exact better_self _
   ·rw [Bool.eq_false_iff]
    intro hb
    have := h3 t (by omega) hf
    rw [better_trans hb hc.1] at this
    cases this
  ·rw [if_neg hc]
   refine ⟨h1, h2, fun t ht hf => ?_⟩
   by_cases e : t = s
   ·subst e
    rw [Bool.eq_false_iff]
    exact fun hb => hc ⟨hb, (can_without hV _).2 hf⟩
   ·exact h3 t (by omega) hf
theorem rw_wrong {b : Book} (hV : Valid b) : rwGo b (2 ^ b.svs.length) = (wrongGo b).1 := by
 obtain ⟨h1, h2, h3⟩ := rw_inv hV (2 ^ b.svs.length)
 obtain ⟨w1, w2, _, w4⟩ := wrong_spec hV
 refine Classical.byContradiction fun hne => ?_
 obtain ⟨s, hs, he⟩ := memb_code hV.svs w1
 rcases better_total hne with h | h
 ·exact h2 (w4 _ h1 h)
 ·have := h3 s hs (by rw [he]; exact w2)
  rw [he, h] at this
  cases this
end Go.Di

