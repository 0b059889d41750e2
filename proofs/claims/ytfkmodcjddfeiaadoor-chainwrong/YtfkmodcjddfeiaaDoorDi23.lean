/- Part 23: an interpreter over plain data for this code, with the proof that it says what the model does, and the contracts of the functions. No condition. -/
import Derived.Test.YtfkmodcjddfeiaaDoorDi22
set_option linter.unusedVariables false
set_option linter.unusedSimpArgs false
namespace Go.Di
theorem woB_fn : FnOk Proofs.Tryd.prog (mk Proofs.Tryd.prog (lookN types) glob 31) 59 (body Proofs.Tryd.f59) [.cell 4 26] := ⟨Proofs.Tryd.f59, by kernel_rfl, by kernel_rfl, by kernel_rfl, by kernel_rfl, by kernel_rfl⟩
theorem woA_fn : FnOk Proofs.Tryd.prog (mk Proofs.Tryd.prog (lookN types) glob 31) 59 (body Proofs.Tryd.f59) [.cell 4 26] := ⟨Proofs.Tryd.f59, by kernel_rfl, by kernel_rfl, by kernel_rfl, by kernel_rfl, by kernel_rfl⟩
theorem mem1_fn : FnOk Proofs.Tryd.prog (mk Proofs.Tryd.prog (lookN types) glob 10) 131 (body Proofs.Tryd.f131) [.tmp 4] := ⟨Proofs.Tryd.f131, by kernel_rfl, by kernel_rfl, by kernel_rfl, by kernel_rfl, by kernel_rfl⟩
theorem memB_fn : FnOk Proofs.Tryd.prog (mk Proofs.Tryd.prog (lookN types) glob 21) 58 (body Proofs.Tryd.f58) [.tmp 4] := ⟨Proofs.Tryd.f58, by kernel_rfl, by kernel_rfl, by kernel_rfl, by kernel_rfl, by kernel_rfl⟩
theorem memA_fn : FnOk Proofs.Tryd.prog (mk Proofs.Tryd.prog (lookN types) glob 21) 58 (body Proofs.Tryd.f58) [.tmp 4] := ⟨Proofs.Tryd.f58, by kernel_rfl, by kernel_rfl, by kernel_rfl, by kernel_rfl, by kernel_rfl⟩
theorem bef_fn : FnOk Proofs.Tryd.prog (mk Proofs.Tryd.prog (lookN types) glob 38) 132 (body Proofs.Tryd.f132) [.tmp 4] := ⟨Proofs.Tryd.f132, by kernel_rfl, by kernel_rfl, by kernel_rfl, by kernel_rfl, by kernel_rfl⟩
theorem bet_fn : FnOk Proofs.Tryd.prog (mk Proofs.Tryd.prog (lookN types) glob 22) 60 (body Proofs.Tryd.f60) [.tmp 4] := ⟨Proofs.Tryd.f60, by kernel_rfl, by kernel_rfl, by kernel_rfl, by kernel_rfl, by kernel_rfl⟩
theorem cwrong_fn : FnOk Proofs.Tryd.prog (mk Proofs.Tryd.prog (lookN types) glob 104) 12 (body Proofs.Tryd.f12) [.tmp 4] := ⟨Proofs.Tryd.f12, by kernel_rfl, by kernel_rfl, by kernel_rfl, by kernel_rfl, by kernel_rfl⟩
def woB_S0 (b : Book) (l : List Int) (i : Nat) (y : Sv) (r : List Sv) : List (Key × Val) :=
  [(.tmp 1, .d (D.sl false E.int l)),
   (.tmp 2, .d (D.ptr 2 0)),
   (.tmp 4, .d (D.ptr 4 0)),
   (.tmp 5, .d (D.ptr 5 0)),
   (.tmp 6, .d (.int .i64 i)),
   (.box 2, .bx (some (Box.mk false (cellsOf (bookD b))))),
   (.box 4, .bx (some (Box.mk false [D.nil, D.nil, D.nil, D.int .i64 (0 : Int), D.int .i64 (0 : Int)]))),
   (.box 5, .bx (some ⟨false, [.sl false .sec b.secs, .sl false .int b.turns, .own 28 (y :: r).length, .int .i64 b.rule, .int .i64 b.days]⟩)),
   (.obj 28, .ob (some ⟨.sv, y :: r⟩))]
def woB_K0 : List Key := [.tmp 1, .tmp 2, .tmp 4, .tmp 5, .tmp 6, .box 2, .box 4, .box 5, .obj 28]
def woA_S0 (b : Book) (l : List Int) (i : Nat) : List (Key × Val) :=
  [(.tmp 1, .d (D.sl false E.int l)),
   (.tmp 2, .d (D.ptr 2 0)),
   (.tmp 4, .d (D.ptr 4 0)),
   (.tmp 5, .d (D.ptr 5 0)),
   (.tmp 6, .d (.int .i64 i)),
   (.box 2, .bx (some (Box.mk false (cellsOf (bookD b))))),
   (.box 4, .bx (some (Box.mk false [D.nil, D.nil, D.nil, D.int .i64 (0 : Int), D.int .i64 (0 : Int)]))),
   (.box 5, .bx (some (Box.mk false [D.sl false E.sec (Book.secs b), D.sl false E.int (Book.turns b), D.sl true E.sv [], D.int .i64 (Book.rule b), D.int .i64 (Book.days b)]))),
   (.obj 28, .ob none)]
def woA_K0 : List Key := [.tmp 1, .tmp 2, .tmp 4, .tmp 5, .tmp 6, .box 2, .box 4, .box 5, .obj 28]
def memB_S0 (set n : Int) (i : Nat) (y : Int) (r : List Int) : List (Key × Val) :=
  [(.tmp 0, .d (D.int .i64 set)),
   (.tmp 1, .d (D.int .i64 n)),
   (.tmp 5, .d (.own 19 (y :: r).length)),
   (.tmp 6, .d (.int .i64 i)),
   (.obj 19, .ob (some ⟨.int, y :: r⟩))]
def memB_K0 : List Key := [.tmp 0, .tmp 1, .tmp 5, .tmp 6, .obj 19]
def memA_S0 (set n : Int) (i : Nat) : List (Key × Val) :=
  [(.tmp 0, .d (D.int .i64 set)),
   (.tmp 1, .d (D.int .i64 n)),
   (.tmp 5, .d (D.sl true E.int [])),
   (.tmp 6, .d (.int .i64 i)),
   (.obj 19, .ob none)]
def memA_K0 : List Key := [.tmp 0, .tmp 1, .tmp 5, .tmp 6, .obj 19]
def bef_S0 (xs ys : List Int) (i : Nat) : List (Key × Val) :=
  [(.tmp 0, .d (D.sl false E.int xs)),
   (.tmp 1, .d (D.sl false E.int ys)),
   (.tmp 5, .d (.int .i64 i))]
def bef_K0 : List Key := [.tmp 0, .tmp 1, .tmp 5]
theorem woB_0_no (b : Book) (l : List Int) (i : Nat) (y : Sv) (r : List Sv) (z : Int) :
    runK (mk Proofs.Tryd.prog (lookN types) glob 31) [(13, true), (19, false)] [(18, .int .i64 z)] [] (Code.at [1, 1, 1, 0, 1, 0, 0] (body Proofs.Tryd.f59)) (woB_S0 b l i y r) woB_K0 =
      some ([decide ((Nat.cast : Nat → Int) i < (Nat.cast : Nat → Int) (List.length (Book.svs b))) = true, Contract Proofs.Tryd.prog glob 46 [D.sl false E.int l, D.int .i64 ((Nat.cast : Nat → Int) i)] (D.int .i64 z), decide (z < (0 : Int)) = false, inI64 ((Nat.cast : Nat → Int) i + (1 : Int))], Ex.normal, [(.tmp 1, .d (D.sl false E.int l)), (.tmp 2, .d (D.ptr 2 0)), (.tmp 4, .d (D.ptr 4 0)), (.tmp 5, .d (D.ptr 5 0)), (.tmp 6, .d (D.int .i64 ((Nat.cast : Nat → Int) i + (1 : Int)))), (.box 2, .bx (some (Box.mk false (cellsOf (bookD b))))), (.box 4, .bx (some (Box.mk false [D.nil, D.nil, D.nil, D.int .i64 (0 : Int), D.int .i64 (0 : Int)]))), (.box 5, .bx (some (Box.mk false [D.sl false E.sec (Book.secs b), D.sl false E.int (Book.turns b), D.own 28 (List.length (y :: r)), D.int .i64 (Book.rule b), D.int .i64 (Book.days b)]))), (.obj 28, .ob (some (Ob.mk E.sv (y :: r))))]) := by kernel_rfl
theorem woB_0_yes (b : Book) (l : List Int) (i : Nat) (y : Sv) (r : List Sv) (z : Int) :
    runK (mk Proofs.Tryd.prog (lookN types) glob 31) [(13, true), (19, true)] [(18, .int .i64 z)] [] (Code.at [1, 1, 1, 0, 1, 0, 0] (body Proofs.Tryd.f59)) (woB_S0 b l i y r) woB_K0 =
      some ([decide ((Nat.cast : Nat → Int) i < (Nat.cast : Nat → Int) (List.length (Book.svs b))) = true, Contract Proofs.Tryd.prog glob 46 [D.sl false E.int l, D.int .i64 ((Nat.cast : Nat → Int) i)] (D.int .i64 z), decide (z < (0 : Int)) = true, (0 : Int) ≤ (Nat.cast : Nat → Int) i ∧ (Nat.cast : Nat → Int) i < (Nat.cast : Nat → Int) (List.length (Book.svs b)), 0 + 4 ≤ 4, List.length (y :: r) = List.length ((y :: r)), List.length ((y :: r) ++ [Sv.mk (Sv.s (List.getD (Book.svs b) (Int.toNat ((Nat.cast : Nat → Int) i)) (E.z E.sv))) (Sv.d (List.getD (Book.svs b) (Int.toNat ((Nat.cast : Nat → Int) i)) (E.z E.sv))) (Sv.r (List.getD (Book.svs b) (Int.toNat ((Nat.cast : Nat → Int) i)) (E.z E.sv))) (Sv.e (List.getD (Book.svs b) (Int.toNat ((Nat.cast : Nat → Int) i)) (E.z E.sv)))]) * (32 + 1) ≤ 140737488355328, List.length ((y :: r) ++ [Sv.mk (Sv.s (List.getD (Book.svs b) (Int.toNat ((Nat.cast : Nat → Int) i)) (E.z E.sv))) (Sv.d (List.getD (Book.svs b) (Int.toNat ((Nat.cast : Nat → Int) i)) (E.z E.sv))) (Sv.r (List.getD (Book.svs b) (Int.toNat ((Nat.cast : Nat → Int) i)) (E.z E.sv))) (Sv.e (List.getD (Book.svs b) (Int.toNat ((Nat.cast : Nat → Int) i)) (E.z E.sv)))]) = List.length (((y :: r) ++ [Sv.mk (Sv.s (List.getD (Book.svs b) (Int.toNat ((Nat.cast : Nat → Int) i)) (E.z E.sv))) (Sv.d (List.getD (Book.svs b) (Int.toNat ((Nat.cast : Nat → Int) i)) (E.z E.sv))) (Sv.r (List.getD (Book.svs b) (Int.toNat ((Nat.cast : Nat → Int) i)) (E.z E.sv))) (Sv.e (List.getD (Book.svs b) (Int.toNat ((Nat.cast : Nat → Int) i)) (E.z E.sv)))])), inI64 ((Nat.cast : Nat → Int) i + (1 : Int))], Ex.normal, [(.tmp 1, .d (D.sl false E.int l)), (.tmp 2, .d (D.ptr 2 0)), (.tmp 4, .d (D.ptr 4 0)), (.tmp 5, .d (D.ptr 5 0)), (.tmp 6, .d (D.int .i64 ((Nat.cast : Nat → Int) i + (1 : Int)))), (.box 2, .bx (some (Box.mk false (cellsOf (bookD b))))), (.box 4, .bx (some (Box.mk false [D.nil, D.nil, D.nil, D.int .i64 (0 : Int), D.int .i64 (0 : Int)]))), (.box 5, .bx (some (Box.mk false [D.sl false E.sec (Book.secs b), D.sl false E.int (Book.turns b), D.own 28 (List.length ((y :: r) ++ [Sv.mk (Sv.s (List.getD (Book.svs b) (Int.toNat ((Nat.cast : Nat → Int) i)) (E.z E.sv))) (Sv.d (List.getD (Book.svs b) (Int.toNat ((Nat.cast : Nat → Int) i)) (E.z E.sv))) (Sv.r (List.getD (Book.svs b) (Int.toNat ((Nat.cast : Nat → Int) i)) (E.z E.sv))) (Sv.e (List.getD (Book.svs b) (Int.toNat ((Nat.cast : Nat → Int) i)) (E.z E.sv)))])), D.int .i64 (Book.rule b), D.int .i64 (Book.days b)]))), (.obj 28, .ob (some (Ob.mk E.sv ((y :: r) ++ [Sv.mk (Sv.s (List.getD (Book.svs b) (Int.toNat ((Nat.cast : Nat → Int) i)) (E.z E.sv))) (Sv.d (List.getD (Book.svs b) (Int.toNat ((Nat.cast : Nat → Int) i)) (E.z E.sv))) (Sv.r (List.getD (Book.svs b) (Int.toNat ((Nat.cast : Nat → Int) i)) (E.z E.sv))) (Sv.e (List.getD (Book.svs b) (Int.toNat ((Nat.cast : Nat → Int) i)) (E.z E.sv)))]))))]) := by kernel_rfl
theorem woB_0_end (b : Book) (l : List Int) (i : Nat) (y : Sv) (r : List Sv) :
    runK (mk Proofs.Tryd.prog (lookN types) glob 31) [(13, false)] [] [] (Code.at [1, 1, 1, 0, 1, 0, 0] (body Proofs.Tryd.f59)) (woB_S0 b l i y r) woB_K0 =
      some ([decide ((Nat.cast : Nat → Int) i < (Nat.cast : Nat → Int) (List.length (Book.svs b))) = false], Ex.exit 0, [(.tmp 1, .d (D.sl false E.int l)), (.tmp 2, .d (D.ptr 2 0)), (.tmp 4, .d (D.ptr 4 0)), (.tmp 5, .d (D.ptr 5 0)), (.tmp 6, .d (D.int .i64 ((Nat.cast : Nat → Int) i))), (.box 2, .bx (some (Box.mk false (cellsOf (bookD b))))), (.box 4, .bx (some (Box.mk false [D.nil, D.nil, D.nil, D.int .i64 (0 : Int), D.int .i64 (0 : Int)]))), (.box 5, .bx (some (Box.mk false [D.sl false E.sec (Book.secs b), D.sl false E.int (Book.turns b), D.own 28 (List.length (y :: r)), D.int .i64 (Book.rule b), D.int .i64 (Book.days b)]))), (.obj 28, .ob (some (Ob.mk E.sv (y :: r))))]) := by kernel_rfl
theorem woA_0_no (b : Book) (l : List Int) (i : Nat) (z : Int) :
    runK (mk Proofs.Tryd.prog (lookN types) glob 31) [(13, true), (19, false)] [(18, .int .i64 z)] [] (Code.at [1, 1, 1, 0, 1, 0, 0] (body Proofs.Tryd.f59)) (woA_S0 b l i) woA_K0 =
      some ([decide ((Nat.cast : Nat → Int) i < (Nat.cast : Nat → Int) (List.length (Book.svs b))) = true, Contract Proofs.Tryd.prog glob 46 [D.sl false E.int l, D.int .i64 ((Nat.cast : Nat → Int) i)] (D.int .i64 z), decide (z < (0 : Int)) = false, inI64 ((Nat.cast : Nat → Int) i + (1 : Int))], Ex.normal, [(.tmp 1, .d (D.sl false E.int l)), (.tmp 2, .d (D.ptr 2 0)), (.tmp 4, .d (D.ptr 4 0)), (.tmp 5, .d (D.ptr 5 0)), (.tmp 6, .d (D.int .i64 ((Nat.cast : Nat → Int) i + (1 : Int)))), (.box 2, .bx (some (Box.mk false (cellsOf (bookD b))))), (.box 4, .bx (some (Box.mk false [D.nil, D.nil, D.nil, D.int .i64 (0 : Int), D.int .i64 (0 : Int)]))), (.box 5, .bx (some (Box.mk false [D.sl false E.sec (Book.secs b), D.sl false E.int (Book.turns b), D.sl true E.sv [], D.int .i64 (Book.rule b), D.int .i64 (Book.days b)]))), (.obj 28, .ob Option.none)]) := by kernel_rfl
theorem woA_0_yes (b : Book) (l : List Int) (i : Nat) (z : Int) :
    runK (mk Proofs.Tryd.prog (lookN types) glob 31) [(13, true), (19, true)] [(18, .int .i64 z)] [] (Code.at [1, 1, 1, 0, 1, 0, 0] (body Proofs.Tryd.f59)) (woA_S0 b l i) woB_K0 =
      some ([decide ((Nat.cast : Nat → Int) i < (Nat.cast : Nat → Int) (List.length (Book.svs b))) = true, Contract Proofs.Tryd.prog glob 46 [D.sl false E.int l, D.int .i64 ((Nat.cast : Nat → Int) i)] (D.int .i64 z), decide (z < (0 : Int)) = true, (0 : Int) ≤ (Nat.cast : Nat → Int) i ∧ (Nat.cast : Nat → Int) i < (Nat.cast : Nat → Int) (List.length (Book.svs b)), 0 + 4 ≤ 4, 1 * (32 + 1) ≤ 140737488355328, 1 = 1, inI64 ((Nat.cast : Nat → Int) i + (1 : Int))], Ex.normal, [(.tmp 1, .d (D.sl false E.int l)), (.tmp 2, .d (D.ptr 2 0)), (.tmp 4, .d (D.ptr 4 0)), (.tmp 5, .d (D.ptr 5 0)), (.tmp 6, .d (D.int .i64 ((Nat.cast : Nat → Int) i + (1 : Int)))), (.box 2, .bx (some (Box.mk false (cellsOf (bookD b))))), (.box 4, .bx (some (Box.mk false [D.nil, D.nil, D.nil, D.int .i64 (0 : Int), D.int .i64 (0 : Int)]))), (.box 5, .bx (some (Box.mk false [D.sl false E.sec (Book.secs b), D.sl false E.int (Book.turns b), D.own 28 1, D.int .i64 (Book.rule b), D.int .i64 (Book.days b)]))), (.obj 28, .ob (some (Ob.mk E.sv ([] ++ [Sv.mk (Sv.s (List.getD (Book.svs b) (Int.toNat ((Nat.cast : Nat → Int) i)) (E.z E.sv))) (Sv.d (List.getD (Book.svs b) (Int.toNat ((Nat.cast : Nat → Int) i)) (E.z E.sv))) (Sv.r (List.getD (Book.svs b) (Int.toNat ((Nat.cast : Nat → Int) i)) (E.z E.sv))) (Sv.e (List.getD (Book.svs b) (Int.toNat ((Nat.cast : Nat → Int) i)) (E.z E.sv)))]))))]) := by kernel_rfl
theorem woA_0_end (b : Book) (l : List Int) (i : Nat) :
    runK (mk Proofs.Tryd.prog (lookN types) glob 31) [(13, false)] [] [] (Code.at [1, 1, 1, 0, 1, 0, 0] (body Proofs.Tryd.f59)) (woA_S0 b l i) woA_K0 =
      some ([decide ((Nat.cast : Nat → Int) i < (Nat.cast : Nat → Int) (List.length (Book.svs b))) = false], Ex.exit 0, [(.tmp 1, .d (D.sl false E.int l)), (.tmp 2, .d (D.ptr 2 0)), (.tmp 4, .d (D.ptr 4 0)), (.tmp 5, .d (D.ptr 5 0)), (.tmp 6, .d (D.int .i64 ((Nat.cast : Nat → Int) i))), (.box 2, .bx (some (Box.mk false (cellsOf (bookD b))))), (.box 4, .bx (some (Box.mk false [D.nil, D.nil, D.nil, D.int .i64 (0 : Int), D.int .i64 (0 : Int)]))), (.box 5, .bx (some (Box.mk false [D.sl false E.sec (Book.secs b), D.sl false E.int (Book.turns b), D.sl true E.sv [], D.int .i64 (Book.rule b), D.int .i64 (Book.days b)]))), (.obj 28, .ob Option.none)]) := by kernel_rfl
theorem memB_0_no (set n : Int) (i : Nat) (y : Int) (r : List Int) (q : Bool) :
    runK (mk Proofs.Tryd.prog (lookN types) glob 21) [(10, true), (15, false)] [(15, .bool q)] [] (Code.at [1, 1, 0, 1, 0, 0] (body Proofs.Tryd.f58)) (memB_S0 set n i y r) memB_K0 =
      some ([decide ((Nat.cast : Nat → Int) i < n) = true, Contract Proofs.Tryd.prog glob 131 [D.int .i64 set, D.int .i64 ((Nat.cast : Nat → Int) i)] (D.bool q), q = false, inI64 ((Nat.cast : Nat → Int) i + (1 : Int))], Ex.normal, [(.tmp 0, .d (D.int .i64 set)), (.tmp 1, .d (D.int .i64 n)), (.tmp 5, .d (D.own 19 (List.length (y :: r)))), (.tmp 6, .d (D.int .i64 ((Nat.cast : Nat → Int) i + (1 : Int)))), (.obj 19, .ob (some (Ob.mk E.int (y :: r))))]) := by kernel_rfl
theorem memB_0_yes (set n : Int) (i : Nat) (y : Int) (r : List Int) (q : Bool) :
    runK (mk Proofs.Tryd.prog (lookN types) glob 21) [(10, true), (15, true)] [(15, .bool q)] [] (Code.at [1, 1, 0, 1, 0, 0] (body Proofs.Tryd.f58)) (memB_S0 set n i y r) memB_K0 =
      some ([decide ((Nat.cast : Nat → Int) i < n) = true, Contract Proofs.Tryd.prog glob 131 [D.int .i64 set, D.int .i64 ((Nat.cast : Nat → Int) i)] (D.bool q), q = true, List.length (y :: r) = List.length ((y :: r)), List.length ((y :: r) ++ [(Nat.cast : Nat → Int) i]) * (8 + 1) ≤ 140737488355328, inI64 ((Nat.cast : Nat → Int) i + (1 : Int))], Ex.normal, [(.tmp 0, .d (D.int .i64 set)), (.tmp 1, .d (D.int .i64 n)), (.tmp 5, .d (D.own 19 (List.length ((y :: r) ++ [(Nat.cast : Nat → Int) i])))), (.tmp 6, .d (D.int .i64 ((Nat.cast : Nat → Int) i + (1 : Int)))), (.obj 19, .ob (some (Ob.mk E.int ((y :: r) ++ [(Nat.cast : Nat → Int) i]))))]) := by kernel_rfl
theorem memB_0_end (set n : Int) (i : Nat) (y : Int) (r : List Int) :
    runK (mk Proofs.Tryd.prog (lookN types) glob 21) [(10, false)] [] [] (Code.at [1, 1, 0, 1, 0, 0] (body Proofs.Tryd.f58)) (memB_S0 set n i y r) memB_K0 =
      some ([decide ((Nat.cast : Nat → Int) i < n) = false], Ex.exit 0, [(.tmp 0, .d (D.int .i64 set)), (.tmp 1, .d (D.int .i64 n)), (.tmp 5, .d (D.own 19 (List.length (y :: r)))), (.tmp 6, .d (D.int .i64 ((Nat.cast : Nat → Int) i))), (.obj 19, .ob (some (Ob.mk E.int (y :: r))))]) := by kernel_rfl
theorem memA_0_no (set n : Int) (i : Nat) (q : Bool) :
    runK (mk Proofs.Tryd.prog (lookN types) glob 21) [(10, true), (15, false)] [(15, .bool q)] [] (Code.at [1, 1, 0, 1, 0, 0] (body Proofs.Tryd.f58)) (memA_S0 set n i) memA_K0 =
      some ([decide ((Nat.cast : Nat → Int) i < n) = true, Contract Proofs.Tryd.prog glob 131 [D.int .i64 set, D.int .i64 ((Nat.cast : Nat → Int) i)] (D.bool q), q = false, inI64 ((Nat.cast : Nat → Int) i + (1 : Int))], Ex.normal, [(.tmp 0, .d (D.int .i64 set)), (.tmp 1, .d (D.int .i64 n)), (.tmp 5, .d (D.sl true E.int [])), (.tmp 6, .d (D.int .i64 ((Nat.cast : Nat → Int) i + (1 : Int)))), (.obj 19, .ob Option.none)]) := by kernel_rfl
theorem memA_0_yes (set n : Int) (i : Nat) (q : Bool) :
    runK (mk Proofs.Tryd.prog (lookN types) glob 21) [(10, true), (15, true)] [(15, .bool q)] [] (Code.at [1, 1, 0, 1, 0, 0] (body Proofs.Tryd.f58)) (memA_S0 set n i) memB_K0 =
      some ([decide ((Nat.cast : Nat → Int) i < n) = true, Contract Proofs.Tryd.prog glob 131 [D.int .i64 set, D.int .i64 ((Nat.cast : Nat → Int) i)] (D.bool q), q = true, 1 * (8 + 1) ≤ 140737488355328, inI64 ((Nat.cast : Nat → Int) i + (1 : Int))], Ex.normal, [(.tmp 0, .d (D.int .i64 set)), (.tmp 1, .d (D.int .i64 n)), (.tmp 5, .d (D.own 19 1)), (.tmp 6, .d (D.int .i64 ((Nat.cast : Nat → Int) i + (1 : Int)))), (.obj 19, .ob (some (Ob.mk E.int ([] ++ [(Nat.cast : Nat → Int) i]))))]) := by kernel_rfl
theorem memA_0_end (set n : Int) (i : Nat) :
    runK (mk Proofs.Tryd.prog (lookN types) glob 21) [(10, false)] [] [] (Code.at [1, 1, 0, 1, 0, 0] (body Proofs.Tryd.f58)) (memA_S0 set n i) memA_K0 =
      some ([decide ((Nat.cast : Nat → Int) i < n) = false], Ex.exit 0, [(.tmp 0, .d (D.int .i64 set)), (.tmp 1, .d (D.int .i64 n)), (.tmp 5, .d (D.sl true E.int [])), (.tmp 6, .d (D.int .i64 ((Nat.cast : Nat → Int) i))), (.obj 19, .ob Option.none)]) := by kernel_rfl
theorem bef_0_on (xs ys : List Int) (i : Nat) :
    runK (mk Proofs.Tryd.prog (lookN types) glob 38) [(12, true), (23, false)] [] [] (Code.at [1, 0, 1, 0, 0] (body Proofs.Tryd.f132)) (bef_S0 xs ys i) bef_K0 =
      some ([decide ((Nat.cast : Nat → Int) i < List.foldl mn ((Nat.cast : Nat → Int) (List.length xs)) [(Nat.cast : Nat → Int) (List.length ys)]) = true, (0 : Int) ≤ (Nat.cast : Nat → Int) i ∧ (Nat.cast : Nat → Int) i < (Nat.cast : Nat → Int) (List.length xs), 0 + 1 ≤ 1, (0 : Int) ≤ (Nat.cast : Nat → Int) i ∧ (Nat.cast : Nat → Int) i < (Nat.cast : Nat → Int) (List.length ys), 0 + 1 ≤ 1, (List.getD xs (Int.toNat ((Nat.cast : Nat → Int) i)) (E.z E.int) != List.getD ys (Int.toNat ((Nat.cast : Nat → Int) i)) (E.z E.int)) = false, inI64 ((Nat.cast : Nat → Int) i + (1 : Int))], Ex.normal, [(.tmp 0, .d (D.sl false E.int xs)), (.tmp 1, .d (D.sl false E.int ys)), (.tmp 5, .d (D.int .i64 ((Nat.cast : Nat → Int) i + (1 : Int))))]) := by kernel_rfl
theorem bef_0_hit (xs ys : List Int) (i : Nat) :
    runK (mk Proofs.Tryd.prog (lookN types) glob 38) [(12, true), (23, true)] [] [] (Code.at [1, 0, 1, 0, 0] (body Proofs.Tryd.f132)) (bef_S0 xs ys i) [.tmp 0, .tmp 1, .tmp 5, .tmp 4] =
      some ([decide ((Nat.cast : Nat → Int) i < List.foldl mn ((Nat.cast : Nat → Int) (List.length xs)) [(Nat.cast : Nat → Int) (List.length ys)]) = true, (0 : Int) ≤ (Nat.cast : Nat → Int) i ∧ (Nat.cast : Nat → Int) i < (Nat.cast : Nat → Int) (List.length xs), 0 + 1 ≤ 1, (0 : Int) ≤ (Nat.cast : Nat → Int) i ∧ (Nat.cast : Nat → Int) i < (Nat.cast : Nat → Int) (List.length ys), 0 + 1 ≤ 1, (List.getD xs (Int.toNat ((Nat.cast : Nat → Int) i)) (E.z E.int) != List.getD ys (Int.toNat ((Nat.cast : Nat → Int) i)) (E.z E.int)) = true, (0 : Int) ≤ (Nat.cast : Nat → Int) i ∧ (Nat.cast : Nat → Int) i < (Nat.cast : Nat → Int) (List.length xs), 0 + 1 ≤ 1, (0 : Int) ≤ (Nat.cast : Nat → Int) i ∧ (Nat.cast : Nat → Int) i < (Nat.cast : Nat → Int) (List.length ys), 0 + 1 ≤ 1], Ex.ret, [(.tmp 0, .d (D.sl false E.int xs)), (.tmp 1, .d (D.sl false E.int ys)), (.tmp 5, .d (D.int .i64 ((Nat.cast : Nat → Int) i))), (.tmp 4, .d (D.bool (decide (List.getD xs (Int.toNat ((Nat.cast : Nat → Int) i)) (E.z E.int) < List.getD ys (Int.toNat ((Nat.cast : Nat → Int) i)) (E.z E.int)))))]) := by kernel_rfl
theorem bef_0_end (xs ys : List Int) (i : Nat) :
    runK (mk Proofs.Tryd.prog (lookN types) glob 38) [(12, false)] [] [] (Code.at [1, 0, 1, 0, 0] (body Proofs.Tryd.f132)) (bef_S0 xs ys i) bef_K0 =
      some ([decide ((Nat.cast : Nat → Int) i < List.foldl mn ((Nat.cast : Nat → Int) (List.length xs)) [(Nat.cast : Nat → Int) (List.length ys)]) = false], Ex.exit 0, [(.tmp 0, .d (D.sl false E.int xs)), (.tmp 1, .d (D.sl false E.int ys)), (.tmp 5, .d (D.int .i64 ((Nat.cast : Nat → Int) i)))]) := by kernel_rfl
def bef_T0_hit (xs ys : List Int) (i : Nat)  : List (Key × Val) :=
  [(.tmp 0, .d (D.sl false E.int xs)), (.tmp 1, .d (D.sl false E.int ys)), (.tmp 5, .d (D.int .i64 ((Nat.cast : Nat → Int) i))), (.tmp 4, .d (D.bool (decide (List.getD xs (Int.toNat ((Nat.cast : Nat → Int) i)) (E.z E.int) < List.getD ys (Int.toNat ((Nat.cast : Nat → Int) i)) (E.z E.int)))))]
theorem woA_none (b : Book) (l : List Int) (i : Nat) :
    callF (mk Proofs.Tryd.prog (lookN types) glob 31) [] [] [(0, (woA_K0, (.normal, woA_S0 b l i)))] (body Proofs.Tryd.f59) [.cell 4 26] [bookD b, .sl false .int l] =
      some ([LoopT Proofs.Tryd.prog glob 31 (Code.at [1, 1, 1, 0, 1] (body Proofs.Tryd.f59)) [(.tmp 1, .d (D.sl false E.int l)), (.tmp 2, .d (D.ptr 2 0)), (.tmp 4, .d (D.ptr 4 0)), (.tmp 5, .d (D.ptr 5 0)), (.tmp 6, .d (D.int .i64 (0 : Int))), (.box 2, .bx (some (Box.mk false (cellsOf (bookD b))))), (.box 4, .bx (some (Box.mk false [D.nil, D.nil, D.nil, D.int .i64 (0 : Int), D.int .i64 (0 : Int)]))), (.box 5, .bx (some (Box.mk false [D.sl false E.sec (Book.secs b), D.sl false E.int (Book.turns b), D.sl true E.sv [], D.int .i64 (Book.rule b), D.int .i64 (Book.days b)]))), (.obj 28, .ob Option.none)] Ex.normal (woA_S0 b l i)], D.agg [D.sl false E.sec (Book.secs b), D.sl false E.int (Book.turns b), D.sl true E.sv [], D.int .i64 (Book.rule b), D.int .i64 (Book.days b)]) := by kernel_rfl
theorem woA_some (b : Book) (l : List Int) (i : Nat) (y : Sv) (r : List Sv) :
    callF (mk Proofs.Tryd.prog (lookN types) glob 31) [] [] [(0, (woB_K0, (.normal, woB_S0 b l i y r)))] (body Proofs.Tryd.f59) [.cell 4 26] [bookD b, .sl false .int l] =
      some ([LoopT Proofs.Tryd.prog glob 31 (Code.at [1, 1, 1, 0, 1] (body Proofs.Tryd.f59)) [(.tmp 1, .d (D.sl false E.int l)), (.tmp 2, .d (D.ptr 2 0)), (.tmp 4, .d (D.ptr 4 0)), (.tmp 5, .d (D.ptr 5 0)), (.tmp 6, .d (D.int .i64 (0 : Int))), (.box 2, .bx (some (Box.mk false (cellsOf (bookD b))))), (.box 4, .bx (some (Box.mk false [D.nil, D.nil, D.nil, D.int .i64 (0 : Int), D.int .i64 (0 : Int)]))), (.box 5, .bx (some (Box.mk false [D.sl false E.sec (Book.secs b), D.sl false E.int (Book.turns b), D.sl true E.sv [], D.int .i64 (Book.rule b), D.int .i64 (Book.days b)]))), (.obj 28, .ob Option.none)] Ex.normal (woB_S0 b l i y r), List.length (y :: r) = List.length ((y :: r)), List.length (y :: r) = List.length ((y :: r))], D.agg [D.sl false E.sec (Book.secs b), D.sl false E.int (Book.turns b), D.sl false E.sv ((y :: r)), D.int .i64 (Book.rule b), D.int .i64 (Book.days b)]) := by kernel_rfl
theorem mem1_all (set n : Int) :
    callF (mk Proofs.Tryd.prog (lookN types) glob 10) [] [] [] (body Proofs.Tryd.f131) [.tmp 4] [.int .i64 set, .int .i64 n] =
      some ([(0 : Int) ≤ n], D.bool (IntKind.wrap .i64 ((Nat.cast : Nat → Int) (BitVec.toNat (BitVec.ofInt 64 (Int.fdiv set ((2 : Int) ^ Min.min (Int.toNat n) 64)) &&& BitVec.ofInt 64 (1 : Int)))) == (1 : Int))) := by kernel_rfl
theorem memA_none (set n : Int) (i : Nat) :
    callF (mk Proofs.Tryd.prog (lookN types) glob 21) [] [] [(0, (memA_K0, (.normal, memA_S0 set n i)))] (body Proofs.Tryd.f58) [.tmp 4] [.int .i64 set, .int .i64 n] =
      some ([LoopT Proofs.Tryd.prog glob 21 (Code.at [1, 1, 0, 1] (body Proofs.Tryd.f58)) [(.tmp 0, .d (D.int .i64 set)), (.tmp 1, .d (D.int .i64 n)), (.tmp 5, .d (D.sl true E.int [])), (.tmp 6, .d (D.int .i64 (0 : Int))), (.obj 19, .ob Option.none)] Ex.normal (memA_S0 set n i)], D.sl true E.int []) := by kernel_rfl
theorem memA_some (set n : Int) (i : Nat) (y : Int) (r : List Int) :
    callF (mk Proofs.Tryd.prog (lookN types) glob 21) [] [] [(0, (memB_K0, (.normal, memB_S0 set n i y r)))] (body Proofs.Tryd.f58) [.tmp 4] [.int .i64 set, .int .i64 n] =
      some ([LoopT Proofs.Tryd.prog glob 21 (Code.at [1, 1, 0, 1] (body Proofs.Tryd.f58)) [(.tmp 0, .d (D.int .i64 set)), (.tmp 1, .d (D.int .i64 n)), (.tmp 5, .d (D.sl true E.int [])), (.tmp 6, .d (D.int .i64 (0 : Int))), (.obj 19, .ob Option.none)] Ex.normal (memB_S0 set n i y r), List.length (y :: r) = List.length ((y :: r))], D.sl false E.int ((y :: r))) := by kernel_rfl
theorem bef_hit (xs ys : List Int) (i : Nat) :
    callF (mk Proofs.Tryd.prog (lookN types) glob 38) [] [] [(0, (bef_K0, (.ret, bef_T0_hit xs ys i)))] (body Proofs.Tryd.f132) [.tmp 4] [.sl false .int xs, .sl false .int ys] =
      some ([LoopT Proofs.Tryd.prog glob 38 (Code.at [1, 0, 1] (body Proofs.Tryd.f132)) [(.tmp 0, .d (D.sl false E.int xs)), (.tmp 1, .d (D.sl false E.int ys)), (.tmp 5, .d (D.int .i64 (0 : Int)))] Ex.ret (bef_T0_hit xs ys i)], D.bool (decide (List.getD xs (Int.toNat ((Nat.cast : Nat → Int) i)) (E.z E.int) < List.getD ys (Int.toNat ((Nat.cast : Nat → Int) i)) (E.z E.int)))) := by kernel_rfl
theorem bef_end (xs ys : List Int) (i : Nat) :
    callF (mk Proofs.Tryd.prog (lookN types) glob 38) [] [] [(0, (bef_K0, (.normal, bef_S0 xs ys i)))] (body Proofs.Tryd.f132) [.tmp 4] [.sl false .int xs, .sl false .int ys] =
      some ([LoopT Proofs.Tryd.prog glob 38 (Code.at [1, 0, 1] (body Proofs.Tryd.f132)) [(.tmp 0, .d (D.sl false E.int xs)), (.tmp 1, .d (D.sl false E.int ys)), (.tmp 5, .d (D.int .i64 (0 : Int)))] Ex.normal (bef_S0 xs ys i)], D.bool (decide ((Nat.cast : Nat → Int) (List.length xs) < (Nat.cast : Nat → Int) (List.length ys)))) := by kernel_rfl
theorem bet_lt (xs ys : List Int) :
    callF (mk Proofs.Tryd.prog (lookN types) glob 22) [(10, true)] [] [] (body Proofs.Tryd.f60) [.tmp 4] [.sl false .int xs, .sl false .int ys] =
      some ([decide ((Nat.cast : Nat → Int) (List.length xs) < (Nat.cast : Nat → Int) (List.length ys)) = true, decide ((Nat.cast : Nat → Int) (List.length xs) < (Nat.cast : Nat → Int) (List.length ys)) = true, decide ((Nat.cast : Nat → Int) (List.length xs) < (Nat.cast : Nat → Int) (List.length ys)) = true, decide ((Nat.cast : Nat → Int) (List.length xs) < (Nat.cast : Nat → Int) (List.length ys)) = true, decide ((Nat.cast : Nat → Int) (List.length xs) < (Nat.cast : Nat → Int) (List.length ys)) = true, decide ((Nat.cast : Nat → Int) (List.length xs) < (Nat.cast : Nat → Int) (List.length ys)) = true, decide ((Nat.cast : Nat → Int) (List.length xs) < (Nat.cast : Nat → Int) (List.length ys)) = true, decide ((Nat.cast : Nat → Int) (List.length xs) < (Nat.cast : Nat → Int) (List.length ys)) = true], D.bool true) := by kernel_rfl
theorem bet_ne (xs ys : List Int) :
    callF (mk Proofs.Tryd.prog (lookN types) glob 22) [(10, false), (16, false)] [] [] (body Proofs.Tryd.f60) [.tmp 4] [.sl false .int xs, .sl false .int ys] =
      some ([decide ((Nat.cast : Nat → Int) (List.length xs) < (Nat.cast : Nat → Int) (List.length ys)) = false, decide ((Nat.cast : Nat → Int) (List.length xs) < (Nat.cast : Nat → Int) (List.length ys)) = false, decide ((Nat.cast : Nat → Int) (List.length xs) < (Nat.cast : Nat → Int) (List.length ys)) = false, decide ((Nat.cast : Nat → Int) (List.length xs) < (Nat.cast : Nat → Int) (List.length ys)) = false, decide ((Nat.cast : Nat → Int) (List.length xs) < (Nat.cast : Nat → Int) (List.length ys)) = false, decide ((Nat.cast : Nat → Int) (List.length xs) < (Nat.cast : Nat → Int) (List.length ys)) = false, ((Nat.cast : Nat → Int) (List.length xs) == (Nat.cast : Nat → Int) (List.length ys)) = false, ((Nat.cast : Nat → Int) (List.length xs) == (Nat.cast : Nat → Int) (List.length ys)) = false, ((Nat.cast : Nat → Int) (List.length xs) == (Nat.cast : Nat → Int) (List.length ys)) = false, decide ((Nat.cast : Nat → Int) (List.length xs) < (Nat.cast : Nat → Int) (List.length ys)) = false, ((Nat.cast : Nat → Int) (List.length xs) == (Nat.cast : Nat → Int) (List.length ys)) = false, decide ((Nat.cast : Nat → Int) (List.length xs) < (Nat.cast : Nat → Int) (List.length ys)) = false], D.bool false) := by kernel_rfl
theorem bet_eq (xs ys : List Int) (q : Bool) :
    callF (mk Proofs.Tryd.prog (lookN types) glob 22) [(10, false), (16, true)] [(19, .bool q)] [] (body Proofs.Tryd.f60) [.tmp 4] [.sl false .int xs, .sl false .int ys] =
      some ([decide ((Nat.cast : Nat → Int) (List.length xs) < (Nat.cast : Nat → Int) (List.length ys)) = false, decide ((Nat.cast : Nat → Int) (List.length xs) < (Nat.cast : Nat → Int) (List.length ys)) = false, decide ((Nat.cast : Nat → Int) (List.length xs) < (Nat.cast : Nat → Int) (List.length ys)) = false, decide ((Nat.cast : Nat → Int) (List.length xs) < (Nat.cast : Nat → Int) (List.length ys)) = false, decide ((Nat.cast : Nat → Int) (List.length xs) < (Nat.cast : Nat → Int) (List.length ys)) = false, decide ((Nat.cast : Nat → Int) (List.length xs) < (Nat.cast : Nat → Int) (List.length ys)) = false, ((Nat.cast : Nat → Int) (List.length xs) == (Nat.cast : Nat → Int) (List.length ys)) = true, ((Nat.cast : Nat → Int) (List.length xs) == (Nat.cast : Nat → Int) (List.length ys)) = true, ((Nat.cast : Nat → Int) (List.length xs) == (Nat.cast : Nat → Int) (List.length ys)) = true, Contract Proofs.Tryd.prog glob 132 [D.sl false E.int xs, D.sl false E.int ys] (D.bool q), decide ((Nat.cast : Nat → Int) (List.length xs) < (Nat.cast : Nat → Int) (List.length ys)) = false, ((Nat.cast : Nat → Int) (List.length xs) == (Nat.cast : Nat → Int) (List.length ys)) = true, decide ((Nat.cast : Nat → Int) (List.length xs) < (Nat.cast : Nat → Int) (List.length ys)) = false], D.bool q) := by kernel_rfl
theorem cwrong_bad (b : Book) (n : Int) :
    callF (mk Proofs.Tryd.prog (lookN types) glob 104) [] [(16, .tup [.sl true .int ([] : List Int), .int .i64 10]), (20, .bool false), (30, .bool true)] [] (body Proofs.Tryd.f12) [.tmp 4] [bookD b, .int .i64 n] =
      some ([Contract Proofs.Tryd.prog glob 38 [bookD b] (D.tup [D.sl true E.int [], D.int .i64 (10 : Int)]), Contract Proofs.Tryd.prog glob 33 [bookD b] (D.bool false), Contract Proofs.Tryd.prog glob 30 [] (D.bool true)], D.bool true) := by kernel_rfl
theorem cwrong_ok1 (b : Book) (n : Int) (w o : List Int) (k : Int) (is less bt : Bool) (b1 b2 : Book) :
    callF (mk Proofs.Tryd.prog (lookN types) glob 104) [(57, false), (96, false), (101, true)] [(16, .tup [.sl true .int w, .int .i64 0]), (20, .bool true), (34, .tup [.bool is, .int .i64 0]), (48, .bool true), (63, .int .i64 k), (67, .sl false .int o), (71, bookD b1), (72, .tup [.bool true, .int .i64 0]), (78, bookD b2), (79, .tup [.bool less, .int .i64 0]), (94, .bool bt), (102, .bool true)] [] (body Proofs.Tryd.f12) [.tmp 4] [bookD b, .int .i64 n] =
      some ([Contract Proofs.Tryd.prog glob 38 [bookD b] (D.tup [D.sl true E.int w, D.int .i64 (0 : Int)]), Contract Proofs.Tryd.prog glob 33 [bookD b] (D.bool true), Contract Proofs.Tryd.prog glob 37 [bookD b] (D.tup [D.bool is, D.int .i64 (0 : Int)]), Contract Proofs.Tryd.prog glob 52 [D.sl false E.int w, D.int .i64 ((Nat.cast : Nat → Int) (List.length (Book.svs b)))] (D.bool true), (!((Nat.cast : Nat → Int) (List.length w) == (0 : Int)) == is) = false, (0 : Int) ≤ (Nat.cast : Nat → Int) (List.length (Book.svs b)) ∧ inI64 ((1 : Int) * (2 : Int) ^ Min.min (Int.toNat ((Nat.cast : Nat → Int) (List.length (Book.svs b)))) 64), Contract Proofs.Tryd.prog glob 39 [D.int .i64 n, D.int .i64 ((1 : Int) * (2 : Int) ^ Min.min (Int.toNat ((Nat.cast : Nat → Int) (List.length (Book.svs b)))) 64)] (D.int .i64 k), Contract Proofs.Tryd.prog glob 58 [D.int .i64 k, D.int .i64 ((Nat.cast : Nat → Int) (List.length (Book.svs b)))] (D.sl false E.int o), Contract Proofs.Tryd.prog glob 59 [bookD b, D.sl false E.int w] (bookD b1), Contract Proofs.Tryd.prog glob 37 [bookD b1] (D.tup [D.bool true, D.int .i64 (0 : Int)]), Contract Proofs.Tryd.prog glob 59 [bookD b, D.sl false E.int o] (bookD b2), Contract Proofs.Tryd.prog glob 37 [bookD b2] (D.tup [D.bool less, D.int .i64 (0 : Int)]), Contract Proofs.Tryd.prog glob 60 [D.sl false E.int o, D.sl false E.int w] (D.bool bt), (!bt) = false, (!bt) = false, (!bt) = false, (!less) = true, Contract Proofs.Tryd.prog glob 30 [] (D.bool true), (!less) = true], D.bool true) := by kernel_rfl
theorem cwrong_ok0 (b : Book) (n : Int) (w o : List Int) (k : Int) (is less bt : Bool) (b1 b2 : Book) :
    callF (mk Proofs.Tryd.prog (lookN types) glob 104) [(57, false), (96, true)] [(16, .tup [.sl true .int w, .int .i64 0]), (20, .bool true), (34, .tup [.bool is, .int .i64 0]), (48, .bool true), (63, .int .i64 k), (67, .sl false .int o), (71, bookD b1), (72, .tup [.bool true, .int .i64 0]), (78, bookD b2), (79, .tup [.bool less, .int .i64 0]), (94, .bool bt), (102, .bool true)] [] (body Proofs.Tryd.f12) [.tmp 4] [bookD b, .int .i64 n] =
      some ([Contract Proofs.Tryd.prog glob 38 [bookD b] (D.tup [D.sl true E.int w, D.int .i64 (0 : Int)]), Contract Proofs.Tryd.prog glob 33 [bookD b] (D.bool true), Contract Proofs.Tryd.prog glob 37 [bookD b] (D.tup [D.bool is, D.int .i64 (0 : Int)]), Contract Proofs.Tryd.prog glob 52 [D.sl false E.int w, D.int .i64 ((Nat.cast : Nat → Int) (List.length (Book.svs b)))] (D.bool true), (!((Nat.cast : Nat → Int) (List.length w) == (0 : Int)) == is) = false, (0 : Int) ≤ (Nat.cast : Nat → Int) (List.length (Book.svs b)) ∧ inI64 ((1 : Int) * (2 : Int) ^ Min.min (Int.toNat ((Nat.cast : Nat → Int) (List.length (Book.svs b)))) 64), Contract Proofs.Tryd.prog glob 39 [D.int .i64 n, D.int .i64 ((1 : Int) * (2 : Int) ^ Min.min (Int.toNat ((Nat.cast : Nat → Int) (List.length (Book.svs b)))) 64)] (D.int .i64 k), Contract Proofs.Tryd.prog glob 58 [D.int .i64 k, D.int .i64 ((Nat.cast : Nat → Int) (List.length (Book.svs b)))] (D.sl false E.int o), Contract Proofs.Tryd.prog glob 59 [bookD b, D.sl false E.int w] (bookD b1), Contract Proofs.Tryd.prog glob 37 [bookD b1] (D.tup [D.bool true, D.int .i64 (0 : Int)]), Contract Proofs.Tryd.prog glob 59 [bookD b, D.sl false E.int o] (bookD b2), Contract Proofs.Tryd.prog glob 37 [bookD b2] (D.tup [D.bool less, D.int .i64 (0 : Int)]), Contract Proofs.Tryd.prog glob 60 [D.sl false E.int o, D.sl false E.int w] (D.bool bt), (!bt) = true, (!bt) = true, (!bt) = true, Contract Proofs.Tryd.prog glob 30 [] (D.bool true)], D.bool true) := by kernel_rfl
end Go.Di

namespace Go.Di

/-! ### A book without some of its surveys -/
def woS (b : Book) (l : List Int) (i : Nat) : List Sv → List (Key × Val)
  | [] => woA_S0 b l i
  | y :: r => woB_S0 b l i y r
theorem wo_round (b : Book) (l : List Int) (i : Nat) (o : List Sv) (hi : i < b.svs.length) (h8 : b.svs.length ≤ 1000) (hsz : o.length ≤ 1000) (hl : l.length ≤ 9223372036854775807) :
    WpL Proofs.Tryd.prog (mk Proofs.Tryd.prog (lookN types) glob 31) (Code.at [1, 1, 1, 0, 1, 0, 0] (body Proofs.Tryd.f59)) (woS b l i o) fun e1 L1 => e1 = .normal ∧ L1 = woS b l (i + 1) (if (i : Int) ∈ l then o else o ++ [svZ b i]) := by
  have hat := atB_con l i hl
  have hge := indexF_ge (i : Int) l 0
  have hlt : decide ((i : Int) < b.svs.length) = true := decide_eq_true (by omega)
  have hi64 : inI64 ((i : Int) + 1) := by simp only [inI64]; omega
  by_cases hm : (i : Int) ∈ l
  · rw [if_pos hm]
    have hd : decide (indexF (i : Int) l 0 < 0) = false := decide_eq_false (by have := hge.2 hm; omega)
    cases o with
    | nil =>
      refine WpL.path (G 31) (woA_0_no b l i (indexF (i : Int) l 0)) ?_ ⟨rfl, rfl⟩
      repeat (first | exact trivial | refine ⟨by first | exact hlt | exact hat | exact hd | exact hi64 | rfl | omega, ?_⟩)
    | cons y r =>
      refine WpL.path (G 31) (woB_0_no b l i y r (indexF (i : Int) l 0)) ?_ ⟨rfl, rfl⟩
      repeat (first | exact trivial | refine ⟨by first | exact hlt | exact hat | exact hd | exact hi64 | rfl | omega, ?_⟩)
  · rw [if_neg hm]
    have hd : decide (indexF (i : Int) l 0 < 0) = true := decide_eq_true (by
      by_cases h : indexF (i : Int) l 0 < 0
      · exact h
      · exact absurd (hge.1 (by omega)) hm)
    cases o with
    | nil =>
      refine WpL.path (G 31) (woA_0_yes b l i (indexF (i : Int) l 0)) ?_ ⟨rfl, rfl⟩
      repeat (first | exact trivial | refine ⟨by first | exact hlt | exact hat | exact hd | exact hi64 | rfl | omega | (simp; omega), ?_⟩)
    | cons y r =>
      have hz : (y :: r ++ [svZ b i]).length * (32 + 1) ≤ 140737488355328 := by simp only [List.length_append, List.length_cons, List.length_nil] at hsz ⊢; omega
      refine WpL.path (G 31) (woB_0_yes b l i y r (indexF (i : Int) l 0)) ?_ ⟨rfl, rfl⟩
      repeat (first | exact trivial | refine ⟨by first | exact hlt | exact hat | exact hd | exact hi64 | exact hz | rfl | omega, ?_⟩)
theorem wo_loop (b : Book) (l : List Int) (h8 : b.svs.length ≤ 1000) (hl : l.length ≤ 9223372036854775807) :
    LoopT Proofs.Tryd.prog glob 31 (Code.at [1, 1, 1, 0, 1] (body Proofs.Tryd.f59)) (woS b l 0 []) .normal (woS b l b.svs.length (woTo b l b.svs.length)) := by
  refine LoopT.count (tt := lookN types) (id := 0) (c := Code.at [1, 1, 1, 0, 1, 0, 0] (body Proofs.Tryd.f59)) (by kernel_rfl) b.svs.length (fun i => woS b l i (woTo b l i)) (fun i hi => ?_) ?_
  · have := woTo_len b l i
    exact wo_round b l i _ hi h8 (by omega) hl
  · cases woTo b l b.svs.length with
    | nil => exact WpL.path (G 31) (woA_0_end b l _) ⟨decide_eq_false (Int.lt_irrefl _), trivial⟩ ⟨.inl ⟨rfl, rfl⟩, rfl⟩
    | cons y r => exact WpL.path (G 31) (woB_0_end b l _ y r) ⟨decide_eq_false (Int.lt_irrefl _), trivial⟩ ⟨.inl ⟨rfl, rfl⟩, rfl⟩
theorem without_con (b : Book) (l : List Int) (h8 : b.svs.length ≤ 1000) (hl : l.length ≤ 9223372036854775807) : Contract Proofs.Tryd.prog glob 59 [bookD b, .sl false .int l] (bookD (withoutF b l)) := by
  have hloop := wo_loop b l h8 hl
  unfold withoutF
  cases hw : woTo b l b.svs.length with
  | nil =>
    rw [hw] at hloop
    refine (contract_of_path (G 31) woA_fn (woA_none b l b.svs.length) ?_).toWeak
    repeat (first | exact trivial | refine ⟨by first | exact hloop | rfl | omega, ?_⟩)
  | cons y r =>
    rw [hw] at hloop
    refine (contract_of_path (G 31) woA_fn (woA_some b l b.svs.length y r) ?_).toWeak
    repeat (first | exact trivial | refine ⟨by first | exact hloop | rfl | omega, ?_⟩)

/-! ### Small numbers of a set -/
def memQ (set n : Int) : Bool := (IntKind.i64.wrap ((BitVec.ofInt 64 (set.fdiv (2 ^ min n.toNat 64)) &&& BitVec.ofInt 64 1).toNat : Int)) == 1
theorem mem1_con (set n : Int) (hn : 0 ≤ n) : Contract Proofs.Tryd.prog glob 131 [.int .i64 set, .int .i64 n] (.bool (memQ set n)) :=
  contract_of_path (G 10) mem1_fn (mem1_all set n) ⟨hn, trivial⟩
def membTo (set : Int) : Nat → List Int
  | 0 => []
  | i + 1 => if memQ set i = true then membTo set i ++ [(i : Int)] else membTo set i
theorem membTo_up (set : Int) : ∀ n : Nat, Up n 0 (membTo set n)
  | 0 => trivial
  | n + 1 => by
    have ih := membTo_up set n
    simp only [membTo]
    split
    · exact Up.snoc (Int.le_refl _) (by omega) (by omega) ih (by omega)
    · exact Up.mono (by omega) ih
theorem membTo_len (set : Int) (n : Nat) : (membTo set n).length ≤ n := by
  have := (membTo_up set n).len (by omega)
  omega
def mbS (set n : Int) (i : Nat) : List Int → List (Key × Val)
  | [] => memA_S0 set n i
  | y :: r => memB_S0 set n i y r
theorem mb_round (set : Int) (n i : Nat) (o : List Int) (hi : i < n) (hn : n ≤ 1000) (hsz : o.length ≤ 1000) :
    WpL Proofs.Tryd.prog (mk Proofs.Tryd.prog (lookN types) glob 21) (Code.at [1, 1, 0, 1, 0, 0] (body Proofs.Tryd.f58)) (mbS set n i o) fun e1 L1 => e1 = .normal ∧ L1 = mbS set n (i + 1) (if memQ set i = true then o ++ [(i : Int)] else o) := by
  have hm := mem1_con set i (by omega)
  have hlt : decide ((i : Int) < (n : Int)) = true := decide_eq_true (by omega)
  have hi64 : inI64 ((i : Int) + 1) := by simp only [inI64]; omega
  cases hq : memQ set i with
  | false =>
    rw [hq] at hm
    rw [if_neg (by decide)]
    cases o with
    | nil =>
      refine WpL.path (G 21) (memA_0_no set n i false) ?_ ⟨rfl, rfl⟩
      repeat (first | exact trivial | refine ⟨by first | exact hlt | exact hm | exact hi64 | rfl | omega, ?_⟩)
    | cons y r =>
      refine WpL.path (G 21) (memB_0_no set n i y r false) ?_ ⟨rfl, rfl⟩
      repeat (first | exact trivial | refine ⟨by first | exact hlt | exact hm | exact hi64 | rfl | omega, ?_⟩)
  | true =>
    rw [hq] at hm
    rw [if_pos rfl]
    cases o with
    | nil =>
      refine WpL.path (G 21) (memA_0_yes set n i true) ?_ ⟨rfl, rfl⟩
      repeat (first | exact trivial | refine ⟨by first | exact hlt | exact hm | exact hi64 | rfl | omega | (simp; omega), ?_⟩)
    | cons y r =>
      have hz : (y :: r ++ [(i : Int)]).length * (8 + 1) ≤ 140737488355328 := by simp only [List.length_append, List.length_cons, List.length_nil] at hsz ⊢; omega
      refine WpL.path (G 21) (memB_0_yes set n i y r true) ?_ ⟨rfl, rfl⟩
      repeat (first | exact trivial | refine ⟨by first | exact hlt | exact hm | exact hi64 | exact hz | rfl | omega, ?_⟩)
theorem mb_loop (set : Int) (n : Nat) (hn : n ≤ 1000) :
    LoopT Proofs.Tryd.prog glob 21 (Code.at [1, 1, 0, 1] (body Proofs.Tryd.f58)) (mbS set n 0 []) .normal (mbS set n n (membTo set n)) := by
  refine LoopT.count (tt := lookN types) (id := 0) (c := Code.at [1, 1, 0, 1, 0, 0] (body Proofs.Tryd.f58)) (by kernel_rfl) n (fun i => mbS set n i (membTo set i)) (fun i hi => ?_) ?_
  · have := membTo_len set i
    exact mb_round set n i _ hi hn (by omega)
  · cases membTo set n with
    | nil => exact WpL.path (G 21) (memA_0_end set n _) ⟨decide_eq_false (Int.lt_irrefl _), trivial⟩ ⟨.inl ⟨rfl, rfl⟩, rfl⟩
    | cons y r => exact WpL.path (G 21) (memB_0_end set n _ y r) ⟨decide_eq_false (Int.lt_irrefl _), trivial⟩ ⟨.inl ⟨rfl, rfl⟩, rfl⟩
theorem members_con (set : Int) (n : Nat) (hn : n ≤ 1000) : Contract Proofs.Tryd.prog glob 58 [.int .i64 set, .int .i64 (n : Int)] (.sl false .int (membTo set n)) := by
  have hloop := mb_loop set n hn
  cases hw : membTo set n with
  | nil =>
    rw [hw] at hloop
    refine (contract_of_path (G 21) memA_fn (memA_none set n n) ?_).toWeak
    repeat (first | exact trivial | refine ⟨by first | exact hloop | rfl | omega, ?_⟩)
  | cons y r =>
    rw [hw] at hloop
    refine (contract_of_path (G 21) memA_fn (memA_some set n n y r) ?_).toWeak
    repeat (first | exact trivial | refine ⟨by first | exact hloop | rfl | omega, ?_⟩)

/-! ### Which list is the better one -/
theorem before_at : ∀ (xs ys : List Int) (k : Nat), k < xs.length → k < ys.length → (∀ i < k, xs.getD i 0 = ys.getD i 0) → xs.getD k 0 ≠ ys.getD k 0 → beforeF xs ys = decide (xs.getD k 0 < ys.getD k 0)
  | a :: xs, b :: ys, 0, _, _, _, hne => by
    have hne' : a ≠ b := hne
    simp only [beforeF, List.getD_cons_zero]
    rw [if_neg hne']
  | a :: xs, b :: ys, k + 1, h1, h2, he, hne => by
    have e0 : a = b := he 0 (by omega)
    simp only [beforeF]
    rw [if_pos e0]
    simp only [List.getD_cons_succ] at hne ⊢
    exact before_at xs ys k (by simpa using h1) (by simpa using h2) (fun i hi => by have := he (i + 1) (by omega); simpa using this) hne
theorem before_end : ∀ (xs ys : List Int), (∀ i, i < xs.length → i < ys.length → xs.getD i 0 = ys.getD i 0) → beforeF xs ys = decide ((xs.length : Int) < (ys.length : Int))
  | [], [], _ => by simp [beforeF]
  | [], _ :: _, _ => by
    simp only [beforeF, List.length_nil, List.length_cons]
    exact (decide_eq_true (by omega)).symm
  | _ :: _, [], _ => by
    simp only [beforeF, List.length_nil, List.length_cons]
    exact (decide_eq_false (by omega)).symm
  | a :: xs, b :: ys, h => by
    have e0 : a = b := h 0 (by simp) (by simp)
    simp only [beforeF]
    rw [if_pos e0, before_end xs ys fun i h1 h2 => by have := h (i + 1) (by simpa using h1) (by simpa using h2); simpa using this]
    rw [decide_eq_decide]
    simp only [List.length_cons]
    omega
theorem before_con (xs ys : List Int) (hx : xs.length ≤ 1000) (hy : ys.length ≤ 1000) : Contract Proofs.Tryd.prog glob 132 [.sl false .int xs, .sl false .int ys] (.bool (beforeF xs ys)) := by
  have hb : Code.at [1, 0, 1] (body Proofs.Tryd.f132) = .block 0 (.loop (Code.at [1, 0, 1, 0, 0] (body Proofs.Tryd.f132))) := by kernel_rfl
  obtain ⟨m, hm, hmx, hmy, hmm⟩ : ∃ m : Nat, mn (xs.length : Int) (ys.length : Int) = m ∧ m ≤ xs.length ∧ m ≤ ys.length ∧ ∀ i, i < xs.length → i < ys.length → i < m := by
    refine ⟨min xs.length ys.length, ?_, by omega, by omega, fun i h1 h2 => by omega⟩
    unfold mn
    split <;> omega
  have hlt : ∀ i : Nat, i < m → decide ((i : Int) < mn (xs.length : Int) (ys.length : Int)) = true := fun i hi => decide_eq_true (by omega)
  have hon : ∀ k, k ≤ m → (∀ i < k, (xs.getD i 0 != ys.getD i 0) = false) → ∀ i, i < k → WpL Proofs.Tryd.prog (mk Proofs.Tryd.prog (lookN types) glob 38) (Code.at [1, 0, 1, 0, 0] (body Proofs.Tryd.f132)) (bef_S0 xs ys i) fun e1 L1 => e1 = .normal ∧ L1 = bef_S0 xs ys (i + 1) := fun k hk h i hi => by
    have h1 := hlt i (by omega)
    have h2 := h i hi
    refine WpL.path (G 38) (bef_0_on xs ys i) ?_ ⟨rfl, rfl⟩
    repeat (first | exact trivial | refine ⟨by first | exact h1 | exact h2 | omega | (simp only [inI64]; omega), ?_⟩)
  rcases find_first (fun i => xs.getD i 0 != ys.getD i 0) m with ⟨k, h1, h2, h3⟩ | h
  · rw [before_at xs ys k (by omega) (by omega) (fun i hi => by simpa using h3 i hi) (by simpa using h2)]
    have h1' := hlt k h1
    refine contract_of_path (G 38) bef_fn (bef_hit xs ys k) ⟨LoopT.count (tt := lookN types) hb k (bef_S0 xs ys) (hon k (by omega) h3) (WpL.path (G 38) (bef_0_hit xs ys k) ?_ ⟨.inr ⟨rfl, rfl⟩, rfl⟩), trivial⟩
    repeat (first | exact trivial | refine ⟨by first | exact h1' | exact h2 | omega, ?_⟩)
  · rw [before_end xs ys fun i h1 h2 => by have := h i (hmm i h1 h2); simpa using this]
    have h1' : decide ((m : Int) < mn (xs.length : Int) (ys.length : Int)) = false := decide_eq_false (by omega)
    exact contract_of_path (G 38) bef_fn (bef_end xs ys m) ⟨LoopT.count (tt := lookN types) hb m (bef_S0 xs ys) (hon _ (Nat.le_refl _) h) (WpL.path (G 38) (bef_0_end xs ys _) ⟨h1', trivial⟩ ⟨.inl ⟨rfl, rfl⟩, rfl⟩), trivial⟩
theorem better_con (xs ys : List Int) (hx : xs.length ≤ 1000) (hy : ys.length ≤ 1000) : Contract Proofs.Tryd.prog glob 60 [.sl false .int xs, .sl false .int ys] (.bool (betterF xs ys)) := by
  unfold betterF
  by_cases h1 : xs.length < ys.length
  · have d1 : decide ((xs.length : Int) < (ys.length : Int)) = true := decide_eq_true (by omega)
    rw [decide_eq_true h1, Bool.true_or]
    refine contract_of_path (G 22) bet_fn (bet_lt xs ys) ?_
    repeat (first | exact trivial | refine ⟨by first | exact d1 | rfl | omega, ?_⟩)
  · have d1 : decide ((xs.length : Int) < (ys.length : Int)) = false := decide_eq_false (by omega)
    rw [decide_eq_false h1, Bool.false_or]
    by_cases h2 : xs.length = ys.length
    · have d2 : ((xs.length : Int) == (ys.length : Int)) = true := by rw [h2]; simp
      have hb := before_con xs ys hx hy
      rw [decide_eq_true h2, Bool.true_and]
      refine contract_of_path (G 22) bet_fn (bet_eq xs ys (beforeF xs ys)) ?_
      repeat (first | exact trivial | refine ⟨by first | exact d1 | exact d2 | exact hb | rfl | omega, ?_⟩)
    · have d2 : ((xs.length : Int) == (ys.length : Int)) = false := by
        rw [beq_eq_false_iff_ne]; omega
      rw [decide_eq_false h2, Bool.false_and]
      refine contract_of_path (G 22) bet_fn (bet_ne xs ys) ?_
      repeat (first | exact trivial | refine ⟨by first | exact d1 | exact d2 | rfl | omega, ?_⟩)

/-! ### The law ChainWrong -/
theorem cwrong_con {b : Book} (hs : Small b) (n : Int) : Contract Proofs.Tryd.prog glob 12 [bookD b, .int .i64 n] (.bool true) := by
  have hso := sound_con hs
  have hfg := forged_con
  have hw := wrong_con hs
  unfold wrongAF checkF at hw
  cases hv : validF b with
  | false =>
    rw [hv] at hso hw
    rw [if_neg (by decide), if_neg (by decide)] at hw
    refine contract_of_path (G 104) cwrong_fn (cwrong_bad b n) ?_
    repeat (first | exact trivial | refine ⟨by first | exact hso | exact hw | exact hfg | rfl, ?_⟩)
  | true =>
    rw [hv] at hso hw
    rw [if_pos rfl, if_pos rfl] at hw
    have hV := valid_iff.1 hv
    have h8 := hV.svs
    have hr := right_con' hs
    unfold checkF at hr
    rw [hv, if_pos rfl, Bool.true_and] at hr
    obtain ⟨w1, w2, w3, w4⟩ := wrong_spec hV
    generalize (wrongGo b).1 = w at hw w1 w2 w3 w4
    have hwl := w1.len (by omega)
    have hcl := climbs_con w b.svs.length (by omega) (by omega)
    rw [w1.toUps.climbs] at hcl
    have hpow : (2 : Int) ^ min (b.svs.length : Int).toNat 64 = ((2 ^ b.svs.length : Nat) : Int) := by
      rw [Int.toNat_natCast, show min b.svs.length 64 = b.svs.length by omega]
      simp
    have hp8 : 2 ^ b.svs.length ≤ 2 ^ 8 := Nat.pow_le_pow_right (by decide) h8
    have hp0 : 0 < 2 ^ b.svs.length := Nat.pos_of_ne_zero (by simp)
    have hmod := modB_con n (1 * 2 ^ min (b.svs.length : Int).toNat 64) (by rw [hpow]; omega)
    have hsh : (0 : Int) ≤ (b.svs.length : Int) ∧ inI64 (1 * 2 ^ min (b.svs.length : Int).toNat 64) := ⟨by omega, by simp only [inI64]; rw [hpow]; omega⟩
    generalize modF n (1 * 2 ^ min (b.svs.length : Int).toNat 64) = k at hmod
    have hmb := members_con k b.svs.length (by omega)
    have ou := membTo_up k b.svs.length
    have ol := membTo_len k b.svs.length
    generalize membTo k b.svs.length = o at hmb ou ol
    have hwo := without_con b w (by omega) (by omega)
    have hoo := without_con b o (by omega) (by omega)
    have small : ∀ l, Small (withoutF b l) := fun l => ⟨hs.secs, hs.turns, by have := woTo_len b l b.svs.length; show (woTo b l b.svs.length).length ≤ _; omega⟩
    have r1 := right_con' (small w)
    have r2 := right_con' (small o)
    unfold checkF at r1 r2
    rw [valid_iff.2 (without_valid hV w), if_pos rfl, Bool.true_and, can_true ((without_can hV w).2 w2)] at r1
    rw [valid_iff.2 (without_valid hV o), if_pos rfl, Bool.true_and] at r2
    have hbt := better_con o w (by omega) (by omega)
    have hne : (!(((w.length : Int) == 0) == canF b)) = false := by
      refine not_beq_of ?_
      rw [Bool.eq_iff_iff, beq_iff_eq]
      constructor
      · intro h
        exact can_true (w3.1 (List.eq_nil_of_length_eq_zero (by omega)))
      · intro h
        rw [w3.2 (ne_of_can h)]
        rfl
    cases hbf : betterF o w with
    | false =>
      rw [hbf] at hbt
      refine contract_of_path (G 104) cwrong_fn (cwrong_ok0 b n w o k (canF b) (canF (withoutF b o)) false (withoutF b w) (withoutF b o)) ?_
      repeat (first | exact trivial | refine ⟨by first | exact hso | exact hw | exact hfg | exact hr | exact hcl | exact hne | exact hsh | exact hmod | exact hmb | exact hwo | exact hoo | exact r1 | exact r2 | exact hbt | rfl | omega, ?_⟩)
    | true =>
      rw [hbf] at hbt
      have hless : canF (withoutF b o) = false := by
        cases hc : canF (withoutF b o) with
        | false => rfl
        | true => exact absurd (w4 o ou hbf) ((without_can hV o).1 (ne_of_can hc))
      rw [hless] at r2
      refine contract_of_path (G 104) cwrong_fn (cwrong_ok1 b n w o k (canF b) false true (withoutF b w) (withoutF b o)) ?_
      repeat (first | exact trivial | refine ⟨by first | exact hso | exact hw | exact hfg | exact hr | exact hcl | exact hne | exact hsh | exact hmod | exact hmb | exact hwo | exact hoo | exact r1 | exact r2 | exact hbt | rfl | omega, ?_⟩)
end Go.Di

