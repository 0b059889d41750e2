/- Part 24: an interpreter over plain data for this code, with the proof that it says what the model does, and the contracts of the functions. No condition. -/
import Derived.Test.YtfkmodcjddfeiaaDoorDi23
set_option linter.unusedVariables false
set_option linter.unusedSimpArgs false
namespace Go.Di
theorem miB_fn : FnOk Proofs.Tryd.prog (mk Proofs.Tryd.prog (lookN types) glob 55) 53 (body Proofs.Tryd.f53) [.cell 2 26] := ⟨Proofs.Tryd.f53, by kernel_rfl, by kernel_rfl, by kernel_rfl, by kernel_rfl, by kernel_rfl⟩
theorem miC_fn : FnOk Proofs.Tryd.prog (mk Proofs.Tryd.prog (lookN types) glob 55) 53 (body Proofs.Tryd.f53) [.cell 2 26] := ⟨Proofs.Tryd.f53, by kernel_rfl, by kernel_rfl, by kernel_rfl, by kernel_rfl, by kernel_rfl⟩
theorem miA_fn : FnOk Proofs.Tryd.prog (mk Proofs.Tryd.prog (lookN types) glob 55) 53 (body Proofs.Tryd.f53) [.cell 2 26] := ⟨Proofs.Tryd.f53, by kernel_rfl, by kernel_rfl, by kernel_rfl, by kernel_rfl, by kernel_rfl⟩
theorem cmir_fn : FnOk Proofs.Tryd.prog (mk Proofs.Tryd.prog (lookN types) glob 195) 10 (body Proofs.Tryd.f10) [.tmp 4] := ⟨Proofs.Tryd.f10, by kernel_rfl, by kernel_rfl, by kernel_rfl, by kernel_rfl, by kernel_rfl⟩
def miB_S0 (b : Book) (p : Int) (y : Sec) (r : List Sec) : List (Key × Val) :=
  [(.tmp 1, .d (D.ptr 1 0)),
   (.tmp 2, .d (D.ptr 2 0)),
   (.tmp 3, .d (D.ptr 3 0)),
   (.tmp 4, .d (D.int .i64 ((Nat.cast : Nat → Int) (List.length (Book.secs b))))),
   (.tmp 5, .d (.int .i64 p)),
   (.box 1, .bx (some (Box.mk false (cellsOf (bookD b))))),
   (.box 2, .bx (some (Box.mk false [D.nil, D.nil, D.nil, D.int .i64 (0 : Int), D.int .i64 (0 : Int)]))),
   (.box 3, .bx (some ⟨false, [.own 28 (y :: r).length, .sl false .int b.turns, .sl true .sv [], .int .i64 b.rule, .int .i64 b.days]⟩)),
   (.obj 28, .ob (some ⟨.sec, y :: r⟩))]
def miB_K0 : List Key := [.tmp 1, .tmp 2, .tmp 3, .tmp 4, .tmp 5, .box 1, .box 2, .box 3, .obj 28]
def miA_S0 (b : Book) (p : Int) : List (Key × Val) :=
  [(.tmp 1, .d (D.ptr 1 0)),
   (.tmp 2, .d (D.ptr 2 0)),
   (.tmp 3, .d (D.ptr 3 0)),
   (.tmp 4, .d (D.int .i64 ((Nat.cast : Nat → Int) (List.length (Book.secs b))))),
   (.tmp 5, .d (.int .i64 p)),
   (.box 1, .bx (some (Box.mk false (cellsOf (bookD b))))),
   (.box 2, .bx (some (Box.mk false [D.nil, D.nil, D.nil, D.int .i64 (0 : Int), D.int .i64 (0 : Int)]))),
   (.box 3, .bx (some (Box.mk false [D.sl true E.sec [], D.sl false E.int (Book.turns b), D.sl true E.sv [], D.int .i64 (Book.rule b), D.int .i64 (Book.days b)]))),
   (.obj 28, .ob none)]
def miA_K0 : List Key := [.tmp 1, .tmp 2, .tmp 3, .tmp 4, .tmp 5, .box 1, .box 2, .box 3, .obj 28]
def cmir_S0 (b : Book) (n0 n1 : Int) (b1 : Book) (i d : Int) (s u : Span) (e g k1 e1 g1 : Int) (l o : List Int) (p : Nat) : List (Key × Val) :=
  [(.tmp 2, .d (D.ptr 2 0)),
   (.tmp 5, .d (D.ptr 5 0)),
   (.tmp 6, .d (D.int .i64 ((Nat.cast : Nat → Int) (List.length (Book.secs b))))),
   (.tmp 19, .d (D.sl true E.int l)),
   (.tmp 20, .d (D.sl true E.int o)),
   (.tmp 21, .d (.int .i64 p)),
   (.box 2, .bx (some (Box.mk false (cellsOf (bookD b))))),
   (.box 5, .bx (some (Box.mk false (cellsOf (bookD b1)))))]
def cmir_K0 : List Key := [.tmp 2, .tmp 5, .tmp 6, .tmp 19, .tmp 20, .tmp 21, .box 2, .box 5]
def miB_S2 (b : Book) (p : Int) (y : Sec) (r : List Sec) (i : Nat) : List (Key × Val) :=
  [(.tmp 1, .d (D.ptr 1 0)),
   (.tmp 2, .d (D.ptr 2 0)),
   (.tmp 3, .d (D.ptr 3 0)),
   (.tmp 4, .d (D.int .i64 ((Nat.cast : Nat → Int) (List.length (Book.secs b))))),
   (.tmp 6, .d (.int .i64 i)),
   (.box 1, .bx (some (Box.mk false (cellsOf (bookD b))))),
   (.box 2, .bx (some (Box.mk false [D.nil, D.nil, D.nil, D.int .i64 (0 : Int), D.int .i64 (0 : Int)]))),
   (.box 3, .bx (some (Box.mk false [D.own 28 (List.length (y :: r)), D.sl false E.int (Book.turns b), D.sl true E.sv [], D.int .i64 (Book.rule b), D.int .i64 (Book.days b)]))),
   (.obj 28, .ob (some (Ob.mk E.sec (y :: r)))),
   (.obj 52, .ob none)]
def miB_K2 : List Key := [.tmp 1, .tmp 2, .tmp 3, .tmp 4, .tmp 6, .box 1, .box 2, .box 3, .obj 28, .obj 52]
def miC_S2 (b : Book) (p : Int) (y : Sec) (r : List Sec) (i : Nat) (z : Sv) (q : List Sv) : List (Key × Val) :=
  [(.tmp 1, .d (D.ptr 1 0)),
   (.tmp 2, .d (D.ptr 2 0)),
   (.tmp 3, .d (D.ptr 3 0)),
   (.tmp 4, .d (D.int .i64 ((Nat.cast : Nat → Int) (List.length (Book.secs b))))),
   (.tmp 6, .d (.int .i64 i)),
   (.box 1, .bx (some (Box.mk false (cellsOf (bookD b))))),
   (.box 2, .bx (some (Box.mk false [D.nil, D.nil, D.nil, D.int .i64 (0 : Int), D.int .i64 (0 : Int)]))),
   (.box 3, .bx (some ⟨false, [.own 28 (y :: r).length, .sl false .int b.turns, .own 52 (z :: q).length, .int .i64 b.rule, .int .i64 b.days]⟩)),
   (.obj 28, .ob (some (Ob.mk E.sec (y :: r)))),
   (.obj 52, .ob (some ⟨.sv, z :: q⟩))]
def miC_K2 : List Key := [.tmp 1, .tmp 2, .tmp 3, .tmp 4, .tmp 6, .box 1, .box 2, .box 3, .obj 28, .obj 52]
theorem miB_0_on (b : Book) (p : Int) (y : Sec) (r : List Sec) :
    runK (mk Proofs.Tryd.prog (lookN types) glob 55) [(17, true)] [] [] (Code.at [1, 1, 1, 0, 1, 0, 0] (body Proofs.Tryd.f53)) (miB_S0 b p y r) miB_K0 =
      some ([decide (p ≥ (0 : Int)) = true, (0 : Int) ≤ p ∧ p < (Nat.cast : Nat → Int) (List.length (Book.secs b)), 0 + 4 ≤ 4, List.length (y :: r) = List.length ((y :: r)), List.length ((y :: r) ++ [Sec.mk (Span.mk (Span.lo (Sec.t (List.getD (Book.secs b) (Int.toNat p) (E.z E.sec)))) (Span.hi (Sec.t (List.getD (Book.secs b) (Int.toNat p) (E.z E.sec))))) (Span.mk (Span.lo (Sec.w (List.getD (Book.secs b) (Int.toNat p) (E.z E.sec)))) (Span.hi (Sec.w (List.getD (Book.secs b) (Int.toNat p) (E.z E.sec)))))]) * (32 + 1) ≤ 140737488355328, List.length ((y :: r) ++ [Sec.mk (Span.mk (Span.lo (Sec.t (List.getD (Book.secs b) (Int.toNat p) (E.z E.sec)))) (Span.hi (Sec.t (List.getD (Book.secs b) (Int.toNat p) (E.z E.sec))))) (Span.mk (Span.lo (Sec.w (List.getD (Book.secs b) (Int.toNat p) (E.z E.sec)))) (Span.hi (Sec.w (List.getD (Book.secs b) (Int.toNat p) (E.z E.sec)))))]) = List.length (((y :: r) ++ [Sec.mk (Span.mk (Span.lo (Sec.t (List.getD (Book.secs b) (Int.toNat p) (E.z E.sec)))) (Span.hi (Sec.t (List.getD (Book.secs b) (Int.toNat p) (E.z E.sec))))) (Span.mk (Span.lo (Sec.w (List.getD (Book.secs b) (Int.toNat p) (E.z E.sec)))) (Span.hi (Sec.w (List.getD (Book.secs b) (Int.toNat p) (E.z E.sec)))))])), inI64 (p - (1 : Int))], Ex.normal, [(.tmp 1, .d (D.ptr 1 0)), (.tmp 2, .d (D.ptr 2 0)), (.tmp 3, .d (D.ptr 3 0)), (.tmp 4, .d (D.int .i64 ((Nat.cast : Nat → Int) (List.length (Book.secs b))))), (.tmp 5, .d (D.int .i64 (p - (1 : Int)))), (.box 1, .bx (some (Box.mk false (cellsOf (bookD b))))), (.box 2, .bx (some (Box.mk false [D.nil, D.nil, D.nil, D.int .i64 (0 : Int), D.int .i64 (0 : Int)]))), (.box 3, .bx (some (Box.mk false [D.own 28 (List.length ((y :: r) ++ [Sec.mk (Span.mk (Span.lo (Sec.t (List.getD (Book.secs b) (Int.toNat p) (E.z E.sec)))) (Span.hi (Sec.t (List.getD (Book.secs b) (Int.toNat p) (E.z E.sec))))) (Span.mk (Span.lo (Sec.w (List.getD (Book.secs b) (Int.toNat p) (E.z E.sec)))) (Span.hi (Sec.w (List.getD (Book.secs b) (Int.toNat p) (E.z E.sec)))))])), D.sl false E.int (Book.turns b), D.sl true E.sv [], D.int .i64 (Book.rule b), D.int .i64 (Book.days b)]))), (.obj 28, .ob (some (Ob.mk E.sec ((y :: r) ++ [Sec.mk (Span.mk (Span.lo (Sec.t (List.getD (Book.secs b) (Int.toNat p) (E.z E.sec)))) (Span.hi (Sec.t (List.getD (Book.secs b) (Int.toNat p) (E.z E.sec))))) (Span.mk (Span.lo (Sec.w (List.getD (Book.secs b) (Int.toNat p) (E.z E.sec)))) (Span.hi (Sec.w (List.getD (Book.secs b) (Int.toNat p) (E.z E.sec)))))]))))]) := by kernel_rfl
theorem miB_0_end (b : Book) (p : Int) (y : Sec) (r : List Sec) :
    runK (mk Proofs.Tryd.prog (lookN types) glob 55) [(17, false)] [] [] (Code.at [1, 1, 1, 0, 1, 0, 0] (body Proofs.Tryd.f53)) (miB_S0 b p y r) miB_K0 =
      some ([decide (p ≥ (0 : Int)) = false], Ex.exit 0, [(.tmp 1, .d (D.ptr 1 0)), (.tmp 2, .d (D.ptr 2 0)), (.tmp 3, .d (D.ptr 3 0)), (.tmp 4, .d (D.int .i64 ((Nat.cast : Nat → Int) (List.length (Book.secs b))))), (.tmp 5, .d (D.int .i64 p)), (.box 1, .bx (some (Box.mk false (cellsOf (bookD b))))), (.box 2, .bx (some (Box.mk false [D.nil, D.nil, D.nil, D.int .i64 (0 : Int), D.int .i64 (0 : Int)]))), (.box 3, .bx (some (Box.mk false [D.own 28 (List.length (y :: r)), D.sl false E.int (Book.turns b), D.sl true E.sv [], D.int .i64 (Book.rule b), D.int .i64 (Book.days b)]))), (.obj 28, .ob (some (Ob.mk E.sec (y :: r))))]) := by kernel_rfl
theorem miB_2_on (b : Book) (p : Int) (y : Sec) (r : List Sec) (i : Nat) :
    runK (mk Proofs.Tryd.prog (lookN types) glob 55) [(34, true)] [] [] (Code.at [1, 1, 1, 1, 0, 1, 0, 0] (body Proofs.Tryd.f53)) (miB_S2 b p y r i) miC_K2 =
      some ([decide ((Nat.cast : Nat → Int) i < (Nat.cast : Nat → Int) (List.length (Book.svs b))) = true, (0 : Int) ≤ (Nat.cast : Nat → Int) i ∧ (Nat.cast : Nat → Int) i < (Nat.cast : Nat → Int) (List.length (Book.svs b)), 0 + 4 ≤ 4, inI64 ((Nat.cast : Nat → Int) (List.length (Book.secs b)) - (1 : Int)), 0 + 0 + 1 ≤ 4, inI64 ((Nat.cast : Nat → Int) (List.length (Book.secs b)) - (1 : Int) - Sv.s (List.getD (Book.svs b) (Int.toNat ((Nat.cast : Nat → Int) i)) (E.z E.sv))), 0 + 4 ≤ 4, 1 * (32 + 1) ≤ 140737488355328, 1 = 1, inI64 ((Nat.cast : Nat → Int) i + (1 : Int))], Ex.normal, [(.tmp 1, .d (D.ptr 1 0)), (.tmp 2, .d (D.ptr 2 0)), (.tmp 3, .d (D.ptr 3 0)), (.tmp 4, .d (D.int .i64 ((Nat.cast : Nat → Int) (List.length (Book.secs b))))), (.tmp 6, .d (D.int .i64 ((Nat.cast : Nat → Int) i + (1 : Int)))), (.box 1, .bx (some (Box.mk false (cellsOf (bookD b))))), (.box 2, .bx (some (Box.mk false [D.nil, D.nil, D.nil, D.int .i64 (0 : Int), D.int .i64 (0 : Int)]))), (.box 3, .bx (some (Box.mk false [D.own 28 (List.length (y :: r)), D.sl false E.int (Book.turns b), D.own 52 1, D.int .i64 (Book.rule b), D.int .i64 (Book.days b)]))), (.obj 28, .ob (some (Ob.mk E.sec (y :: r)))), (.obj 52, .ob (some (Ob.mk E.sv ([] ++ [Sv.mk ((Nat.cast : Nat → Int) (List.length (Book.secs b)) - (1 : Int) - Sv.s (List.getD (Book.svs b) (Int.toNat ((Nat.cast : Nat → Int) i)) (E.z E.sv))) (Sv.d (List.getD (Book.svs b) (Int.toNat ((Nat.cast : Nat → Int) i)) (E.z E.sv))) (Sv.r (List.getD (Book.svs b) (Int.toNat ((Nat.cast : Nat → Int) i)) (E.z E.sv))) (Sv.e (List.getD (Book.svs b) (Int.toNat ((Nat.cast : Nat → Int) i)) (E.z E.sv)))]))))]) := by kernel_rfl
theorem miB_2_end (b : Book) (p : Int) (y : Sec) (r : List Sec) (i : Nat) :
    runK (mk Proofs.Tryd.prog (lookN types) glob 55) [(34, false)] [] [] (Code.at [1, 1, 1, 1, 0, 1, 0, 0] (body Proofs.Tryd.f53)) (miB_S2 b p y r i) miB_K2 =
      some ([decide ((Nat.cast : Nat → Int) i < (Nat.cast : Nat → Int) (List.length (Book.svs b))) = false], Ex.exit 2, [(.tmp 1, .d (D.ptr 1 0)), (.tmp 2, .d (D.ptr 2 0)), (.tmp 3, .d (D.ptr 3 0)), (.tmp 4, .d (D.int .i64 ((Nat.cast : Nat → Int) (List.length (Book.secs b))))), (.tmp 6, .d (D.int .i64 ((Nat.cast : Nat → Int) i))), (.box 1, .bx (some (Box.mk false (cellsOf (bookD b))))), (.box 2, .bx (some (Box.mk false [D.nil, D.nil, D.nil, D.int .i64 (0 : Int), D.int .i64 (0 : Int)]))), (.box 3, .bx (some (Box.mk false [D.own 28 (List.length (y :: r)), D.sl false E.int (Book.turns b), D.sl true E.sv [], D.int .i64 (Book.rule b), D.int .i64 (Book.days b)]))), (.obj 28, .ob (some (Ob.mk E.sec (y :: r)))), (.obj 52, .ob Option.none)]) := by kernel_rfl
theorem miC_2_on (b : Book) (p : Int) (y : Sec) (r : List Sec) (i : Nat) (z : Sv) (q : List Sv) :
    runK (mk Proofs.Tryd.prog (lookN types) glob 55) [(34, true)] [] [] (Code.at [1, 1, 1, 1, 0, 1, 0, 0] (body Proofs.Tryd.f53)) (miC_S2 b p y r i z q) miC_K2 =
      some ([decide ((Nat.cast : Nat → Int) i < (Nat.cast : Nat → Int) (List.length (Book.svs b))) = true, (0 : Int) ≤ (Nat.cast : Nat → Int) i ∧ (Nat.cast : Nat → Int) i < (Nat.cast : Nat → Int) (List.length (Book.svs b)), 0 + 4 ≤ 4, inI64 ((Nat.cast : Nat → Int) (List.length (Book.secs b)) - (1 : Int)), 0 + 0 + 1 ≤ 4, inI64 ((Nat.cast : Nat → Int) (List.length (Book.secs b)) - (1 : Int) - Sv.s (List.getD (Book.svs b) (Int.toNat ((Nat.cast : Nat → Int) i)) (E.z E.sv))), 0 + 4 ≤ 4, List.length (z :: q) = List.length ((z :: q)), List.length ((z :: q) ++ [Sv.mk ((Nat.cast : Nat → Int) (List.length (Book.secs b)) - (1 : Int) - Sv.s (List.getD (Book.svs b) (Int.toNat ((Nat.cast : Nat → Int) i)) (E.z E.sv))) (Sv.d (List.getD (Book.svs b) (Int.toNat ((Nat.cast : Nat → Int) i)) (E.z E.sv))) (Sv.r (List.getD (Book.svs b) (Int.toNat ((Nat.cast : Nat → Int) i)) (E.z E.sv))) (Sv.e (List.getD (Book.svs b) (Int.toNat ((Nat.cast : Nat → Int) i)) (E.z E.sv)))]) * (32 + 1) ≤ 140737488355328, List.length ((z :: q) ++ [Sv.mk ((Nat.cast : Nat → Int) (List.length (Book.secs b)) - (1 : Int) - Sv.s (List.getD (Book.svs b) (Int.toNat ((Nat.cast : Nat → Int) i)) (E.z E.sv))) (Sv.d (List.getD (Book.svs b) (Int.toNat ((Nat.cast : Nat → Int) i)) (E.z E.sv))) (Sv.r (List.getD (Book.svs b) (Int.toNat ((Nat.cast : Nat → Int) i)) (E.z E.sv))) (Sv.e (List.getD (Book.svs b) (Int.toNat ((Nat.cast : Nat → Int) i)) (E.z E.sv)))]) = List.length (((z :: q) ++ [Sv.mk ((Nat.cast : Nat → Int) (List.length (Book.secs b)) - (1 : Int) - Sv.s (List.getD (Book.svs b) (Int.toNat ((Nat.cast : Nat → Int) i)) (E.z E.sv))) (Sv.d (List.getD (Book.svs b) (Int.toNat ((Nat.cast : Nat → Int) i)) (E.z E.sv))) (Sv.r (List.getD (Book.svs b) (Int.toNat ((Nat.cast : Nat → Int) i)) (E.z E.sv))) (Sv.e (List.getD (Book.svs b) (Int.toNat ((Nat.cast : Nat → Int) i)) (E.z E.sv)))])), inI64 ((Nat.cast : Nat → Int) i + (1 : Int))], Ex.normal, [(.tmp 1, .d (D.ptr 1 0)), (.tmp 2, .d (D.ptr 2 0)), (.tmp 3, .d (D.ptr 3 0)), (.tmp 4, .d (D.int .i64 ((Nat.cast : Nat → Int) (List.length (Book.secs b))))), (.tmp 6, .d (D.int .i64 ((Nat.cast : Nat → Int) i + (1 : Int)))), (.box 1, .bx (some (Box.mk false (cellsOf (bookD b))))), (.box 2, .bx (some (Box.mk false [D.nil, D.nil, D.nil, D.int .i64 (0 : Int), D.int .i64 (0 : Int)]))), (.box 3, .bx (some (Box.mk false [D.own 28 (List.length (y :: r)), D.sl false E.int (Book.turns b), D.own 52 (List.length ((z :: q) ++ [Sv.mk ((Nat.cast : Nat → Int) (List.length (Book.secs b)) - (1 : Int) - Sv.s (List.getD (Book.svs b) (Int.toNat ((Nat.cast : Nat → Int) i)) (E.z E.sv))) (Sv.d (List.getD (Book.svs b) (Int.toNat ((Nat.cast : Nat → Int) i)) (E.z E.sv))) (Sv.r (List.getD (Book.svs b) (Int.toNat ((Nat.cast : Nat → Int) i)) (E.z E.sv))) (Sv.e (List.getD (Book.svs b) (Int.toNat ((Nat.cast : Nat → Int) i)) (E.z E.sv)))])), D.int .i64 (Book.rule b), D.int .i64 (Book.days b)]))), (.obj 28, .ob (some (Ob.mk E.sec (y :: r)))), (.obj 52, .ob (some (Ob.mk E.sv ((z :: q) ++ [Sv.mk ((Nat.cast : Nat → Int) (List.length (Book.secs b)) - (1 : Int) - Sv.s (List.getD (Book.svs b) (Int.toNat ((Nat.cast : Nat → Int) i)) (E.z E.sv))) (Sv.d (List.getD (Book.svs b) (Int.toNat ((Nat.cast : Nat → Int) i)) (E.z E.sv))) (Sv.r (List.getD (Book.svs b) (Int.toNat ((Nat.cast : Nat → Int) i)) (E.z E.sv))) (Sv.e (List.getD (Book.svs b) (Int.toNat ((Nat.cast : Nat → Int) i)) (E.z E.sv)))]))))]) := by kernel_rfl
theorem miC_2_end (b : Book) (p : Int) (y : Sec) (r : List Sec) (i : Nat) (z : Sv) (q : List Sv) :
    runK (mk Proofs.Tryd.prog (lookN types) glob 55) [(34, false)] [] [] (Code.at [1, 1, 1, 1, 0, 1, 0, 0] (body Proofs.Tryd.f53)) (miC_S2 b p y r i z q) miC_K2 =
      some ([decide ((Nat.cast : Nat → Int) i < (Nat.cast : Nat → Int) (List.length (Book.svs b))) = false], Ex.exit 2, [(.tmp 1, .d (D.ptr 1 0)), (.tmp 2, .d (D.ptr 2 0)), (.tmp 3, .d (D.ptr 3 0)), (.tmp 4, .d (D.int .i64 ((Nat.cast : Nat → Int) (List.length (Book.secs b))))), (.tmp 6, .d (D.int .i64 ((Nat.cast : Nat → Int) i))), (.box 1, .bx (some (Box.mk false (cellsOf (bookD b))))), (.box 2, .bx (some (Box.mk false [D.nil, D.nil, D.nil, D.int .i64 (0 : Int), D.int .i64 (0 : Int)]))), (.box 3, .bx (some (Box.mk false [D.own 28 (List.length (y :: r)), D.sl false E.int (Book.turns b), D.own 52 (List.length (z :: q)), D.int .i64 (Book.rule b), D.int .i64 (Book.days b)]))), (.obj 28, .ob (some (Ob.mk E.sec (y :: r)))), (.obj 52, .ob (some (Ob.mk E.sv (z :: q))))]) := by kernel_rfl
theorem miA_0_on (b : Book) (p : Int) :
    runK (mk Proofs.Tryd.prog (lookN types) glob 55) [(17, true)] [] [] (Code.at [1, 1, 1, 0, 1, 0, 0] (body Proofs.Tryd.f53)) (miA_S0 b p) miB_K0 =
      some ([decide (p ≥ (0 : Int)) = true, (0 : Int) ≤ p ∧ p < (Nat.cast : Nat → Int) (List.length (Book.secs b)), 0 + 4 ≤ 4, 1 * (32 + 1) ≤ 140737488355328, 1 = 1, inI64 (p - (1 : Int))], Ex.normal, [(.tmp 1, .d (D.ptr 1 0)), (.tmp 2, .d (D.ptr 2 0)), (.tmp 3, .d (D.ptr 3 0)), (.tmp 4, .d (D.int .i64 ((Nat.cast : Nat → Int) (List.length (Book.secs b))))), (.tmp 5, .d (D.int .i64 (p - (1 : Int)))), (.box 1, .bx (some (Box.mk false (cellsOf (bookD b))))), (.box 2, .bx (some (Box.mk false [D.nil, D.nil, D.nil, D.int .i64 (0 : Int), D.int .i64 (0 : Int)]))), (.box 3, .bx (some (Box.mk false [D.own 28 1, D.sl false E.int (Book.turns b), D.sl true E.sv [], D.int .i64 (Book.rule b), D.int .i64 (Book.days b)]))), (.obj 28, .ob (some (Ob.mk E.sec ([] ++ [Sec.mk (Span.mk (Span.lo (Sec.t (List.getD (Book.secs b) (Int.toNat p) (E.z E.sec)))) (Span.hi (Sec.t (List.getD (Book.secs b) (Int.toNat p) (E.z E.sec))))) (Span.mk (Span.lo (Sec.w (List.getD (Book.secs b) (Int.toNat p) (E.z E.sec)))) (Span.hi (Sec.w (List.getD (Book.secs b) (Int.toNat p) (E.z E.sec)))))]))))]) := by kernel_rfl
theorem miA_0_end (b : Book) (p : Int) :
    runK (mk Proofs.Tryd.prog (lookN types) glob 55) [(17, false)] [] [] (Code.at [1, 1, 1, 0, 1, 0, 0] (body Proofs.Tryd.f53)) (miA_S0 b p) miA_K0 =
      some ([decide (p ≥ (0 : Int)) = false], Ex.exit 0, [(.tmp 1, .d (D.ptr 1 0)), (.tmp 2, .d (D.ptr 2 0)), (.tmp 3, .d (D.ptr 3 0)), (.tmp 4, .d (D.int .i64 ((Nat.cast : Nat → Int) (List.length (Book.secs b))))), (.tmp 5, .d (D.int .i64 p)), (.box 1, .bx (some (Box.mk false (cellsOf (bookD b))))), (.box 2, .bx (some (Box.mk false [D.nil, D.nil, D.nil, D.int .i64 (0 : Int), D.int .i64 (0 : Int)]))), (.box 3, .bx (some (Box.mk false [D.sl true E.sec [], D.sl false E.int (Book.turns b), D.sl true E.sv [], D.int .i64 (Book.rule b), D.int .i64 (Book.days b)]))), (.obj 28, .ob Option.none)]) := by kernel_rfl
theorem cmir_0_on (b : Book) (n0 n1 : Int) (b1 : Book) (i d : Int) (s u : Span) (e g k1 e1 g1 : Int) (l o : List Int) (p : Nat) (z : Int) :
    runK (mk Proofs.Tryd.prog (lookN types) glob 195) [(141, true), (153, false)] [(152, .int .i64 z)] [] (Code.at [1, 1, 1, 1, 1, 1, 1, 1, 1, 1, 1, 1, 1, 1, 0, 1, 0, 0] (body Proofs.Tryd.f10)) (cmir_S0 b n0 n1 b1 i d s u e g k1 e1 g1 l o p) cmir_K0 =
      some ([decide ((Nat.cast : Nat → Int) p < (Nat.cast : Nat → Int) (List.length l)) = true, inI64 ((Nat.cast : Nat → Int) (List.length (Book.secs b)) - (1 : Int)), (0 : Int) ≤ (Nat.cast : Nat → Int) p ∧ (Nat.cast : Nat → Int) p < (Nat.cast : Nat → Int) (List.length l), 0 + 1 ≤ 1, inI64 ((Nat.cast : Nat → Int) (List.length (Book.secs b)) - (1 : Int) - List.getD l (Int.toNat ((Nat.cast : Nat → Int) p)) (E.z E.int)), Contract Proofs.Tryd.prog glob 46 [D.sl false E.int o, D.int .i64 ((Nat.cast : Nat → Int) (List.length (Book.secs b)) - (1 : Int) - List.getD l (Int.toNat ((Nat.cast : Nat → Int) p)) (E.z E.int))] (D.int .i64 z), decide (z < (0 : Int)) = false, inI64 ((Nat.cast : Nat → Int) p + (1 : Int))], Ex.normal, [(.tmp 2, .d (D.ptr 2 0)), (.tmp 5, .d (D.ptr 5 0)), (.tmp 6, .d (D.int .i64 ((Nat.cast : Nat → Int) (List.length (Book.secs b))))), (.tmp 19, .d (D.sl true E.int l)), (.tmp 20, .d (D.sl true E.int o)), (.tmp 21, .d (D.int .i64 ((Nat.cast : Nat → Int) p + (1 : Int)))), (.box 2, .bx (some (Box.mk false (cellsOf (bookD b))))), (.box 5, .bx (some (Box.mk false (cellsOf (bookD b1)))))]) := by kernel_rfl
theorem cmir_0_end (b : Book) (n0 n1 : Int) (b1 : Book) (i d : Int) (s u : Span) (e g k1 e1 g1 : Int) (l o : List Int) (p : Nat) :
    runK (mk Proofs.Tryd.prog (lookN types) glob 195) [(141, false)] [] [] (Code.at [1, 1, 1, 1, 1, 1, 1, 1, 1, 1, 1, 1, 1, 1, 0, 1, 0, 0] (body Proofs.Tryd.f10)) (cmir_S0 b n0 n1 b1 i d s u e g k1 e1 g1 l o p) cmir_K0 =
      some ([decide ((Nat.cast : Nat → Int) p < (Nat.cast : Nat → Int) (List.length l)) = false], Ex.exit 0, [(.tmp 2, .d (D.ptr 2 0)), (.tmp 5, .d (D.ptr 5 0)), (.tmp 6, .d (D.int .i64 ((Nat.cast : Nat → Int) (List.length (Book.secs b))))), (.tmp 19, .d (D.sl true E.int l)), (.tmp 20, .d (D.sl true E.int o)), (.tmp 21, .d (D.int .i64 ((Nat.cast : Nat → Int) p))), (.box 2, .bx (some (Box.mk false (cellsOf (bookD b))))), (.box 5, .bx (some (Box.mk false (cellsOf (bookD b1)))))]) := by kernel_rfl
theorem miB_none (b : Book) (p : Int) (y : Sec) (r : List Sec) (i : Nat) :
    callF (mk Proofs.Tryd.prog (lookN types) glob 55) [] [] [(0, (miB_K0, (.normal, miB_S0 b p y r))), (2, (miB_K2, (.normal, miB_S2 b p y r i)))] (body Proofs.Tryd.f53) [.cell 2 26] [bookD b] =
      some ([inI64 ((Nat.cast : Nat → Int) (List.length (Book.secs b)) - (1 : Int)), LoopT Proofs.Tryd.prog glob 55 (Code.at [1, 1, 1, 0, 1] (body Proofs.Tryd.f53)) [(.tmp 1, .d (D.ptr 1 0)), (.tmp 2, .d (D.ptr 2 0)), (.tmp 3, .d (D.ptr 3 0)), (.tmp 4, .d (D.int .i64 ((Nat.cast : Nat → Int) (List.length (Book.secs b))))), (.tmp 5, .d (D.int .i64 ((Nat.cast : Nat → Int) (List.length (Book.secs b)) - (1 : Int)))), (.box 1, .bx (some (Box.mk false (cellsOf (bookD b))))), (.box 2, .bx (some (Box.mk false [D.nil, D.nil, D.nil, D.int .i64 (0 : Int), D.int .i64 (0 : Int)]))), (.box 3, .bx (some (Box.mk false [D.sl true E.sec [], D.sl false E.int (Book.turns b), D.sl true E.sv [], D.int .i64 (Book.rule b), D.int .i64 (Book.days b)]))), (.obj 28, .ob Option.none)] Ex.normal (miB_S0 b p y r), LoopT Proofs.Tryd.prog glob 55 (Code.at [1, 1, 1, 1, 0, 1] (body Proofs.Tryd.f53)) [(.tmp 1, .d (D.ptr 1 0)), (.tmp 2, .d (D.ptr 2 0)), (.tmp 3, .d (D.ptr 3 0)), (.tmp 4, .d (D.int .i64 ((Nat.cast : Nat → Int) (List.length (Book.secs b))))), (.tmp 6, .d (D.int .i64 (0 : Int))), (.box 1, .bx (some (Box.mk false (cellsOf (bookD b))))), (.box 2, .bx (some (Box.mk false [D.nil, D.nil, D.nil, D.int .i64 (0 : Int), D.int .i64 (0 : Int)]))), (.box 3, .bx (some (Box.mk false [D.own 28 (List.length (y :: r)), D.sl false E.int (Book.turns b), D.sl true E.sv [], D.int .i64 (Book.rule b), D.int .i64 (Book.days b)]))), (.obj 28, .ob (some (Ob.mk E.sec (y :: r)))), (.obj 52, .ob Option.none)] Ex.normal (miB_S2 b p y r i), List.length (y :: r) = List.length ((y :: r)), List.length (y :: r) = List.length ((y :: r))], D.agg [D.sl false E.sec ((y :: r)), D.sl false E.int (Book.turns b), D.sl true E.sv [], D.int .i64 (Book.rule b), D.int .i64 (Book.days b)]) := by kernel_rfl
theorem miB_some (b : Book) (p : Int) (y : Sec) (r : List Sec) (i : Nat) (z : Sv) (q : List Sv) :
    callF (mk Proofs.Tryd.prog (lookN types) glob 55) [] [] [(0, (miB_K0, (.normal, miB_S0 b p y r))), (2, (miC_K2, (.normal, miC_S2 b p y r i z q)))] (body Proofs.Tryd.f53) [.cell 2 26] [bookD b] =
      some ([inI64 ((Nat.cast : Nat → Int) (List.length (Book.secs b)) - (1 : Int)), LoopT Proofs.Tryd.prog glob 55 (Code.at [1, 1, 1, 0, 1] (body Proofs.Tryd.f53)) [(.tmp 1, .d (D.ptr 1 0)), (.tmp 2, .d (D.ptr 2 0)), (.tmp 3, .d (D.ptr 3 0)), (.tmp 4, .d (D.int .i64 ((Nat.cast : Nat → Int) (List.length (Book.secs b))))), (.tmp 5, .d (D.int .i64 ((Nat.cast : Nat → Int) (List.length (Book.secs b)) - (1 : Int)))), (.box 1, .bx (some (Box.mk false (cellsOf (bookD b))))), (.box 2, .bx (some (Box.mk false [D.nil, D.nil, D.nil, D.int .i64 (0 : Int), D.int .i64 (0 : Int)]))), (.box 3, .bx (some (Box.mk false [D.sl true E.sec [], D.sl false E.int (Book.turns b), D.sl true E.sv [], D.int .i64 (Book.rule b), D.int .i64 (Book.days b)]))), (.obj 28, .ob Option.none)] Ex.normal (miB_S0 b p y r), LoopT Proofs.Tryd.prog glob 55 (Code.at [1, 1, 1, 1, 0, 1] (body Proofs.Tryd.f53)) [(.tmp 1, .d (D.ptr 1 0)), (.tmp 2, .d (D.ptr 2 0)), (.tmp 3, .d (D.ptr 3 0)), (.tmp 4, .d (D.int .i64 ((Nat.cast : Nat → Int) (List.length (Book.secs b))))), (.tmp 6, .d (D.int .i64 (0 : Int))), (.box 1, .bx (some (Box.mk false (cellsOf (bookD b))))), (.box 2, .bx (some (Box.mk false [D.nil, D.nil, D.nil, D.int .i64 (0 : Int), D.int .i64 (0 : Int)]))), (.box 3, .bx (some (Box.mk false [D.own 28 (List.length (y :: r)), D.sl false E.int (Book.turns b), D.sl true E.sv [], D.int .i64 (Book.rule b), D.int .i64 (Book.days b)]))), (.obj 28, .ob (some (Ob.mk E.sec (y :: r)))), (.obj 52, .ob Option.none)] Ex.normal (miC_S2 b p y r i z q), List.length (y :: r) = List.length ((y :: r)), List.length (z :: q) = List.length ((z :: q)), List.length (y :: r) = List.length ((y :: r)), List.length (z :: q) = List.length ((z :: q))], D.agg [D.sl false E.sec ((y :: r)), D.sl false E.int (Book.turns b), D.sl false E.sv ((z :: q)), D.int .i64 (Book.rule b), D.int .i64 (Book.days b)]) := by kernel_rfl
theorem cmir_bad (b : Book) (n0 n1 : Int) :
    callF (mk Proofs.Tryd.prog (lookN types) glob 195) [] [(23, .bool false), (25, .bool true)] [] (body Proofs.Tryd.f10) [.tmp 4] [bookD b, .agg [.int .i64 n0, .int .i64 n1]] =
      some ([Contract Proofs.Tryd.prog glob 33 [bookD b] (D.bool false), Contract Proofs.Tryd.prog glob 30 [] (D.bool true)], D.bool true) := by kernel_rfl
theorem cmir_ok (b : Book) (n0 n1 : Int) (b1 : Book) (i d : Int) (s u : Span) (e g k1 e1 g1 : Int) (l o : List Int) (p : Nat) (k3 e3 g3 : Int) (w : List Int) :
    callF (mk Proofs.Tryd.prog (lookN types) glob 195) [(76, false), (81, false), (86, false), (90, false), (121, false), (126, false), (131, false), (137, false), (177, true), (182, true), (192, true)] [(23, .bool true), (27, bookD b1), (34, .int .i64 i), (40, .int .i64 d), (45, .tup [spD s, .int .i64 e]), (55, .tup [spD s, .int .i64 e]), (61, .tup [spD u, .int .i64 g]), (70, .tup [spD u, .int .i64 g]), (94, .tup [.int .i64 k1, .int .i64 e1]), (103, .tup [.int .i64 k1, .int .i64 e1]), (109, .tup [.sl true .int l, .int .i64 g1]), (115, .tup [.sl true .int o, .int .i64 g1]), (156, .tup [.int .i64 k3, .int .i64 e3]), (161, .tup [.int .i64 k3, .int .i64 e3]), (166, .tup [.sl true .int w, .int .i64 g3]), (171, .tup [.sl true .int w, .int .i64 g3]), (185, .bool true), (193, .bool true)] [(0, (cmir_K0, (.normal, cmir_S0 b n0 n1 b1 i d s u e g k1 e1 g1 l o p)))] (body Proofs.Tryd.f10) [.tmp 4] [bookD b, .agg [.int .i64 n0, .int .i64 n1]] =
      some ([Contract Proofs.Tryd.prog glob 33 [bookD b] (D.bool true), Contract Proofs.Tryd.prog glob 53 [bookD b] (bookD b1), (0 : Int) ≤ (0 : Int) ∧ (0 : Int) < (Nat.cast : Nat → Int) 2, 0 + Int.toNat (0 : Int) * 1 + 1 ≤ 2, Contract Proofs.Tryd.prog glob 39 [D.int .i64 n0, D.int .i64 ((Nat.cast : Nat → Int) (List.length (Book.secs b)))] (D.int .i64 i), (0 : Int) ≤ (1 : Int) ∧ (1 : Int) < (Nat.cast : Nat → Int) 2, 0 + Int.toNat (1 : Int) * 1 + 1 ≤ 2, inI64 (Book.days b + (1 : Int)), Contract Proofs.Tryd.prog glob 39 [D.int .i64 n1, D.int .i64 (Book.days b + (1 : Int))] (D.int .i64 d), Contract Proofs.Tryd.prog glob 41 [bookD b, D.int .i64 i, D.int .i64 d] (D.tup [D.agg [D.int .i64 (Span.lo s), D.int .i64 (Span.hi s)], D.int .i64 e]), inI64 ((Nat.cast : Nat → Int) (List.length (Book.secs b)) - (1 : Int)), inI64 ((Nat.cast : Nat → Int) (List.length (Book.secs b)) - (1 : Int) - i), Contract Proofs.Tryd.prog glob 41 [bookD b1, D.int .i64 ((Nat.cast : Nat → Int) (List.length (Book.secs b)) - (1 : Int) - i), D.int .i64 d] (D.tup [D.agg [D.int .i64 (Span.lo s), D.int .i64 (Span.hi s)], D.int .i64 e]), Contract Proofs.Tryd.prog glob 42 [bookD b, D.int .i64 i] (D.tup [D.agg [D.int .i64 (Span.lo u), D.int .i64 (Span.hi u)], D.int .i64 g]), inI64 ((Nat.cast : Nat → Int) (List.length (Book.secs b)) - (1 : Int)), inI64 ((Nat.cast : Nat → Int) (List.length (Book.secs b)) - (1 : Int) - i), Contract Proofs.Tryd.prog glob 42 [bookD b1, D.int .i64 ((Nat.cast : Nat → Int) (List.length (Book.secs b)) - (1 : Int) - i)] (D.tup [D.agg [D.int .i64 (Span.lo u), D.int .i64 (Span.hi u)], D.int .i64 g]), 0 + 2 ≤ 2, 0 + 2 ≤ 2, (!eqI [Span.lo s, Span.hi s] [Span.lo s, Span.hi s]) = false, (!eqI [Span.lo s, Span.hi s] [Span.lo s, Span.hi s]) = false, (!eqI [Span.lo s, Span.hi s] [Span.lo s, Span.hi s]) = false, (!eqI [Span.lo s, Span.hi s] [Span.lo s, Span.hi s]) = false, (e != e) = false, 0 + 2 ≤ 2, (e != e) = false, 0 + 2 ≤ 2, (e != e) = false, (e != e) = false, (!eqI [Span.lo u, Span.hi u] [Span.lo u, Span.hi u]) = false, (!eqI [Span.lo u, Span.hi u] [Span.lo u, Span.hi u]) = false, (!eqI [Span.lo u, Span.hi u] [Span.lo u, Span.hi u]) = false, (!eqI [Span.lo u, Span.hi u] [Span.lo u, Span.hi u]) = false, (g != g) = false, Contract Proofs.Tryd.prog glob 43 [bookD b, D.int .i64 i] (D.tup [D.int .i64 k1, D.int .i64 e1]), inI64 ((Nat.cast : Nat → Int) (List.length (Book.secs b)) - (1 : Int)), inI64 ((Nat.cast : Nat → Int) (List.length (Book.secs b)) - (1 : Int) - i), Contract Proofs.Tryd.prog glob 43 [bookD b1, D.int .i64 ((Nat.cast : Nat → Int) (List.length (Book.secs b)) - (1 : Int) - i)] (D.tup [D.int .i64 k1, D.int .i64 e1]), Contract Proofs.Tryd.prog glob 40 [bookD b, D.int .i64 d] (D.tup [D.sl true E.int l, D.int .i64 g1]), Contract Proofs.Tryd.prog glob 40 [bookD b1, D.int .i64 d] (D.tup [D.sl true E.int o, D.int .i64 g1]), (k1 != k1) = false, (k1 != k1) = false, (k1 != k1) = false, (k1 != k1) = false, (e1 != e1) = false, (e1 != e1) = false, (e1 != e1) = false, (e1 != e1) = false, (g1 != g1) = false, (g1 != g1) = false, (g1 != g1) = false, (g1 != g1) = false, (g1 != g1) = false, (g1 != g1) = false, ((Nat.cast : Nat → Int) (List.length l) != (Nat.cast : Nat → Int) (List.length o)) = false, LoopT Proofs.Tryd.prog glob 195 (Code.at [1, 1, 1, 1, 1, 1, 1, 1, 1, 1, 1, 1, 1, 1, 0, 1] (body Proofs.Tryd.f10)) [(.tmp 2, .d (D.ptr 2 0)), (.tmp 5, .d (D.ptr 5 0)), (.tmp 6, .d (D.int .i64 ((Nat.cast : Nat → Int) (List.length (Book.secs b))))), (.tmp 19, .d (D.sl true E.int l)), (.tmp 20, .d (D.sl true E.int o)), (.tmp 21, .d (D.int .i64 (0 : Int))), (.box 2, .bx (some (Box.mk false (cellsOf (bookD b))))), (.box 5, .bx (some (Box.mk false (cellsOf (bookD b1)))))] Ex.normal (cmir_S0 b n0 n1 b1 i d s u e g k1 e1 g1 l o p), Contract Proofs.Tryd.prog glob 54 [bookD b] (D.tup [D.int .i64 k3, D.int .i64 e3]), Contract Proofs.Tryd.prog glob 54 [bookD b1] (D.tup [D.int .i64 k3, D.int .i64 e3]), Contract Proofs.Tryd.prog glob 38 [bookD b] (D.tup [D.sl true E.int w, D.int .i64 g3]), Contract Proofs.Tryd.prog glob 38 [bookD b1] (D.tup [D.sl true E.int w, D.int .i64 g3]), (k3 == k3) = true, (k3 == k3) = true, (k3 == k3) = true, (k3 == k3) = true, (e3 == e3) = true, (e3 == e3) = true, (e3 == e3) = true, Contract Proofs.Tryd.prog glob 55 [D.sl false E.int w, D.sl false E.int w] (D.bool true), (e3 == e3) = true, (g3 == g3) = true, Contract Proofs.Tryd.prog glob 30 [] (D.bool true), (g3 == g3) = true], D.bool true) := by kernel_rfl
end Go.Di

namespace Go.Di

/-! ### A chain told from its other end -/
def pz (b : Book) : Nat → Int
  | 0 => (b.secs.length : Int) - 1
  | i + 1 => pz b i - 1
theorem pz_eq (b : Book) : ∀ i : Nat, pz b i = (b.secs.length : Int) - 1 - i
  | 0 => by simp [pz]
  | i + 1 => by
    simp only [pz]
    rw [pz_eq b i]
    omega
def revTo (b : Book) : Nat → List Sec
  | 0 => []
  | i + 1 => revTo b i ++ [b.secs.getD (pz b i).toNat sec0]
theorem revTo_eq (b : Book) : ∀ i : Nat, i ≤ b.secs.length → revTo b i = b.secs.reverse.take i
  | 0, _ => by simp [revTo]
  | i + 1, h => by
    simp only [revTo]
    rw [revTo_eq b i (by omega), List.take_add_one, List.getElem?_reverse (by omega), List.getD_eq_getElem?_getD]
    have : (pz b i).toNat = b.secs.length - 1 - i := by rw [pz_eq]; omega
    rw [this, List.getElem?_eq_getElem (by omega)]
    rfl
theorem revTo_len (b : Book) : ∀ i : Nat, (revTo b i).length = i
  | 0 => rfl
  | i + 1 => by simp [revTo, revTo_len b i]
def mvTo (b : Book) : Nat → List Sv
  | 0 => []
  | i + 1 => mvTo b i ++ [mirrorY b.secs.length (svZ b i)]
theorem mvTo_eq (b : Book) : ∀ i : Nat, i ≤ b.svs.length → mvTo b i = (b.svs.take i).map (mirrorY b.secs.length)
  | 0, _ => by simp [mvTo]
  | i + 1, h => by
    simp only [mvTo]
    rw [mvTo_eq b i (by omega), List.take_add_one, List.getElem?_eq_getElem (by omega), List.map_append]
    congr 1
    show [mirrorY b.secs.length (b.svs.getD i sv0)] = _
    rw [List.getD_eq_getElem?_getD, List.getElem?_eq_getElem (by omega)]
    rfl
theorem mvTo_len (b : Book) : ∀ i : Nat, (mvTo b i).length = i
  | 0 => rfl
  | i + 1 => by simp [mvTo, mvTo_len b i]
def miS (b : Book) (p : Int) : List Sec → List (Key × Val)
  | [] => miA_S0 b p
  | y :: r => miB_S0 b p y r
theorem mi_round (b : Book) (p : Int) (o : List Sec) (hp : 0 ≤ p ∧ p < b.secs.length) (h4 : b.secs.length ≤ 1000) (hsz : o.length ≤ 1000) :
    WpL Proofs.Tryd.prog (mk Proofs.Tryd.prog (lookN types) glob 55) (Code.at [1, 1, 1, 0, 1, 0, 0] (body Proofs.Tryd.f53)) (miS b p o) fun e1 L1 => e1 = .normal ∧ L1 = miS b (p - 1) (o ++ [b.secs.getD p.toNat sec0]) := by
  have hge : decide (p ≥ 0) = true := decide_eq_true hp.1
  have hi64 : inI64 (p - 1) := by simp only [inI64]; omega
  cases o with
  | nil =>
    refine WpL.path (G 55) (miA_0_on b p) ?_ ⟨rfl, rfl⟩
    repeat (first | exact trivial | refine ⟨by first | exact hge | exact hi64 | exact hp | rfl | omega | (simp; omega), ?_⟩)
  | cons y r =>
    have hz : (y :: r ++ [b.secs.getD p.toNat sec0]).length * (32 + 1) ≤ 140737488355328 := by simp only [List.length_append, List.length_cons, List.length_nil] at hsz ⊢; omega
    refine WpL.path (G 55) (miB_0_on b p y r) ?_ ⟨rfl, rfl⟩
    repeat (first | exact trivial | refine ⟨by first | exact hge | exact hi64 | exact hp | exact hz | rfl | omega, ?_⟩)
def mjS (b : Book) (p : Int) (y : Sec) (r : List Sec) (i : Nat) : List Sv → List (Key × Val)
  | [] => miB_S2 b p y r i
  | z :: q => miC_S2 b p y r i z q
theorem mj_round (b : Book) (p : Int) (y : Sec) (r : List Sec) (i : Nat) (o : List Sv) (hi : i < b.svs.length) (h8 : b.svs.length ≤ 1000) (h4 : b.secs.length ≤ 1000) (hsz : o.length ≤ 1000) (hs : 0 ≤ (svZ b i).s ∧ (svZ b i).s ≤ 1000) :
    WpL Proofs.Tryd.prog (mk Proofs.Tryd.prog (lookN types) glob 55) (Code.at [1, 1, 1, 1, 0, 1, 0, 0] (body Proofs.Tryd.f53)) (mjS b p y r i o) fun e1 L1 => e1 = .normal ∧ L1 = mjS b p y r (i + 1) (o ++ [mirrorY b.secs.length (svZ b i)]) := by
  have hlt : decide ((i : Int) < b.svs.length) = true := decide_eq_true (by omega)
  have hi64 : inI64 ((i : Int) + 1) := by simp only [inI64]; omega
  have i1 : inI64 ((b.secs.length : Int) - 1) := by simp only [inI64]; omega
  have i2 : inI64 ((b.secs.length : Int) - 1 - (svZ b i).s) := by simp only [inI64]; omega
  cases o with
  | nil =>
    refine WpL.path (G 55) (miB_2_on b p y r i) ?_ ⟨rfl, rfl⟩
    repeat (first | exact trivial | refine ⟨by first | exact hlt | exact hi64 | exact i1 | exact i2 | rfl | omega | (simp; omega), ?_⟩)
  | cons z q =>
    have hz : (z :: q ++ [mirrorY b.secs.length (svZ b i)]).length * (32 + 1) ≤ 140737488355328 := by simp only [List.length_append, List.length_cons, List.length_nil] at hsz ⊢; omega
    refine WpL.path (G 55) (miC_2_on b p y r i z q) ?_ ⟨rfl, rfl⟩
    repeat (first | exact trivial | refine ⟨by first | exact hlt | exact hi64 | exact i1 | exact i2 | exact hz | rfl | omega, ?_⟩)
theorem mirror_con {b : Book} (hV : Valid b) : Contract Proofs.Tryd.prog glob 53 [bookD b] (bookD (mirrorF b)) := by
  have hl := hV.secs
  have h8 := hV.svs
  have i1 : inI64 ((b.secs.length : Int) - 1) := by simp only [inI64]; omega
  obtain ⟨y, r, hyr⟩ : ∃ y r, revTo b b.secs.length = y :: r := by
    cases h : revTo b b.secs.length with
    | nil =>
      have := revTo_len b b.secs.length
      rw [h] at this
      simp at this
      omega
    | cons y r => exact ⟨y, r, rfl⟩
  have hsec : y :: r = b.secs.reverse := by
    rw [← hyr, revTo_eq b _ (Nat.le_refl _), ← List.length_reverse, List.take_length]
  have hloop : LoopT Proofs.Tryd.prog glob 55 (Code.at [1, 1, 1, 0, 1] (body Proofs.Tryd.f53)) (miS b ((b.secs.length : Int) - 1) []) .normal (miB_S0 b (pz b b.secs.length) y r) := by
    refine LoopT.count (tt := lookN types) (id := 0) (c := Code.at [1, 1, 1, 0, 1, 0, 0] (body Proofs.Tryd.f53)) (by kernel_rfl) b.secs.length (fun i => miS b (pz b i) (revTo b i)) (fun i hi => ?_) ?_
    · have hp := pz_eq b i
      have := revTo_len b i
      exact mi_round b (pz b i) _ (by omega) (by omega) (by omega)
    · have hp := pz_eq b b.secs.length
      show WpL _ _ _ (miS b (pz b b.secs.length) (revTo b b.secs.length)) _
      rw [hyr]
      exact WpL.path (G 55) (miB_0_end b (pz b b.secs.length) y r) ⟨decide_eq_false (by omega), trivial⟩ ⟨.inl ⟨rfl, rfl⟩, rfl⟩
  have hloop2 : LoopT Proofs.Tryd.prog glob 55 (Code.at [1, 1, 1, 1, 0, 1] (body Proofs.Tryd.f53)) (mjS b (pz b b.secs.length) y r 0 []) .normal (mjS b (pz b b.secs.length) y r b.svs.length (mvTo b b.svs.length)) := by
    refine LoopT.count (tt := lookN types) (id := 2) (c := Code.at [1, 1, 1, 1, 0, 1, 0, 0] (body Proofs.Tryd.f53)) (by kernel_rfl) b.svs.length (fun i => mjS b (pz b b.secs.length) y r i (mvTo b i)) (fun i hi => ?_) ?_
    · have := mvTo_len b i
      have := (survey_iff.1 (hV.sv _ (svZ_mem hi))).1
      exact mj_round b _ y r i _ hi (by omega) (by omega) (by omega) (by omega)
    · cases mvTo b b.svs.length with
      | nil => exact WpL.path (G 55) (miB_2_end b (pz b b.secs.length) y r b.svs.length) ⟨decide_eq_false (Int.lt_irrefl _), trivial⟩ ⟨.inl ⟨rfl, rfl⟩, rfl⟩
      | cons z q => exact WpL.path (G 55) (miC_2_end b (pz b b.secs.length) y r b.svs.length z q) ⟨decide_eq_false (Int.lt_irrefl _), trivial⟩ ⟨.inl ⟨rfl, rfl⟩, rfl⟩
  have hsv : mvTo b b.svs.length = b.svs.map (mirrorY b.secs.length) := by rw [mvTo_eq b _ (Nat.le_refl _), List.take_length]
  unfold mirrorF
  rw [← hsec, ← hsv]
  cases hw : mvTo b b.svs.length with
  | nil =>
    rw [hw] at hloop2
    refine (contract_of_path (G 55) miB_fn (miB_none b (pz b b.secs.length) y r b.svs.length) ?_).toWeak
    repeat (first | exact trivial | refine ⟨by first | exact hloop | exact hloop2 | exact i1 | rfl | omega, ?_⟩)
  | cons z q =>
    rw [hw] at hloop2
    refine (contract_of_path (G 55) miB_fn (miB_some b (pz b b.secs.length) y r b.svs.length z q) ?_).toWeak
    repeat (first | exact trivial | refine ⟨by first | exact hloop | exact hloop2 | exact i1 | rfl | omega, ?_⟩)

/-! ### The law ChainMirror -/
theorem cmir_con {b : Book} (hs : Small b) (n0 n1 : Int) : Contract Proofs.Tryd.prog glob 10 [bookD b, .agg [.int .i64 n0, .int .i64 n1]] (.bool true) := by
  have hso := sound_con hs
  have hfg := forged_con
  cases hv : validF b with
  | false =>
    rw [hv] at hso
    exact contract_of_path (G 195) cmir_fn (cmir_bad b n0 n1) ⟨hso, hfg, trivial⟩
  | true =>
    rw [hv] at hso
    have hV := valid_iff.1 hv
    have hl := hV.secs
    have hdd := hV.days
    have h8 := hV.svs
    have hVm := mirror_valid hV
    have hvm : validF (mirrorF b) = true := valid_iff.2 hVm
    have hlen : (mirrorF b).secs.length = b.secs.length := List.length_reverse
    have hsm : Small (mirrorF b) := ⟨by rw [hlen]; exact hs.secs, hs.turns, by show (b.svs.map _).length ≤ _; rw [List.length_map]; exact hs.svs⟩
    have hmc := mirror_con hV
    have hin := modF_in (n := n0) (m := b.secs.length) (by omega)
    have hdn := modF_in (n := n1) (m := b.days + 1) (by omega)
    have m1 := modB_con n0 b.secs.length (by omega)
    have m2 := modB_con n1 (b.days + 1) (by omega)
    obtain ⟨i, hi⟩ : ∃ i : Nat, (i : Int) = modF n0 b.secs.length := ⟨(modF n0 b.secs.length).toNat, by omega⟩
    rw [← hi] at hin m1
    generalize modF n1 (b.days + 1) = d at hdn m2
    have hk : i < b.secs.length := by omega
    have hcast : (b.secs.length : Int) - 1 - i = ((b.secs.length - 1 - i : Nat) : Int) := by omega
    have his : isSectionF b i = true := by simp only [isSectionF, within_iff]; omega
    have hisd : isDayF b d = true := by simp only [isDayF, within_iff]; omega
    have his' : isSectionF (mirrorF b) ((b.secs.length : Int) - 1 - i) = true := by simp only [isSectionF, within_iff]; rw [hlen]; omega
    have hisd' : isDayF (mirrorF b) d = true := hisd
    have i0 : inI64 (b.days + 1) := by simp only [inI64]; omega
    have i1 : inI64 ((b.secs.length : Int) - 1) := by simp only [inI64]; omega
    have i2 : inI64 ((b.secs.length : Int) - 1 - i) := by simp only [inI64]; omega
    have c1 := thickA_con hs i d
    have c2 := thickA_con hsm ((b.secs.length : Int) - 1 - i) d
    unfold askE at c1 c2
    rw [his, hisd, Bool.and_self] at c1
    rw [his', hisd', Bool.and_self] at c2
    have c3 := wearA_con hs i
    have c4 := wearA_con hsm ((b.secs.length : Int) - 1 - i)
    rw [his] at c3
    rw [his'] at c4
    have c5 := thinA_con hs i
    have c6 := thinA_con hsm ((b.secs.length : Int) - 1 - i)
    unfold thinAF at c5 c6
    rw [his] at c5
    rw [his'] at c6
    have c7 := cutA_con hs d
    have c8 := cutA_con hsm d
    unfold cutAF at c7 c8
    rw [hisd] at c7
    rw [hisd', hlen] at c8
    have c9 := turnA_con hs
    have c10 := turnA_con hsm
    unfold turnAF at c9 c10
    have c11 := wrong_con hs
    have c12 := wrong_con hsm
    unfold wrongAF checkF at c11 c12
    rw [hv, if_pos rfl, if_pos rfl] at c11
    rw [hvm, if_pos rfl, if_pos rfl, mirror_wrong hV] at c12
    have hwl := (wrong_spec hV).1.len (by omega)
    have c13 := alike_con (wrongGo b).1 (wrongGo b).1 (by omega)
    rw [decide_eq_true rfl] at c13
    have q1 : ∀ a c : Int, (!eqI [a, c] [a, c]) = false := fun a c => by simp [eqI]
    have q2 : ∀ a : Int, (a != a) = false := fun a => by simp
    have q3 : ∀ a : Int, (a == a) = true := fun a => by simp
    cases hc : canF b with
    | false =>
      have he := err_false hv hc
      have hem : errF (mirrorF b) true = 12 := err_false hvm (by rw [← hc]; exact can_same (mirror_can hV []))
      rw [he] at c1 c3 c5 c7 c9
      rw [hem] at c2 c4 c6 c8 c10
      have hloop : ∀ s u, LoopT Proofs.Tryd.prog glob 195 (Code.at [1, 1, 1, 1, 1, 1, 1, 1, 1, 1, 1, 1, 1, 1, 0, 1] (body Proofs.Tryd.f10)) (cmir_S0 b n0 n1 (mirrorF b) i d s u 12 12 0 12 12 [] [] 0) .normal (cmir_S0 b n0 n1 (mirrorF b) i d s u 12 12 0 12 12 [] [] 0) := fun s u =>
        LoopT.count (tt := lookN types) (id := 0) (c := Code.at [1, 1, 1, 1, 1, 1, 1, 1, 1, 1, 1, 1, 1, 1, 0, 1, 0, 0] (body Proofs.Tryd.f10)) (by kernel_rfl) 0 (fun p => cmir_S0 b n0 n1 (mirrorF b) i d s u 12 12 0 12 12 [] [] p) (fun p hp => by omega) (WpL.path (G 195) (cmir_0_end b n0 n1 _ _ _ _ _ _ _ _ _ _ _ _ _) ⟨decide_eq_false (by simp), trivial⟩ ⟨.inl ⟨rfl, rfl⟩, rfl⟩)
      have hloop := hloop ⟨0, 0⟩ ⟨0, 0⟩
      refine contract_of_path (G 195) cmir_fn (cmir_ok b n0 n1 (mirrorF b) i d ⟨0, 0⟩ ⟨0, 0⟩ 12 12 0 12 12 [] [] 0 0 12 0 (wrongGo b).1) ?_
      repeat (first | exact trivial | refine ⟨by first | exact hso | exact hmc | exact m1 | exact m2 | exact c1 | exact c2 | exact c3 | exact c4 | exact c5 | exact c6 | exact c7 | exact c8 | exact c9 | exact c10 | exact c11 | exact c12 | exact c13 | exact hloop | exact hfg | exact i0 | exact i1 | exact i2 | exact q1 _ _ | exact q2 _ | exact q3 _ | rfl | omega, ?_⟩)
    | true =>
      have hne := ne_of_can hc
      have he := err_can hv hc
      have hem : errF (mirrorF b) true = 0 := err_can hvm (by rw [← hc]; exact (can_same (mirror_can hV [])))
      rw [he, show spanOr 0 (thickF b (truthsF b []) b.turns i d) = _ from if_pos rfl] at c1
      rw [hem, show spanOr 0 (thickF (mirrorF b) (truthsF (mirrorF b) []) (mirrorF b).turns ((b.secs.length : Int) - 1 - i) d) = thickF b (truthsF b []) b.turns i d from (if_pos rfl).trans (by rw [hcast]; exact (mirror_thick hV hne b.turns i hk d).symm)] at c2
      rw [he, show spanOr 0 (toldF (wearAt i) (truthsF b [])) = _ from if_pos rfl] at c3
      rw [hem, show spanOr 0 (toldF (wearAt ((b.secs.length : Int) - 1 - i)) (truthsF (mirrorF b) [])) = toldF (wearAt i) (truthsF b []) from (if_pos rfl).trans (by rw [hcast]; exact (mirror_wear hV hne i hk).symm)] at c4
      rw [he] at c5 c7 c9
      rw [hem] at c6 c8 c10
      rw [show thinF (mirrorF b) (truthsF (mirrorF b) []) (mirrorF b).turns ((b.secs.length : Int) - 1 - i) = thinF b (truthsF b []) b.turns i by rw [hcast]; exact (mirror_thin hV hne b.turns i hk).symm, show dayOr (mirrorF b) 0 (thinF b (truthsF b []) b.turns i) = dayOr b 0 (thinF b (truthsF b []) b.turns i) from rfl] at c6
      rw [if_pos rfl] at c7 c8 c9 c10
      rw [mirror_turn hV hne] at c10
      obtain ⟨u1, u2⟩ := mirror_cut hV hne d
      have ul := (cutGo_up b (truthsF b []) d b.secs.length).len (by omega)
      have um := fun x hx => (cutGo_up b (truthsF b []) d b.secs.length).mem (x := x) hx
      have ol := (cutGo_up (mirrorF b) (truthsF (mirrorF b) []) d b.secs.length).len (by omega)
      generalize cutGo b (truthsF b []) d b.secs.length = l at c7 u1 u2 ul um
      generalize cutGo (mirrorF b) (truthsF (mirrorF b) []) d b.secs.length = o at c8 u1 u2 ol
      generalize dayOr b 0 (thinF b (truthsF b []) b.turns i) = k1 at c5 c6
      generalize (if (turnLF b (truthsF b [])).1 = 0 then ((0 : Int), (4 : Int)) else ((turnLF b (truthsF b [])).1, 0)) = k3 at c9 c10
      have hlo : ((l.length : Int) != (o.length : Int)) = false := by rw [u2]; simp
      have hloop : ∀ s u, LoopT Proofs.Tryd.prog glob 195 (Code.at [1, 1, 1, 1, 1, 1, 1, 1, 1, 1, 1, 1, 1, 1, 0, 1] (body Proofs.Tryd.f10)) (cmir_S0 b n0 n1 (mirrorF b) i d s u 0 0 k1.1 k1.2 0 l o 0) .normal (cmir_S0 b n0 n1 (mirrorF b) i d s u 0 0 k1.1 k1.2 0 l o l.length) := fun s u => by
        refine LoopT.count (tt := lookN types) (id := 0) (c := Code.at [1, 1, 1, 1, 1, 1, 1, 1, 1, 1, 1, 1, 1, 1, 0, 1, 0, 0] (body Proofs.Tryd.f10)) (by kernel_rfl) l.length (fun p => cmir_S0 b n0 n1 (mirrorF b) i d s u 0 0 k1.1 k1.2 0 l o p) (fun p hp => ?_) (WpL.path (G 195) (cmir_0_end b n0 n1 _ _ _ _ _ _ _ _ _ _ _ _ _) ⟨decide_eq_false (Int.lt_irrefl _), trivial⟩ ⟨.inl ⟨rfl, rfl⟩, rfl⟩)
        have hx : l.getD p 0 ∈ l := getD_mem l p 0 hp
        have hxi := um _ hx
        have hat := atB_con o ((b.secs.length : Int) - 1 - l.getD p 0) (by omega)
        have hge := (indexF_ge ((b.secs.length : Int) - 1 - l.getD p 0) o 0).2 (u1 _ hx)
        have hd : decide (indexF ((b.secs.length : Int) - 1 - l.getD p 0) o 0 < 0) = false := decide_eq_false (by omega)
        have hlt : decide ((p : Int) < (l.length : Int)) = true := decide_eq_true (by omega)
        have j1 : inI64 ((b.secs.length : Int) - 1 - l.getD p 0) := by simp only [inI64]; omega
        have j2 : inI64 ((p : Int) + 1) := by simp only [inI64]; omega
        refine WpL.path (G 195) (cmir_0_on b n0 n1 (mirrorF b) i d s u 0 0 k1.1 k1.2 0 l o p (indexF ((b.secs.length : Int) - 1 - l.getD p 0) o 0)) ?_ ⟨rfl, rfl⟩
        repeat (first | exact trivial | refine ⟨by first | exact hlt | exact hat | exact hd | exact i1 | exact j1 | exact j2 | rfl | omega, ?_⟩)
      have hloop := hloop (thickF b (truthsF b []) b.turns i d) (toldF (wearAt i) (truthsF b []))
      refine contract_of_path (G 195) cmir_fn (cmir_ok b n0 n1 (mirrorF b) i d (thickF b (truthsF b []) b.turns i d) (toldF (wearAt i) (truthsF b [])) 0 0 k1.1 k1.2 0 l o l.length k3.1 k3.2 0 (wrongGo b).1) ?_
      repeat (first | exact trivial | refine ⟨by first | exact hso | exact hmc | exact m1 | exact m2 | exact c1 | exact c2 | exact c3 | exact c4 | exact c5 | exact c6 | exact c7 | exact c8 | exact c9 | exact c10 | exact c11 | exact c12 | exact c13 | exact hloop | exact hlo | exact hfg | exact i0 | exact i1 | exact i2 | exact q1 _ _ | exact q2 _ | exact q3 _ | rfl | omega, ?_⟩)
end Go.Di

