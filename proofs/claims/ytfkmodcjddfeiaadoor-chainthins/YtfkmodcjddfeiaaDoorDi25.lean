/- Part 25: an interpreter over plain data for this code, with the proof that it says what the model does, and the contracts of the functions. No condition. -/
import Derived.Test.YtfkmodcjddfeiaaDoorDi24
set_option linter.unusedVariables false
set_option linter.unusedSimpArgs false
namespace Go.Di
theorem rMay_fn : FnOk Proofs.Tryd.prog (mk Proofs.Tryd.prog (lookN types) glob 42) 191 (body Proofs.Tryd.f191) [.tmp 6] := ⟨Proofs.Tryd.f191, by kernel_rfl, by kernel_rfl, by kernel_rfl, by kernel_rfl, by kernel_rfl⟩
theorem rSure_fn : FnOk Proofs.Tryd.prog (mk Proofs.Tryd.prog (lookN types) glob 42) 191 (body Proofs.Tryd.f191) [.tmp 6] := ⟨Proofs.Tryd.f191, by kernel_rfl, by kernel_rfl, by kernel_rfl, by kernel_rfl, by kernel_rfl⟩
theorem rTold0_fn : FnOk Proofs.Tryd.prog (mk Proofs.Tryd.prog (lookN types) glob 29) 162 (body Proofs.Tryd.f162) [.tmp 6, .tmp 7] := ⟨Proofs.Tryd.f162, by kernel_rfl, by kernel_rfl, by kernel_rfl, by kernel_rfl, by kernel_rfl⟩
theorem rTold1_fn : FnOk Proofs.Tryd.prog (mk Proofs.Tryd.prog (lookN types) glob 29) 162 (body Proofs.Tryd.f162) [.tmp 6, .tmp 7] := ⟨Proofs.Tryd.f162, by kernel_rfl, by kernel_rfl, by kernel_rfl, by kernel_rfl, by kernel_rfl⟩
theorem rThinA_fn : FnOk Proofs.Tryd.prog (mk Proofs.Tryd.prog (lookN types) glob 11) 111 (body Proofs.Tryd.f111) [.tmp 4, .tmp 5] := ⟨Proofs.Tryd.f111, by kernel_rfl, by kernel_rfl, by kernel_rfl, by kernel_rfl, by kernel_rfl⟩
theorem rGoneA_fn : FnOk Proofs.Tryd.prog (mk Proofs.Tryd.prog (lookN types) glob 11) 112 (body Proofs.Tryd.f112) [.tmp 4, .tmp 5] := ⟨Proofs.Tryd.f112, by kernel_rfl, by kernel_rfl, by kernel_rfl, by kernel_rfl, by kernel_rfl⟩
theorem rCutA_fn : FnOk Proofs.Tryd.prog (mk Proofs.Tryd.prog (lookN types) glob 40) 113 (body Proofs.Tryd.f113) [.tmp 4, .tmp 5] := ⟨Proofs.Tryd.f113, by kernel_rfl, by kernel_rfl, by kernel_rfl, by kernel_rfl, by kernel_rfl⟩
theorem rFitsA_fn : FnOk Proofs.Tryd.prog (mk Proofs.Tryd.prog (lookN types) glob 27) 114 (body Proofs.Tryd.f114) [.tmp 4, .tmp 5] := ⟨Proofs.Tryd.f114, by kernel_rfl, by kernel_rfl, by kernel_rfl, by kernel_rfl, by kernel_rfl⟩
theorem cthin__fn : FnOk Proofs.Tryd.prog (mk Proofs.Tryd.prog (lookN types) glob 104) 31 (body Proofs.Tryd.f31) [.tmp 8] := ⟨Proofs.Tryd.f31, by kernel_rfl, by kernel_rfl, by kernel_rfl, by kernel_rfl, by kernel_rfl⟩
theorem cthins_fn : FnOk Proofs.Tryd.prog (mk Proofs.Tryd.prog (lookN types) glob 23) 4 (body Proofs.Tryd.f4) [.tmp 6] := ⟨Proofs.Tryd.f4, by kernel_rfl, by kernel_rfl, by kernel_rfl, by kernel_rfl, by kernel_rfl⟩
def rMay_S0 (b : Book) (ts : List Tr1) (i : Nat) : List (Key × Val) :=
  [(.tmp 1, .d (D.sl false E.tr1 ts)),
   (.tmp 2, .d (D.bool false)),
   (.tmp 3, .d (D.ptr 3 0)),
   (.tmp 7, .d (.int .i64 i)),
   (.box 3, .bx (some (Box.mk false (cellsOf (bookD b)))))]
def rMay_K0 : List Key := [.tmp 1, .tmp 2, .tmp 3, .tmp 7, .box 3]
def rSure_S0 (b : Book) (ts : List Tr1) (i : Nat) : List (Key × Val) :=
  [(.tmp 1, .d (D.sl false E.tr1 ts)),
   (.tmp 2, .d (D.bool true)),
   (.tmp 3, .d (D.ptr 3 0)),
   (.tmp 7, .d (.int .i64 i)),
   (.box 3, .bx (some (Box.mk false (cellsOf (bookD b)))))]
def rSure_K0 : List Key := [.tmp 1, .tmp 2, .tmp 3, .tmp 7, .box 3]
def rCutB_S0 (b : Book) (d : Int) (i : Nat) (y : Int) (r : List Int) : List (Key × Val) :=
  [(.tmp 1, .d (D.int .i64 d)),
   (.tmp 2, .d (D.ptr 2 0)),
   (.tmp 7, .d (.own 38 (y :: r).length)),
   (.tmp 8, .d (.int .i64 i)),
   (.box 2, .bx (some (Box.mk false (cellsOf (bookD b))))),
   (.obj 38, .ob (some ⟨.int, y :: r⟩))]
def rCutB_K0 : List Key := [.tmp 1, .tmp 2, .tmp 7, .tmp 8, .box 2, .obj 38]
def rCutA_S0 (b : Book) (d : Int) (i : Nat) : List (Key × Val) :=
  [(.tmp 1, .d (D.int .i64 d)),
   (.tmp 2, .d (D.ptr 2 0)),
   (.tmp 7, .d (D.sl true E.int [])),
   (.tmp 8, .d (.int .i64 i)),
   (.box 2, .bx (some (Box.mk false (cellsOf (bookD b))))),
   (.obj 38, .ob none)]
def rCutA_K0 : List Key := [.tmp 1, .tmp 2, .tmp 7, .tmp 8, .box 2, .obj 38]
theorem rMay_0_on (b : Book) (ts : List Tr1) (i : Nat) (s : Span) :
    runK (mk Proofs.Tryd.prog (lookN types) glob 42) [(12, true), (28, false), (37, false)] [(18, spD s)] [] (Code.at [1, 0, 1, 0, 0] (body Proofs.Tryd.f191)) (rMay_S0 b ts i) rMay_K0 =
      some ([decide ((Nat.cast : Nat → Int) i ≤ Book.days b) = true, Contract Proofs.Tryd.prog glob 159 [bookD b, D.sl false E.tr1 ts, D.int .i64 ((Nat.cast : Nat → Int) i)] (D.agg [D.int .i64 (Span.lo s), D.int .i64 (Span.hi s)]), 0 + 0 + 1 ≤ 2, decide (Span.lo s < Book.rule b) = false, decide (Span.lo s < Book.rule b) = false, decide (Span.lo s < Book.rule b) = false, decide (Span.lo s < Book.rule b) = false, false = false, inI64 ((Nat.cast : Nat → Int) i + (1 : Int))], Ex.normal, [(.tmp 1, .d (D.sl false E.tr1 ts)), (.tmp 2, .d (D.bool false)), (.tmp 3, .d (D.ptr 3 0)), (.tmp 7, .d (D.int .i64 ((Nat.cast : Nat → Int) i + (1 : Int)))), (.box 3, .bx (some (Box.mk false (cellsOf (bookD b)))))]) := by kernel_rfl
theorem rMay_0_hit (b : Book) (ts : List Tr1) (i : Nat) (s : Span) :
    runK (mk Proofs.Tryd.prog (lookN types) glob 42) [(12, true), (28, true)] [(18, spD s)] [] (Code.at [1, 0, 1, 0, 0] (body Proofs.Tryd.f191)) (rMay_S0 b ts i) [.tmp 1, .tmp 2, .tmp 3, .tmp 7, .box 3, .tmp 6] =
      some ([decide ((Nat.cast : Nat → Int) i ≤ Book.days b) = true, Contract Proofs.Tryd.prog glob 159 [bookD b, D.sl false E.tr1 ts, D.int .i64 ((Nat.cast : Nat → Int) i)] (D.agg [D.int .i64 (Span.lo s), D.int .i64 (Span.hi s)]), 0 + 0 + 1 ≤ 2, decide (Span.lo s < Book.rule b) = true, decide (Span.lo s < Book.rule b) = true, decide (Span.lo s < Book.rule b) = true, decide (Span.lo s < Book.rule b) = true], Ex.ret, [(.tmp 1, .d (D.sl false E.tr1 ts)), (.tmp 2, .d (D.bool false)), (.tmp 3, .d (D.ptr 3 0)), (.tmp 7, .d (D.int .i64 ((Nat.cast : Nat → Int) i))), (.box 3, .bx (some (Box.mk false (cellsOf (bookD b))))), (.tmp 6, .d (D.int .i64 ((Nat.cast : Nat → Int) i)))]) := by kernel_rfl
theorem rMay_0_end (b : Book) (ts : List Tr1) (i : Nat) :
    runK (mk Proofs.Tryd.prog (lookN types) glob 42) [(12, false)] [] [] (Code.at [1, 0, 1, 0, 0] (body Proofs.Tryd.f191)) (rMay_S0 b ts i) rMay_K0 =
      some ([decide ((Nat.cast : Nat → Int) i ≤ Book.days b) = false], Ex.exit 0, [(.tmp 1, .d (D.sl false E.tr1 ts)), (.tmp 2, .d (D.bool false)), (.tmp 3, .d (D.ptr 3 0)), (.tmp 7, .d (D.int .i64 ((Nat.cast : Nat → Int) i))), (.box 3, .bx (some (Box.mk false (cellsOf (bookD b)))))]) := by kernel_rfl
theorem rSure_0_on (b : Book) (ts : List Tr1) (i : Nat) (s : Span) :
    runK (mk Proofs.Tryd.prog (lookN types) glob 42) [(12, true), (37, false)] [(18, spD s)] [] (Code.at [1, 0, 1, 0, 0] (body Proofs.Tryd.f191)) (rSure_S0 b ts i) rSure_K0 =
      some ([decide ((Nat.cast : Nat → Int) i ≤ Book.days b) = true, Contract Proofs.Tryd.prog glob 159 [bookD b, D.sl false E.tr1 ts, D.int .i64 ((Nat.cast : Nat → Int) i)] (D.agg [D.int .i64 (Span.lo s), D.int .i64 (Span.hi s)]), 0 + 1 + 1 ≤ 2, decide (Span.hi s < Book.rule b) = false, inI64 ((Nat.cast : Nat → Int) i + (1 : Int))], Ex.normal, [(.tmp 1, .d (D.sl false E.tr1 ts)), (.tmp 2, .d (D.bool true)), (.tmp 3, .d (D.ptr 3 0)), (.tmp 7, .d (D.int .i64 ((Nat.cast : Nat → Int) i + (1 : Int)))), (.box 3, .bx (some (Box.mk false (cellsOf (bookD b)))))]) := by kernel_rfl
theorem rSure_0_hit (b : Book) (ts : List Tr1) (i : Nat) (s : Span) :
    runK (mk Proofs.Tryd.prog (lookN types) glob 42) [(12, true), (37, true)] [(18, spD s)] [] (Code.at [1, 0, 1, 0, 0] (body Proofs.Tryd.f191)) (rSure_S0 b ts i) [.tmp 1, .tmp 2, .tmp 3, .tmp 7, .box 3, .tmp 6] =
      some ([decide ((Nat.cast : Nat → Int) i ≤ Book.days b) = true, Contract Proofs.Tryd.prog glob 159 [bookD b, D.sl false E.tr1 ts, D.int .i64 ((Nat.cast : Nat → Int) i)] (D.agg [D.int .i64 (Span.lo s), D.int .i64 (Span.hi s)]), 0 + 1 + 1 ≤ 2, decide (Span.hi s < Book.rule b) = true], Ex.ret, [(.tmp 1, .d (D.sl false E.tr1 ts)), (.tmp 2, .d (D.bool true)), (.tmp 3, .d (D.ptr 3 0)), (.tmp 7, .d (D.int .i64 ((Nat.cast : Nat → Int) i))), (.box 3, .bx (some (Box.mk false (cellsOf (bookD b))))), (.tmp 6, .d (D.int .i64 ((Nat.cast : Nat → Int) i)))]) := by kernel_rfl
theorem rSure_0_end (b : Book) (ts : List Tr1) (i : Nat) :
    runK (mk Proofs.Tryd.prog (lookN types) glob 42) [(12, false)] [] [] (Code.at [1, 0, 1, 0, 0] (body Proofs.Tryd.f191)) (rSure_S0 b ts i) rSure_K0 =
      some ([decide ((Nat.cast : Nat → Int) i ≤ Book.days b) = false], Ex.exit 0, [(.tmp 1, .d (D.sl false E.tr1 ts)), (.tmp 2, .d (D.bool true)), (.tmp 3, .d (D.ptr 3 0)), (.tmp 7, .d (D.int .i64 ((Nat.cast : Nat → Int) i))), (.box 3, .bx (some (Box.mk false (cellsOf (bookD b)))))]) := by kernel_rfl
theorem rCutB_0_on (b : Book) (d : Int) (i : Nat) (y : Int) (r : List Int) (ts : List Tr1) (s : Span) :
    runK (mk Proofs.Tryd.prog (lookN types) glob 40) [(22, true), (34, true)] [(28, .sl false .tr1 ts), (30, spD s)] [] (Code.at [1, 1, 1, 0, 1, 0, 0] (body Proofs.Tryd.f113)) (rCutB_S0 b d i y r) rCutB_K0 =
      some ([decide ((Nat.cast : Nat → Int) i < (Nat.cast : Nat → Int) (List.length (Book.secs b))) = true, Contract Proofs.Tryd.prog glob 160 [bookD b, D.int .i64 ((Nat.cast : Nat → Int) i)] (D.sl false E.tr1 ts), Contract Proofs.Tryd.prog glob 159 [bookD b, D.sl false E.tr1 ts, D.int .i64 d] (D.agg [D.int .i64 (Span.lo s), D.int .i64 (Span.hi s)]), 0 + 1 ≤ 2, decide (Span.lo s < Book.rule b) = true, List.length (y :: r) = List.length ((y :: r)), List.length ((y :: r) ++ [(Nat.cast : Nat → Int) i]) * (8 + 1) ≤ 140737488355328, inI64 ((Nat.cast : Nat → Int) i + (1 : Int))], Ex.normal, [(.tmp 1, .d (D.int .i64 d)), (.tmp 2, .d (D.ptr 2 0)), (.tmp 7, .d (D.own 38 (List.length ((y :: r) ++ [(Nat.cast : Nat → Int) i])))), (.tmp 8, .d (D.int .i64 ((Nat.cast : Nat → Int) i + (1 : Int)))), (.box 2, .bx (some (Box.mk false (cellsOf (bookD b))))), (.obj 38, .ob (some (Ob.mk E.int ((y :: r) ++ [(Nat.cast : Nat → Int) i]))))]) := by kernel_rfl
theorem rCutB_0_no (b : Book) (d : Int) (i : Nat) (y : Int) (r : List Int) (ts : List Tr1) (s : Span) :
    runK (mk Proofs.Tryd.prog (lookN types) glob 40) [(22, true), (34, false)] [(28, .sl false .tr1 ts), (30, spD s)] [] (Code.at [1, 1, 1, 0, 1, 0, 0] (body Proofs.Tryd.f113)) (rCutB_S0 b d i y r) rCutB_K0 =
      some ([decide ((Nat.cast : Nat → Int) i < (Nat.cast : Nat → Int) (List.length (Book.secs b))) = true, Contract Proofs.Tryd.prog glob 160 [bookD b, D.int .i64 ((Nat.cast : Nat → Int) i)] (D.sl false E.tr1 ts), Contract Proofs.Tryd.prog glob 159 [bookD b, D.sl false E.tr1 ts, D.int .i64 d] (D.agg [D.int .i64 (Span.lo s), D.int .i64 (Span.hi s)]), 0 + 1 ≤ 2, decide (Span.lo s < Book.rule b) = false, inI64 ((Nat.cast : Nat → Int) i + (1 : Int))], Ex.normal, [(.tmp 1, .d (D.int .i64 d)), (.tmp 2, .d (D.ptr 2 0)), (.tmp 7, .d (D.own 38 (List.length (y :: r)))), (.tmp 8, .d (D.int .i64 ((Nat.cast : Nat → Int) i + (1 : Int)))), (.box 2, .bx (some (Box.mk false (cellsOf (bookD b))))), (.obj 38, .ob (some (Ob.mk E.int (y :: r))))]) := by kernel_rfl
theorem rCutB_0_end (b : Book) (d : Int) (i : Nat) (y : Int) (r : List Int) :
    runK (mk Proofs.Tryd.prog (lookN types) glob 40) [(22, false)] [] [] (Code.at [1, 1, 1, 0, 1, 0, 0] (body Proofs.Tryd.f113)) (rCutB_S0 b d i y r) rCutB_K0 =
      some ([decide ((Nat.cast : Nat → Int) i < (Nat.cast : Nat → Int) (List.length (Book.secs b))) = false], Ex.exit 0, [(.tmp 1, .d (D.int .i64 d)), (.tmp 2, .d (D.ptr 2 0)), (.tmp 7, .d (D.own 38 (List.length (y :: r)))), (.tmp 8, .d (D.int .i64 ((Nat.cast : Nat → Int) i))), (.box 2, .bx (some (Box.mk false (cellsOf (bookD b))))), (.obj 38, .ob (some (Ob.mk E.int (y :: r))))]) := by kernel_rfl
theorem rCutA_0_on (b : Book) (d : Int) (i : Nat) (ts : List Tr1) (s : Span) :
    runK (mk Proofs.Tryd.prog (lookN types) glob 40) [(22, true), (34, true)] [(28, .sl false .tr1 ts), (30, spD s)] [] (Code.at [1, 1, 1, 0, 1, 0, 0] (body Proofs.Tryd.f113)) (rCutA_S0 b d i) rCutB_K0 =
      some ([decide ((Nat.cast : Nat → Int) i < (Nat.cast : Nat → Int) (List.length (Book.secs b))) = true, Contract Proofs.Tryd.prog glob 160 [bookD b, D.int .i64 ((Nat.cast : Nat → Int) i)] (D.sl false E.tr1 ts), Contract Proofs.Tryd.prog glob 159 [bookD b, D.sl false E.tr1 ts, D.int .i64 d] (D.agg [D.int .i64 (Span.lo s), D.int .i64 (Span.hi s)]), 0 + 1 ≤ 2, decide (Span.lo s < Book.rule b) = true, 1 * (8 + 1) ≤ 140737488355328, inI64 ((Nat.cast : Nat → Int) i + (1 : Int))], Ex.normal, [(.tmp 1, .d (D.int .i64 d)), (.tmp 2, .d (D.ptr 2 0)), (.tmp 7, .d (D.own 38 1)), (.tmp 8, .d (D.int .i64 ((Nat.cast : Nat → Int) i + (1 : Int)))), (.box 2, .bx (some (Box.mk false (cellsOf (bookD b))))), (.obj 38, .ob (some (Ob.mk E.int ([] ++ [(Nat.cast : Nat → Int) i]))))]) := by kernel_rfl
theorem rCutA_0_no (b : Book) (d : Int) (i : Nat) (ts : List Tr1) (s : Span) :
    runK (mk Proofs.Tryd.prog (lookN types) glob 40) [(22, true), (34, false)] [(28, .sl false .tr1 ts), (30, spD s)] [] (Code.at [1, 1, 1, 0, 1, 0, 0] (body Proofs.Tryd.f113)) (rCutA_S0 b d i) rCutA_K0 =
      some ([decide ((Nat.cast : Nat → Int) i < (Nat.cast : Nat → Int) (List.length (Book.secs b))) = true, Contract Proofs.Tryd.prog glob 160 [bookD b, D.int .i64 ((Nat.cast : Nat → Int) i)] (D.sl false E.tr1 ts), Contract Proofs.Tryd.prog glob 159 [bookD b, D.sl false E.tr1 ts, D.int .i64 d] (D.agg [D.int .i64 (Span.lo s), D.int .i64 (Span.hi s)]), 0 + 1 ≤ 2, decide (Span.lo s < Book.rule b) = false, inI64 ((Nat.cast : Nat → Int) i + (1 : Int))], Ex.normal, [(.tmp 1, .d (D.int .i64 d)), (.tmp 2, .d (D.ptr 2 0)), (.tmp 7, .d (D.sl true E.int [])), (.tmp 8, .d (D.int .i64 ((Nat.cast : Nat → Int) i + (1 : Int)))), (.box 2, .bx (some (Box.mk false (cellsOf (bookD b))))), (.obj 38, .ob Option.none)]) := by kernel_rfl
theorem rCutA_0_end (b : Book) (d : Int) (i : Nat) :
    runK (mk Proofs.Tryd.prog (lookN types) glob 40) [(22, false)] [] [] (Code.at [1, 1, 1, 0, 1, 0, 0] (body Proofs.Tryd.f113)) (rCutA_S0 b d i) rCutA_K0 =
      some ([decide ((Nat.cast : Nat → Int) i < (Nat.cast : Nat → Int) (List.length (Book.secs b))) = false], Ex.exit 0, [(.tmp 1, .d (D.int .i64 d)), (.tmp 2, .d (D.ptr 2 0)), (.tmp 7, .d (D.sl true E.int [])), (.tmp 8, .d (D.int .i64 ((Nat.cast : Nat → Int) i))), (.box 2, .bx (some (Box.mk false (cellsOf (bookD b))))), (.obj 38, .ob Option.none)]) := by kernel_rfl
def rMay_T0_hit (b : Book) (ts : List Tr1) (i : Nat) (s : Span) : List (Key × Val) :=
  [(.tmp 1, .d (D.sl false E.tr1 ts)), (.tmp 2, .d (D.bool false)), (.tmp 3, .d (D.ptr 3 0)), (.tmp 7, .d (D.int .i64 ((Nat.cast : Nat → Int) i))), (.box 3, .bx (some (Box.mk false (cellsOf (bookD b))))), (.tmp 6, .d (D.int .i64 ((Nat.cast : Nat → Int) i)))]
def rSure_T0_hit (b : Book) (ts : List Tr1) (i : Nat) (s : Span) : List (Key × Val) :=
  [(.tmp 1, .d (D.sl false E.tr1 ts)), (.tmp 2, .d (D.bool true)), (.tmp 3, .d (D.ptr 3 0)), (.tmp 7, .d (D.int .i64 ((Nat.cast : Nat → Int) i))), (.box 3, .bx (some (Box.mk false (cellsOf (bookD b))))), (.tmp 6, .d (D.int .i64 ((Nat.cast : Nat → Int) i)))]
theorem rMay_end (b : Book) (ts : List Tr1) (i : Nat) :
    callF (mk Proofs.Tryd.prog (lookN types) glob 42) [] [] [(0, (rMay_K0, (.normal, rMay_S0 b ts i)))] (body Proofs.Tryd.f191) [.tmp 6] [bookD b, .sl false .tr1 ts, .bool false] =
      some ([LoopT Proofs.Tryd.prog glob 42 (Code.at [1, 0, 1] (body Proofs.Tryd.f191)) [(.tmp 1, .d (D.sl false E.tr1 ts)), (.tmp 2, .d (D.bool false)), (.tmp 3, .d (D.ptr 3 0)), (.tmp 7, .d (D.int .i64 (0 : Int))), (.box 3, .bx (some (Box.mk false (cellsOf (bookD b)))))] Ex.normal (rMay_S0 b ts i), inI64 (Book.days b + (1 : Int))], D.int .i64 (Book.days b + (1 : Int))) := by kernel_rfl
theorem rMay_hit (b : Book) (ts : List Tr1) (i : Nat) (s : Span) :
    callF (mk Proofs.Tryd.prog (lookN types) glob 42) [] [] [(0, (rMay_K0, (.ret, rMay_T0_hit b ts i s)))] (body Proofs.Tryd.f191) [.tmp 6] [bookD b, .sl false .tr1 ts, .bool false] =
      some ([LoopT Proofs.Tryd.prog glob 42 (Code.at [1, 0, 1] (body Proofs.Tryd.f191)) [(.tmp 1, .d (D.sl false E.tr1 ts)), (.tmp 2, .d (D.bool false)), (.tmp 3, .d (D.ptr 3 0)), (.tmp 7, .d (D.int .i64 (0 : Int))), (.box 3, .bx (some (Box.mk false (cellsOf (bookD b)))))] Ex.ret (rMay_T0_hit b ts i s)], D.int .i64 ((Nat.cast : Nat → Int) i)) := by kernel_rfl
theorem rSure_end (b : Book) (ts : List Tr1) (i : Nat) :
    callF (mk Proofs.Tryd.prog (lookN types) glob 42) [] [] [(0, (rSure_K0, (.normal, rSure_S0 b ts i)))] (body Proofs.Tryd.f191) [.tmp 6] [bookD b, .sl false .tr1 ts, .bool true] =
      some ([LoopT Proofs.Tryd.prog glob 42 (Code.at [1, 0, 1] (body Proofs.Tryd.f191)) [(.tmp 1, .d (D.sl false E.tr1 ts)), (.tmp 2, .d (D.bool true)), (.tmp 3, .d (D.ptr 3 0)), (.tmp 7, .d (D.int .i64 (0 : Int))), (.box 3, .bx (some (Box.mk false (cellsOf (bookD b)))))] Ex.normal (rSure_S0 b ts i), inI64 (Book.days b + (1 : Int))], D.int .i64 (Book.days b + (1 : Int))) := by kernel_rfl
theorem rSure_hit (b : Book) (ts : List Tr1) (i : Nat) (s : Span) :
    callF (mk Proofs.Tryd.prog (lookN types) glob 42) [] [] [(0, (rSure_K0, (.ret, rSure_T0_hit b ts i s)))] (body Proofs.Tryd.f191) [.tmp 6] [bookD b, .sl false .tr1 ts, .bool true] =
      some ([LoopT Proofs.Tryd.prog glob 42 (Code.at [1, 0, 1] (body Proofs.Tryd.f191)) [(.tmp 1, .d (D.sl false E.tr1 ts)), (.tmp 2, .d (D.bool true)), (.tmp 3, .d (D.ptr 3 0)), (.tmp 7, .d (D.int .i64 (0 : Int))), (.box 3, .bx (some (Box.mk false (cellsOf (bookD b)))))] Ex.ret (rSure_T0_hit b ts i s)], D.int .i64 ((Nat.cast : Nat → Int) i)) := by kernel_rfl
theorem rTold0_err (b : Book) (n : Int) (e : Int) :
    callF (mk Proofs.Tryd.prog (lookN types) glob 29) [(16, true)] [(13, .bool (isSectionF b n)), (14, .int .i64 e)] [] (body Proofs.Tryd.f162) [.tmp 6, .tmp 7] [bookD b, .int .i64 n, .bool false] =
      some ([Contract Proofs.Tryd.prog glob 157 [bookD b, D.int .i64 n] (D.bool (isSectionF b n)), Contract Proofs.Tryd.prog glob 156 [bookD b, D.bool (isSectionF b n)] (D.int .i64 e), (e != (0 : Int)) = true], D.tup [D.int .i64 (0 : Int), D.int .i64 e]) := by kernel_rfl
theorem rTold0_none (b : Book) (n : Int) (ts : List Tr1) (k : Int) :
    callF (mk Proofs.Tryd.prog (lookN types) glob 29) [(27, true)] [(13, .bool (isSectionF b n)), (14, .int .i64 0), (21, .sl false .tr1 ts), (23, .int .i64 k)] [] (body Proofs.Tryd.f162) [.tmp 6, .tmp 7] [bookD b, .int .i64 n, .bool false] =
      some ([Contract Proofs.Tryd.prog glob 157 [bookD b, D.int .i64 n] (D.bool (isSectionF b n)), Contract Proofs.Tryd.prog glob 156 [bookD b, D.bool (isSectionF b n)] (D.int .i64 (0 : Int)), Contract Proofs.Tryd.prog glob 160 [bookD b, D.int .i64 n] (D.sl false E.tr1 ts), Contract Proofs.Tryd.prog glob 191 [bookD b, D.sl false E.tr1 ts, D.bool false] (D.int .i64 k), decide (k > Book.days b) = true], D.tup [D.int .i64 (0 : Int), D.int .i64 (4 : Int)]) := by kernel_rfl
theorem rTold0_ok (b : Book) (n : Int) (ts : List Tr1) (k : Int) :
    callF (mk Proofs.Tryd.prog (lookN types) glob 29) [(27, false)] [(13, .bool (isSectionF b n)), (14, .int .i64 0), (21, .sl false .tr1 ts), (23, .int .i64 k)] [] (body Proofs.Tryd.f162) [.tmp 6, .tmp 7] [bookD b, .int .i64 n, .bool false] =
      some ([Contract Proofs.Tryd.prog glob 157 [bookD b, D.int .i64 n] (D.bool (isSectionF b n)), Contract Proofs.Tryd.prog glob 156 [bookD b, D.bool (isSectionF b n)] (D.int .i64 (0 : Int)), Contract Proofs.Tryd.prog glob 160 [bookD b, D.int .i64 n] (D.sl false E.tr1 ts), Contract Proofs.Tryd.prog glob 191 [bookD b, D.sl false E.tr1 ts, D.bool false] (D.int .i64 k), decide (k > Book.days b) = false], D.tup [D.int .i64 k, D.int .i64 (0 : Int)]) := by kernel_rfl
theorem rTold1_err (b : Book) (n : Int) (e : Int) :
    callF (mk Proofs.Tryd.prog (lookN types) glob 29) [(16, true)] [(13, .bool (isSectionF b n)), (14, .int .i64 e)] [] (body Proofs.Tryd.f162) [.tmp 6, .tmp 7] [bookD b, .int .i64 n, .bool true] =
      some ([Contract Proofs.Tryd.prog glob 157 [bookD b, D.int .i64 n] (D.bool (isSectionF b n)), Contract Proofs.Tryd.prog glob 156 [bookD b, D.bool (isSectionF b n)] (D.int .i64 e), (e != (0 : Int)) = true], D.tup [D.int .i64 (0 : Int), D.int .i64 e]) := by kernel_rfl
theorem rTold1_none (b : Book) (n : Int) (ts : List Tr1) (k : Int) :
    callF (mk Proofs.Tryd.prog (lookN types) glob 29) [(27, true)] [(13, .bool (isSectionF b n)), (14, .int .i64 0), (21, .sl false .tr1 ts), (23, .int .i64 k)] [] (body Proofs.Tryd.f162) [.tmp 6, .tmp 7] [bookD b, .int .i64 n, .bool true] =
      some ([Contract Proofs.Tryd.prog glob 157 [bookD b, D.int .i64 n] (D.bool (isSectionF b n)), Contract Proofs.Tryd.prog glob 156 [bookD b, D.bool (isSectionF b n)] (D.int .i64 (0 : Int)), Contract Proofs.Tryd.prog glob 160 [bookD b, D.int .i64 n] (D.sl false E.tr1 ts), Contract Proofs.Tryd.prog glob 191 [bookD b, D.sl false E.tr1 ts, D.bool true] (D.int .i64 k), decide (k > Book.days b) = true], D.tup [D.int .i64 (0 : Int), D.int .i64 (4 : Int)]) := by kernel_rfl
theorem rTold1_ok (b : Book) (n : Int) (ts : List Tr1) (k : Int) :
    callF (mk Proofs.Tryd.prog (lookN types) glob 29) [(27, false)] [(13, .bool (isSectionF b n)), (14, .int .i64 0), (21, .sl false .tr1 ts), (23, .int .i64 k)] [] (body Proofs.Tryd.f162) [.tmp 6, .tmp 7] [bookD b, .int .i64 n, .bool true] =
      some ([Contract Proofs.Tryd.prog glob 157 [bookD b, D.int .i64 n] (D.bool (isSectionF b n)), Contract Proofs.Tryd.prog glob 156 [bookD b, D.bool (isSectionF b n)] (D.int .i64 (0 : Int)), Contract Proofs.Tryd.prog glob 160 [bookD b, D.int .i64 n] (D.sl false E.tr1 ts), Contract Proofs.Tryd.prog glob 191 [bookD b, D.sl false E.tr1 ts, D.bool true] (D.int .i64 k), decide (k > Book.days b) = false], D.tup [D.int .i64 k, D.int .i64 (0 : Int)]) := by kernel_rfl
theorem rThinA_all (b : Book) (n : Int) (k e : Int) :
    callF (mk Proofs.Tryd.prog (lookN types) glob 11) [] [(8, .tup [.int .i64 k, .int .i64 e])] [] (body Proofs.Tryd.f111) [.tmp 4, .tmp 5] [bookD b, .int .i64 n] =
      some ([Contract Proofs.Tryd.prog glob 162 [bookD b, D.int .i64 n, D.bool false] (D.tup [D.int .i64 k, D.int .i64 e])], D.tup [D.int .i64 k, D.int .i64 e]) := by kernel_rfl
theorem rGoneA_all (b : Book) (n : Int) (k e : Int) :
    callF (mk Proofs.Tryd.prog (lookN types) glob 11) [] [(8, .tup [.int .i64 k, .int .i64 e])] [] (body Proofs.Tryd.f112) [.tmp 4, .tmp 5] [bookD b, .int .i64 n] =
      some ([Contract Proofs.Tryd.prog glob 162 [bookD b, D.int .i64 n, D.bool true] (D.tup [D.int .i64 k, D.int .i64 e])], D.tup [D.int .i64 k, D.int .i64 e]) := by kernel_rfl
theorem rCutA_err (b : Book) (d : Int) (e : Int) :
    callF (mk Proofs.Tryd.prog (lookN types) glob 40) [(15, true)] [(12, .bool (isDayF b d)), (13, .int .i64 e)] [] (body Proofs.Tryd.f113) [.tmp 4, .tmp 5] [bookD b, .int .i64 d] =
      some ([Contract Proofs.Tryd.prog glob 158 [bookD b, D.int .i64 d] (D.bool (isDayF b d)), Contract Proofs.Tryd.prog glob 156 [bookD b, D.bool (isDayF b d)] (D.int .i64 e), (e != (0 : Int)) = true], D.tup [D.sl true E.int [], D.int .i64 e]) := by kernel_rfl
theorem rCutA_none (b : Book) (d : Int) (i : Nat) :
    callF (mk Proofs.Tryd.prog (lookN types) glob 40) [] [(12, .bool (isDayF b d)), (13, .int .i64 0)] [(0, (rCutA_K0, (.normal, rCutA_S0 b d i)))] (body Proofs.Tryd.f113) [.tmp 4, .tmp 5] [bookD b, .int .i64 d] =
      some ([Contract Proofs.Tryd.prog glob 158 [bookD b, D.int .i64 d] (D.bool (isDayF b d)), Contract Proofs.Tryd.prog glob 156 [bookD b, D.bool (isDayF b d)] (D.int .i64 (0 : Int)), LoopT Proofs.Tryd.prog glob 40 (Code.at [1, 1, 1, 0, 1] (body Proofs.Tryd.f113)) [(.tmp 1, .d (D.int .i64 d)), (.tmp 2, .d (D.ptr 2 0)), (.tmp 7, .d (D.sl true E.int [])), (.tmp 8, .d (D.int .i64 (0 : Int))), (.box 2, .bx (some (Box.mk false (cellsOf (bookD b))))), (.obj 38, .ob Option.none)] Ex.normal (rCutA_S0 b d i)], D.tup [D.sl true E.int [], D.int .i64 (0 : Int)]) := by kernel_rfl
theorem rCutA_some (b : Book) (d : Int) (i : Nat) (y : Int) (r : List Int) :
    callF (mk Proofs.Tryd.prog (lookN types) glob 40) [] [(12, .bool (isDayF b d)), (13, .int .i64 0)] [(0, (rCutB_K0, (.normal, rCutB_S0 b d i y r)))] (body Proofs.Tryd.f113) [.tmp 4, .tmp 5] [bookD b, .int .i64 d] =
      some ([Contract Proofs.Tryd.prog glob 158 [bookD b, D.int .i64 d] (D.bool (isDayF b d)), Contract Proofs.Tryd.prog glob 156 [bookD b, D.bool (isDayF b d)] (D.int .i64 (0 : Int)), LoopT Proofs.Tryd.prog glob 40 (Code.at [1, 1, 1, 0, 1] (body Proofs.Tryd.f113)) [(.tmp 1, .d (D.int .i64 d)), (.tmp 2, .d (D.ptr 2 0)), (.tmp 7, .d (D.sl true E.int [])), (.tmp 8, .d (D.int .i64 (0 : Int))), (.box 2, .bx (some (Box.mk false (cellsOf (bookD b))))), (.obj 38, .ob Option.none)] Ex.normal (rCutB_S0 b d i y r), List.length (y :: r) = List.length ((y :: r))], D.tup [D.sl false E.int ((y :: r)), D.int .i64 (0 : Int)]) := by kernel_rfl
theorem rFitsA_err (b : Book) (x : Sv) (e : Int) :
    callF (mk Proofs.Tryd.prog (lookN types) glob 27) [(14, true)] [(11, .bool (isSurveyF b x)), (12, .int .i64 e)] [] (body Proofs.Tryd.f114) [.tmp 4, .tmp 5] [bookD b, svD x] =
      some ([0 + 4 ≤ 4, Contract Proofs.Tryd.prog glob 155 [bookD b, D.agg [D.int .i64 (Sv.s x), D.int .i64 (Sv.d x), D.int .i64 (Sv.r x), D.int .i64 (Sv.e x)]] (D.bool (isSurveyF b x)), Contract Proofs.Tryd.prog glob 156 [bookD b, D.bool (isSurveyF b x)] (D.int .i64 e), (e != (0 : Int)) = true], D.tup [D.bool false, D.int .i64 e]) := by kernel_rfl
theorem rFitsA_ok (b : Book) (x : Sv) (c : Bool) :
    callF (mk Proofs.Tryd.prog (lookN types) glob 27) [] [(11, .bool (isSurveyF b x)), (12, .int .i64 0), (26, .bool c)] [] (body Proofs.Tryd.f114) [.tmp 4, .tmp 5] [bookD b, svD x] =
      some ([0 + 4 ≤ 4, Contract Proofs.Tryd.prog glob 155 [bookD b, D.agg [D.int .i64 (Sv.s x), D.int .i64 (Sv.d x), D.int .i64 (Sv.r x), D.int .i64 (Sv.e x)]] (D.bool (isSurveyF b x)), Contract Proofs.Tryd.prog glob 156 [bookD b, D.bool (isSurveyF b x)] (D.int .i64 (0 : Int)), List.length ([] ++ Book.svs b) * (32 + 1) ≤ 140737488355328, 0 + 4 ≤ 4, List.length ([] ++ Book.svs b) = List.length (([] ++ Book.svs b)), List.length (([] ++ Book.svs b) ++ [Sv.mk (Sv.s x) (Sv.d x) (Sv.r x) (Sv.e x)]) * (32 + 1) ≤ 140737488355328, List.length (([] ++ Book.svs b) ++ [Sv.mk (Sv.s x) (Sv.d x) (Sv.r x) (Sv.e x)]) = List.length ((([] ++ Book.svs b) ++ [Sv.mk (Sv.s x) (Sv.d x) (Sv.r x) (Sv.e x)])), List.length (([] ++ Book.svs b) ++ [Sv.mk (Sv.s x) (Sv.d x) (Sv.r x) (Sv.e x)]) = List.length ((([] ++ Book.svs b) ++ [Sv.mk (Sv.s x) (Sv.d x) (Sv.r x) (Sv.e x)])), Contract Proofs.Tryd.prog glob 154 [D.agg [D.sl false E.sec (Book.secs b), D.sl false E.int (Book.turns b), D.sl false E.sv ((([] ++ Book.svs b) ++ [Sv.mk (Sv.s x) (Sv.d x) (Sv.r x) (Sv.e x)])), D.int .i64 (Book.rule b), D.int .i64 (Book.days b)]] (D.bool c)], D.tup [D.bool c, D.int .i64 (0 : Int)]) := by kernel_rfl
theorem cthin__all (b : Book) (x : Sv) (n0 n1 : Int) (k1 e1 k2 e2 e3 e4 : Int) (cut : List Int) (c : Bool) :
    callF (mk Proofs.Tryd.prog (lookN types) glob 104) [(34, false), (38, false), (56, false), (60, false), (79, false), (83, false), (99, true)] [(21, .tup [.int .i64 k1, .int .i64 e1]), (28, .tup [.int .i64 k1, .int .i64 e1]), (43, .tup [.int .i64 k2, .int .i64 e2]), (50, .tup [.int .i64 k2, .int .i64 e2]), (65, .tup [.sl true .int cut, .int .i64 e3]), (72, .tup [.sl false .int cut, .int .i64 e3]), (77, .bool true), (87, .tup [.bool c, .int .i64 e4]), (93, .tup [.bool c, .int .i64 e4])] [] (body Proofs.Tryd.f31) [.tmp 8] [bookD b, bookD b, svD x, .agg [.int .i64 n0, .int .i64 n1]] =
      some ([(0 : Int) ≤ (0 : Int) ∧ (0 : Int) < (Nat.cast : Nat → Int) 2, 0 + Int.toNat (0 : Int) * 1 + 1 ≤ 2, Contract Proofs.Tryd.prog glob 43 [bookD b, D.int .i64 n0] (D.tup [D.int .i64 k1, D.int .i64 e1]), (0 : Int) ≤ (0 : Int) ∧ (0 : Int) < (Nat.cast : Nat → Int) 2, 0 + Int.toNat (0 : Int) * 1 + 1 ≤ 2, Contract Proofs.Tryd.prog glob 111 [bookD b, D.int .i64 n0] (D.tup [D.int .i64 k1, D.int .i64 e1]), (k1 != k1) = false, (k1 != k1) = false, (k1 != k1) = false, (k1 != k1) = false, (e1 != e1) = false, (0 : Int) ≤ (0 : Int) ∧ (0 : Int) < (Nat.cast : Nat → Int) 2, 0 + Int.toNat (0 : Int) * 1 + 1 ≤ 2, Contract Proofs.Tryd.prog glob 44 [bookD b, D.int .i64 n0] (D.tup [D.int .i64 k2, D.int .i64 e2]), (0 : Int) ≤ (0 : Int) ∧ (0 : Int) < (Nat.cast : Nat → Int) 2, 0 + Int.toNat (0 : Int) * 1 + 1 ≤ 2, Contract Proofs.Tryd.prog glob 112 [bookD b, D.int .i64 n0] (D.tup [D.int .i64 k2, D.int .i64 e2]), (k2 != k2) = false, (k2 != k2) = false, (k2 != k2) = false, (k2 != k2) = false, (e2 != e2) = false, (0 : Int) ≤ (1 : Int) ∧ (1 : Int) < (Nat.cast : Nat → Int) 2, 0 + Int.toNat (1 : Int) * 1 + 1 ≤ 2, Contract Proofs.Tryd.prog glob 40 [bookD b, D.int .i64 n1] (D.tup [D.sl true E.int cut, D.int .i64 e3]), (0 : Int) ≤ (1 : Int) ∧ (1 : Int) < (Nat.cast : Nat → Int) 2, 0 + Int.toNat (1 : Int) * 1 + 1 ≤ 2, Contract Proofs.Tryd.prog glob 113 [bookD b, D.int .i64 n1] (D.tup [D.sl false E.int cut, D.int .i64 e3]), Contract Proofs.Tryd.prog glob 55 [D.sl false E.int cut, D.sl false E.int cut] (D.bool true), (!true) = false, (!true) = false, (!true) = false, (!true) = false, (e3 != e3) = false, 0 + 4 ≤ 4, Contract Proofs.Tryd.prog glob 47 [bookD b, D.agg [D.int .i64 (Sv.s x), D.int .i64 (Sv.d x), D.int .i64 (Sv.r x), D.int .i64 (Sv.e x)]] (D.tup [D.bool c, D.int .i64 e4]), 0 + 4 ≤ 4, Contract Proofs.Tryd.prog glob 114 [bookD b, D.agg [D.int .i64 (Sv.s x), D.int .i64 (Sv.d x), D.int .i64 (Sv.r x), D.int .i64 (Sv.e x)]] (D.tup [D.bool c, D.int .i64 e4]), (c == c) = true, (c == c) = true, (c == c) = true, (c == c) = true], D.bool (e4 == e4)) := by kernel_rfl
theorem cthins_all (b : Book) (x : Sv) (n0 n1 : Int) :
    callF (mk Proofs.Tryd.prog (lookN types) glob 23) [] [(9, bookD b), (14, .bool true), (18, .bool true), (21, .bool true)] [] (body Proofs.Tryd.f4) [.tmp 6] [bookD b, svD x, .agg [.int .i64 n0, .int .i64 n1]] =
      some ([Contract Proofs.Tryd.prog glob 27 [bookD b] (bookD b), 0 + 4 ≤ 4, 0 + 2 ≤ 2, Contract Proofs.Tryd.prog glob 31 [bookD b, bookD b, D.agg [D.int .i64 (Sv.s x), D.int .i64 (Sv.d x), D.int .i64 (Sv.r x), D.int .i64 (Sv.e x)], D.agg [D.int .i64 n0, D.int .i64 n1]] (D.bool true), Contract Proofs.Tryd.prog glob 29 [bookD b, bookD b] (D.bool true), Contract Proofs.Tryd.prog glob 30 [] (D.bool true)], D.bool true) := by kernel_rfl
end Go.Di

namespace Go.Di

/-! ### Thin and Gone, by the reference -/
section
variable {b : Book} {k : Nat}
theorem th1_flips {tn tm : List Int} {t w v : Int} : ∀ d : Nat, (∀ e : Nat, e < d → flips tn e = flips tm e) → th1 tn t w v d = th1 tm t w v d
  | 0, _ => rfl
  | d + 1, h => by
    simp only [th1]
    rw [th1_flips d fun e he => h e (by omega), h d (by omega)]
theorem rMay2_con (hV : Val9 b) (hk : k < b.secs.length) (hne : truthsF b [] ≠ []) {b2 : Book} {tn : List Int} (g1 : b2.days = b.days) (g2 : b2.rule = b.rule) (g3 : b2.turns.length ≤ 1000) (g4 : ∀ e : Nat, (e : Int) ≤ b.days → flips b2.turns e = flips tn e) : Contract Proofs.Tryd.prog glob 191 [bookD b2, .sl false .tr1 (truths1 b k), .bool false] (.int .i64 (thinF b (truthsF b []) tn k)) := by
  have hdd := hV.days
  have hsp : ∀ d : Nat, (d : Int) ≤ b.days → Contract Proofs.Tryd.prog glob 159 [bookD b2, .sl false .tr1 (truths1 b k), .int .i64 (d : Int)] (spD (thickF b (truthsF b []) tn k d)) := fun d hd => by
    have c := rSpan_con (b := b2) g3 ((can_pairs hV).1 hne k hk) (by have := truths1_len hV hk; omega) (fun u hu => truths1_tame hV hk hu) (d := (d : Int)) (by omega)
    rw [Int.toNat_natCast, show (fun u : Tr1 => th1 b2.turns u.t0 u.w0 u.w1 d) = fun u => th1 tn u.t0 u.w0 u.w1 d from funext fun u => th1_flips d fun e he => g4 e (by omega), thick_ref hV hne hk d] at c
    exact c
  generalize truths1 b k = ts at hsp
  obtain ⟨h1, h2, h3, h4⟩ := findF_spec (mayF b (truthsF b []) tn k) (b.days + 1).toNat 0
  unfold thinF
  generalize hr : findF (mayF b (truthsF b []) tn k) (b.days + 1).toNat 0 = r at h1 h2 h3 h4
  have hon : ∀ i : Nat, i < r → WpL Proofs.Tryd.prog (mk Proofs.Tryd.prog (lookN types) glob 42) (Code.at [1, 0, 1, 0, 0] (body Proofs.Tryd.f191)) (rMay_S0 b2 ts i) fun e1 L1 => e1 = .normal ∧ L1 = rMay_S0 b2 ts (i + 1) := fun i hi => by
    have c := hsp i (by omega)
    have hd : decide ((thickF b (truthsF b []) tn k i).lo < b2.rule) = false := by rw [g2]; exact h3 i (by omega) hi
    have hle : decide ((i : Int) ≤ b2.days) = true := decide_eq_true (by omega)
    have hi64 : inI64 ((i : Int) + 1) := by simp only [inI64]; omega
    refine WpL.path (G 42) (rMay_0_on b2 ts i (thickF b (truthsF b []) tn k i)) ?_ ⟨rfl, rfl⟩
    repeat (first | exact trivial | refine ⟨by first | exact hle | exact c | exact hd | exact hi64 | rfl | omega, ?_⟩)
  by_cases hlt : r < 0 + (b.days + 1).toNat
  · have hd : decide ((thickF b (truthsF b []) tn k r).lo < b2.rule) = true := by rw [g2]; exact h4 hlt
    have c := hsp r (by omega)
    have hle : decide ((r : Int) ≤ b2.days) = true := decide_eq_true (by omega)
    have hloop : LoopT Proofs.Tryd.prog glob 42 (Code.at [1, 0, 1] (body Proofs.Tryd.f191)) (rMay_S0 b2 ts 0) .ret (rMay_T0_hit b2 ts r (thickF b (truthsF b []) tn k r)) := by
      refine LoopT.count (tt := lookN types) (id := 0) (c := Code.at [1, 0, 1, 0, 0] (body Proofs.Tryd.f191)) (by kernel_rfl) r (fun i => rMay_S0 b2 ts i) hon (WpL.path (G 42) (rMay_0_hit b2 ts r (thickF b (truthsF b []) tn k r)) ?_ ⟨.inr ⟨rfl, rfl⟩, rfl⟩)
      repeat (first | exact trivial | refine ⟨by first | exact hle | exact c | exact hd | rfl | omega, ?_⟩)
    refine contract_of_path (G 42) rMay_fn (rMay_hit b2 ts r (thickF b (truthsF b []) tn k r)) ?_
    repeat (first | exact trivial | refine ⟨by first | exact hloop | rfl | omega, ?_⟩)
  · have e : (r : Int) = b2.days + 1 := by omega
    have hle : decide ((r : Int) ≤ b2.days) = false := decide_eq_false (by omega)
    have hi64 : inI64 (b2.days + 1) := by simp only [inI64]; omega
    have hloop : LoopT Proofs.Tryd.prog glob 42 (Code.at [1, 0, 1] (body Proofs.Tryd.f191)) (rMay_S0 b2 ts 0) .normal (rMay_S0 b2 ts r) := by
      refine LoopT.count (tt := lookN types) (id := 0) (c := Code.at [1, 0, 1, 0, 0] (body Proofs.Tryd.f191)) (by kernel_rfl) r (fun i => rMay_S0 b2 ts i) hon (WpL.path (G 42) (rMay_0_end b2 ts r) ?_ ⟨.inl ⟨rfl, rfl⟩, rfl⟩)
      repeat (first | exact trivial | refine ⟨by first | exact hle | rfl | omega, ?_⟩)
    rw [e]
    refine contract_of_path (G 42) rMay_fn (rMay_end b2 ts r) ?_
    repeat (first | exact trivial | refine ⟨by first | exact hloop | exact hi64 | rfl | omega, ?_⟩)
theorem rMay_con (hV : Val9 b) (hk : k < b.secs.length) (hne : truthsF b [] ≠ []) : Contract Proofs.Tryd.prog glob 191 [bookD b, .sl false .tr1 (truths1 b k), .bool false] (.int .i64 (thinF b (truthsF b []) b.turns k)) :=
  rMay2_con hV hk hne rfl rfl (by have := hV.turns; omega) fun _ _ => rfl
theorem rSure_con (hV : Val9 b) (hk : k < b.secs.length) (hne : truthsF b [] ≠ []) : Contract Proofs.Tryd.prog glob 191 [bookD b, .sl false .tr1 (truths1 b k), .bool true] (.int .i64 (goneF b (truthsF b []) b.turns k)) := by
  have hdd := hV.days
  have hsp : ∀ d : Nat, (d : Int) ≤ b.days → Contract Proofs.Tryd.prog glob 159 [bookD b, .sl false .tr1 (truths1 b k), .int .i64 (d : Int)] (spD (thickF b (truthsF b []) b.turns k d)) := fun d hd => by
    have c := rSpan_con (b := b) (by have := hV.turns; omega) ((can_pairs hV).1 hne k hk) (by have := truths1_len hV hk; omega) (fun u hu => truths1_tame hV hk hu) (d := (d : Int)) (by omega)
    rw [Int.toNat_natCast, thick_ref hV hne hk d] at c
    exact c
  generalize truths1 b k = ts at hsp
  obtain ⟨h1, h2, h3, h4⟩ := findF_spec (surelyF b (truthsF b []) b.turns k) (b.days + 1).toNat 0
  unfold goneF
  generalize hr : findF (surelyF b (truthsF b []) b.turns k) (b.days + 1).toNat 0 = r at h1 h2 h3 h4
  have hon : ∀ i : Nat, i < r → WpL Proofs.Tryd.prog (mk Proofs.Tryd.prog (lookN types) glob 42) (Code.at [1, 0, 1, 0, 0] (body Proofs.Tryd.f191)) (rSure_S0 b ts i) fun e1 L1 => e1 = .normal ∧ L1 = rSure_S0 b ts (i + 1) := fun i hi => by
    have c := hsp i (by omega)
    have hd : decide ((thickF b (truthsF b []) b.turns k i).hi < b.rule) = false := h3 i (by omega) hi
    have hle : decide ((i : Int) ≤ b.days) = true := decide_eq_true (by omega)
    have hi64 : inI64 ((i : Int) + 1) := by simp only [inI64]; omega
    refine WpL.path (G 42) (rSure_0_on b ts i (thickF b (truthsF b []) b.turns k i)) ?_ ⟨rfl, rfl⟩
    repeat (first | exact trivial | refine ⟨by first | exact hle | exact c | exact hd | exact hi64 | rfl | omega, ?_⟩)
  by_cases hlt : r < 0 + (b.days + 1).toNat
  · have hd : decide ((thickF b (truthsF b []) b.turns k r).hi < b.rule) = true := h4 hlt
    have c := hsp r (by omega)
    have hle : decide ((r : Int) ≤ b.days) = true := decide_eq_true (by omega)
    have hloop : LoopT Proofs.Tryd.prog glob 42 (Code.at [1, 0, 1] (body Proofs.Tryd.f191)) (rSure_S0 b ts 0) .ret (rSure_T0_hit b ts r (thickF b (truthsF b []) b.turns k r)) := by
      refine LoopT.count (tt := lookN types) (id := 0) (c := Code.at [1, 0, 1, 0, 0] (body Proofs.Tryd.f191)) (by kernel_rfl) r (fun i => rSure_S0 b ts i) hon (WpL.path (G 42) (rSure_0_hit b ts r (thickF b (truthsF b []) b.turns k r)) ?_ ⟨.inr ⟨rfl, rfl⟩, rfl⟩)
      repeat (first | exact trivial | refine ⟨by first | exact hle | exact c | exact hd | rfl | omega, ?_⟩)
    refine contract_of_path (G 42) rSure_fn (rSure_hit b ts r (thickF b (truthsF b []) b.turns k r)) ?_
    repeat (first | exact trivial | refine ⟨by first | exact hloop | rfl | omega, ?_⟩)
  · have e : (r : Int) = b.days + 1 := by omega
    have hle : decide ((r : Int) ≤ b.days) = false := decide_eq_false (by omega)
    have hi64 : inI64 (b.days + 1) := by simp only [inI64]; omega
    have hloop : LoopT Proofs.Tryd.prog glob 42 (Code.at [1, 0, 1] (body Proofs.Tryd.f191)) (rSure_S0 b ts 0) .normal (rSure_S0 b ts r) := by
      refine LoopT.count (tt := lookN types) (id := 0) (c := Code.at [1, 0, 1, 0, 0] (body Proofs.Tryd.f191)) (by kernel_rfl) r (fun i => rSure_S0 b ts i) hon (WpL.path (G 42) (rSure_0_end b ts r) ?_ ⟨.inl ⟨rfl, rfl⟩, rfl⟩)
      repeat (first | exact trivial | refine ⟨by first | exact hle | rfl | omega, ?_⟩)
    rw [e]
    refine contract_of_path (G 42) rSure_fn (rSure_end b ts r) ?_
    repeat (first | exact trivial | refine ⟨by first | exact hloop | exact hi64 | rfl | omega, ?_⟩)
end
theorem section_nat {b : Book} {n : Int} (h : isSectionF b n = true) : ∃ k : Nat, (k : Int) = n ∧ k < b.secs.length := by
  simp only [isSectionF, within_iff] at h
  exact ⟨n.toNat, by omega, by omega⟩
theorem rThinA_con {b : Book} (hs : Small b) (n : Int) : Contract Proofs.Tryd.prog glob 111 [bookD b, .int .i64 n] (.tup [.int .i64 (thinAF b n).1, .int .i64 (thinAF b n).2]) := by
  refine contract_of_path (G 11) rThinA_fn (rThinA_all b n (thinAF b n).1 (thinAF b n).2) ⟨?_, trivial⟩
  have c1 := rSection_con b n hs.secs
  have c2 := rAsked_con hs (isSectionF b n)
  unfold thinAF
  by_cases he : errF b (isSectionF b n) = 0
  · obtain ⟨hV0, hi, hne⟩ := err_zero he
    have hV := hV0.v9
    obtain ⟨k, rfl, hk⟩ := section_nat hi
    have c3 := tr_con hV hk
    have c4 := rMay_con hV hk hne
    rw [he] at c2 ⊢
    rcases dayOr_cases (b := b) (thinF b (truthsF b []) b.turns k) with ⟨h, h'⟩ | ⟨h, h'⟩ <;> rw [h]
    · have hd : decide (thinF b (truthsF b []) b.turns k > b.days) = true := decide_eq_true h'
      refine contract_of_path (G 29) rTold0_fn (rTold0_none b k (truths1 b k) (thinF b (truthsF b []) b.turns k)) ?_
      repeat (first | exact trivial | refine ⟨by first | exact c1 | exact c2 | exact c3 | exact c4 | exact hd | rfl | omega, ?_⟩)
    · have hd : decide (thinF b (truthsF b []) b.turns k > b.days) = false := decide_eq_false (by omega)
      refine contract_of_path (G 29) rTold0_fn (rTold0_ok b k (truths1 b k) (thinF b (truthsF b []) b.turns k)) ?_
      repeat (first | exact trivial | refine ⟨by first | exact c1 | exact c2 | exact c3 | exact c4 | exact hd | rfl | omega, ?_⟩)
  · have hb := ne_bne he
    rw [show dayOr b (errF b (isSectionF b n)) (thinF b (truthsF b []) b.turns n) = (0, errF b (isSectionF b n)) from if_neg he]
    refine contract_of_path (G 29) rTold0_fn (rTold0_err b n (errF b (isSectionF b n))) ?_
    repeat (first | exact trivial | refine ⟨by first | exact c1 | exact c2 | exact hb | rfl | omega, ?_⟩)
theorem rGoneA_con {b : Book} (hs : Small b) (n : Int) : Contract Proofs.Tryd.prog glob 112 [bookD b, .int .i64 n] (.tup [.int .i64 (goneAF b n).1, .int .i64 (goneAF b n).2]) := by
  refine contract_of_path (G 11) rGoneA_fn (rGoneA_all b n (goneAF b n).1 (goneAF b n).2) ⟨?_, trivial⟩
  have c1 := rSection_con b n hs.secs
  have c2 := rAsked_con hs (isSectionF b n)
  unfold goneAF
  by_cases he : errF b (isSectionF b n) = 0
  · obtain ⟨hV0, hi, hne⟩ := err_zero he
    have hV := hV0.v9
    obtain ⟨k, rfl, hk⟩ := section_nat hi
    have c3 := tr_con hV hk
    have c4 := rSure_con hV hk hne
    rw [he] at c2 ⊢
    rcases dayOr_cases (b := b) (goneF b (truthsF b []) b.turns k) with ⟨h, h'⟩ | ⟨h, h'⟩ <;> rw [h]
    · have hd : decide (goneF b (truthsF b []) b.turns k > b.days) = true := decide_eq_true h'
      refine contract_of_path (G 29) rTold1_fn (rTold1_none b k (truths1 b k) (goneF b (truthsF b []) b.turns k)) ?_
      repeat (first | exact trivial | refine ⟨by first | exact c1 | exact c2 | exact c3 | exact c4 | exact hd | rfl | omega, ?_⟩)
    · have hd : decide (goneF b (truthsF b []) b.turns k > b.days) = false := decide_eq_false (by omega)
      refine contract_of_path (G 29) rTold1_fn (rTold1_ok b k (truths1 b k) (goneF b (truthsF b []) b.turns k)) ?_
      repeat (first | exact trivial | refine ⟨by first | exact c1 | exact c2 | exact c3 | exact c4 | exact hd | rfl | omega, ?_⟩)
  · have hb := ne_bne he
    rw [show dayOr b (errF b (isSectionF b n)) (goneF b (truthsF b []) b.turns n) = (0, errF b (isSectionF b n)) from if_neg he]
    refine contract_of_path (G 29) rTold1_fn (rTold1_err b n (errF b (isSectionF b n))) ?_
    repeat (first | exact trivial | refine ⟨by first | exact c1 | exact c2 | exact hb | rfl | omega, ?_⟩)

/-! ### Cut -/
def rCutS (b : Book) (d : Int) (i : Nat) : List Int → List (Key × Val)
  | [] => rCutA_S0 b d i
  | y :: r => rCutB_S0 b d i y r
theorem rCut_round {b : Book} (hV : Val9 b) (hne : truthsF b [] ≠ []) {d : Int} (hd : 0 ≤ d ∧ d ≤ b.days) (i : Nat) (l : List Int) (hi : i < b.secs.length) (hsz : l.length ≤ 1000) :
    WpL Proofs.Tryd.prog (mk Proofs.Tryd.prog (lookN types) glob 40) (Code.at [1, 1, 1, 0, 1, 0, 0] (body Proofs.Tryd.f113)) (rCutS b d i l) fun e1 L1 => e1 = .normal ∧ L1 = rCutS b d (i + 1) (if (thickF b (truthsF b []) b.turns i d).lo < b.rule then l ++ [(i : Int)] else l) := by
  have h4 := hV.secs
  have hdd := hV.days
  have c1 := tr_con hV hi
  have c2 := rSpan_con (b := b) (by have := hV.turns; omega) ((can_pairs hV).1 hne i hi) (by have := truths1_len hV hi; omega) (fun u hu => truths1_tame hV hi hu) (d := d) (by omega)
  obtain ⟨m, hm⟩ : ∃ m : Nat, (m : Int) = d := ⟨d.toNat, by omega⟩
  rw [show d.toNat = m by omega, thick_ref hV hne hi m, hm] at c2
  have hlt : decide ((i : Int) < b.secs.length) = true := decide_eq_true (by omega)
  have hi64 : inI64 ((i : Int) + 1) := by simp only [inI64]; omega
  generalize truths1 b i = ts at c1 c2
  generalize thickF b (truthsF b []) b.turns i d = s at c2
  by_cases hc : s.lo < b.rule
  · have hcd : decide (s.lo < b.rule) = true := decide_eq_true hc
    rw [if_pos hc]
    cases l with
    | nil =>
      refine WpL.path (G 40) (rCutA_0_on b d i ts s) ?_ ⟨rfl, rfl⟩
      repeat (first | exact trivial | refine ⟨by first | exact hlt | exact c1 | exact c2 | exact hcd | exact hi64 | rfl | omega | (simp; omega), ?_⟩)
    | cons y r =>
      have hz : (y :: r ++ [(i : Int)]).length * (8 + 1) ≤ 140737488355328 := by simp only [List.length_append, List.length_cons, List.length_nil] at hsz ⊢; omega
      refine WpL.path (G 40) (rCutB_0_on b d i y r ts s) ?_ ⟨rfl, rfl⟩
      repeat (first | exact trivial | refine ⟨by first | exact hlt | exact c1 | exact c2 | exact hcd | exact hz | exact hi64 | rfl | omega, ?_⟩)
  · have hcd : decide (s.lo < b.rule) = false := decide_eq_false hc
    rw [if_neg hc]
    cases l with
    | nil =>
      refine WpL.path (G 40) (rCutA_0_no b d i ts s) ?_ ⟨rfl, rfl⟩
      repeat (first | exact trivial | refine ⟨by first | exact hlt | exact c1 | exact c2 | exact hcd | exact hi64 | rfl | omega, ?_⟩)
    | cons y r =>
      refine WpL.path (G 40) (rCutB_0_no b d i y r ts s) ?_ ⟨rfl, rfl⟩
      repeat (first | exact trivial | refine ⟨by first | exact hlt | exact c1 | exact c2 | exact hcd | exact hi64 | rfl | omega, ?_⟩)
theorem tup_weak {R : Foot} {w : World} {v : Value} {xs : List Int} {n : Int} {t : Bool} (h : Rel R w (.tup [.sl t .int xs, .int .i64 n]) v) : Rel R w (.tup [.sl false .int xs, .int .i64 n]) v := by
  obtain ⟨vs, hv, h⟩ := h
  refine ⟨vs, hv, ?_⟩
  match hq : vs.toList, h with
  | [v0, v1], ⟨h0, h1, h2⟩ => exact ⟨weakC_rel (R := R) (w := w) (d := .sl t .int xs) h0, h1, h2⟩
theorem rCutA_con {b : Book} (hs : Small b) (d : Int) : Contract Proofs.Tryd.prog glob 113 [bookD b, .int .i64 d] (.tup [.sl false .int (cutAF b d).1, .int .i64 (cutAF b d).2]) := by
  have c1 := rDay_con b d
  have c2 := rAsked_con hs (isDayF b d)
  unfold cutAF
  by_cases he : errF b (isDayF b d) = 0
  · obtain ⟨hV0, hi, hne⟩ := err_zero he
    have hV := hV0.v9
    rw [if_pos he]
    rw [he] at c2
    have hd := hi
    simp only [isDayF, within_iff] at hd
    have h4 := hV.secs
    have hloop : LoopT Proofs.Tryd.prog glob 40 (Code.at [1, 1, 1, 0, 1] (body Proofs.Tryd.f113)) (rCutS b d 0 []) .normal (rCutS b d b.secs.length (cutGo b (truthsF b []) d b.secs.length)) := by
      refine LoopT.count (tt := lookN types) (id := 0) (c := Code.at [1, 1, 1, 0, 1, 0, 0] (body Proofs.Tryd.f113)) (by kernel_rfl) b.secs.length (fun i => rCutS b d i (cutGo b (truthsF b []) d i)) (fun i hi => ?_) ?_
      · have := cutGo_len b (truthsF b []) d i
        exact rCut_round hV hne hd i _ hi (by omega)
      · cases cutGo b (truthsF b []) d b.secs.length with
        | nil => exact WpL.path (G 40) (rCutA_0_end b d b.secs.length) ⟨decide_eq_false (Int.lt_irrefl _), trivial⟩ ⟨.inl ⟨rfl, rfl⟩, rfl⟩
        | cons y r => exact WpL.path (G 40) (rCutB_0_end b d b.secs.length y r) ⟨decide_eq_false (Int.lt_irrefl _), trivial⟩ ⟨.inl ⟨rfl, rfl⟩, rfl⟩
    cases hw : cutGo b (truthsF b []) d b.secs.length with
    | nil =>
      rw [hw] at hloop
      refine (contract_of_path (G 40) rCutA_fn (rCutA_none b d b.secs.length) ?_).toRes fun _ _ _ h => tup_weak h
      repeat (first | exact trivial | refine ⟨by first | exact c1 | exact c2 | exact hloop | rfl | omega, ?_⟩)
    | cons y r =>
      rw [hw] at hloop
      refine contract_of_path (G 40) rCutA_fn (rCutA_some b d b.secs.length y r) ?_
      repeat (first | exact trivial | refine ⟨by first | exact c1 | exact c2 | exact hloop | rfl | omega, ?_⟩)
  · have hb := ne_bne he
    rw [if_neg he]
    refine (contract_of_path (G 40) rCutA_fn (rCutA_err b d (errF b (isDayF b d))) ?_).toRes fun _ _ _ h => tup_weak h
    repeat (first | exact trivial | refine ⟨by first | exact c1 | exact c2 | exact hb | rfl | omega, ?_⟩)

/-! ### Fits -/
theorem rFitsA_con {b : Book} (hs : Small b) (x : Sv) : Contract Proofs.Tryd.prog glob 114 [bookD b, svD x] (.tup [.bool (fitsAF b x).1, .int .i64 (fitsAF b x).2]) := by
  have c1 := rSurvey_con b x hs.secs
  have c2 := rAsked_con hs (isSurveyF b x)
  unfold fitsAF
  by_cases he : errF b (isSurveyF b x) = 0
  · obtain ⟨hV0, hi, hne⟩ := err_zero he
    rw [if_pos he]
    rw [he] at c2
    have h8 := hV0.svs
    have c3 := rCan_con (hV0.more9 hi)
    have z1 : ([] ++ b.svs).length * (32 + 1) ≤ 140737488355328 := by simp; omega
    have z2 : (([] ++ b.svs) ++ [x]).length * (32 + 1) ≤ 140737488355328 := by simp; omega
    refine contract_of_path (G 27) rFitsA_fn (rFitsA_ok b x (canF (more b x))) ?_
    repeat (first | exact trivial | refine ⟨by first | exact c1 | exact c2 | exact c3 | exact z1 | exact z2 | rfl | omega, ?_⟩)
  · have hb := ne_bne he
    rw [if_neg he]
    refine contract_of_path (G 27) rFitsA_fn (rFitsA_err b x (errF b (isSurveyF b x))) ?_
    repeat (first | exact trivial | refine ⟨by first | exact c1 | exact c2 | exact hb | rfl | omega, ?_⟩)

/-! ### The law ChainThins -/
theorem cutAF_len {b : Book} (hs : Small b) (d : Int) : (cutAF b d).1.length ≤ 9223372036854775807 := by
  have h1 := hs.secs
  have := cutGo_len b (truthsF b []) d b.secs.length
  unfold cutAF
  split
  · show (cutGo b (truthsF b []) d b.secs.length).length ≤ _
    omega
  · simp
theorem cthin2_con {b : Book} (hs : Small b) (x : Sv) (n0 n1 : Int) : Contract Proofs.Tryd.prog glob 31 [bookD b, bookD b, svD x, .agg [.int .i64 n0, .int .i64 n1]] (.bool true) := by
  have c1 := thinA_con hs n0
  have c2 := rThinA_con hs n0
  have c3 := goneA_con hs n0
  have c4 := rGoneA_con hs n0
  have c5 := cutA_con hs n1
  have c6 := rCutA_con hs n1
  have c7 := alike_con (cutAF b n1).1 (cutAF b n1).1 (cutAF_len hs n1)
  rw [decide_eq_true rfl] at c7
  have c8 := fitsA_con hs x
  have c9 := rFitsA_con hs x
  generalize (thinAF b n0).1 = k1 at c1 c2
  generalize (thinAF b n0).2 = e1 at c1 c2
  generalize (goneAF b n0).1 = k2 at c3 c4
  generalize (goneAF b n0).2 = e2 at c3 c4
  generalize (cutAF b n1).1 = cut at c5 c6 c7
  generalize (cutAF b n1).2 = e3 at c5 c6
  generalize (fitsAF b x).1 = c at c8 c9
  generalize (fitsAF b x).2 = e4 at c8 c9
  have d1 := bne_self' k1
  have d2 := bne_self' e1
  have d3 := bne_self' k2
  have d4 := bne_self' e2
  have d5 := bne_self' e3
  have d6 : (c == c) = true := by simp
  have d7 : (e4 == e4) = true := by simp
  rw [← d7]
  refine contract_of_path (G 104) cthin__fn (cthin__all b x n0 n1 k1 e1 k2 e2 e3 e4 cut c) ?_
  repeat (first | exact trivial | refine ⟨by first | exact c1 | exact c2 | exact c3 | exact c4 | exact c5 | exact c6 | exact c7 | exact c8 | exact c9 | exact d1 | exact d2 | exact d3 | exact d4 | exact d5 | exact d6 | rfl | omega, ?_⟩)
theorem cthins_con {b : Book} (hs : Small b) (hr : Room b) (x : Sv) (n0 n1 : Int) : Contract Proofs.Tryd.prog glob 4 [bookD b, svD x, .agg [.int .i64 n0, .int .i64 n1]] (.bool true) := by
  have c1 := oChain_con hr
  have c2 := cthin2_con hs x n0 n1
  have c3 := kChain_con hs
  have c4 := forged_con
  refine contract_of_path (G 23) cthins_fn (cthins_all b x n0 n1) ?_
  repeat (first | exact trivial | refine ⟨by first | exact c1 | exact c2 | exact c3 | exact c4 | rfl | omega, ?_⟩)
end Go.Di

