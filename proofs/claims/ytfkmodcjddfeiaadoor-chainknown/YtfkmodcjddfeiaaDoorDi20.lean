/- Part 20: an interpreter over plain data for this code, with the proof that it says what the model does, and the contracts of the functions. No condition. -/
import Derived.Test.YtfkmodcjddfeiaaDoorDi19
import Derived.Deep.Slices
import Derived.Deep.DeepHandedRow
import Derived.Carry
import Derived.LaidMore
import Derived.ProofKit
import Derived.OpenShut
import Derived.Test.YtfkmodcjddfeiaaDoorCards
import Derived.Test.YtfkmodcjddfeiaaDoorTie
import Derived.SevenTiedAt
import Derived.Stop.Joined
import Derived.Deep.DeepWitnessRowRef
set_option linter.unusedVariables false
set_option linter.unusedSimpArgs false
set_option maxRecDepth 100000
namespace Go.Di
theorem rangeB_fn : FnOk Proofs.Tryd.prog (mk Proofs.Tryd.prog (lookN types) glob 8) 61 (body Proofs.Tryd.f61) [.cell 4 51] := ⟨Proofs.Tryd.f61, by kernel_rfl, by kernel_rfl, by kernel_rfl, by kernel_rfl, by kernel_rfl⟩
theorem point_fn : FnOk Proofs.Tryd.prog (mk Proofs.Tryd.prog (lookN types) glob 6) 49 (body Proofs.Tryd.f49) [.cell 2 51] := ⟨Proofs.Tryd.f49, by kernel_rfl, by kernel_rfl, by kernel_rfl, by kernel_rfl, by kernel_rfl⟩
theorem sectionB_fn : FnOk Proofs.Tryd.prog (mk Proofs.Tryd.prog (lookN types) glob 8) 67 (body Proofs.Tryd.f67) [.cell 4 76] := ⟨Proofs.Tryd.f67, by kernel_rfl, by kernel_rfl, by kernel_rfl, by kernel_rfl, by kernel_rfl⟩
theorem surveyB_fn : FnOk Proofs.Tryd.prog (mk Proofs.Tryd.prog (lookN types) glob 14) 48 (body Proofs.Tryd.f48) [.cell 8 34] := ⟨Proofs.Tryd.f48, by kernel_rfl, by kernel_rfl, by kernel_rfl, by kernel_rfl, by kernel_rfl⟩
theorem bookB_fn : FnOk Proofs.Tryd.prog (mk Proofs.Tryd.prog (lookN types) glob 15) 63 (body Proofs.Tryd.f63) [.cell 4 26] := ⟨Proofs.Tryd.f63, by kernel_rfl, by kernel_rfl, by kernel_rfl, by kernel_rfl, by kernel_rfl⟩
theorem own1_fn : FnOk Proofs.Tryd.prog (mk Proofs.Tryd.prog (lookN types) glob 3) 62 (body Proofs.Tryd.f62) [.cell 0 26] := ⟨Proofs.Tryd.f62, by kernel_rfl, by kernel_rfl, by kernel_rfl, by kernel_rfl, by kernel_rfl⟩
theorem torn1_fn : FnOk Proofs.Tryd.prog (mk Proofs.Tryd.prog (lookN types) glob 6) 65 (body Proofs.Tryd.f65) [.cell 0 26] := ⟨Proofs.Tryd.f65, by kernel_rfl, by kernel_rfl, by kernel_rfl, by kernel_rfl, by kernel_rfl⟩
theorem surveyed1_fn : FnOk Proofs.Tryd.prog (mk Proofs.Tryd.prog (lookN types) glob 5) 66 (body Proofs.Tryd.f66) [.cell 0 26] := ⟨Proofs.Tryd.f66, by kernel_rfl, by kernel_rfl, by kernel_rfl, by kernel_rfl, by kernel_rfl⟩
theorem straight1_fn : FnOk Proofs.Tryd.prog (mk Proofs.Tryd.prog (lookN types) glob 2) 110 (body Proofs.Tryd.f110) [.cell 0 26] := ⟨Proofs.Tryd.f110, by kernel_rfl, by kernel_rfl, by kernel_rfl, by kernel_rfl, by kernel_rfl⟩
theorem alike_fn : FnOk Proofs.Tryd.prog (mk Proofs.Tryd.prog (lookN types) glob 26) 55 (body Proofs.Tryd.f55) [.tmp 4] := ⟨Proofs.Tryd.f55, by kernel_rfl, by kernel_rfl, by kernel_rfl, by kernel_rfl, by kernel_rfl⟩
theorem forged_fn : FnOk Proofs.Tryd.prog (mk Proofs.Tryd.prog (lookN types) glob 142) 30 (body Proofs.Tryd.f30) [.tmp 0] := ⟨Proofs.Tryd.f30, by kernel_rfl, by kernel_rfl, by kernel_rfl, by kernel_rfl, by kernel_rfl⟩
def alike_S0 (xs ys : List Int) (i : Nat) : List (Key × Val) :=
  [(.tmp 0, .d (D.sl false E.int xs)),
   (.tmp 1, .d (D.sl false E.int ys)),
   (.tmp 5, .d (.int .i64 i))]
def alike_K0 : List Key := [.tmp 0, .tmp 1, .tmp 5]
theorem alike_0_on (xs ys : List Int) (i : Nat) :
    runK (mk Proofs.Tryd.prog (lookN types) glob 26) [(14, true), (25, false)] [] [] (Code.at [1, 1, 0, 1, 0, 0] (body Proofs.Tryd.f55)) (alike_S0 xs ys i) alike_K0 =
      some ([decide ((Nat.cast : Nat → Int) i < (Nat.cast : Nat → Int) (List.length xs)) = true, (0 : Int) ≤ (Nat.cast : Nat → Int) i ∧ (Nat.cast : Nat → Int) i < (Nat.cast : Nat → Int) (List.length xs), 0 + 1 ≤ 1, (0 : Int) ≤ (Nat.cast : Nat → Int) i ∧ (Nat.cast : Nat → Int) i < (Nat.cast : Nat → Int) (List.length ys), 0 + 1 ≤ 1, (List.getD xs (Int.toNat ((Nat.cast : Nat → Int) i)) (E.z E.int) != List.getD ys (Int.toNat ((Nat.cast : Nat → Int) i)) (E.z E.int)) = false, inI64 ((Nat.cast : Nat → Int) i + (1 : Int))], Ex.normal, [(.tmp 0, .d (D.sl false E.int xs)), (.tmp 1, .d (D.sl false E.int ys)), (.tmp 5, .d (D.int .i64 ((Nat.cast : Nat → Int) i + (1 : Int))))]) := by kernel_rfl
theorem alike_0_diff (xs ys : List Int) (i : Nat) :
    runK (mk Proofs.Tryd.prog (lookN types) glob 26) [(14, true), (25, true)] [] [] (Code.at [1, 1, 0, 1, 0, 0] (body Proofs.Tryd.f55)) (alike_S0 xs ys i) [.tmp 0, .tmp 1, .tmp 5, .tmp 4] =
      some ([decide ((Nat.cast : Nat → Int) i < (Nat.cast : Nat → Int) (List.length xs)) = true, (0 : Int) ≤ (Nat.cast : Nat → Int) i ∧ (Nat.cast : Nat → Int) i < (Nat.cast : Nat → Int) (List.length xs), 0 + 1 ≤ 1, (0 : Int) ≤ (Nat.cast : Nat → Int) i ∧ (Nat.cast : Nat → Int) i < (Nat.cast : Nat → Int) (List.length ys), 0 + 1 ≤ 1, (List.getD xs (Int.toNat ((Nat.cast : Nat → Int) i)) (E.z E.int) != List.getD ys (Int.toNat ((Nat.cast : Nat → Int) i)) (E.z E.int)) = true], Ex.ret, [(.tmp 0, .d (D.sl false E.int xs)), (.tmp 1, .d (D.sl false E.int ys)), (.tmp 5, .d (D.int .i64 ((Nat.cast : Nat → Int) i))), (.tmp 4, .d (D.bool false))]) := by kernel_rfl
theorem alike_0_end (xs ys : List Int) (i : Nat) :
    runK (mk Proofs.Tryd.prog (lookN types) glob 26) [(14, false)] [] [] (Code.at [1, 1, 0, 1, 0, 0] (body Proofs.Tryd.f55)) (alike_S0 xs ys i) alike_K0 =
      some ([decide ((Nat.cast : Nat → Int) i < (Nat.cast : Nat → Int) (List.length xs)) = false], Ex.exit 0, [(.tmp 0, .d (D.sl false E.int xs)), (.tmp 1, .d (D.sl false E.int ys)), (.tmp 5, .d (D.int .i64 ((Nat.cast : Nat → Int) i)))]) := by kernel_rfl
def alike_T0_diff (xs ys : List Int) (i : Nat)  : List (Key × Val) :=
  [(.tmp 0, .d (D.sl false E.int xs)), (.tmp 1, .d (D.sl false E.int ys)), (.tmp 5, .d (D.int .i64 ((Nat.cast : Nat → Int) i))), (.tmp 4, .d (D.bool false))]
theorem rangeB_all (a c : Int) :
    callF (mk Proofs.Tryd.prog (lookN types) glob 8) [] [] [] (body Proofs.Tryd.f61) [.cell 4 51] [.int .i64 a, .int .i64 c] =
      some ([0 + 2 ≤ 2], D.agg [D.int .i64 a, D.int .i64 c]) := by kernel_rfl
theorem point_all (a : Int) :
    callF (mk Proofs.Tryd.prog (lookN types) glob 6) [] [(5, spD ⟨a, a⟩)] [] (body Proofs.Tryd.f49) [.cell 2 51] [.int .i64 a] =
      some ([Contract Proofs.Tryd.prog glob 61 [D.int .i64 a, D.int .i64 a] (D.agg [D.int .i64 (Span.lo (Span.mk a a)), D.int .i64 (Span.hi (Span.mk a a))]), 0 + 2 ≤ 2], D.agg [D.int .i64 (Span.lo (Span.mk a a)), D.int .i64 (Span.hi (Span.mk a a))]) := by kernel_rfl
theorem sectionB_all (s t : Span) :
    callF (mk Proofs.Tryd.prog (lookN types) glob 8) [] [] [] (body Proofs.Tryd.f67) [.cell 4 76] [spD s, spD t] =
      some ([0 + 2 ≤ 2, 0 + 2 ≤ 2, 0 + 4 ≤ 4], D.agg [D.int .i64 (Span.lo s), D.int .i64 (Span.hi s), D.int .i64 (Span.lo t), D.int .i64 (Span.hi t)]) := by kernel_rfl
theorem surveyB_all (a c d e : Int) :
    callF (mk Proofs.Tryd.prog (lookN types) glob 14) [] [] [] (body Proofs.Tryd.f48) [.cell 8 34] [.int .i64 a, .int .i64 c, .int .i64 d, .int .i64 e] =
      some ([0 + 4 ≤ 4], D.agg [D.int .i64 a, D.int .i64 c, D.int .i64 d, D.int .i64 e]) := by kernel_rfl
theorem bookB_all (turns : List Int) (svs : List Sv) :
    callF (mk Proofs.Tryd.prog (lookN types) glob 15) [] [(5, spD ⟨40, 42⟩), (6, spD ⟨1, 2⟩), (7, .agg [.int .i64 40, .int .i64 42, .int .i64 1, .int .i64 2]), (8, spD ⟨38, 39⟩), (9, spD ⟨0, 1⟩), (10, .agg [.int .i64 38, .int .i64 39, .int .i64 0, .int .i64 1])] [] (body Proofs.Tryd.f63) [.cell 4 26] [.sl false .int turns, .sl false .sv svs] =
      some ([Contract Proofs.Tryd.prog glob 61 [D.int .i64 (40 : Int), D.int .i64 (42 : Int)] (D.agg [D.int .i64 (Span.lo (Span.mk (40 : Int) (42 : Int))), D.int .i64 (Span.hi (Span.mk (40 : Int) (42 : Int)))]), Contract Proofs.Tryd.prog glob 61 [D.int .i64 (1 : Int), D.int .i64 (2 : Int)] (D.agg [D.int .i64 (Span.lo (Span.mk (1 : Int) (2 : Int))), D.int .i64 (Span.hi (Span.mk (1 : Int) (2 : Int)))]), Contract Proofs.Tryd.prog glob 67 [D.agg [D.int .i64 (Span.lo (Span.mk (40 : Int) (42 : Int))), D.int .i64 (Span.hi (Span.mk (40 : Int) (42 : Int)))], D.agg [D.int .i64 (Span.lo (Span.mk (1 : Int) (2 : Int))), D.int .i64 (Span.hi (Span.mk (1 : Int) (2 : Int)))]] (D.agg [D.int .i64 (40 : Int), D.int .i64 (42 : Int), D.int .i64 (1 : Int), D.int .i64 (2 : Int)]), Contract Proofs.Tryd.prog glob 61 [D.int .i64 (38 : Int), D.int .i64 (39 : Int)] (D.agg [D.int .i64 (Span.lo (Span.mk (38 : Int) (39 : Int))), D.int .i64 (Span.hi (Span.mk (38 : Int) (39 : Int)))]), Contract Proofs.Tryd.prog glob 61 [D.int .i64 (0 : Int), D.int .i64 (1 : Int)] (D.agg [D.int .i64 (Span.lo (Span.mk (0 : Int) (1 : Int))), D.int .i64 (Span.hi (Span.mk (0 : Int) (1 : Int)))]), Contract Proofs.Tryd.prog glob 67 [D.agg [D.int .i64 (Span.lo (Span.mk (38 : Int) (39 : Int))), D.int .i64 (Span.hi (Span.mk (38 : Int) (39 : Int)))], D.agg [D.int .i64 (Span.lo (Span.mk (0 : Int) (1 : Int))), D.int .i64 (Span.hi (Span.mk (0 : Int) (1 : Int)))]] (D.agg [D.int .i64 (38 : Int), D.int .i64 (39 : Int), D.int .i64 (0 : Int), D.int .i64 (1 : Int)])], D.agg [D.sl true E.sec [Sec.mk (Span.mk (40 : Int) (42 : Int)) (Span.mk (1 : Int) (2 : Int)), Sec.mk (Span.mk (38 : Int) (39 : Int)) (Span.mk (0 : Int) (1 : Int))], D.sl false E.int turns, D.sl false E.sv svs, D.int .i64 (30 : Int), D.int .i64 (12 : Int)]) := by kernel_rfl
theorem own1_all  :
    callF (mk Proofs.Tryd.prog (lookN types) glob 3) [] [(2, bookD ownB)] [] (body Proofs.Tryd.f62) [.cell 0 26] [] =
      some ([Contract Proofs.Tryd.prog glob 63 [D.sl false E.int [(6 : Int)], D.sl false E.sv []] (bookD ownB)], bookD ownB) := by kernel_rfl
theorem torn1_all  :
    callF (mk Proofs.Tryd.prog (lookN types) glob 6) [] [(2, .agg [.int .i64 0, .int .i64 6, .int .i64 34, .int .i64 1]), (3, .agg [.int .i64 0, .int .i64 6, .int .i64 40, .int .i64 1]), (5, bookD tornB)] [] (body Proofs.Tryd.f65) [.cell 0 26] [] =
      some ([Contract Proofs.Tryd.prog glob 48 [D.int .i64 (0 : Int), D.int .i64 (6 : Int), D.int .i64 (34 : Int), D.int .i64 (1 : Int)] (D.agg [D.int .i64 (0 : Int), D.int .i64 (6 : Int), D.int .i64 (34 : Int), D.int .i64 (1 : Int)]), Contract Proofs.Tryd.prog glob 48 [D.int .i64 (0 : Int), D.int .i64 (6 : Int), D.int .i64 (40 : Int), D.int .i64 (1 : Int)] (D.agg [D.int .i64 (0 : Int), D.int .i64 (6 : Int), D.int .i64 (40 : Int), D.int .i64 (1 : Int)]), Contract Proofs.Tryd.prog glob 63 [D.sl false E.int [(6 : Int)], D.sl false E.sv [Sv.mk (0 : Int) (6 : Int) (34 : Int) (1 : Int), Sv.mk (0 : Int) (6 : Int) (40 : Int) (1 : Int)]] (bookD tornB)], bookD tornB) := by kernel_rfl
theorem surveyed1_all  :
    callF (mk Proofs.Tryd.prog (lookN types) glob 5) [] [(2, .agg [.int .i64 0, .int .i64 6, .int .i64 34, .int .i64 1]), (4, bookD surveyedB)] [] (body Proofs.Tryd.f66) [.cell 0 26] [] =
      some ([Contract Proofs.Tryd.prog glob 48 [D.int .i64 (0 : Int), D.int .i64 (6 : Int), D.int .i64 (34 : Int), D.int .i64 (1 : Int)] (D.agg [D.int .i64 (0 : Int), D.int .i64 (6 : Int), D.int .i64 (34 : Int), D.int .i64 (1 : Int)]), Contract Proofs.Tryd.prog glob 63 [D.sl false E.int [(6 : Int)], D.sl false E.sv [Sv.mk (0 : Int) (6 : Int) (34 : Int) (1 : Int)]] (bookD surveyedB)], bookD surveyedB) := by kernel_rfl
theorem straight1_all  :
    callF (mk Proofs.Tryd.prog (lookN types) glob 2) [] [(1, bookD straightB)] [] (body Proofs.Tryd.f110) [.cell 0 26] [] =
      some ([Contract Proofs.Tryd.prog glob 63 [D.sl false E.int [], D.sl false E.sv []] (bookD straightB)], bookD straightB) := by kernel_rfl
theorem alike_len (xs ys : List Int) :
    callF (mk Proofs.Tryd.prog (lookN types) glob 26) [(10, true)] [] [] (body Proofs.Tryd.f55) [.tmp 4] [.sl false .int xs, .sl false .int ys] =
      some ([((Nat.cast : Nat → Int) (List.length xs) != (Nat.cast : Nat → Int) (List.length ys)) = true], D.bool false) := by kernel_rfl
theorem alike_diff (xs ys : List Int) (i : Nat) :
    callF (mk Proofs.Tryd.prog (lookN types) glob 26) [(10, false)] [] [(0, (alike_K0, (.ret, alike_T0_diff xs ys i)))] (body Proofs.Tryd.f55) [.tmp 4] [.sl false .int xs, .sl false .int ys] =
      some ([((Nat.cast : Nat → Int) (List.length xs) != (Nat.cast : Nat → Int) (List.length ys)) = false, LoopT Proofs.Tryd.prog glob 26 (Code.at [1, 1, 0, 1] (body Proofs.Tryd.f55)) [(.tmp 0, .d (D.sl false E.int xs)), (.tmp 1, .d (D.sl false E.int ys)), (.tmp 5, .d (D.int .i64 (0 : Int)))] Ex.ret (alike_T0_diff xs ys i)], D.bool false) := by kernel_rfl
theorem alike_all (xs ys : List Int) (i : Nat) :
    callF (mk Proofs.Tryd.prog (lookN types) glob 26) [(10, false)] [] [(0, (alike_K0, (.normal, alike_S0 xs ys i)))] (body Proofs.Tryd.f55) [.tmp 4] [.sl false .int xs, .sl false .int ys] =
      some ([((Nat.cast : Nat → Int) (List.length xs) != (Nat.cast : Nat → Int) (List.length ys)) = false, LoopT Proofs.Tryd.prog glob 26 (Code.at [1, 1, 0, 1] (body Proofs.Tryd.f55)) [(.tmp 0, .d (D.sl false E.int xs)), (.tmp 1, .d (D.sl false E.int ys)), (.tmp 5, .d (D.int .i64 (0 : Int)))] Ex.normal (alike_S0 xs ys i)], D.bool true) := by kernel_rfl
theorem forged_all  :
    callF (mk Proofs.Tryd.prog (lookN types) glob 142) [] [(16, bookD ownB), (17, .tup [spD ⟨22, 36⟩, .int .i64 0]), (21, bookD surveyedB), (22, .tup [spD ⟨26, 33⟩, .int .i64 0]), (26, bookD surveyedB), (27, .tup [spD ⟨1, 1⟩, .int .i64 0]), (31, bookD ownB), (32, .tup [.int .i64 8, .int .i64 0]), (36, bookD ownB), (37, .tup [.sl true .int ([0, 1] : List Int), .int .i64 0]), (60, spD ⟨22, 36⟩), (65, spD ⟨26, 33⟩), (70, spD ⟨1, 1⟩), (80, .bool true), (84, bookD surveyedB), (85, .agg [.int .i64 1, .int .i64 6, .int .i64 39, .int .i64 0]), (86, .tup [.bool true, .int .i64 0]), (90, bookD straightB), (91, .tup [.int .i64 4, .int .i64 0]), (95, bookD tornB), (96, .tup [.sl true .int ([1] : List Int), .int .i64 0]), (100, bookD surveyedB), (101, .tup [.bool true, .int .i64 0]), (105, bookD ownB), (106, .tup [.int .i64 0, .int .i64 4]), (137, .bool true)] [] (body Proofs.Tryd.f30) [.tmp 0] [] =
      some ([Contract Proofs.Tryd.prog glob 62 [] (bookD ownB), Contract Proofs.Tryd.prog glob 41 [bookD ownB, D.int .i64 (0 : Int), D.int .i64 (12 : Int)] (D.tup [D.agg [D.int .i64 (Span.lo (Span.mk (22 : Int) (36 : Int))), D.int .i64 (Span.hi (Span.mk (22 : Int) (36 : Int)))], D.int .i64 (0 : Int)]), Contract Proofs.Tryd.prog glob 66 [] (bookD surveyedB), Contract Proofs.Tryd.prog glob 41 [bookD surveyedB, D.int .i64 (1 : Int), D.int .i64 (12 : Int)] (D.tup [D.agg [D.int .i64 (Span.lo (Span.mk (26 : Int) (33 : Int))), D.int .i64 (Span.hi (Span.mk (26 : Int) (33 : Int)))], D.int .i64 (0 : Int)]), Contract Proofs.Tryd.prog glob 66 [] (bookD surveyedB), Contract Proofs.Tryd.prog glob 42 [bookD surveyedB, D.int .i64 (0 : Int)] (D.tup [D.agg [D.int .i64 (Span.lo (Span.mk (1 : Int) (1 : Int))), D.int .i64 (Span.hi (Span.mk (1 : Int) (1 : Int)))], D.int .i64 (0 : Int)]), Contract Proofs.Tryd.prog glob 62 [] (bookD ownB), Contract Proofs.Tryd.prog glob 43 [bookD ownB, D.int .i64 (1 : Int)] (D.tup [D.int .i64 (8 : Int), D.int .i64 (0 : Int)]), Contract Proofs.Tryd.prog glob 62 [] (bookD ownB), Contract Proofs.Tryd.prog glob 40 [bookD ownB, D.int .i64 (8 : Int)] (D.tup [D.sl true E.int [(0 : Int), (1 : Int)], D.int .i64 (0 : Int)]), 0 + 2 ≤ 2, Contract Proofs.Tryd.prog glob 61 [D.int .i64 (22 : Int), D.int .i64 (36 : Int)] (D.agg [D.int .i64 (Span.lo (Span.mk (22 : Int) (36 : Int))), D.int .i64 (Span.hi (Span.mk (22 : Int) (36 : Int)))]), 0 + 2 ≤ 2, Contract Proofs.Tryd.prog glob 61 [D.int .i64 (26 : Int), D.int .i64 (33 : Int)] (D.agg [D.int .i64 (Span.lo (Span.mk (26 : Int) (33 : Int))), D.int .i64 (Span.hi (Span.mk (26 : Int) (33 : Int)))]), 0 + 2 ≤ 2, Contract Proofs.Tryd.prog glob 49 [D.int .i64 (1 : Int)] (D.agg [D.int .i64 (Span.lo (Span.mk (1 : Int) (1 : Int))), D.int .i64 (Span.hi (Span.mk (1 : Int) (1 : Int)))]), Contract Proofs.Tryd.prog glob 55 [D.sl false E.int [(0 : Int), (1 : Int)], D.sl false E.int [(0 : Int), (1 : Int)]] (D.bool true), Contract Proofs.Tryd.prog glob 66 [] (bookD surveyedB), Contract Proofs.Tryd.prog glob 48 [D.int .i64 (1 : Int), D.int .i64 (6 : Int), D.int .i64 (39 : Int), D.int .i64 (0 : Int)] (D.agg [D.int .i64 (1 : Int), D.int .i64 (6 : Int), D.int .i64 (39 : Int), D.int .i64 (0 : Int)]), Contract Proofs.Tryd.prog glob 47 [bookD surveyedB, D.agg [D.int .i64 (1 : Int), D.int .i64 (6 : Int), D.int .i64 (39 : Int), D.int .i64 (0 : Int)]] (D.tup [D.bool true, D.int .i64 (0 : Int)]), Contract Proofs.Tryd.prog glob 110 [] (bookD straightB), Contract Proofs.Tryd.prog glob 54 [bookD straightB] (D.tup [D.int .i64 (4 : Int), D.int .i64 (0 : Int)]), Contract Proofs.Tryd.prog glob 65 [] (bookD tornB), Contract Proofs.Tryd.prog glob 38 [bookD tornB] (D.tup [D.sl true E.int [(1 : Int)], D.int .i64 (0 : Int)]), Contract Proofs.Tryd.prog glob 66 [] (bookD surveyedB), Contract Proofs.Tryd.prog glob 37 [bookD surveyedB] (D.tup [D.bool true, D.int .i64 (0 : Int)]), Contract Proofs.Tryd.prog glob 62 [] (bookD ownB), Contract Proofs.Tryd.prog glob 44 [bookD ownB, D.int .i64 (0 : Int)] (D.tup [D.int .i64 (0 : Int), D.int .i64 (4 : Int)]), Contract Proofs.Tryd.prog glob 55 [D.sl false E.int [(1 : Int)], D.sl false E.int [(1 : Int)]] (D.bool true)], D.bool true) := by kernel_rfl
end Go.Di

namespace Go.Di

theorem find_first (p : Nat → Bool) : ∀ n, (∃ k, k < n ∧ p k = true ∧ ∀ i < k, p i = false) ∨ ∀ i < n, p i = false
  | 0 => .inr fun i h => by omega
  | n + 1 => by
    rcases find_first p n with ⟨k, h1, h2, h3⟩ | h
    · exact .inl ⟨k, by omega, h2, h3⟩
    · cases hn : p n with
      | true => exact .inl ⟨n, by omega, hn, h⟩
      | false =>
        refine .inr fun i hi => ?_
        by_cases e : i = n
        · subst e; exact hn
        · exact h i (by omega)
theorem Contract.toWeak {P : Program} {glob : Nat → Option (List D)} {f : FuncId} {args : List D} {r : D} (h : Contract P glob f args r) : Contract P glob f args (weak r) := h.toRes fun _ _ _ => weak_rel

/-! ### Small functions of the laws -/
theorem rangeB_con (a c : Int) : Contract Proofs.Tryd.prog glob 61 [.int .i64 a, .int .i64 c] (spD ⟨a, c⟩) := contract_of_path (G 8) rangeB_fn (rangeB_all a c) ⟨by omega, trivial⟩
theorem point_con (a : Int) : Contract Proofs.Tryd.prog glob 49 [.int .i64 a] (spD ⟨a, a⟩) := contract_of_path (G 6) point_fn (point_all a) ⟨rangeB_con a a, by omega, trivial⟩
theorem sectionB_con (s t : Span) : Contract Proofs.Tryd.prog glob 67 [spD s, spD t] (.agg [.int .i64 s.lo, .int .i64 s.hi, .int .i64 t.lo, .int .i64 t.hi]) := contract_of_path (G 8) sectionB_fn (sectionB_all s t) ⟨by omega, by omega, by omega, trivial⟩
theorem surveyB_con (a c d e : Int) : Contract Proofs.Tryd.prog glob 48 [.int .i64 a, .int .i64 c, .int .i64 d, .int .i64 e] (svD ⟨a, c, d, e⟩) := contract_of_path (G 14) surveyB_fn (surveyB_all a c d e) ⟨by omega, trivial⟩
theorem bookB_con (turns : List Int) (svs : List Sv) : Contract Proofs.Tryd.prog glob 63 [.sl false .int turns, .sl false .sv svs] (bookD (rdBook turns svs)) := by
  have := contract_of_path (G 15) bookB_fn (bookB_all turns svs) (by
    have h1 := rangeB_con 40 42
    have h2 := rangeB_con 1 2
    have h3 := rangeB_con 38 39
    have h4 := rangeB_con 0 1
    have h5 := sectionB_con ⟨40, 42⟩ ⟨1, 2⟩
    have h6 := sectionB_con ⟨38, 39⟩ ⟨0, 1⟩
    repeat (first | exact trivial | refine ⟨by first | exact h1 | exact h2 | exact h3 | exact h4 | exact h5 | exact h6 | omega, ?_⟩))
  exact this.toWeak
theorem own1_con : Contract Proofs.Tryd.prog glob 62 [] (bookD ownB) := contract_of_path (G 3) own1_fn own1_all ⟨bookB_con [6] [], trivial⟩
theorem surveyed1_con : Contract Proofs.Tryd.prog glob 66 [] (bookD surveyedB) := contract_of_path (G 5) surveyed1_fn surveyed1_all ⟨surveyB_con 0 6 34 1, bookB_con [6] [⟨0, 6, 34, 1⟩], trivial⟩
theorem torn1_con : Contract Proofs.Tryd.prog glob 65 [] (bookD tornB) := contract_of_path (G 6) torn1_fn torn1_all ⟨surveyB_con 0 6 34 1, surveyB_con 0 6 40 1, bookB_con [6] [⟨0, 6, 34, 1⟩, ⟨0, 6, 40, 1⟩], trivial⟩
theorem straight1_con : Contract Proofs.Tryd.prog glob 110 [] (bookD straightB) := contract_of_path (G 2) straight1_fn straight1_all ⟨bookB_con [] [], trivial⟩

theorem ext_getD {xs ys : List Int} (hl : xs.length = ys.length) (h : ∀ i < xs.length, xs.getD i 0 = ys.getD i 0) : xs = ys := by
  refine List.ext_getElem hl fun i h1 h2 => ?_
  have := h i h1
  rwa [List.getD_eq_getElem?_getD, List.getD_eq_getElem?_getD, List.getElem?_eq_getElem h1, List.getElem?_eq_getElem h2] at this
theorem alike_con (xs ys : List Int) (hl : xs.length ≤ 9223372036854775807) : Contract Proofs.Tryd.prog glob 55 [.sl false .int xs, .sl false .int ys] (.bool (decide (xs = ys))) := by
  have hb : Code.at [1, 1, 0, 1] (body Proofs.Tryd.f55) = .block 0 (.loop (Code.at [1, 1, 0, 1, 0, 0] (body Proofs.Tryd.f55))) := by kernel_rfl
  by_cases hlen : xs.length = ys.length
  · have hne : ((xs.length : Int) != (ys.length : Int)) = false := by rw [hlen]; simp
    have hon : ∀ k, k ≤ xs.length → (∀ i < k, (xs.getD i 0 != ys.getD i 0) = false) → ∀ i, i < k → WpL Proofs.Tryd.prog (mk Proofs.Tryd.prog (lookN types) glob 26) (Code.at [1, 1, 0, 1, 0, 0] (body Proofs.Tryd.f55)) (alike_S0 xs ys i) fun e1 L1 => e1 = .normal ∧ L1 = alike_S0 xs ys (i + 1) := fun k hk h i hi =>
      WpL.path (G 26) (alike_0_on xs ys i) ⟨decide_eq_true (by omega), by omega, by omega, by omega, by omega, h i hi, by simp only [inI64]; omega, trivial⟩ ⟨rfl, rfl⟩
    rcases find_first (fun i => xs.getD i 0 != ys.getD i 0) xs.length with ⟨k, h1, h2, h3⟩ | h
    · have : decide (xs = ys) = false := decide_eq_false fun e => by subst e; simp at h2
      rw [this]
      exact contract_of_path (G 26) alike_fn (alike_diff xs ys k) ⟨hne, LoopT.count (tt := lookN types) hb k (alike_S0 xs ys) (hon k (by omega) h3) (WpL.path (G 26) (alike_0_diff xs ys k) ⟨decide_eq_true (by omega), by omega, by omega, by omega, by omega, h2, trivial⟩ ⟨.inr ⟨rfl, rfl⟩, rfl⟩), trivial⟩
    · have : decide (xs = ys) = true := decide_eq_true (ext_getD hlen fun i hi => by simpa using h i hi)
      rw [this]
      exact contract_of_path (G 26) alike_fn (alike_all xs ys xs.length) ⟨hne, LoopT.count (tt := lookN types) hb xs.length (alike_S0 xs ys) (hon _ (Nat.le_refl _) h) (WpL.path (G 26) (alike_0_end xs ys _) ⟨decide_eq_false (Int.lt_irrefl _), trivial⟩ ⟨.inl ⟨rfl, rfl⟩, rfl⟩), trivial⟩
  · have : decide (xs = ys) = false := decide_eq_false fun e => hlen (by rw [e])
    rw [this]
    exact contract_of_path (G 26) alike_fn (alike_len xs ys) ⟨by simp; omega, trivial⟩
end Go.Di

namespace Go.Di

/-! ### The chapter's examples -/
theorem small_rd (t : List Int) (s : List Sv) (ht : t.length ≤ 100) (hs : s.length ≤ 100) : Small (rdBook t s) := ⟨by show 2 ≤ _; omega, by show t.length ≤ _; omega, by show s.length ≤ _; omega⟩
theorem ev1 : (spanOr (askE ownB 0 12) (thickF ownB (truthsF ownB []) ownB.turns 0 12), askE ownB 0 12) = (⟨22, 36⟩, 0) := by kernel_rfl
theorem ev2 : (spanOr (askE surveyedB 1 12) (thickF surveyedB (truthsF surveyedB []) surveyedB.turns 1 12), askE surveyedB 1 12) = (⟨26, 33⟩, 0) := by kernel_rfl
theorem ev3 : (spanOr (errF surveyedB (isSectionF surveyedB 0)) (toldF (wearAt 0) (truthsF surveyedB [])), errF surveyedB (isSectionF surveyedB 0)) = (⟨1, 1⟩, 0) := by kernel_rfl
theorem ev4 : thinAF ownB 1 = (8, 0) := by kernel_rfl
theorem ev5 : cutAF ownB 8 = ([0, 1], 0) := by kernel_rfl
theorem ev6 : fitsAF surveyedB ⟨1, 6, 39, 0⟩ = (true, 0) := by kernel_rfl
theorem ev7 : turnAF straightB = (4, 0) := by kernel_rfl
theorem ev8 : wrongAF tornB = ([1], 0) := by kernel_rfl
theorem ev9 : (validF surveyedB && canF surveyedB, checkF surveyedB) = (true, 0) := by kernel_rfl
theorem ev10 : goneAF ownB 0 = (0, 4) := by kernel_rfl
theorem forged_con : Contract Proofs.Tryd.prog glob 30 [] (.bool true) := by
  have so : Small ownB := small_rd _ _ (by decide) (by decide)
  have ss : Small surveyedB := small_rd _ _ (by decide) (by decide)
  have st : Small tornB := small_rd _ _ (by decide) (by decide)
  have sg : Small straightB := small_rd _ _ (by decide) (by decide)
  have c1 := thickA_con so 0 12
  rw [show spanOr (askE ownB 0 12) (thickF ownB (truthsF ownB []) ownB.turns 0 12) = ⟨22, 36⟩ from congrArg Prod.fst ev1, show askE ownB 0 12 = 0 from congrArg Prod.snd ev1] at c1
  have c2 := thickA_con ss 1 12
  rw [show spanOr (askE surveyedB 1 12) (thickF surveyedB (truthsF surveyedB []) surveyedB.turns 1 12) = ⟨26, 33⟩ from congrArg Prod.fst ev2, show askE surveyedB 1 12 = 0 from congrArg Prod.snd ev2] at c2
  have c3 := wearA_con ss 0
  rw [show spanOr (errF surveyedB (isSectionF surveyedB 0)) (toldF (wearAt 0) (truthsF surveyedB [])) = ⟨1, 1⟩ from congrArg Prod.fst ev3, show errF surveyedB (isSectionF surveyedB 0) = 0 from congrArg Prod.snd ev3] at c3
  have c4 := thinA_con so 1
  rw [ev4] at c4
  have c5 := cutA_con so 8
  rw [ev5] at c5
  have c6 := fitsA_con ss ⟨1, 6, 39, 0⟩
  rw [ev6] at c6
  have c7 := turnA_con sg
  rw [ev7] at c7
  have c8 := wrong_con st
  rw [ev8] at c8
  have c9 := right_con' ss
  rw [show (validF surveyedB && canF surveyedB) = true from congrArg Prod.fst ev9, show checkF surveyedB = 0 from congrArg Prod.snd ev9] at c9
  have c10 := goneA_con so 0
  rw [ev10] at c10
  have r1 := rangeB_con 22 36
  have r2 := rangeB_con 26 33
  have p1 := point_con 1
  have a1 : Contract Proofs.Tryd.prog glob 55 [.sl false .int ([0, 1] : List Int), .sl false .int ([0, 1] : List Int)] (.bool true) := alike_con [0, 1] [0, 1] (by decide)
  have a2 : Contract Proofs.Tryd.prog glob 55 [.sl false .int ([1] : List Int), .sl false .int ([1] : List Int)] (.bool true) := alike_con [1] [1] (by decide)
  have sv := surveyB_con 1 6 39 0
  have k1 := own1_con
  have k2 := surveyed1_con
  have k3 := torn1_con
  have k4 := straight1_con
  refine contract_of_path (G 142) forged_fn forged_all ?_
  exact ⟨k1, c1, k2, c2, k2, c3, k1, c4, k1, c5, by omega, r1, by omega, r2, by omega, p1, a1, k2, sv, c6, k4, c7, k3, c8, k2, c9, k1, c10, a2, trivial⟩
end Go.Di

namespace Go.Di
end Go.Di

namespace Go.Di

/-! ### sound -/
/-! ### How thick sections are, day by day -/
/-! ### Those that must be cut -/
/-- Numbers that climb, from 0 to below n. -/
structure Ups (xs : List Int) (n : Int) : Prop where
  inn : ∀ k < xs.length, 0 ≤ xs.getD k 0 ∧ xs.getD k 0 < n
  up : ∀ k, 0 < k → k < xs.length → xs.getD (k - 1) 0 < xs.getD k 0
theorem Ups.mono {xs : List Int} {n m : Int} (h : Ups xs n) (hnm : n ≤ m) : Ups xs m := ⟨fun k hk => by have := h.inn k hk; omega, h.up⟩
end Go.Di

namespace Go.Di

/-! ### The law ChainFirst -/
end Go.Di

/-
  DI, part Z: how a row reads its arguments, and what it asks behind the call.
-/
namespace Go.Di
open Go.RowKit Go.ChangeShapes Go.WideShapes Go.Deep

section
variable {H : Type} {enc : TypeId × Value → H} {P : Program}

/-! ### Behind the call -/
theorem trodAll_below (hl : laidOutB P = true) {W W' : World} (hb : Below W.heap.size W W') {sp : Nat → Bool} : ∀ {ts : List TypeId} {vs : List Value} {ds : List (DataW H)} {ps : List MemPlace},
    (∀ t ∈ ts, P.readableRec t = true ∧ t < P.types.size) → DataW.TrodAll enc P W 0 (fun _ => true) true ts vs ds ps → (∀ x ∈ ps, x.block < W.heap.size) → (∀ x ∈ ps, sp x.block = true) → DataW.TrodAll enc P W' 0 sp true ts vs ds ps
  | [], [], [], ps, _, h, _, _ => h
  | [], [], _ :: _, _, _, h, _, _ => h.elim
  | [], _ :: _, _, _, _, h, _, _ => h.elim
  | _ :: _, [], _, _, _, h, _, _ => h.elim
  | _ :: _, _ :: _, [], _, _, h, _, _ => h.elim
  | t :: ts, v :: vs, d :: ds, ps, ht, ⟨p, q, h1, h2, e⟩, hlt, hsp => by
    subst e
    have hx : ∀ x ∈ p, x ∈ p ++ q := fun x hx => List.mem_append_left _ hx
    have hy : ∀ x ∈ q, x ∈ p ++ q := fun x hx => List.mem_append_right _ hx
    obtain ⟨r1, r2⟩ := ht t (by simp)
    exact ⟨p, q, WideElems.Trod_stays hl r1 r2 h1 (fun x h => hb.same (hlt x (hx x h))) (fun x h => hsp x (hx x h)), trodAll_below hl hb (fun u hu => ht u (by simp [hu])) h2 (fun x h => hlt x (hy x h)) (fun x h => hsp x (hy x h)), rfl⟩

/-- A law that answers true, and leaves what was there as it was. -/
theorem law_post {f : Func} {s : ChangeSpec} {apart fresh handsOn again : Bool} {W W' : World} {args : Array Value} {ds gs : List (DataW H)} {before : List MemPlace} {tb : TypeId}
    (hl : laidOutB P = true) (hread : ∀ t ∈ f.params.toList, P.readableRec t = true ∧ t < P.types.size) (hvars : s.vars = []) (hres : f.resultTypes = #[tb]) (htb : P.underlying tb = some .bool)
    (hW : DataW.Whole enc P f.params.toList s.vars apart W args.toList ds gs before) (hspec : s.fn H (ds ++ gs) = { results := [.lit (.bool true)], args := ds }) (hb : Below W.heap.size W W') :
    s.post enc P f apart fresh handsOn again W args (.bool true) W' := by
  have hlt : ∀ x ∈ before, x.block < W.heap.size := fun x hx => by simpa using hW.lt x hx
  have hW0 := hW
  obtain ⟨p, q, h1, h2, rfl, hz, hn⟩ := hW
  have hq : q = [] ∧ gs = [] := by
    rw [hvars] at h2
    cases gs with
    | nil => exact ⟨h2, rfl⟩
    | cons _ _ => exact h2.elim
  obtain ⟨rfl, rfl⟩ := hq
  have hbool : ∀ (b : Nat) (sp : Nat → Bool) (hd : Bool), DataW.TrodAll enc P W' b sp hd f.resultTypes.toList ((Value.bool true).resultList f.resultTypes.size) [.lit (.bool true)] [] := fun b sp hd => by
    rw [hres]
    exact trodAll_cons_mk (shut_bool htb _) trodAll_mk0
  have hargs : ∀ sp : Nat → Bool, (∀ x ∈ p, sp x.block = true) → DataW.TrodAll enc P W' 0 sp true f.params.toList args.toList ds p := fun sp hsp =>
    trodAll_below hl hb hread h1 (fun x hx => hlt x (by simp [hx])) hsp
  have hv : ∀ sp : Nat → Bool, DataW.TrodVars enc P W' sp s.vars ([] : List (DataW H)) [] := fun sp => by rw [hvars]; rfl
  refine ⟨ds, [], p ++ [], [], p, [], hW0, ?_, ?_, ?_, hb.frame _, fun _ => ⟨?_, [.lit (.bool true)] ++ ds, [], [] ++ p, ⟨[] ++ p, [], ?_, hv (fun _ => true), by simp, ?_, ?_⟩, ?_⟩⟩
  · rw [hspec]; exact hbool _ _ _
  · rw [hspec]; exact hargs _ fun x hx => by simpa using hlt x (by simp [hx])
  · rw [hspec]; exact hv _
  · exact ok_one hres rfl (okWide_bool_mk htb _)
  · exact trodAll_append (hargs (fun _ => true) fun _ _ => rfl) (hbool _ _ _)
  · intro b off hp
    have hp' : MemPlace.cell b off ∈ p := by simpa using hp
    rw [hb.frozen (p := ⟨b, off, none⟩) (hlt (.cell b off) (by simp [hp']))]
    exact hz b off (by simpa using hp')
  · intro ha
    have := hn ha
    simpa using this
  · intro x hx _
    simpa using hx

/-! ### Reading arguments -/
variable {w : World} {sp : Nat → Bool} {hd : Bool}
/-- Memory that was there. -/
def Old (w : World) : Foot := fun b _ => b < w.heap.size
theorem cell_old {w : World} {a : Addr} {v : Value} (h : w.cell? a = some v) : a.block < w.heap.size := by
  unfold World.cell? at h
  cases hh : w.heap[a.block]? with
  | none => rw [hh] at h; cases h
  | some o => exact (Array.getElem?_eq_some_iff.1 hh).1

end
end Go.Di

namespace Go.Di
open Go.RowKit Go.ChangeShapes Go.WideShapes Go.Deep Go.ChangeAt Go.Proofs

/-! ### The program's facts -/
theorem laidOut : laidOutB Tryd.prog = true := by kernel_rfl
theorem own : ownKnob Tryd.prog.godebug = none := by kernel_rfl
theorem gNowhere : Tryd.prog.globalNamed "prow/chain.nowhere" = some 1 := by kernel_rfl
theorem gThins : Tryd.prog.globalNamed "prow/chain.thins" = some 0 := by kernel_rfl
theorem tNowhere : (Tryd.prog.globals[1]?).map (·.type) = some 179 := by kernel_rfl
theorem tThins : (Tryd.prog.globals[0]?).map (·.type) = some 136 := by kernel_rfl

section
variable {H : Type} {enc : TypeId × Value → H} {w : World} {sp : Nat → Bool} {hd : Bool}
/-- The fields of a struct. -/
noncomputable def fld (t i : Nat) : Field := match Tryd.prog.underlying t with
  | some (.struct fs) => fs.getD i default
  | _ => default
end

/-! ### The listed variables -/
theorem trod_arr2 {H : Type} {enc : TypeId × Value → H} {P : Program} {w : World} {sp : Nat → Bool} {hd : Bool} {t et : TypeId} (ht : P.underlying t = some (.array 2 et)) (hc : P.cellsOf t = 2) (ce : P.cellsOf et = 1) {fuel : Nat} {cs : List Value} {d0 d1 : DataW H} {ps : List MemPlace}
    (h : DataW.trod enc P w 0 sp hd fuel t cs = some (.agg [d0, d1], ps)) : ∃ v0 v1 k q0 q1, cs = [v0, v1] ∧ DataW.trod enc P w 0 sp hd k et [v0] = some (d0, q0) ∧ DataW.trod enc P w 0 sp hd k et [v1] = some (d1, q1) := by
  cases fuel with
  | zero => simp [DataW.trod] at h
  | succ k =>
    unfold DataW.trod at h
    rw [ht] at h
    simp only [ce, Nat.mul_one] at h
    split at h
    · rename_i hl
      rw [hc] at hl
      match cs, hl with
      | [v0, v1], _ =>
        have hr : List.range 2 = [0, 1] := rfl
        rw [hr] at h
        simp only [List.mapM_cons, List.mapM_nil] at h
        cases h0 : DataW.trod enc P w 0 sp hd k et (List.take 1 (List.drop 0 [v0, v1])) with
        | none => rw [h0] at h; cases h
        | some x0 =>
          rw [h0] at h
          cases h1 : DataW.trod enc P w 0 sp hd k et (List.take 1 (List.drop 1 [v0, v1])) with
          | none => rw [h1] at h; cases h
          | some x1 =>
            rw [h1] at h
            have h' : (DataW.agg [x0.1, x1.1], x0.2 ++ (x1.2 ++ [])) = (DataW.agg [d0, d1], ps) := Option.some.inj h
            simp only [Prod.mk.injEq, DataW.agg.injEq, List.cons.injEq, and_true] at h'
            obtain ⟨⟨rfl, rfl⟩, _⟩ := h'
            exact ⟨v0, v1, k, x0.2, x1.2, rfl, h0, h1⟩
    · cases h
theorem trod_pair {H : Type} {enc : TypeId × Value → H} {w : World} {sp : Nat → Bool} {hd : Bool} {fuel : Nat} {cs : List Value} {a b : Int} {ps : List MemPlace}
    (h : DataW.trod enc Tryd.prog w 0 sp hd fuel 179 cs = some (.agg [.lit (.int .i64 a), .lit (.int .i64 b)], ps)) : cs = [.int .i64 a, .int .i64 b] := by
  obtain ⟨xs, k, _, hx, hl, hxl, hf⟩ := DataW.trod_struct (t := 179) (fs := #[fld 179 0, fld 179 1]) (by kernel_rfl) h
  have hc : Tryd.prog.cellsOf 179 = 2 := by kernel_rfl
  rw [hc] at hl
  have c0 : Tryd.prog.cellsOf (fld 179 0).type = 1 := by kernel_rfl
  have c1 : Tryd.prog.cellsOf (fld 179 1).type = 1 := by kernel_rfl
  have o0 : (fld 179 0).offset = 0 := by kernel_rfl
  have o1 : (fld 179 1).offset = 1 := by kernel_rfl
  match xs, hxl, cs, hl with
  | [y0, y1], _, [v0, v1], _ =>
    have g0 := hf 0 (fld 179 0) rfl
    have g1 := hf 1 (fld 179 1) rfl
    simp [o0, o1, c0, c1] at g0 g1
    obtain ⟨n0, e0, e0', _⟩ := DataW.trod_int (k := .i64) (by kernel_rfl) g0
    obtain ⟨n1, e1, e1', _⟩ := DataW.trod_int (k := .i64) (by kernel_rfl) g1
    simp only [List.cons.injEq, and_true] at e0 e1
    simp only [List.map_cons, List.map_nil, Prod.mk.injEq, DataW.agg.injEq, List.cons.injEq, and_true] at hx
    obtain ⟨⟨q0, q1⟩, _⟩ := hx
    rw [e0'] at q0
    rw [e1'] at q1
    simp only [DataW.lit.injEq, Lit.int.injEq, true_and] at q0 q1
    subst q0 q1
    rw [e0, e1]
theorem laid_glob {W : World} (h : laidMetH Tryd.prog [("prow/chain.nowhere", YtfkmodcjddfeiaaDoor.Rows.laid_prow_chain_nowhere), ("prow/chain.thins", YtfkmodcjddfeiaaDoor.Rows.laid_prow_chain_thins)] W) :
    ∀ g cs, glob g = some cs → Rel (Old W) W (.ref cs 0) (.pointer (some ⟨g, 0, none⟩)) := by
  intro g cs hg
  match g, hg with
  | 0, hg =>
    cases hg
    obtain ⟨g', t, vs, fuel, p, hg', ht, hv, hd⟩ := h.funcs (n := "prow/chain.thins") (List.mem_cons_of_mem _ (List.mem_cons_self ..))
    obtain rfl := Option.some.inj (gThins.symm.trans hg')
    obtain rfl := Option.some.inj (tThins.symm.trans ht)
    obtain ⟨v0, v1, k, q0, q1, e, h0, h1⟩ := trod_arr2 (t := 136) (et := 135) (by kernel_rfl) (by kernel_rfl) (by kernel_rfl) hd
    have hf : Tryd.prog.underlying 135 = some (.func #[137, 3] #[4] false) := by kernel_rfl
    obtain rfl := func_of_trod (f0 := 223) hf (by kernel_rfl) h0
    obtain rfl := func_of_trod (f0 := 225) hf (by kernel_rfl) h1
    refine ⟨0, 0, rfl, fun j d hj => ?_⟩
    have hc := World.var?_cell hg' hv
    have hs : vs = #[.func (.func 223) #[] #[], .func (.func 225) #[] #[]] := by rw [← Array.toArray_toList (xs := vs), e]
    match j, hj with
    | 0, hj =>
      cases hj
      have h0 := hc 0
      rw [hs] at h0
      exact ⟨_, ⟨#[], #[], rfl, trivial, trivial⟩, cell_old h0, h0⟩
    | 1, hj =>
      cases hj
      have h0 := hc 1
      rw [hs] at h0
      exact ⟨_, ⟨#[], #[], rfl, trivial, trivial⟩, cell_old h0, h0⟩
  | 1, hg =>
    cases hg
    obtain ⟨⟨ps, ⟨g', t, vs, fuel, p, q, hg', ht, hv, hd, _, _⟩, _⟩, _⟩ := h
    obtain rfl := Option.some.inj (gNowhere.symm.trans hg')
    obtain rfl := Option.some.inj (tNowhere.symm.trans ht)
    have e := trod_pair hd
    refine ⟨1, 0, rfl, fun j d hj => ?_⟩
    have hc := World.var?_cell hg' hv
    have hs : vs = #[.int .i64 (-1), .int .i64 (-1)] := by rw [← Array.toArray_toList (xs := vs), e]
    match j, hj with
    | 0, hj =>
      cases hj
      have h0 := hc 0
      rw [hs] at h0
      exact ⟨_, rfl, cell_old h0, h0⟩
    | 1, hj =>
      cases hj
      have h0 := hc 1
      rw [hs] at h0
      exact ⟨_, rfl, cell_old h0, h0⟩
end Go.Di

namespace Go.Di
open Go.RowKit Go.ChangeShapes Go.WideShapes Go.Deep Go.ChangeAt Go.Proofs
open Go.Proofs.YtfkmodcjddfeiaaDoor

def lay0 : Obj → Obj
  | .cells _ t frozen => .cells #[.func (.func 223) #[] #[], .func (.func 225) #[] #[]] t frozen
  | o => o
def lay1 : Obj → Obj
  | .cells _ t frozen => .cells #[.int .i64 (-1), .int .i64 (-1)] t frozen
  | o => o
/-- A world for the witness: the listed variables hold what the text lays. -/
noncomputable def laidWorld (os : Os) : World :=
  { World.holding Tryd.prog os ⟨#[], #[], []⟩ with heap := ((World.holding Tryd.prog os ⟨#[], #[], []⟩).heap.modify 0 lay0).modify 1 lay1 }
theorem laid_met (os : Os) (args : Array Value) : laidMetH Tryd.prog [("prow/chain.nowhere", Rows.laid_prow_chain_nowhere), ("prow/chain.thins", Rows.laid_prow_chain_thins)] ((laidWorld os).forCall (fun _ _ => 0) ⟨#[], args, []⟩).memory :=
  laidMetH_of_parts3 (fuel := 8) (laidMet_of_run' 8 (by kernel_rfl) (by kernel_rfl)) (by kernel_rfl) (by kernel_rfl)

/-- What a function's contract gives the row: from the reading of its arguments. -/
theorem calls_law {f : FuncId} {W : World} {args : Array Value} {ds : List D} (hc : Contract Tryd.prog glob f ds (.bool true)) (hg : ∀ g cs, glob g = some cs → Rel (Old W) W (.ref cs 0) (.pointer (some ⟨g, 0, none⟩))) (ha : All2 (Rel (Old W) W) ds args.toList) :
    Calls Tryd.prog f args W fun e W' => e = .returned (.bool true) ∧ Below W.heap.size W W' := by
  have := hc.calls W (Old W) args.toList (fun b o h => h) hg ha
  rw [Array.toArray_toList] at this
  exact this.mono fun e W' ⟨v, he, hb, R', _, _, hr⟩ => ⟨by rw [he, show v = .bool true from hr], hb⟩
theorem under4 : Tryd.prog.underlying 4 = some .bool := by kernel_rfl

/-! ### ChainFirst: the row -/
end Go.Di

namespace Go.Di
open Go.RowKit Go.ChangeShapes Go.WideShapes Go.Deep Go.ChangeAt Go.Proofs
open Go.Proofs.YtfkmodcjddfeiaaDoor

/-! ### More kinds of arguments -/
section
variable {H : Type} {enc : TypeId × Value → H} {w : World} {sp : Nat → Bool} {hd : Bool}
end
end Go.Di

