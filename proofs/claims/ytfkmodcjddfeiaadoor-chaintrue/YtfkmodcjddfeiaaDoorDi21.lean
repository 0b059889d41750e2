/- Part 21: an interpreter over plain data for this code, with the proof that it says what the model does, and the contracts of the functions. No condition. -/
import Derived.Test.YtfkmodcjddfeiaaDoorDi20
set_option linter.unusedVariables false
set_option linter.unusedSimpArgs false
namespace Go.Di
theorem soundN_fn : FnOk Proofs.Tryd.prog (mk Proofs.Tryd.prog (lookN types) glob 99) 33 (body Proofs.Tryd.f33) [.tmp 2] := ⟨Proofs.Tryd.f33, by kernel_rfl, by kernel_rfl, by kernel_rfl, by kernel_rfl, by kernel_rfl⟩
theorem sound_fn : FnOk Proofs.Tryd.prog (mk Proofs.Tryd.prog (lookN types) glob 99) 33 (body Proofs.Tryd.f33) [.tmp 2] := ⟨Proofs.Tryd.f33, by kernel_rfl, by kernel_rfl, by kernel_rfl, by kernel_rfl, by kernel_rfl⟩
theorem cfirst_fn : FnOk Proofs.Tryd.prog (mk Proofs.Tryd.prog (lookN types) glob 197) 9 (body Proofs.Tryd.f9) [.tmp 4] := ⟨Proofs.Tryd.f9, by kernel_rfl, by kernel_rfl, by kernel_rfl, by kernel_rfl, by kernel_rfl⟩
def soundN_S0 (b : Book)  : List (Key × Val) :=
  [(.tmp 1, .d (D.ptr 1 0)),
   (.tmp 3, .d (D.bool false)),
   (.tmp 4, .d (D.int .i64 (0 : Int))),
   (.box 1, .bx (some (Box.mk false (cellsOf (bookD b)))))]
def soundN_K0 : List Key := [.tmp 1, .tmp 3, .tmp 4, .box 1]
def sound_S0 (b : Book) (i : Nat) : List (Key × Val) :=
  [(.tmp 1, .d (D.ptr 1 0)),
   (.tmp 3, .d (.bool true)),
   (.tmp 4, .d (.int .i64 i)),
   (.box 1, .bx (some (Box.mk false (cellsOf (bookD b)))))]
def sound_K0 : List Key := [.tmp 1, .tmp 3, .tmp 4, .box 1]
def soundN_S2 (b : Book)  : List (Key × Val) :=
  [(.tmp 1, .d (D.ptr 1 0)),
   (.tmp 3, .d (D.bool false)),
   (.tmp 5, .d (D.int .i64 (0 : Int))),
   (.box 1, .bx (some (Box.mk false (cellsOf (bookD b)))))]
def soundN_K2 : List Key := [.tmp 1, .tmp 3, .tmp 5, .box 1]
def sound_S2 (b : Book) (i : Nat) : List (Key × Val) :=
  [(.tmp 1, .d (D.ptr 1 0)),
   (.tmp 3, .d (.bool true)),
   (.tmp 5, .d (.int .i64 i)),
   (.box 1, .bx (some (Box.mk false (cellsOf (bookD b)))))]
def sound_K2 : List Key := [.tmp 1, .tmp 3, .tmp 5, .box 1]
theorem soundN_0_end (b : Book) :
    runK (mk Proofs.Tryd.prog (lookN types) glob 99) [] [] [] (Code.at [1, 1, 0, 1, 0, 0] (body Proofs.Tryd.f33)) (soundN_S0 b ) soundN_K0 =
      some ([], Ex.exit 0, [(.tmp 1, .d (D.ptr 1 0)), (.tmp 3, .d (D.bool false)), (.tmp 4, .d (D.int .i64 (0 : Int))), (.box 1, .bx (some (Box.mk false (cellsOf (bookD b)))))]) := by kernel_rfl
theorem soundN_2_end (b : Book) :
    runK (mk Proofs.Tryd.prog (lookN types) glob 99) [] [] [] (Code.at [1, 1, 1, 0, 1, 0, 0] (body Proofs.Tryd.f33)) (soundN_S2 b ) soundN_K2 =
      some ([], Ex.exit 2, [(.tmp 1, .d (D.ptr 1 0)), (.tmp 3, .d (D.bool false)), (.tmp 5, .d (D.int .i64 (0 : Int))), (.box 1, .bx (some (Box.mk false (cellsOf (bookD b)))))]) := by kernel_rfl
theorem sound_0_on (b : Book) (i : Nat) :
    runK (mk Proofs.Tryd.prog (lookN types) glob 99) [(45, true)] [(54, .bool true), (62, .bool true)] [] (Code.at [1, 1, 0, 1, 0, 0] (body Proofs.Tryd.f33)) (sound_S0 b i) sound_K0 =
      some ([decide ((Nat.cast : Nat → Int) i < (Nat.cast : Nat → Int) (List.length (Book.secs b))) = true, (0 : Int) ≤ (Nat.cast : Nat → Int) i ∧ (Nat.cast : Nat → Int) i < (Nat.cast : Nat → Int) (List.length (Book.secs b)), 0 + 0 + 2 ≤ 4, Contract Proofs.Tryd.prog glob 117 [D.agg [D.int .i64 (Span.lo (Sec.t (List.getD (Book.secs b) (Int.toNat ((Nat.cast : Nat → Int) i)) (E.z E.sec)))), D.int .i64 (Span.hi (Sec.t (List.getD (Book.secs b) (Int.toNat ((Nat.cast : Nat → Int) i)) (E.z E.sec))))], D.int .i64 (0 : Int), D.int .i64 (200 : Int)] (D.bool true), (0 : Int) ≤ (Nat.cast : Nat → Int) i ∧ (Nat.cast : Nat → Int) i < (Nat.cast : Nat → Int) (List.length (Book.secs b)), 0 + 2 + 2 ≤ 4, Contract Proofs.Tryd.prog glob 117 [D.agg [D.int .i64 (Span.lo (Sec.w (List.getD (Book.secs b) (Int.toNat ((Nat.cast : Nat → Int) i)) (E.z E.sec)))), D.int .i64 (Span.hi (Sec.w (List.getD (Book.secs b) (Int.toNat ((Nat.cast : Nat → Int) i)) (E.z E.sec))))], D.int .i64 (0 : Int), D.int .i64 (3 : Int)] (D.bool true), inI64 ((Nat.cast : Nat → Int) i + (1 : Int))], Ex.normal, [(.tmp 1, .d (D.ptr 1 0)), (.tmp 3, .d (D.bool true)), (.tmp 4, .d (D.int .i64 ((Nat.cast : Nat → Int) i + (1 : Int)))), (.box 1, .bx (some (Box.mk false (cellsOf (bookD b)))))]) := by kernel_rfl
theorem sound_0_end (b : Book) (i : Nat) :
    runK (mk Proofs.Tryd.prog (lookN types) glob 99) [(45, false)] [] [] (Code.at [1, 1, 0, 1, 0, 0] (body Proofs.Tryd.f33)) (sound_S0 b i) sound_K0 =
      some ([decide ((Nat.cast : Nat → Int) i < (Nat.cast : Nat → Int) (List.length (Book.secs b))) = false], Ex.exit 0, [(.tmp 1, .d (D.ptr 1 0)), (.tmp 3, .d (D.bool true)), (.tmp 4, .d (D.int .i64 ((Nat.cast : Nat → Int) i))), (.box 1, .bx (some (Box.mk false (cellsOf (bookD b)))))]) := by kernel_rfl
theorem sound_2_on (b : Book) (i : Nat) :
    runK (mk Proofs.Tryd.prog (lookN types) glob 99) [(71, true)] [(85, .bool true), (91, .bool true), (96, .bool true)] [] (Code.at [1, 1, 1, 0, 1, 0, 0] (body Proofs.Tryd.f33)) (sound_S2 b i) sound_K2 =
      some ([decide ((Nat.cast : Nat → Int) i < (Nat.cast : Nat → Int) (List.length (Book.svs b))) = true, (0 : Int) ≤ (Nat.cast : Nat → Int) i ∧ (Nat.cast : Nat → Int) i < (Nat.cast : Nat → Int) (List.length (Book.svs b)), 0 + 4 ≤ 4, 0 + 0 + 1 ≤ 4, inI64 ((Nat.cast : Nat → Int) (List.length (Book.secs b)) - (1 : Int)), Contract Proofs.Tryd.prog glob 50 [D.int .i64 (Sv.s (List.getD (Book.svs b) (Int.toNat ((Nat.cast : Nat → Int) i)) (E.z E.sv))), D.int .i64 (0 : Int), D.int .i64 ((Nat.cast : Nat → Int) (List.length (Book.secs b)) - (1 : Int))] (D.bool true), 0 + 1 + 1 ≤ 4, Contract Proofs.Tryd.prog glob 50 [D.int .i64 (Sv.d (List.getD (Book.svs b) (Int.toNat ((Nat.cast : Nat → Int) i)) (E.z E.sv))), D.int .i64 (0 : Int), D.int .i64 (Book.days b)] (D.bool true), 0 + 3 + 1 ≤ 4, Contract Proofs.Tryd.prog glob 50 [D.int .i64 (Sv.e (List.getD (Book.svs b) (Int.toNat ((Nat.cast : Nat → Int) i)) (E.z E.sv))), D.int .i64 (0 : Int), D.int .i64 (5 : Int)] (D.bool true), inI64 ((Nat.cast : Nat → Int) i + (1 : Int))], Ex.normal, [(.tmp 1, .d (D.ptr 1 0)), (.tmp 3, .d (D.bool true)), (.tmp 5, .d (D.int .i64 ((Nat.cast : Nat → Int) i + (1 : Int)))), (.box 1, .bx (some (Box.mk false (cellsOf (bookD b)))))]) := by kernel_rfl
theorem sound_2_end (b : Book) (i : Nat) :
    runK (mk Proofs.Tryd.prog (lookN types) glob 99) [(71, false)] [] [] (Code.at [1, 1, 1, 0, 1, 0, 0] (body Proofs.Tryd.f33)) (sound_S2 b i) sound_K2 =
      some ([decide ((Nat.cast : Nat → Int) i < (Nat.cast : Nat → Int) (List.length (Book.svs b))) = false], Ex.exit 2, [(.tmp 1, .d (D.ptr 1 0)), (.tmp 3, .d (D.bool true)), (.tmp 5, .d (D.int .i64 ((Nat.cast : Nat → Int) i))), (.box 1, .bx (some (Box.mk false (cellsOf (bookD b)))))]) := by kernel_rfl
theorem soundN_all (b : Book) :
    callF (mk Proofs.Tryd.prog (lookN types) glob 99) [] [(8, .int .i64 10)] [(0, (soundN_K0, (.normal, soundN_S0 b))), (2, (soundN_K2, (.normal, soundN_S2 b)))] (body Proofs.Tryd.f33) [.tmp 2] [bookD b] =
      some ([Contract Proofs.Tryd.prog glob 64 [bookD b] (D.int .i64 (10 : Int)), LoopT Proofs.Tryd.prog glob 99 (Code.at [1, 1, 0, 1] (body Proofs.Tryd.f33)) [(.tmp 1, .d (D.ptr 1 0)), (.tmp 3, .d (D.bool false)), (.tmp 4, .d (D.int .i64 (0 : Int))), (.box 1, .bx (some (Box.mk false (cellsOf (bookD b)))))] Ex.normal (soundN_S0 b), LoopT Proofs.Tryd.prog glob 99 (Code.at [1, 1, 1, 0, 1] (body Proofs.Tryd.f33)) [(.tmp 1, .d (D.ptr 1 0)), (.tmp 3, .d (D.bool false)), (.tmp 5, .d (D.int .i64 (0 : Int))), (.box 1, .bx (some (Box.mk false (cellsOf (bookD b)))))] Ex.normal (soundN_S2 b)], D.bool false) := by kernel_rfl
theorem sound_all (b : Book) :
    callF (mk Proofs.Tryd.prog (lookN types) glob 99) [(26, true), (32, true)] [(8, .int .i64 0), (14, .bool true), (19, .bool true), (24, .bool true)] [(0, (sound_K0, (.normal, sound_S0 b b.secs.length))), (2, (sound_K2, (.normal, sound_S2 b b.svs.length)))] (body Proofs.Tryd.f33) [.tmp 2] [bookD b] =
      some ([Contract Proofs.Tryd.prog glob 64 [bookD b] (D.int .i64 (0 : Int)), Contract Proofs.Tryd.prog glob 50 [D.int .i64 ((Nat.cast : Nat → Int) (List.length (Book.secs b))), D.int .i64 (1 : Int), D.int .i64 (4 : Int)] (D.bool true), Contract Proofs.Tryd.prog glob 50 [D.int .i64 (Book.days b), D.int .i64 (1 : Int), D.int .i64 (30 : Int)] (D.bool true), Contract Proofs.Tryd.prog glob 50 [D.int .i64 (Book.rule b), D.int .i64 (0 : Int), D.int .i64 (200 : Int)] (D.bool true), true = true, true = true, true = true, true = true, true = true, decide ((Nat.cast : Nat → Int) (List.length (Book.turns b)) ≤ (4 : Int)) = true, decide ((Nat.cast : Nat → Int) (List.length (Book.turns b)) ≤ (4 : Int)) = true, decide ((Nat.cast : Nat → Int) (List.length (Book.turns b)) ≤ (4 : Int)) = true, decide ((Nat.cast : Nat → Int) (List.length (Book.turns b)) ≤ (4 : Int)) = true, decide ((Nat.cast : Nat → Int) (List.length (Book.turns b)) ≤ (4 : Int)) = true, LoopT Proofs.Tryd.prog glob 99 (Code.at [1, 1, 0, 1] (body Proofs.Tryd.f33)) [(.tmp 1, .d (D.ptr 1 0)), (.tmp 3, .d (D.bool (decide ((Nat.cast : Nat → Int) (List.length (Book.svs b)) ≤ (8 : Int))))), (.tmp 4, .d (D.int .i64 (0 : Int))), (.box 1, .bx (some (Box.mk false (cellsOf (bookD b)))))] Ex.normal (sound_S0 b (List.length (Book.secs b))), LoopT Proofs.Tryd.prog glob 99 (Code.at [1, 1, 1, 0, 1] (body Proofs.Tryd.f33)) [(.tmp 1, .d (D.ptr 1 0)), (.tmp 3, .d (D.bool true)), (.tmp 5, .d (D.int .i64 (0 : Int))), (.box 1, .bx (some (Box.mk false (cellsOf (bookD b)))))] Ex.normal (sound_S2 b (List.length (Book.svs b)))], D.bool true) := by kernel_rfl
theorem cfirst_bad (b : Book) (n0 n1 : Int) :
    callF (mk Proofs.Tryd.prog (lookN types) glob 197) [] [(20, .bool false), (22, .bool true)] [] (body Proofs.Tryd.f9) [.tmp 4] [bookD b, .agg [.int .i64 n0, .int .i64 n1]] =
      some ([Contract Proofs.Tryd.prog glob 33 [bookD b] (D.bool false), Contract Proofs.Tryd.prog glob 30 [] (D.bool true)], D.bool true) := by kernel_rfl
theorem cfirst_false (b : Book) (n0 n1 : Int) (i d : Int) :
    callF (mk Proofs.Tryd.prog (lookN types) glob 197) [] [(20, .bool true), (28, .int .i64 i), (34, .int .i64 d), (39, .tup [spD ⟨0, 0⟩, .int .i64 12]), (45, .tup [.int .i64 0, .int .i64 12]), (51, .tup [.int .i64 0, .int .i64 12]), (57, .tup [.sl true .int ([] : List Int), .int .i64 12]), (91, .bool true)] [] (body Proofs.Tryd.f9) [.tmp 4] [bookD b, .agg [.int .i64 n0, .int .i64 n1]] =
      some ([Contract Proofs.Tryd.prog glob 33 [bookD b] (D.bool true), (0 : Int) ≤ (0 : Int) ∧ (0 : Int) < (Nat.cast : Nat → Int) 2, 0 + Int.toNat (0 : Int) * 1 + 1 ≤ 2, Contract Proofs.Tryd.prog glob 39 [D.int .i64 n0, D.int .i64 ((Nat.cast : Nat → Int) (List.length (Book.secs b)))] (D.int .i64 i), (0 : Int) ≤ (1 : Int) ∧ (1 : Int) < (Nat.cast : Nat → Int) 2, 0 + Int.toNat (1 : Int) * 1 + 1 ≤ 2, inI64 (Book.days b + (1 : Int)), Contract Proofs.Tryd.prog glob 39 [D.int .i64 n1, D.int .i64 (Book.days b + (1 : Int))] (D.int .i64 d), Contract Proofs.Tryd.prog glob 41 [bookD b, D.int .i64 i, D.int .i64 d] (D.tup [D.agg [D.int .i64 (Span.lo (Span.mk (0 : Int) (0 : Int))), D.int .i64 (Span.hi (Span.mk (0 : Int) (0 : Int)))], D.int .i64 (12 : Int)]), Contract Proofs.Tryd.prog glob 43 [bookD b, D.int .i64 i] (D.tup [D.int .i64 (0 : Int), D.int .i64 (12 : Int)]), Contract Proofs.Tryd.prog glob 44 [bookD b, D.int .i64 i] (D.tup [D.int .i64 (0 : Int), D.int .i64 (12 : Int)]), Contract Proofs.Tryd.prog glob 40 [bookD b, D.int .i64 d] (D.tup [D.sl true E.int [], D.int .i64 (12 : Int)]), inI64 ((0 : Int) + (0 : Int)), Contract Proofs.Tryd.prog glob 30 [] (D.bool true)], D.bool true) := by kernel_rfl
theorem cfirst_ok000 (b : Book) (n0 n1 : Int) (i d : Int) (s s2 : Span) (thin gone at1 : Int) (cut : List Int) :
    callF (mk Proofs.Tryd.prog (lookN types) glob 197) [(146, false), (157, false), (164, false), (168, false), (187, true), (194, true)] [(20, .bool true), (28, .int .i64 i), (34, .int .i64 d), (39, .tup [spD s, .int .i64 0]), (45, .tup [.int .i64 thin, .int .i64 0]), (51, .tup [.int .i64 gone, .int .i64 0]), (57, .tup [.sl true .int cut, .int .i64 0]), (124, .bool true), (160, .int .i64 at1), (169, .bool true), (175, .tup [spD s2, .int .i64 0]), (195, .bool true)] [] (body Proofs.Tryd.f9) [.tmp 4] [bookD b, .agg [.int .i64 n0, .int .i64 n1]] =
      some ([Contract Proofs.Tryd.prog glob 33 [bookD b] (D.bool true), (0 : Int) ≤ (0 : Int) ∧ (0 : Int) < (Nat.cast : Nat → Int) 2, 0 + Int.toNat (0 : Int) * 1 + 1 ≤ 2, Contract Proofs.Tryd.prog glob 39 [D.int .i64 n0, D.int .i64 ((Nat.cast : Nat → Int) (List.length (Book.secs b)))] (D.int .i64 i), (0 : Int) ≤ (1 : Int) ∧ (1 : Int) < (Nat.cast : Nat → Int) 2, 0 + Int.toNat (1 : Int) * 1 + 1 ≤ 2, inI64 (Book.days b + (1 : Int)), Contract Proofs.Tryd.prog glob 39 [D.int .i64 n1, D.int .i64 (Book.days b + (1 : Int))] (D.int .i64 d), Contract Proofs.Tryd.prog glob 41 [bookD b, D.int .i64 i, D.int .i64 d] (D.tup [D.agg [D.int .i64 (Span.lo s), D.int .i64 (Span.hi s)], D.int .i64 (0 : Int)]), Contract Proofs.Tryd.prog glob 43 [bookD b, D.int .i64 i] (D.tup [D.int .i64 thin, D.int .i64 (0 : Int)]), Contract Proofs.Tryd.prog glob 44 [bookD b, D.int .i64 i] (D.tup [D.int .i64 gone, D.int .i64 (0 : Int)]), Contract Proofs.Tryd.prog glob 40 [bookD b, D.int .i64 d] (D.tup [D.sl true E.int cut, D.int .i64 (0 : Int)]), Contract Proofs.Tryd.prog glob 52 [D.sl false E.int cut, D.int .i64 ((Nat.cast : Nat → Int) (List.length (Book.secs b)))] (D.bool true), 0 + 0 + 1 ≤ 2, 0 + 1 + 1 ≤ 2, (!decide (Span.lo s < Book.rule b) == decide (d ≥ thin)) = false, (!decide (Span.lo s < Book.rule b) == decide (d ≥ thin)) = false, (!decide (Span.lo s < Book.rule b) == decide (d ≥ thin)) = false, (!decide (Span.lo s < Book.rule b) == decide (d ≥ thin)) = false, (!decide (Span.lo s < Book.rule b) == decide (d ≥ thin)) = false, (!decide (Span.lo s < Book.rule b) == decide (d ≥ thin)) = false, (!decide (Span.lo s < Book.rule b) == decide (d ≥ thin)) = false, (!decide (Span.hi s < Book.rule b) == decide (d ≥ gone)) = false, (!decide (Span.hi s < Book.rule b) == decide (d ≥ gone)) = false, (!decide (Span.hi s < Book.rule b) == decide (d ≥ gone)) = false, Contract Proofs.Tryd.prog glob 46 [D.sl false E.int cut, D.int .i64 i] (D.int .i64 at1), (!decide (Span.hi s < Book.rule b) == decide (d ≥ gone)) = false, (!decide (Span.hi s < Book.rule b) == decide (d ≥ gone)) = false, (!decide (Span.hi s < Book.rule b) == decide (d ≥ gone)) = false, (!decide (Span.hi s < Book.rule b) == decide (d ≥ gone)) = false, (!decide (at1 ≥ (0 : Int)) == decide (Span.lo s < Book.rule b)) = false, (d == Book.days b) = false, inI64 (d + (1 : Int)), Contract Proofs.Tryd.prog glob 41 [bookD b, D.int .i64 i, D.int .i64 (d + (1 : Int))] (D.tup [D.agg [D.int .i64 (Span.lo s2), D.int .i64 (Span.hi s2)], D.int .i64 (0 : Int)]), 0 + 0 + 1 ≤ 2, 0 + 0 + 1 ≤ 2, decide (Span.lo s2 ≤ Span.lo s) = true, decide (Span.lo s2 ≤ Span.lo s) = true, 0 + 1 + 1 ≤ 2, decide (Span.lo s2 ≤ Span.lo s) = true, decide (Span.lo s2 ≤ Span.lo s) = true, 0 + 1 + 1 ≤ 2, decide (Span.lo s2 ≤ Span.lo s) = true, decide (Span.lo s2 ≤ Span.lo s) = true, decide (Span.hi s2 ≤ Span.hi s) = true, Contract Proofs.Tryd.prog glob 30 [] (D.bool true), decide (Span.hi s2 ≤ Span.hi s) = true], D.bool true) := by kernel_rfl
theorem cfirst_ok001 (b : Book) (n0 n1 : Int) (i d : Int) (s s2 : Span) (thin gone at1 : Int) (cut : List Int) :
    callF (mk Proofs.Tryd.prog (lookN types) glob 197) [(146, false), (157, false), (164, false), (168, true), (187, true), (194, true)] [(20, .bool true), (28, .int .i64 i), (34, .int .i64 d), (39, .tup [spD s, .int .i64 0]), (45, .tup [.int .i64 thin, .int .i64 0]), (51, .tup [.int .i64 gone, .int .i64 0]), (57, .tup [.sl true .int cut, .int .i64 0]), (124, .bool true), (160, .int .i64 at1), (169, .bool true), (175, .tup [spD s2, .int .i64 0]), (195, .bool true)] [] (body Proofs.Tryd.f9) [.tmp 4] [bookD b, .agg [.int .i64 n0, .int .i64 n1]] =
      some ([Contract Proofs.Tryd.prog glob 33 [bookD b] (D.bool true), (0 : Int) ≤ (0 : Int) ∧ (0 : Int) < (Nat.cast : Nat → Int) 2, 0 + Int.toNat (0 : Int) * 1 + 1 ≤ 2, Contract Proofs.Tryd.prog glob 39 [D.int .i64 n0, D.int .i64 ((Nat.cast : Nat → Int) (List.length (Book.secs b)))] (D.int .i64 i), (0 : Int) ≤ (1 : Int) ∧ (1 : Int) < (Nat.cast : Nat → Int) 2, 0 + Int.toNat (1 : Int) * 1 + 1 ≤ 2, inI64 (Book.days b + (1 : Int)), Contract Proofs.Tryd.prog glob 39 [D.int .i64 n1, D.int .i64 (Book.days b + (1 : Int))] (D.int .i64 d), Contract Proofs.Tryd.prog glob 41 [bookD b, D.int .i64 i, D.int .i64 d] (D.tup [D.agg [D.int .i64 (Span.lo s), D.int .i64 (Span.hi s)], D.int .i64 (0 : Int)]), Contract Proofs.Tryd.prog glob 43 [bookD b, D.int .i64 i] (D.tup [D.int .i64 thin, D.int .i64 (0 : Int)]), Contract Proofs.Tryd.prog glob 44 [bookD b, D.int .i64 i] (D.tup [D.int .i64 gone, D.int .i64 (0 : Int)]), Contract Proofs.Tryd.prog glob 40 [bookD b, D.int .i64 d] (D.tup [D.sl true E.int cut, D.int .i64 (0 : Int)]), Contract Proofs.Tryd.prog glob 52 [D.sl false E.int cut, D.int .i64 ((Nat.cast : Nat → Int) (List.length (Book.secs b)))] (D.bool true), 0 + 0 + 1 ≤ 2, 0 + 1 + 1 ≤ 2, (!decide (Span.lo s < Book.rule b) == decide (d ≥ thin)) = false, (!decide (Span.lo s < Book.rule b) == decide (d ≥ thin)) = false, (!decide (Span.lo s < Book.rule b) == decide (d ≥ thin)) = false, (!decide (Span.lo s < Book.rule b) == decide (d ≥ thin)) = false, (!decide (Span.lo s < Book.rule b) == decide (d ≥ thin)) = false, (!decide (Span.lo s < Book.rule b) == decide (d ≥ thin)) = false, (!decide (Span.lo s < Book.rule b) == decide (d ≥ thin)) = false, (!decide (Span.hi s < Book.rule b) == decide (d ≥ gone)) = false, (!decide (Span.hi s < Book.rule b) == decide (d ≥ gone)) = false, (!decide (Span.hi s < Book.rule b) == decide (d ≥ gone)) = false, Contract Proofs.Tryd.prog glob 46 [D.sl false E.int cut, D.int .i64 i] (D.int .i64 at1), (!decide (Span.hi s < Book.rule b) == decide (d ≥ gone)) = false, (!decide (Span.hi s < Book.rule b) == decide (d ≥ gone)) = false, (!decide (Span.hi s < Book.rule b) == decide (d ≥ gone)) = false, (!decide (Span.hi s < Book.rule b) == decide (d ≥ gone)) = false, (!decide (at1 ≥ (0 : Int)) == decide (Span.lo s < Book.rule b)) = false, (d == Book.days b) = true, Contract Proofs.Tryd.prog glob 30 [] (D.bool true)], D.bool true) := by kernel_rfl
theorem cfirst_ok010 (b : Book) (n0 n1 : Int) (i d : Int) (s s2 : Span) (thin gone at1 : Int) (cut : List Int) :
    callF (mk Proofs.Tryd.prog (lookN types) glob 197) [(146, false), (157, false), (164, false), (168, false), (187, true), (194, true)] [(20, .bool true), (28, .int .i64 i), (34, .int .i64 d), (39, .tup [spD s, .int .i64 0]), (45, .tup [.int .i64 thin, .int .i64 0]), (51, .tup [.int .i64 0, .int .i64 4]), (57, .tup [.sl true .int cut, .int .i64 0]), (124, .bool true), (160, .int .i64 at1), (169, .bool true), (175, .tup [spD s2, .int .i64 0]), (195, .bool true)] [] (body Proofs.Tryd.f9) [.tmp 4] [bookD b, .agg [.int .i64 n0, .int .i64 n1]] =
      some ([Contract Proofs.Tryd.prog glob 33 [bookD b] (D.bool true), (0 : Int) ≤ (0 : Int) ∧ (0 : Int) < (Nat.cast : Nat → Int) 2, 0 + Int.toNat (0 : Int) * 1 + 1 ≤ 2, Contract Proofs.Tryd.prog glob 39 [D.int .i64 n0, D.int .i64 ((Nat.cast : Nat → Int) (List.length (Book.secs b)))] (D.int .i64 i), (0 : Int) ≤ (1 : Int) ∧ (1 : Int) < (Nat.cast : Nat → Int) 2, 0 + Int.toNat (1 : Int) * 1 + 1 ≤ 2, inI64 (Book.days b + (1 : Int)), Contract Proofs.Tryd.prog glob 39 [D.int .i64 n1, D.int .i64 (Book.days b + (1 : Int))] (D.int .i64 d), Contract Proofs.Tryd.prog glob 41 [bookD b, D.int .i64 i, D.int .i64 d] (D.tup [D.agg [D.int .i64 (Span.lo s), D.int .i64 (Span.hi s)], D.int .i64 (0 : Int)]), Contract Proofs.Tryd.prog glob 43 [bookD b, D.int .i64 i] (D.tup [D.int .i64 thin, D.int .i64 (0 : Int)]), Contract Proofs.Tryd.prog glob 44 [bookD b, D.int .i64 i] (D.tup [D.int .i64 (0 : Int), D.int .i64 (4 : Int)]), Contract Proofs.Tryd.prog glob 40 [bookD b, D.int .i64 d] (D.tup [D.sl true E.int cut, D.int .i64 (0 : Int)]), Contract Proofs.Tryd.prog glob 52 [D.sl false E.int cut, D.int .i64 ((Nat.cast : Nat → Int) (List.length (Book.secs b)))] (D.bool true), 0 + 0 + 1 ≤ 2, 0 + 1 + 1 ≤ 2, (!decide (Span.lo s < Book.rule b) == decide (d ≥ thin)) = false, (!decide (Span.lo s < Book.rule b) == decide (d ≥ thin)) = false, (!decide (Span.lo s < Book.rule b) == decide (d ≥ thin)) = false, (!decide (Span.lo s < Book.rule b) == decide (d ≥ thin)) = false, (!decide (Span.lo s < Book.rule b) == decide (d ≥ thin)) = false, (!decide (Span.lo s < Book.rule b) == decide (d ≥ thin)) = false, (!decide (Span.lo s < Book.rule b) == decide (d ≥ thin)) = false, (!decide (Span.hi s < Book.rule b) == false) = false, (!decide (Span.hi s < Book.rule b) == false) = false, (!decide (Span.hi s < Book.rule b) == false) = false, Contract Proofs.Tryd.prog glob 46 [D.sl false E.int cut, D.int .i64 i] (D.int .i64 at1), (!decide (Span.hi s < Book.rule b) == false) = false, (!decide (Span.hi s < Book.rule b) == false) = false, (!decide (Span.hi s < Book.rule b) == false) = false, (!decide (Span.hi s < Book.rule b) == false) = false, (!decide (at1 ≥ (0 : Int)) == decide (Span.lo s < Book.rule b)) = false, (d == Book.days b) = false, inI64 (d + (1 : Int)), Contract Proofs.Tryd.prog glob 41 [bookD b, D.int .i64 i, D.int .i64 (d + (1 : Int))] (D.tup [D.agg [D.int .i64 (Span.lo s2), D.int .i64 (Span.hi s2)], D.int .i64 (0 : Int)]), 0 + 0 + 1 ≤ 2, 0 + 0 + 1 ≤ 2, decide (Span.lo s2 ≤ Span.lo s) = true, decide (Span.lo s2 ≤ Span.lo s) = true, 0 + 1 + 1 ≤ 2, decide (Span.lo s2 ≤ Span.lo s) = true, decide (Span.lo s2 ≤ Span.lo s) = true, 0 + 1 + 1 ≤ 2, decide (Span.lo s2 ≤ Span.lo s) = true, decide (Span.lo s2 ≤ Span.lo s) = true, decide (Span.hi s2 ≤ Span.hi s) = true, Contract Proofs.Tryd.prog glob 30 [] (D.bool true), decide (Span.hi s2 ≤ Span.hi s) = true], D.bool true) := by kernel_rfl
theorem cfirst_ok011 (b : Book) (n0 n1 : Int) (i d : Int) (s s2 : Span) (thin gone at1 : Int) (cut : List Int) :
    callF (mk Proofs.Tryd.prog (lookN types) glob 197) [(146, false), (157, false), (164, false), (168, true), (187, true), (194, true)] [(20, .bool true), (28, .int .i64 i), (34, .int .i64 d), (39, .tup [spD s, .int .i64 0]), (45, .tup [.int .i64 thin, .int .i64 0]), (51, .tup [.int .i64 0, .int .i64 4]), (57, .tup [.sl true .int cut, .int .i64 0]), (124, .bool true), (160, .int .i64 at1), (169, .bool true), (175, .tup [spD s2, .int .i64 0]), (195, .bool true)] [] (body Proofs.Tryd.f9) [.tmp 4] [bookD b, .agg [.int .i64 n0, .int .i64 n1]] =
      some ([Contract Proofs.Tryd.prog glob 33 [bookD b] (D.bool true), (0 : Int) ≤ (0 : Int) ∧ (0 : Int) < (Nat.cast : Nat → Int) 2, 0 + Int.toNat (0 : Int) * 1 + 1 ≤ 2, Contract Proofs.Tryd.prog glob 39 [D.int .i64 n0, D.int .i64 ((Nat.cast : Nat → Int) (List.length (Book.secs b)))] (D.int .i64 i), (0 : Int) ≤ (1 : Int) ∧ (1 : Int) < (Nat.cast : Nat → Int) 2, 0 + Int.toNat (1 : Int) * 1 + 1 ≤ 2, inI64 (Book.days b + (1 : Int)), Contract Proofs.Tryd.prog glob 39 [D.int .i64 n1, D.int .i64 (Book.days b + (1 : Int))] (D.int .i64 d), Contract Proofs.Tryd.prog glob 41 [bookD b, D.int .i64 i, D.int .i64 d] (D.tup [D.agg [D.int .i64 (Span.lo s), D.int .i64 (Span.hi s)], D.int .i64 (0 : Int)]), Contract Proofs.Tryd.prog glob 43 [bookD b, D.int .i64 i] (D.tup [D.int .i64 thin, D.int .i64 (0 : Int)]), Contract Proofs.Tryd.prog glob 44 [bookD b, D.int .i64 i] (D.tup [D.int .i64 (0 : Int), D.int .i64 (4 : Int)]), Contract Proofs.Tryd.prog glob 40 [bookD b, D.int .i64 d] (D.tup [D.sl true E.int cut, D.int .i64 (0 : Int)]), Contract Proofs.Tryd.prog glob 52 [D.sl false E.int cut, D.int .i64 ((Nat.cast : Nat → Int) (List.length (Book.secs b)))] (D.bool true), 0 + 0 + 1 ≤ 2, 0 + 1 + 1 ≤ 2, (!decide (Span.lo s < Book.rule b) == decide (d ≥ thin)) = false, (!decide (Span.lo s < Book.rule b) == decide (d ≥ thin)) = false, (!decide (Span.lo s < Book.rule b) == decide (d ≥ thin)) = false, (!decide (Span.lo s < Book.rule b) == decide (d ≥ thin)) = false, (!decide (Span.lo s < Book.rule b) == decide (d ≥ thin)) = false, (!decide (Span.lo s < Book.rule b) == decide (d ≥ thin)) = false, (!decide (Span.lo s < Book.rule b) == decide (d ≥ thin)) = false, (!decide (Span.hi s < Book.rule b) == false) = false, (!decide (Span.hi s < Book.rule b) == false) = false, (!decide (Span.hi s < Book.rule b) == false) = false, Contract Proofs.Tryd.prog glob 46 [D.sl false E.int cut, D.int .i64 i] (D.int .i64 at1), (!decide (Span.hi s < Book.rule b) == false) = false, (!decide (Span.hi s < Book.rule b) == false) = false, (!decide (Span.hi s < Book.rule b) == false) = false, (!decide (Span.hi s < Book.rule b) == false) = false, (!decide (at1 ≥ (0 : Int)) == decide (Span.lo s < Book.rule b)) = false, (d == Book.days b) = true, Contract Proofs.Tryd.prog glob 30 [] (D.bool true)], D.bool true) := by kernel_rfl
theorem cfirst_ok100 (b : Book) (n0 n1 : Int) (i d : Int) (s s2 : Span) (thin gone at1 : Int) (cut : List Int) :
    callF (mk Proofs.Tryd.prog (lookN types) glob 197) [(146, false), (157, false), (164, false), (168, false), (187, true), (194, true)] [(20, .bool true), (28, .int .i64 i), (34, .int .i64 d), (39, .tup [spD s, .int .i64 0]), (45, .tup [.int .i64 0, .int .i64 4]), (51, .tup [.int .i64 gone, .int .i64 0]), (57, .tup [.sl true .int cut, .int .i64 0]), (124, .bool true), (160, .int .i64 at1), (169, .bool true), (175, .tup [spD s2, .int .i64 0]), (195, .bool true)] [] (body Proofs.Tryd.f9) [.tmp 4] [bookD b, .agg [.int .i64 n0, .int .i64 n1]] =
      some ([Contract Proofs.Tryd.prog glob 33 [bookD b] (D.bool true), (0 : Int) ≤ (0 : Int) ∧ (0 : Int) < (Nat.cast : Nat → Int) 2, 0 + Int.toNat (0 : Int) * 1 + 1 ≤ 2, Contract Proofs.Tryd.prog glob 39 [D.int .i64 n0, D.int .i64 ((Nat.cast : Nat → Int) (List.length (Book.secs b)))] (D.int .i64 i), (0 : Int) ≤ (1 : Int) ∧ (1 : Int) < (Nat.cast : Nat → Int) 2, 0 + Int.toNat (1 : Int) * 1 + 1 ≤ 2, inI64 (Book.days b + (1 : Int)), Contract Proofs.Tryd.prog glob 39 [D.int .i64 n1, D.int .i64 (Book.days b + (1 : Int))] (D.int .i64 d), Contract Proofs.Tryd.prog glob 41 [bookD b, D.int .i64 i, D.int .i64 d] (D.tup [D.agg [D.int .i64 (Span.lo s), D.int .i64 (Span.hi s)], D.int .i64 (0 : Int)]), Contract Proofs.Tryd.prog glob 43 [bookD b, D.int .i64 i] (D.tup [D.int .i64 (0 : Int), D.int .i64 (4 : Int)]), Contract Proofs.Tryd.prog glob 44 [bookD b, D.int .i64 i] (D.tup [D.int .i64 gone, D.int .i64 (0 : Int)]), Contract Proofs.Tryd.prog glob 40 [bookD b, D.int .i64 d] (D.tup [D.sl true E.int cut, D.int .i64 (0 : Int)]), Contract Proofs.Tryd.prog glob 52 [D.sl false E.int cut, D.int .i64 ((Nat.cast : Nat → Int) (List.length (Book.secs b)))] (D.bool true), 0 + 0 + 1 ≤ 2, 0 + 1 + 1 ≤ 2, (!decide (Span.lo s < Book.rule b) == false) = false, (!decide (Span.lo s < Book.rule b) == false) = false, (!decide (Span.lo s < Book.rule b) == false) = false, (!decide (Span.lo s < Book.rule b) == false) = false, (!decide (Span.lo s < Book.rule b) == false) = false, (!decide (Span.lo s < Book.rule b) == false) = false, (!decide (Span.lo s < Book.rule b) == false) = false, (!decide (Span.hi s < Book.rule b) == decide (d ≥ gone)) = false, (!decide (Span.hi s < Book.rule b) == decide (d ≥ gone)) = false, (!decide (Span.hi s < Book.rule b) == decide (d ≥ gone)) = false, Contract Proofs.Tryd.prog glob 46 [D.sl false E.int cut, D.int .i64 i] (D.int .i64 at1), (!decide (Span.hi s < Book.rule b) == decide (d ≥ gone)) = false, (!decide (Span.hi s < Book.rule b) == decide (d ≥ gone)) = false, (!decide (Span.hi s < Book.rule b) == decide (d ≥ gone)) = false, (!decide (Span.hi s < Book.rule b) == decide (d ≥ gone)) = false, (!decide (at1 ≥ (0 : Int)) == decide (Span.lo s < Book.rule b)) = false, (d == Book.days b) = false, inI64 (d + (1 : Int)), Contract Proofs.Tryd.prog glob 41 [bookD b, D.int .i64 i, D.int .i64 (d + (1 : Int))] (D.tup [D.agg [D.int .i64 (Span.lo s2), D.int .i64 (Span.hi s2)], D.int .i64 (0 : Int)]), 0 + 0 + 1 ≤ 2, 0 + 0 + 1 ≤ 2, decide (Span.lo s2 ≤ Span.lo s) = true, decide (Span.lo s2 ≤ Span.lo s) = true, 0 + 1 + 1 ≤ 2, decide (Span.lo s2 ≤ Span.lo s) = true, decide (Span.lo s2 ≤ Span.lo s) = true, 0 + 1 + 1 ≤ 2, decide (Span.lo s2 ≤ Span.lo s) = true, decide (Span.lo s2 ≤ Span.lo s) = true, decide (Span.hi s2 ≤ Span.hi s) = true, Contract Proofs.Tryd.prog glob 30 [] (D.bool true), decide (Span.hi s2 ≤ Span.hi s) = true], D.bool true) := by kernel_rfl
theorem cfirst_ok101 (b : Book) (n0 n1 : Int) (i d : Int) (s s2 : Span) (thin gone at1 : Int) (cut : List Int) :
    callF (mk Proofs.Tryd.prog (lookN types) glob 197) [(146, false), (157, false), (164, false), (168, true), (187, true), (194, true)] [(20, .bool true), (28, .int .i64 i), (34, .int .i64 d), (39, .tup [spD s, .int .i64 0]), (45, .tup [.int .i64 0, .int .i64 4]), (51, .tup [.int .i64 gone, .int .i64 0]), (57, .tup [.sl true .int cut, .int .i64 0]), (124, .bool true), (160, .int .i64 at1), (169, .bool true), (175, .tup [spD s2, .int .i64 0]), (195, .bool true)] [] (body Proofs.Tryd.f9) [.tmp 4] [bookD b, .agg [.int .i64 n0, .int .i64 n1]] =
      some ([Contract Proofs.Tryd.prog glob 33 [bookD b] (D.bool true), (0 : Int) ≤ (0 : Int) ∧ (0 : Int) < (Nat.cast : Nat → Int) 2, 0 + Int.toNat (0 : Int) * 1 + 1 ≤ 2, Contract Proofs.Tryd.prog glob 39 [D.int .i64 n0, D.int .i64 ((Nat.cast : Nat → Int) (List.length (Book.secs b)))] (D.int .i64 i), (0 : Int) ≤ (1 : Int) ∧ (1 : Int) < (Nat.cast : Nat → Int) 2, 0 + Int.toNat (1 : Int) * 1 + 1 ≤ 2, inI64 (Book.days b + (1 : Int)), Contract Proofs.Tryd.prog glob 39 [D.int .i64 n1, D.int .i64 (Book.days b + (1 : Int))] (D.int .i64 d), Contract Proofs.Tryd.prog glob 41 [bookD b, D.int .i64 i, D.int .i64 d] (D.tup [D.agg [D.int .i64 (Span.lo s), D.int .i64 (Span.hi s)], D.int .i64 (0 : Int)]), Contract Proofs.Tryd.prog glob 43 [bookD b, D.int .i64 i] (D.tup [D.int .i64 (0 : Int), D.int .i64 (4 : Int)]), Contract Proofs.Tryd.prog glob 44 [bookD b, D.int .i64 i] (D.tup [D.int .i64 gone, D.int .i64 (0 : Int)]), Contract Proofs.Tryd.prog glob 40 [bookD b, D.int .i64 d] (D.tup [D.sl true E.int cut, D.int .i64 (0 : Int)]), Contract Proofs.Tryd.prog glob 52 [D.sl false E.int cut, D.int .i64 ((Nat.cast : Nat → Int) (List.length (Book.secs b)))] (D.bool true), 0 + 0 + 1 ≤ 2, 0 + 1 + 1 ≤ 2, (!decide (Span.lo s < Book.rule b) == false) = false, (!decide (Span.lo s < Book.rule b) == false) = false, (!decide (Span.lo s < Book.rule b) == false) = false, (!decide (Span.lo s < Book.rule b) == false) = false, (!decide (Span.lo s < Book.rule b) == false) = false, (!decide (Span.lo s < Book.rule b) == false) = false, (!decide (Span.lo s < Book.rule b) == false) = false, (!decide (Span.hi s < Book.rule b) == decide (d ≥ gone)) = false, (!decide (Span.hi s < Book.rule b) == decide (d ≥ gone)) = false, (!decide (Span.hi s < Book.rule b) == decide (d ≥ gone)) = false, Contract Proofs.Tryd.prog glob 46 [D.sl false E.int cut, D.int .i64 i] (D.int .i64 at1), (!decide (Span.hi s < Book.rule b) == decide (d ≥ gone)) = false, (!decide (Span.hi s < Book.rule b) == decide (d ≥ gone)) = false, (!decide (Span.hi s < Book.rule b) == decide (d ≥ gone)) = false, (!decide (Span.hi s < Book.rule b) == decide (d ≥ gone)) = false, (!decide (at1 ≥ (0 : Int)) == decide (Span.lo s < Book.rule b)) = false, (d == Book.days b) = true, Contract Proofs.Tryd.prog glob 30 [] (D.bool true)], D.bool true) := by kernel_rfl
theorem cfirst_ok110 (b : Book) (n0 n1 : Int) (i d : Int) (s s2 : Span) (thin gone at1 : Int) (cut : List Int) :
    callF (mk Proofs.Tryd.prog (lookN types) glob 197) [(146, false), (157, false), (164, false), (168, false), (187, true), (194, true)] [(20, .bool true), (28, .int .i64 i), (34, .int .i64 d), (39, .tup [spD s, .int .i64 0]), (45, .tup [.int .i64 0, .int .i64 4]), (51, .tup [.int .i64 0, .int .i64 4]), (57, .tup [.sl true .int cut, .int .i64 0]), (124, .bool true), (160, .int .i64 at1), (169, .bool true), (175, .tup [spD s2, .int .i64 0]), (195, .bool true)] [] (body Proofs.Tryd.f9) [.tmp 4] [bookD b, .agg [.int .i64 n0, .int .i64 n1]] =
      some ([Contract Proofs.Tryd.prog glob 33 [bookD b] (D.bool true), (0 : Int) ≤ (0 : Int) ∧ (0 : Int) < (Nat.cast : Nat → Int) 2, 0 + Int.toNat (0 : Int) * 1 + 1 ≤ 2, Contract Proofs.Tryd.prog glob 39 [D.int .i64 n0, D.int .i64 ((Nat.cast : Nat → Int) (List.length (Book.secs b)))] (D.int .i64 i), (0 : Int) ≤ (1 : Int) ∧ (1 : Int) < (Nat.cast : Nat → Int) 2, 0 + Int.toNat (1 : Int) * 1 + 1 ≤ 2, inI64 (Book.days b + (1 : Int)), Contract Proofs.Tryd.prog glob 39 [D.int .i64 n1, D.int .i64 (Book.days b + (1 : Int))] (D.int .i64 d), Contract Proofs.Tryd.prog glob 41 [bookD b, D.int .i64 i, D.int .i64 d] (D.tup [D.agg [D.int .i64 (Span.lo s), D.int .i64 (Span.hi s)], D.int .i64 (0 : Int)]), Contract Proofs.Tryd.prog glob 43 [bookD b, D.int .i64 i] (D.tup [D.int .i64 (0 : Int), D.int .i64 (4 : Int)]), Contract Proofs.Tryd.prog glob 44 [bookD b, D.int .i64 i] (D.tup [D.int .i64 (0 : Int), D.int .i64 (4 : Int)]), Contract Proofs.Tryd.prog glob 40 [bookD b, D.int .i64 d] (D.tup [D.sl true E.int cut, D.int .i64 (0 : Int)]), Contract Proofs.Tryd.prog glob 52 [D.sl false E.int cut, D.int .i64 ((Nat.cast : Nat → Int) (List.length (Book.secs b)))] (D.bool true), 0 + 0 + 1 ≤ 2, 0 + 1 + 1 ≤ 2, (!decide (Span.lo s < Book.rule b) == false) = false, (!decide (Span.lo s < Book.rule b) == false) = false, (!decide (Span.lo s < Book.rule b) == false) = false, (!decide (Span.lo s < Book.rule b) == false) = false, (!decide (Span.lo s < Book.rule b) == false) = false, (!decide (Span.lo s < Book.rule b) == false) = false, (!decide (Span.lo s < Book.rule b) == false) = false, (!decide (Span.hi s < Book.rule b) == false) = false, (!decide (Span.hi s < Book.rule b) == false) = false, (!decide (Span.hi s < Book.rule b) == false) = false, Contract Proofs.Tryd.prog glob 46 [D.sl false E.int cut, D.int .i64 i] (D.int .i64 at1), (!decide (Span.hi s < Book.rule b) == false) = false, (!decide (Span.hi s < Book.rule b) == false) = false, (!decide (Span.hi s < Book.rule b) == false) = false, (!decide (Span.hi s < Book.rule b) == false) = false, (!decide (at1 ≥ (0 : Int)) == decide (Span.lo s < Book.rule b)) = false, (d == Book.days b) = false, inI64 (d + (1 : Int)), Contract Proofs.Tryd.prog glob 41 [bookD b, D.int .i64 i, D.int .i64 (d + (1 : Int))] (D.tup [D.agg [D.int .i64 (Span.lo s2), D.int .i64 (Span.hi s2)], D.int .i64 (0 : Int)]), 0 + 0 + 1 ≤ 2, 0 + 0 + 1 ≤ 2, decide (Span.lo s2 ≤ Span.lo s) = true, decide (Span.lo s2 ≤ Span.lo s) = true, 0 + 1 + 1 ≤ 2, decide (Span.lo s2 ≤ Span.lo s) = true, decide (Span.lo s2 ≤ Span.lo s) = true, 0 + 1 + 1 ≤ 2, decide (Span.lo s2 ≤ Span.lo s) = true, decide (Span.lo s2 ≤ Span.lo s) = true, decide (Span.hi s2 ≤ Span.hi s) = true, Contract Proofs.Tryd.prog glob 30 [] (D.bool true), decide (Span.hi s2 ≤ Span.hi s) = true], D.bool true) := by kernel_rfl
theorem cfirst_ok111 (b : Book) (n0 n1 : Int) (i d : Int) (s s2 : Span) (thin gone at1 : Int) (cut : List Int) :
    callF (mk Proofs.Tryd.prog (lookN types) glob 197) [(146, false), (157, false), (164, false), (168, true), (187, true), (194, true)] [(20, .bool true), (28, .int .i64 i), (34, .int .i64 d), (39, .tup [spD s, .int .i64 0]), (45, .tup [.int .i64 0, .int .i64 4]), (51, .tup [.int .i64 0, .int .i64 4]), (57, .tup [.sl true .int cut, .int .i64 0]), (124, .bool true), (160, .int .i64 at1), (169, .bool true), (175, .tup [spD s2, .int .i64 0]), (195, .bool true)] [] (body Proofs.Tryd.f9) [.tmp 4] [bookD b, .agg [.int .i64 n0, .int .i64 n1]] =
      some ([Contract Proofs.Tryd.prog glob 33 [bookD b] (D.bool true), (0 : Int) ≤ (0 : Int) ∧ (0 : Int) < (Nat.cast : Nat → Int) 2, 0 + Int.toNat (0 : Int) * 1 + 1 ≤ 2, Contract Proofs.Tryd.prog glob 39 [D.int .i64 n0, D.int .i64 ((Nat.cast : Nat → Int) (List.length (Book.secs b)))] (D.int .i64 i), (0 : Int) ≤ (1 : Int) ∧ (1 : Int) < (Nat.cast : Nat → Int) 2, 0 + Int.toNat (1 : Int) * 1 + 1 ≤ 2, inI64 (Book.days b + (1 : Int)), Contract Proofs.Tryd.prog glob 39 [D.int .i64 n1, D.int .i64 (Book.days b + (1 : Int))] (D.int .i64 d), Contract Proofs.Tryd.prog glob 41 [bookD b, D.int .i64 i, D.int .i64 d] (D.tup [D.agg [D.int .i64 (Span.lo s), D.int .i64 (Span.hi s)], D.int .i64 (0 : Int)]), Contract Proofs.Tryd.prog glob 43 [bookD b, D.int .i64 i] (D.tup [D.int .i64 (0 : Int), D.int .i64 (4 : Int)]), Contract Proofs.Tryd.prog glob 44 [bookD b, D.int .i64 i] (D.tup [D.int .i64 (0 : Int), D.int .i64 (4 : Int)]), Contract Proofs.Tryd.prog glob 40 [bookD b, D.int .i64 d] (D.tup [D.sl true E.int cut, D.int .i64 (0 : Int)]), Contract Proofs.Tryd.prog glob 52 [D.sl false E.int cut, D.int .i64 ((Nat.cast : Nat → Int) (List.length (Book.secs b)))] (D.bool true), 0 + 0 + 1 ≤ 2, 0 + 1 + 1 ≤ 2, (!decide (Span.lo s < Book.rule b) == false) = false, (!decide (Span.lo s < Book.rule b) == false) = false, (!decide (Span.lo s < Book.rule b) == false) = false, (!decide (Span.lo s < Book.rule b) == false) = false, (!decide (Span.lo s < Book.rule b) == false) = false, (!decide (Span.lo s < Book.rule b) == false) = false, (!decide (Span.lo s < Book.rule b) == false) = false, (!decide (Span.hi s < Book.rule b) == false) = false, (!decide (Span.hi s < Book.rule b) == false) = false, (!decide (Span.hi s < Book.rule b) == false) = false, Contract Proofs.Tryd.prog glob 46 [D.sl false E.int cut, D.int .i64 i] (D.int .i64 at1), (!decide (Span.hi s < Book.rule b) == false) = false, (!decide (Span.hi s < Book.rule b) == false) = false, (!decide (Span.hi s < Book.rule b) == false) = false, (!decide (Span.hi s < Book.rule b) == false) = false, (!decide (at1 ≥ (0 : Int)) == decide (Span.lo s < Book.rule b)) = false, (d == Book.days b) = true, Contract Proofs.Tryd.prog glob 30 [] (D.bool true)], D.bool true) := by kernel_rfl
end Go.Di

namespace Go.Di

/-! ### sound -/
theorem sound_con {b : Book} (hs : Small b) : Contract Proofs.Tryd.prog glob 33 [bookD b] (.bool (validF b)) := by
  have hch := check_small hs
  unfold checkF at hch
  cases hv : validF b with
  | false =>
    rw [hv] at hch
    have l0 : LoopT Proofs.Tryd.prog glob 99 (Code.at [1, 1, 0, 1] (body Proofs.Tryd.f33)) (soundN_S0 b) .normal (soundN_S0 b) :=
      LoopT.count (tt := lookN types) (id := 0) (c := Code.at [1, 1, 0, 1, 0, 0] (body Proofs.Tryd.f33)) (by kernel_rfl) 0 (fun _ => soundN_S0 b) (fun i h => by omega) (WpL.path (G 99) (soundN_0_end b) trivial ⟨.inl ⟨rfl, rfl⟩, rfl⟩)
    have l2 : LoopT Proofs.Tryd.prog glob 99 (Code.at [1, 1, 1, 0, 1] (body Proofs.Tryd.f33)) (soundN_S2 b) .normal (soundN_S2 b) :=
      LoopT.count (tt := lookN types) (id := 2) (c := Code.at [1, 1, 1, 0, 1, 0, 0] (body Proofs.Tryd.f33)) (by kernel_rfl) 0 (fun _ => soundN_S2 b) (fun i h => by omega) (WpL.path (G 99) (soundN_2_end b) trivial ⟨.inl ⟨rfl, rfl⟩, rfl⟩)
    exact contract_of_path (G 99) soundN_fn (soundN_all b) ⟨hch, l0, l2, trivial⟩
  | true =>
    rw [hv] at hch
    have hV := valid_iff.1 hv
    have h1 := hV.secs
    have h2 := hV.days
    have h3 := hV.rule
    have h4 := hV.turns
    have h5 := hV.svs
    have i1 := inside_con b.secs.length 1 4
    have i2 := inside_con b.days 1 30
    have i3 := inside_con b.rule 0 200
    rw [show insideF (b.secs.length : Int) 1 4 = true by simp only [insideF, Bool.and_eq_true, decide_eq_true_eq]; omega] at i1
    rw [show insideF b.days 1 30 = true by simp only [insideF, Bool.and_eq_true, decide_eq_true_eq]; omega] at i2
    rw [show insideF b.rule 0 200 = true by simp only [insideF, Bool.and_eq_true, decide_eq_true_eq]; omega] at i3
    have d4 : decide ((b.turns.length : Int) ≤ 4) = true := decide_eq_true (by omega)
    have d8 : decide ((b.svs.length : Int) ≤ 8) = true := decide_eq_true (by omega)
    have l0 : LoopT Proofs.Tryd.prog glob 99 (Code.at [1, 1, 0, 1] (body Proofs.Tryd.f33)) (sound_S0 b 0) .normal (sound_S0 b b.secs.length) := by
      refine LoopT.count (tt := lookN types) (id := 0) (c := Code.at [1, 1, 0, 1, 0, 0] (body Proofs.Tryd.f33)) (by kernel_rfl) b.secs.length (sound_S0 b) (fun i h => ?_) (WpL.path (G 99) (sound_0_end b _) ⟨decide_eq_false (Int.lt_irrefl _), trivial⟩ ⟨.inl ⟨rfl, rfl⟩, rfl⟩)
      obtain ⟨t1, t2⟩ := hV.sec _ (getD_mem b.secs i sec0 h)
      have v1 := validB_con (b.secs.getD i sec0).t 0 200
      have v2 := validB_con (b.secs.getD i sec0).w 0 3
      rw [show validSF (b.secs.getD i sec0).t 0 200 = true by simp only [validSF, Bool.and_eq_true, decide_eq_true_eq]; omega] at v1
      rw [show validSF (b.secs.getD i sec0).w 0 3 = true by simp only [validSF, Bool.and_eq_true, decide_eq_true_eq]; omega] at v2
      exact WpL.path (G 99) (sound_0_on b i) ⟨decide_eq_true (by omega), by omega, by omega, v1, by omega, by omega, v2, by simp only [inI64]; omega, trivial⟩ ⟨rfl, rfl⟩
    have l2 : LoopT Proofs.Tryd.prog glob 99 (Code.at [1, 1, 1, 0, 1] (body Proofs.Tryd.f33)) (sound_S2 b 0) .normal (sound_S2 b b.svs.length) := by
      refine LoopT.count (tt := lookN types) (id := 2) (c := Code.at [1, 1, 1, 0, 1, 0, 0] (body Proofs.Tryd.f33)) (by kernel_rfl) b.svs.length (sound_S2 b) (fun i h => ?_) (WpL.path (G 99) (sound_2_end b _) ⟨decide_eq_false (Int.lt_irrefl _), trivial⟩ ⟨.inl ⟨rfl, rfl⟩, rfl⟩)
      obtain ⟨t1, t2, t3, t4⟩ := survey_iff.1 (hV.sv _ (getD_mem b.svs i sv0 h))
      have v1 := inside_con (b.svs.getD i sv0).s 0 ((b.secs.length : Int) - 1)
      have v2 := inside_con (b.svs.getD i sv0).d 0 b.days
      have v3 := inside_con (b.svs.getD i sv0).e 0 5
      rw [show insideF (b.svs.getD i sv0).s 0 ((b.secs.length : Int) - 1) = true by simp only [insideF, Bool.and_eq_true, decide_eq_true_eq]; omega] at v1
      rw [show insideF (b.svs.getD i sv0).d 0 b.days = true by simp only [insideF, Bool.and_eq_true, decide_eq_true_eq]; omega] at v2
      rw [show insideF (b.svs.getD i sv0).e 0 5 = true by simp only [insideF, Bool.and_eq_true, decide_eq_true_eq]; omega] at v3
      exact WpL.path (G 99) (sound_2_on b i) ⟨decide_eq_true (by omega), by omega, by omega, by omega, by simp only [inI64]; omega, v1, by omega, v2, by omega, v3, by simp only [inI64]; omega, trivial⟩ ⟨rfl, rfl⟩
    have hr := sound_all b
    rw [d8] at hr
    refine contract_of_path (G 99) sound_fn hr ?_
    repeat (first | exact trivial | refine ⟨by first | exact hch | exact i1 | exact i2 | exact i3 | exact d4 | exact l0 | exact l2 | rfl, ?_⟩)

/-! ### How thick sections are, day by day -/
theorem hull_mono {s t s' t' : Span} (h1 : s'.lo ≤ s.lo ∧ s'.hi ≤ s.hi) (h2 : t'.lo ≤ t.lo ∧ t'.hi ≤ t.hi) : (hullF s' t').lo ≤ (hullF s t).lo ∧ (hullF s' t').hi ≤ (hullF s t).hi := by
  simp only [hullF, mn, mx]
  constructor <;> (repeat' split) <;> omega
theorem told_mono {g g' : TrC → Span} : ∀ (ts : List TrC) (s s' : Span), (s'.lo ≤ s.lo ∧ s'.hi ≤ s.hi) → (∀ t ∈ ts, (g' t).lo ≤ (g t).lo ∧ (g' t).hi ≤ (g t).hi) → (ts.foldl (fun o t => hullF o (g' t)) s').lo ≤ (ts.foldl (fun o t => hullF o (g t)) s).lo ∧ (ts.foldl (fun o t => hullF o (g' t)) s').hi ≤ (ts.foldl (fun o t => hullF o (g t)) s).hi
  | [], s, s', h, _ => h
  | t :: ts, s, s', h, hg => told_mono ts _ _ (hull_mono h (hg t (by simp))) fun u hu => hg u (by simp [hu])
theorem toldF_mono {g g' : TrC → Span} {ts : List TrC} (hne : ts ≠ []) (hg : ∀ t ∈ ts, (g' t).lo ≤ (g t).lo ∧ (g' t).hi ≤ (g t).hi) : (toldF g' ts).lo ≤ (toldF g ts).lo ∧ (toldF g' ts).hi ≤ (toldF g ts).hi :=
  told_mono ts _ _ (hg _ (getD_mem ts 0 trc0 (List.length_pos_iff.2 hne))) hg
theorem thick_down {b : Book} {ts : List TrC} (hts : ∀ x ∈ ts, TrOk x) (hne : ts ≠ []) (turns : List Int) (s : Int) (d : Nat) : (thickF b ts turns s ((d + 1 : Nat) : Int)).lo ≤ (thickF b ts turns s d).lo ∧ (thickF b ts turns s ((d + 1 : Nat) : Int)).hi ≤ (thickF b ts turns s d).hi := by
  refine toldF_mono hne fun t ht => ?_
  have h := hts t ht
  have hw := wF_in (p := placeF b.secs.length turns d s) h.w0 h.w1 h.w2 h.w3
  have e1 : wornT b turns s ((d + 1 : Nat) : Int) t = wornF b.secs.length t.w0 t.w1 t.w2 t.w3 turns s (d + 1) := by unfold wornT; rw [Int.toNat_natCast]
  have e2 : wornT b turns s d t = wornF b.secs.length t.w0 t.w1 t.w2 t.w3 turns s d := by unfold wornT; rw [Int.toNat_natCast]
  simp only [thick1F, e1, e2, wornF]
  omega
theorem thick_downs {b : Book} {ts : List TrC} (hts : ∀ x ∈ ts, TrOk x) (hne : ts ≠ []) (turns : List Int) (s : Int) (d : Nat) : ∀ k : Nat, (thickF b ts turns s ((d + k : Nat) : Int)).lo ≤ (thickF b ts turns s d).lo ∧ (thickF b ts turns s ((d + k : Nat) : Int)).hi ≤ (thickF b ts turns s d).hi
  | 0 => ⟨Int.le_refl _, Int.le_refl _⟩
  | k + 1 => by
    have h1 := thick_down hts hne turns s (d + k) (b := b)
    have h2 := thick_downs hts hne turns s d k (b := b)
    rw [show d + (k + 1) = d + k + 1 by omega]
    omega
/-- The first day at which what stays so is so. -/
theorem findF_iff {p : Nat → Bool} (hp : ∀ d, p d = true → p (d + 1) = true) {n d : Nat} (hd : d < n) : p d = true ↔ findF p n 0 ≤ d := by
  obtain ⟨h1, h2, h3, h4⟩ := findF_spec p n 0
  constructor
  · intro h
    by_cases hlt : findF p n 0 ≤ d
    · exact hlt
    · rw [h3 d (by omega) (by omega)] at h
      cases h
  · intro h
    have hf := h4 (by omega)
    have : ∀ k, p (findF p n 0 + k) = true := fun k => by
      induction k with
      | zero => exact hf
      | succ k ih => exact hp _ ih
    have := this (d - findF p n 0)
    rwa [show findF p n 0 + (d - findF p n 0) = d by omega] at this
theorem may_stays {b : Book} {ts : List TrC} (hts : ∀ x ∈ ts, TrOk x) (hne : ts ≠ []) (turns : List Int) (s : Int) (d : Nat) (h : mayF b ts turns s d = true) : mayF b ts turns s (d + 1) = true := by
  have := thick_down hts hne turns s d (b := b)
  simp only [mayF, decide_eq_true_eq] at h ⊢
  omega
theorem surely_stays {b : Book} {ts : List TrC} (hts : ∀ x ∈ ts, TrOk x) (hne : ts ≠ []) (turns : List Int) (s : Int) (d : Nat) (h : surelyF b ts turns s d = true) : surelyF b ts turns s (d + 1) = true := by
  have := thick_down hts hne turns s d (b := b)
  simp only [surelyF, decide_eq_true_eq] at h ⊢
  omega

/-! ### Those that must be cut -/
theorem cutGo_mem (b : Book) (ts : List TrC) (d : Int) : ∀ (n : Nat) (x : Int), x ∈ cutGo b ts d n ↔ 0 ≤ x ∧ x < n ∧ (thickF b ts b.turns x d).lo < b.rule
  | 0, x => by
    simp only [cutGo, List.not_mem_nil, false_iff]
    omega
  | n + 1, x => by
    have ih := cutGo_mem b ts d n x
    simp only [cutGo]
    by_cases h : (thickF b ts b.turns n d).lo < b.rule
    · rw [if_pos h, List.mem_append, ih, List.mem_singleton]
      constructor
      · rintro (⟨h1, h2, h3⟩ | rfl)
        · exact ⟨h1, by omega, h3⟩
        · exact ⟨by omega, by omega, h⟩
      · rintro ⟨h1, h2, h3⟩
        by_cases e : x = n
        · exact .inr e
        · exact .inl ⟨h1, by omega, h3⟩
    · rw [if_neg h, ih]
      constructor
      · rintro ⟨h1, h2, h3⟩
        exact ⟨h1, by omega, h3⟩
      · rintro ⟨h1, h2, h3⟩
        refine ⟨h1, ?_, h3⟩
        by_cases e : x = n
        · subst e; exact absurd h3 h
        · omega
/-- Numbers that climb, from 0 to below n. -/
structure Ups (xs : List Int) (n : Int) : Prop where
  inn : ∀ k < xs.length, 0 ≤ xs.getD k 0 ∧ xs.getD k 0 < n
  up : ∀ k, 0 < k → k < xs.length → xs.getD (k - 1) 0 < xs.getD k 0
theorem Ups.snoc {xs : List Int} {n : Int} (h : Ups xs n) (hn : 0 ≤ n) : Ups (xs ++ [n]) (n + 1) := by
  have g1 : ∀ k, k < xs.length → (xs ++ [n]).getD k 0 = xs.getD k 0 := fun k hk => by
    rw [List.getD_eq_getElem?_getD, List.getD_eq_getElem?_getD, List.getElem?_append_left hk]
  have g2 : (xs ++ [n]).getD xs.length 0 = n := by
    rw [List.getD_eq_getElem?_getD, List.getElem?_append_right (Nat.le_refl _)]
    simp
  refine ⟨fun k hk => ?_, fun k h0 hk => ?_⟩
  · rw [List.length_append, List.length_singleton] at hk
    by_cases e : k = xs.length
    · subst e
      rw [g2]
      omega
    · have := h.inn k (by omega)
      rw [g1 k (by omega)]
      omega
  · rw [List.length_append, List.length_singleton] at hk
    by_cases e : k = xs.length
    · subst e
      rw [g2, g1 _ (by omega)]
      exact (h.inn _ (by omega)).2
    · rw [g1 k (by omega), g1 (k - 1) (by omega)]
      exact h.up k h0 (by omega)
theorem Ups.mono {xs : List Int} {n m : Int} (h : Ups xs n) (hnm : n ≤ m) : Ups xs m := ⟨fun k hk => by have := h.inn k hk; omega, h.up⟩
theorem cutGo_ups (b : Book) (ts : List TrC) (d : Int) : ∀ n : Nat, Ups (cutGo b ts d n) n
  | 0 => ⟨fun k hk => by simp [cutGo] at hk, fun k _ hk => by simp [cutGo] at hk⟩
  | n + 1 => by
    have ih := cutGo_ups b ts d n
    simp only [cutGo]
    split
    · have := ih.snoc (by omega)
      rwa [show ((n : Int) + 1) = ((n + 1 : Nat) : Int) by omega] at this
    · exact ih.mono (by omega)
theorem Ups.climbs {xs : List Int} {m : Int} (h : Ups xs m) : climbsF xs m = true := by
  unfold climbsF
  rw [List.all_eq_true]
  intro k hk
  have hk : k < xs.length := by simpa using hk
  have h1 := h.inn k hk
  unfold climbAt
  rw [show insideF (xs.getD k 0) 0 (m - 1) = true by simp only [insideF, Bool.and_eq_true, decide_eq_true_eq]; omega, Bool.true_and]
  by_cases h0 : k > 0
  · have := h.up k h0 hk
    rw [show decide (xs.getD k 0 ≤ xs.getD (k - 1) 0) = false from decide_eq_false (by omega)]
    simp
  · rw [show decide (k > 0) = false from decide_eq_false h0]
    simp
end Go.Di

